/- BitsCuts: the pieces one behind the other are the row; their places; a padded row. No condition. -/
import Derived.Test.YtabjfehhibeeiaaFogx0
import Derived.Test.YtabjfehhibeeiaaHandWorks
import Derived.Test.YtabjfehhibeeiaaKit
import Derived.Test.YtabjfehhibeeiaaHandIter
import Derived.Test.YtabjfehhibeeiaaHandWorks
import Derived.Test.YtabjfehhibeeiaaRefTurn
import Derived.Laws.EntriesVeiled
import Derived.Lib.QuietBelow
namespace Go.Proofs.Ytabjfehhibeeiaa.Pure
open Go.RowKit Go.Shelf Go.Proofs.Ytabjfehhibeeiaa.Fog Go.Proofs.YtabjfehhibeeiaaW.PrintWords Go.Proofs.YtabjfehhibeeiaaW.PrintLast Go.Proofs.YtabjfehhibeeiaaW.PrintMore Go.Proofs.Ytabjfehhibeeiaa.Kit Go.Proofs.Ytabjfehhibeeiaa.Seq
set_option linter.unusedVariables false
set_option linter.unusedSimpArgs false
attribute [local go_sem] Oper.semAt_some
theorem low10 (a : Int) : ∃ m : Nat, m < 1024 ∧ Go.bits .and .i64 a 1023 = (m : Int) := by
  refine ⟨(BitVec.ofInt 64 a &&& BitVec.ofInt 64 1023).toNat, ?_, ?_⟩
  · rw [BitVec.toNat_and, show (BitVec.ofInt 64 1023).toNat = 1023 by decide]
    exact Nat.lt_of_le_of_lt Nat.and_le_right (by decide)
  · show IntKind.i64.wrap (((BitVec.ofInt 64 a &&& BitVec.ofInt 64 1023).toNat : Nat) : Int) = _
    have h : (BitVec.ofInt 64 a &&& BitVec.ofInt 64 1023).toNat ≤ 1023 := by
      rw [BitVec.toNat_and, show (BitVec.ofInt 64 1023).toNat = 1023 by decide]
      exact Nat.and_le_right
    rw [IntKind.wrap_i64]
    omega
theorem C_head {W : World} {A : Option Addr} {l : List Bool} {m : Nat} (h : Kd.C Kd.bool W A l.length l) (hm : m ≤ l.length) : Kd.C Kd.bool W A m (l.take m) := by
  have h1 := Kd.C_take (m := m) h hm
  rw [show (l.take m).length = m by rw [List.length_take]; omega] at h1
  exact h1
theorem pieces_not_nil (p q : Value) (W : World) : (binOp .eql 30 (.func (.func 49) #[] #[p, q]) .nilFunc).run Try.prog W = .ok (.bool false) W := by
  kernel_rfl
theorem pieces_n (A0 : Option Addr) (c0 N : Nat) (l0 : List Bool) (n : Int) (w : World) (hN : l0.length = N) (hr0 : Kd.C Kd.bool w A0 N l0) (hc0 : N ≤ c0) (hl : N < 140737488355328) :
    Calls Try.prog 19 #[.slice A0 N c0, .int .i64 n] w fun e w' => ∃ (B : Nat) (A : Option Addr) (c : Nat), e = .returned (.func (.func 49) #[] #[.pointer (some ⟨w.heap.size, 0, none⟩), .pointer (some ⟨B, 0, none⟩)]) ∧ Boxed w' w.heap.size 3 (.int .i64 n) ∧ Boxed w' B 26 (.slice A N c) ∧ w.heap.size < B ∧ Kd.R Kd.bool 4 w' w.heap.size (fun _ => True) (.slice A N c) l0 ∧ Below w.heap.size w w' := by
  subst hN
  exact pieces_calls A0 c0 l0 n w hr0 hc0 hl
theorem pad_n (A : Option Addr) (c N : Nat) (a : List Bool) (m : Int) (w : World) (hN : a.length = N) (h1 : Kd.C Kd.bool w A N a) (hc : N ≤ c) : Calls Try.prog 27 #[.slice A N c, .int .i64 m] w fun e w' => ∃ v0_ : Value, e = .returned (.tuple #[v0_, .int .i64 (padV a m).2]) ∧ Kd.R Kd.bool 4 w' w.heap.size (fun _ => True) v0_ (padV a m).1 ∧ Below w.heap.size w w' := by
  subst hN
  exact pad_in A c a m w h1 hc
theorem same_n (A : Option Addr) (c : Nat) (B : Option Addr) (d N : Nat) (l : List Bool) (w : World) (hN : l.length = N) (h1 : Kd.C Kd.bool w A N l) (hc : N ≤ c) (h2 : Kd.C Kd.bool w B N l) (hd : N ≤ d) (hl : N ≤ 9223372036854775806) :
    Calls Try.prog 21 #[.slice A N c, .slice B N d] w fun e w' => e = .returned (.bool true) ∧ Below w.heap.size w w' := by
  subst hN
  exact same_in A c B d l w h1 hc h2 hd hl
theorem weight_n (A : Option Addr) (c N : Nat) (a : List Bool) (w : World) (hN : a.length = N) (h1 : Kd.C Kd.bool w A N a) (hc : N ≤ c) (hl : N ≤ 9223372036854775806) : Calls Try.prog 29 #[.slice A N c] w fun e w' => e = .returned (.int .i64 (wgt a : Int)) ∧ Below w.heap.size w w' := by
  subst hN
  exact weight_in A c a w h1 hc hl
theorem R_num {α : Type} {d : Kd α} {e base n c : Nat} {ok : Nat → Prop} {w : World} {A : Option Addr} {xs : List α} (h : d.R e w base ok (.slice A n c) xs) : d.C w A n xs := by
  obtain ⟨h1, _, h2⟩ := Kd.R_reads' h
  rw [← h1] at h2
  exact h2
theorem own_addr {α : Type} {d : Kd α} {e base n c B : Nat} {ok : Nat → Prop} {w : World} {A : Option Addr} {xs : List α} (h : d.R e w base ok (.slice A n c) xs) (hB : w.heap.size ≤ B) : ∀ ad, A = some ad → ad.block < B := by
  rintro ad rfl
  have := Kd.R_lt h ad.block rfl
  omega
def manyC (N n : Nat) : Nat := (N + n - 1) / n
theorem manyC_lt (N n : Nat) (hn : 1 ≤ n) (k : Nat) : k < manyC N n ↔ k * n < N := by
  unfold manyC
  rw [Nat.lt_iff_add_one_le, Nat.le_div_iff_mul_le (by omega), Nat.add_mul, Nat.one_mul]
  omega
/-- What stays from the loop's beginning on. -/
structure CS (w : World) (L : List Bool) (N n : Nat) (A : Option Addr) (c b5 Bn Bo : Nat) (Ao : Option Addr) (co n9 : Nat) (X : World) : Prop where
  bl : Boxed X w.heap.size 26 (.slice A N c)
  bn : Boxed X (w.heap.size + 1) 3 (.int .i64 (n : Int))
  br : Boxed X (w.heap.size + 2) 4 (.bool false)
  row : Kd.R Kd.bool 4 X (w.heap.size + 3) (fun _ => True) (.slice A N c) L
  kn : Boxed X Bn 3 (.int .i64 (n : Int))
  ko : Boxed X Bo 26 (.slice Ao N co)
  rowo : Kd.R Kd.bool 4 X (w.heap.size + 3) (fun _ => True) (.slice Ao N co) L
  bel : Below w.heap.size w X
  size : n9 ≤ X.heap.size
  lo : w.heap.size + 2 < b5 ∧ b5 < Bn ∧ b5 < Bo ∧ Bn < n9 ∧ Bo < n9
  own : ∀ k, (Value.slice A N c).ownBlock = some k → k < n9 ∧ k ≠ b5
  owno : ∀ k, (Value.slice Ao N co).ownBlock = some k → k < n9 ∧ k ≠ b5
variable {w X Y : World} {L : List Bool} {N n : Nat} {A Ao : Option Addr} {c co b5 Bn Bo n9 B : Nat}
theorem bx_below {b t : Nat} {v : Value} (h : Boxed X b t v) (hb : Below X.heap.size X Y) : Boxed Y b t v := (hb.block _ h.lt).trans h
theorem bx_low {b t B : Nat} {v : Value} (h : Boxed X b t v) (hb : Below B X Y) (hB : b < B) : Boxed Y b t v := (hb.block _ hB).trans h
theorem tmod_nat (a b : Nat) : ((a : Int).tmod (b : Int)) = ((a % b : Nat) : Int) := by rw [Int.tmod_eq_emod_of_nonneg (by omega)]; rfl
theorem CS.low (h : CS w L N n A c b5 Bn Bo Ao co n9 X) (hb : Below n9 X Y) : CS w L N n A c b5 Bn Bo Ao co n9 Y := by
  have hlo := h.lo
  exact ⟨(hb.block _ (by omega)).trans h.bl, (hb.block _ (by omega)).trans h.bn, (hb.block _ (by omega)).trans h.br, R_low h.row (fun k hk => (h.own k hk).1) hb, (hb.block _ (by omega)).trans h.kn, (hb.block _ (by omega)).trans h.ko, R_low h.rowo (fun k hk => (h.owno k hk).1) hb, h.bel.trans (hb.mono (by omega)), Nat.le_trans h.size hb.size, hlo, h.own, h.owno⟩
theorem CS.lasts (hB : n9 ≤ B) (hw : w.heap.size ≤ B) : Lasts B (CS w L N n A c b5 Bn Bo Ao co n9) :=
  ⟨fun X Y h hb => h.low (hb.mono h.size), fun X l o o' hl ho hc h => h.low ⟨rfl, rfl, rfl, by simp, fun k hk => World.putObj_heap_other (by omega)⟩⟩
theorem CS.set5 (h : CS w L N n A c b5 Bn Bo Ao co n9 X) (u : Value) : CS w L N n A c b5 Bn Bo Ao co n9 (X.setCell ⟨b5, 0, none⟩ u) := by
  have hlo := h.lo
  exact ⟨h.bl.other (by omega) _, h.bn.other (by omega) _, h.br.other (by omega) _, R_setoff h.row (fun k hk => (h.own k hk).2), h.kn.other (by omega) _, h.ko.other (by omega) _, R_setoff h.rowo (fun k hk => (h.owno k hk).2), h.bel.setCell (p := ⟨b5, 0, none⟩) (by show w.heap.size ≤ b5; omega) _, Nat.le_trans h.size (by simp), hlo, h.own, h.owno⟩
theorem pad_cut (L : List Bool) (n : Nat) (hn : 1 ≤ n) (hn2 : n ≤ 1024) (hl : L.length ≤ 30000) : ∃ r : Nat, padV L (n : Int) = (L ++ List.replicate r false, 0) ∧ r < n ∧ (L.length + r) % n = 0 := by
  have h1 := upTo_le L.length n hn
  have h2 := upTo_mod L.length n
  refine ⟨upTo L.length n - L.length, ?_, ?_, ?_⟩
  · unfold padV
    rw [if_pos (by omega), Int.toNat_natCast, if_pos (by omega)]
  · omega
  · rw [show L.length + (upTo L.length n - L.length) = upTo L.length n by omega]
    exact h2
theorem wgt_pad (L : List Bool) (r : Nat) : wgt (L ++ List.replicate r false) = wgt L := by simp [wgt, List.count_append, List.count_replicate]
set_option maxRecDepth 100000 in
set_option maxHeartbeats 8000000 in
theorem cuts_w (A0 : Option Addr) (c0 : Nat) (l0 : List Bool) (a1 : Int) (w : World) (hr0 : Kd.C Kd.bool w A0 l0.length l0) (hc0 : l0.length ≤ c0)  :
    Calls Try.prog 9 #[.slice A0 l0.length c0, .int .i64 a1] w fun e w' => e = .returned (.bool true) ∧ Below w.heap.size w w' := by
  obtain ⟨m, hm⟩ : ∃ m, min l0.length 30000 = m := ⟨_, rfl⟩
  obtain ⟨L, hL⟩ : ∃ L, l0.take m = L := ⟨_, rfl⟩
  have hLC : Kd.C Kd.bool w A0 m L := hL ▸ C_head hr0 (by omega)
  have hLM : L.length = m := by rw [← hL, List.length_take]; omega
  have hLN : m ≤ 30000 := by omega
  have HLM := Aside0.mk hLM
  clear hL hLM
  obtain ⟨n1, hn1, hn⟩ := low10 a1
  obtain ⟨n, hnn1⟩ : ∃ n, 1 + n1 = n := ⟨_, rfl⟩
  have hcast : (1 : Int) + (n1 : Int) = (n : Int) := by omega
  have hpn := pieces_not_nil
  have HR0 := Aside0.mk hr0
  have HLC := Aside0.mk hLC
  have HLN := Aside0.mk hLN
  have HN := Aside0.mk hn
  have hmin : min (l0.length : Int) 30000 = (m : Int) := by omega
  clear hr0 hLC hLN hn
  refine (callsIn_wide (n := 5)).1 ?_
  refine callsIn_of_wp_marks Try.func9 rfl trivial ?_ rfl
  refine wpIn_wide.2 ?_
  simp only [Try.ntmps9, List.size_toArray, List.length_cons, List.length_nil, Nat.reduceAdd, Nat.reduceSub, Array.replicate_succ, Array.replicate_zero, List.push_toArray, List.append_toArray, List.nil_append, List.cons_append]
  have HB0 := Aside0.mk (below_alloc (below_alloc (below_alloc (Below.refl w.heap.size w) (.cells #[.slice A0 l0.length c0] 26)) (.cells #[.int .i64 a1] 3)) (.cells #[.bool false] 4))
  have h1 := ((Boxed.new w 26 (.slice A0 l0.length c0)).alloc (.cells #[.int .i64 a1] 3)).alloc (.cells #[.bool false] 4)
  have h2 := (Boxed.new (w.alloc (.cells #[.slice A0 l0.length c0] 26)) 3 (.int .i64 a1)).alloc (.cells #[.bool false] 4)
  have h3 := Boxed.new ((w.alloc (.cells #[.slice A0 l0.length c0] 26)).alloc (.cells #[.int .i64 a1] 3)) 4 (.bool false)
  simp only [World.size_alloc] at h1 h2 h3
  have H1 := Aside0.mk h1
  have H2 := Aside0.mk h2
  have H3 := Aside0.mk (show Boxed _ (w.heap.size + 2) 4 (.bool false) from h3)
  clear h1 h2 h3
  go_wp2_with (first
    | (go_at_call 45; (with_reducible refine (foghornlaw01_works.calls true _ rfl).mono ?_); rintro e w1 ⟨rfl, hb⟩; have HB1 := Aside0.mk (below_step HB0.out hb); have H11 := Aside0.mk (bx_below H1.out hb); have H12 := Aside0.mk (bx_below H2.out hb); have H13 := Aside0.mk (bx_below H3.out hb); have HS1 := Aside0.mk hb.size; clear hb)
    | ((with_reducible refine gate_dst (N := 13) rfl ?_); refine Kd.R_lit Kd.bool _ 4 ?hg (N := 13) ?hd (xs := ([] : List Bool)) (inner := []) (ok := fun _ => True) (okp := fun _ => True) ?hr ?hp (fun _ hk => hk) trivial (Below.refl _ _) (Nat.le_refl _) (by simp) ?_; (case hd => rfl); (case hg => rfl); (case hr => first | (go_simp; done) | (go_simp; rfl)); (case hp => exact (Reps.none _ _)); intro vl2 wl2 ho hb hg_ hnew_; clear hg_ hnew_; have HLo2 := Aside0.mk ho; have HLb2 := Aside0.mk hb; have cl2 := (bx_below H11.out hb).cell; clear ho hb)
    | ((with_reducible refine gate_builtin (b := .append) (xs := #[.tmp 13, .tmp 18]) rfl ?_); at_builtin; refine Kd.R_append_rows Kd.bool (w0 := w1) w1.heap.size rfl (.tmp 13) (.tmp 18) 26 4 (.bool false) 1 rfl Try.underlying26 info4 rfl (by decide) (by omega) vl2 [] L _ _ _ (fun _ => True) (fun _ => False) rfl rfl ?aO ?aR (fun _ _ h => h) (fun _ h => h.elim) ?aF ?aB ?aS ?aL ?_; (case aR => exact Kd.C_below HLC.out (below_step HB1.out HLb2.out)); (case aB => exact HLb2.out); (case aF => exact (fun _ _ => trivial)); (case aO => exact HLo2.out); (case aS => exact HLb2.out.size); (case aL => have := HLN.out; simp; omega); intro vn2 w2 ho hb hg hat; clear hg hat cl2; have hR : Kd.R Kd.bool 4 w2 w1.heap.size (fun _ => True) vn2 L := ho; clear ho; obtain ⟨A, c, rfl⟩ := Kd.R_slice hR; have H21 := Aside0.mk (bx_below H11.out hb); have H22 := Aside0.mk (bx_below H12.out hb); have H23 := Aside0.mk (bx_below H13.out hb); rw [HLM.out] at hR; have HR2 := Aside0.mk hR; have HB2 := Aside0.mk (below_step HB1.out hb); have HZ2 := Aside0.mk hb.size; clear hb hR; have cb1 := H21.out.cell; have fb1 := H21.out.frozen)
    | ((with_reducible refine gate_store (t := 26) (p := 2) rfl ?_); rw [HLM.out]; refine store_event (t := 26) (p := 2) (v := .tmp 19) (w1 := w2.setCell ⟨w.heap.size, 0, none⟩ (.slice A m c)) ?hg ?ho ?hn ?hr ?_; (case ho => rfl); (case hg => rfl); (case hn => rfl); (case hr => first | (go_simp; done) | (go_simp; rfl)); intro wS hw; have H31 := Aside0.mk (show Boxed wS _ _ _ from hw ▸ H21.out.set (.slice A m c)); have H32 := Aside0.mk (show Boxed wS _ _ _ from hw ▸ H22.out.other (show w.heap.size + 1 ≠ w.heap.size by omega) (.slice A m c)); have H33 := Aside0.mk (show Boxed wS _ _ _ from hw ▸ H23.out.other (show w.heap.size + 2 ≠ w.heap.size by omega) (.slice A m c)); have HR3 := Aside0.mk (show Kd.R Kd.bool 4 wS w1.heap.size (fun _ => True) (.slice A m c) L from hw ▸ R_setbox HR2.out (show w.heap.size < w1.heap.size by have := HS1.out; simp at this; omega)); have HB3 := Aside0.mk (show Below w.heap.size w wS from hw ▸ HB2.out.setCell (p := ⟨w.heap.size, 0, none⟩) (Nat.le_refl _) _); have HZ3 := Aside0.mk (show w1.heap.size ≤ wS.heap.size from hw ▸ Nat.le_trans HZ2.out (by simp)); clear hw cb1 fb1; have cb2 := H32.out.cell; have fb2 := H32.out.frozen; have hbits := HN.out)
    | ((with_reducible refine gate_store (t := 3) (p := 3) rfl ?_); refine store_event (t := 3) (p := 3) (v := .tmp 22) (w1 := wS.setCell ⟨w.heap.size + 1, 0, none⟩ (.int .i64 (n : Int))) ?hg ?ho ?hn ?hr ?_; (case ho => rfl); (case hg => rfl); (case hn => rfl); (case hr => first | (go_simp; done) | (go_simp; rfl)); intro wN hw; have H41 := Aside0.mk (show Boxed wN _ _ _ from hw ▸ H31.out.other (show w.heap.size ≠ w.heap.size + 1 by omega) (.int .i64 (n : Int))); have H42 := Aside0.mk (show Boxed wN _ _ _ from hw ▸ H32.out.set (.int .i64 (n : Int))); have H43 := Aside0.mk (show Boxed wN _ _ _ from hw ▸ H33.out.other (show w.heap.size + 2 ≠ w.heap.size + 1 by omega) (.int .i64 (n : Int))); have HR4 := Aside0.mk (show Kd.R Kd.bool 4 wN w1.heap.size (fun _ => True) (.slice A m c) L from hw ▸ R_setbox HR3.out (show w.heap.size + 1 < w1.heap.size by have := HS1.out; simp at this; omega)); have HB4 := Aside0.mk (show Below w.heap.size w wN from hw ▸ HB3.out.setCell (p := ⟨w.heap.size + 1, 0, none⟩) (show w.heap.size ≤ w.heap.size + 1 by omega) _); have HZ4 := Aside0.mk (show w1.heap.size ≤ wN.heap.size from hw ▸ Nat.le_trans HZ3.out (by simp)); clear hw cb2 fb2 hbits hcast; have ce1 := (H41.out.alloc (.cells #[.slice none 0 0] 26)).cell; have ce2 := (H42.out.alloc (.cells #[.slice none 0 0] 26)).cell)
    | (go_at_call 19; (with_reducible refine (pieces_n A c m L (n : Int) (wN.alloc (.cells #[.slice none 0 0] 26)) HLM.out (R_num (Kd.R_alloc HR4.out _)) (Kd.R_reads' HR4.out).2.1 (by have := HLN.out; omega)).mono ?_); rintro e Wb ⟨Bo, Ao, co, rfl, hk1, hk2, hlt, hRo, hb⟩; simp only [World.size_alloc] at hk1 hlt hRo; have HK1 := Aside0.mk hk1; have HK2 := Aside0.mk hk2; have HLT := Aside0.mk hlt; have HRO := Aside0.mk hRo; have HBb := Aside0.mk hb; clear hk1 hk2 hlt hRo hb ce1 ce2))
  obtain ⟨b5, hb5⟩ : ∃ b, wN.heap.size = b := ⟨_, rfl⟩
  obtain ⟨n9, hn9⟩ : ∃ b, Wb.heap.size = b := ⟨_, rfl⟩
  rw [hb5] at HK1 HLT HRO ⊢
  have HCS : Aside0 (CS w L m n A c b5 (b5 + 1) Bo Ao co n9 Wb) := ⟨by
    have hb := HBb.out
    have hz := HZ4.out
    have hs1 := HS1.out
    simp only [World.size_alloc] at hs1
    have hlt := HLT.out
    have hsz := hb.size
    rw [World.size_alloc, hb5] at hsz
    have hrow := Kd.R_alloc HR4.out (.cells #[.slice none 0 0] 26)
    have hro := HRO.out
    refine ⟨bx_below (H41.out.alloc _) hb, bx_below (H42.out.alloc _) hb, bx_below (H43.out.alloc _) hb, Kd.R_below (Kd.R_lower hrow (by omega)) hb, HK1.out, HK2.out, Kd.R_lower hro (by omega), below_step (below_alloc HB4.out _) hb, by omega, ⟨by omega, by omega, by omega, by have := HK1.out.lt; omega, by have := HK2.out.lt; omega⟩, fun k hk => ?_, fun k hk => ?_⟩
    · have := Kd.R_lt HR4.out k hk
      omega
    · have h1 := Kd.R_lt hro k hk
      have h2 := Kd.R_base hro k hk
      omega⟩
  have HA5 : Aside0 (Boxed Wb b5 26 (.slice none 0 0)) := ⟨by
    have h5 := Boxed.new wN 26 (.slice none 0 0)
    rw [hb5] at h5
    exact bx_below h5 HBb.out⟩
  have hmn : m ≤ 30000 := HLN.out
  clear HB0 H1 H2 H3 HB1 H11 H12 H13 HS1 HLo2 HLb2 H21 H22 H23 HR2 HB2 HZ2 H31 H32 H33 HR3 HB3 HZ3 H41 H42 H43 HR4 HB4 HZ4 HK1 HK2 HLT HRO HBb hb5 HLC HR0 hmin hm
  refine (wpIn_wide (n := 5)).1 ?_
  have hC9 := HCS.out
  have hnn : 1 ≤ n := by omega
  obtain ⟨M, hM⟩ : ∃ M, manyC m n = M := ⟨_, rfl⟩
  have hML : ∀ k, k < M ↔ k * n < m := fun k => hM ▸ manyC_lt m n hnn k
  have hseq := pieces_seq 4 (by decide) (b5 + 1) Bo Ao co n M L hnn (fun k => by rw [HLM.out]; exact hML k) (by rw [HLM.out]; omega) (by omega) Wb hC9.kn.cell (by rw [HLM.out]; exact hC9.ko.cell) (by rw [HLM.out]; exact R_num hC9.rowo) (by rw [HLM.out]; exact (Kd.R_reads' hC9.rowo).2.1) (own_addr hC9.rowo (Nat.le_refl _))
  rw [HLM.out, hn9] at hseq
  clear hM hC9
  have hlo9 := HCS.out.lo
  refine wpIn_rangeV_out (by decide) (gf := 49) (lb := #[.pointer (some ⟨b5 + 1, 0, none⟩), .pointer (some ⟨Bo, 0, none⟩)]) rfl trivial (enters_of Try.func49 (by kernel_rfl) rfl) hseq (fun h h' => h.trans h') (fun W l o o' hl ho hc => ⟨by simp, World.putObj_heap_other (by omega), World.putObj_heap_other (by omega), fun ad e => World.putObj_heap_other (by have := (HCS.out.owno ad.block (by rw [e]; rfl)).1; omega)⟩) (Below.refl _ _) (fun _ => rfl)
    (fun k W => ∃ vA : Value, Boxed W b5 26 vA ∧ (Kd.R Kd.bool 4 W n9 (fun _ => True) vA (L.take (k * n)) ∧ CS w L m n A c b5 (b5 + 1) Bo Ao co n9 W)) (fun _ _ => False) (fun k => Lasts.ex fun vA => Lasts.and (Lasts.boxed _ _ _ _) (Lasts.and (Lasts.row) (CS.lasts (by omega) (by omega)))) (fun c => Lasts.const _ False) ⟨_, HA5.out, by rw [Nat.zero_mul]; exact Kd.R_nil _ _ _ _ _, HCS.out⟩ ?round rfl ?done ?stop
  case stop =>
    intro D c W _ h _
    exact h.elim
  case done =>
    rintro D W hD ⟨vA, hbA, hRA, hcs⟩ hK
    have hMm : m ≤ M * n := by
      rcases Nat.lt_or_ge (M * n) m with h | h
      · exact absurd ((hML M).2 h) (Nat.lt_irrefl _)
      · exact h
    rw [List.take_of_length_le (by rw [HLM.out]; exact hMm)] at hRA
    obtain ⟨A5, c5, rfl⟩ := Kd.R_slice hRA
    rw [HLM.out] at hRA hbA
    have HBA := Aside0.mk hbA
    have HRA := Aside0.mk hRA
    have HCS1 := Aside0.mk hcs
    have HKD := Aside0.mk hK
    obtain ⟨r, hpv, hr1, hr2⟩ := pad_cut L n (by omega) (by omega) (by rw [HLM.out]; omega)
    have HPV := Aside0.mk hpv
    obtain ⟨PD, hPD⟩ : ∃ PD, L ++ List.replicate r false = PD := ⟨_, rfl⟩
    obtain ⟨z, hz⟩ : ∃ z, m + r = z := ⟨_, rfl⟩
    have HPD := Aside0.mk hPD
    have HPZ : Aside0 (PD.length = z) := ⟨by rw [← hPD, List.length_append, List.length_replicate, HLM.out]; exact hz⟩
    have hz2 : z % n = 0 := by rw [← hz, ← HLM.out]; exact hr2
    have HWG : Aside0 (wgt PD = wgt L) := ⟨by rw [← hPD]; exact wgt_pad L r⟩
    clear hPD hr2
    have cbl := hcs.bl.cell
    have cbn := hcs.bn.cell
    clear hbA hRA hcs hK hpv
    go_wp2_with (go_at_call 27; (with_reducible refine (pad_n A c m L (n : Int) W HLM.out (R_num HCS1.out.row) (Kd.R_reads' HCS1.out.row).2.1).mono ?_); rintro e w1 ⟨vP, rfl, hR, hb⟩; rw [HPV.out] at hR ⊢; dsimp only at hR ⊢; rw [HPD.out] at hR; obtain ⟨AP, cP, rfl⟩ := Kd.R_slice hR; rw [HPZ.out] at hR ⊢; have HRP := Aside0.mk hR; have HB1 := Aside0.mk hb; clear hR hb cbl cbn)
    have hsW := HCS1.out.size
    have HCS2 := Aside0.mk (HCS1.out.low (HB1.out.mono hsW))
    have HBA2 := Aside0.mk (bx_below HBA.out HB1.out)
    have HRA2 := Aside0.mk (Kd.R_below HRA.out HB1.out)
    have k5 := cell_regrown HBA2.out.cell
    have kl := cell_regrown HCS2.out.bl.cell
    have kn := cell_regrown HCS2.out.bn.cell
    have hPm : PD.take m = L := by rw [← HPD.out, List.take_append_of_le_length (by rw [HLM.out]; exact Nat.le_refl _), List.take_of_length_le (by rw [HLM.out]; exact Nat.le_refl _)]
    have HCP : Aside0 (Kd.C Kd.bool w1 AP m L) := ⟨by
      have h := R_num HRP.out
      rw [← HPZ.out] at h
      have h2 := C_head (m := m) h (by rw [HPZ.out]; omega)
      rw [hPm] at h2
      exact h2⟩
    have hcP : z ≤ cP := by have := (Kd.R_reads' HRP.out).2.1; omega
    have cS1 : ∀ d os, Calls Try.prog 21 #[.slice A5 m c5, .slice A m c] (Go.Sort.grow (redrawn w1 d) os) fun e w'' => e = .returned (.bool true) ∧ ∃ p : Regrown, w'' = Go.Sort.grow (redrawn w1 p.d) p.os := fun d os => Calls.regrown_of (same_n A5 c5 A c m L _ HLM.out (Kd.C_below (R_num HRA2.out) (below_regrown w1 d os)) (Kd.R_reads' HRA2.out).2.1 (Kd.C_below (R_num HCS2.out.row) (below_regrown w1 d os)) (Kd.R_reads' HCS2.out.row).2.1 (by omega))
    have cS2 : ∀ d os, Calls Try.prog 21 #[.slice AP m cP, .slice A m c] (Go.Sort.grow (redrawn w1 d) os) fun e w'' => e = .returned (.bool true) ∧ ∃ p : Regrown, w'' = Go.Sort.grow (redrawn w1 p.d) p.os := fun d os => Calls.regrown_of (same_n AP cP A c m L _ HLM.out (Kd.C_below HCP.out (below_regrown w1 d os)) (by omega) (Kd.C_below (R_num HCS2.out.row) (below_regrown w1 d os)) (Kd.R_reads' HCS2.out.row).2.1 (by omega))
    have v1 : (z : Int).tmod (n : Int) = 0 := by rw [tmod_nat, hz2]; rfl
    have v2 : (z : Int) % (n : Int) = 0 := by omega
    have v3 : (m : Int) ≤ (z : Int) := by omega
    have v4 : (z : Int) - (m : Int) < (n : Int) := by omega
    have v5 : (z : Int) ≤ 40000 := by omega
    have v6 : ¬ ((z : Int) < (m : Int)) := by omega
    have v7 : ¬ ((n : Int) ≤ (z : Int) - (m : Int)) := by omega
    have v8 : ¬ (z < m) := by omega
    have v9 : m ≤ cP := by omega
    have v10 : (1 : Int) ≤ (n : Int) := by omega
    have v11 : ¬ (n = 0) := by omega
    have v13 : decide ((n : Int) ≤ IntKind.i64.wrap ((z : Int) - (m : Int))) = false := by rw [IntKind.wrap_i64]; exact decide_eq_false (by omega)
    have v14 : ¬ ((n : Int) ≤ IntKind.i64.wrap ((z : Int) - (m : Int))) := by rw [IntKind.wrap_i64]; omega
    have v12 : IntKind.i64.wrap ((z : Int) - (m : Int)) < (n : Int) := by rw [IntKind.wrap_i64]; omega
    refine wp_region_quiet_below (by kernel_rfl) (by kernel_rfl) ?_
    repeat (refine wpQuiet_step (fun K hK => ?_); go_simp; first | (refine hK _ ?_; clear hK K) | (apply Exists.intro; refine ⟨fun _ => ?_, hK _ ?_⟩; (first | with_reducible exact cS1 _ _ | with_reducible exact cS2 _ _); clear hK K))
    refine wpQuiet_nil ?_
    intro _ hw'
    obtain ⟨⟨dq, osq⟩, hw''⟩ := hw'
    subst hw''
    have HB3 := Aside0.mk (below_regrown w1 dq osq)
    obtain ⟨W3, hW3⟩ : ∃ W3, Go.Sort.grow (redrawn w1 dq) osq = W3 := ⟨_, rfl⟩
    rw [hW3] at HB3 ⊢
    clear k5 kl kn cS1 cS2 hW3 v1 v2 v3 v4 v6 v7 v8 v11 v12 hPm
    have HCS3 := Aside0.mk (HCS2.out.low (HB3.out.mono HCS2.out.size))
    have HRP3 := Aside0.mk (Kd.R_below HRP.out HB3.out)
    have cl3 := HCS3.out.bl.cell
    have cr3 : W3.cell? ⟨w.heap.size + 1 + 1, 0, none⟩ = some (.bool false) := HCS3.out.br.cell
    have fr3 : W3.frozen? ⟨w.heap.size + 1 + 1, 0, none⟩ = false := HCS3.out.br.frozen
    go_wp2
    refine wp_normal ?_
    go_region_with (first
      | (go_at_call_of 29 (Go.Value.slice AP z cP); refine (weight_n AP cP z PD _ HPZ.out ?_ ?_ ?_).mono ?_; exact Kd.C_drew (R_num HRP3.out); exact (Kd.R_reads' HRP3.out).2.1; omega; rintro e w4 ⟨rfl, hb⟩; rw [HWG.out]; have HB4 := Aside0.mk hb; have HCS4 := Aside0.mk ((HCS3.out.low (below_drew1 (Below.refl _ _))).low (hb.mono HCS3.out.size)); clear hb; have cl4 := HCS4.out.bl.cell)
      | (go_at_call_of 29 (Go.Value.slice A m c); refine (weight_n A c m L _ HLM.out ?_ ?_ ?_).mono ?_; exact R_num HCS4.out.row; exact (Kd.R_reads' HCS4.out.row).2.1; omega; rintro e w5 ⟨rfl, hb⟩; have HB5 := Aside0.mk hb; have HCS5 := Aside0.mk (HCS4.out.low (hb.mono HCS4.out.size)); clear hb; have cr5 : w5.cell? ⟨w.heap.size + 1 + 1, 0, none⟩ = some (.bool false) := HCS5.out.br.cell; have fr5 : w5.frozen? ⟨w.heap.size + 1 + 1, 0, none⟩ = false := HCS5.out.br.frozen))
    all_goals (dsimp only [onlyNormal]; go_wp2)
    all_goals
      have hD1 : D < W.heap.size := (Array.getElem?_eq_some_iff.1 HKD.out).1
      have hb13 : Below W.heap.size W W3 := HB1.out.trans (HB3.out.mono HB1.out.size)
      have hb14 : Below W.heap.size W w4 := (below_drew1 hb13).trans (HB4.out.mono hb13.size)
      have hb15 : Below W.heap.size W w5 := hb14.trans (HB5.out.mono hb14.size)
      have hK2 := (KeepsOthers.setCell w5 ⟨w.heap.size + 1 + 1, 0, none⟩ (.bool true)).same D _ ((hb15.block D hD1).trans HKD.out) rfl
      refine ⟨by simp, .inl ⟨_, _, rfl, run_takeDeferred hK2, ?_⟩⟩
      have hlo := HCS5.out.lo
      have c5 : ((w5.setCell ⟨w.heap.size + 1 + 1, 0, none⟩ (.bool true)).putObj D (.deferred none)).cell? ⟨w.heap.size + 1 + 1, 0, none⟩ = some (.bool true) := (World.cell?_of_block (a := ⟨w.heap.size + 1 + 1, 0, none⟩) (World.putObj_heap_other (by show w.heap.size + 1 + 1 ≠ D; omega))).trans (HCS5.out.br.set (.bool true)).cell
      refine ⟨_, results_bool rfl Try.underlying4 _ _ _ true rfl c5, rfl, ?_⟩
      exact (HCS5.out.bel.setCell (p := ⟨w.heap.size + 1 + 1, 0, none⟩) (by show w.heap.size ≤ w.heap.size + 1 + 1; omega) _).trans (belowK_b (w := w) (Nat.le_refl _) _ D _ _ (by omega) hK2 rfl rfl)
  case round =>
    rintro l k ⟨k', A1, c1⟩ W hl ⟨vA, hbA, hRA, hcs⟩ ⟨hk', hRp⟩ hk
    obtain rfl : k' = k := hk'
    simp only [pcEnc]
    have hkn := (hML k').1 hk
    have hRp' : Kd.R Kd.bool 4 W n9 (fun _ => True) (.slice A1 (min n (m - k' * n)) c1) ((L.drop (k' * n)).take n) := by
      have h := hRp
      rw [HLM.out] at h
      exact h
    have hsucc : (k' + 1) * n = k' * n + n := by rw [Nat.add_mul, Nat.one_mul]
    have hmod : k' * n % n = 0 := Nat.mul_mod_left _ _
    obtain ⟨p, hp⟩ : ∃ p, k' * n = p := ⟨_, rfl⟩
    obtain ⟨q, hq⟩ : ∃ q, min n (m - p) = q := ⟨_, rfl⟩
    rw [hp] at hkn hRp' hRA hsucc hmod ⊢
    rw [hq] at hRp' ⊢
    have HTN0 : L.take (p + n) = L.take p ++ (L.drop p).take n := List.take_add
    have hTL : (L.take p).length = p := by rw [List.length_take, HLM.out]; omega
    have hPL : ((L.drop p).take n).length = q := by rw [List.length_take, List.length_drop, HLM.out]; omega
    obtain ⟨T, hT⟩ : ∃ T, L.take p = T := ⟨_, rfl⟩
    obtain ⟨PL, hPLe⟩ : ∃ PL, (L.drop p).take n = PL := ⟨_, rfl⟩
    rw [hT] at hRA hTL HTN0
    rw [hPLe] at hRp' hPL HTN0
    obtain ⟨A5, c5, rfl⟩ := Kd.R_slice hRA
    rw [hTL] at hRA hbA
    obtain ⟨T1, hT1⟩ : ∃ T1, T ++ PL = T1 := ⟨_, rfl⟩
    have HT1 := Aside0.mk hT1
    have HT1L : Aside0 (T1.length = p + q) := ⟨by rw [← hT1, List.length_append, hTL, hPL]⟩
    have HTN : Aside0 (L.take ((k' + 1) * n) = T1) := ⟨by rw [hsucc, HTN0, hT1]⟩
    have HTL := Aside0.mk (show T.length + q ≤ 60000 by omega)
    have h1q : 1 ≤ q := by omega
    have hqn : q ≤ n := by omega
    have hpq : p + q ≤ m := by omega
    have hm1 : (p : Int).tmod (n : Int) = 0 := by rw [tmod_nat, hmod]; rfl
    have hm2 : (p : Int) % (n : Int) = 0 := by omega
    have t1 : (1 : Int) ≤ (q : Int) := by omega
    have t2 : (q : Int) ≤ (n : Int) := by omega
    have t3 : (p : Int) + (q : Int) ≤ (m : Int) := by omega
    have t4 : (1 : Int) ≤ (n : Int) := by omega
    have t5 : (n : Int) ≤ 1024 := by omega
    have t6 : (m : Int) ≤ 30000 := by omega
    have u1 : ((q : Int) == 0) = false := by simp; omega
    have u2 : ¬ (n < q) := by omega
    have u3 : ¬ (m < p + q) := by omega
    have u4 : ¬ ((m : Int) < (p : Int) + (q : Int)) := by omega
    have u5 : ¬ ((q : Int) = 0) := by omega
    clear hRp hT hPLe hT1 HTN0 hTL hPL hsucc hmod hp
    have hAo : ∀ ad, Ao = some ad → ad.block < n9 := fun ad e => (hcs.owno ad.block (by rw [e]; rfl)).1
    have hAo5 : ∀ ad, Ao = some ad → ad.block ≠ b5 := fun ad e => (hcs.owno ad.block (by rw [e]; rfl)).2
    gi_wp2
    refine ⟨KeepsFrom.refl _ _, KpP.refl _ _ _ _, ?_⟩
    try simp only [forall_exists_index]
    intro W2 rr hrr hT
    have HBA2 := Aside0.mk (hT _ (Lasts.boxed _ _ _ _) hbA)
    have HRA2 := Aside0.mk (hT _ Lasts.row hRA)
    have HRP2 := Aside0.mk (hT _ Lasts.row hRp')
    have HCS2 := Aside0.mk (hT _ (CS.lasts (by omega) (by omega)) hcs)
    have cb5 := HBA2.out.cell
    have cbl := HCS2.out.bl.cell
    have cbn := HCS2.out.bn.cell
    clear hT hrr hbA hRA hRp' hcs
    by_cases hqq : q < n
    · have t7 : (q : Int) < (n : Int) := by omega
      have t8 : (p : Int) + (q : Int) = (m : Int) := by omega
      have t9 : p + q = m := by omega
      gi_wp2_with (gi_at_builtin; refine append_rows_in l Kd.bool (w0 := W2) n9 rfl (.tmp 77) (.tmp 78) 26 4 (.bool false) 1 rfl Try.underlying26 info4 rfl (by decide) (by omega) (.slice A5 p c5) T PL _ _ _ (fun _ => True) (fun _ => False) rfl rfl ?aO ?aR (fun _ _ h => h) (fun _ h => h.elim) ?aF ?aB ?aS ?aL ?_; (case aR => exact R_num HRP2.out); (case aB => exact Below.refl _ _); (case aF => exact (fun _ _ => trivial)); (case aO => exact HRA2.out); (case aS => exact HCS2.out.size); (case aL => have := HTL.out; omega); intro u1 w1 ho hb hg hat; rw [HT1.out] at ho; obtain ⟨g5, cp5, rfl, _⟩ := Kd.R_form ho (by have := HT1L.out; omega); rw [HT1L.out] at ho; have HRO := Aside0.mk ho; have HBO := Aside0.mk hb; have HGO := Aside0.mk hg; have hbx := bx_low HBA2.out hb (by omega); clear ho hb hg hat cb5; have y1 := hbx.cell; have y2 := hbx.frozen; have HBX := Aside0.mk hbx; clear hbx; rw [HT1L.out])
      refine ⟨(keeps_grown HRA2.out HGO.out).trans ((KeepsOthers.setCell _ _ _).from _), (KpP.of_below HBO.out (by omega) (by omega) hAo).trans (KpP.set _ _ (by omega) (by omega) hAo5), _, HBX.out.set _, ?_, (HCS2.out.low HBO.out).set5 _⟩
      rw [HTN.out]
      first | exact R_setbox HRO.out (by omega) | (have h := HRO.out; rw [t9] at h; exact R_setbox h (by omega))
    · have t7 : ¬ ((q : Int) < (n : Int)) := by omega
      gi_wp2_with (gi_at_builtin; refine append_rows_in l Kd.bool (w0 := W2) n9 rfl (.tmp 77) (.tmp 78) 26 4 (.bool false) 1 rfl Try.underlying26 info4 rfl (by decide) (by omega) (.slice A5 p c5) T PL _ _ _ (fun _ => True) (fun _ => False) rfl rfl ?aO ?aR (fun _ _ h => h) (fun _ h => h.elim) ?aF ?aB ?aS ?aL ?_; (case aR => exact R_num HRP2.out); (case aB => exact Below.refl _ _); (case aF => exact (fun _ _ => trivial)); (case aO => exact HRA2.out); (case aS => exact HCS2.out.size); (case aL => have := HTL.out; omega); intro u1 w1 ho hb hg hat; rw [HT1.out] at ho; obtain ⟨g5, cp5, rfl, _⟩ := Kd.R_form ho (by have := HT1L.out; omega); rw [HT1L.out] at ho; have HRO := Aside0.mk ho; have HBO := Aside0.mk hb; have HGO := Aside0.mk hg; have hbx := bx_low HBA2.out hb (by omega); clear ho hb hg hat cb5; have y1 := hbx.cell; have y2 := hbx.frozen; have HBX := Aside0.mk hbx; clear hbx; rw [HT1L.out])
      refine ⟨(keeps_grown HRA2.out HGO.out).trans ((KeepsOthers.setCell _ _ _).from _), (KpP.of_below HBO.out (by omega) (by omega) hAo).trans (KpP.set _ _ (by omega) (by omega) hAo5), _, HBX.out.set _, ?_, (HCS2.out.low HBO.out).set5 _⟩
      rw [HTN.out]
      first | exact R_setbox HRO.out (by omega) | (have h := HRO.out; rw [t9] at h; exact R_setbox h (by omega))
theorem BitsCuts_walk (A0 : Option Addr) (c0 : Nat) (l0 : List Bool) (a1 : Int) (w : World) (hr0 : Kd.C Kd.bool w A0 l0.length l0) (hc0 : l0.length ≤ c0) (hy0 : l0.length * 1 ≤ 140737488351232) (hg0 : ∀ y ∈ l0, True) (wf1 : (Lit.int .i64 a1).wf = true) :
    Calls Try.prog 9 #[.slice A0 l0.length c0, .int .i64 a1] w fun e w' => e = .returned (.bool true) ∧ Below w.heap.size w w' := cuts_w A0 c0 l0 a1 w hr0 hc0

end Go.Proofs.Ytabjfehhibeeiaa.Pure
