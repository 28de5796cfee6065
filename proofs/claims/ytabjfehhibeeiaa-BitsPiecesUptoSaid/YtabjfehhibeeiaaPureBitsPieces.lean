/- BitsPieces: the pieces gone through again, one round within another, left early, while the row is written to. -/
import Derived.Test.YtabjfehhibeeiaaFogx0
import Derived.Test.YtabjfehhibeeiaaFogx2
import Derived.Test.YtabjfehhibeeiaaHandIter
import Derived.Test.YtabjfehhibeeiaaRefPieces
import Derived.Test.YtabjfehhibeeiaaRefTurn
import Derived.Test.YtabjfehhibeeiaaHandWorks
import Derived.Laws.EntriesVeiled
import Derived.Lib.QuietBelow
namespace Go.Proofs.Ytabjfehhibeeiaa.Pure
open Go.RowKit Go.Shelf Go.Proofs.Ytabjfehhibeeiaa.Fog Go.Proofs.YtabjfehhibeeiaaW.PrintWords Go.Proofs.YtabjfehhibeeiaaW.PrintLast Go.Proofs.YtabjfehhibeeiaaW.PrintMore Go.Proofs.Ytabjfehhibeeiaa.Kit Go.Proofs.Ytabjfehhibeeiaa.Seq
set_option linter.unusedVariables false
set_option linter.unusedSimpArgs false
attribute [local go_sem] Oper.semAt_some
theorem pieces_not_nilP (p q : Value) (W : World) : (binOp .eql 30 (.func (.func 49) #[] #[p, q]) .nilFunc).run Try.prog W = .ok (.bool false) W := by
  kernel_rfl
theorem pieces_nP (A0 : Option Addr) (c0 N : Nat) (l0 : List Bool) (n : Int) (w : World) (hN : l0.length = N) (hr0 : Kd.C Kd.bool w A0 N l0) (hc0 : N ≤ c0) (hl : N < 140737488355328) :
    Calls Try.prog 19 #[.slice A0 N c0, .int .i64 n] w fun e w' => ∃ (B : Nat) (A : Option Addr) (c : Nat), e = .returned (.func (.func 49) #[] #[.pointer (some ⟨w.heap.size, 0, none⟩), .pointer (some ⟨B, 0, none⟩)]) ∧ Boxed w' w.heap.size 3 (.int .i64 n) ∧ Boxed w' B 26 (.slice A N c) ∧ w.heap.size < B ∧ Kd.R Kd.bool 4 w' w.heap.size (fun _ => True) (.slice A N c) l0 ∧ Below w.heap.size w w' := by
  subst hN
  exact pieces_calls A0 c0 l0 n w hr0 hc0 hl
theorem same_nP (A : Option Addr) (c : Nat) (B : Option Addr) (d N M : Nat) (l : List Bool) (w : World) (hN : l.length = N) (hM : l.length = M) (h1 : Kd.C Kd.bool w A N l) (hc : N ≤ c) (h2 : Kd.C Kd.bool w B M l) (hd : M ≤ d) (hl : N ≤ 9223372036854775806) :
    Calls Try.prog 21 #[.slice A N c, .slice B M d] w fun e w' => e = .returned (.bool true) ∧ Below w.heap.size w w' := by
  subst hN
  subst hM
  exact same_in A c B d l w h1 hc h2 hd hl
theorem R_numP {α : Type} {d : Kd α} {e base n c : Nat} {ok : Nat → Prop} {w : World} {A : Option Addr} {xs : List α} (h : d.R e w base ok (.slice A n c) xs) : d.C w A n xs := by
  obtain ⟨h1, _, h2⟩ := Kd.R_reads' h
  rw [← h1] at h2
  exact h2
theorem own_addrP {α : Type} {d : Kd α} {e base n c B : Nat} {ok : Nat → Prop} {w : World} {A : Option Addr} {xs : List α} (h : d.R e w base ok (.slice A n c) xs) (hB : w.heap.size ≤ B) : ∀ ad, A = some ad → ad.block < B := by
  rintro ad rfl
  have := Kd.R_lt h ad.block rfl
  omega
theorem bx_belowP {X Y : World} {b t : Nat} {v : Value} (h : Boxed X b t v) (hb : Below X.heap.size X Y) : Boxed Y b t v := (hb.block _ h.lt).trans h
theorem bx_lowP {X Y : World} {b t B : Nat} {v : Value} (h : Boxed X b t v) (hb : Below B X Y) (hB : b < B) : Boxed Y b t v := (hb.block _ hB).trans h
/-- A number below 1: the iterator returns at once. -/
theorem pieces0_seq (d : Nat) (a : Int) (ha : a < 1) (Bn Bo : Nat) {α : Type} (encs : α → Array Value) (V : Nat → α → World → Prop) (Kp : World → World → Prop) (w : World) (hn1 : w.cell? ⟨Bn, 0, none⟩ = some (.int .i64 a)) :
    SeqV Fence.wide d Try.prog 49 #[.pointer (some ⟨Bn, 0, none⟩), .pointer (some ⟨Bo, 0, none⟩)] encs V Kp 0 w := fun l J Jx W hW hJ hJx hY h0 => by
  have hbn := block_lt_of_cell hn1
  have cn := (hW.cell (p := ⟨Bn, 0, none⟩) hbn).trans hn1
  refine callsIn_of_wp Try.func49 rfl trivial ?_ rfl
  simp only [Try.ntmps49, List.size_toArray, List.length_cons, List.length_nil, Nat.reduceAdd, Nat.reduceSub, Array.replicate_succ, Array.replicate_zero, List.push_toArray, List.append_toArray, List.nil_append, List.cons_append]
  gi_wp2
  refine bodyPost_ret (results_none rfl _ _ _) rfl ?_
  exact ⟨⟨_, rfl⟩, .inl h0⟩
def wantOf (l : List Bool) (a : Int) : List S34 := if a < 1 then [] else wantP l a.toNat
theorem refp_any (l : List Bool) (a : Int) (hl : l.length ≤ 1048576) : Ev (fun k => foghornref01_Pieces.f k l a) (wantOf l a) := by
  unfold wantOf
  by_cases h : a < 1
  · rw [if_pos h]
    unfold foghornref01_Pieces.f
    exact Ev.ifp h (Ev.val rfl)
  · rw [if_neg h]
    have := refp_ev l a.toNat (by omega) hl
    rw [Int.toNat_of_nonneg (by omega)] at this
    exact this
/-- Either way: M rounds over pieces of a width. -/
theorem seq_any (l0 : List Bool) (a : Int) (ha : a < 9223372036854775808) (hl : l0.length ≤ 1048576) (Bn Bo : Nat) (A : Option Addr) (c : Nat) (hc : l0.length ≤ c) :
    ∃ nn M : Nat, 1 ≤ nn ∧ wantOf l0 a = (List.range M).map (pcS l0 nn) ∧ (∀ k, k < M → k * nn < l0.length) ∧ M ≤ 1048576 ∧ ∀ (d : Nat) (w : World), 1 ≤ d → w.cell? ⟨Bn, 0, none⟩ = some (.int .i64 a) → w.cell? ⟨Bo, 0, none⟩ = some (.slice A l0.length c) → Kd.C Kd.bool w A l0.length l0 → (∀ ad, A = some ad → ad.block < w.heap.size) →
      SeqV Fence.wide d Try.prog 49 #[.pointer (some ⟨Bn, 0, none⟩), .pointer (some ⟨Bo, 0, none⟩)] (pcEnc nn l0.length) (PieceAt l0 nn w.heap.size) (KpP Bn Bo A) M w := by
  unfold wantOf
  by_cases h : a < 1
  · exact ⟨1, 0, Nat.le_refl _, by rw [if_pos h]; rfl, fun k hk => absurd hk (Nat.not_lt_zero _), by omega, fun d w hd h1 h2 h3 h4 => pieces0_seq d a h Bn Bo _ _ _ w h1⟩
  · obtain ⟨n, hn⟩ : ∃ n : Nat, a = (n : Int) := ⟨a.toNat, (Int.toNat_of_nonneg (by omega)).symm⟩
    subst hn
    have hM : ∀ k, k < manyP l0.length n ↔ k * n < l0.length := fun k => manyP_lt l0.length n (by omega) k
    have hM2 : manyP l0.length n ≤ l0.length := by
      rcases Nat.lt_or_ge l0.length (manyP l0.length n) with h1 | h1
      · have h2 := (hM _).1 h1
        have h3 : l0.length * 1 ≤ l0.length * n := Nat.mul_le_mul_left _ (by omega)
        omega
      · exact h1
    exact ⟨n, manyP l0.length n, by omega, by rw [if_neg h, Int.toNat_natCast]; rfl, fun k hk => (hM k).1 hk, by omega, fun d w hd h1 h2 h3 h4 => pieces_seq d hd Bn Bo A c n _ l0 (by omega) hM (by omega) (by omega) w h1 h2 h3 hc h4⟩
theorem rd_pc (l : List Bool) (n M k : Nat) (h : k < M) : rd_T34 ((List.range M).map (pcS l n)) (k : Int) = ⟨((k * n : Nat) : Int), pieceL l n k⟩ := by
  unfold rd_T34
  rw [Int.toNat_natCast, List.getD_eq_getElem?_getD, List.getElem?_map, List.getElem?_range h]
  rfl
/-- What stands from the loops' beginning on. -/
structure ST (w : World) (st a : Int) (l0 : List Bool) (N bw bf Bn Bo : Nat) (AW : Option Addr) (cW : Nat) (Ao : Option Addr) (co M : Nat) (want : List S34) (n9 : Nat) (W9 : World) : Prop where
  st : Boxed W9 w.heap.size 3 (.int .i64 st)
  res : Boxed W9 (w.heap.size + 1) 4 (.bool false)
  wb : Boxed W9 bw 27 (.slice AW M cW)
  row : Kd.C k34 W9 AW M want
  fn : Boxed W9 bf 30 (.func (.func 49) #[] #[.pointer (some ⟨Bn, 0, none⟩), .pointer (some ⟨Bo, 0, none⟩)])
  kn : Boxed W9 Bn 3 (.int .i64 a)
  ko : Boxed W9 Bo 26 (.slice Ao N co)
  rowo : Kd.C Kd.bool W9 Ao N l0
  own : ∀ ad, Ao = some ad → ad.block < n9
  bel : Below w.heap.size w W9
  size : W9.heap.size = n9
  lo : w.heap.size + 1 < n9 ∧ bw < n9 ∧ bf < n9 ∧ Bn < n9 ∧ Bo < n9
def PS (W9 : World) (n9 : Nat) (Ds : List Nat) (X : World) : Prop := Below n9 W9 X ∧ n9 ≤ X.heap.size ∧ ∀ D ∈ Ds, X.heap[D]? = some (.deferred (some []))
section
variable {w W9 X Y : World} {st a : Int} {l0 : List Bool} {N bw bf Bn Bo cW co M n9 B b : Nat} {AW Ao : Option Addr} {want : List S34} {Ds : List Nat}
theorem PS.grow (h : PS W9 n9 Ds X) (hb : Below X.heap.size X Y) : PS W9 n9 Ds Y :=
  ⟨h.1.trans (hb.mono h.2.1), Nat.le_trans h.2.1 hb.size, fun D hD => (hb.block _ (Array.getElem?_eq_some_iff.1 (h.2.2 D hD)).1).trans (h.2.2 D hD)⟩
theorem PS.lasts (hB : n9 ≤ B) (hD : ∀ D ∈ Ds, D < B) : Lasts B (PS W9 n9 Ds) :=
  ⟨fun X Y h hb => h.grow hb, fun X l o o' hl ho hc h => ⟨h.1.trans ⟨rfl, rfl, rfl, by simp, fun k hk => World.putObj_heap_other (by omega)⟩, by simpa using h.2.1, fun D hd => (World.putObj_heap_other (by have := hD D hd; omega)).trans (h.2.2 D hd)⟩⟩
theorem PS.setK (h : PS W9 n9 Ds X) (hb : n9 ≤ b) (hD : ∀ D ∈ Ds, D < b) (u : Value) : PS W9 n9 Ds (X.setCell ⟨b, 0, none⟩ u) :=
  ⟨h.1.setCell (p := ⟨b, 0, none⟩) hb _, Nat.le_trans h.2.1 (by simp), fun D hd => (Below.heap_setCell _ _ _ D (by have := hD D hd; show D ≠ b; omega)).trans (h.2.2 D hd)⟩
theorem PS.more (h : PS W9 n9 [] X) {D : Nat} (hD : X.heap[D]? = some (.deferred (some []))) : PS W9 n9 [D] X :=
  ⟨h.1, h.2.1, fun D' hd => (List.mem_singleton.1 hd) ▸ hD⟩
theorem PS.kp (h : PS W9 n9 Ds X) (h' : PS W9 n9 Ds Y) (hs : X.heap.size ≤ Y.heap.size) (hn : Bn < n9) (ho : Bo < n9) (hA : ∀ ad, Ao = some ad → ad.block < n9) : KpP Bn Bo Ao X Y :=
  ⟨hs, (h'.1.block _ hn).trans (h.1.block _ hn).symm, (h'.1.block _ ho).trans (h.1.block _ ho).symm, fun ad e => (h'.1.block _ (hA ad e)).trans (h.1.block _ (hA ad e)).symm⟩
theorem PS.turned {S : Nat → Prop} (h : PS W9 n9 Ds X) (hb : Below n9 W9 Y) (hk : Kept X Y S) (hD : ∀ D ∈ Ds, ¬ S D) : PS W9 n9 Ds Y :=
  ⟨hb, Nat.le_trans h.2.1 hk.1, fun D hd => (hk.2 D (Array.getElem?_eq_some_iff.1 (h.2.2 D hd)).1 (hD D hd)).trans (h.2.2 D hd)⟩
theorem keeps_kept {α : Type} {d : Kd α} {e base : Nat} {ok : Nat → Prop} {v : Value} {xs : List α} (h : d.R e X base ok v xs) (hg : Kept X Y (fun k => some k = v.ownBlock)) : KeepsFrom B X Y :=
  ⟨hg.1, fun k o _ hk hc => (hg.2 k (Array.getElem?_eq_some_iff.1 hk).1 (fun e => by
    obtain ⟨_, _, _, q, _, cells, h1⟩ := (Kd.R_bound h).1 k e.symm
    rw [hk] at h1
    cases h1
    cases hc)).trans hk⟩
theorem turn_p (v : Value) (PL : List Bool) {base : Nat} (hps : PS W9 n9 Ds X) (h9 : W9.heap.size = n9) (hR : Kd.R Kd.bool 4 X base (fun _ => True) v PL) (hbase : n9 ≤ base) (hDs : ∀ D ∈ Ds, D < base) (hl : PL.length ≤ 9223372036854775806) :
    Calls Try.prog 20 #[v] X fun e w' => e = .returned (.tuple #[]) ∧ PS W9 n9 Ds w' ∧ (∀ k, k < base → k < X.heap.size → w'.heap[k]? = X.heap[k]?) ∧ (∀ B, KeepsFrom B X w') ∧ X.heap.size ≤ w'.heap.size := by
  subst h9
  refine (turn_in v PL W9 X hps.1 (Kd.R_lower hR hbase) hl).mono ?_
  rintro e w' ⟨rfl, hb, hK, _⟩
  have hne : ∀ k, k < base → ¬ (some k = v.ownBlock) := fun k hk e => by have := Kd.R_base hR k e.symm; omega
  exact ⟨rfl, hps.turned (hps.1.trans hb) hK (fun D hD => hne D (hDs D hD)), fun k h1 h2 => hK.2 k h2 (hne k h1), fun B => keeps_kept hR hK, hK.1⟩
theorem ST.at (h : ST w st a l0 N bw bf Bn Bo AW cW Ao co M want n9 W9) (hb : PS W9 n9 Ds X) : Boxed X w.heap.size 3 (.int .i64 st) ∧ Boxed X (w.heap.size + 1) 4 (.bool false) ∧ Boxed X bw 27 (.slice AW M cW) ∧ Kd.C k34 X AW M want ∧ Boxed X bf 30 (.func (.func 49) #[] #[.pointer (some ⟨Bn, 0, none⟩), .pointer (some ⟨Bo, 0, none⟩)]) ∧ Boxed X Bn 3 (.int .i64 a) ∧ Boxed X Bo 26 (.slice Ao N co) ∧ Kd.C Kd.bool X Ao N l0 := by
  have hlo := h.lo
  have hb1 : Below W9.heap.size W9 X := by rw [h.size]; exact hb.1
  exact ⟨bx_lowP h.st hb.1 (by omega), bx_lowP h.res hb.1 (by omega), bx_lowP h.wb hb.1 (by omega), Kd.C_below h.row hb1, bx_lowP h.fn hb.1 (by omega), bx_lowP h.kn hb.1 (by omega), bx_lowP h.ko hb.1 (by omega), Kd.C_below h.rowo hb1⟩
end
theorem ref_nP (k : Nat) (A0 : Option Addr) (c0 N : Nat) (l0 : List Bool) (a1 : Int) (w : World) (hN : l0.length = N) (hr0 : Kd.C Kd.bool w A0 N l0) (hc0 : N ≤ c0) (h : foghornref01_Pieces.f k l0 a1 = some (wantOf l0 a1)) :
    Calls Try.prog 18 #[.slice A0 N c0, .int .i64 a1] w fun e w' => ∃ v0_ : Value, e = .returned (v0_) ∧ Kd.S k34 34 w' w.heap.size (fun _ => True) v0_ (wantOf l0 a1) ∧ Below w.heap.size w w' := by
  subst hN
  exact foghornref01_Pieces.calls k A0 c0 l0 a1 _ w hr0 hc0 h
set_option maxRecDepth 100000 in
set_option maxHeartbeats 8000000 in
theorem pieces_w (A0 : Option Addr) (c0 N : Nat) (l0 : List Bool) (a st : Int) (w : World) (hN : l0.length = N) (hr0 : Kd.C Kd.bool w A0 N l0) (hc0 : N ≤ c0) (hl : N ≤ 1048576) (ha : a < 9223372036854775808) :
    Calls Try.prog 4 #[.slice A0 N c0, .int .i64 a, .int .i64 st] w fun e w' => e = .returned (.bool true) ∧ Below w.heap.size w w' := by
  obtain ⟨kr, hkr⟩ := (refp_any l0 a (by omega)).rounds
  have HKR := Aside0.mk hkr
  have HN := Aside0.mk hN
  have HL := Aside0.mk hl
  have HA := Aside0.mk ha
  have HR0 := Aside0.mk hr0
  have HC0 := Aside0.mk hc0
  clear hkr hN hl ha hr0 hc0
  refine (callsIn_wide (n := 5)).1 ?_
  refine callsIn_of_wp_marks Try.func4 rfl trivial ?_ rfl
  refine wpIn_wide.2 ?_
  simp only [Try.ntmps4, List.size_toArray, List.length_cons, List.length_nil, Nat.reduceAdd, Nat.reduceSub, Array.replicate_succ, Array.replicate_zero, List.push_toArray, List.append_toArray, List.nil_append, List.cons_append]
  have HB0 := Aside0.mk (below_alloc (below_alloc (Below.refl w.heap.size w) (.cells #[.int .i64 st] 3)) (.cells #[.bool false] 4))
  have H1 := Aside0.mk ((Boxed.new w 3 (.int .i64 st)).alloc (.cells #[.bool false] 4))
  have h2 := Boxed.new (w.alloc (.cells #[.int .i64 st] 3)) 4 (.bool false)
  rw [World.size_alloc] at h2
  have H2 := Aside0.mk h2
  have hnil := pieces_not_nilP
  clear h2
  go_wp2_with (first
    | ((with_reducible refine gate_dst (N := 17) rfl ?_); obtain ⟨w1, hw1⟩ : ∃ w1, (w.alloc (.cells #[.int .i64 st] 3)).alloc (.cells #[.bool false] 4) = w1 := ⟨_, rfl⟩; have HB1 := Aside0.mk HB0.out; have H11 := Aside0.mk H1.out; have H12 := Aside0.mk H2.out; have HS1 : Aside0 (w1.heap.size = w.heap.size + 2) := ⟨by rw [← hw1]; simp⟩; rw [hw1] at HB1 H11 H12 ⊢; clear hw1; refine Kd.R_lit Kd.bool _ 4 ?hg (N := 17) ?hd (xs := ([] : List Bool)) (inner := []) (ok := fun _ => True) (okp := fun _ => True) ?hr ?hp (fun _ hk => hk) trivial (Below.refl _ _) (Nat.le_refl _) (by simp) ?_; (case hd => rfl); (case hg => rfl); (case hr => first | (go_simp; done) | (go_simp; rfl)); (case hp => exact (Reps.none _ _)); intro vl2 wl2 ho hb hg_ hnew_; clear hg_ hnew_; have HLo2 := Aside0.mk ho; have HLb2 := Aside0.mk hb; clear ho hb)
    | ((with_reducible refine gate_builtin (b := .append) (xs := #[.tmp 17, .tmp 18]) rfl ?_); at_builtin; refine Kd.R_append_rows Kd.bool (w0 := w1) w1.heap.size rfl (.tmp 17) (.tmp 18) 26 4 (.bool false) 1 rfl Try.underlying26 info4 rfl (by decide) (by omega) vl2 [] l0 _ _ _ (fun _ => True) (fun _ => False) rfl rfl ?aO ?aR (fun _ _ h => h) (fun _ h => h.elim) ?aF ?aB ?aS ?aL ?_; (case aR => exact Kd.C_below HR0.out (below_step HB1.out HLb2.out)); (case aB => exact HLb2.out); (case aF => exact (fun _ _ => trivial)); (case aO => exact HLo2.out); (case aS => exact HLb2.out.size); (case aL => have := HL.out; simp; omega); intro vn2 w2 ho hb hg hat; clear hg hat; have hR : Kd.R Kd.bool 4 w2 w1.heap.size (fun _ => True) vn2 l0 := ho; clear ho; obtain ⟨A, c, rfl⟩ := Kd.R_slice hR; rw [HN.out] at hR ⊢; have HR2 := Aside0.mk hR; have HB2 := Aside0.mk hb; clear hb hR)
    | (go_at_call 18; (with_reducible refine (ref_nP kr A0 c0 N l0 a w2 HN.out (Kd.C_below HR0.out (below_step HB1.out HB2.out)) HC0.out HKR.out).mono ?_); rintro e w3 ⟨v1, rfl, hS, hb⟩; obtain ⟨AW, cW, rfl, _, _⟩ := Kd.S_reads hS; have HS3 := Aside0.mk hS; have HB3 := Aside0.mk hb; clear hS hb)
    | (go_at_call 19; (with_reducible refine (pieces_nP A c N l0 a _ HN.out ?_ ?_ ?_).mono ?_); exact (R_numP (Kd.R_alloc (Kd.R_below HR2.out HB3.out) (.cells #[.slice AW (wantOf l0 a).length cW] 27))); exact ((Kd.R_reads' HR2.out).2.1); (have := HL.out; omega); rintro e w4 ⟨Bo, Ao, co, rfl, hk1, hk2, hlt, hRo, hb⟩; have hbn := Boxed.new w4 30 (.func (.func 49) #[] #[.pointer (some ⟨w3.heap.size + 1, 0, none⟩), .pointer (some ⟨Bo, 0, none⟩)]); simp only [World.size_alloc] at hk1 hlt hRo hbn; have HK1 := Aside0.mk hk1; have HK2 := Aside0.mk hk2; have HLT := Aside0.mk hlt; have HRO := Aside0.mk hRo; have HB4 := Aside0.mk hb; have HBN := Aside0.mk hbn; have cfn := hbn.cell; clear hk1 hk2 hlt hRo hb hbn)
    | (go_at_call 20; obtain ⟨w5, hw5⟩ : ∃ w5, w4.alloc (.cells #[.func (.func 49) #[] #[.pointer (some ⟨w3.heap.size + 1, 0, none⟩), .pointer (some ⟨Bo, 0, none⟩)]] 30) = w5 := ⟨_, rfl⟩; have HB5 : Aside0 (Below w4.heap.size w4 w5) := ⟨hw5 ▸ below_alloc (Below.refl _ _) _⟩; rw [hw5] at HBN cfn ⊢; clear hw5; have HB31 : Aside0 (Below w3.heap.size w3 w5) := ⟨(below_alloc (Below.refl _ _) _).trans ((HB4.out.trans (HB5.out.mono HB4.out.size)).mono (by simp))⟩; have HR5 := Aside0.mk (Kd.R_below (Kd.R_below HR2.out HB3.out) HB31.out); (with_reducible refine (turn_in (.slice A N c) l0 w1 w5 ?_ HR5.out ?_).mono ?_); exact (HB2.out.trans ((HB3.out.trans (HB31.out.mono HB3.out.size)).mono HB2.out.size)); (have := HL.out; have := HN.out; omega); rintro e W9 ⟨rfl, hb, hK, hR⟩; have HB9 := Aside0.mk hb; have HK9 := Aside0.mk hK; clear hb hK hR cfn))
  have hM0 := Aside0.mk (seq_any l0 a HA.out (by have := HL.out; have := HN.out; omega) (w3.heap.size + 1) Bo Ao co (by have := (Kd.R_reads' HRO.out).2.1; have := HN.out; omega))
  obtain ⟨nn, M, hnn, hwant, hkn, hMb, hseq0⟩ := hM0.out
  have hwl : (wantOf l0 a).length = M := by rw [hwant]; simp
  have HST : Aside0 (ST w st a l0 N w3.heap.size w4.heap.size (w3.heap.size + 1) Bo AW cW Ao co M (wantOf l0 a) W9.heap.size W9) := ⟨by
    have hs1 := HS1.out
    have hs2 := HB2.out.size
    have hs3 := HB3.out.size
    have hs4 := HB4.out.size
    have hs5 := HB5.out.size
    rw [World.size_alloc] at hs4
    have hK := HK9.out
    have hown : ∀ k, (Value.slice A N c).ownBlock = some k → w1.heap.size ≤ k ∧ k < w2.heap.size := fun k hk => ⟨own_ge HR2.out k hk, own_lt_now HR2.out k hk⟩
    have hne : ∀ k, k < w1.heap.size ∨ w2.heap.size ≤ k → ¬ (some k = (Value.slice A N c).ownBlock) := fun k hk e => by have := hown k e.symm; omega
    have b25 : Below w1.heap.size w1 w5 := HB2.out.trans ((HB3.out.trans (HB31.out.mono HB3.out.size)).mono HB2.out.size)
    have mv : ∀ {b t : Nat} {v : Value}, Boxed w5 b t v → (b < w1.heap.size ∨ w2.heap.size ≤ b) → Boxed W9 b t v := fun hb h => (hK.2 _ hb.lt (hne _ h)).trans hb
    have hbw := Boxed.new w3 27 (.slice AW (wantOf l0 a).length cW)
    have hS5 := Kd.S_below HS3.out HB31.out
    have hS9 := Kd.S_mono (Kd.S_move (Kd.S_bound hS5) (fun k hk => hK.2 k hk.2.2.1 (hne k (.inr hk.2.1)))) (fun _ _ => trivial)
    have hO5 := Kd.R_below HRO.out HB5.out
    have hO9 := R_kept hO5 hK (fun k hk => hne k (.inr (by have := Kd.R_base hO5 k hk; omega)))
    have hlt := HLT.out
    have hbo := HK2.out.lt
    obtain ⟨_, _, e, _, hC9⟩ := Kd.S_reads hS9
    cases e
    have hbw5 := bx_belowP (bx_belowP hbw HB4.out) HB5.out
    rw [hwl] at hC9 hbw5
    have hbf5 := HBN.out.lt
    refine ⟨mv (bx_lowP H11.out b25 (by omega)) (.inl (by omega)), mv (bx_lowP H12.out b25 (by omega)) (.inl (by omega)), mv hbw5 (.inr (by omega)), hC9, mv HBN.out (.inr (by omega)), mv (bx_belowP HK1.out HB5.out) (.inr (by omega)), mv (bx_belowP HK2.out HB5.out) (.inr (by omega)), R_numP hO9, own_addrP hO9 (Nat.le_refl _), ?_, rfl, ?_⟩
    · exact (HB1.out.trans (b25.mono (by omega))).trans (HB9.out.mono (by omega))
    · have := hK.1
      omega⟩
  obtain ⟨bw, hbw⟩ : ∃ b, w3.heap.size = b := ⟨_, rfl⟩
  obtain ⟨bf, hbf⟩ : ∃ b, w4.heap.size = b := ⟨_, rfl⟩
  rw [hbw, hbf] at HST ⊢
  rw [hbw] at hseq0
  obtain ⟨Bn, hBn⟩ : ∃ b, bw + 1 = b := ⟨_, rfl⟩
  obtain ⟨n9, hn9⟩ : ∃ b, W9.heap.size = b := ⟨_, rfl⟩
  rw [hBn, hn9] at HST
  rw [hBn] at hseq0
  obtain ⟨want, hwt⟩ : ∃ x, wantOf l0 a = x := ⟨_, rfl⟩
  rw [hwt] at HST hwant hwl
  rw [HN.out] at hseq0 hkn
  have HWANT := Aside0.mk hwant
  have HSEQ := Aside0.mk hseq0
  have HPS : Aside0 (PS W9 n9 [] W9) := ⟨Below.refl _ _, by omega, fun D hD => by cases hD⟩
  clear hbw hbf hBn hn9 hwt hwant hwl hseq0 hM0 HB0 H1 H2 HB1 H11 H12 HS1 HLo2 HLb2 HR2 HB2 HS3 HB3 HK1 HK2 HLT HRO HB4 HBN HB5 HB31 HR5 HB9 HK9 HKR HR0
  try clear hnil
  obtain ⟨WX, hWX⟩ : ∃ WX : World, W9 = WX := ⟨_, rfl⟩
  have HPSX : Aside0 (PS W9 n9 [] WX) := ⟨by rw [← hWX]; exact HPS.out⟩
  rw [hWX] at ⊢
  clear hWX HPS
  refine wp_loop_rounds 3 ?_
  rw [rounds_succ]
  have X0 := Aside0.mk (HST.out.at (HPSX.out.grow (below_alloc (Below.refl _ _) (.cells #[.int .i64 0] 3))))
  have cf := X0.out.2.2.2.2.1.cell
  go_wp2
  refine (wpIn_wide (n := 5)).1 ?_
  have HF1 := Aside0.mk (HPSX.out.grow (below_alloc (Below.refl _ _) (.cells #[.int .i64 0] 3)))
  have bk := Boxed.new WX 3 (.int .i64 0)
  have hsz : (WX.alloc (.cells #[.int .i64 0] 3)).heap.size = WX.heap.size + 1 := by simp
  obtain ⟨Bk, hBk⟩ : ∃ b, WX.heap.size = b := ⟨_, rfl⟩
  have hn9 : n9 ≤ Bk := hBk ▸ HPSX.out.2.1
  have hlo := HST.out.lo
  have hDs : ∀ D ∈ [], D < Bk := fun D hD => hBk ▸ (Array.getElem?_eq_some_iff.1 (HPSX.out.2.2 D hD)).1
  rw [hBk] at bk hsz ⊢
  clear HPSX cf X0 hBk
  obtain ⟨Wk, hWk⟩ : ∃ Wk, WX.alloc (.cells #[.int .i64 0] 3) = Wk := ⟨_, rfl⟩
  rw [hWk] at bk HF1 hsz ⊢
  clear hWk
  have Xk := Aside0.mk (HST.out.at HF1.out)
  have hown : ∀ ad, Ao = some ad → ad.block < n9 := HST.out.own
  refine wpIn_rangeV_out (by decide) (gf := 49) (lb := #[.pointer (some ⟨Bn, 0, none⟩), .pointer (some ⟨Bo, 0, none⟩)]) rfl trivial (enters_of Try.func49 (by kernel_rfl) rfl) (HSEQ.out 4 Wk (by decide) Xk.out.2.2.2.2.2.1.cell Xk.out.2.2.2.2.2.2.1.cell Xk.out.2.2.2.2.2.2.2 (fun ad e => by have := hown ad e; omega)) (fun h h' => h.trans h') (fun W l o o' hl ho hc => ⟨by simp, World.putObj_heap_other (by omega), World.putObj_heap_other (by omega), fun ad e => World.putObj_heap_other (by have := hown ad e; omega)⟩) (Below.refl _ _) (fun _ => rfl)
    (fun j W => Boxed W Bk 3 (.int .i64 (j : Int)) ∧ (PS W9 n9 [] W ∧ Wk.heap.size ≤ W.heap.size)) (fun _ _ => False) (fun j => Lasts.and (Lasts.boxed _ _ _ _) (Lasts.and (PS.lasts (by omega) (fun D hD => by have := hDs D hD; omega)) (Lasts.size _ _))) (fun c => Lasts.const _ False) ⟨bk, HF1.out, Nat.le_refl _⟩ ?round rfl ?done ?stop
  case stop =>
    intro D c W _ h _
    exact h.elim
  case round =>
    rintro l j' ⟨j, A1, c1⟩ W hl ⟨hbk, hps, hws⟩ ⟨hj', hRp⟩ hj
    obtain rfl : j = j' := hj'
    simp only [pcEnc]
    have hRp' : Kd.R Kd.bool 4 W Wk.heap.size (fun _ => True) (.slice A1 (min nn (N - j * nn)) c1) (pieceL l0 nn j) := by
      have h := hRp
      rw [HN.out] at h
      exact h
    have hpl : (pieceL l0 nn j).length = min nn (N - j * nn) := by rw [pieceL_length, HN.out]
    have hrd := rd_pc l0 nn M j hj
    rw [← HWANT.out] at hrd
    have hpN := hkn j hj
    obtain ⟨p, hp⟩ : ∃ p, j * nn = p := ⟨_, rfl⟩
    obtain ⟨q, hq⟩ : ∃ q, min nn (N - j * nn) = q := ⟨_, rfl⟩
    obtain ⟨PL, hPL⟩ : ∃ PL, pieceL l0 nn j = PL := ⟨_, rfl⟩
    rw [hq, hPL] at hRp' hpl
    rw [hp, hPL] at hrd
    rw [hp] at hpN
    rw [hq, hp] at ⊢
    have HPLL := Aside0.mk hpl
    have hqN : q ≤ 1048576 := by have := HL.out; omega
    have hN := HL.out
    clear hRp hpl hp hq hPL Xk
    gi_wp2
    refine ⟨KeepsFrom.refl _ _, KpP.refl _ _ _ _, ?_⟩
    try simp only [forall_exists_index]
    intro W2 rr hrr hT
    have HBK2 := Aside0.mk (hT _ (Lasts.boxed _ _ _ _) hbk)
    have HRP2 := Aside0.mk (hT _ Lasts.row hRp')
    have HPS2 := Aside0.mk (hT _ (PS.lasts (Ds := []) (by omega) (fun D hD => by have := hDs D hD; omega)) hps)
    have hs2 : Wk.heap.size ≤ W2.heap.size := hT _ (Lasts.size _ _) hws
    have X2 := Aside0.mk (HST.out.at HPS2.out)
    obtain ⟨ad, A2, c2, eA, y0, y1, hle, hCi⟩ := at_T34 X2.out.2.2.2.1 (j : Int) (by omega) (by omega)
    rw [hrd] at y0 y1 hle hCi
    simp only [Int.toNat_natCast] at y0 y1
    dsimp only at hle hCi
    rw [HPLL.out] at y1 hle hCi
    have HCI := Aside0.mk hCi
    have kk := HBK2.out.cell
    have kW : W2.cell? ⟨bw, 0, none⟩ = some (.slice (some ad) M cW) := eA ▸ X2.out.2.2.1.cell
    have HEA := Aside0.mk eA
    have HRR := Aside0.mk hrr
    have g1 : (j : Int) < (M : Int) := by omega
    have g4 : ¬ ((j : Int) = (M : Int)) := by omega
    have g5 : ¬ (j = M) := by omega
    clear hT hrr hbk hRp' hps hws hrd hCi eA
    have FIN : ∀ V, Boxed V Bk 3 (.int .i64 (j : Int)) → PS W9 n9 [] V → W2.heap.size ≤ V.heap.size → KeepsFrom Wk.heap.size W2 V → (KeepsFrom Wk.heap.size W2 (V.setCell ⟨Bk, 0, none⟩ (.int .i64 ((j : Int) + 1))) ∧ KpP Bn Bo Ao W2 (V.setCell ⟨Bk, 0, none⟩ (.int .i64 ((j : Int) + 1))) ∧ (Boxed (V.setCell ⟨Bk, 0, none⟩ (.int .i64 ((j : Int) + 1))) Bk 3 (.int .i64 ((j + 1 : Nat) : Int)) ∧ (PS W9 n9 [] (V.setCell ⟨Bk, 0, none⟩ (.int .i64 ((j : Int) + 1))) ∧ Wk.heap.size ≤ (V.setCell ⟨Bk, 0, none⟩ (.int .i64 ((j : Int) + 1))).heap.size))) := by
      intro V h1 h2 h3 h4
      have h5 := h2.setK hn9 hDs (.int .i64 ((j : Int) + 1))
      have h6 := h1.set (.int .i64 ((j : Int) + 1))
      rw [show ((j + 1 : Nat) : Int) = (j : Int) + 1 by omega]
      have h7 : V.heap.size = (V.setCell ⟨Bk, 0, none⟩ (.int .i64 ((j : Int) + 1))).heap.size := by simp
      exact ⟨h4.trans ((KeepsOthers.setCell _ _ _).from _), HPS2.out.kp h5 (by omega) (by omega) (by omega) hown, h6, h5, by omega⟩
    have HFIN := Aside0.mk FIN
    clear FIN
    gi_wp2_with (refine ⟨trivial, ?_⟩; gi_at_call 21; refine (CallsIn.inRound l (callsIn_wide.2 (same_nP A1 c1 A2 c2 q q PL W2 HPLL.out HPLL.out (R_numP HRP2.out) (Kd.R_reads' HRP2.out).2.1 HCI.out hle (by omega)))).mono ?_; rintro e W3 ⟨rfl, hb⟩; have HB3 := Aside0.mk hb; have HBK3 := Aside0.mk (bx_belowP HBK2.out hb); have HRP3 := Aside0.mk (Kd.R_below HRP2.out hb); have HPS3 := Aside0.mk (HPS2.out.grow hb); have hs3 := hb.size; clear hb kk kW y0 y1; have X3 := Aside0.mk (HST.out.at HPS3.out); have ck := HBK3.out.cell; have cst := X3.out.1.cell; have cf3 := (HST.out.at (HPS3.out.grow (below_alloc (Below.refl _ _) (.cells #[.int .i64 0] 3)))).2.2.2.2.1.cell)
    · have HFj := Aside0.mk (HPS3.out.grow (below_alloc (Below.refl _ _) (.cells #[.int .i64 0] 3)))
      have HRPj := Aside0.mk (Kd.R_alloc HRP3.out (.cells #[.int .i64 0] 3))
      have hownp : ∀ k, (Value.slice A1 q c1).ownBlock = some k → k < W3.heap.size := fun k hk => own_lt_now HRP3.out k hk
      have hbj := Boxed.new W3 3 (.int .i64 0)
      have hbkj := HBK3.out.alloc (.cells #[.int .i64 0] 3)
      have hszj : (W3.alloc (.cells #[.int .i64 0] 3)).heap.size = W3.heap.size + 1 := by simp
      have hkj : KeepsFrom Wk.heap.size W2 (W3.alloc (.cells #[.int .i64 0] 3)) := (keeps_below HB3.out).trans ((KeepsOthers.alloc _ _).from _)
      have hr0 := HRR.out
      have hr1 : (W3.alloc (.cells #[.int .i64 0] 3)).heap[l]? = some (.loop rr) := (Below.heap_alloc _ _ _ (by have := (Array.getElem?_eq_some_iff.1 hr0).1; omega)).trans ((HB3.out.block _ (Array.getElem?_eq_some_iff.1 hr0).1).trans hr0)
      obtain ⟨Bj, hBj⟩ : ∃ b, W3.heap.size = b := ⟨_, rfl⟩
      have hn9j : n9 ≤ Bj := hBj ▸ HPS3.out.2.1
      have hBkj : Bk < Bj := hBj ▸ HBK3.out.lt
      have hDj : ∀ D ∈ [], D < Bj := fun D hD => Nat.lt_trans (hDs D hD) hBkj
      rw [hBj] at hbj hszj hs3 hownp ⊢
      clear cf3 ck cst X3 hBj hr0
      obtain ⟨Wj, hWj⟩ : ∃ Wj, W3.alloc (.cells #[.int .i64 0] 3) = Wj := ⟨_, rfl⟩
      rw [hWj] at HFj HRPj hbj hbkj hszj hkj hr1 ⊢
      clear hWj
      have Xj := Aside0.mk (HST.out.at HFj.out)
      refine wpIn_rangeV_in (by decide) (gf := 49) (lb := #[.pointer (some ⟨Bn, 0, none⟩), .pointer (some ⟨Bo, 0, none⟩)]) rfl trivial (enters_of Try.func49 (by kernel_rfl) rfl) (SeqV.inRound l (HSEQ.out 2 Wj (by decide) Xj.out.2.2.2.2.2.1.cell Xj.out.2.2.2.2.2.2.1.cell Xj.out.2.2.2.2.2.2.2 (fun ad e => by have := hown ad e; omega))) (fun h h' => h.trans h') (fun W l o o' hl ho hc => ⟨by simp, World.putObj_heap_other (by omega), World.putObj_heap_other (by omega), fun ad e => World.putObj_heap_other (by have := hown ad e; omega)⟩) (Below.refl _ _) (fun _ => rfl)
        (fun i V => Boxed V Bj 3 (.int .i64 (i : Int)) ∧ (Boxed V Bk 3 (.int .i64 (j : Int)) ∧ (Kd.R Kd.bool 4 V Wk.heap.size (fun _ => True) (.slice A1 q c1) PL ∧ (PS W9 n9 [] V ∧ (Wj.heap.size ≤ V.heap.size ∧ KeepsFrom Wk.heap.size W2 V)))))
        (fun cd V => cd = .exit 4 ∧ (Boxed V Bk 3 (.int .i64 (j : Int)) ∧ (Kd.R Kd.bool 4 V Wk.heap.size (fun _ => True) (.slice A1 q c1) PL ∧ (PS W9 n9 [] V ∧ (Wj.heap.size ≤ V.heap.size ∧ KeepsFrom Wk.heap.size W2 V)))))
        (fun i => Lasts.and (Lasts.boxed _ _ _ _) (Lasts.and (Lasts.boxed _ _ _ _) (Lasts.and Lasts.row (Lasts.and (PS.lasts (by omega) (fun D hD => by have := hDj D hD; omega)) (Lasts.and (Lasts.size _ _) (Lasts.keeps (by omega)))))))
        (fun cd => Lasts.and (Lasts.const _ _) (Lasts.and (Lasts.boxed _ _ _ _) (Lasts.and Lasts.row (Lasts.and (PS.lasts (by omega) (fun D hD => by have := hDj D hD; omega)) (Lasts.and (Lasts.size _ _) (Lasts.keeps (by omega)))))))
        ⟨hbj, hbkj, HRPj.out, HFj.out, Nat.le_refl _, hkj⟩ ?round2 rfl hr1 ?done2 ?stop2
      case done2 =>
        rintro V ⟨hbj, hbk, hrp, hps, hws, hkf⟩
        have HBKV := Aside0.mk hbk
        have HRPV := Aside0.mk hrp
        have HPSV := Aside0.mk hps
        have HKFV := Aside0.mk hkf
        clear hbj hbk hrp hps hkf hkj hbkj Xj
        gi_wp2_with (refine ⟨trivial, ?_⟩; gi_at_call 20; refine (CallsIn.inRound l (callsIn_wide.2 (turn_p (.slice A1 q c1) PL HPSV.out HST.out.size HRPV.out (by omega) (fun D hD => by have := hDs D hD; omega) (by have := HPLL.out; omega)))).mono ?_; rintro e V4 ⟨rfl, hps4, hlow4, hkf4, hsz4⟩; have HP4 := Aside0.mk hps4; have HB4 := Aside0.mk (show Boxed V4 Bk 3 (.int .i64 (j : Int)) from (hlow4 Bk (by omega) HBKV.out.lt).trans HBKV.out); have HF4 := Aside0.mk (HKFV.out.trans (hkf4 Wk.heap.size)); have ck4 := HB4.out.cell; have fk4 := HB4.out.frozen; clear hps4 hlow4 hkf4)
        exact HFIN.out V4 HB4.out HP4.out (by omega) HF4.out
      case stop2 =>
        rintro cd V ⟨rfl, hbk, hrp, hps, hws, hkf⟩
        have HBKV := Aside0.mk hbk
        have HRPV := Aside0.mk hrp
        have HPSV := Aside0.mk hps
        have HKFV := Aside0.mk hkf
        clear hbk hrp hps hkf hkj hbkj Xj
        gi_wp2_with (refine ⟨trivial, ?_⟩; gi_at_call 20; refine (CallsIn.inRound l (callsIn_wide.2 (turn_p (.slice A1 q c1) PL HPSV.out HST.out.size HRPV.out (by omega) (fun D hD => by have := hDs D hD; omega) (by have := HPLL.out; omega)))).mono ?_; rintro e V4 ⟨rfl, hps4, hlow4, hkf4, hsz4⟩; have HP4 := Aside0.mk hps4; have HB4 := Aside0.mk (show Boxed V4 Bk 3 (.int .i64 (j : Int)) from (hlow4 Bk (by omega) HBKV.out.lt).trans HBKV.out); have HF4 := Aside0.mk (HKFV.out.trans (hkf4 Wk.heap.size)); have ck4 := HB4.out.cell; have fk4 := HB4.out.frozen; clear hps4 hlow4 hkf4)
        exact HFIN.out V4 HB4.out HP4.out (by omega) HF4.out
      case round2 =>
        rintro l2 i' ⟨i, A3, c3⟩ V hl2 ⟨hbj, hbk, hrp, hps, hws, hkf⟩ ⟨hi', hRq⟩ hi
        obtain rfl : i = i' := hi'
        simp only [pcEnc]
        have hRq' : Kd.R Kd.bool 4 V Wj.heap.size (fun _ => True) (.slice A3 (min nn (N - i * nn)) c3) (pieceL l0 nn i) := by
          have h := hRq
          rw [HN.out] at h
          exact h
        have hpl2 : (pieceL l0 nn i).length = min nn (N - i * nn) := by rw [pieceL_length, HN.out]
        have hrd2 := rd_pc l0 nn M i hi
        rw [← HWANT.out] at hrd2
        have hpN2 := hkn i hi
        obtain ⟨p2, hp2⟩ : ∃ p, i * nn = p := ⟨_, rfl⟩
        obtain ⟨q2, hq2⟩ : ∃ q, min nn (N - i * nn) = q := ⟨_, rfl⟩
        obtain ⟨PL2, hPL2⟩ : ∃ PL, pieceL l0 nn i = PL := ⟨_, rfl⟩
        rw [hq2, hPL2] at hRq' hpl2
        rw [hp2, hPL2] at hrd2
        rw [hp2] at hpN2
        rw [hq2, hp2] at ⊢
        have HPLL2 := Aside0.mk hpl2
        have hqN2 : q2 ≤ 1048576 := by omega
        clear hRq hpl2 hp2 hq2 hPL2 Xj hbkj hkj
        gi_wp2
        refine ⟨KeepsFrom.refl _ _, KpP.refl _ _ _ _, ?_⟩
        try simp only [forall_exists_index]
        intro V2 rr2 hrr2 hT
        have HBJ2 := Aside0.mk (hT _ (Lasts.boxed _ _ _ _) hbj)
        have HBV2 := Aside0.mk (hT _ (Lasts.boxed _ _ _ _) hbk)
        have HRV2 := Aside0.mk (hT _ Lasts.row hrp)
        have HRQ2 := Aside0.mk (hT _ Lasts.row hRq')
        have HPV2 := Aside0.mk (hT _ (PS.lasts (Ds := []) (by omega) (fun D hD => by have := hDj D hD; omega)) hps)
        have hs4 : Wj.heap.size ≤ V2.heap.size := hT _ (Lasts.size _ _) hws
        have HKF2 := Aside0.mk (hT _ (Lasts.keeps (B := Wk.heap.size) (X := W2) (by omega)) hkf)
        have Y2 := Aside0.mk (HST.out.at HPV2.out)
        obtain ⟨ad2, A4, c4, eA2, y0, y1, hle2, hCi2⟩ := at_T34 Y2.out.2.2.2.1 (i : Int) (by omega) (by omega)
        rw [hrd2] at y0 y1 hle2 hCi2
        simp only [Int.toNat_natCast] at y0 y1
        dsimp only at hle2 hCi2
        rw [HPLL2.out] at y1 hle2 hCi2
        have HCI2 := Aside0.mk hCi2
        have kk := HBJ2.out.cell
        have kW : V2.cell? ⟨bw, 0, none⟩ = some (.slice (some ad2) M cW) := eA2 ▸ Y2.out.2.2.1.cell
        have HEA2 := Aside0.mk eA2
        have g1 : (i : Int) < (M : Int) := by omega
        have g4 : ¬ ((i : Int) = (M : Int)) := by omega
        have g5 : ¬ (i = M) := by omega
        clear hT hrr2 hbk hbj hrp hRq' hps hws hkf hrd2 hCi2 eA2
        gi_wp2_with (refine ⟨trivial, ?_⟩; gi_at_call 21; refine (CallsIn.inRound l2 (CallsIn.inRound l (callsIn_wide.2 (same_nP A3 c3 A4 c4 q2 q2 PL2 V2 HPLL2.out HPLL2.out (R_numP HRQ2.out) (Kd.R_reads' HRQ2.out).2.1 HCI2.out hle2 (by omega))))).mono ?_; rintro e V3 ⟨rfl, hb⟩; have HB3v := Aside0.mk hb; have HBJ3 := Aside0.mk (bx_belowP HBJ2.out hb); have HBV3 := Aside0.mk (bx_belowP HBV2.out hb); have HRV3 := Aside0.mk (Kd.R_below HRV2.out hb); have HPV3 := Aside0.mk (HPV2.out.grow hb); have hs5 := hb.size; clear hb kk kW y0 y1; have cj := HBJ3.out.cell; have fj := HBJ3.out.frozen; have HV4 := Aside0.mk (HPV3.out.setK hn9j hDj (.int .i64 ((i : Int) + 1))); have HJ4 := Aside0.mk (HBJ3.out.set (.int .i64 ((i : Int) + 1))); have HK4 := Aside0.mk (HBV3.out.other (show Bk ≠ Bj by omega) (.int .i64 ((i : Int) + 1))); have cst4 := (HST.out.at HV4.out).1.cell; have cj4 := HJ4.out.cell)
        all_goals
          have HR4 : Aside0 (Kd.R Kd.bool 4 (V3.setCell ⟨Bj, 0, none⟩ (.int .i64 ((i : Int) + 1))) Wk.heap.size (fun _ => True) (.slice A1 q c1) PL) := ⟨R_setoff HRV3.out (fun k hk => by have := hownp k hk; omega)⟩
          have HQ4 : Aside0 (KeepsFrom Wk.heap.size W2 (V3.setCell ⟨Bj, 0, none⟩ (.int .i64 ((i : Int) + 1)))) := ⟨(HKF2.out.trans (keeps_below HB3v.out)).trans ((KeepsOthers.setCell _ _ _).from _)⟩
          have HQ5 : Aside0 (KeepsFrom Wj.heap.size V2 (V3.setCell ⟨Bj, 0, none⟩ (.int .i64 ((i : Int) + 1)))) := ⟨(keeps_below HB3v.out).trans ((KeepsOthers.setCell _ _ _).from _)⟩
          have hz4 : V3.heap.size = (V3.setCell ⟨Bj, 0, none⟩ (.int .i64 ((i : Int) + 1))).heap.size := by simp
          have HZ4 : Aside0 (Wj.heap.size ≤ (V3.setCell ⟨Bj, 0, none⟩ (.int .i64 ((i : Int) + 1))).heap.size) := ⟨by omega⟩
        · exact ⟨HQ5.out, rfl, HK4.out, HR4.out, HV4.out, HZ4.out, HQ4.out⟩
        · refine ⟨HQ5.out, HPV2.out.kp HV4.out (by omega) (by omega) (by omega) hown, ?_, HK4.out, HR4.out, HV4.out, HZ4.out, HQ4.out⟩
          rw [show ((i + 1 : Nat) : Int) = (i : Int) + 1 by omega]
          exact HJ4.out
    · obtain ⟨V, hV⟩ : ∃ V, W3 = V := ⟨_, rfl⟩
      have HKFV : Aside0 (KeepsFrom Wk.heap.size W2 V) := ⟨hV ▸ keeps_below HB3.out⟩
      have hws : W2.heap.size ≤ V.heap.size := hV ▸ hs3
      rw [hV] at HBK3 HRP3 HPS3 ⊢
      have HBKV := Aside0.mk HBK3.out
      have HRPV := Aside0.mk HRP3.out
      have HPSV := Aside0.mk HPS3.out
      clear hV ck cst cf3 X3
      gi_wp2_with (refine ⟨trivial, ?_⟩; gi_at_call 20; refine (CallsIn.inRound l (callsIn_wide.2 (turn_p (.slice A1 q c1) PL HPSV.out HST.out.size HRPV.out (by omega) (fun D hD => by have := hDs D hD; omega) (by have := HPLL.out; omega)))).mono ?_; rintro e V4 ⟨rfl, hps4, hlow4, hkf4, hsz4⟩; have HP4 := Aside0.mk hps4; have HB4 := Aside0.mk (show Boxed V4 Bk 3 (.int .i64 (j : Int)) from (hlow4 Bk (by omega) HBKV.out.lt).trans HBKV.out); have HF4 := Aside0.mk (HKFV.out.trans (hkf4 Wk.heap.size)); have ck4 := HB4.out.cell; have fk4 := HB4.out.frozen; clear hps4 hlow4 hkf4)
      exact HFIN.out V4 HB4.out HP4.out (by omega) HF4.out
  case done =>
    rintro D1 W hD ⟨hbk, hps, hws⟩ hK
    have X9 := Aside0.mk (HST.out.at hps)
    have cd1 := hbk.cell
    have cd2 := X9.out.2.2.1.cell
    have HPSD := Aside0.mk hps
    have HKD := Aside0.mk hK
    clear hbk hps hK Xk
    go_wp2
    have HPSX : Aside0 (PS W9 n9 [D1] W) := ⟨HPSD.out.more HKD.out⟩
    have hD1n : n9 ≤ D1 := by omega
    clear cd1 cd2 X9 HPSD HKD bk HF1 hDs hD hws hn9 hlo hsz hown
    obtain ⟨WX, rfl⟩ : ∃ WX : World, WX = W := ⟨_, rfl⟩
    rw [rounds_succ]
    have X0 := Aside0.mk (HST.out.at (HPSX.out.grow (below_alloc (Below.refl _ _) (.cells #[.int .i64 0] 3))))
    have cf := X0.out.2.2.2.2.1.cell
    go_wp2
    refine (wpIn_wide (n := 5)).1 ?_
    have HF1 := Aside0.mk (HPSX.out.grow (below_alloc (Below.refl _ _) (.cells #[.int .i64 0] 3)))
    have bk := Boxed.new WX 3 (.int .i64 0)
    have hsz : (WX.alloc (.cells #[.int .i64 0] 3)).heap.size = WX.heap.size + 1 := by simp
    obtain ⟨Bk, hBk⟩ : ∃ b, WX.heap.size = b := ⟨_, rfl⟩
    have hn9 : n9 ≤ Bk := hBk ▸ HPSX.out.2.1
    have hlo := HST.out.lo
    have hDs : ∀ D ∈ [D1], D < Bk := fun D hD => hBk ▸ (Array.getElem?_eq_some_iff.1 (HPSX.out.2.2 D hD)).1
    rw [hBk] at bk hsz ⊢
    clear HPSX cf X0 hBk
    obtain ⟨Wk, hWk⟩ : ∃ Wk, WX.alloc (.cells #[.int .i64 0] 3) = Wk := ⟨_, rfl⟩
    rw [hWk] at bk HF1 hsz ⊢
    clear hWk
    have Xk := Aside0.mk (HST.out.at HF1.out)
    have hown : ∀ ad, Ao = some ad → ad.block < n9 := HST.out.own
    refine wpIn_rangeV_out (by decide) (gf := 49) (lb := #[.pointer (some ⟨Bn, 0, none⟩), .pointer (some ⟨Bo, 0, none⟩)]) rfl trivial (enters_of Try.func49 (by kernel_rfl) rfl) (HSEQ.out 4 Wk (by decide) Xk.out.2.2.2.2.2.1.cell Xk.out.2.2.2.2.2.2.1.cell Xk.out.2.2.2.2.2.2.2 (fun ad e => by have := hown ad e; omega)) (fun h h' => h.trans h') (fun W l o o' hl ho hc => ⟨by simp, World.putObj_heap_other (by omega), World.putObj_heap_other (by omega), fun ad e => World.putObj_heap_other (by have := hown ad e; omega)⟩) (Below.refl _ _) (fun _ => rfl)
      (fun j W => Boxed W Bk 3 (.int .i64 (j : Int)) ∧ (PS W9 n9 [D1] W ∧ Wk.heap.size ≤ W.heap.size)) (fun _ _ => False) (fun j => Lasts.and (Lasts.boxed _ _ _ _) (Lasts.and (PS.lasts (by omega) (fun D hD => by have := hDs D hD; omega)) (Lasts.size _ _))) (fun c => Lasts.const _ False) ⟨bk, HF1.out, Nat.le_refl _⟩ ?round rfl ?done ?stop
    case stop =>
      intro D c W _ h _
      exact h.elim
    case round =>
      rintro l j' ⟨j, A1, c1⟩ W hl ⟨hbk, hps, hws⟩ ⟨hj', hRp⟩ hj
      obtain rfl : j = j' := hj'
      simp only [pcEnc]
      have hRp' : Kd.R Kd.bool 4 W Wk.heap.size (fun _ => True) (.slice A1 (min nn (N - j * nn)) c1) (pieceL l0 nn j) := by
        have h := hRp
        rw [HN.out] at h
        exact h
      have hpl : (pieceL l0 nn j).length = min nn (N - j * nn) := by rw [pieceL_length, HN.out]
      have hrd := rd_pc l0 nn M j hj
      rw [← HWANT.out] at hrd
      have hpN := hkn j hj
      obtain ⟨p, hp⟩ : ∃ p, j * nn = p := ⟨_, rfl⟩
      obtain ⟨q, hq⟩ : ∃ q, min nn (N - j * nn) = q := ⟨_, rfl⟩
      obtain ⟨PL, hPL⟩ : ∃ PL, pieceL l0 nn j = PL := ⟨_, rfl⟩
      rw [hq, hPL] at hRp' hpl
      rw [hp, hPL] at hrd
      rw [hp] at hpN
      rw [hq, hp] at ⊢
      have HPLL := Aside0.mk hpl
      have hqN : q ≤ 1048576 := by have := HL.out; omega
      have hN := HL.out
      clear hRp hpl hp hq hPL Xk
      gi_wp2
      refine ⟨KeepsFrom.refl _ _, KpP.refl _ _ _ _, ?_⟩
      try simp only [forall_exists_index]
      intro W2 rr hrr hT
      have HBK2 := Aside0.mk (hT _ (Lasts.boxed _ _ _ _) hbk)
      have HRP2 := Aside0.mk (hT _ Lasts.row hRp')
      have HPS2 := Aside0.mk (hT _ (PS.lasts (Ds := [D1]) (by omega) (fun D hD => by have := hDs D hD; omega)) hps)
      have hs2 : Wk.heap.size ≤ W2.heap.size := hT _ (Lasts.size _ _) hws
      have X2 := Aside0.mk (HST.out.at HPS2.out)
      obtain ⟨ad, A2, c2, eA, y0, y1, hle, hCi⟩ := at_T34 X2.out.2.2.2.1 (j : Int) (by omega) (by omega)
      rw [hrd] at y0 y1 hle hCi
      simp only [Int.toNat_natCast] at y0 y1
      dsimp only at hle hCi
      rw [HPLL.out] at y1 hle hCi
      have HCI := Aside0.mk hCi
      have kk := HBK2.out.cell
      have kW : W2.cell? ⟨bw, 0, none⟩ = some (.slice (some ad) M cW) := eA ▸ X2.out.2.2.1.cell
      have HEA := Aside0.mk eA
      have HRR := Aside0.mk hrr
      have g1 : (j : Int) < (M : Int) := by omega
      have g4 : ¬ ((j : Int) = (M : Int)) := by omega
      have g5 : ¬ (j = M) := by omega
      clear hT hrr hbk hRp' hps hws hrd hCi eA
      have FIN : ∀ V, Boxed V Bk 3 (.int .i64 (j : Int)) → PS W9 n9 [D1] V → W2.heap.size ≤ V.heap.size → KeepsFrom Wk.heap.size W2 V → (KeepsFrom Wk.heap.size W2 (V.setCell ⟨Bk, 0, none⟩ (.int .i64 ((j : Int) + 1))) ∧ KpP Bn Bo Ao W2 (V.setCell ⟨Bk, 0, none⟩ (.int .i64 ((j : Int) + 1))) ∧ (Boxed (V.setCell ⟨Bk, 0, none⟩ (.int .i64 ((j : Int) + 1))) Bk 3 (.int .i64 ((j + 1 : Nat) : Int)) ∧ (PS W9 n9 [D1] (V.setCell ⟨Bk, 0, none⟩ (.int .i64 ((j : Int) + 1))) ∧ Wk.heap.size ≤ (V.setCell ⟨Bk, 0, none⟩ (.int .i64 ((j : Int) + 1))).heap.size))) := by
        intro V h1 h2 h3 h4
        have h5 := h2.setK hn9 hDs (.int .i64 ((j : Int) + 1))
        have h6 := h1.set (.int .i64 ((j : Int) + 1))
        rw [show ((j + 1 : Nat) : Int) = (j : Int) + 1 by omega]
        have h7 : V.heap.size = (V.setCell ⟨Bk, 0, none⟩ (.int .i64 ((j : Int) + 1))).heap.size := by simp
        exact ⟨h4.trans ((KeepsOthers.setCell _ _ _).from _), HPS2.out.kp h5 (by omega) (by omega) (by omega) hown, h6, h5, by omega⟩
      have HFIN := Aside0.mk FIN
      clear FIN
      gi_wp2_with (refine ⟨trivial, ?_⟩; gi_at_call 21; refine (CallsIn.inRound l (callsIn_wide.2 (same_nP A1 c1 A2 c2 q q PL W2 HPLL.out HPLL.out (R_numP HRP2.out) (Kd.R_reads' HRP2.out).2.1 HCI.out hle (by omega)))).mono ?_; rintro e W3 ⟨rfl, hb⟩; have HB3 := Aside0.mk hb; have HBK3 := Aside0.mk (bx_belowP HBK2.out hb); have HRP3 := Aside0.mk (Kd.R_below HRP2.out hb); have HPS3 := Aside0.mk (HPS2.out.grow hb); have hs3 := hb.size; clear hb kk kW y0 y1; have X3 := Aside0.mk (HST.out.at HPS3.out); have ck := HBK3.out.cell; have cst := X3.out.1.cell; have cf3 := (HST.out.at (HPS3.out.grow (below_alloc (Below.refl _ _) (.cells #[.int .i64 0] 3)))).2.2.2.2.1.cell)
      · have HFj := Aside0.mk (HPS3.out.grow (below_alloc (Below.refl _ _) (.cells #[.int .i64 0] 3)))
        have HRPj := Aside0.mk (Kd.R_alloc HRP3.out (.cells #[.int .i64 0] 3))
        have hownp : ∀ k, (Value.slice A1 q c1).ownBlock = some k → k < W3.heap.size := fun k hk => own_lt_now HRP3.out k hk
        have hbj := Boxed.new W3 3 (.int .i64 0)
        have hbkj := HBK3.out.alloc (.cells #[.int .i64 0] 3)
        have hszj : (W3.alloc (.cells #[.int .i64 0] 3)).heap.size = W3.heap.size + 1 := by simp
        have hkj : KeepsFrom Wk.heap.size W2 (W3.alloc (.cells #[.int .i64 0] 3)) := (keeps_below HB3.out).trans ((KeepsOthers.alloc _ _).from _)
        have hr0 := HRR.out
        have hr1 : (W3.alloc (.cells #[.int .i64 0] 3)).heap[l]? = some (.loop rr) := (Below.heap_alloc _ _ _ (by have := (Array.getElem?_eq_some_iff.1 hr0).1; omega)).trans ((HB3.out.block _ (Array.getElem?_eq_some_iff.1 hr0).1).trans hr0)
        obtain ⟨Bj, hBj⟩ : ∃ b, W3.heap.size = b := ⟨_, rfl⟩
        have hn9j : n9 ≤ Bj := hBj ▸ HPS3.out.2.1
        have hBkj : Bk < Bj := hBj ▸ HBK3.out.lt
        have hDj : ∀ D ∈ [D1], D < Bj := fun D hD => Nat.lt_trans (hDs D hD) hBkj
        rw [hBj] at hbj hszj hs3 hownp ⊢
        clear cf3 ck cst X3 hBj hr0
        obtain ⟨Wj, hWj⟩ : ∃ Wj, W3.alloc (.cells #[.int .i64 0] 3) = Wj := ⟨_, rfl⟩
        rw [hWj] at HFj HRPj hbj hbkj hszj hkj hr1 ⊢
        clear hWj
        have Xj := Aside0.mk (HST.out.at HFj.out)
        refine wpIn_rangeV_in (by decide) (gf := 49) (lb := #[.pointer (some ⟨Bn, 0, none⟩), .pointer (some ⟨Bo, 0, none⟩)]) rfl trivial (enters_of Try.func49 (by kernel_rfl) rfl) (SeqV.inRound l (HSEQ.out 2 Wj (by decide) Xj.out.2.2.2.2.2.1.cell Xj.out.2.2.2.2.2.2.1.cell Xj.out.2.2.2.2.2.2.2 (fun ad e => by have := hown ad e; omega))) (fun h h' => h.trans h') (fun W l o o' hl ho hc => ⟨by simp, World.putObj_heap_other (by omega), World.putObj_heap_other (by omega), fun ad e => World.putObj_heap_other (by have := hown ad e; omega)⟩) (Below.refl _ _) (fun _ => rfl)
          (fun i V => Boxed V Bj 3 (.int .i64 (i : Int)) ∧ (Boxed V Bk 3 (.int .i64 (j : Int)) ∧ (Kd.R Kd.bool 4 V Wk.heap.size (fun _ => True) (.slice A1 q c1) PL ∧ (PS W9 n9 [D1] V ∧ (Wj.heap.size ≤ V.heap.size ∧ KeepsFrom Wk.heap.size W2 V)))))
          (fun cd V => cd = .exit 4 ∧ (Boxed V Bk 3 (.int .i64 (j : Int)) ∧ (Kd.R Kd.bool 4 V Wk.heap.size (fun _ => True) (.slice A1 q c1) PL ∧ (PS W9 n9 [D1] V ∧ (Wj.heap.size ≤ V.heap.size ∧ KeepsFrom Wk.heap.size W2 V)))))
          (fun i => Lasts.and (Lasts.boxed _ _ _ _) (Lasts.and (Lasts.boxed _ _ _ _) (Lasts.and Lasts.row (Lasts.and (PS.lasts (by omega) (fun D hD => by have := hDj D hD; omega)) (Lasts.and (Lasts.size _ _) (Lasts.keeps (by omega)))))))
          (fun cd => Lasts.and (Lasts.const _ _) (Lasts.and (Lasts.boxed _ _ _ _) (Lasts.and Lasts.row (Lasts.and (PS.lasts (by omega) (fun D hD => by have := hDj D hD; omega)) (Lasts.and (Lasts.size _ _) (Lasts.keeps (by omega)))))))
          ⟨hbj, hbkj, HRPj.out, HFj.out, Nat.le_refl _, hkj⟩ ?round2 rfl hr1 ?done2 ?stop2
        case done2 =>
          rintro V ⟨hbj, hbk, hrp, hps, hws, hkf⟩
          have HBKV := Aside0.mk hbk
          have HRPV := Aside0.mk hrp
          have HPSV := Aside0.mk hps
          have HKFV := Aside0.mk hkf
          clear hbj hbk hrp hps hkf hkj hbkj Xj
          gi_wp2_with (refine ⟨trivial, ?_⟩; gi_at_call 20; refine (CallsIn.inRound l (callsIn_wide.2 (turn_p (.slice A1 q c1) PL HPSV.out HST.out.size HRPV.out (by omega) (fun D hD => by have := hDs D hD; omega) (by have := HPLL.out; omega)))).mono ?_; rintro e V4 ⟨rfl, hps4, hlow4, hkf4, hsz4⟩; have HP4 := Aside0.mk hps4; have HB4 := Aside0.mk (show Boxed V4 Bk 3 (.int .i64 (j : Int)) from (hlow4 Bk (by omega) HBKV.out.lt).trans HBKV.out); have HF4 := Aside0.mk (HKFV.out.trans (hkf4 Wk.heap.size)); have ck4 := HB4.out.cell; have fk4 := HB4.out.frozen; clear hps4 hlow4 hkf4)
          exact HFIN.out V4 HB4.out HP4.out (by omega) HF4.out
        case stop2 =>
          rintro cd V ⟨rfl, hbk, hrp, hps, hws, hkf⟩
          have HBKV := Aside0.mk hbk
          have HRPV := Aside0.mk hrp
          have HPSV := Aside0.mk hps
          have HKFV := Aside0.mk hkf
          clear hbk hrp hps hkf hkj hbkj Xj
          gi_wp2_with (refine ⟨trivial, ?_⟩; gi_at_call 20; refine (CallsIn.inRound l (callsIn_wide.2 (turn_p (.slice A1 q c1) PL HPSV.out HST.out.size HRPV.out (by omega) (fun D hD => by have := hDs D hD; omega) (by have := HPLL.out; omega)))).mono ?_; rintro e V4 ⟨rfl, hps4, hlow4, hkf4, hsz4⟩; have HP4 := Aside0.mk hps4; have HB4 := Aside0.mk (show Boxed V4 Bk 3 (.int .i64 (j : Int)) from (hlow4 Bk (by omega) HBKV.out.lt).trans HBKV.out); have HF4 := Aside0.mk (HKFV.out.trans (hkf4 Wk.heap.size)); have ck4 := HB4.out.cell; have fk4 := HB4.out.frozen; clear hps4 hlow4 hkf4)
          exact HFIN.out V4 HB4.out HP4.out (by omega) HF4.out
        case round2 =>
          rintro l2 i' ⟨i, A3, c3⟩ V hl2 ⟨hbj, hbk, hrp, hps, hws, hkf⟩ ⟨hi', hRq⟩ hi
          obtain rfl : i = i' := hi'
          simp only [pcEnc]
          have hRq' : Kd.R Kd.bool 4 V Wj.heap.size (fun _ => True) (.slice A3 (min nn (N - i * nn)) c3) (pieceL l0 nn i) := by
            have h := hRq
            rw [HN.out] at h
            exact h
          have hpl2 : (pieceL l0 nn i).length = min nn (N - i * nn) := by rw [pieceL_length, HN.out]
          have hrd2 := rd_pc l0 nn M i hi
          rw [← HWANT.out] at hrd2
          have hpN2 := hkn i hi
          obtain ⟨p2, hp2⟩ : ∃ p, i * nn = p := ⟨_, rfl⟩
          obtain ⟨q2, hq2⟩ : ∃ q, min nn (N - i * nn) = q := ⟨_, rfl⟩
          obtain ⟨PL2, hPL2⟩ : ∃ PL, pieceL l0 nn i = PL := ⟨_, rfl⟩
          rw [hq2, hPL2] at hRq' hpl2
          rw [hp2, hPL2] at hrd2
          rw [hp2] at hpN2
          rw [hq2, hp2] at ⊢
          have HPLL2 := Aside0.mk hpl2
          have hqN2 : q2 ≤ 1048576 := by omega
          clear hRq hpl2 hp2 hq2 hPL2 Xj hbkj hkj
          gi_wp2
          refine ⟨KeepsFrom.refl _ _, KpP.refl _ _ _ _, ?_⟩
          try simp only [forall_exists_index]
          intro V2 rr2 hrr2 hT
          have HBJ2 := Aside0.mk (hT _ (Lasts.boxed _ _ _ _) hbj)
          have HBV2 := Aside0.mk (hT _ (Lasts.boxed _ _ _ _) hbk)
          have HRV2 := Aside0.mk (hT _ Lasts.row hrp)
          have HRQ2 := Aside0.mk (hT _ Lasts.row hRq')
          have HPV2 := Aside0.mk (hT _ (PS.lasts (Ds := [D1]) (by omega) (fun D hD => by have := hDj D hD; omega)) hps)
          have hs4 : Wj.heap.size ≤ V2.heap.size := hT _ (Lasts.size _ _) hws
          have HKF2 := Aside0.mk (hT _ (Lasts.keeps (B := Wk.heap.size) (X := W2) (by omega)) hkf)
          have Y2 := Aside0.mk (HST.out.at HPV2.out)
          obtain ⟨ad2, A4, c4, eA2, y0, y1, hle2, hCi2⟩ := at_T34 Y2.out.2.2.2.1 (i : Int) (by omega) (by omega)
          rw [hrd2] at y0 y1 hle2 hCi2
          simp only [Int.toNat_natCast] at y0 y1
          dsimp only at hle2 hCi2
          rw [HPLL2.out] at y1 hle2 hCi2
          have HCI2 := Aside0.mk hCi2
          have kk := HBJ2.out.cell
          have kW : V2.cell? ⟨bw, 0, none⟩ = some (.slice (some ad2) M cW) := eA2 ▸ Y2.out.2.2.1.cell
          have HEA2 := Aside0.mk eA2
          have g1 : (i : Int) < (M : Int) := by omega
          have g4 : ¬ ((i : Int) = (M : Int)) := by omega
          have g5 : ¬ (i = M) := by omega
          clear hT hrr2 hbk hbj hrp hRq' hps hws hkf hrd2 hCi2 eA2
          gi_wp2_with (refine ⟨trivial, ?_⟩; gi_at_call 21; refine (CallsIn.inRound l2 (CallsIn.inRound l (callsIn_wide.2 (same_nP A3 c3 A4 c4 q2 q2 PL2 V2 HPLL2.out HPLL2.out (R_numP HRQ2.out) (Kd.R_reads' HRQ2.out).2.1 HCI2.out hle2 (by omega))))).mono ?_; rintro e V3 ⟨rfl, hb⟩; have HB3v := Aside0.mk hb; have HBJ3 := Aside0.mk (bx_belowP HBJ2.out hb); have HBV3 := Aside0.mk (bx_belowP HBV2.out hb); have HRV3 := Aside0.mk (Kd.R_below HRV2.out hb); have HPV3 := Aside0.mk (HPV2.out.grow hb); have hs5 := hb.size; clear hb kk kW y0 y1; have cj := HBJ3.out.cell; have fj := HBJ3.out.frozen; have HV4 := Aside0.mk (HPV3.out.setK hn9j hDj (.int .i64 ((i : Int) + 1))); have HJ4 := Aside0.mk (HBJ3.out.set (.int .i64 ((i : Int) + 1))); have HK4 := Aside0.mk (HBV3.out.other (show Bk ≠ Bj by omega) (.int .i64 ((i : Int) + 1))); have cst4 := (HST.out.at HV4.out).1.cell; have cj4 := HJ4.out.cell)
          all_goals
            have HR4 : Aside0 (Kd.R Kd.bool 4 (V3.setCell ⟨Bj, 0, none⟩ (.int .i64 ((i : Int) + 1))) Wk.heap.size (fun _ => True) (.slice A1 q c1) PL) := ⟨R_setoff HRV3.out (fun k hk => by have := hownp k hk; omega)⟩
            have HQ4 : Aside0 (KeepsFrom Wk.heap.size W2 (V3.setCell ⟨Bj, 0, none⟩ (.int .i64 ((i : Int) + 1)))) := ⟨(HKF2.out.trans (keeps_below HB3v.out)).trans ((KeepsOthers.setCell _ _ _).from _)⟩
            have HQ5 : Aside0 (KeepsFrom Wj.heap.size V2 (V3.setCell ⟨Bj, 0, none⟩ (.int .i64 ((i : Int) + 1)))) := ⟨(keeps_below HB3v.out).trans ((KeepsOthers.setCell _ _ _).from _)⟩
            have hz4 : V3.heap.size = (V3.setCell ⟨Bj, 0, none⟩ (.int .i64 ((i : Int) + 1))).heap.size := by simp
            have HZ4 : Aside0 (Wj.heap.size ≤ (V3.setCell ⟨Bj, 0, none⟩ (.int .i64 ((i : Int) + 1))).heap.size) := ⟨by omega⟩
          · exact ⟨HQ5.out, rfl, HK4.out, HR4.out, HV4.out, HZ4.out, HQ4.out⟩
          · refine ⟨HQ5.out, HPV2.out.kp HV4.out (by omega) (by omega) (by omega) hown, ?_, HK4.out, HR4.out, HV4.out, HZ4.out, HQ4.out⟩
            rw [show ((i + 1 : Nat) : Int) = (i : Int) + 1 by omega]
            exact HJ4.out
      · obtain ⟨V, hV⟩ : ∃ V, W3 = V := ⟨_, rfl⟩
        have HKFV : Aside0 (KeepsFrom Wk.heap.size W2 V) := ⟨hV ▸ keeps_below HB3.out⟩
        have hws : W2.heap.size ≤ V.heap.size := hV ▸ hs3
        rw [hV] at HBK3 HRP3 HPS3 ⊢
        have HBKV := Aside0.mk HBK3.out
        have HRPV := Aside0.mk HRP3.out
        have HPSV := Aside0.mk HPS3.out
        clear hV ck cst cf3 X3
        gi_wp2_with (refine ⟨trivial, ?_⟩; gi_at_call 20; refine (CallsIn.inRound l (callsIn_wide.2 (turn_p (.slice A1 q c1) PL HPSV.out HST.out.size HRPV.out (by omega) (fun D hD => by have := hDs D hD; omega) (by have := HPLL.out; omega)))).mono ?_; rintro e V4 ⟨rfl, hps4, hlow4, hkf4, hsz4⟩; have HP4 := Aside0.mk hps4; have HB4 := Aside0.mk (show Boxed V4 Bk 3 (.int .i64 (j : Int)) from (hlow4 Bk (by omega) HBKV.out.lt).trans HBKV.out); have HF4 := Aside0.mk (HKFV.out.trans (hkf4 Wk.heap.size)); have ck4 := HB4.out.cell; have fk4 := HB4.out.frozen; clear hps4 hlow4 hkf4)
        exact HFIN.out V4 HB4.out HP4.out (by omega) HF4.out
    case done =>
      rintro D2 W hD ⟨hbk, hps, hws⟩ hK
      have X9 := Aside0.mk (HST.out.at hps)
      have cd1 := hbk.cell
      have cd2 := X9.out.2.2.1.cell
      have HPSD := Aside0.mk hps
      have HKD := Aside0.mk hK
      clear hbk hps hK Xk
      go_wp2
      have r1 := X9.out.2.1.cell
      have r2 := X9.out.2.1.frozen
      rw [rounds_succ]
      go_wp2
      have hK2 := (KeepsOthers.setCell W ⟨w.heap.size + 1, 0, none⟩ (.bool true)).same D2 _ HKD.out rfl
      have hD12 : D1 < Bk := hDs D1 (by simp)
      have hK1 : ((W.setCell ⟨w.heap.size + 1, 0, none⟩ (.bool true)).putObj D2 (.deferred none)).heap[D1]? = some (.deferred (some [])) := (World.putObj_heap_other (by omega)).trans ((KeepsOthers.setCell W ⟨w.heap.size + 1, 0, none⟩ (.bool true)).same D1 _ (HPSD.out.2.2 D1 (by simp)) rfl)
      refine ⟨by simp, .inl ⟨_, _, rfl, run_takeDeferred hK2, ?_⟩⟩
      refine ⟨by simp, .inl ⟨_, _, rfl, run_takeDeferred hK1, ?_⟩⟩
      have hd1 : n9 ≤ D1 := hD1n
      have c5 : (((W.setCell ⟨w.heap.size + 1, 0, none⟩ (.bool true)).putObj D2 (.deferred none)).putObj D1 (.deferred none)).cell? ⟨w.heap.size + 1, 0, none⟩ = some (.bool true) := (World.cell?_of_block (a := ⟨w.heap.size + 1, 0, none⟩) ((World.putObj_heap_other (by show w.heap.size + 1 ≠ D1; omega)).trans (World.putObj_heap_other (by show w.heap.size + 1 ≠ D2; omega)))).trans (X9.out.2.1.set (.bool true)).cell
      refine ⟨_, results_bool rfl Try.underlying4 _ _ _ true rfl c5, rfl, ?_⟩
      have hbel : Below w.heap.size w W := HST.out.bel.trans (HPSD.out.1.mono (by omega))
      exact ((hbel.setCell (p := ⟨w.heap.size + 1, 0, none⟩) (by show w.heap.size ≤ w.heap.size + 1; omega) _).trans (belowK_b (w := w) (Nat.le_refl _) _ D2 _ _ (by omega) hK2 rfl rfl)).trans (belowK_b (w := w) (Nat.le_refl _) _ D1 _ _ (by omega) hK1 rfl rfl)
  


theorem BitsPieces_walk (A0 : Option Addr) (c0 : Nat) (l0 : List Bool) (a1 a2 : Int) (w : World) (hr0 : Kd.C Kd.bool w A0 l0.length l0) (hc0 : l0.length ≤ c0) (hy0 : l0.length * 1 ≤ 140737488351232) (hg0 : ∀ y ∈ l0, True) (hu0 : (l0.map fun _ => 1).sum ≤ 1048576) (wf1 : (Lit.int .i64 a1).wf = true) (wf2 : (Lit.int .i64 a2).wf = true) :
    Calls Try.prog 4 #[.slice A0 l0.length c0, .int .i64 a1, .int .i64 a2] w fun e w' => e = .returned (.bool true) ∧ Below w.heap.size w w' := by
  have hs : l0.length ≤ 1048576 := by
    have h : (l0.map fun _ => 1).sum = l0.length := by
      clear hr0 hc0 hy0 hg0 hu0
      induction l0 with
      | nil => rfl
      | cons x xs ih => simp only [List.map_cons, List.sum_cons, List.length_cons, ih]; omega
    omega
  refine pieces_w A0 c0 l0.length l0 a1 a2 w rfl hr0 hc0 hs ?_
  simp [Lit.wf, IntKind.min, IntKind.max, IntKind.signed, IntKind.bits] at wf1
  omega

end Go.Proofs.Ytabjfehhibeeiaa.Pure
