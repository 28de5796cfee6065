/- TempoSymbols. -/
import Derived.Test.YtjhapibelhakdaaFogx0
import Derived.Test.YtjhapibelhakdaaTurn
import Derived.Test.YtjhapibelhakdaaClock
import Derived.Test.YtjhapibelhakdaaPureTempoSlips
namespace Go.Proofs.Ytjhapibelhakdaa.Pure
open Go.RowKit Go.Proofs.Ytjhapibelhakdaa.Fog Go.Proofs.YtjhapibelhakdaaW.PrintWords Go.Proofs.YtjhapibelhakdaaW.PrintLast Go.Proofs.YtjhapibelhakdaaW.PrintMore Go.Proofs.Ytjhapibelhakdaa.Kit
set_option linter.unusedVariables false
set_option linter.unusedSimpArgs false
theorem cxInfo : (Try.prog.info? 40).map (fun i => (i.zero, i.size, i.bytes)) = some (some (.complex .f64 0 0), 1, 16) := by kernel_rfl
theorem underC : Try.prog.underlying 66 = some (.slice 40) := by kernel_rfl
def KI8 : Kd (Int × Int) := Kd.pair (Kd.int .i8) (Kd.int .i8)
theorem i8_at {w : World} {A : Option Addr} {n : Nat} {l : List (Int × Int)} (h : Kd.C KI8 w A n l) (i : Nat) (hi : i < n) :
    ∃ ad, A = some ad ∧ w.cell? (ad.add (i * 2)) = some (.int .i8 (l.getD i (0, 0)).1) ∧ w.cell? ⟨(ad.add (i * 2)).block, (ad.add (i * 2)).off + 1, none⟩ = some (.int .i8 (l.getD i (0, 0)).2) := by
  have hl : l.length = n := h.1
  obtain ⟨ad, rfl, hc⟩ := h.2.2 (by omega)
  have hg : l[i]? = some (l.getD i (0, 0)) := by
    rw [List.getD_eq_getElem?_getD, List.getElem?_eq_getElem (by omega)]; rfl
  obtain ⟨cs, hcl, ⟨c1, c2, rfl, h1, h2⟩, hcell⟩ := hc i _ hg
  have e1 : c1 = [.int .i8 (l.getD i (0, 0)).1] := h1
  have e2 : c2 = [.int .i8 (l.getD i (0, 0)).2] := h2
  subst e1 e2
  refine ⟨ad, rfl, hcell 0 _ rfl, ?_⟩
  rw [← add_one_form]
  exact hcell 1 _ rfl
theorem cx_at {w : World} {A : Option Addr} {n : Nat} {l : List (Nat × Nat)} (h : Kd.C KC w A n l) (i : Nat) (hi : i < n) : ∃ ad, A = some ad ∧ w.cell? (ad.add i) = some (.complex .f64 (l.getD i (0, 0)).1 (l.getD i (0, 0)).2) := by
  have hl : l.length = n := h.1
  obtain ⟨ad, rfl, hc⟩ := h.2.2 (by omega)
  have hg : l[i]? = some (l.getD i (0, 0)) := by
    rw [List.getD_eq_getElem?_getD, List.getElem?_eq_getElem (by omega)]; rfl
  obtain ⟨cs, hcl, hK, hcell⟩ := hc i _ hg
  have e : cs = [cx (l.getD i (0, 0))] := hK
  subst e
  have h0 := hcell 0 _ rfl
  have e1 : i * KC.sz + 0 = i := by show i * 1 + 0 = i; omega
  rw [e1] at h0
  exact ⟨ad, rfl, h0⟩
/-- Two rows that do not share a block. -/
def Apart2 (u v : Value) : Prop := ∀ k, u.ownBlock = some k → some k ≠ v.ownBlock
theorem Apart2.symm {u v : Value} (h : Apart2 u v) : Apart2 v u := fun k hk e => h k e.symm hk.symm
theorem Apart2.step {u u' v : Value} {W : World} (h : Apart2 u v) (hat : u'.ownBlock = u.ownBlock ∨ ∃ b, u'.ownBlock = some b ∧ W.heap.size ≤ b) (hv : ∀ k, v.ownBlock = some k → k < W.heap.size) : Apart2 u' v := by
  intro k hk e
  rcases hat with h1 | ⟨b, h1, h2⟩
  · exact h k (h1 ▸ hk) e
  · rw [h1] at hk
    obtain rfl := Option.some.inj hk
    have := hv b e.symm
    omega
theorem R_lt {α : Type} {d : Kd α} {e base : Nat} {W : World} {ok : Nat → Prop} {v : Value} {xs : List α} (h : Kd.R d e W base ok v xs) : ∀ k, v.ownBlock = some k → k < W.heap.size := fun k hk => ((Kd.R_bound h).1 k hk).2.2.1
structure R3 (base : Nat) (W : World) (s r t : Value) (ls : List (Nat × Nat)) (lr lt : List Smp) : Prop where
  hs : Kd.R KC 40 W base (fun _ => True) s ls
  hr : Kd.R KS 43 W base (fun _ => True) r lr
  ht : Kd.R KS 43 W base (fun _ => True) t lt
  sr : Apart2 s r
  st : Apart2 s t
  rt : Apart2 r t
theorem R3.app_s {base : Nat} {W w1 : World} {s s' r t : Value} {ls ls' : List (Nat × Nat)} {lr lt : List Smp} (h : R3 base W s r t ls lr lt) (ho : Kd.R KC 40 w1 base (fun _ => True) s' ls') (hg : W.grownBy w1 s.ownBlock) (hat : s'.ownBlock = s.ownBlock ∨ ∃ b, s'.ownBlock = some b ∧ W.heap.size ≤ b) : R3 base w1 s' r t ls' lr lt :=
  ⟨ho, Kd.R_grown2 h.hr rfl hg h.sr, Kd.R_grown2 h.ht rfl hg h.st, h.sr.step hat (R_lt h.hr), h.st.step hat (R_lt h.ht), h.rt⟩
theorem R3.app_r {base : Nat} {W w1 : World} {s r r' t : Value} {ls : List (Nat × Nat)} {lr lr' lt : List Smp} (h : R3 base W s r t ls lr lt) (ho : Kd.R KS 43 w1 base (fun _ => True) r' lr') (hg : W.grownBy w1 r.ownBlock) (hat : r'.ownBlock = r.ownBlock ∨ ∃ b, r'.ownBlock = some b ∧ W.heap.size ≤ b) : R3 base w1 s r' t ls lr' lt :=
  ⟨Kd.R_grown2 h.hs rfl hg h.sr.symm, ho, Kd.R_grown2 h.ht rfl hg h.rt, (h.sr.symm.step hat (R_lt h.hs)).symm, h.st, h.rt.step hat (R_lt h.ht)⟩
theorem R3.app_t {base : Nat} {W w1 : World} {s r t t' : Value} {ls : List (Nat × Nat)} {lr lt lt' : List Smp} (h : R3 base W s r t ls lr lt) (ho : Kd.R KS 43 w1 base (fun _ => True) t' lt') (hg : W.grownBy w1 t.ownBlock) (hat : t'.ownBlock = t.ownBlock ∨ ∃ b, t'.ownBlock = some b ∧ W.heap.size ≤ b) : R3 base w1 s r t' ls lr lt' :=
  ⟨Kd.R_grown2 h.hs rfl hg h.st.symm, Kd.R_grown2 h.hr rfl hg h.rt.symm, ho, h.sr, (h.st.symm.step hat (R_lt h.hs)).symm, (h.rt.symm.step hat (R_lt h.hr)).symm⟩
theorem R3.below {base : Nat} {W w1 : World} {s r t : Value} {ls : List (Nat × Nat)} {lr lt : List Smp} (h : R3 base W s r t ls lr lt) (hb : Below W.heap.size W w1) : R3 base w1 s r t ls lr lt :=
  ⟨Kd.R_below h.hs hb, Kd.R_below h.hr hb, Kd.R_below h.ht hb, h.sr, h.st, h.rt⟩
def symL (f : Nat → Nat × Nat) (k : Nat) : List (Nat × Nat) := (List.range k).map f
theorem symL_length (f : Nat → Nat × Nat) (k : Nat) : (symL f k).length = k := by unfold symL; simp
theorem symL_succ (f : Nat → Nat × Nat) (k : Nat) : symL f (k + 1) = symL f k ++ [f k] := by unfold symL; rw [List.range_succ, List.map_append]; rfl
theorem symL_getD (f : Nat → Nat × Nat) (k i : Nat) (h : i < k) : (symL f k).getD i (0, 0) = f i := by
  unfold symL
  rw [List.getD_eq_getElem?_getD, List.getElem?_map, List.getElem?_range h]; rfl
theorem symAt_in (f : Nat → Nat × Nat) (D P i k : Nat) (hk : k < P) : symAt f D P (D + i * P + k) = if k = 0 then f i else (0, 0) := by
  unfold symAt
  rw [if_neg (by omega), show D + i * P + k - D = k + i * P by omega, Nat.add_mul_mod_self_right, Nat.mod_eq_of_lt hk]
  by_cases h : k = 0
  · subst h
    rw [if_pos rfl, if_pos rfl, Nat.zero_add, Nat.mul_div_cancel _ (by omega)]
  · rw [if_neg h, if_neg h]
theorem symAt_low (f : Nat → Nat × Nat) (D P j : Nat) (h : j < D) : symAt f D P j = (0, 0) := by unfold symAt; rw [if_pos h]
theorem fI_ord_all : ∀ i : Fin 256, FloatKind.f64.format.order (fI ((i.val : Int) - 128)) (fI ((i.val : Int) - 128)) = some .eq := by decide +kernel
theorem fI_ord (a : Int) (h0 : -128 ≤ a) (h1 : a ≤ 127) : FloatKind.f64.format.order (fI a) (fI a) = some .eq := by
  have h := fI_ord_all ⟨(a + 128).toNat, by omega⟩
  rw [show (((⟨(a + 128).toNat, by omega⟩ : Fin 256).val : Int)) - 128 = a by simp only; omega] at h
  exact h
theorem energies_0 (A : Option Addr) (n c p cnt : Nat) (l : List Smp) (w : World) (hl : l.length = n) (h : Kd.C KS w A n l) (hc : n ≤ c) (hn : n ≤ 65536) (hp1 : 1 ≤ p) (hp8 : p ≤ 8) (hc1 : 1 ≤ cnt) (hc2 : cnt ≤ 64) (hF : p * cnt ≤ n) :
    Calls Try.prog 24 #[.slice A n c, .int .i64 (p : Int), .int .i64 0, .int .i64 (cnt : Int)] w fun e w' => ∃ (A' : Option Addr) (c' : Nat), e = .returned (.tuple #[.slice A' p c', .int .i64 0]) ∧ ∃ bs : List Nat, bs.length = p ∧ (∀ i, i < p → relF (sumT l 0 p i cnt) (bs.getD i 0)) ∧ Kd.C KF w' A' p bs ∧ Below w.heap.size w w' := by
  refine (energies_any A n c 0 p cnt l w hl h hc hn hp1 hp8 hc1 hc2 (by omega)).mono ?_
  rintro e w' ⟨v, rfl, bs, hb, hr, hR, hB⟩
  obtain ⟨A', c', rfl⟩ := Kd.R_slice hR
  have g := (Kd.R_reads' hR).2.2
  rw [hb] at g ⊢
  exact ⟨A', c', rfl, bs, hb, hr, g, hB⟩
theorem pick_1 (A : Option Addr) (n c F Q m : Nat) (l : List Smp) (w : World) (hl : l.length = n) (h : Kd.C KS w A n l) (hc : n ≤ c) (hn : n ≤ 65536) (hF : F ≤ 65536) (hQ : 1 ≤ Q) (hQ2 : Q ≤ 65536) (hm : m ≤ 65536) :
    Calls Try.prog 30 #[.agg #[.int .i64 (F : Int), .int .i64 (Q : Int), .int .i64 1], .slice A n c, .int .i64 (m : Int)] w fun e w' => ∃ (A' : Option Addr) (c' : Nat), e = .returned (.tuple #[.slice A' m c', .int .i64 0]) ∧ Kd.C KS w' A' m (pickV F Q 1 l m) ∧ Below w.heap.size w w' := by
  have h9 := pick_calls A n c F Q 1 m l w hl h hc hn hF (Nat.le_refl _) hQ hQ2 hm
  refine Calls.mono h9 ?_
  rintro e w' ⟨v, rfl, hR, hB⟩
  obtain ⟨A', c', rfl⟩ := Kd.R_slice hR
  have g := (Kd.R_reads' hR).2.2
  rw [pickV_length] at g ⊢
  exact ⟨A', c', rfl, g, hB⟩
theorem pickV_getD (F Q : Nat) (l : List Smp) (n i : Nat) (h : i < n) : (pickV F Q 1 l n).getD i s0 = l.getD (F + i * Q) lostS := by
  unfold pickV
  rw [List.getD_eq_getElem?_getD, List.getElem?_map, List.getElem?_range h]
  show l.getD (F + i * Q / 1) lostS = _
  rw [Nat.div_one]
structure SyST (SA RA TA : Option Addr) (j n : Nat) (ls : List (Nat × Nat)) (lr lt : List Smp) (W : World) : Prop where
  s : Kd.C KC W SA j ls
  r : Kd.C KS W RA n lr
  t : Kd.C KS W TA n lt
theorem SyST.at {SA RA TA : Option Addr} {j n : Nat} {ls : List (Nat × Nat)} {lr lt : List Smp} {W W' : World} (h : SyST SA RA TA j n ls lr lt W) (hb : Below W.heap.size W W') : SyST SA RA TA j n ls lr lt W' := ⟨Kd.C_below h.s hb, Kd.C_below h.r hb, Kd.C_below h.t hb⟩
set_option maxHeartbeats 8000000 in
set_option maxRecDepth 100000 in
theorem symbols_walk (A1 : Option Addr) (c1 n1 : Nat) (l1 : List (Int × Int)) (x0 x1 : Nat) (x2 : Int) (w : World) (hl1 : l1.length = n1) (hr1 : Kd.C KI8 w A1 n1 l1) (hg1 : ∀ y ∈ l1, (-128 ≤ y.1 ∧ y.1 ≤ 127) ∧ -128 ≤ y.2 ∧ y.2 ≤ 127) (hn1 : n1 < 140737488355000) (h0 : x0 < 256) (h1 : x1 < 256) :
    Calls Try.prog 8 #[.slice A1 n1 c1, .agg #[.int .u8 (x0 : Int), .int .u8 (x1 : Int), .int .i64 x2]] w fun e w' => e = .returned (.bool true) ∧ Below w.heap.size w w' := by
  obtain ⟨P, hP⟩ : ∃ P, x0 % 8 + 1 = P := ⟨_, rfl⟩
  obtain ⟨D, hD⟩ : ∃ D, x1 % 50 = D := ⟨_, rfl⟩
  obtain ⟨q, hq⟩ : ∃ q, Go.bits .and .i64 x2 3 = q := ⟨_, rfl⟩
  obtain ⟨f, hf⟩ : ∃ f : Nat → Nat × Nat, (fun i => (fI (l1.getD i (0, 0)).1, fI (l1.getD i (0, 0)).2)) = f := ⟨_, rfl⟩
  have hfi : ∀ i, f i = (fI (l1.getD i (0, 0)).1, fI (l1.getD i (0, 0)).2) := fun i => by rw [← hf]
  have hbd : ∀ i, (-128 ≤ (l1.getD i (0, 0)).1 ∧ (l1.getD i (0, 0)).1 ≤ 127) ∧ -128 ≤ (l1.getD i (0, 0)).2 ∧ (l1.getD i (0, 0)).2 ≤ 127 := fun i => by
    by_cases h : i < l1.length
    · rw [List.getD_eq_getElem?_getD, List.getElem?_eq_getElem h]
      exact hg1 _ (List.getElem_mem h)
    · rw [List.getD_eq_getElem?_getD, List.getElem?_eq_none (by omega)]
      exact ⟨⟨by decide, by decide⟩, by decide, by decide⟩
  have HFI := Aside0.mk hfi
  have HST := Aside0.mk (show ∀ i, strong (f i) q from fun i => by rw [hfi i]; exact strong_of _ _ q (hbd i).1 (hbd i).2)
  have HORD := Aside0.mk (show ∀ i, FloatKind.f64.format.order (f i).1 (f i).1 = some .eq ∧ FloatKind.f64.format.order (f i).2 (f i).2 = some .eq from fun i => by rw [hfi i]; exact ⟨fI_ord _ (hbd i).1.1 (hbd i).1.2, fI_ord _ (hbd i).2.1 (hbd i).2.2⟩)
  have HNUM := Aside0.mk (show 1 ≤ P ∧ P ≤ 8 ∧ D < 50 ∧ n1 < 140737488355000 by omega)
  have HC := Aside0.mk hr1
  have HQ := Aside0.mk hq
  have i0 : IntKind.i64.wrap (x0 : Int) = (x0 : Int) := by rw [IntKind.wrap_i64]; omega
  have i1 : IntKind.i64.wrap (x1 : Int) = (x1 : Int) := by rw [IntKind.wrap_i64]; omega
  have e1 : (x0 : Int) % 8 + 1 = (P : Int) := by omega
  have e2 : (x1 : Int) % 50 = (D : Int) := by omega
  clear hr1 hg1 hf hfi hbd hP hD h0 h1 hq hl1
  go_enter Try.func8, Try.ntmps8
  go_wp2
  obtain ⟨X0, hX0⟩ : ∃ X0, w.alloc (.cells #[.int .u8 (x0 : Int), .int .u8 (x1 : Int), .int .i64 x2] 65) = X0 := ⟨_, rfl⟩
  have HB0 := Aside0.mk (show Below w.heap.size w X0 from hX0 ▸ ((Below.refl w.heap.size w).alloc (Nat.le_refl _) _))
  rw [hX0]
  rw [e2]
  clear hX0
  go_loopw [9, 10, 11] (fun r t i wr => ∃ k : Nat, k ≤ D ∧ i = .int .i64 (k : Int) ∧ Aside0 (R3 X0.heap.size wr (.slice none 0 0) r t (symL f 0) (symRow f D P k) (symTurn q f D P k)) ∧ Aside0 (Below X0.heap.size X0 wr)) (fun _ _ i _ => D - (intOf i).toNat)
  case atStart => exact ⟨0, Nat.zero_le _, rfl, ⟨⟨Kd.R_nil _ _ _ _ _, Kd.R_nil _ _ _ _ _, Kd.R_nil _ _ _ _ _, (fun k hk => by cases hk), (fun k hk => by cases hk), (fun k hk => by cases hk)⟩⟩, ⟨Below.refl _ _⟩⟩
  case round =>
    obtain ⟨k, hk, rfl, HR, HB⟩ := hrel
    have hD := HNUM.out.2.2.1
    by_cases hlt : k < D
    · have q1 : (k : Int) < (D : Int) := by omega
      have hks : IntKind.i64.wrap ((k : Int) + 1) = (k : Int) + 1 := by rw [IntKind.wrap_i64]; omega
      have HK := Aside0.mk hlt
      go_wp2_with (first
        | ((with_reducible refine gate_builtin (b := .append) (xs := #[.tmp 44, .tmp 46]) rfl ?_); at_builtin; refine Kd.R_append KS (w0 := X0) X0.heap.size rfl (.tmp 44) (.tmp 46) 35 43 (.agg #[.complex .f64 0 0, .bool false]) 24 rfl Try.underlying35 sampleInfo rfl (by decide) (by omega) u9 (symRow f D P k) ((0, 0), false) [.complex .f64 0 0, .bool false] (fun _ => True) (fun _ => False) rfl rfl ?aP (fun _ hk => hk.elim) ?aF ?aO ?aB ?aS ?aL ?_; (case aP => exact ⟨[.complex .f64 0 0], [.bool false], rfl, rfl, rfl⟩); (case aB => exact HB.out); (case aF => exact (fun _ _ => trivial)); (case aO => exact HR.out.hr); (case aS => exact HB.out.size); (case aL => rw [symRow_length]; have h9 := HNUM.out; omega); intro v3 w3 ho hb_ hg_ hat; (rw [show ((0, 0), false) = ((symAt f D P k, false) : Smp) by rw [symAt_low f D P k HK.out], ← symRow_succ] at ho); (have HR4 := Aside0.mk (HR.out.app_r ho hg_ hat)); (have HB4 := Aside0.mk hb_); clear ho hb_ hg_ hat)
        | ((with_reducible refine gate_builtin (b := .append) (xs := #[.tmp 48, .tmp 50]) rfl ?_); at_builtin; refine Kd.R_append KS (w0 := X0) X0.heap.size rfl (.tmp 48) (.tmp 50) 35 43 (.agg #[.complex .f64 0 0, .bool false]) 24 rfl Try.underlying35 sampleInfo rfl (by decide) (by omega) u10 (symTurn q f D P k) ((0, 0), false) [.complex .f64 0 0, .bool false] (fun _ => True) (fun _ => False) rfl rfl ?aP (fun _ hk => hk.elim) ?aF ?aO ?aB ?aS ?aL ?_; (case aP => exact ⟨[.complex .f64 0 0], [.bool false], rfl, rfl, rfl⟩); (case aB => exact HB4.out); (case aF => exact (fun _ _ => trivial)); (case aO => exact HR4.out.ht); (case aS => exact HB4.out.size); (case aL => rw [symTurn_length]; have h9 := HNUM.out; omega); intro v4 w4 ho hb_ hg_ hat; (rw [show ((0, 0), false) = ((trnAt q f D P k, false) : Smp) by unfold trnAt; rw [if_pos HK.out], ← symTurn_succ] at ho); (have HR5 := Aside0.mk (HR4.out.app_t ho hg_ hat)); (have HB5 := Aside0.mk hb_); clear ho hb_ hg_ hat))
      go_roundw
      case rel => exact ⟨k + 1, hlt, by go_num, HR5, HB5⟩
      case measure => show D - ((k : Int) + 1).toNat < D - (k : Int).toNat; omega
    · have hkD : k = D := by omega
      subst hkD
      have HRD := HR
      have HBD := HB
      go_wp2
      go_loopw [8, 9, 10, 12, 13, 14, 15] (fun s r t st i z kk wr => ∃ j : Nat, j ≤ 60 ∧ j ≤ n1 ∧ i = .int .i64 (j : Int) ∧ (∃ b : Bool, st = .bool b) ∧ Aside0 (R3 X0.heap.size wr s r t (symL f j) (symRow f k P (k + j * P)) (symTurn q f k P (k + j * P))) ∧ Aside0 (Below X0.heap.size X0 wr)) (fun _ _ _ _ i _ _ _ => 60 - (intOf i).toNat)
      case atStart => exact ⟨0, Nat.zero_le _, Nat.zero_le _, rfl, ⟨false, rfl⟩, ⟨by rw [Nat.zero_mul]; exact HR.out⟩, HB⟩
      case round =>
        obtain ⟨j, hj60, hjn, rfl, ⟨st, rfl⟩, HR, HB⟩ := hrel
        have hP8 := HNUM.out.2.1
        have hP1 := HNUM.out.1
        by_cases hlt2 : j < n1 ∧ j < 60
        · have q2 : (j : Int) < (n1 : Int) := by omega
          have q3 : (j : Int) < 60 := by omega
          have hjs : IntKind.i64.wrap ((j : Int) + 1) = (j : Int) + 1 := by rw [IntKind.wrap_i64]; omega
          have HJ := Aside0.mk hlt2
          have HJP := Aside0.mk (show k + j * P ≤ 50 + 480 ∧ k + j * P + P = k + (j + 1) * P from by
            have h1 : j * P ≤ 59 * 8 := Nat.mul_le_mul (by omega) hP8
            rw [Nat.succ_mul]; omega)
          obtain ⟨ad, hA, c1_, c2_⟩ := i8_at (Kd.C_below HC.out (below_step HB0.out HB.out)) j hlt2.1
          subst hA
          obtain ⟨u, hu⟩ : ∃ u, l1.getD j (0, 0) = u := ⟨_, rfl⟩
          rw [hu] at c1_ c2_
          have hfj := HFI.out j
          rw [hu] at hfj
          have HFJ := Aside0.mk hfj
          clear hu hfj
          go_wp2
          go_quiet (fail)
          have hbq : Below wr.heap.size wr (wr.drewN nq) := pw_below_drewN (Below.refl _ _) nq
          have HRq := Aside0.mk (HR.out.below hbq)
          have HBq := Aside0.mk (below_step HB.out hbq)
          clear hbq HR HB
          obtain ⟨wq, hwq⟩ : ∃ wq, wr.drewN nq = wq := ⟨_, rfl⟩
          rw [hwq] at HRq HBq ⊢
          clear hwq c1_ c2_
          cases st
          all_goals
            go_wp2_with (((with_reducible refine gate_builtin (b := .append) (xs := #[.tmp 75, .tmp 77]) rfl ?_); at_builtin; refine Kd.R_append KC (w0 := X0) X0.heap.size rfl (.tmp 75) (.tmp 77) 66 40 (.complex .f64 0 0) 16 rfl underC cxInfo rfl (by decide) (by omega) u8 (symL f j) (f j) [.complex .f64 (floatOfInt .f64 u.1) (floatOfInt .f64 u.2)] (fun _ => True) (fun _ => False) rfl rfl ?aP (fun _ hk => hk.elim) ?aF ?aO ?aB ?aS ?aL ?_; (case aP => exact (by rw [HFJ.out]; rfl)); (case aB => exact HBq.out); (case aF => exact (fun _ _ => trivial)); (case aO => exact HRq.out.hs); (case aS => exact HBq.out.size); (case aL => rw [symL_length]; have h9 := HJ.out; omega); intro v3 w3 ho hb_ hg_ hat; (rw [← symL_succ] at ho); (have HR5 := Aside0.mk (HRq.out.app_s ho hg_ hat)); (have HB5 := Aside0.mk hb_); clear ho hb_ hg_ hat))
            go_loopw [9, 10, 14, 15] (fun r t z kk wi => ∃ m : Nat, m ≤ P ∧ kk = .int .i64 (m : Int) ∧ (∃ z1 z2 : Nat, z = .complex .f64 z1 z2 ∧ Aside0 (m < P → symAt f k P (k + j * P + m) = (z1, z2))) ∧ Aside0 (R3 X0.heap.size wi v3 r t (symL f (j + 1)) (symRow f k P (k + j * P + m)) (symTurn q f k P (k + j * P + m))) ∧ Aside0 (Below X0.heap.size X0 wi)) (fun _ _ _ kk _ => P - (intOf kk).toNat)
            case atStart => exact ⟨0, Nat.zero_le _, rfl, ⟨_, _, rfl, ⟨fun h9 => by rw [symAt_in f k P j 0 h9, if_pos rfl, HFJ.out]; rfl⟩⟩, HR5, HB5⟩
            case round =>
              obtain ⟨m, hm, rfl, ⟨z1, z2, rfl, HZ0⟩, HR, HB⟩ := hrel
              have hP8 := HNUM.out.2.1
              by_cases hlt3 : m < P
              · have q4 : (m : Int) < (P : Int) := by omega
                have hms : IntKind.i64.wrap ((m : Int) + 1) = (m : Int) + 1 := by rw [IntKind.wrap_i64]; omega
                have HM := Aside0.mk hlt3
                have HZZ := Aside0.mk (show ((symAt f k P (k + j * P + m), false) : Smp) = ((z1, z2), false) by rw [HZ0.out hlt3])
                have HZT := Aside0.mk (show ((trnAt q f k P (k + j * P + m), false) : Smp) = (turnQ q (z1, z2), false) by unfold trnAt; rw [if_neg (by omega), HZ0.out hlt3])
                go_wp2_with (first
                  | ((with_reducible refine gate_builtin (b := .append) (xs := #[.tmp 89, .tmp 92]) rfl ?_); at_builtin; refine Kd.R_append KS (w0 := X0) X0.heap.size rfl (.tmp 89) (.tmp 92) 35 43 (.agg #[.complex .f64 0 0, .bool false]) 24 rfl Try.underlying35 sampleInfo rfl (by decide) (by omega) u9 (symRow f k P (k + j * P + m)) ((z1, z2), false) [.complex .f64 z1 z2, .bool false] (fun _ => True) (fun _ => False) rfl rfl ?aP (fun _ hk => hk.elim) ?aF ?aO ?aB ?aS ?aL ?_; (case aP => exact ⟨[.complex .f64 z1 z2], [.bool false], rfl, rfl, rfl⟩); (case aB => exact HB.out); (case aF => exact (fun _ _ => trivial)); (case aO => exact HR.out.hr); (case aS => exact HB.out.size); (case aL => rw [symRow_length]; have h9 := HJP.out; have h8 := HNUM.out; have h7 := HM.out; omega); intro v3 w3 ho hb_ hg_ hat; (rw [← HZZ.out, ← symRow_succ] at ho); (have HR6 := Aside0.mk (HR.out.app_r ho hg_ hat)); (have HB6 := Aside0.mk hb_); clear ho hb_ hg_ hat)
                  | (go_at_call 29; (refine (turn_calls z1 z2 x2 _).mono ?_); rintro e w9 ⟨rfl, rfl⟩; rw [HQ.out])
                  | ((with_reducible refine gate_builtin (b := .append) (xs := #[.tmp 94, .tmp 99]) rfl ?_); at_builtin; refine Kd.R_append KS (w0 := X0) X0.heap.size rfl (.tmp 94) (.tmp 99) 35 43 (.agg #[.complex .f64 0 0, .bool false]) 24 rfl Try.underlying35 sampleInfo rfl (by decide) (by omega) u10 (symTurn q f k P (k + j * P + m)) (turnQ q (z1, z2), false) [.complex .f64 (turnQ q (z1, z2)).1 (turnQ q (z1, z2)).2, .bool false] (fun _ => True) (fun _ => False) rfl rfl ?aP (fun _ hk => hk.elim) ?aF ?aO ?aB ?aS ?aL ?_; (case aP => exact ⟨[.complex .f64 (turnQ q (z1, z2)).1 (turnQ q (z1, z2)).2], [.bool false], rfl, rfl, rfl⟩); (case aB => exact HB6.out); (case aF => exact (fun _ _ => trivial)); (case aO => exact HR6.out.ht); (case aS => exact HB6.out.size); (case aL => rw [symTurn_length]; have h9 := HJP.out; have h8 := HNUM.out; have h7 := HM.out; omega); intro v4 w4 ho hb_ hg_ hat; (rw [← HZT.out, ← symTurn_succ] at ho); (have HR7 := Aside0.mk (HR6.out.app_t ho hg_ hat)); (have HB7 := Aside0.mk hb_); clear ho hb_ hg_ hat))
                go_roundw
                case rel => exact ⟨m + 1, hlt3, by go_num, ⟨0, 0, rfl, ⟨fun h9 => by rw [symAt_in f k P j (m + 1) h9, if_neg (by omega)]⟩⟩, HR7, HB7⟩
                case measure => show P - ((m : Int) + 1).toNat < P - (m : Int).toNat; omega
              · have hmP : m = P := by omega
                subst hmP
                go_wp2
                go_roundw
                case rel => exact ⟨j + 1, HJ.out.2, HJ.out.1, by go_num, ⟨_, rfl⟩, ⟨by rw [← HJP.out.2]; exact HR.out⟩, HB⟩
                case measure => show 60 - ((j : Int) + 1).toNat < 60 - (j : Int).toNat; have := HJ.out; omega
        · have HJK := Aside0.mk (show j ≤ 60 ∧ j ≤ n1 from ⟨hj60, hjn⟩)
          obtain ⟨n, hn⟩ : ∃ n, k + j * P = n := ⟨_, rfl⟩
          have HNN := Aside0.mk (show n ≤ 530 ∧ ∀ m, m < j → k + m * P < n from ⟨by
            have h1 : j * P ≤ 60 * 8 := Nat.mul_le_mul hj60 hP8
            omega, fun m hm => by
            have h1 : (m + 1) * P ≤ j * P := Nat.mul_le_mul_right _ hm
            rw [Nat.succ_mul] at h1
            omega⟩)
          rw [hn] at HR
          obtain ⟨SA, sc, hs⟩ := Kd.R_slice HR.out.hs
          obtain ⟨RA, rc, hr⟩ := Kd.R_slice HR.out.hr
          obtain ⟨TA, tc, ht⟩ := Kd.R_slice HR.out.ht
          rw [symL_length] at hs
          rw [symRow_length] at hr
          rw [symTurn_length] at ht
          subst hs hr ht
          have g1 := Kd.R_reads' HR.out.hs
          have g2 := Kd.R_reads' HR.out.hr
          have g3 := Kd.R_reads' HR.out.ht
          rw [symL_length] at g1
          rw [symRow_length] at g2
          rw [symTurn_length] at g3
          have HCR := Aside0.mk (And.intro g2.2.1 g3.2.1)
          have HS := Aside0.mk (show SyST SA RA TA j n (symL f j) (symRow f k P n) (symTurn q f k P n) wr from ⟨g1.2.2, g2.2.2, g3.2.2⟩)
          have HBE := Aside0.mk (below_step HB0.out HB.out)
          have hjj : j < n1 → ¬ j < 60 := fun h8 h9 => hlt2 ⟨h8, h9⟩
          clear g1 g2 g3 HR HB hlt2 hn hj60 hjn
          by_cases hjn1 : j < n1
          all_goals
            first
              | (have q2 : (j : Int) < (n1 : Int) := by omega
                 have q3 : ¬ (j : Int) < 60 := by have := hjj hjn1; omega)
              | (have q2 : ¬ (j : Int) < (n1 : Int) := by omega)
            clear hjj hjn1
            go_wp2_with (go_at_call 30; (refine (pick_1 RA n rc k P j (symRow f k P n) _ (symRow_length _ _ _ _) HS.out.r HCR.out.1 (by have := HNN.out.1; omega) (by omega) (by omega) (by omega) (by have := HJK.out; omega)).mono ?_); rintro e w5 ⟨LA, lc, rfl, hC, hb⟩; (have HL5 := Aside0.mk hC); (have HD5 := Aside0.mk hb); (have HS5 := Aside0.mk (HS.out.at hb)); clear hC hb)
            go_loopw [18] (fun i wi => ∃ m : Nat, m ≤ j ∧ i = .int .i64 (m : Int) ∧ Aside0 (∃ d, wi = w5.drewN d)) (fun i _ => j - (intOf i).toNat)
            case atStart => exact ⟨0, Nat.zero_le _, rfl, ⟨0, rfl⟩⟩
            case round =>
              obtain ⟨m, hm, rfl, HW⟩ := hrel
              have hbw : Below w5.heap.size w5 wr := below_of_drew HW.out
              by_cases hlt4 : m < j
              · have q4 : (m : Int) < (j : Int) := by omega
                have hms : IntKind.i64.wrap ((m : Int) + 1) = (m : Int) + 1 := by have := HJK.out; rw [IntKind.wrap_i64]; omega
                obtain ⟨ad, hA, k1, k2⟩ := smp_at (Kd.C_below HL5.out hbw) m hlt4
                subst hA
                obtain ⟨sd, hA2, k3⟩ := cx_at (Kd.C_below HS5.out.s hbw) m hlt4
                subst hA2
                rw [pickV_getD _ _ _ _ _ hlt4, symRow_getD f k P n _ (HNN.out.2 m hlt4)] at k1 k2
                rw [show symAt f k P (k + m * P) = f m by (have h9 := symAt_in f k P m 0 (by omega); rw [if_pos rfl] at h9; exact h9)] at k1
                rw [symL_getD f j m hlt4] at k3
                obtain ⟨o1, o2⟩ := HORD.out m
                obtain ⟨⟨z1, z2⟩, hz⟩ : ∃ z, f m = z := ⟨_, rfl⟩
                rw [hz] at k1 k3 o1 o2
                simp only at k1 k2 k3 o1 o2
                clear hz hbw
                go_wp2
                go_quiet (fail)
                go_wp2
                exact ⟨⟨m + 1, hlt4, by go_num, ⟨drew_more HW.out _⟩⟩, by show j - ((m : Int) + 1).toNat < j - (m : Int).toNat; omega⟩
              · have hmj : m = j := by omega
                subst hmj
                have HSW := Aside0.mk (HS5.out.at hbw)
                have HBW := Aside0.mk (below_step (below_step HBE.out HD5.out) hbw)
                obtain ⟨C, hC⟩ : ∃ C, n / P = C := ⟨_, rfl⟩
                have hCP : P * C ≤ n := by rw [← hC]; exact Nat.mul_div_le n P
                have HSUM := Aside0.mk (show ∀ i, i < P → (∃ s, sumT (symRow f k P n) 0 P i C = some s ∧ posF s ∧ sumT (symTurn q f k P n) 0 P i C = some s) ∧ (i ≠ k % P → sumT (symRow f k P n) 0 P i C = some 0) from fun i hi => by
                  have hin : ∀ m, m < C → i + m * P < n := fun m hm => by
                    have h1 : (m + 1) * P ≤ C * P := Nat.mul_le_mul_right _ hm
                    rw [Nat.succ_mul, Nat.mul_comm C P] at h1
                    omega
                  exact ⟨sums_pos f k P n q HST.out i C hin, fun hne => sums_zero f k P n i hP1 hi hne C hin⟩)
                have HN65 := Aside0.mk (show n ≤ 65536 by have := HNN.out.1; omega)
                have hPn0 : ¬ P = 0 := by omega
                have hPi0 : ¬ (P : Int) = 0 := by omega
                have hPb : ((P : Int) == 0) = false := by simpa using hPi0
                have c1' : (n : Int) / (P : Int) = (C : Int) := by rw [← hC]; exact (Int.natCast_ediv n P).symm
                have c2' : Int.tdiv (n : Int) (P : Int) = (C : Int) := by rw [← hC]; exact tdiv_nat n P
                have hCn : C ≤ n := by rw [← hC]; exact Nat.div_le_self n P
                have c3' : IntKind.i64.wrap (C : Int) = (C : Int) := by have := HNN.out.1; rw [IntKind.wrap_i64]; omega
                have HCP := Aside0.mk (And.intro hCP hCn)
                clear hC hCP hCn hbw
                by_cases hc1 : C < 1
                · have c4' : (C : Int) < 1 := by omega
                  clear hc1
                  go_wp2_with (go_at_call 12; (with_reducible refine (awake_calls _).mono ?_); rintro e w13 ⟨rfl, hb⟩; (have HD13 := Aside0.mk (below_step HBW.out hb)); clear hb)
                  go_ret
                  exact ⟨rfl, HD13.out⟩
                by_cases hc2 : 64 < C
                · have c4' : ¬ (C : Int) < 1 := by omega
                  have c5' : (64 : Int) < (C : Int) := by omega
                  clear hc1 hc2
                  go_wp2_with (go_at_call 12; (with_reducible refine (awake_calls _).mono ?_); rintro e w13 ⟨rfl, hb⟩; (have HD13 := Aside0.mk (below_step HBW.out hb)); clear hb)
                  go_ret
                  exact ⟨rfl, HD13.out⟩
                have c4' : ¬ (C : Int) < 1 := by omega
                have c5' : ¬ (64 : Int) < (C : Int) := by omega
                have HCC := Aside0.mk (show 1 ≤ C ∧ C ≤ 64 by omega)
                clear hc1 hc2
                go_wp2_with (first
                  | (go_at_call 24; (with_reducible refine (energies_0 RA n rc P C (symRow f k P n) _ (symRow_length _ _ _ _) HSW.out.r HCR.out.1 HN65.out hP1 hP8 HCC.out.1 HCC.out.2 HCP.out.1).mono ?_); rintro e w6 ⟨EA, ec, rfl, bs, hbl, hrel, hE, hb⟩; (have HE6 := Aside0.mk hE); (have HQ6 := Aside0.mk (And.intro hbl hrel)); (have HB6 := Aside0.mk (below_step HBW.out hb)); (have HS6 := Aside0.mk (HSW.out.at hb)); clear hbl hrel hE hb)
                  | (go_at_call 24; (with_reducible refine (energies_0 TA n tc P C (symTurn q f k P n) _ (symTurn_length _ _ _ _ _) HS6.out.t HCR.out.2 HN65.out hP1 hP8 HCC.out.1 HCC.out.2 HCP.out.1).mono ?_); rintro e w7 ⟨FA, fc, rfl, ds, hbl, hrel, hE, hb⟩; (have HE7 := Aside0.mk (Kd.C_below HE6.out hb)); (have HF7 := Aside0.mk hE); (have HQ7 := Aside0.mk (And.intro hbl hrel)); (have HB7 := Aside0.mk (below_step HB6.out hb)); clear hbl hrel hE hb))
                obtain ⟨d, hd⟩ : ∃ d, k % P = d := ⟨_, rfl⟩
                have hdP : d < P := by rw [← hd]; exact Nat.mod_lt _ (by omega)
                have hv : ∀ i, i < P → bs.getD i 0 = ds.getD i 0 ∧ posF (bs.getD i 0) ∧ (i ≠ d → bs.getD i 0 = 0) := fun i hi => by
                  obtain ⟨⟨s, h1, h2, h3⟩, h4⟩ := HSUM.out i hi
                  have r1 := HQ6.out.2 i hi
                  have r2 := HQ7.out.2 i hi
                  rw [h1] at r1
                  rw [h3] at r2
                  have e1 : bs.getD i 0 = s := r1
                  have e2 : ds.getD i 0 = s := r2
                  refine ⟨e1.trans e2.symm, e1 ▸ h2, fun hne => ?_⟩
                  have h5 := h4 (hd ▸ hne)
                  rw [h1] at h5
                  rw [e1]
                  exact Option.some.inj h5
                have HV := Aside0.mk hv
                have d1' : (k : Int) % (P : Int) = (d : Int) := by rw [← hd]; exact (Int.natCast_emod k P).symm
                have d2' : Int.tmod (k : Int) (P : Int) = (d : Int) := by rw [← hd]; exact tmod_nat k P
                obtain ⟨g, hg⟩ : ∃ g, decide (0 < keyF (bs.getD d 0)) = g := ⟨_, rfl⟩
                have HG := Aside0.mk hg
                have HDP := Aside0.mk hdP
                clear hd hv hg hdP HSUM
                go_loopw [24, 25] (fun hh i wi => ∃ m : Nat, m ≤ P ∧ i = .int .i64 (m : Int) ∧ hh = .bool (decide (d < m) && g) ∧ Aside0 (∃ x, wi = w7.drewN x)) (fun _ i _ => P - (intOf i).toNat)
                case atStart => exact ⟨0, Nat.zero_le _, rfl, by rw [decide_eq_false (Nat.not_lt_zero _)]; rfl, ⟨0, rfl⟩⟩
                case round =>
                  obtain ⟨m, hm, rfl, rfl, HW⟩ := hrel
                  have hbw : Below w7.heap.size w7 wr := below_of_drew HW.out
                  by_cases hlt5 : m < P
                  · have q4 : (m : Int) < (P : Int) := by omega
                    have hms : IntKind.i64.wrap ((m : Int) + 1) = (m : Int) + 1 := by rw [IntKind.wrap_i64]; omega
                    obtain ⟨ad, hA, k1⟩ := fl_at (Kd.C_below HE7.out hbw) m hlt5
                    subst hA
                    obtain ⟨bd, hB, k2⟩ := fl_at (Kd.C_below HF7.out hbw) m hlt5
                    subst hB
                    obtain ⟨v1, v2, v3⟩ := HV.out m hlt5
                    rw [← v1] at k2
                    by_cases hmd : m = d
                    · subst hmd
                      obtain ⟨x, hx⟩ : ∃ x, bs.getD m 0 = x := ⟨_, rfl⟩
                      have hg2 := HG.out
                      rw [hx] at k1 k2 v2 hg2
                      have hxn := pos_nan x v2
                      have e0 : FloatKind.f64.format.order x x = some Ordering.eq := Decidable.byContradiction fun h2 => hxn ((nan_order x).2 h2)
                      have e1 : (FloatKind.f64.format.order x x != some Ordering.eq) = false := by rw [e0]; rfl
                      have e2 : (FloatKind.f64.format.order x 0 == some Ordering.gt) = g := by
                        rw [order_key x 0 hxn (pos_nan 0 (Nat.zero_le _)), key_zero, ← hg2]
                        rcases Int.lt_trichotomy (keyF x) 0 with h | h | h
                        · rw [Int.compare_eq_lt.2 h, decide_eq_false (by omega)]; rfl
                        · rw [Int.compare_eq_eq.2 h, decide_eq_false (by omega)]; rfl
                        · rw [Int.compare_eq_gt.2 h, decide_eq_true h]; rfl
                      have e3 : (decide (m < m) && g) = false := by rw [decide_eq_false (Nat.lt_irrefl _)]; rfl
                      rw [e3]
                      clear hx v1 v2 v3 hxn e0 e3 hbw hg2
                      go_wp2
                      go_quiet (fail)
                      go_wp2
                      exact ⟨⟨m + 1, hlt5, by go_num, by rw [decide_eq_true (Nat.lt_succ_self m)]; first | rfl | simp, ⟨drew_more HW.out _⟩⟩, by show P - ((m : Int) + 1).toNat < P - (m : Int).toNat; omega⟩
                    · have hx := v3 hmd
                      rw [hx] at k1 k2
                      have e0 : FloatKind.f64.format.order 0 0 = some Ordering.eq := by decide +kernel
                      have hmi : ¬ (m : Int) = (d : Int) := by omega
                      have e3 : (decide (d < m) && g) = (decide (d < m + 1) && g) := by
                        by_cases h : d < m
                        · rw [decide_eq_true h, decide_eq_true (by omega)]
                        · rw [decide_eq_false h, decide_eq_false (by omega)]
                      obtain ⟨hv0, hhv⟩ : ∃ hv0, (decide (d < m) && g) = hv0 := ⟨_, rfl⟩
                      rw [hhv] at e3 ⊢
                      have HE3 := Aside0.mk e3
                      clear hx v1 v2 v3 hbw e3 hhv hmd
                      cases hv0
                      all_goals
                        go_wp2
                        go_quiet (fail)
                        go_wp2
                        exact ⟨⟨m + 1, hlt5, by go_num, by rw [← HE3.out], ⟨drew_more HW.out _⟩⟩, by show P - ((m : Int) + 1).toNat < P - (m : Int).toNat; omega⟩
                  · have hmP : m = P := by omega
                    subst hmP
                    have HBZ := Aside0.mk (below_step HB7.out hbw)
                    have HPH := Aside0.mk (phase_ok EA ec m bs wr (Kd.C_below HE7.out hbw) (by omega) (by omega) (fun ⟨i, hi, hnan⟩ => pos_nan _ (HV.out i hi).2.1 hnan))
                    obtain ⟨ba1, ba2⟩ := best_at bs m d (by omega) HDP.out (fun i hi hne => (HV.out i hi).2.2 hne) (HV.out d HDP.out).2.1
                    rw [decide_eq_true HDP.out, Bool.true_and]
                    have hg2 := HG.out
                    clear hbw
                    cases g
                    · have hz := ba2 (of_decide_eq_false hg2)
                      rw [hz] at HPH
                      clear ba1 ba2 hz hg2
                      go_wp2_with (first
                        | (go_at_call 27; (with_reducible refine HPH.out.mono ?_); rintro e w13 ⟨rfl, rfl⟩)
                        | (go_at_call 12; (with_reducible refine (awake_calls _).mono ?_); rintro e w14 ⟨rfl, hb⟩; (have HD14 := Aside0.mk (below_step HBZ.out hb)); clear hb))
                      go_ret
                      exact ⟨rfl, HD14.out⟩
                    · have hz := ba1 (of_decide_eq_true hg2)
                      rw [hz] at HPH
                      clear ba1 ba2 hz hg2
                      go_wp2_with (first
                        | (go_at_call 27; (with_reducible refine HPH.out.mono ?_); rintro e w13 ⟨rfl, rfl⟩)
                        | (go_at_call 12; (with_reducible refine (awake_calls _).mono ?_); rintro e w14 ⟨rfl, hb⟩; (have HD14 := Aside0.mk (below_step HBZ.out hb)); clear hb))
                      go_ret
                      exact ⟨rfl, HD14.out⟩
theorem wf_i8s {a : Int} (h : (Lit.int .i8 a).wf = true) : -128 ≤ a ∧ a ≤ 127 := by
  simpa [Lit.wf, IntKind.has, IntKind.min, IntKind.max, IntKind.signed, IntKind.bits] using h
theorem wf_u8s {a : Int} (h : (Lit.int .u8 a).wf = true) : ∃ n : Nat, a = (n : Int) ∧ n < 256 := by
  have h2 : 0 ≤ a ∧ a ≤ 255 := by simpa [Lit.wf, IntKind.has, IntKind.min, IntKind.max, IntKind.signed, IntKind.bits] using h
  exact ⟨a.toNat, by omega, by omega⟩
theorem TempoSymbols_walk (A1 : Option Addr) (c1 : Nat) (l1 : List (Int × Int)) (x0 x1 x2 : Int) (w : World) (hr1 : Kd.C KI8 w A1 l1.length l1) (hc1 : l1.length ≤ c1) (hy1 : l1.length * 2 ≤ 140737488351232) (hg1 : ∀ y ∈ l1, (Lit.int .i8 y.1).wf = true ∧ (Lit.int .i8 y.2).wf = true) (w0 : (Lit.int .u8 x0).wf = true) (w1 : (Lit.int .u8 x1).wf = true) (w2 : (Lit.int .i64 x2).wf = true) :
    Calls Try.prog 8 #[.slice A1 l1.length c1, .agg #[.int .u8 x0, .int .u8 x1, .int .i64 x2]] w fun e w' => e = .returned (.bool true) ∧ Below w.heap.size w w' := by
  obtain ⟨n0, rfl, h0⟩ := wf_u8s w0
  obtain ⟨n1, rfl, h1⟩ := wf_u8s w1
  exact symbols_walk A1 c1 l1.length l1 n0 n1 x2 w rfl hr1 (fun y hy => ⟨wf_i8s (hg1 y hy).1, wf_i8s (hg1 y hy).2⟩) (by omega) h0 h1
end Go.Proofs.Ytjhapibelhakdaa.Pure
