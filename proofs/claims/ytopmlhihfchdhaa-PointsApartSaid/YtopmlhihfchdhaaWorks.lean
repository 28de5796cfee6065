/- What the closed laws ask first; sizes; norms. -/
import Derived.Test.YtopmlhihfchdhaaFogx0
import Derived.Test.YtopmlhihfchdhaaFogx1
import Derived.Test.YtopmlhihfchdhaaPrg
import Derived.Test.YtopmlhihfchdhaaNum
import Derived.Test.YtopmlhihfchdhaaRow
namespace Go.Proofs.Ytopmlhihfchdhaa.Pure
open Go.RowKit Go.Proofs.Ytopmlhihfchdhaa.Fog Go.Proofs.YtopmlhihfchdhaaW.PrintWords Go.Proofs.YtopmlhihfchdhaaW.PrintLast Go.Proofs.YtopmlhihfchdhaaW.PrintMore Go.Proofs.Ytopmlhihfchdhaa.Kit
set_option linter.unusedVariables false
set_option linter.unusedSimpArgs false
/-- A literal row of one-cell values. -/
theorem lit_scalar {α : Type} (enc : α → Value) (h1 : ∀ x, (enc x).oneCell' = true) (w : World) (T : TypeId) (xs : List α) (hn : xs.length ≤ 9223372036854775807) : Kd.C (Kd.scalar enc h1) (w.alloc (.cells (xs.map enc).toArray T)) (some ⟨w.heap.size, 0, none⟩) xs.length xs := by
  refine ⟨rfl, hn, fun _ => ⟨_, rfl, fun j p hj => ⟨[enc p], rfl, rfl, fun i u hu => ?_⟩⟩⟩
  obtain ⟨rfl, rfl⟩ : i = 0 ∧ enc p = u := by
    match i, hu with
    | 0, hu => exact ⟨rfl, by simpa using hu⟩
  rw [add_zero_form, blk_cell (blk_new w _)]
  show ((xs.map enc).toArray)[j * 1 + 0]? = _
  rw [List.getElem?_toArray, Nat.mul_one, Nat.add_zero, List.getElem?_map, hj]
  rfl
theorem at16 (w : World) : Calls Try.prog 23 #[.int .i64 16, .int .i64 2] w fun r w' => r = .returned (.tuple #[.complex .f64 13837309855095848960 4613937818241073152, .int .i64 0]) ∧ Below w.heap.size w w' := by
  have h := at_any 16 2 (by unfold isSz; omega) (by omega) w
  rw [show zAt 16 2 = (13837309855095848960, 4613937818241073152) by decide +kernel] at h
  exact h
theorem label16 (w : World) : Calls Try.prog 25 #[.int .i64 16, .complex .f64 4607182418800017408 13837309855095848960] w fun r w' => r = .returned (.tuple #[.int .i64 12, .int .i64 0]) ∧ Below w.heap.size w w' := by
  have h := label_at 16 (by unfold isSz; omega) 4607182418800017408 13837309855095848960 w
  rw [show labA 16 (4607182418800017408, 13837309855095848960) = (12, 0) by decide +kernel] at h
  exact h
theorem coset16 (w : World) : Calls Try.prog 29 #[.int .i64 16, .complex .f64 4607182418800017408 4607182418800017408, .int .i64 4] w fun r w' => r = .returned (.tuple #[.int .i64 2, .int .i64 0]) ∧ Below w.heap.size w w' := by
  obtain ⟨i, hi⟩ : ∃ i : Fin 16, hit 16 (fI 1, fI 1) i.val = true := by decide +kernel
  have h := coset_hit 16 1 1 4 (by unfold isSz; omega) (by omega) (by omega) (by omega) ⟨i.val, i.isLt, hi⟩ w
  rw [show fI 1 = 4607182418800017408 by decide +kernel, show (cosS 1 1 4).2.2 = 2 by decide +kernel] at h
  exact h
theorem energy32 (w : World) : Calls Try.prog 19 #[.int .i64 32] w fun r w' => r = .returned (.tuple #[.int .i64 640, .int .i64 0]) ∧ Below w.heap.size w w' := by
  have h := energy_any 32 (by unfold isSz; omega) w
  rw [show eng 32 32 = 640 by decide +kernel] at h
  exact h
theorem row4 (A : Option Addr) (c : Nat) (w : World) (h : Kd.C Kd.bool w A 4 [false, false, true, true]) (hc : 4 ≤ c) : Calls Try.prog 32 #[.slice A 4 c, .int .i64 4] w fun r w' => ∃ B d, r = .returned (.tuple #[.slice B 2 d, .int .i64 0]) ∧ Kd.C KC w' B 2 [(13830554455654793216, 13830554455654793216), (4607182418800017408, 4607182418800017408)] ∧ Below w.heap.size w w' := by
  have h2 := row_any 4 (by unfold isSz; omega) A c 4 [false, false, true, true] rfl w h hc
  rw [show wordsV [false, false, true, true] (szB 4) = ([0, 3], 0) by decide +kernel] at h2
  refine h2.mono ?_
  rintro r w' ⟨v, rfl, hR, hb⟩
  simp only at hR
  rw [show rowP 4 [0, 3] = [(13830554455654793216, 13830554455654793216), (4607182418800017408, 4607182418800017408)] by decide +kernel] at hR
  obtain ⟨B, d, rfl⟩ := Kd.R_slice hR
  exact ⟨B, d, rfl, (Kd.R_reads' hR).2.2, hb⟩
theorem turned4 (w : World) : Calls Try.prog 27 #[.int .i64 4, .int .i64 0, .int .i64 1] w fun r w' => r = .returned (.tuple #[.int .i64 2, .int .i64 0]) ∧ Below w.heap.size w w' := by
  have h := turned_at 4 0 1 (by unfold isSz; omega) (by omega) w
  rw [show labA 4 (tz (zAt 4 0) ((1 : Int) % 4).toNat) = (2, 0) by decide +kernel] at h
  exact h
theorem sizes6 (w : World) : Calls Try.prog 11 #[] w fun e w' => ∃ (A : Option Addr) (c : Nat), e = .returned (.slice A 6 c) ∧ Below w.heap.size w w' := by
  refine (points_Sizes.calls [4, 16, 32, 64, 128, 256] w rfl).mono ?_
  rintro e w' ⟨v, rfl, hR, hb⟩
  obtain ⟨A, c, rfl⟩ := Kd.R_slice hR
  exact ⟨A, c, rfl, hb⟩
theorem litb4 (w : World) : Kd.C Kd.bool (w.alloc (.cells #[.bool false, .bool false, .bool true, .bool true] 4)) (some ⟨w.heap.size, 0, none⟩) 4 [false, false, true, true] := lit_scalar Value.bool (fun _ => rfl) w 4 [false, false, true, true] (by decide)
theorem litc2 (w : World) : Kd.C KC (w.alloc (.cells #[.complex .f64 13830554455654793216 13830554455654793216, .complex .f64 4607182418800017408 4607182418800017408] 31)) (some ⟨w.heap.size, 0, none⟩) 2 [(13830554455654793216, 13830554455654793216), (4607182418800017408, 4607182418800017408)] := lit_scalar cx (fun _ => rfl) w 31 [(13830554455654793216, 13830554455654793216), (4607182418800017408, 4607182418800017408)] (by decide)
theorem fine2 : ∀ i, i < 2 → fine (([(13830554455654793216, 13830554455654793216), (4607182418800017408, 4607182418800017408)] : List (Nat × Nat)).getD i (0, 0)) := by
  intro i hi
  unfold fine
  match i, hi with
  | 0, _ => decide +kernel
  | 1, _ => decide +kernel
set_option maxHeartbeats 4000000 in
set_option maxRecDepth 100000 in
theorem works_calls (w : World) : Calls Try.prog 38 #[] w fun r w' => r = .returned (.bool true) ∧ Below w.heap.size w w' := by
  have o1 : FloatKind.f64.format.order 13837309855095848960 13837309855095848960 = some .eq := by decide +kernel
  have o2 : FloatKind.f64.format.order 4613937818241073152 4613937818241073152 = some .eq := by decide +kernel
  have HB0 := Aside0.mk (Below.refl w.heap.size w)
  go_enter Try.func38, Try.ntmps38
  go_wp2_with (first
    | (go_at_call 23; (with_reducible refine (at16 _).mono ?_); rintro e w1 ⟨rfl, hb⟩; (have HB1 := Aside0.mk (below_step HB0.out hb)); clear hb)
    | (go_at_call 25; (with_reducible refine (label16 _).mono ?_); rintro e w2 ⟨rfl, hb⟩; (have HB2 := Aside0.mk (below_step HB1.out hb)); clear hb)
    | (go_at_call 29; (with_reducible refine (coset16 _).mono ?_); rintro e w3 ⟨rfl, hb⟩; (have HB3 := Aside0.mk (below_step HB2.out hb)); clear hb)
    | (go_at_call 19; (with_reducible refine (energy32 _).mono ?_); rintro e w4 ⟨rfl, hb⟩; (have HB4 := Aside0.mk (below_step HB3.out (below_step hb ((Below.refl w4.heap.size w4).alloc (Nat.le_refl _) (.cells #[.bool false, .bool false, .bool true, .bool true] 4))))); clear hb)
    | (go_at_call 32; (with_reducible refine (row4 _ _ _ (litb4 w4) (Nat.le_refl _)).mono ?_); rintro e w5 ⟨B, d, rfl, hC, hb⟩; (have HB5 := Aside0.mk (below_step HB4.out hb)); (have HC5 := Aside0.mk hC); clear hb hC)
    | (go_at_call 27; (with_reducible refine (turned4 _).mono ?_); rintro e w6 ⟨rfl, hb⟩; (have HB6 := Aside0.mk (below_step HB5.out (below_step hb ((Below.refl w6.heap.size w6).alloc (Nat.le_refl _) (.cells #[.complex .f64 13830554455654793216 13830554455654793216, .complex .f64 4607182418800017408 4607182418800017408] 31))))); (have HC6 := Aside0.mk (Kd.C_below (Kd.C_below HC5.out hb) ((Below.refl w6.heap.size w6).alloc (Nat.le_refl _) (.cells #[.complex .f64 13830554455654793216 13830554455654793216, .complex .f64 4607182418800017408 4607182418800017408] 31)))); clear hb)
    | (go_at_call 21; (with_reducible refine (same_points B _ d 2 2 _ _ rfl HC6.out (litc2 w6) fine2 (by decide)).mono ?_); rintro e w7 ⟨rfl, hd⟩; (have HB7 := Aside0.mk (below_step HB6.out (below_of_drew hd))); clear hd)
    | (go_at_call 11; (with_reducible refine (sizes6 _).mono ?_); rintro e w8 ⟨A8, c8, rfl, hb⟩; (have HB8 := Aside0.mk (below_step HB7.out hb)); clear hb))
  go_ret
  exact ⟨rfl, HB8.out⟩
/-- The sizes by number. -/
def szN (j : Nat) : Nat := [4, 16, 32, 64, 128, 256].getD j 0
theorem szN_sz : ∀ j, j < 6 → isSz (szN j)
  | 0, _ => .inl rfl
  | 1, _ => .inr (.inl rfl)
  | 2, _ => .inr (.inr (.inl rfl))
  | 3, _ => .inr (.inr (.inr (.inl rfl)))
  | 4, _ => .inr (.inr (.inr (.inr (.inl rfl))))
  | 5, _ => .inr (.inr (.inr (.inr (.inr rfl))))
  | j + 6, h => absurd h (by omega)
set_option maxHeartbeats 1000000 in
set_option maxRecDepth 100000 in
theorem size_calls (n : Int) (j : Nat) (hj : j < 6) (hn : Int.tmod (IntKind.u64.wrap n) 6 = (j : Int)) (w : World) : Calls Try.prog 39 #[.int .i64 n] w fun r w' => r = .returned (.int .i64 (szN j : Int)) ∧ Below w.heap.size w w' := by
  have hw : IntKind.u64.wrap (j : Int) = (j : Int) := by simp [IntKind.wrap, IntKind.bits, IntKind.signed]; omega
  obtain ⟨u, hu⟩ : ∃ u, IntKind.u64.wrap n = u := ⟨_, rfl⟩
  rw [hu] at hn
  match j, hj with
  | 0, _ =>
    go_enter Try.func39, Try.ntmps39
    go_wp2
    go_ret
    exact ⟨rfl, (Below.refl _ _).alloc (Nat.le_refl _) _⟩
  | 1, _ =>
    go_enter Try.func39, Try.ntmps39
    go_wp2
    go_ret
    exact ⟨rfl, (Below.refl _ _).alloc (Nat.le_refl _) _⟩
  | 2, _ =>
    go_enter Try.func39, Try.ntmps39
    go_wp2
    go_ret
    exact ⟨rfl, (Below.refl _ _).alloc (Nat.le_refl _) _⟩
  | 3, _ =>
    go_enter Try.func39, Try.ntmps39
    go_wp2
    go_ret
    exact ⟨rfl, (Below.refl _ _).alloc (Nat.le_refl _) _⟩
  | 4, _ =>
    go_enter Try.func39, Try.ntmps39
    go_wp2
    go_ret
    exact ⟨rfl, (Below.refl _ _).alloc (Nat.le_refl _) _⟩
  | 5, _ =>
    go_enter Try.func39, Try.ntmps39
    go_wp2
    go_ret
    exact ⟨rfl, (Below.refl _ _).alloc (Nat.le_refl _) _⟩
theorem size_nat (j : Nat) (hj : j < 6) (w : World) : Calls Try.prog 39 #[.int .i64 (j : Int)] w fun r w' => r = .returned (.int .i64 (szN j : Int)) ∧ Below w.heap.size w w' := by
  refine size_calls _ j hj ?_ w
  have hw : IntKind.u64.wrap (j : Int) = (j : Int) := by simp [IntKind.wrap, IntKind.bits, IntKind.signed]; omega
  rw [hw, Int.tmod_eq_emod_of_nonneg (by omega)]
  omega
theorem size_any (n : Int) : ∃ j, j < 6 ∧ ∀ w, Calls Try.prog 39 #[.int .i64 n] w fun r w' => r = .returned (.int .i64 (szN j : Int)) ∧ Below w.heap.size w w' := by
  have h0 : 0 ≤ IntKind.u64.wrap n := by simp [IntKind.wrap, IntKind.bits, IntKind.signed]; omega
  refine ⟨(IntKind.u64.wrap n % 6).toNat, by omega, fun w => size_calls n _ (by omega) ?_ w⟩
  rw [Int.tmod_eq_emod_of_nonneg h0]
  omega
set_option maxHeartbeats 1000000 in
set_option maxRecDepth 100000 in
theorem norm_calls (x y a b c : Nat) (h1 : floatBits .mul .f64 x x = some a) (h2 : floatBits .mul .f64 y y = some b) (h3 : floatBits .add .f64 a b = some c) (w : World) : Calls Try.prog 40 #[.complex .f64 x y] w fun r w' => r = .returned (.float .f64 c) ∧ Below w.heap.size w w' := by
  have r1 : ∀ w, (binOp .mul 33 (.float .f64 x) (.float .f64 x)).run Try.prog w = .ok (.float .f64 a) w := fun w => run_float_arith w .mul _ _ _ _ _ h1
  have r2 : ∀ w, (binOp .mul 33 (.float .f64 y) (.float .f64 y)).run Try.prog w = .ok (.float .f64 b) w := fun w => run_float_arith w .mul _ _ _ _ _ h2
  have r3 : ∀ w, (binOp .add 33 (.float .f64 a) (.float .f64 b)).run Try.prog w = .ok (.float .f64 c) w := fun w => run_float_arith w .add _ _ _ _ _ h3
  go_enter Try.func40, Try.ntmps40
  go_wp2
  go_ret
  exact ⟨rfl, Below.refl _ _⟩
end Go.Proofs.Ytopmlhihfchdhaa.Pure
