/- The plain law of TempoFound. -/
import Derived.Test.YtjhapibelhakdaaFogx0
import Derived.Test.YtjhapibelhakdaaSlide
namespace Go.Proofs.Ytjhapibelhakdaa.Pure
open Go.RowKit Go.Proofs.Ytjhapibelhakdaa.Fog Go.Proofs.YtjhapibelhakdaaW.PrintWords Go.Proofs.YtjhapibelhakdaaW.PrintLast Go.Proofs.YtjhapibelhakdaaW.PrintMore Go.Proofs.Ytjhapibelhakdaa.Kit
set_option linter.unusedVariables false
set_option linter.unusedSimpArgs false
def flN (i : Nat) : Nat := floatOfInt .f64 (i : Int)
def one64 : Nat := 4607182418800017408
def fsm (i : Nat) : Smp := ((flN i, one64), false)
def rowF (k : Nat) : List Smp := (List.range k).map fsm
theorem fl_eq : ∀ i : Nat, i < 100 → ∀ j : Nat, j < 100 → eqC (flN i, one64) (flN j, one64) = decide (i = j) := by decide +kernel
theorem rowF_length (k : Nat) : (rowF k).length = k := by unfold rowF; simp
theorem rowF_succ (k : Nat) : rowF (k + 1) = rowF k ++ [fsm k] := by unfold rowF; rw [List.range_succ, List.map_append]; rfl
theorem rowF_getD (k i : Nat) (h : i < k) : (rowF k).getD i s0 = fsm i := by
  unfold rowF
  rw [List.getD_eq_getElem?_getD, List.getElem?_map, List.getElem?_range h]; rfl
def lateF (B N : Nat) : List Smp := List.replicate B lostS ++ rowF N
theorem lateF_length (B N : Nat) : (lateF B N).length = B + N := by unfold lateF; simp [rowF_length]
theorem lateF_low (B N i : Nat) (h : i < B) : (lateF B N).getD i s0 = lostS := by
  unfold lateF
  rw [List.getD_eq_getElem?_getD, List.getElem?_append_left (by simpa using h), List.getElem?_replicate, if_pos h]; rfl
theorem lateF_high (B N i : Nat) (h : B ≤ i) (h2 : i < B + N) : (lateF B N).getD i s0 = fsm (i - B) := by
  have := rowF_getD N (i - B) (by omega)
  rw [← this]
  unfold lateF
  rw [List.getD_eq_getElem?_getD, List.getElem?_append_right (by simpa using h), List.length_replicate, List.getD_eq_getElem?_getD]
theorem agr_fsm (i j : Nat) (hi : i < 100) (hj : j < 100) : agr (fsm i) (fsm j) = decide (i = j) := by
  unfold agr fsm
  rw [fl_eq i hi j hj]; rfl
theorem agr_lost (x : Smp) : agr x lostS = false := by unfold agr lostS; simp
theorem agr_lost' (x : Smp) : agr lostS x = false := by unfold agr lostS; simp
/-- row against late. -/
theorem inA_rl (B N k : Nat) (s : Int) (hN : N ≤ 100) (hk : k < N) : inA (rowF N) (lateF B N) s k = decide (s = (B : Int)) := by
  unfold inA
  rw [lateF_length, rowF_getD N k hk]
  by_cases h : 0 ≤ (k : Int) + s ∧ (k : Int) + s < ((B + N : Nat) : Int)
  · rw [decide_eq_true h, Bool.true_and]
    obtain ⟨m, hm⟩ : ∃ m : Nat, (k : Int) + s = (m : Int) := ⟨((k : Int) + s).toNat, by omega⟩
    rw [hm, Int.toNat_natCast]
    rw [hm] at h
    by_cases hB : m < B
    · rw [lateF_low B N m hB, agr_lost]; symm; exact decide_eq_false (by omega)
    · rw [lateF_high B N m (by omega) (by omega), agr_fsm k (m - B) (by omega) (by omega)]
      exact decide_eq_decide.2 (by omega)
  · rw [decide_eq_false h, Bool.false_and]; symm; exact decide_eq_false (by omega)
theorem agree_rl (B N : Nat) (s : Int) (hN : N ≤ 100) : ∀ k, k ≤ N → agreeTo (rowF N) (lateF B N) s k = if s = (B : Int) then k else 0
  | 0, _ => by simp [agreeTo]
  | k + 1, h => by
    rw [agreeTo_succ, agree_rl B N s hN k (by omega), inA_rl B N k s hN (by omega)]
    by_cases e : s = (B : Int) <;> simp [e]
/-- late against row. -/
theorem inA_lr (B N k : Nat) (s : Int) (hN : N ≤ 100) (hk : k < B + N) : inA (lateF B N) (rowF N) s k = decide (B ≤ k ∧ s = -(B : Int)) := by
  unfold inA
  rw [rowF_length]
  by_cases h : 0 ≤ (k : Int) + s ∧ (k : Int) + s < (N : Int)
  · rw [decide_eq_true h, Bool.true_and]
    obtain ⟨m, hm⟩ : ∃ m : Nat, (k : Int) + s = (m : Int) := ⟨((k : Int) + s).toNat, by omega⟩
    rw [hm, Int.toNat_natCast]
    rw [hm] at h
    rw [rowF_getD N m (by omega)]
    by_cases hB : k < B
    · rw [lateF_low B N k hB, agr_lost']; symm; exact decide_eq_false (by omega)
    · rw [lateF_high B N k (by omega) (by omega), agr_fsm (k - B) m (by omega) (by omega)]
      exact decide_eq_decide.2 (by omega)
  · rw [decide_eq_false h, Bool.false_and]; symm; exact decide_eq_false (by omega)
theorem agree_lr (B N : Nat) (s : Int) (hN : N ≤ 100) : ∀ k, k ≤ B + N → agreeTo (lateF B N) (rowF N) s k = if s = -(B : Int) then k - B else 0
  | 0, _ => by simp [agreeTo]
  | k + 1, h => by
    rw [agreeTo_succ, agree_lr B N s hN k (by omega), inA_lr B N k s hN (by omega)]
    by_cases e : s = -(B : Int)
    · by_cases hb : B ≤ k
      · simp [e, hb]; omega
      · simp [e, hb]; omega
    · simp [e]
theorem try_rl (B N : Nat) (s : Int) (st : Int × Nat) (hN : N ≤ 100) : tryV (rowF N) (lateF B N) s st = if s = (B : Int) ∧ st.2 < N then (s, N) else st := by
  unfold tryV
  rw [rowF_length, agree_rl B N s hN N (Nat.le_refl _)]
  by_cases e : s = (B : Int)
  · simp [e]
  · simp [e]
theorem try_lr (B N : Nat) (s : Int) (st : Int × Nat) (hN : N ≤ 100) : tryV (lateF B N) (rowF N) s st = if s = -(B : Int) ∧ st.2 < N then (s, N) else st := by
  unfold tryV
  rw [lateF_length, agree_lr B N s hN (B + N) (Nat.le_refl _), show B + N - B = N by omega]
  by_cases e : s = -(B : Int)
  · simp [e]
  · simp [e]
theorem slip_rl (B N : Nat) (hN : N ≤ 100) (h1 : 1 ≤ N) : ∀ F, slipTo (rowF N) (lateF B N) F = if B ≤ F then ((B : Int), N) else (0, 0)
  | 0 => by
    unfold slipTo
    rw [try_rl B N 0 _ hN]
    by_cases e : B = 0
    · subst e; simp; omega
    · rw [if_neg (by omega), if_neg (by omega)]
  | F + 1 => by
    rw [slipTo, slip_rl B N hN h1 F, try_rl B N _ _ hN, try_rl B N _ _ hN]
    by_cases e : B ≤ F
    · rw [if_pos e, if_neg (by omega), if_neg (by omega), if_pos (by omega)]
    · rw [if_neg e]
      by_cases e2 : B = F + 1
      · rw [if_pos (show ((F : Int) + 1 = (B : Int) ∧ ((0 : Int), 0).2 < N) from ⟨by omega, h1⟩), if_neg (by omega), if_pos (by omega), e2]; rfl
      · rw [if_neg (show ¬ ((F : Int) + 1 = (B : Int) ∧ ((0 : Int), 0).2 < N) by omega), if_neg (by omega), if_neg (by omega)]
theorem slip_lr (B N : Nat) (hN : N ≤ 100) (h1 : 1 ≤ N) : ∀ F, slipTo (lateF B N) (rowF N) F = if B ≤ F then (-(B : Int), N) else (0, 0)
  | 0 => by
    unfold slipTo
    rw [try_lr B N 0 _ hN]
    by_cases e : B = 0
    · subst e; simp; omega
    · rw [if_neg (by omega), if_neg (by omega)]
  | F + 1 => by
    rw [slipTo, slip_lr B N hN h1 F, try_lr B N _ _ hN, try_lr B N _ _ hN]
    by_cases e : B ≤ F
    · rw [if_pos e, if_neg (by omega), if_neg (by omega), if_pos (by omega)]
    · rw [if_neg e, if_neg (show ¬ ((F : Int) + 1 = -(B : Int) ∧ ((0 : Int), 0).2 < N) by omega)]
      by_cases e2 : B = F + 1
      · rw [if_pos (show (-(F : Int) - 1 = -(B : Int) ∧ ((0 : Int), 0).2 < N) from ⟨by omega, h1⟩), if_pos (by omega), e2]
        congr 1; omega
      · rw [if_neg (by omega), if_neg (by omega)]
def slidF (B N p : Nat) : List Smp := (rowF N).take p ++ List.replicate B lostS ++ (rowF N).drop p
theorem slidF_zero (B N : Nat) : slidF B N 0 = lateF B N := by unfold slidF lateF; simp
theorem slidF_length (B N p : Nat) (hp : p ≤ N) : (slidF B N p).length = N + B := by unfold slidF; simp [rowF_length]; omega
theorem slidF_back (B N p : Nat) (hp : p ≤ N) : (slidF B N p).take p ++ (slidF B N p).drop (p + B) = rowF N := by
  have hl : ((rowF N).take p).length = p := by rw [List.length_take, rowF_length]; omega
  have h1 : (slidF B N p).take p = (rowF N).take p := by
    unfold slidF
    rw [List.append_assoc, List.take_append_of_le_length (by omega), List.take_of_length_le (by omega)]
  have h2 : (slidF B N p).drop (p + B) = (rowF N).drop p := by
    unfold slidF
    rw [List.drop_append, List.drop_of_length_le (by rw [List.length_append, hl, List.length_replicate]; exact Nat.le_refl _), List.length_append, hl, List.length_replicate, Nat.sub_self]; rfl
  rw [h1, h2, List.take_append_drop]
theorem slidF_back0 (N p : Nat) : (slidF 0 N p).take p ++ List.replicate 0 lostS ++ (slidF 0 N p).drop p = rowF N := by
  unfold slidF; simp
theorem slidF_lost (B N p j : Nat) (hp : p ≤ N) (hj : j < B) : (slidF B N p).getD (p + j) s0 = lostS := by
  have hl : ((rowF N).take p).length = p := by rw [List.length_take, rowF_length]; omega
  unfold slidF
  rw [List.getD_eq_getElem?_getD, List.append_assoc, List.getElem?_append_right (by omega), hl, Nat.add_sub_cancel_left, List.getElem?_append_left (by simpa using hj), List.getElem?_replicate, if_pos hj]; rfl
end Go.Proofs.Ytjhapibelhakdaa.Pure
