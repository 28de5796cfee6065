/- Rows of registers, periods: plain Lean. -/
import Derived.Test.YtbhhbnpbijehcaaScrMath
namespace Go.Scr
set_option linter.unusedVariables false
theorem iter_succ (f : Nat → Nat) (n s : Nat) : iter f (n + 1) s = f (iter f n s) := by
  rw [iter_add f n 1]; rfl
/-- The lowest bit. -/
def low (s : Nat) : Bool := s.testBit 0
/-- The bits of the next n steps. -/
def rowV (w t s n : Nat) : List Bool := (List.range n).map fun i => low (iter (step w t) i s)
theorem rowV_length (w t s n : Nat) : (rowV w t s n).length = n := by simp [rowV]
theorem rowV_succ (w t s n : Nat) : rowV w t s (n + 1) = rowV w t s n ++ [low (iter (step w t) n s)] := by
  unfold rowV
  rw [List.range_succ, List.map_append]
  rfl
theorem rowV_get (w t s n i : Nat) (h : i < n) : (rowV w t s n)[i]? = some (low (iter (step w t) i s)) := by
  unfold rowV
  rw [List.getElem?_map, List.getElem?_range h]
  rfl
theorem rowV_add (w t s a b : Nat) : rowV w t s (a + b) = rowV w t s a ++ rowV w t (iter (step w t) a s) b := by
  induction b with
  | zero => simp [rowV]
  | succ b ih => rw [← Nat.add_assoc, rowV_succ, ih, rowV_succ, List.append_assoc, iter_add]
theorem iter_lin (w t : Nat) (hw : 2 ≤ w) : ∀ n, Lin w (iter (step w t) n)
  | 0 => ⟨fun a b _ _ => rfl, fun a h => h⟩
  | n + 1 => (iter_lin w t hw n).comp (lin_step w t hw)
/-- The first step that leads back, of the first n. -/
def firstBack (w t s : Nat) : Nat → Option Nat
  | 0 => none
  | n + 1 => match firstBack w t s n with
    | some k => some k
    | none => if iter (step w t) (n + 1) s = s then some (n + 1) else none
theorem firstBack_none (w t s : Nat) : ∀ n, firstBack w t s n = none ↔ ∀ k, 1 ≤ k → k ≤ n → iter (step w t) k s ≠ s
  | 0 => ⟨fun _ k h1 h2 => by omega, fun _ => rfl⟩
  | n + 1 => by
    have ih := firstBack_none w t s n
    unfold firstBack
    cases hf : firstBack w t s n with
    | some k =>
      simp only [reduceCtorEq, false_iff]
      intro h
      have := ih.2 (fun k h1 h2 => h k h1 (by omega))
      rw [hf] at this
      cases this
    | none =>
      have h0 := ih.1 hf
      simp only
      constructor
      · intro h k h1 h2
        rcases Nat.lt_or_ge n k with h3 | h3
        · have : k = n + 1 := by omega
          subst this
          intro he
          rw [if_pos he] at h
          cases h
        · exact h0 k h1 h3
      · intro h
        rw [if_neg (h (n + 1) (by omega) (Nat.le_refl _))]
theorem firstBack_some (w t s : Nat) : ∀ n k, firstBack w t s n = some k → 1 ≤ k ∧ k ≤ n ∧ iter (step w t) k s = s ∧ ∀ j, 1 ≤ j → j < k → iter (step w t) j s ≠ s
  | 0, k, h => by cases h
  | n + 1, k, h => by
    unfold firstBack at h
    cases hf : firstBack w t s n with
    | some j =>
      rw [hf] at h
      simp only [Option.some.injEq] at h
      subst h
      obtain ⟨h1, h2, h3, h4⟩ := firstBack_some w t s n j hf
      exact ⟨h1, by omega, h3, h4⟩
    | none =>
      rw [hf] at h
      simp only at h
      by_cases he : iter (step w t) (n + 1) s = s
      · rw [if_pos he] at h
        simp only [Option.some.injEq] at h
        subst h
        exact ⟨by omega, Nat.le_refl _, he, fun j h1 h2 => (firstBack_none w t s n).1 hf j h1 (by omega)⟩
      · rw [if_neg he] at h
        cases h
theorem iter_mul (f : Nat → Nat) (n s : Nat) (h : iter f n s = s) : ∀ k, iter f (n * k) s = s
  | 0 => rfl
  | k + 1 => by rw [Nat.mul_succ, iter_add, iter_mul f n s h k, h]
/-- With a period p, just the multiples of p lead back. -/
theorem period_iff (w t s p i : Nat) (hp : firstBack w t s 3000 = some p) (hi : 1 ≤ i) : iter (step w t) i s = s ↔ i % p = 0 := by
  obtain ⟨h1, h2, h3, h4⟩ := firstBack_some w t s _ p hp
  have e : iter (step w t) i s = iter (step w t) (i % p) s := by
    conv => lhs; rw [← Nat.div_add_mod i p, iter_add, iter_mul _ p s h3]
  rw [e]
  rcases Nat.eq_zero_or_pos (i % p) with h | h
  · rw [h]; exact ⟨fun _ => rfl, fun _ => rfl⟩
  · exact ⟨fun he => absurd he (h4 _ h (Nat.mod_lt _ h1)), fun he => by omega⟩
end Go.Scr
