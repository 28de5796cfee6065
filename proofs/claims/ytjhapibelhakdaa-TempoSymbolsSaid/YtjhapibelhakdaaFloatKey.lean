/- Floats by size: a key of whole numbers. -/
import Derived.Test.YtjhapibelhakdaaFogx0
import Derived.Test.YtjhapibelhakdaaFloatLaw
namespace Go.Proofs.Ytjhapibelhakdaa.Pure
open Go.RowKit Go.Proofs.Ytjhapibelhakdaa.Fog Go.Proofs.YtjhapibelhakdaaW.PrintWords Go.Proofs.YtjhapibelhakdaaW.PrintLast Go.Proofs.YtjhapibelhakdaaW.PrintMore Go.Proofs.Ytjhapibelhakdaa.Kit
set_option linter.unusedVariables false
set_option linter.unusedSimpArgs false
def keyD : Ieee.Datum → Int
  | .nan .. => 0
  | .infinity s => if s then -(2 ^ 6000 : Nat) else (2 ^ 6000 : Nat)
  | .number s m i => Ieee.signed s m (i + 1074).toNat
def keyF (b : Nat) : Int := keyD (FloatKind.f64.format.read b)
theorem signed_split (s : Bool) (m a b : Nat) : Ieee.signed s m (a + b) = Ieee.signed s m a * ((2 ^ b : Nat) : Int) := by
  unfold Ieee.signed
  rw [Nat.shiftLeft_eq, Nat.shiftLeft_eq, Nat.pow_add, ← Nat.mul_assoc, Int.natCast_mul]
  split
  · rw [Int.neg_mul]
  · rfl
theorem signed_lt (s : Bool) (m a : Nat) (hm : m < 2 ^ 53) (ha : a ≤ 2045) : -((2 ^ 6000 : Nat) : Int) < Ieee.signed s m a ∧ Ieee.signed s m a < ((2 ^ 6000 : Nat) : Int) := by
  have h1 : m <<< a < 2 ^ 6000 := by
    rw [Nat.shiftLeft_eq]
    calc m * 2 ^ a < 2 ^ 53 * 2 ^ a := Nat.mul_lt_mul_of_pos_right hm (Nat.two_pow_pos a)
      _ = 2 ^ (53 + a) := (Nat.pow_add 2 53 a).symm
      _ ≤ 2 ^ 6000 := Nat.pow_le_pow_right (by decide) (by omega)
  unfold Ieee.signed
  generalize m <<< a = p at *
  generalize (2 ^ 6000 : Nat) = q at *
  split <;> omega
theorem cmp_mul (a b : Int) (c : Nat) (hc : 0 < c) : compare (a * (c : Int)) (b * (c : Int)) = compare a b := by
  have hc' : (0 : Int) < (c : Int) := by omega
  rcases Int.lt_trichotomy a b with h | h | h
  · rw [Int.compare_eq_lt.2 h, Int.compare_eq_lt.2 (Int.mul_lt_mul_of_pos_right h hc')]
  · rw [h]
    simp
  · rw [Int.compare_eq_gt.2 h, Int.compare_eq_gt.2 (Int.mul_lt_mul_of_pos_right h hc')]
theorem read_form (b : Nat) : nanF b ∨ (∃ s, FloatKind.f64.format.read b = .infinity s) ∨ ∃ s m i, FloatKind.f64.format.read b = .number s m i ∧ m < 2 ^ 53 ∧ -1074 ≤ i ∧ i ≤ 971 := by
  have e1 : FloatKind.f64.format.signWeight = 9223372036854775808 := by decide +kernel
  have e2 : FloatKind.f64.format.binade = 4503599627370496 := by decide +kernel
  have e3 : FloatKind.f64.format.infRung = 9218868437227405312 := by decide +kernel
  have e4 : FloatKind.f64.format.leastPlace = -1074 := by decide +kernel
  unfold nanF Ieee.Format.read
  simp only [e1, e2, e3, e4]
  by_cases h1 : b % 9223372036854775808 < 4503599627370496
  · rw [if_pos h1]
    exact .inr (.inr ⟨_, _, _, rfl, by omega, by omega, by omega⟩)
  · rw [if_neg h1]
    by_cases h2 : b % 9223372036854775808 < 9218868437227405312
    · rw [if_pos h2]
      exact .inr (.inr ⟨_, _, _, rfl, by omega, by omega, by omega⟩)
    · rw [if_neg h2]
      by_cases h3 : b % 9223372036854775808 = 9218868437227405312
      · rw [if_pos h3]; exact .inr (.inl ⟨_, rfl⟩)
      · rw [if_neg h3]; exact .inl rfl
theorem order_key (x y : Nat) (hx : ¬ nanF x) (hy : ¬ nanF y) : FloatKind.f64.format.order x y = some (compare (keyF x) (keyF y)) := by
  unfold keyF Ieee.Format.order
  rcases read_form x with h | ⟨s, h⟩ | ⟨s, m, i, h, h1, h2, h3⟩
  · exact absurd h hx
  · rcases read_form y with h' | ⟨t, h'⟩ | ⟨t, n, j, h', k1, k2, k3⟩
    · exact absurd h' hy
    · rw [h, h']
      cases s <;> cases t <;> decide +kernel
    · rw [h, h']
      have g := signed_lt t n (j + 1074).toNat k1 (by omega)
      show some (if s then Ordering.lt else Ordering.gt) = some (compare (if s then -((2 ^ 6000 : Nat) : Int) else ((2 ^ 6000 : Nat) : Int)) (Ieee.signed t n (j + 1074).toNat))
      generalize (2 ^ 6000 : Nat) = q at *
      cases s
      · rw [if_neg (by decide), if_neg (by decide), Int.compare_eq_gt.2 g.2]
      · rw [if_pos rfl, if_pos rfl, Int.compare_eq_lt.2 g.1]
  · rcases read_form y with h' | ⟨t, h'⟩ | ⟨t, n, j, h', k1, k2, k3⟩
    · exact absurd h' hy
    · rw [h, h']
      have g := signed_lt s m (i + 1074).toNat h1 (by omega)
      show some (if t then Ordering.gt else Ordering.lt) = some (compare (Ieee.signed s m (i + 1074).toNat) (if t then -((2 ^ 6000 : Nat) : Int) else ((2 ^ 6000 : Nat) : Int)))
      generalize (2 ^ 6000 : Nat) = q at *
      cases t
      · rw [if_neg (by decide), if_neg (by decide), Int.compare_eq_lt.2 g.2]
      · rw [if_pos rfl, if_pos rfl, Int.compare_eq_gt.2 g.1]
    · rw [h, h']
      show some (compare (Ieee.signed s m (i - min i j).toNat) (Ieee.signed t n (j - min i j).toNat)) = some (compare (Ieee.signed s m (i + 1074).toNat) (Ieee.signed t n (j + 1074).toNat))
      rw [show (i + 1074).toNat = (i - min i j).toNat + (min i j + 1074).toNat by omega, show (j + 1074).toNat = (j - min i j).toNat + (min i j + 1074).toNat by omega, signed_split, signed_split, cmp_mul _ _ _ (Nat.two_pow_pos _)]
/-- The first greatest of the first k. -/
def bestV (l : List Nat) : Nat → Nat
  | 0 => 0
  | k + 1 => if keyF (l.getD (bestV l k) 0) < keyF (l.getD k 0) then k else bestV l k
theorem bestV_facts (l : List Nat) : ∀ k, 0 < k → bestV l k < k ∧ (∀ i, i < k → keyF (l.getD i 0) ≤ keyF (l.getD (bestV l k) 0)) ∧ ∀ i, i < bestV l k → keyF (l.getD i 0) < keyF (l.getD (bestV l k) 0)
  | 0, h => absurd h (Nat.lt_irrefl _)
  | 1, _ => by
    have e : bestV l 1 = 0 := by
      show (if keyF (l.getD 0 0) < keyF (l.getD 0 0) then 0 else 0) = 0
      split <;> rfl
    rw [e]
    exact ⟨by omega, fun i hi => by obtain rfl : i = 0 := by omega
                                    exact Int.le_refl _, fun i hi => absurd hi (Nat.not_lt_zero _)⟩
  | k + 2, _ => by
    obtain ⟨h1, h2, h3⟩ := bestV_facts l (k + 1) (by omega)
    have e : bestV l (k + 2) = if keyF (l.getD (bestV l (k + 1)) 0) < keyF (l.getD (k + 1) 0) then k + 1 else bestV l (k + 1) := rfl
    rw [e]
    by_cases hc : keyF (l.getD (bestV l (k + 1)) 0) < keyF (l.getD (k + 1) 0)
    · rw [if_pos hc]
      refine ⟨by omega, fun i hi => ?_, fun i hi => ?_⟩
      · by_cases hik : i < k + 1
        · have := h2 i hik; omega
        · obtain rfl : i = k + 1 := by omega
          exact Int.le_refl _
      · have := h2 i hi; omega
    · rw [if_neg hc]
      refine ⟨by omega, fun i hi => ?_, h3⟩
      by_cases hik : i < k + 1
      · exact h2 i hik
      · obtain rfl : i = k + 1 := by omega
        omega
end Go.Proofs.Ytjhapibelhakdaa.Pure
