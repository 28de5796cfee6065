/- A float that equals a small whole number is cut to it. -/
import Derived.Test.YtopmlhihfchdhaaFogx0
import Derived.Test.YtopmlhihfchdhaaTurned
namespace Go.Proofs.Ytopmlhihfchdhaa.Pure
open Go.RowKit Go.Proofs.Ytopmlhihfchdhaa.Fog Go.Proofs.YtopmlhihfchdhaaW.PrintWords Go.Proofs.YtopmlhihfchdhaaW.PrintLast Go.Proofs.YtopmlhihfchdhaaW.PrintMore Go.Proofs.Ytopmlhihfchdhaa.Kit
set_option linter.unusedVariables false
set_option linter.unusedSimpArgs false
theorem signed_split (s : Bool) (m a b : Nat) : Ieee.signed s m (a + b) = Ieee.signed s m a * ((2 ^ b : Nat) : Int) := by
  unfold Ieee.signed
  rw [Nat.shiftLeft_eq, Nat.shiftLeft_eq, Nat.pow_add, ← Nat.mul_assoc, Int.natCast_mul]
  split
  · rw [Int.neg_mul]
  · rfl
theorem toInt_up (t : Bool) (n : Nat) (j a : Int) (hj : 0 ≤ j) (h : Ieee.signed t n j.toNat = a) : (Ieee.Datum.number t n j).toInt .zero = some a := by
  show some (Ieee.signed t (Ieee.Toward.zero.cut t (n <<< j.toNat) (-j).toNat) 0) = some a
  have e : (-j).toNat = 0 := by omega
  have e2 : Ieee.Toward.zero.cut t (n <<< j.toNat) 0 = n <<< j.toNat := by
    simp [Ieee.Toward.cut]
  rw [e, e2]
  congr 1
theorem toInt_down (t : Bool) (n k : Nat) (j a : Int) (hj : j = -(k : Int)) (hk : 0 < k) (ha : a ≠ 0) (h : Ieee.signed t n 0 = a * ((2 ^ k : Nat) : Int)) : (Ieee.Datum.number t n j).toInt .zero = some a := by
  show some (Ieee.signed t (Ieee.Toward.zero.cut t (n <<< j.toNat) (-j).toNat) 0) = some a
  have e : (-j).toNat = k := by omega
  have e3 : j.toNat = 0 := by omega
  rw [e, e3, Nat.shiftLeft_zero]
  have hp := Nat.two_pow_pos k
  obtain ⟨c, hc, hcn⟩ : ∃ c : Nat, n = c * 2 ^ k ∧ (if t then -(c : Int) else (c : Int)) = a := by
    unfold Ieee.signed at h
    rw [Nat.shiftLeft_zero] at h
    refine ⟨a.natAbs, ?_, ?_⟩
    · have h2 : (n : Int).natAbs = (a * ((2 ^ k : Nat) : Int)).natAbs := by rw [← h]; split <;> simp
      rw [Int.natAbs_mul, Int.natAbs_natCast, Int.natAbs_natCast] at h2
      exact h2
    · generalize 2 ^ k = p at *
      have hpi : (0 : Int) < (p : Int) := by omega
      rcases Int.lt_trichotomy a 0 with h0 | h0 | h0
      · have h4 : a * (p : Int) < 0 := Int.mul_neg_of_neg_of_pos h0 hpi
        cases t
        · rw [if_neg (by decide)] at h; omega
        · rw [if_pos rfl]; omega
      · exact absurd h0 ha
      · have h4 : 0 < a * (p : Int) := Int.mul_pos h0 hpi
        cases t
        · rw [if_neg (by decide)]; omega
        · rw [if_pos rfl] at h; omega
  have hc0 : 0 < c := by
    rcases Nat.eq_zero_or_pos c with h0 | h0
    · subst h0
      exfalso
      apply ha
      rw [← hcn]
      split <;> rfl
    · exact h0
  have hlog : k ≤ n.log2 := by
    have hn0 : n ≠ 0 := by rw [hc]; exact Nat.ne_of_gt (Nat.mul_pos hc0 hp)
    rw [Nat.le_log2 hn0, hc]
    exact Nat.le_mul_of_pos_left _ hc0
  have e2 : Ieee.Toward.zero.cut t n k = c := by
    unfold Ieee.Toward.cut
    simp only
    rw [Nat.min_eq_left (by omega), Nat.one_shiftLeft, hc, Nat.mul_div_cancel _ hp]
    rfl
  rw [e2]
  congr 1
def fiOk (a : Int) : Bool := a == 0 || match FloatKind.f64.format.read (fI a) with
  | .number s m i => decide (i < 0 ∧ Ieee.signed s m 0 = a * ((2 ^ (-i).toNat : Nat) : Int))
  | _ => false
theorem fi_all : ∀ i : Fin 31, fiOk ((i.val : Int) - 15) = true := by decide +kernel
theorem fi_ok (a : Int) (h0 : -15 ≤ a) (h1 : a ≤ 15) (hz : a ≠ 0) : ∃ s m i, FloatKind.f64.format.read (fI a) = .number s m i ∧ i < 0 ∧ Ieee.signed s m 0 = a * ((2 ^ (-i).toNat : Nat) : Int) := by
  have h := fi_all ⟨(a + 15).toNat, by omega⟩
  have e : (((⟨(a + 15).toNat, by omega⟩ : Fin 31).val : Int)) - 15 = a := by simp only; omega
  rw [e] at h
  unfold fiOk at h
  have hz2 : (a == 0) = false := by simpa using hz
  rw [hz2, Bool.false_or] at h
  rcases hr : FloatKind.f64.format.read (fI a) with ⟨s, m, i⟩ | ⟨s⟩ | ⟨s, f⟩
  · rw [hr] at h
    have := of_decide_eq_true h
    exact ⟨s, m, i, rfl, this.1, this.2⟩
  · rw [hr] at h; cases h
  · rw [hr] at h; cases h
theorem toInt_of_eq (a : Int) (h0 : -15 ≤ a) (h1 : a ≤ 15) (hz : a ≠ 0) (z : Nat) (ho : (FloatKind.f64.format.order (fI a) z == some .eq) = true) : floatToIntVal .f64 z .i64 = some a := by
  obtain ⟨s, m, i, hr, hi, hv⟩ := fi_ok a h0 h1 hz
  unfold Ieee.Format.order at ho
  rw [hr] at ho
  have key : (FloatKind.f64.format.read z).toInt .zero = some a := by
    generalize FloatKind.f64.format.read z = dz at ho ⊢
    rcases dz with ⟨t, n, j⟩ | ⟨t⟩ | ⟨t, f⟩
    · have ho2 : (some (compare (Ieee.signed s m (i - min i j).toNat) (Ieee.signed t n (j - min i j).toNat)) == some Ordering.eq) = true := ho
      have heq : Ieee.signed s m (i - min i j).toNat = Ieee.signed t n (j - min i j).toNat := by
        rw [beq_iff_eq, Option.some.injEq, Int.compare_eq_eq] at ho2
        exact ho2
      by_cases hj : 0 ≤ j
      · have e1 : (i - min i j).toNat = 0 := by omega
        have e2 : (j - min i j).toNat = j.toNat + (-i).toNat := by omega
        rw [e1, e2, signed_split, hv] at heq
        have hp : ((2 ^ (-i).toNat : Nat) : Int) ≠ 0 := by have := Nat.two_pow_pos (-i).toNat; omega
        exact toInt_up t n j a hj (Int.eq_of_mul_eq_mul_right hp heq).symm
      · refine toInt_down t n (-j).toNat j a (by omega) (by omega) hz ?_
        by_cases hji : j ≤ i
        · have e1 : (i - min i j).toNat = 0 + (i - j).toNat := by omega
          have e2 : (j - min i j).toNat = 0 := by omega
          rw [e1, e2, signed_split, hv] at heq
          rw [← heq, Int.mul_assoc, ← Int.natCast_mul, ← Nat.pow_add, show (-i).toNat + (i - j).toNat = (-j).toNat by omega]
        · have e1 : (i - min i j).toNat = 0 := by omega
          have e2 : (j - min i j).toNat = 0 + (j - i).toNat := by omega
          rw [e1, e2, signed_split, hv, show (-i).toNat = (-j).toNat + (j - i).toNat by omega, Nat.pow_add, Int.natCast_mul, ← Int.mul_assoc] at heq
          have hp : ((2 ^ (j - i).toNat : Nat) : Int) ≠ 0 := by have := Nat.two_pow_pos (j - i).toNat; omega
          exact (Int.eq_of_mul_eq_mul_right hp heq).symm
    · cases t <;> cases ho
    · cases ho
  unfold floatToIntVal
  have key2 : (FloatKind.f64.decode z).toInt .zero = some a := key
  rw [key2]
  have e1 : IntKind.i64.min = -9223372036854775808 := by decide
  have e2 : IntKind.i64.max = 9223372036854775807 := by decide
  simp only
  rw [if_pos (by rw [e1, e2]; omega)]
end Go.Proofs.Ytopmlhihfchdhaa.Pure
