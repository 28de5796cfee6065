/- For PointsApart: cosets lie farther and farther apart; floats of differences; rows of numbers in a row. -/
import Derived.Laws.ComplexArith
import Derived.Deep.OwnRows
import Derived.Test.YtopmlhihfchdhaaFogx0
import Derived.Test.YtopmlhihfchdhaaWorks
namespace Go.Proofs.Ytopmlhihfchdhaa.Pure
open Go.RowKit Go.Proofs.Ytopmlhihfchdhaa.Fog Go.Proofs.YtopmlhihfchdhaaW.PrintWords Go.Proofs.YtopmlhihfchdhaaW.PrintLast Go.Proofs.YtopmlhihfchdhaaW.PrintMore Go.Proofs.Ytopmlhihfchdhaa.Kit
set_option linter.unusedVariables false
set_option linter.unusedSimpArgs false
/-- One level on. -/
def stepOk (x y : Int) (k : Nat) : Bool :=
  decide (x % 2 = 0 ∨ y % 2 = 0 ∨ (2 * (cosS x y (k + 1)).1 = (cosS x y k).1 - ((cosS x y k).1 + (cosS x y k).2.1) % 2 + (cosS x y k).2.1 ∧
    2 * (cosS x y (k + 1)).2.1 = (cosS x y k).2.1 - ((cosS x y k).1 - ((cosS x y k).1 + (cosS x y k).2.1) % 2) ∧
    (cosS x y (k + 1)).2.2 = (cosS x y k).2.2 + ((cosS x y k).1 + (cosS x y k).2.1) % 2 * 2 ^ k ∧ 0 ≤ (cosS x y k).2.2 ∧ (cosS x y k).2.2 < 2 ^ k ∧ 0 ≤ (cosS x y (k + 1)).2.2 ∧ (cosS x y (k + 1)).2.2 < 2 ^ (k + 1)))
theorem step_all : ∀ i j : Fin 31, ∀ k : Fin 8, stepOk ((i.val : Int) - 15) ((j.val : Int) - 15) k.val = true := by decide +kernel
theorem step_ok (x y : Int) (k : Nat) (hx : -15 ≤ x ∧ x ≤ 15) (hy : -15 ≤ y ∧ y ≤ 15) (ox : x % 2 = 1) (oy : y % 2 = 1) (hk : k < 8) :
    2 * (cosS x y (k + 1)).1 = (cosS x y k).1 - ((cosS x y k).1 + (cosS x y k).2.1) % 2 + (cosS x y k).2.1 ∧
    2 * (cosS x y (k + 1)).2.1 = (cosS x y k).2.1 - ((cosS x y k).1 - ((cosS x y k).1 + (cosS x y k).2.1) % 2) ∧
    (cosS x y (k + 1)).2.2 = (cosS x y k).2.2 + ((cosS x y k).1 + (cosS x y k).2.1) % 2 * 2 ^ k ∧ 0 ≤ (cosS x y k).2.2 ∧ (cosS x y k).2.2 < 2 ^ k ∧ 0 ≤ (cosS x y (k + 1)).2.2 ∧ (cosS x y (k + 1)).2.2 < 2 ^ (k + 1) := by
  have h := step_all ⟨(x + 15).toNat, by omega⟩ ⟨(y + 15).toNat, by omega⟩ ⟨k, hk⟩
  have e1 : (((⟨(x + 15).toNat, by omega⟩ : Fin 31).val : Int)) - 15 = x := by simp only; omega
  have e2 : (((⟨(y + 15).toNat, by omega⟩ : Fin 31).val : Int)) - 15 = y := by simp only; omega
  rw [e1, e2] at h
  rcases of_decide_eq_true h with h1 | h1 | h1
  · omega
  · omega
  · exact h1
theorem pow2_pos (k : Nat) : (0 : Int) < 2 ^ k := by
  have h := Nat.two_pow_pos k
  have e : ((2 : Int) ^ k) = ((2 ^ k : Nat) : Int) := by rw [Int.natCast_pow]; rfl
  rw [e]; omega
/-- Two points of one coset: their difference is that of the walks, so many times doubled. -/
theorem coset_diff (x y u v : Int) (hx : -15 ≤ x ∧ x ≤ 15) (hy : -15 ≤ y ∧ y ≤ 15) (hu : -15 ≤ u ∧ u ≤ 15) (hv : -15 ≤ v ∧ v ≤ 15) (ox : x % 2 = 1) (oy : y % 2 = 1) (ou : u % 2 = 1) (ov : v % 2 = 1) :
    ∀ k, k ≤ 8 → (cosS x y k).2.2 = (cosS u v k).2.2 → (x - u) * (x - u) + (y - v) * (y - v) = 4 * (2 ^ k * (((cosS x y k).1 - (cosS u v k).1) * ((cosS x y k).1 - (cosS u v k).1) + ((cosS x y k).2.1 - (cosS u v k).2.1) * ((cosS x y k).2.1 - (cosS u v k).2.1)))
  | 0, _, _ => by
    have td : ∀ z : Int, z % 2 = 1 → 2 * Int.tdiv (z + 1) 2 = z + 1 := by
      intro z hz
      by_cases h0 : 0 ≤ z + 1
      · rw [Int.tdiv_eq_ediv_of_nonneg h0]; omega
      · obtain ⟨c, hc⟩ : ∃ c, z + 1 = -c := ⟨-(z + 1), by omega⟩
        rw [hc, Int.neg_tdiv, Int.tdiv_eq_ediv_of_nonneg (by omega)]; omega
    show (x - u) * (x - u) + (y - v) * (y - v) = 4 * (2 ^ 0 * ((Int.tdiv (x + 1) 2 - Int.tdiv (u + 1) 2) * (Int.tdiv (x + 1) 2 - Int.tdiv (u + 1) 2) + (Int.tdiv (y + 1) 2 - Int.tdiv (v + 1) 2) * (Int.tdiv (y + 1) 2 - Int.tdiv (v + 1) 2)))
    have e1 := td x ox
    have e2 := td y oy
    have e3 := td u ou
    have e4 := td v ov
    generalize Int.tdiv (x + 1) 2 = a at *
    generalize Int.tdiv (y + 1) 2 = b at *
    generalize Int.tdiv (u + 1) 2 = c at *
    generalize Int.tdiv (v + 1) 2 = d at *
    rw [show x - u = 2 * (a - c) by omega, show y - v = 2 * (b - d) by omega]
    generalize a - c = p
    generalize b - d = q
    rw [Int.pow_zero, Int.one_mul, show 2 * p * (2 * p) = 4 * (p * p) by rw [Int.mul_assoc, Int.mul_left_comm p 2 p, ← Int.mul_assoc]; rfl, show 2 * q * (2 * q) = 4 * (q * q) by rw [Int.mul_assoc, Int.mul_left_comm q 2 q, ← Int.mul_assoc]; rfl]
    omega
  | k + 1, hk, he => by
    obtain ⟨a1, a2, a3, a4, a5, _, _⟩ := step_ok x y k hx hy ox oy (by omega)
    obtain ⟨b1, b2, b3, b4, b5, _, _⟩ := step_ok u v k hu hv ou ov (by omega)
    have hp := pow2_pos k
    have hd1 : 0 ≤ ((cosS x y k).1 + (cosS x y k).2.1) % 2 ∧ ((cosS x y k).1 + (cosS x y k).2.1) % 2 ≤ 1 := by omega
    have hd2 : 0 ≤ ((cosS u v k).1 + (cosS u v k).2.1) % 2 ∧ ((cosS u v k).1 + (cosS u v k).2.1) % 2 ≤ 1 := by omega
    have hoo : (cosS x y k).2.2 = (cosS u v k).2.2 ∧ ((cosS x y k).1 + (cosS x y k).2.1) % 2 = ((cosS u v k).1 + (cosS u v k).2.1) % 2 := by
      rw [a3, b3] at he
      generalize ((cosS x y k).1 + (cosS x y k).2.1) % 2 = d at *
      generalize ((cosS u v k).1 + (cosS u v k).2.1) % 2 = e at *
      generalize (2 : Int) ^ k = P at *
      have c1 : d = 0 ∨ d = 1 := by omega
      have c2 : e = 0 ∨ e = 1 := by omega
      rcases c1 with rfl | rfl <;> rcases c2 with rfl | rfl <;> omega
    have ih := coset_diff x y u v hx hy hu hv ox oy ou ov k (by omega) hoo.1
    rw [ih]
    have hpe : (2 : Int) ^ (k + 1) = 2 ^ k * 2 := Int.pow_succ ..
    rw [hpe]
    generalize (2 : Int) ^ k = P at *
    have m1 : (cosS x y k).1 - (cosS u v k).1 = ((cosS x y (k + 1)).1 - (cosS u v (k + 1)).1) - ((cosS x y (k + 1)).2.1 - (cosS u v (k + 1)).2.1) := by omega
    have m2 : (cosS x y k).2.1 - (cosS u v k).2.1 = ((cosS x y (k + 1)).1 - (cosS u v (k + 1)).1) + ((cosS x y (k + 1)).2.1 - (cosS u v (k + 1)).2.1) := by omega
    rw [m1, m2]
    generalize (cosS x y (k + 1)).1 - (cosS u v (k + 1)).1 = p
    generalize (cosS x y (k + 1)).2.1 - (cosS u v (k + 1)).2.1 = q
    congr 1
    rw [Int.mul_assoc]
    congr 1
    have e1 : (p - q) * (p - q) = p * p - 2 * (p * q) + q * q := by
      rw [Int.sub_mul, Int.mul_sub, Int.mul_sub, Int.mul_comm q p]; omega
    have e2 : (p + q) * (p + q) = p * p + 2 * (p * q) + q * q := by
      rw [Int.add_mul, Int.mul_add, Int.mul_add, Int.mul_comm q p]; omega
    rw [e1, e2]; omega
/-- A point's coset. -/
def cv (n i k : Nat) : Int := (cosS (ptP n i).1 (ptP n i).2 k).2.2
theorem cv_ok (n i k : Nat) (h : isSz n) (hi : i < n) (hk : k < 8) : cv n i (k + 1) % 2 ^ k = cv n i k ∧ 0 ≤ cv n i (k + 1) ∧ cv n i (k + 1) < 2 ^ (k + 1) ∧ 0 ≤ cv n i k ∧ cv n i k < 2 ^ k := by
  obtain ⟨p1, p2, p3, p4⟩ := pt_le n i h hi
  obtain ⟨o1, o2⟩ := pt_odd n i h hi
  obtain ⟨_, _, a3, a4, a5, a6, a7⟩ := step_ok _ _ k ⟨p1, p2⟩ ⟨p3, p4⟩ o1 o2 hk
  refine ⟨?_, a6, a7, a4, a5⟩
  show (cosS (ptP n i).1 (ptP n i).2 (k + 1)).2.2 % 2 ^ k = _
  rw [a3, Int.add_mul_emod_self_right]
  exact Int.emod_eq_of_lt a4 a5
theorem cv_zero (n i : Nat) : cv n i 0 = 0 := rfl
def dN (n i j : Nat) : Int := ((ptP n i).1 - (ptP n j).1) * ((ptP n i).1 - (ptP n j).1) + ((ptP n i).2 - (ptP n j).2) * ((ptP n i).2 - (ptP n j).2)
theorem sq_nonneg' (a : Int) : 0 ≤ a * a := by
  rcases Int.lt_trichotomy a 0 with h | h | h
  · exact Int.le_of_lt (Int.mul_pos_of_neg_of_neg h h)
  · rw [h]; decide
  · exact Int.le_of_lt (Int.mul_pos h h)
theorem sq_zero' (a : Int) (h : a * a = 0) : a = 0 := by
  rcases Int.mul_eq_zero.1 h with h | h <;> exact h
theorem far (n i j k : Nat) (h : isSz n) (hi : i < n) (hj : j < n) (hij : i ≠ j) (hk : k ≤ 8) (he : cv n i k = cv n j k) : 4 * 2 ^ k ≤ dN n i j := by
  obtain ⟨p1, p2, p3, p4⟩ := pt_le n i h hi
  obtain ⟨o1, o2⟩ := pt_odd n i h hi
  obtain ⟨q1, q2, q3, q4⟩ := pt_le n j h hj
  obtain ⟨u1, u2⟩ := pt_odd n j h hj
  have hd := coset_diff _ _ _ _ ⟨p1, p2⟩ ⟨p3, p4⟩ ⟨q1, q2⟩ ⟨q3, q4⟩ o1 o2 u1 u2 k hk he
  have hne : dN n i j ≠ 0 := by
    intro h0
    have s1 := sq_nonneg' ((ptP n i).1 - (ptP n j).1)
    have s2 := sq_nonneg' ((ptP n i).2 - (ptP n j).2)
    unfold dN at h0
    have z1 := sq_zero' ((ptP n i).1 - (ptP n j).1) (by omega)
    have z2 := sq_zero' ((ptP n i).2 - (ptP n j).2) (by omega)
    exact hij (pt_inj n i j h hi hj (Prod.ext (by omega) (by omega)))
  have hdd : dN n i j = _ := hd
  have hp := pow2_pos k
  generalize hQ : (((cosS (ptP n i).1 (ptP n i).2 k).1 - (cosS (ptP n j).1 (ptP n j).2 k).1) * ((cosS (ptP n i).1 (ptP n i).2 k).1 - (cosS (ptP n j).1 (ptP n j).2 k).1) + ((cosS (ptP n i).1 (ptP n i).2 k).2.1 - (cosS (ptP n j).1 (ptP n j).2 k).2.1) * ((cosS (ptP n i).1 (ptP n i).2 k).2.1 - (cosS (ptP n j).1 (ptP n j).2 k).2.1)) = Q at hdd
  have hQ0 : 0 ≤ Q := by
    rw [← hQ]
    have s1 := sq_nonneg' ((cosS (ptP n i).1 (ptP n i).2 k).1 - (cosS (ptP n j).1 (ptP n j).2 k).1)
    have s2 := sq_nonneg' ((cosS (ptP n i).1 (ptP n i).2 k).2.1 - (cosS (ptP n j).1 (ptP n j).2 k).2.1)
    omega
  have hQ1 : 1 ≤ Q := by
    rcases Int.lt_or_eq_of_le hQ0 with h1 | h1
    · omega
    · exfalso
      apply hne
      rw [hdd, ← h1, Int.mul_zero, Int.mul_zero]
  rw [hdd]
  have h9 : 2 ^ k * 1 ≤ 2 ^ k * Q := Int.mul_le_mul_of_nonneg_left hQ1 (Int.le_of_lt hp)
  rw [Int.mul_one] at h9
  omega
/-! Floats. -/
theorem fsub_all : ∀ i j : Fin 31, floatBits .sub .f64 (fI ((i.val : Int) - 15)) (fI ((j.val : Int) - 15)) = some (fI (((i.val : Int) - 15) - ((j.val : Int) - 15))) := by decide +kernel
theorem fsub (a b : Int) (ha : -15 ≤ a ∧ a ≤ 15) (hb : -15 ≤ b ∧ b ≤ 15) : floatBits .sub .f64 (fI a) (fI b) = some (fI (a - b)) := by
  have h := fsub_all ⟨(a + 15).toNat, by omega⟩ ⟨(b + 15).toNat, by omega⟩
  have e1 : (((⟨(a + 15).toNat, by omega⟩ : Fin 31).val : Int)) - 15 = a := by simp only; omega
  have e2 : (((⟨(b + 15).toNat, by omega⟩ : Fin 31).val : Int)) - 15 = b := by simp only; omega
  rw [e1, e2] at h
  exact h
theorem fmul_all : ∀ i : Fin 61, floatBits .mul .f64 (fI ((i.val : Int) - 30)) (fI ((i.val : Int) - 30)) = some (fI (((i.val : Int) - 30) * ((i.val : Int) - 30))) := by decide +kernel
theorem fmul (a : Int) (ha : -30 ≤ a ∧ a ≤ 30) : floatBits .mul .f64 (fI a) (fI a) = some (fI (a * a)) := by
  have h := fmul_all ⟨(a + 30).toNat, by omega⟩
  have e1 : (((⟨(a + 30).toNat, by omega⟩ : Fin 61).val : Int)) - 30 = a := by simp only; omega
  rw [e1] at h
  exact h
theorem faddq_all : ∀ i j : Fin 31, floatBits .add .f64 (fI ((i.val : Int) * i.val)) (fI ((j.val : Int) * j.val)) = some (fI ((i.val : Int) * i.val + (j.val : Int) * j.val)) := by decide +kernel
theorem faddq (x y : Int) (hx : -30 ≤ x ∧ x ≤ 30) (hy : -30 ≤ y ∧ y ≤ 30) : floatBits .add .f64 (fI (x * x)) (fI (y * y)) = some (fI (x * x + y * y)) := by
  have h := faddq_all ⟨x.natAbs, by omega⟩ ⟨y.natAbs, by omega⟩
  have e1 : ((x.natAbs : Int)) * x.natAbs = x * x := Int.natAbs_mul_self' x
  have e2 : ((y.natAbs : Int)) * y.natAbs = y * y := Int.natAbs_mul_self' y
  rw [e1, e2] at h
  exact h
theorem flt_all : ∀ k : Fin 9, ∀ D : Fin 1801, 4 * 2 ^ k.val ≤ D.val → (FloatKind.f64.format.order (fI (D.val : Int)) (fI ((4 * 2 ^ k.val : Nat) : Int)) == some .lt) = false := by decide +kernel
theorem dN_le (n i j : Nat) (h : isSz n) (hi : i < n) (hj : j < n) : 0 ≤ dN n i j ∧ dN n i j ≤ 1800 := by
  obtain ⟨p1, p2, p3, p4⟩ := pt_le n i h hi
  obtain ⟨q1, q2, q3, q4⟩ := pt_le n j h hj
  have sq : ∀ a : Int, -30 ≤ a → a ≤ 30 → 0 ≤ a * a ∧ a * a ≤ 900 := by
    intro a h0 h1
    have h2 : ∀ i : Fin 61, 0 ≤ ((i.val : Int) - 30) * ((i.val : Int) - 30) ∧ ((i.val : Int) - 30) * ((i.val : Int) - 30) ≤ 900 := by decide
    have h3 := h2 ⟨(a + 30).toNat, by omega⟩
    have e : (((⟨(a + 30).toNat, by omega⟩ : Fin 61).val : Int)) - 30 = a := by simp only; omega
    rw [e] at h3
    exact h3
  have s1 := sq ((ptP n i).1 - (ptP n j).1) (by omega) (by omega)
  have s2 := sq ((ptP n i).2 - (ptP n j).2) (by omega) (by omega)
  unfold dN
  omega
theorem flt (n i j k : Nat) (h : isSz n) (hi : i < n) (hj : j < n) (hij : i ≠ j) (hk : k ≤ 8) (he : cv n i k = cv n j k) : (FloatKind.f64.format.order (fI (dN n i j)) (fI ((4 * 2 ^ k : Nat) : Int)) == some .lt) = false := by
  have hf := far n i j k h hi hj hij hk he
  obtain ⟨d0, d1⟩ := dN_le n i j h hi hj
  have e : (4 : Int) * 2 ^ k = ((4 * 2 ^ k : Nat) : Int) := by rw [Int.natCast_mul, Int.natCast_pow]; rfl
  rw [e] at hf
  have h9 := flt_all ⟨k, by omega⟩ ⟨(dN n i j).toNat, by omega⟩ (by simp only; omega)
  have e2 : (((⟨(dN n i j).toNat, by omega⟩ : Fin 1801).val : Int)) = dN n i j := by simp only; omega
  rw [e2] at h9
  exact h9
/-- The norm of a difference: nothing is written. -/
theorem norm_same (x y a b c : Nat) (h1 : floatBits .mul .f64 x x = some a) (h2 : floatBits .mul .f64 y y = some b) (h3 : floatBits .add .f64 a b = some c) (w : World) : Calls Try.prog 40 #[.complex .f64 x y] w fun r w' => r = .returned (.float .f64 c) ∧ w' = w := by
  have r1 : ∀ w, (binOp .mul 33 (.float .f64 x) (.float .f64 x)).run Try.prog w = .ok (.float .f64 a) w := fun w => run_float_arith w .mul _ _ _ _ _ h1
  have r2 : ∀ w, (binOp .mul 33 (.float .f64 y) (.float .f64 y)).run Try.prog w = .ok (.float .f64 b) w := fun w => run_float_arith w .mul _ _ _ _ _ h2
  have r3 : ∀ w, (binOp .add 33 (.float .f64 a) (.float .f64 b)).run Try.prog w = .ok (.float .f64 c) w := fun w => run_float_arith w .add _ _ _ _ _ h3
  go_enter Try.func40, Try.ntmps40
  go_wp2
  go_ret
  exact ⟨rfl, rfl⟩
theorem norm_diff (n i j : Nat) (h : isSz n) (hi : i < n) (hj : j < n) (w : World) : Calls Try.prog 40 #[.complex .f64 (fI ((ptP n i).1 - (ptP n j).1)) (fI ((ptP n i).2 - (ptP n j).2))] w fun r w' => r = .returned (.float .f64 (fI (dN n i j))) ∧ w' = w := by
  obtain ⟨p1, p2, p3, p4⟩ := pt_le n i h hi
  obtain ⟨q1, q2, q3, q4⟩ := pt_le n j h hj
  exact norm_same _ _ _ _ _ (fmul _ (by omega)) (fmul _ (by omega)) (faddq _ _ (by omega) (by omega)) w
theorem run_diff (n i j : Nat) (h : isSz n) (hi : i < n) (hj : j < n) (w : World) : (binOp .sub 31 (.complex .f64 (fI (ptP n i).1) (fI (ptP n i).2)) (.complex .f64 (fI (ptP n j).1) (fI (ptP n j).2))).run Try.prog w = .ok (.complex .f64 (fI ((ptP n i).1 - (ptP n j).1)) (fI ((ptP n i).2 - (ptP n j).2))) w := by
  obtain ⟨p1, p2, p3, p4⟩ := pt_le n i h hi
  obtain ⟨q1, q2, q3, q4⟩ := pt_le n j h hj
  refine run_complex_sum w .sub (.inr rfl) _ _ _ _ _ _ _ _ ?_
  unfold cSumBits
  rw [fsub _ _ ⟨p1, p2⟩ ⟨q1, q2⟩, fsub _ _ ⟨p3, p4⟩ ⟨q3, q4⟩]
  rfl
/-! Rows in a row. -/
def nilS : Value := .slice none 0 0
/-- The block B holds n rows of numbers, each in memory of its own. -/
structure CSt (W : World) (base B n : Nat) (L : Nat → List Int) (vs : List Value) : Prop where
  len : vs.length = n
  blk : W.heap[B]? = some (.cells vs.toArray 22)
  row : ∀ j, j < n → Kd.R (Kd.int .i64) 3 W base (fun k => k ≠ B) (vs.getD j nilS) (L j)
  sep : ∀ i j, i < n → j < n → i ≠ j → ∀ k, (vs.getD i nilS).ownBlock = some k → some k ≠ (vs.getD j nilS).ownBlock
theorem CSt.at {W W' : World} {base B n : Nat} {L : Nat → List Int} {vs : List Value} (h : CSt W base B n L vs) (hb : Below W.heap.size W W') : CSt W' base B n L vs :=
  ⟨h.len, blk_below h.blk hb, fun j hj => Kd.R_below (h.row j hj) hb, h.sep⟩
theorem CSt.congr {W : World} {base B n : Nat} {L L' : Nat → List Int} {vs : List Value} (h : CSt W base B n L vs) (he : ∀ j, j < n → L j = L' j) : CSt W base B n L' vs :=
  ⟨h.len, h.blk, fun j hj => he j hj ▸ h.row j hj, h.sep⟩
theorem getD_set (vs : List Value) (k j : Nat) (v : Value) (hk : k < vs.length) : (vs.set k v).getD j nilS = if j = k then v else vs.getD j nilS := by
  rw [List.getD_eq_getElem?_getD, List.getElem?_set]
  by_cases h : j = k
  · subst h; rw [if_pos rfl, if_pos hk, if_pos rfl]; rfl
  · rw [if_neg (Ne.symm h), if_neg h, List.getD_eq_getElem?_getD]
theorem CSt.put {W W1 : World} {base B n : Nat} {L : Nat → List Int} {vs : List Value} (h : CSt W base B n L vs) (k : Nat) (hk : k < n) (v' : Value) (l' : List Int) (hg : W.grownBy W1 (vs.getD k nilS).ownBlock)
    (hat : v'.ownBlock = (vs.getD k nilS).ownBlock ∨ ∃ b, v'.ownBlock = some b ∧ W.heap.size ≤ b) (hR : Kd.R (Kd.int .i64) 3 W1 base (fun k => k ≠ B) v' l') : CSt (W1.setCell ⟨B, k, none⟩ v') base B n (fun j => if j = k then l' else L j) (vs.set k v') := by
  have hlt := blk_lt h.blk
  have hsB : some B ≠ (vs.getD k nilS).ownBlock := fun he => (h.row k hk).1 B he.symm rfl
  have hblk1 := blk_grown h.blk hg hsB
  refine ⟨by rw [List.length_set]; exact h.len, blk_put hblk1 k v' (by rw [List.setIfInBounds_toArray]), fun j hj => ?_, fun i j hi hj hij x hx => ?_⟩
  · rw [getD_set vs k j v' (by rw [h.len]; exact hk)]
    by_cases hjk : j = k
    · rw [if_pos hjk, if_pos hjk]
      exact Kd.R_far (p := ⟨B, k, none⟩) hR (fun _ hk => hk) v'
    · rw [if_neg hjk, if_neg hjk]
      exact Kd.R_far (p := ⟨B, k, none⟩) (Kd.R_grown2 (h.row j hj) rfl hg (fun x hx => h.sep k j hk hj (Ne.symm hjk) x hx)) (fun _ hk => hk) v'
  · rw [getD_set vs k i v' (by rw [h.len]; exact hk)] at hx
    rw [getD_set vs k j v' (by rw [h.len]; exact hk)]
    by_cases hik : i = k
    · rw [if_pos hik] at hx
      have hjk : j ≠ k := fun e => hij (hik.trans e.symm)
      rw [if_neg hjk]
      rcases hat with hat | ⟨b, hb, hbs⟩
      · rw [hat] at hx
        exact h.sep k j hk hj (Ne.symm hjk) x hx
      · intro he
        have h9 := ((Kd.R_bound (h.row j hj)).1 x he.symm).2.2.1
        rw [hb] at hx
        have : b = x := Option.some.inj hx
        omega
    · rw [if_neg hik] at hx
      by_cases hjk : j = k
      · rw [if_pos hjk]
        rcases hat with hat | ⟨b, hb, hbs⟩
        · rw [hat]
          exact h.sep i k hi hk hik x hx
        · rw [hb]
          intro he
          have h9 := ((Kd.R_bound (h.row i hi)).1 x hx).2.2.1
          have : x = b := Option.some.inj he
          omega
      · rw [if_neg hjk]
        exact h.sep i j hi hj hij x hx
theorem made_list (z : Value) (n : Nat) : madeCells #[z] n = (List.replicate n z).toArray := by
  apply Array.ext'
  unfold madeCells
  simp only [Array.toList_map, Array.toList_range, List.toList_toArray]
  rw [List.eq_replicate_iff]
  refine ⟨by simp, fun b hb => ?_⟩
  obtain ⟨i, _, rfl⟩ := List.mem_map.1 hb
  simp [Nat.mod_one]
theorem slInfo : (Try.prog.info? 22).map (fun i => (i.zero, i.size, i.bytes)) = some (some (.slice none 0 0), 1, 24) := by kernel_rfl
theorem CSt.made (w : World) (n : Nat) : CSt (w.alloc (.cells (madeCells #[nilS] n) 22)) w.heap.size w.heap.size n (fun _ => []) (List.replicate n nilS) := by
  have hg : ∀ j, j < n → (List.replicate n nilS).getD j nilS = nilS := by
    intro j hj
    rw [List.getD_eq_getElem?_getD, List.getElem?_replicate, if_pos hj]; rfl
  refine ⟨List.length_replicate, by rw [made_list]; exact blk_new w _, fun j hj => ?_, fun i j hi hj _ k hk => ?_⟩
  · rw [hg j hj]
    exact Kd.R_nil _ _ _ _ _
  · rw [hg i hi] at hk
    cases hk
theorem CSt.cell {W : World} {base B n : Nat} {L : Nat → List Int} {vs : List Value} (h : CSt W base B n L vs) (j : Nat) (hj : j < n) : W.cell? ⟨B, j, none⟩ = some (vs.getD j nilS) := by
  rw [blk_cell h.blk j, List.getElem?_toArray, List.getD_eq_getElem?_getD]
  have : j < vs.length := by rw [h.len]; exact hj
  rw [List.getElem?_eq_getElem this]; rfl
end Go.Proofs.Ytopmlhihfchdhaa.Pure
