/- The coset's walk by numbers. -/
import Derived.Test.YtopmlhihfchdhaaFogx0
import Derived.Test.YtopmlhihfchdhaaTurned
namespace Go.Proofs.Ytopmlhihfchdhaa.Pure
open Go.RowKit Go.Proofs.Ytopmlhihfchdhaa.Fog Go.Proofs.YtopmlhihfchdhaaW.PrintWords Go.Proofs.YtopmlhihfchdhaaW.PrintLast Go.Proofs.YtopmlhihfchdhaaW.PrintMore Go.Proofs.Ytopmlhihfchdhaa.Kit
/-- The coset's walk: a, b and what is told so far, after k levels. -/
def cosS (x y : Int) : Nat → Int × Int × Int
  | 0 => (Int.tdiv (x + 1) 2, Int.tdiv (y + 1) 2, 0)
  | k + 1 =>
    let s := cosS x y k
    let d := Go.bits .and .i64 (s.1 + s.2.1) 1
    (Int.tdiv (s.1 - d + s.2.1) 2, Int.tdiv (s.2.1 - (s.1 - d)) 2, Go.bits .or .i64 s.2.2 (shl .i64 d (k : Int)))
def cosOk (x y : Int) (k : Nat) : Bool := decide (-100 ≤ (cosS x y k).1 ∧ (cosS x y k).1 ≤ 100 ∧ -100 ≤ (cosS x y k).2.1 ∧ (cosS x y k).2.1 ≤ 100 ∧ 0 ≤ Go.bits .and .i64 ((cosS x y k).1 + (cosS x y k).2.1) 1 ∧ Go.bits .and .i64 ((cosS x y k).1 + (cosS x y k).2.1) 1 ≤ 1)
theorem cos_all : ∀ i j : Fin 31, ∀ k : Fin 9, cosOk ((i.val : Int) - 15) ((j.val : Int) - 15) k.val = true := by decide +kernel
theorem cos_ok (x y : Int) (k : Nat) (hx : -15 ≤ x ∧ x ≤ 15) (hy : -15 ≤ y ∧ y ≤ 15) (hk : k ≤ 8) : cosOk x y k = true := by
  have h := cos_all ⟨(x + 15).toNat, by omega⟩ ⟨(y + 15).toNat, by omega⟩ ⟨k, by omega⟩
  have e1 : (((⟨(x + 15).toNat, by omega⟩ : Fin 31).val : Int)) - 15 = x := by simp only; omega
  have e2 : (((⟨(y + 15).toNat, by omega⟩ : Fin 31).val : Int)) - 15 = y := by simp only; omega
  rw [e1, e2] at h
  exact h
theorem cos_at (x y : Int) (k : Nat) (hx : -15 ≤ x ∧ x ≤ 15) (hy : -15 ≤ y ∧ y ≤ 15) (hk : k ≤ 8) : (-100 ≤ (cosS x y k).1 ∧ (cosS x y k).1 ≤ 100 ∧ -100 ≤ (cosS x y k).2.1 ∧ (cosS x y k).2.1 ≤ 100 ∧ 0 ≤ Go.bits .and .i64 ((cosS x y k).1 + (cosS x y k).2.1) 1 ∧ Go.bits .and .i64 ((cosS x y k).1 + (cosS x y k).2.1) 1 ≤ 1) :=
  of_decide_eq_true (cos_ok x y k hx hy hk)
/-- The three numbers after k levels, by their names. -/
def CosAt (x y : Int) (k : Nat) (a b o : Int) : Prop := cosS x y k = (a, b, o)
theorem CosAt.small {x y : Int} {k : Nat} {a b o : Int} (h : CosAt x y k a b o) (hx : -15 ≤ x ∧ x ≤ 15) (hy : -15 ≤ y ∧ y ≤ 15) (hk : k ≤ 8) : -100 ≤ a ∧ a ≤ 100 ∧ -100 ≤ b ∧ b ≤ 100 := by
  have := cos_at x y k hx hy hk
  rw [show cosS x y k = (a, b, o) from h] at this
  exact ⟨this.1, this.2.1, this.2.2.1, this.2.2.2.1⟩
theorem CosAt.bit {x y : Int} {k : Nat} {a b o : Int} (h : CosAt x y k a b o) (hx : -15 ≤ x ∧ x ≤ 15) (hy : -15 ≤ y ∧ y ≤ 15) (hk : k ≤ 8) : ∃ d, Go.bits .and .i64 (a + b) 1 = d ∧ 0 ≤ d ∧ d ≤ 1 := by
  have := cos_at x y k hx hy hk
  rw [show cosS x y k = (a, b, o) from h] at this
  exact ⟨_, rfl, this.2.2.2.2.1, this.2.2.2.2.2⟩
theorem CosAt.next {x y : Int} {k : Nat} {a b o : Int} (h : CosAt x y k a b o) : ∀ d, Go.bits .and .i64 (a + b) 1 = d → CosAt x y (k + 1) (Int.tdiv (a - d + b) 2) (Int.tdiv (b - (a - d)) 2) (Go.bits .or .i64 o (shl .i64 d (k : Int))) := by
  rintro d rfl
  show cosS x y (k + 1) = _
  simp only [cosS, show cosS x y k = (a, b, o) from h]
theorem CosAt.zero (x y : Int) : CosAt x y 0 (Int.tdiv (x + 1) 2) (Int.tdiv (y + 1) 2) 0 := rfl
theorem tdiv2_bound (a : Int) (h : -10000 ≤ a ∧ a ≤ 10000) : -10000 ≤ Int.tdiv a 2 ∧ Int.tdiv a 2 ≤ 10000 := by
  by_cases h0 : 0 ≤ a
  · rw [Int.tdiv_eq_ediv_of_nonneg h0]; omega
  · obtain ⟨c, rfl⟩ : ∃ c, a = -c := ⟨-a, by omega⟩
    rw [Int.neg_tdiv, Int.tdiv_eq_ediv_of_nonneg (by omega)]; omega
theorem tdiv2_small (a : Int) (h : -10000 ≤ a ∧ a ≤ 10000) : IntKind.i64.wrap (Int.tdiv a 2) = Int.tdiv a 2 := by
  have := tdiv2_bound a h
  rw [IntKind.wrap_i64]; omega
theorem i64_small (a : Int) (h : -10000 ≤ a ∧ a ≤ 10000) : IntKind.i64.wrap a = a := by
  rw [IntKind.wrap_i64]; omega
end Go.Proofs.Ytopmlhihfchdhaa.Pure
