/- The reference's coset. -/
import Derived.Test.YtopmlhihfchdhaaFogx0
import Derived.Test.YtopmlhihfchdhaaRefAsk
import Derived.Test.YtopmlhihfchdhaaCoset
namespace Go.Proofs.Ytopmlhihfchdhaa.Pure
open Go.RowKit Go.Proofs.Ytopmlhihfchdhaa.Fog Go.Proofs.YtopmlhihfchdhaaW.PrintWords Go.Proofs.YtopmlhihfchdhaaW.PrintLast Go.Proofs.YtopmlhihfchdhaaW.PrintMore Go.Proofs.Ytopmlhihfchdhaa.Kit
set_option linter.unusedVariables false
set_option linter.unusedSimpArgs false
def cosNx (x y : Int) (k : Nat) : Bool :=
  decide ((if Int.tmod ((cosS x y k).1 + (cosS x y k).2.1) 2 = 0 then cosS x y (k + 1) = (Int.tdiv ((cosS x y k).1 + (cosS x y k).2.1) 2, Int.tdiv ((cosS x y k).2.1 - (cosS x y k).1) 2, (cosS x y k).2.2)
    else cosS x y (k + 1) = (Int.tdiv ((cosS x y k).1 - 1 + (cosS x y k).2.1) 2, Int.tdiv ((cosS x y k).2.1 - ((cosS x y k).1 - 1)) 2, (cosS x y k).2.2 + 2 ^ k)) ∧ 0 ≤ (cosS x y k).2.2 ∧ (cosS x y k).2.2 < 2 ^ k)
theorem cosnx_all : ∀ i j : Fin 31, ∀ k : Fin 8, cosNx ((i.val : Int) - 15) ((j.val : Int) - 15) k.val = true := by decide +kernel
theorem cosnx_ok (x y : Int) (k : Nat) (hx : -15 ≤ x ∧ x ≤ 15) (hy : -15 ≤ y ∧ y ≤ 15) (hk : k < 8) : cosNx x y k = true := by
  have h := cosnx_all ⟨(x + 15).toNat, by omega⟩ ⟨(y + 15).toNat, by omega⟩ ⟨k, hk⟩
  have e1 : (((⟨(x + 15).toNat, by omega⟩ : Fin 31).val : Int)) - 15 = x := by simp only; omega
  have e2 : (((⟨(y + 15).toNat, by omega⟩ : Fin 31).val : Int)) - 15 = y := by simp only; omega
  rw [e1, e2] at h
  exact h
theorem CosAt.step {x y : Int} {k : Nat} {a b o : Int} (h : CosAt x y k a b o) (hx : -15 ≤ x ∧ x ≤ 15) (hy : -15 ≤ y ∧ y ≤ 15) (hk : k < 8) :
    (if Int.tmod (a + b) 2 = 0 then CosAt x y (k + 1) (Int.tdiv (a + b) 2) (Int.tdiv (b - a) 2) o else CosAt x y (k + 1) (Int.tdiv (a - 1 + b) 2) (Int.tdiv (b - (a - 1)) 2) (o + 2 ^ k)) ∧ 0 ≤ o ∧ o < 2 ^ k := by
  have := of_decide_eq_true (cosnx_ok x y k hx hy hk)
  rw [show cosS x y k = (a, b, o) from h] at this
  exact this
theorem pow_le8 (k : Nat) (h : k ≤ 8) : (2 : Int) ^ k ≤ 256 ∧ 1 ≤ (2 : Int) ^ k ∧ (2 : Int) ^ (k + 1) = 2 * 2 ^ k := by
  have h1 : ∀ k : Fin 9, (2 : Int) ^ k.val ≤ 256 ∧ 1 ≤ (2 : Int) ^ k.val ∧ (2 : Int) ^ (k.val + 1) = 2 * 2 ^ k.val := by decide
  exact h1 ⟨k, by omega⟩
end Go.Proofs.Ytopmlhihfchdhaa.Pure
