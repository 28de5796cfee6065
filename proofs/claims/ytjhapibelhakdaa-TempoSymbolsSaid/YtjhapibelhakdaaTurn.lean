/- plane.Turn. -/
import Derived.Test.YtjhapibelhakdaaFogx0
import Derived.Test.YtjhapibelhakdaaSymLaw
namespace Go.Proofs.Ytjhapibelhakdaa.Pure
open Go.RowKit Go.Proofs.Ytjhapibelhakdaa.Fog Go.Proofs.YtjhapibelhakdaaW.PrintWords Go.Proofs.YtjhapibelhakdaaW.PrintLast Go.Proofs.YtjhapibelhakdaaW.PrintMore Go.Proofs.Ytjhapibelhakdaa.Kit
set_option linter.unusedVariables false
set_option linter.unusedSimpArgs false
set_option maxHeartbeats 1000000 in
set_option maxRecDepth 100000 in
theorem turn_calls (x y : Nat) (n : Int) (w : World) : Calls Try.prog 29 #[.complex .f64 x y, .int .i64 n] w fun e w' => e = .returned (.complex .f64 (turnQ (Go.bits .and .i64 n 3) (x, y)).1 (turnQ (Go.bits .and .i64 n 3) (x, y)).2) ∧ w' = w := by
  obtain ⟨q, hq⟩ : ∃ q, Go.bits .and .i64 n 3 = q := ⟨_, rfl⟩
  have hng : ∀ (b : Nat) (W : World), Sem.run Try.prog (Op.unary UnOp.neg (Value.float .f64 b)) W = .ok (.float .f64 (ngF b)) W := fun b W => rfl
  rw [hq]
  unfold turnQ
  by_cases h1 : q = 1
  · rw [if_pos h1]
    subst h1
    go_enter Try.func29, Try.ntmps29
    go_wp2
    go_ret
    exact ⟨rfl, rfl⟩
  have d1 : (q == 1) = false := by simpa using h1
  by_cases h2 : q = 2
  · rw [if_neg h1, if_pos h2]
    subst h2
    go_enter Try.func29, Try.ntmps29
    go_wp2
    go_ret
    exact ⟨rfl, rfl⟩
  have d2 : (q == 2) = false := by simpa using h2
  by_cases h3 : q = 3
  · rw [if_neg h1, if_neg h2, if_pos h3]
    subst h3
    go_enter Try.func29, Try.ntmps29
    go_wp2
    go_ret
    exact ⟨rfl, rfl⟩
  have d3 : (q == 3) = false := by simpa using h3
  rw [if_neg h1, if_neg h2, if_neg h3]
  go_enter Try.func29, Try.ntmps29
  go_wp2
  go_ret
  exact ⟨rfl, rfl⟩
end Go.Proofs.Ytjhapibelhakdaa.Pure
