/- ScrambleNils: a nil register. Closed. -/
import Derived.Test.YtbhhbnpbijehcaaFogx0
import Derived.Test.YtbhhbnpbijehcaaScrFit
namespace Go.Proofs.Ytbhhbnpbijehcaa.Pure
open Go.RowKit Go.Proofs.Ytbhhbnpbijehcaa.Fog Go.Proofs.YtbhhbnpbijehcaaW.PrintWords Go.Proofs.YtbhhbnpbijehcaaW.PrintLast Go.Proofs.YtbhhbnpbijehcaaW.PrintMore Go.Proofs.Ytbhhbnpbijehcaa.Kit
set_option linter.unusedVariables false
set_option linter.unusedSimpArgs false
set_option maxHeartbeats 4000000 in
set_option maxRecDepth 100000 in
theorem ScrambleNils_walk (w : World) : Calls Try.prog 7 #[] w fun e w' => e = .returned (.bool true) ∧ Below w.heap.size w w' := by
  go_enter Try.func7, Try.ntmps7
  go_wp2_with (first
    | (go_at_call 13; (with_reducible refine (next_nil _).mono ?_); rintro e w' ⟨rfl, hw⟩; subst w')
    | (go_at_call 15; (with_reducible refine (back_nil _).mono ?_); rintro e w' ⟨rfl, hw⟩; subst w')
    | (go_at_call 18; (with_reducible refine (row_nil _ _).mono ?_); rintro e w' ⟨rfl, hw⟩; subst w')
    | (go_at_call 21; (with_reducible refine (apply_nil _ _ _ _).mono ?_); rintro e w' ⟨rfl, hw⟩; subst w')
    | (go_at_call 14; (with_reducible refine (jump_nil _ _).mono ?_); rintro e w' ⟨rfl, hw⟩; subst w')
    | (go_at_call 20; (with_reducible refine (period_nil _ _).mono ?_); rintro e w' ⟨rfl, hw⟩; subst w')
    | (go_at_call 12; (with_reducible refine (state_nil _).mono ?_); rintro e w' ⟨rfl, hw⟩; subst w')
    | (go_at_call 19; (with_reducible refine (copy_nil _).mono ?_); rintro e w' ⟨rfl, hw⟩; subst w')
    | (go_at_call 10; (with_reducible refine (works_calls _).mono ?_); rintro e w1 ⟨rfl, hb⟩))
  go_ret
  exact ⟨rfl, ((Below.refl w.heap.size w).alloc (Nat.le_refl _) _).trans (hb.mono (by simp))⟩
end Go.Proofs.Ytbhhbnpbijehcaa.Pure
