/- Rows of samples' parts, of floats, as they come in. -/
import Derived.Test.YtjhapibelhakdaaFogx0
import Derived.Test.YtjhapibelhakdaaOpen
import Derived.Test.YtjhapibelhakdaaSamples
namespace Go.Proofs.Ytjhapibelhakdaa.Open
open Go.RowKit Go.WideShapes Go.ChangeShapes Go.Proofs.YtjhapibelhakdaaW.PrintWords Go.Proofs.YtjhapibelhakdaaW.PrintLast Go.Proofs.Ytjhapibelhakdaa.Pure
set_option linter.unusedVariables false
theorem trod_float {H : Type} {enc : TypeId × Value → H} {P : Program} {w : World} {base : Nat} {spare : Nat → Bool} {held : Bool} {fuel : Nat} {t : TypeId} {cs : List Value} {x : DataW H × List MemPlace} {k : FloatKind} (ht : P.underlying t = some (.float k)) (h : DataW.trod enc P w base spare held fuel t cs = some x) :
    ∃ n, cs = [.float k n] ∧ x = (.lit (.float k n), []) ∧ (Lit.float k n).wf = true := by
  cases fuel with
  | zero => simp [DataW.trod] at h
  | succ n =>
    unfold DataW.trod at h
    rw [ht] at h
    split at h <;> simp_all
theorem opens_float {P : Program} {t : TypeId} (ht : P.underlying t = some (.float .f64)) : Opens P t KF (fun n => (Lit.float .f64 n).wf = true) := by
  intro H enc w base spare held fuel cs x h _
  obtain ⟨n, rfl, _, hw⟩ := trod_float ht h
  exact ⟨n, rfl, hw⟩
theorem opens_prt : Opens Try.prog 76 KP (fun x => (Lit.float .f64 x.1).wf = true ∧ (Lit.float .f64 x.2.1).wf = true) := by
  intro H enc w base spare held fuel cs x h hw
  obtain ⟨xs, n, _, rfl, hl, hlen, hfi⟩ := DataW.trod_struct Try.underlying76 h
  obtain ⟨x0, x1, x2, rfl⟩ := list_len3 (hlen.trans rfl)
  obtain ⟨v0, v1, v2, rfl⟩ := list_len3 (hl.trans (show Try.prog.cellsOf 76 = 3 by kernel_rfl))
  have t0 := hfi 0 _ rfl
  replace t0 : DataW.trod enc Try.prog w base spare held n 41 [v0] = some x0 := t0
  have t1 := hfi 1 _ rfl
  replace t1 : DataW.trod enc Try.prog w base spare held n 41 [v1] = some x1 := t1
  have t2 := hfi 2 _ rfl
  replace t2 : DataW.trod enc Try.prog w base spare held n 4 [v2] = some x2 := t2
  obtain ⟨y0, e0, _, g0⟩ := trod_float Try.underlying41 t0
  obtain ⟨y1, e1, _, g1⟩ := trod_float Try.underlying41 t1
  obtain ⟨y2, e2, _⟩ := DataW.trod_bool Try.underlying4 t2
  simp only [List.cons.injEq, and_true] at e0 e1 e2
  subst e0 e1 e2
  exact ⟨(y0, (y1, y2)), ⟨[.float .f64 y0], [.float .f64 y1, .bool y2], rfl, rfl, ⟨[.float .f64 y1], [.bool y2], rfl, rfl, rfl⟩⟩, g0, g1⟩
end Go.Proofs.Ytjhapibelhakdaa.Open
