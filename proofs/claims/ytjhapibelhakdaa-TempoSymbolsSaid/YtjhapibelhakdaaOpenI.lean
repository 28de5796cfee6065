/- Rows of pairs of small numbers, as they come in. -/
import Derived.Test.YtjhapibelhakdaaFogx0
import Derived.Test.YtjhapibelhakdaaOpenS
import Derived.OpenShut
import Derived.Test.YtjhapibelhakdaaPureTempoSymbols
namespace Go.Proofs.Ytjhapibelhakdaa.Open
open Go.RowKit Go.WideShapes Go.ChangeShapes Go.Proofs.YtjhapibelhakdaaW.PrintWords Go.Proofs.YtjhapibelhakdaaW.PrintLast Go.Proofs.Ytjhapibelhakdaa.Pure
set_option linter.unusedVariables false
theorem opens_i8 : Opens Try.prog 68 KI8 (fun x => (Lit.int .i8 x.1).wf = true ∧ (Lit.int .i8 x.2).wf = true) := by
  intro H enc w base spare held fuel cs x h hw
  obtain ⟨xs, n, _, rfl, hl, hlen, hfi⟩ := DataW.trod_array (show Try.prog.underlying 68 = some (.array 2 67) by kernel_rfl) h
  obtain ⟨x0, x1, rfl⟩ := list_len2 hlen
  obtain ⟨v0, v1, rfl⟩ := list_len2 (hl.trans (show Try.prog.cellsOf 68 = 2 by kernel_rfl))
  have t0 := hfi 0 (by decide)
  rw [show Try.prog.cellsOf 67 = 1 by kernel_rfl] at t0
  replace t0 : DataW.trod enc Try.prog w base spare held n 67 [v0] = some x0 := t0
  have t1 := hfi 1 (by decide)
  rw [show Try.prog.cellsOf 67 = 1 by kernel_rfl] at t1
  replace t1 : DataW.trod enc Try.prog w base spare held n 67 [v1] = some x1 := t1
  obtain ⟨y0, e0, _, g0⟩ := DataW.trod_int (show Try.prog.underlying 67 = some (.int .i8) by kernel_rfl) t0
  obtain ⟨y1, e1, _, g1⟩ := DataW.trod_int (show Try.prog.underlying 67 = some (.int .i8) by kernel_rfl) t1
  simp only [List.cons.injEq, and_true] at e0 e1
  subst e0 e1
  exact ⟨(y0, y1), ⟨[.int .i8 y0], [.int .i8 y1], rfl, rfl, rfl⟩, g0, g1⟩
end Go.Proofs.Ytjhapibelhakdaa.Open
