-- Written by fogrow.py, a program of this session (after the row that the kit's print writes).
import Derived.Test.YtclhkbjcemgmnaaRows
import Derived.Test.YtclhkbjcemgmnaaUpto
import Derived.Test.YtclhkbjcemgmnaaPureFrameBack
import Derived.WalkKit
import Derived.ProofKit
import Derived.OpenShut
import Derived.ShutString
import Derived.ChangeOld
import Derived.Below
import Derived.SizedLaws
namespace Go.Proofs.Ytclhkbjcemgmnaa.frameBack
open Go.ChangeShapes Go.WideShapes Go.ChangeAt Go.RowKit Go.Proofs.YtclhkbjcemgmnaaW.PrintWords Go.Proofs.Ytclhkbjcemgmnaa.Open Go.Proofs.Ytclhkbjcemgmnaa.Fog
open Go.ChangeMaps (open_string shut_string)
set_option linter.unusedVariables false
theorem own : ownKnob Try.prog.godebug = none := by kernel_rfl
theorem laidOut : laidOutB Try.prog = true := by kernel_rfl
theorem opens_T30 : OpensU Try.prog 30 k30 (fun x => (Lit.int .u8 x.f0).wf = true ∧ (Lit.int .u8 x.f1).wf = true ∧ True ∧ x.f3.size ≤ 140737488351232) (fun x => x.f3.size + 1) := by
  intro H enc w base spare held fuel cs x h hw
  obtain ⟨xs, n, _, rfl, hl, hlen, hfi⟩ := DataW.trod_struct Try.underlying30 h
  obtain ⟨x0, x1, x2, x3, rfl⟩ := list_len4 (hlen.trans rfl)
  obtain ⟨v0, v1, v2, v3, rfl⟩ := list_len4 (hl.trans (show Try.prog.cellsOf 30 = 4 by kernel_rfl))
  have t0 := hfi 0 _ rfl
  replace t0 : DataW.trod enc Try.prog w base spare held n 5 [v0] = some x0 := t0
  obtain ⟨y0, e0, z0, g0⟩ := DataW.trod_int Try.underlying5 t0
  simp only [List.cons.injEq, and_true] at e0
  subst e0
  have t1 := hfi 1 _ rfl
  replace t1 : DataW.trod enc Try.prog w base spare held n 5 [v1] = some x1 := t1
  obtain ⟨y1, e1, z1, g1⟩ := DataW.trod_int Try.underlying5 t1
  simp only [List.cons.injEq, and_true] at e1
  subst e1
  have t2 := hfi 2 _ rfl
  replace t2 : DataW.trod enc Try.prog w base spare held n 4 [v2] = some x2 := t2
  obtain ⟨y2, e2, z2⟩ := DataW.trod_bool Try.underlying4 t2
  simp only [List.cons.injEq, and_true] at e2
  subst e2
  have t3 := hfi 3 _ rfl
  replace t3 : DataW.trod enc Try.prog w base spare held n 9 [v3] = some x3 := t3
  obtain ⟨y3, e3, z3, _⟩ := DataW.trod_string Try.underlying9 t3
  have g3 : y3.size ≤ 140737488351232 := by have := hw _ (weights_field (j := 3) Try.underlying30 rfl rfl y3.data.toList.length (by rw [z3]; simp [DataW.weights])); simpa [reachBytes] using this
  have b3 : y3.size ≤ Rows.uptoBulk x3.1 - 1 := by rw [z3]; simp only [Rows.uptoBulk, Array.length_toList]; exact Nat.le_refl _
  simp only [List.cons.injEq, and_true] at e3
  subst e3
  refine ⟨⟨y0, y1, y2, y3⟩, k30_mk w _, ⟨g0, g1, trivial, g3⟩, ?_⟩
  simp only [List.map_cons, List.map_nil, Rows.uptoBulk, Rows.uptoBulkAll]
  omega
set_option maxRecDepth 100000 in
theorem lifted (os : Os) (started : os.Started) (H : Type) (enc : TypeId × Value → H) :
    ReturnsInHanded {} Try.checked os 7 .any (Rows.frameBackSpec.pre6 enc Try.prog Try.f7 Rows.frameBackRow.domain false) (Rows.frameBackSpec.post enc Try.prog Try.f7 false true false false) := by
  refine returnsInHanded_of_change_sized (C := Try.checked) own started (by kernel_rfl) Try.func7
    (ChangeSpec.witness6 (enc := enc) (C := Try.checked) false ⟨#[], #[.slice none 0 0, .string ByteArray.empty], []⟩ 8 (by kernel_rfl) (by kernel_rfl) (by kernel_rfl) (by kernel_rfl)) ?_
  intro W base args ds gs before hval0 hW hcnd hsz0 _
  have hsz : (DataW.weightsEach Try.prog (Try.f7.params.toList ++ Rows.frameBackSpec.plain.varTypes Try.prog) (ds ++ gs)).all (· ≤ reachBytes) = true := hsz0
  have hval : ∀ (j : Nat) t v, Try.f7.params[j]? = some t → args[j]? = some v → Value.okWide Try.prog W .any base t v := hval0
  have hW' := hW
  obtain ⟨p, q, hA0, hV, rfl, hfz, hnd⟩ := hW
  have hA : DataW.TrodAll enc Try.prog W 0 (fun _ => true) true Try.f7.params.toList args.toList ds p := hA0
  rw [Try.params7] at hA hval hsz
  obtain ⟨v0, vs0, d0, ds0, p0, q0, hargs, rfl, rfl, h0, r0⟩ := trodAll_cons hA
  obtain ⟨v1, vs1, d1, ds1, p1, q1, rfl, rfl, rfl, h1, r1⟩ := trodAll_cons r0
  obtain ⟨rfl, rfl, rfl⟩ := trodAll_nil r1
  obtain rfl : args = #[v0, v1] := by cases args; simp_all
  obtain ⟨rfl, rfl⟩ := trodVars_none hV
  have k0 := h0
  have lt0 : ∀ x ∈ p0, x.block < W.heap.size := by obtain ⟨m, hm⟩ := k0; exact DataW.trod_lt m _ _ _ hm
  obtain ⟨A0, c0, l0, rfl, hr0, hc0, hy0, hg0, hu0⟩ := openU_sl (opensU_slice (B := 24) Try.underlying22 (by kernel_rfl) (by kernel_rfl) opens_T30) Try.underlying22 (hval 0 22 v0 rfl rfl) h0 (weigh hsz (j := 0) rfl rfl)
  obtain ⟨a1, rfl, rfl, rfl, y1⟩ := open_string Try.underlying9 (hval 1 9 v1 rfl rfl) h1
  have w1 : a1.size ≤ 140737488351232 := by
    have z := sized_string hsz (j := 1) (t := 9) rfl rfl
    rw [Array.length_toList] at z
    exact z
  clear hA0 hval0 hsz0 hsz
  refine (Pure.FrameBack_walk A0 c0 l0 a1 W hr0 hc0 hy0 hg0 w1).mono fun e W' ⟨he, bel⟩ => ?_
  subst he
  exact ⟨_, rfl, _, _, _, [], _, [], hW', trodAll_mk1 (shut_bool Try.underlying4 _), (trodAll_cons_mk (Below.trod laidOut (by kernel_rfl) (of_decide_eq_true (by kernel_rfl)) k0 bel lt0) (trodAll_cons_mk (shut_string Try.underlying9 y1) trodAll_mk0)), rfl, bel.frame _, fun h => by cases h⟩
theorem over : Rows.frameBackRow.holds Try.pinned (OpenSpec.ofChange Rows.frameBackSpec) :=
  OpenClaim.holds_of_wide 7 Try.f7 rfl rfl rfl rfl rfl rfl rfl ⟨rfl, rfl, rfl, rfl, rfl⟩ rfl rfl rfl rfl rfl (by kernel_rfl) Try.func7 (by kernel_rfl)
    (of_decide_eq_true (by kernel_rfl)) (by unfold Func.isWrapper; first | (rw [if_pos (by decide +kernel)]; kernel_rfl) | (rw [if_neg (by decide +kernel)]; exact ⟨rfl, rfl⟩))
    (fun os started H enc _ => lifted os started H enc)
theorem proved : Rows.FrameBackSaid := over
#print axioms proved
end Go.Proofs.Ytclhkbjcemgmnaa.frameBack
namespace Go.Proofs.Ytclhkbjcemgmnaa
/-- The row, under a short name, for the claim. -/
theorem frameBack_holds : Rows.FrameBackSaid := frameBack.proved
end Go.Proofs.Ytclhkbjcemgmnaa
