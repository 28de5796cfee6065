-- Written by fogrow.py, a program of this session (after the row that the kit's print writes).
import Derived.Test.YtclhkbjcemgmnaaRows
import Derived.Test.YtclhkbjcemgmnaaUpto
import Derived.Test.YtclhkbjcemgmnaaPureFrameNever
import Derived.WalkKit
import Derived.ProofKit
import Derived.OpenShut
import Derived.ShutString
import Derived.ChangeOld
import Derived.Below
import Derived.SizedLaws
namespace Go.Proofs.Ytclhkbjcemgmnaa.frameNever
open Go.ChangeShapes Go.WideShapes Go.ChangeAt Go.RowKit Go.Proofs.YtclhkbjcemgmnaaW.PrintWords Go.Proofs.Ytclhkbjcemgmnaa.Open Go.Proofs.Ytclhkbjcemgmnaa.Fog
open Go.ChangeMaps (open_string shut_string)
set_option linter.unusedVariables false
theorem own : ownKnob Try.prog.godebug = none := by kernel_rfl
theorem laidOut : laidOutB Try.prog = true := by kernel_rfl
set_option maxRecDepth 100000 in
theorem lifted (os : Os) (started : os.Started) (H : Type) (enc : TypeId × Value → H) :
    ReturnsInHanded {} Try.checked os 9 .any (Rows.frameNeverSpec.pre6 enc Try.prog Try.f9 Rows.frameNeverRow.domain false) (Rows.frameNeverSpec.post enc Try.prog Try.f9 false true false false) := by
  refine returnsInHanded_of_change_sized (C := Try.checked) own started (by kernel_rfl) Try.func9
    (ChangeSpec.witness6 (enc := enc) (C := Try.checked) false ⟨#[], #[.agg #[.int .u8 0, .int .u8 0, .bool false, .string ByteArray.empty], .int .i64 0, .int .u32 0], []⟩ 8 (by kernel_rfl) (by kernel_rfl) (by kernel_rfl) (by kernel_rfl)) ?_
  intro W base args ds gs before hval0 hW hcnd hsz0 _
  have hsz : (DataW.weightsEach Try.prog (Try.f9.params.toList ++ Rows.frameNeverSpec.plain.varTypes Try.prog) (ds ++ gs)).all (· ≤ reachBytes) = true := hsz0
  have hval : ∀ (j : Nat) t v, Try.f9.params[j]? = some t → args[j]? = some v → Value.okWide Try.prog W .any base t v := hval0
  have hW' := hW
  obtain ⟨p, q, hA0, hV, rfl, hfz, hnd⟩ := hW
  have hA : DataW.TrodAll enc Try.prog W 0 (fun _ => true) true Try.f9.params.toList args.toList ds p := hA0
  rw [Try.params9] at hA hval hsz
  obtain ⟨v0, vs0, d0, ds0, p0, q0, hargs, rfl, rfl, h0, r0⟩ := trodAll_cons hA
  obtain ⟨v1, vs1, d1, ds1, p1, q1, rfl, rfl, rfl, h1, r1⟩ := trodAll_cons r0
  obtain ⟨v2, vs2, d2, ds2, p2, q2, rfl, rfl, rfl, h2, r2⟩ := trodAll_cons r1
  obtain ⟨rfl, rfl, rfl⟩ := trodAll_nil r2
  obtain rfl : args = #[v0, v1, v2] := by cases args; simp_all
  obtain ⟨rfl, rfl⟩ := trodVars_none hV
  have k0 := h0
  have lt0 : ∀ x ∈ p0, x.block < W.heap.size := by obtain ⟨m, hm⟩ := k0; exact DataW.trod_lt m _ _ _ hm
  have wt0 := weigh hsz (j := 0) rfl rfl
  obtain ⟨vs0, ys0, n0, rfl, hl0, hyl0, rfl, hf0⟩ := open_agg Try.underlying30 (by kernel_rfl) (by kernel_rfl) (hval 0 30 v0 rfl rfl) h0
  obtain ⟨v0_0, v0_1, v0_2, v0_3, rfl⟩ := list_len4 (hl0.trans rfl)
  obtain ⟨x0_0, x0_1, x0_2, x0_3, rfl⟩ := list_len4 (hyl0.trans rfl)
  have t0_0 := hf0 0 _ _ _ rfl rfl rfl
  obtain ⟨a0_0, e0_0, _, w0_0⟩ := DataW.trod_int Try.underlying5 t0_0
  simp only [List.cons.injEq, and_true] at e0_0
  subst e0_0
  have t0_1 := hf0 1 _ _ _ rfl rfl rfl
  obtain ⟨a0_1, e0_1, _, w0_1⟩ := DataW.trod_int Try.underlying5 t0_1
  simp only [List.cons.injEq, and_true] at e0_1
  subst e0_1
  have t0_2 := hf0 2 _ _ _ rfl rfl rfl
  obtain ⟨a0_2, e0_2, _⟩ := DataW.trod_bool Try.underlying4 t0_2
  simp only [List.cons.injEq, and_true] at e0_2
  subst e0_2
  have t0_3 := hf0 3 _ _ _ rfl rfl rfl
  obtain ⟨a0_3, e0_3, hx0_3, _⟩ := DataW.trod_string Try.underlying9 t0_3
  have w0_3 : a0_3.size ≤ 140737488351232 := by have := wt0 _ (weights_field (j := 3) Try.underlying30 rfl rfl a0_3.data.toList.length (by rw [hx0_3]; simp [DataW.weights])); simpa [reachBytes] using this
  simp only [List.cons.injEq, and_true] at e0_3
  subst e0_3
  obtain ⟨a1, rfl, rfl, rfl, w1⟩ := open_int Try.underlying3 (hval 1 3 v1 rfl rfl) h1
  obtain ⟨a2, rfl, rfl, rfl, w2⟩ := open_int Try.underlying52 (hval 2 52 v2 rfl rfl) h2
  clear hA0 hval0 hsz0 hsz
  refine (Pure.FrameNever_walk a0_0 a0_1 a0_2 a0_3 a1 a2 W w0_0 w0_1 w0_3 w1 w2).mono fun e W' ⟨he, bel⟩ => ?_
  subst he
  exact ⟨_, rfl, _, _, _, [], _, [], hW', trodAll_mk1 (shut_bool Try.underlying4 _), (trodAll_cons_mk (Below.trod laidOut (by kernel_rfl) (of_decide_eq_true (by kernel_rfl)) k0 bel lt0) (trodAll_cons_mk (shut_int Try.underlying3 w1) (trodAll_cons_mk (shut_int Try.underlying52 w2) trodAll_mk0))), rfl, bel.frame _, fun h => by cases h⟩
theorem over : Rows.frameNeverRow.holds Try.pinned (OpenSpec.ofChange Rows.frameNeverSpec) :=
  OpenClaim.holds_of_wide 9 Try.f9 rfl rfl rfl rfl rfl rfl rfl ⟨rfl, rfl, rfl, rfl, rfl⟩ rfl rfl rfl rfl rfl (by kernel_rfl) Try.func9 (by kernel_rfl)
    (of_decide_eq_true (by kernel_rfl)) (by unfold Func.isWrapper; first | (rw [if_pos (by decide +kernel)]; kernel_rfl) | (rw [if_neg (by decide +kernel)]; exact ⟨rfl, rfl⟩))
    (fun os started H enc _ => lifted os started H enc)
theorem proved : Rows.FrameNeverSaid := over
#print axioms proved
end Go.Proofs.Ytclhkbjcemgmnaa.frameNever
namespace Go.Proofs.Ytclhkbjcemgmnaa
/-- The row, under a short name, for the claim. -/
theorem frameNever_holds : Rows.FrameNeverSaid := frameNever.proved
end Go.Proofs.Ytclhkbjcemgmnaa
