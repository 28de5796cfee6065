-- Written by fogrow.py, a program of this session (after the row that the kit's print writes).
import Derived.Test.YtjhapibelhakdaaRows
import Derived.Test.YtjhapibelhakdaaOpen
import Derived.Test.YtjhapibelhakdaaOpenS
import Derived.Test.YtjhapibelhakdaaPureTempoPhases
import Derived.WalkKit
import Derived.ProofKit
import Derived.OpenShut
import Derived.ShutString
import Derived.ChangeOld
import Derived.Below
import Derived.SizedLaws
namespace Go.Proofs.Ytjhapibelhakdaa.tempoPhases
open Go.ChangeShapes Go.WideShapes Go.ChangeAt Go.RowKit Go.Proofs.YtjhapibelhakdaaW.PrintWords Go.Proofs.Ytjhapibelhakdaa.Open
open Go.ChangeMaps (open_string shut_string)
set_option linter.unusedVariables false
theorem own : ownKnob Try.prog.godebug = none := by kernel_rfl
theorem laidOut : laidOutB Try.prog = true := by kernel_rfl
set_option maxRecDepth 100000 in
theorem lifted (os : Os) (started : os.Started) (H : Type) (enc : TypeId × Value → H) :
    ReturnsInHanded {} Try.checked os 7 .any (Rows.tempoPhasesSpec.pre6 enc Try.prog Try.f7 Rows.tempoPhasesRow.domain false) (Rows.tempoPhasesSpec.post enc Try.prog Try.f7 false true false false) := by
  refine returnsInHanded_of_change_sized (C := Try.checked) own started (by kernel_rfl) Try.func7
    (ChangeSpec.witness6 (enc := enc) (C := Try.checked) false ⟨#[], #[.agg #[.int .i64 0, .int .i64 0, .int .i64 0, .slice none 0 0], .slice none 0 0], []⟩ 8 (by kernel_rfl) (by kernel_rfl) (by kernel_rfl) (by kernel_rfl)) ?_
  intro W base args ds gs before hval0 hW hcnd hsz0 _
  have hsz : (DataW.weightsEach Try.prog (Try.f7.params.toList ++ Rows.tempoPhasesSpec.plain.varTypes Try.prog) (ds ++ gs)).all (· ≤ reachBytes) = true := hsz0
  have hval : ∀ (j : Nat) t v, Try.f7.params[j]? = some t → args[j]? = some v → Value.okWide Try.prog W .any base t v := hval0
  have hW' := hW
  obtain ⟨p, q, hA0, hV, rfl, hfz, hnd⟩ := hW
  have hA : DataW.TrodAll enc Try.prog W 0 (fun _ => true) true Try.f7.params.toList args.toList ds p := hA0
  rw [Try.params7] at hA hval hsz
  obtain ⟨v0, vs0, d0, ds0, p0, q0, hargs, rfl, rfl, h0, r0⟩ := trodAll_cons hA
  obtain ⟨v1, vs1, d1, ds1, p1, q1, rfl, rfl, rfl, h1, r1⟩ := trodAll_cons r0
  obtain ⟨rfl, rfl, rfl⟩ := trodAll_nil r1
  obtain rfl : args = #[v0, v1] := by cases args; simp_all
  obtain ⟨rfl, rfl⟩ := trodVars_none hV
  have k0 := h0
  have lt0 : ∀ x ∈ p0, x.block < W.heap.size := by obtain ⟨m, hm⟩ := k0; exact DataW.trod_lt m _ _ _ hm
  have wt0 := weigh hsz (j := 0) rfl rfl
  obtain ⟨vs0, ys0, n0, rfl, hl0, hyl0, rfl, hf0⟩ := open_agg Try.underlying57 (by kernel_rfl) (by kernel_rfl) (hval 0 57 v0 rfl rfl) h0
  obtain ⟨v0_0, v0_1, v0_2, v0_3, rfl⟩ := list_len4 (hl0.trans rfl)
  obtain ⟨x0_0, x0_1, x0_2, x0_3, rfl⟩ := list_len4 (hyl0.trans rfl)
  have t0_0 := hf0 0 _ _ _ rfl rfl rfl
  obtain ⟨a0_0, e0_0, _, w0_0⟩ := DataW.trod_int Try.underlying3 t0_0
  simp only [List.cons.injEq, and_true] at e0_0
  subst e0_0
  have t0_1 := hf0 1 _ _ _ rfl rfl rfl
  obtain ⟨a0_1, e0_1, _, w0_1⟩ := DataW.trod_int Try.underlying3 t0_1
  simp only [List.cons.injEq, and_true] at e0_1
  subst e0_1
  have t0_2 := hf0 2 _ _ _ rfl rfl rfl
  obtain ⟨a0_2, e0_2, _, w0_2⟩ := DataW.trod_int Try.underlying3 t0_2
  simp only [List.cons.injEq, and_true] at e0_2
  subst e0_2
  have t0_3 := hf0 3 _ _ _ rfl rfl rfl
  obtain ⟨A0_3, c0_3, l0_3, e0_3, hr0_3, hc0_3, hy0_3, hg0_3⟩ := open_sl_cell (opens_slice (B := 8) Try.underlying55 (by kernel_rfl) (by kernel_rfl) (Go.Proofs.Ytjhapibelhakdaa.Open.opens_float Try.underlying41)) Try.underlying55 t0_3 (fun n hn => wt0 n (weights_field (j := 3) Try.underlying57 rfl rfl n hn))
  simp only [List.cons.injEq, and_true] at e0_3
  subst e0_3
  have k1 := h1
  have lt1 : ∀ x ∈ p1, x.block < W.heap.size := by obtain ⟨m, hm⟩ := k1; exact DataW.trod_lt m _ _ _ hm
  obtain ⟨A1, c1, l1, rfl, hr1, hc1, hy1, hg1⟩ := open_sl (opens_slice (B := 24) Try.underlying33 (by kernel_rfl) (by kernel_rfl) Go.Proofs.Ytjhapibelhakdaa.Open.opens_prt) Try.underlying33 (hval 1 33 v1 rfl rfl) h1 (weigh hsz (j := 1) rfl rfl)
  clear hA0 hval0 hsz0 hsz
  refine (Pure.TempoPhases_walk a0_0 a0_1 a0_2 A0_3 c0_3 l0_3 A1 c1 l1 W w0_0 w0_1 w0_2 hr0_3 hc0_3 hy0_3 hg0_3 hr1 hc1 hy1 hg1).mono fun e W' ⟨he, bel⟩ => ?_
  subst he
  exact ⟨_, rfl, _, _, _, [], _, [], hW', trodAll_mk1 (shut_bool Try.underlying4 _), (trodAll_cons_mk (Below.trod laidOut (by kernel_rfl) (of_decide_eq_true (by kernel_rfl)) k0 bel lt0) (trodAll_cons_mk (Below.trod laidOut (by kernel_rfl) (of_decide_eq_true (by kernel_rfl)) k1 bel lt1) trodAll_mk0)), rfl, bel.frame _, fun h => by cases h⟩
theorem over : Rows.tempoPhasesRow.holds Try.pinned (OpenSpec.ofChange Rows.tempoPhasesSpec) :=
  OpenClaim.holds_of_wide 7 Try.f7 rfl rfl rfl rfl rfl rfl rfl ⟨rfl, rfl, rfl, rfl, rfl⟩ rfl rfl rfl rfl rfl (by kernel_rfl) Try.func7 (by kernel_rfl)
    (of_decide_eq_true (by kernel_rfl)) (by unfold Func.isWrapper; first | (rw [if_pos (by decide +kernel)]; kernel_rfl) | (rw [if_neg (by decide +kernel)]; exact ⟨rfl, rfl⟩))
    (fun os started H enc _ => lifted os started H enc)
theorem proved : Rows.TempoPhasesSaid := over
#print axioms proved
end Go.Proofs.Ytjhapibelhakdaa.tempoPhases
namespace Go.Proofs.Ytjhapibelhakdaa
/-- The row, under a short name, for the claim. -/
theorem tempoPhases_holds : Rows.TempoPhasesSaid := tempoPhases.proved
end Go.Proofs.Ytjhapibelhakdaa
