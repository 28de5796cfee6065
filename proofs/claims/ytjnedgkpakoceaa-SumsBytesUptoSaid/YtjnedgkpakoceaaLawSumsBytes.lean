-- Written by fogrow.py, a program of this session (after the row that the kit's print writes).
import Derived.Test.YtjnedgkpakoceaaRows
import Derived.Test.YtjnedgkpakoceaaUpto
import Derived.Test.YtjnedgkpakoceaaPureSumsBytes
import Derived.WalkKit
import Derived.ProofKit
import Derived.OpenShut
import Derived.ShutString
import Derived.ChangeOld
import Derived.Below
import Derived.SizedLaws
namespace Go.Proofs.Ytjnedgkpakoceaa.sumsBytes
open Go.ChangeShapes Go.WideShapes Go.ChangeAt Go.RowKit Go.Proofs.YtjnedgkpakoceaaW.PrintWords Go.Proofs.Ytjnedgkpakoceaa.Open Go.Proofs.Ytjnedgkpakoceaa.Fog
open Go.ChangeMaps (open_string shut_string)
set_option linter.unusedVariables false
theorem own : ownKnob Try.prog.godebug = none := by kernel_rfl
theorem laidOut : laidOutB Try.prog = true := by kernel_rfl
set_option maxRecDepth 100000 in
theorem lifted (os : Os) (started : os.Started) (H : Type) (enc : TypeId × Value → H) (F0 : Stop.Interp) :
    ReturnsInHanded {} Try.checked os 4 .any ((Rows.OpenSpec.upto Rows.sumsBytesSpec).pre6 enc Try.prog Try.f4 Rows.sumsBytesUptoRow.domain false) (((Rows.OpenSpec.upto Rows.sumsBytesSpec).at F0).post enc Try.prog Try.f4 false true false false) := by
  refine returnsInHanded_of_upto (C := Try.checked) (s := (Rows.OpenSpec.upto Rows.sumsBytesSpec)) (k := Rows.uptoSmall) rfl own started (by kernel_rfl) Try.func4
    (OpenSpec.witness (enc := enc) (C := Try.checked) (s := (Rows.OpenSpec.upto Rows.sumsBytesSpec)) (k := Rows.uptoSmall) rfl false ⟨#[], #[.string ByteArray.empty, .agg #[.slice none 0 0, .slice none 0 0, .int .u32 0, .int .u32 0, .int .i64 0]], []⟩ 8 (by kernel_rfl) (by kernel_rfl) (by kernel_rfl) (x := ([.lit (.string []), .agg [.nil, .nil, .lit (.int .u32 0), .lit (.int .u32 0), .lit (.int .i64 0)]], [], [])) (by kernel_rfl) (by kernel_rfl) (by kernel_rfl)) ?_
  intro W base args ds gs before hval0 hW hcnd hsm hsz0 _
  change Calls _ _ _ _ (fun e W' => ∃ v, e = .returned v ∧ Rows.sumsBytesSpec.post enc Try.prog Try.f4 false true false false W args v W')
  have hsz : (DataW.weightsEach Try.prog (Try.f4.params.toList ++ Rows.sumsBytesSpec.plain.varTypes Try.prog) (ds ++ gs)).all (· ≤ reachBytes) = true := hsz0
  have hval : ∀ (j : Nat) t v, Try.f4.params[j]? = some t → args[j]? = some v → Value.okWide Try.prog W .any base t v := hval0
  have hW' := hW
  obtain ⟨p, q, hA0, hV, rfl, hfz, hnd⟩ := hW
  have hA : DataW.TrodAll enc Try.prog W 0 (fun _ => true) true Try.f4.params.toList args.toList ds p := hA0
  rw [Try.params4] at hA hval hsz
  obtain ⟨v0, vs0, d0, ds0, p0, q0, hargs, rfl, rfl, h0, r0⟩ := trodAll_cons hA
  obtain ⟨v1, vs1, d1, ds1, p1, q1, rfl, rfl, rfl, h1, r1⟩ := trodAll_cons r0
  obtain ⟨rfl, rfl, rfl⟩ := trodAll_nil r1
  obtain rfl : args = #[v0, v1] := by cases args; simp_all
  obtain ⟨rfl, rfl⟩ := trodVars_none hV
  obtain ⟨a0, rfl, rfl, rfl, y0⟩ := open_string Try.underlying9 (hval 0 9 v0 rfl rfl) h0
  have w0 : a0.size ≤ 140737488351232 := by
    have z := sized_string hsz (j := 0) (t := 9) rfl rfl
    rw [Array.length_toList] at z
    exact z
  have hu0 : a0.size ≤ 1048576 := by have z := small_of hsm (j := 0) rfl; simp only [Rows.uptoBulk, Array.length_toList] at z; exact Nat.le_of_succ_le z
  have k1 := h1
  have lt1 : ∀ x ∈ p1, x.block < W.heap.size := by obtain ⟨m, hm⟩ := k1; exact DataW.trod_lt m _ _ _ hm
  have wt1 := weigh hsz (j := 1) rfl rfl
  obtain ⟨vs1, ys1, n1, rfl, hl1, hyl1, rfl, hf1⟩ := open_agg Try.underlying36 (by kernel_rfl) (by kernel_rfl) (hval 1 36 v1 rfl rfl) h1
  obtain ⟨v1_0, v1_1, v1_2, v1_3, v1_4, rfl⟩ := list_len5 (hl1.trans rfl)
  obtain ⟨x1_0, x1_1, x1_2, x1_3, x1_4, rfl⟩ := list_len5 (hyl1.trans rfl)
  have t1_0 := hf1 0 _ _ _ rfl rfl rfl
  obtain ⟨A1_0, c1_0, l1_0, e1_0, hr1_0, hc1_0, hy1_0, hg1_0, hu1_0⟩ := openU_sl_cell (opensU_slice (B := 1) Try.underlying22 (by kernel_rfl) (by kernel_rfl) (opensU_bool Try.underlying4)) Try.underlying22 t1_0 (fun n hn => wt1 n (weights_field (j := 0) Try.underlying36 rfl rfl n hn))
  replace hu1_0 := Nat.le_trans hu1_0 (Nat.le_trans (bulk_agg (j := 0) rfl) (small_of hsm (j := 1) rfl))
  simp only [List.cons.injEq, and_true] at e1_0
  subst e1_0
  have t1_1 := hf1 1 _ _ _ rfl rfl rfl
  obtain ⟨A1_1, c1_1, l1_1, e1_1, hr1_1, hc1_1, hy1_1, hg1_1, hu1_1⟩ := openU_sl_cell (opensU_slice (B := 1) Try.underlying22 (by kernel_rfl) (by kernel_rfl) (opensU_bool Try.underlying4)) Try.underlying22 t1_1 (fun n hn => wt1 n (weights_field (j := 1) Try.underlying36 rfl rfl n hn))
  replace hu1_1 := Nat.le_trans hu1_1 (Nat.le_trans (bulk_agg (j := 1) rfl) (small_of hsm (j := 1) rfl))
  simp only [List.cons.injEq, and_true] at e1_1
  subst e1_1
  have t1_2 := hf1 2 _ _ _ rfl rfl rfl
  obtain ⟨a1_2, e1_2, _, w1_2⟩ := DataW.trod_int Try.underlying24 t1_2
  simp only [List.cons.injEq, and_true] at e1_2
  subst e1_2
  have t1_3 := hf1 3 _ _ _ rfl rfl rfl
  obtain ⟨a1_3, e1_3, _, w1_3⟩ := DataW.trod_int Try.underlying24 t1_3
  simp only [List.cons.injEq, and_true] at e1_3
  subst e1_3
  have t1_4 := hf1 4 _ _ _ rfl rfl rfl
  obtain ⟨a1_4, e1_4, _, w1_4⟩ := DataW.trod_int Try.underlying3 t1_4
  simp only [List.cons.injEq, and_true] at e1_4
  subst e1_4
  clear hA0 hval0 hsz0 hsz
  refine (Pure.SumsBytes_walk a0 A1_0 c1_0 l1_0 A1_1 c1_1 l1_1 a1_2 a1_3 a1_4 W w0 hu0 hr1_0 hc1_0 hy1_0 hg1_0 hu1_0 hr1_1 hc1_1 hy1_1 hg1_1 hu1_1 w1_2 w1_3 w1_4).mono fun e W' ⟨he, bel⟩ => ?_
  subst he
  exact ⟨_, rfl, _, _, _, [], _, [], hW', trodAll_mk1 (shut_bool Try.underlying4 _), (trodAll_cons_mk (shut_string Try.underlying9 y0) (trodAll_cons_mk (Below.trod laidOut (by kernel_rfl) (of_decide_eq_true (by kernel_rfl)) k1 bel lt1) trodAll_mk0)), rfl, bel.frame _, fun h => by cases h⟩
theorem over : Rows.sumsBytesUptoRow.holds Try.pinned ((Rows.OpenSpec.upto Rows.sumsBytesSpec)) :=
  OpenClaim.holds_of_cond 4 Try.f4 rfl rfl rfl rfl rfl rfl rfl ⟨rfl, rfl, rfl, rfl, rfl⟩ rfl rfl rfl rfl rfl (by kernel_rfl) Try.func4 (by kernel_rfl)
    (of_decide_eq_true (by kernel_rfl)) (by unfold Func.isWrapper; first | (rw [if_pos (by decide +kernel)]; kernel_rfl) | (rw [if_neg (by decide +kernel)]; exact ⟨rfl, rfl⟩))
    (fun os started H enc _ F0 => lifted os started H enc F0)
theorem proved : Rows.SumsBytesUptoSaid := over
#print axioms proved
end Go.Proofs.Ytjnedgkpakoceaa.sumsBytes
namespace Go.Proofs.Ytjnedgkpakoceaa
/-- The row, under a short name, for the claim. -/
theorem sumsBytes_holds : Rows.SumsBytesUptoSaid := sumsBytes.proved
end Go.Proofs.Ytjnedgkpakoceaa
