import Derived.Test.YtabjfehhibeeiaaFogx0
import Derived.Test.YtabjfehhibeeiaaHandClone
import Derived.RangeFuncBox
import Derived.Test.YtabjfehhibeeiaaHandClone
namespace Go.Proofs.Ytabjfehhibeeiaa.Fog
open Go.RowKit Go.Proofs.YtabjfehhibeeiaaW.PrintWords Go.Proofs.YtabjfehhibeeiaaW.PrintLast Go.Proofs.YtabjfehhibeeiaaW.PrintMore
set_option linter.unusedVariables false
set_option linter.unusedSimpArgs false
set_option maxHeartbeats 1000000 in
set_option maxRecDepth 100000 in
theorem pieces_calls (A0 : Option Addr) (c0 : Nat) (l0 : List Bool) (n : Int) (w : World) (hr0 : Kd.C Kd.bool w A0 l0.length l0) (hc0 : l0.length ≤ c0) (hl : l0.length < 140737488355328) :
    Calls Try.prog 19 #[.slice A0 l0.length c0, .int .i64 n] w fun e w' => ∃ (B : Nat) (A : Option Addr) (c : Nat), e = .returned (.func (.func 49) #[] #[.pointer (some ⟨w.heap.size, 0, none⟩), .pointer (some ⟨B, 0, none⟩)]) ∧ Boxed w' w.heap.size 3 (.int .i64 n) ∧ Boxed w' B 26 (.slice A l0.length c) ∧ w.heap.size < B ∧ Kd.R Kd.bool 4 w' w.heap.size (fun _ => True) (.slice A l0.length c) l0 ∧ Below w.heap.size w w' := by
  have HR0 := Aside0.mk hr0
  have HF := Aside0.mk (show slices_Clone_bool_bool.f l0 = some l0 by unfold slices_Clone_bool_bool.f; rw [if_pos hl])
  have bN := Aside0.mk (Boxed.new w 3 (.int .i64 n))
  have HB0 := Aside0.mk (below_alloc (Below.refl w.heap.size w) (.cells #[.int .i64 n] 3))
  clear hr0 hl
  go_enter Try.func19, Try.ntmps19
  go_wp2_with (go_at_call 48; (with_reducible refine (slices_Clone_bool_bool.calls A0 c0 l0 l0 _ (Kd.C_below HR0.out HB0.out) hc0 HF.out).mono ?_); rintro e w1 ⟨v1, rfl, hr, hb⟩; obtain ⟨A1, c1, rfl⟩ := Kd.R_slice hr; have HR1 := Aside0.mk hr; have HB1 := Aside0.mk hb; clear hr hb)
  go_ret
  have b2 := Boxed.new w1 26 (.slice A1 l0.length c1)
  have hsz : w.heap.size < w1.heap.size := by have := HB1.out.size; simp at this; omega
  have hbS := (Below.refl w1.heap.size w1).alloc (Nat.le_refl _) (.cells #[.slice A1 l0.length c1] 26)
  refine ⟨w1.heap.size, A1, c1, rfl, ?_, b2, hsz, ?_, ?_⟩
  · exact ((hbS.block _ hsz).trans (HB1.out.block _ (by simp))).trans bN.out
  · exact Kd.R_below (Kd.R_lower HR1.out (by simp)) hbS
  · exact below_step (below_step HB0.out HB1.out) hbS
end Go.Proofs.Ytabjfehhibeeiaa.Fog
