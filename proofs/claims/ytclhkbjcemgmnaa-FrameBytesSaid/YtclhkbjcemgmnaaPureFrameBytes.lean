/- FrameBytes: any frame, any bytes: exact. No condition. -/
import Derived.Test.YtclhkbjcemgmnaaFogx0
import Derived.Test.YtclhkbjcemgmnaaFogx3
import Derived.Test.YtclhkbjcemgmnaaFogx9
import Derived.Test.YtclhkbjcemgmnaaPack
namespace Go.Proofs.Ytclhkbjcemgmnaa.Pure
open Go.RowKit Go.Proofs.Ytclhkbjcemgmnaa.Fog Go.Proofs.YtclhkbjcemgmnaaW.PrintWords Go.Proofs.YtclhkbjcemgmnaaW.PrintLast Go.Proofs.YtclhkbjcemgmnaaW.PrintMore Go.Proofs.Ytclhkbjcemgmnaa.Kit Go.Proofs.Ytclhkbjcemgmnaa.Crc
set_option linter.unusedSimpArgs false
set_option linter.unusedVariables false
theorem same_self (a b : Int) (m : Bool) (s : ByteArray) : foghornref25_Same.f a b m s a b m s = some true := by
  unfold foghornref25_Same.f
  rw [if_pos rfl, if_pos rfl, if_pos (by simp)]
  simp
theorem FrameBytes_ev (a0 a1 : Int) (m : Bool) (b s : ByteArray) (hs : s.size ≤ 140737488351232) : Ev (fun k => foghornlaw25_FrameBytes.f k a0 a1 m b s) true := by
  simp only [foghornlaw25_FrameBytes.f]
  refine Ev.bindc (pack_f a0 a1 m b) (Ev.bind (refpack_ev a0 a1 m b) (Ev.bind (parse_ev s hs) (Ev.bind (parse_ref s hs) (Ev.ifp rfl (Ev.ifp rfl (Ev.bindc (same_self _ _ _ _) (Ev.ifp rfl (Ev.ifp rfl (Ev.val ?_)))))))))
  simp
theorem FrameBytes_walk (a0_0 a0_1 : Int) (a0_2 : Bool) (a0_3 : ByteArray) (a1 : ByteArray) (w : World) (w0_0 : (Lit.int .u8 a0_0).wf = true) (w0_1 : (Lit.int .u8 a0_1).wf = true) (w0_3 : a0_3.size ≤ 140737488351232) (w1 : a1.size ≤ 140737488351232) :
    Calls Try.prog 4 #[.agg #[.int .u8 a0_0, .int .u8 a0_1, .bool a0_2, .string a0_3], .string a1] w fun e w' => e = .returned (.bool true) ∧ Below w.heap.size w w' := by
  obtain ⟨k, h⟩ := (FrameBytes_ev a0_0 a0_1 a0_2 a0_3 a1 w1).rounds
  exact foghornlaw25_FrameBytes.calls k a0_0 a0_1 a0_2 a0_3 a1 true w h
end Go.Proofs.Ytclhkbjcemgmnaa.Pure
