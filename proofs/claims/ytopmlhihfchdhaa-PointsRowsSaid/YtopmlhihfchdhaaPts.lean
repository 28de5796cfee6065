/- The reference's points: all by reckoning. -/
import Derived.Test.YtopmlhihfchdhaaFogx0
import Derived.Test.YtopmlhihfchdhaaFogx1
import Derived.Test.YtopmlhihfchdhaaFogx2
import Derived.Test.YtopmlhihfchdhaaFogx3
import Derived.Test.YtopmlhihfchdhaaTurned
namespace Go.Proofs.Ytopmlhihfchdhaa.Pure
open Go.RowKit Go.Proofs.Ytopmlhihfchdhaa.Fog Go.Proofs.YtopmlhihfchdhaaW.PrintWords Go.Proofs.YtopmlhihfchdhaaW.PrintLast Go.Proofs.YtopmlhihfchdhaaW.PrintMore Go.Proofs.Ytopmlhihfchdhaa.Kit
def ptsL (n : Nat) : List S65 := (List.range n).map fun i => ⟨(ptP n i).1, (ptP n i).2⟩
instance : DecidableEq S65 := fun a b => decidable_of_iff (a.f0 = b.f0 ∧ a.f1 = b.f1) (by cases a; cases b; simp)
theorem ptsL_length (n : Nat) : (ptsL n).length = n := by unfold ptsL; rw [List.length_map, List.length_range]
theorem ptsL_get (n i : Nat) (h : i < n) : (ptsL n).getD i z65 = ⟨(ptP n i).1, (ptP n i).2⟩ := by
  unfold ptsL
  rw [List.getD_eq_getElem?_getD, List.getElem?_map, List.getElem?_range h]; rfl
set_option maxRecDepth 1000000 in
theorem pts_4 : foghornref04_Points.f 1200 4 = some (ptsL 4, 0) := by decide +kernel
set_option maxRecDepth 1000000 in
theorem pts_16 : foghornref04_Points.f 1200 16 = some (ptsL 16, 0) := by decide +kernel
set_option maxRecDepth 1000000 in
theorem pts_32 : foghornref04_Points.f 1200 32 = some (ptsL 32, 0) := by decide +kernel
set_option maxRecDepth 1000000 in
theorem pts_64 : foghornref04_Points.f 1200 64 = some (ptsL 64, 0) := by decide +kernel
set_option maxRecDepth 1000000 in
theorem pts_128 : foghornref04_Points.f 1200 128 = some (ptsL 128, 0) := by decide +kernel
set_option maxRecDepth 1000000 in
theorem pts_256 : foghornref04_Points.f 1200 256 = some (ptsL 256, 0) := by decide +kernel
theorem pts_any (n : Nat) (h : isSz n) : foghornref04_Points.f 1200 (n : Int) = some (ptsL n, 0) := by
  rcases h with rfl | rfl | rfl | rfl | rfl | rfl
  · exact pts_4
  · exact pts_16
  · exact pts_32
  · exact pts_64
  · exact pts_128
  · exact pts_256
theorem pts_no (n : Int) (h : noSz n) : foghornref04_Points.f 1200 n = some ([], 1) := by
  obtain ⟨h1, h2, h3, h4, h5, h6⟩ := h
  unfold foghornref04_Points.f foghornref04_Edge.f
  rw [if_neg h1, if_neg h2, if_neg h3, if_neg h4, if_neg h5, if_neg h6]
  rfl
theorem refBits_any (n : Nat) (h : isSz n) : foghornref04_Bits.f (n : Int) = some (szB n, 0) := by
  rcases h with rfl | rfl | rfl | rfl | rfl | rfl <;> rfl
theorem refBits_no (n : Int) (h : noSz n) : foghornref04_Bits.f n = some (0, 1) := by
  obtain ⟨h1, h2, h3, h4, h5, h6⟩ := h
  unfold foghornref04_Bits.f
  rw [if_neg h1, if_neg h2, if_neg h3, if_neg h4, if_neg h5, if_neg h6]
theorem refEdge_any (n : Nat) (h : isSz n) : foghornref04_Edge.f (n : Int) = some (szE n, 0) := by
  rcases h with rfl | rfl | rfl | rfl | rfl | rfl <;> rfl
theorem refEdge_no (n : Int) (h : noSz n) : foghornref04_Edge.f n = some (0, 1) := by
  obtain ⟨h1, h2, h3, h4, h5, h6⟩ := h
  unfold foghornref04_Edge.f
  rw [if_neg h1, if_neg h2, if_neg h3, if_neg h4, if_neg h5, if_neg h6]
set_option maxRecDepth 1000000 in
theorem engL_any : ∀ n ∈ [4, 16, 32, 64, 128, 256], foghornref04_Energy.l0 1200 (ptsL n) 0 0 0 = some (eng n n, 0) := by decide +kernel
theorem refEnergy_any (n : Nat) (h : isSz n) : foghornref04_Energy.f 1200 (n : Int) = some (eng n n, 0) := by
  unfold foghornref04_Energy.f
  rw [pts_any n h]
  show foghornref04_Energy.l0 1200 (ptsL n) 0 0 0 = _
  exact engL_any n (by rcases h with rfl | rfl | rfl | rfl | rfl | rfl <;> decide)
theorem refEnergy_no (n : Int) (h : noSz n) : foghornref04_Energy.f 1200 n = some (0, 1) := by
  unfold foghornref04_Energy.f
  rw [pts_no n h]
  rfl
end Go.Proofs.Ytopmlhihfchdhaa.Pure
