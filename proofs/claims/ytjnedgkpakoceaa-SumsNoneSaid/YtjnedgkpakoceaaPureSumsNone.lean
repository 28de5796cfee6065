/- SumsNone: the limits of package sums, a closed statement. No condition. -/
import Derived.Test.YtjnedgkpakoceaaFogx0
import Derived.Test.YtjnedgkpakoceaaFogx1
import Derived.Test.YtjnedgkpakoceaaFogx12
import Derived.Test.YtjnedgkpakoceaaFogx5
import Derived.Test.YtjnedgkpakoceaaFogx8
import Derived.Test.YtjnedgkpakoceaaKit
import Derived.Test.YtjnedgkpakoceaaCrcSums
import Derived.Test.YtjnedgkpakoceaaCrcAwake
namespace Go.Proofs.Ytjnedgkpakoceaa.Pure
open Go.RowKit Go.Proofs.Ytjnedgkpakoceaa.Fog Go.Proofs.YtjnedgkpakoceaaW.PrintWords Go.Proofs.YtjnedgkpakoceaaW.PrintLast Go.Proofs.Ytjnedgkpakoceaa.Kit Go.Proofs.Ytjnedgkpakoceaa.Crc
set_option linter.unusedSimpArgs false
set_option linter.unusedVariables false

theorem len_zeros (n : Nat) : (List.replicate n false).length = n := List.length_replicate
theorem SumsNone : foghornlaw24_SumsNone.Pure := by
  refine Ev.rounds ?_
  unfold foghornlaw24_SumsNone.f
  refine Ev.bind (sum16_ev [] (by simp)) ?_
  refine Ev.ifp (by omega) (Ev.bind (sum16_long _ (by rw [len_zeros]; omega)) ?_)
  refine Ev.ifp (by omega) (Ev.bind (sum32_ev _ (by rw [len_zeros]; omega)) ?_)
  rw [crc_zeros]
  refine Ev.ifp (by omega) (Ev.bind (row16_long _ (by rw [len_zeros]; omega) (by rw [len_zeros]; omega)) ?_)
  refine Ev.ifp (by omega) (Ev.bind (row16_ev _ (by rw [len_zeros]; omega)) ?_)
  refine Ev.ifp (by omega) (Ev.bind (row32_long _ (by rw [len_zeros]; omega) (by rw [len_zeros]; omega)) ?_)
  refine Ev.bind (a := ((0 : Int), (1 : Int))) ?_ ?_
  · simp only [sums_On32.f]
    exact Ev.bind (on32_long 7 _ (by rw [len_zeros]; omega)) (Ev.now _)
  refine Ev.bind (a := ((7 : Int), (0 : Int))) ?_ ?_
  · simp only [sums_On32.f]
    exact Ev.bind (on32_ev 7#32 [] (by simp)) (Ev.now _)
  refine Ev.bind (a := ((0 : Int), (1 : Int))) ?_ ?_
  · simp only [sums_Joined32.f]
    refine Ev.ifp (by omega) (Ev.step (fun k => by simp only [sums_Joined32.j0]; rfl) ?_)
    exact Ev.ifp trivial (Ev.now _)
  refine Ev.bind (a := ((3 : Int), (0 : Int))) ?_ ?_
  · exact Ev.of (fun k => sums_Joined32.mono _ _ _ k) (k := 5) (by decide +kernel)
  refine Ev.bind (a := ((0 : Int), (1 : Int))) ?_ ?_
  · exact Ev.of (fun k => sums_Joined32.mono _ _ _ k) (k := 5) (by decide +kernel)
  refine Ev.bind (a := ((0 : Int), (0 : Int), (6 : Int))) ?_ ?_
  · exact Ev.of (fun k => sums_Burst.mono _ _ k) (k := 5) (by decide +kernel)
  refine Ev.ifp (by omega) (Ev.bind (a := ((0 : Int), (0 : Int), (1 : Int))) ?_ ?_)
  · exact Ev.of (fun k => sums_Burst.mono _ _ k) (k := 5) (by decide +kernel)
  refine Ev.bindc (a := ((⟨#[]⟩ : ByteArray), false)) (by rfl) ?_
  refine Ev.bindc (a := (⟨#[0, 0, 0, 0]⟩ : ByteArray)) (by decide +kernel) ?_
  refine Ev.bindc (a := ((⟨#[]⟩ : ByteArray), true)) (by decide +kernel) ?_
  refine Ev.ifp (by rfl) (Ev.ifp (by rfl) (Ev.ifp (by rfl) (Ev.ifp (by rfl) (Ev.ifp (by rfl) (Ev.ifp (by rfl) (Ev.ifp ?_ (Ev.ifp (by rfl) (Ev.ifp (by rfl) (Ev.ifp (by rfl) (Ev.ifp (by rfl) (Ev.ifp (by rfl) (Ev.ifp (by rfl) (Ev.ifp (by rfl) (Ev.ifp (by rfl) (Ev.ifp (by rfl) (Ev.ifp (by rfl) (Ev.ifp (by rfl) (Ev.ifp (by decide +kernel) (Ev.ifn (by decide) (Ev.ifp (by decide +kernel) (Ev.ifp (by decide) (Ev.ifp (by omega) ?_))))))))))))))))))))))
  · rw [List.length_append, len_zeros, spelt_length]; rfl
  refine Ev.bind (fits16_ev _) ?_
  rw [len_zeros, crc_zeros]
  refine Ev.ifn (by decide) (Ev.ifp (by omega) (Ev.bind (fits16_ev _) ?_))
  rw [len_zeros, crc_zeros]
  refine Ev.ifp (by decide) (Ev.bind (fits32_ev _) ?_)
  rw [len_zeros, crc_zeros]
  refine Ev.ifn (by decide) (Ev.bind (fits32_ev _) ?_)
  refine Ev.ifn (by decide) ?_
  exact Ev.bind awake_ev (Ev.now _)
end Go.Proofs.Ytjnedgkpakoceaa.Pure
