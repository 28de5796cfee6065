/- Xor, Distance, Weight, Pad: what both sides answer. -/
import Derived.Test.YtabjfehhibeeiaaFogx0
import Derived.Test.YtabjfehhibeeiaaFogx6
import Derived.Test.YtabjfehhibeeiaaFogx7
import Derived.Test.YtabjfehhibeeiaaKit
import Derived.Test.YtabjfehhibeeiaaRefLent
namespace Go.Proofs.Ytabjfehhibeeiaa.Pure
open Go.RowKit Go.Proofs.Ytabjfehhibeeiaa.Fog Go.Proofs.YtabjfehhibeeiaaW.PrintWords Go.Proofs.YtabjfehhibeeiaaW.PrintLast Go.Proofs.Ytabjfehhibeeiaa.Kit
set_option linter.unusedVariables false
def xorV (a b : List Bool) : List Bool × Int := if a.length = b.length ∧ a.length ≤ 32768 then (xorB a b, 0) else ([], 1)
theorem xorV_ev (a b : List Bool) : Ev (fun k => bits_Xor.f k a b) (xorV a b) := by
  unfold xorV
  by_cases h : a.length = b.length ∧ a.length ≤ 32768
  · rw [if_pos h]; exact xor_ev a b h.1 h.2
  · rw [if_neg h]; exact xor_bad a b h
theorem xorV_length (a b : List Bool) : (xorV a b).1.length ≤ 32768 := by
  unfold xorV
  split
  · rename_i h
    show (xorB a b).length ≤ _
    rw [xorB_length a b h.1]
    exact h.2
  · simp
theorem refxor_l0 (a b : List Bool) (hab : a.length = b.length) (hl : a.length ≤ 32768) : ∀ (d i : Nat) (x : List Bool), i + d = a.length → x = (xorB a b).take i →
    Ev (fun k => foghornref01_Xor.l0 k a b x (i : Int)) (xorB a b, 0)
  | 0, i, x, h, hx => by
    refine Ev.step (fun k => by simp only [foghornref01_Xor.l0]; rfl) ?_
    refine Ev.ifn (by omega) (Ev.val ?_)
    rw [hx, List.take_of_length_le (by rw [xorB_length a b hab]; omega)]
  | d + 1, i, x, h, hx => by
    have hi : i < a.length := by omega
    have hxl : x.length < 140737488355328 := by rw [hx, List.length_take]; omega
    refine Ev.step (fun k => by simp only [foghornref01_Xor.l0]; rfl) ?_
    refine Ev.ifp (by omega) (Ev.ifp (by omega) (Ev.ifp (by omega) (Ev.ifp hxl ?_)))
    rw [show ((i : Int) + 1) = ((i + 1 : Nat) : Int) by omega, w64n (by omega), rd_nat, rd_nat]
    refine refxor_l0 a b hab hl d (i + 1) _ (by omega) ?_
    rw [List.take_succ_eq_append_getElem (l := xorB a b) (by rw [xorB_length a b hab]; omega), xorB_get a b i hi (by omega), hx]
theorem refxor_ev (a b : List Bool) : Ev (fun k => foghornref01_Xor.f k a b) (xorV a b) := by
  unfold xorV foghornref01_Xor.f
  by_cases h1 : (a.length : Int) > 32768
  · rw [if_neg (by omega)]
    refine Ev.ifp h1 ?_
    refine Ev.step (fun k => by simp only [foghornref01_Xor.j0]; rfl) ?_
    exact Ev.ifp trivial (Ev.now _)
  refine Ev.ifn h1 ?_
  by_cases h2 : (b.length : Int) > 32768
  · rw [if_neg (by omega)]
    refine Ev.ifp h2 ?_
    refine Ev.step (fun k => by simp only [foghornref01_Xor.j0]; rfl) ?_
    exact Ev.ifp trivial (Ev.now _)
  refine Ev.ifn h2 ?_
  refine Ev.step (fun k => by simp only [foghornref01_Xor.j0]; rfl) ?_
  by_cases h3 : a.length = b.length
  · rw [if_pos (by omega)]
    refine Ev.ifn (by simp [h3]) ?_
    exact refxor_l0 a b h3 (by omega) a.length 0 [] (by omega) (by simp)
  · rw [if_neg (by omega)]
    exact Ev.ifp (by simp; omega) (Ev.now _)
theorem refweight_l0 (l : List Bool) (hl : l.length ≤ 9223372036854775806) : ∀ (d i : Nat), i + d = l.length → Ev (fun k => foghornref01_Weight.l0 k l (wgt (l.take i) : Int) (i : Int)) (wgt l : Int)
  | 0, i, h => by
    refine Ev.step (fun k => by simp only [foghornref01_Weight.l0]; rfl) ?_
    refine Ev.ifn (by omega) (Ev.val ?_)
    rw [List.take_of_length_le (by omega)]
  | d + 1, i, h => by
    have ih := refweight_l0 l hl d (i + 1) (by omega)
    rw [wgt_take l i (by omega)] at ih
    have hb : wgt (l.take i) ≤ i := Nat.le_trans (wgt_le _) (by rw [List.length_take]; omega)
    refine Ev.step (fun k => by simp only [foghornref01_Weight.l0]; rfl) ?_
    refine Ev.ifp (by omega) (Ev.ifp (by omega) ?_)
    rw [rd_nat, show ((i : Int) + 1) = ((i + 1 : Nat) : Int) by omega, w64n (by omega)]
    by_cases hg : l.getD i false = true
    · refine Ev.ifp hg ?_
      rw [if_pos hg] at ih
      rw [show ((wgt (l.take i) : Int) + 1) = ((wgt (l.take i) + 1 : Nat) : Int) by omega, w64n (by omega)]
      exact ih
    · refine Ev.ifn hg ?_
      rw [if_neg hg] at ih
      exact ih
theorem refweight_ev (l : List Bool) (hl : l.length ≤ 9223372036854775806) : Ev (fun k => foghornref01_Weight.f k l) (wgt l : Int) := by
  have := refweight_l0 l hl l.length 0 (by omega)
  simpa [foghornref01_Weight.f, wgt] using this
def distV (a b : List Bool) : Int × Int := ((wgt (xorV a b).1 : Int), (xorV a b).2)
theorem distV_ev (a b : List Bool) : Ev (fun k => bits_Distance.f k a b) (distV a b) := by
  unfold bits_Distance.f distV
  refine Ev.bind (xorV_ev a b) ?_
  refine Ev.bind (weight_ev _ (by have := xorV_length a b; omega)) ?_
  exact Ev.now _
theorem refdist_ev (a b : List Bool) : Ev (fun k => foghornref01_Distance.f k a b) (distV a b) := by
  unfold foghornref01_Distance.f distV
  refine Ev.bind (refxor_ev a b) ?_
  refine Ev.bind (refweight_ev _ (by have := xorV_length a b; omega)) ?_
  exact Ev.now _
/-- The next multiple. -/
def upTo (n m : Nat) : Nat := (n + m - 1) / m * m
theorem upTo_le (n m : Nat) (hm : 1 ≤ m) : n ≤ upTo n m ∧ upTo n m < n + m := by
  unfold upTo
  have h1 := Nat.div_add_mod (n + m - 1) m
  have h2 := Nat.mod_lt (n + m - 1) (show 0 < m by omega)
  rw [Nat.mul_comm] at h1
  omega
theorem upTo_mod (n m : Nat) : upTo n m % m = 0 := Nat.mul_mod_left _ _
theorem upTo_not (n m x : Nat) (hm : 1 ≤ m) (h1 : n ≤ x) (h2 : x < upTo n m) : x % m ≠ 0 := by
  have h3 := upTo_le n m hm
  intro h0
  have e : upTo n m = m * (x / m) + (upTo n m - x) := by have := Nat.div_add_mod x m; omega
  have e2 : upTo n m % m = upTo n m - x := by
    rw [e, Nat.mul_add_mod, Nat.mod_eq_of_lt (by omega)]
    omega
  rw [upTo_mod] at e2
  omega
def padV (l : List Bool) (a : Int) : List Bool × Int :=
  if l.length ≤ 32768 ∧ 1 ≤ a ∧ a ≤ 4096 then (if upTo l.length a.toNat ≤ 32768 then (l ++ List.replicate (upTo l.length a.toNat - l.length) false, 0) else ([], 1)) else ([], 1)
theorem padV_length (l : List Bool) (a : Int) : (padV l a).1.length ≤ 32768 := by
  unfold padV
  split
  · rename_i h
    split
    · rename_i h2
      have := (upTo_le l.length a.toNat (by omega)).1
      simp
      omega
    · simp
  · simp
theorem pad_ev (l : List Bool) (a : Int) : Ev (fun k => bits_Pad.f k l a) (padV l a) := by
  unfold padV bits_Pad.f
  by_cases h1 : (l.length : Int) > 32768
  · rw [if_neg (by omega)]
    refine Ev.ifp h1 ?_
    refine Ev.step (fun k => by simp only [bits_Pad.j0]; rfl) ?_
    exact Ev.ifp trivial (Ev.now _)
  refine Ev.ifn h1 ?_
  by_cases h2 : a < 1
  · rw [if_neg (by omega)]
    refine Ev.ifp h2 ?_
    refine Ev.step (fun k => by simp only [bits_Pad.j0]; rfl) ?_
    exact Ev.ifp trivial (Ev.now _)
  refine Ev.ifn h2 ?_
  by_cases h3 : a > 4096
  · rw [if_neg (by omega)]
    refine Ev.step (fun k => by simp only [bits_Pad.j0]; rfl) ?_
    exact Ev.ifp (by simpa using h3) (Ev.now _)
  rw [if_pos (by omega)]
  refine Ev.step (fun k => by simp only [bits_Pad.j0]; rfl) ?_
  refine Ev.ifn (by simpa using h3) (Ev.ifn (by omega) ?_)
  obtain ⟨m, rfl⟩ := Int.eq_ofNat_of_zero_le (show 0 ≤ a by omega)
  rw [Int.toNat_natCast]
  have hu := upTo_le l.length m (by omega)
  have e : wrap64 (wrap64 (Int.tdiv (wrap64 (wrap64 ((l.length : Int) + (m : Int)) - 1)) (m : Int)) * (m : Int)) = ((upTo l.length m : Nat) : Int) := by
    rw [show (l.length : Int) + (m : Int) = ((l.length + m : Nat) : Int) by omega, w64n (by omega), show ((l.length + m : Nat) : Int) - 1 = ((l.length + m - 1 : Nat) : Int) by omega, w64n (by omega), tdiv_nat]
    have hq : (l.length + m - 1) / m ≤ l.length + m - 1 := Nat.div_le_self _ _
    rw [w64n (by omega), ← Int.natCast_mul]
    show wrap64 ((upTo l.length m : Nat) : Int) = _
    exact w64n (by omega)
  rw [e]
  by_cases h4 : upTo l.length m ≤ 32768
  · rw [if_pos h4]
    refine Ev.ifn (by omega) (Ev.ifp (by omega) (Ev.ifp (by rw [Int.toNat_natCast]; omega) ?_))
    refine Ev.bindc rfl (Ev.val ?_)
    rw [Int.toNat_natCast, List.length_replicate, Nat.min_eq_left hu.1, List.take_length, List.drop_replicate]
  · rw [if_neg h4]
    exact Ev.ifp (by omega) (Ev.now _)
theorem refpad_l0 (l : List Bool) (m : Nat) (hm : 1 ≤ m) (hm2 : m ≤ 4096) (hl : l.length ≤ 32768) : ∀ (d j : Nat), l.length + j + d = upTo l.length m → Ev (fun k => foghornref01_Pad.l0 k (m : Int) (l ++ List.replicate j false)) (if upTo l.length m ≤ 32768 then (l ++ List.replicate (upTo l.length m - l.length) false, 0) else ([], 1))
  | 0, j, h => by
    have hu := upTo_mod l.length m
    refine Ev.step (fun k => by simp only [foghornref01_Pad.l0]; rfl) ?_
    rw [List.length_append, List.length_replicate, ← Int.natCast_emod, show l.length + j = upTo l.length m by omega, hu]
    refine Ev.ifn (by omega) (Ev.ifp rfl ?_)
    by_cases h4 : upTo l.length m ≤ 32768
    · rw [if_pos h4]
      refine Ev.ifn (by omega) (Ev.val ?_)
      rw [show j = upTo l.length m - l.length by omega]
    · rw [if_neg h4]
      exact Ev.ifp (by omega) (Ev.now _)
  | d + 1, j, h => by
    have hu := upTo_not l.length m (l.length + j) hm (by omega) (by omega)
    have hb := upTo_le l.length m hm
    have ih := refpad_l0 l m hm hm2 hl d (j + 1) (by omega)
    rw [List.replicate_succ', ← List.append_assoc] at ih
    refine Ev.step (fun k => by simp only [foghornref01_Pad.l0]; rfl) ?_
    rw [List.length_append, List.length_replicate, ← Int.natCast_emod]
    refine Ev.ifn (by omega) (Ev.ifn (by omega) (Ev.ifp (by omega) ?_))
    exact ih
theorem refpad_ev (l : List Bool) (a : Int) : Ev (fun k => foghornref01_Pad.f k l a) (padV l a) := by
  unfold padV foghornref01_Pad.f
  by_cases h1 : (l.length : Int) > 32768
  · rw [if_neg (by omega)]
    refine Ev.ifp h1 ?_
    refine Ev.step (fun k => by simp only [foghornref01_Pad.j0]; rfl) ?_
    exact Ev.ifp trivial (Ev.now _)
  refine Ev.ifn h1 ?_
  by_cases h2 : a < 1
  · rw [if_neg (by omega)]
    refine Ev.ifp h2 ?_
    refine Ev.step (fun k => by simp only [foghornref01_Pad.j0]; rfl) ?_
    exact Ev.ifp trivial (Ev.now _)
  refine Ev.ifn h2 ?_
  by_cases h3 : a > 4096
  · rw [if_neg (by omega)]
    refine Ev.step (fun k => by simp only [foghornref01_Pad.j0]; rfl) ?_
    exact Ev.ifp (by simpa using h3) (Ev.now _)
  rw [if_pos (by omega)]
  refine Ev.step (fun k => by simp only [foghornref01_Pad.j0]; rfl) ?_
  refine Ev.ifn (by simpa using h3) ?_
  obtain ⟨m, rfl⟩ := Int.eq_ofNat_of_zero_le (show 0 ≤ a by omega)
  rw [Int.toNat_natCast]
  refine Ev.ifp (by simp; omega) ?_
  have h := refpad_l0 l m (by omega) (by omega) (by omega) (upTo l.length m - l.length) 0 (by have := upTo_le l.length m (by omega); omega)
  simpa using h
end Go.Proofs.Ytabjfehhibeeiaa.Pure
