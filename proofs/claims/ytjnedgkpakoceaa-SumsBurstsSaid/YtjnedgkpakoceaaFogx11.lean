-- Written by fog.py, a program of this session, over the kit's print.
import Derived.Test.YtjnedgkpakoceaaFogx0
import Derived.Test.YtjnedgkpakoceaaFogx1
import Derived.Test.YtjnedgkpakoceaaFogx3
import Derived.Test.YtjnedgkpakoceaaFogx5
import Derived.Test.YtjnedgkpakoceaaFogx8
namespace Go.Proofs.Ytjnedgkpakoceaa.Fog
open Go.RowKit Go.Proofs.YtjnedgkpakoceaaW.PrintWords Go.Proofs.YtjnedgkpakoceaaW.PrintLast Go.Proofs.YtjnedgkpakoceaaW.PrintMore
attribute [local go_sem] max2_int min2_int max_two min_two max_three min_three max_four min_four   -- for this text's walks alone
attribute [local go_sem] fog_signed_u8 fog_max_u8 fog_signed_u16 fog_max_u16 fog_signed_u32 fog_max_u32 fog_signed_u64 fog_max_u64
set_option linter.unusedVariables false
set_option linter.unusedSimpArgs false

/-! ### foghornlaw24_torn: function 33 -/
mutual
def foghornlaw24_torn.l0 : Nat → List Bool → Int → Int → Int → List Bool → Int → Option (Bool)
  | 0, _, _, _, _, _, _ => none
  | k + 1, x0, x1, x3, x9, x10, x11 => if x11 < x1 then (if 0 ≤ x11 then (if (Go.bits .and .u32 (shr .u32 x3 x11) 1) = 1 then (if 0 ≤ (wrap64 (x9 + x11)) then (if (wrap64 (x9 + x11)) < (x10.length : Int) then (foghornlaw24_torn.l0 k x0 x1 x3 x9 (x10.set ((wrap64 (x9 + x11)) : Int).toNat (!(rdOf false x10 (wrap64 (x9 + x11))))) (wrap64 (x11 + 1))) else (none)) else (none)) else (foghornlaw24_torn.l0 k x0 x1 x3 x9 x10 (wrap64 (x11 + 1)))) else (none)) else ((sums_Fits32.f k x10).bind fun t344 => (if x1 = 16 then ((sums_Fits16.f k x10).bind fun t345 => (foghornlaw24_torn.j1 k x0 x1 x3 x9 x10 t345)) else (foghornlaw24_torn.j1 k x0 x1 x3 x9 x10 t344)))
def foghornlaw24_torn.j1 : Nat → List Bool → Int → Int → Int → List Bool → Bool → Option (Bool)
  | 0, _, _, _, _, _, _ => none
  | k + 1, x0, x1, x3, x9, x10, x12 => (sums_Burst.f k x0 x10).bind fun bt346 => (if x3 = 0 then (if x12 = true then (some (bt346.2.2 == 6)) else (some false)) else ((sums_Sum32.f k x0).bind fun bt349 => ((sums_Sum32.f k x10).bind fun bt351 => (if x12 = true then (some false) else (if bt346.2.2 = 0 then (if bt346.1 ≥ x9 then (if (wrap64 (bt346.1 + bt346.2.1)) ≤ (wrap64 (x9 + x1)) then (if 0 ≤ bt346.1 then (if bt346.1 < (x10.length : Int) then (if bt346.1 < (x0.length : Int) then (if ((rdOf false x10 bt346.1) != (rdOf false x0 bt346.1)) = true then (if 0 ≤ (wrap64 ((wrap64 (bt346.1 + bt346.2.1)) - 1)) then (if (wrap64 ((wrap64 (bt346.1 + bt346.2.1)) - 1)) < (x10.length : Int) then (if (wrap64 ((wrap64 (bt346.1 + bt346.2.1)) - 1)) < (x0.length : Int) then (if ((rdOf false x10 (wrap64 ((wrap64 (bt346.1 + bt346.2.1)) - 1))) != (rdOf false x0 (wrap64 ((wrap64 (bt346.1 + bt346.2.1)) - 1)))) = true then (if bt349.2 = 0 then (if bt351.2 = 0 then (some (bt349.1 != bt351.1)) else (some false)) else (some false)) else (some false)) else (none)) else (none)) else (none)) else (some false)) else (none)) else (none)) else (none)) else (some false)) else (some false)) else (some false))))))
end
def foghornlaw24_torn.f (k : Nat) (l0 : List Bool) (a1 : Int) (a2 : Int) (a3 : Int) : Option (Bool) := if (wrap64 ((wrap64 ((l0.length : Int) - a1)) + 1)) = 0 then (none) else ((some (([] : List Bool) : List Bool)).bind fun y336 => (if y336.length + l0.length < 140737488355328 then (foghornlaw24_torn.l0 k l0 a1 a3 (Int.tmod a2 (wrap64 ((wrap64 ((l0.length : Int) - a1)) + 1))) (y336 ++ l0) 0) else (none)))
theorem foghornlaw24_torn.mono_l : ∀ k, (∀ y0 y1 y2 y3 y4 y5, LeO (foghornlaw24_torn.l0 k y0 y1 y2 y3 y4 y5) (foghornlaw24_torn.l0 (k + 1) y0 y1 y2 y3 y4 y5)) ∧ (∀ y0 y1 y2 y3 y4 y5, LeO (foghornlaw24_torn.j1 k y0 y1 y2 y3 y4 y5) (foghornlaw24_torn.j1 (k + 1) y0 y1 y2 y3 y4 y5))
  | 0 => ⟨fun _ _ _ _ _ _ r h => by simp [foghornlaw24_torn.l0] at h, fun _ _ _ _ _ _ r h => by simp [foghornlaw24_torn.j1] at h⟩
  | k + 1 => by
    obtain ⟨ih0, ih1⟩ := foghornlaw24_torn.mono_l k
    refine ⟨?_, ?_⟩
    · intro y0 y1 y2 y3 y4 y5
      unfold foghornlaw24_torn.l0
      repeat' first
      | (with_reducible exact ih0 _ _ _ _ _ _)
      | (with_reducible exact ih1 _ _ _ _ _ _)
      | (with_reducible exact sums_Burst.mono _ _ _)
      | (with_reducible exact sums_Fits16.mono _ _)
      | (with_reducible exact sums_Fits32.mono _ _)
      | (with_reducible exact sums_Sum32.mono _ _)
      | (with_reducible exact LeO.refl _)
      | (with_reducible exact LeO.none _)
      | (with_reducible refine LeO.ite ?_ ?_)
      | (with_reducible refine LeO.bind ?_ (fun _ => ?_))
      | exact ih0 _ _ _ _ _ _
      | exact ih1 _ _ _ _ _ _
      | exact sums_Burst.mono _ _ _
      | exact sums_Fits16.mono _ _
      | exact sums_Fits32.mono _ _
      | exact sums_Sum32.mono _ _
      | exact LeO.none _
      | refine LeO.ite ?_ ?_
      | refine LeO.bind ?_ (fun _ => ?_)
    · intro y0 y1 y2 y3 y4 y5
      unfold foghornlaw24_torn.j1
      repeat' first
      | (with_reducible exact ih0 _ _ _ _ _ _)
      | (with_reducible exact ih1 _ _ _ _ _ _)
      | (with_reducible exact sums_Burst.mono _ _ _)
      | (with_reducible exact sums_Fits16.mono _ _)
      | (with_reducible exact sums_Fits32.mono _ _)
      | (with_reducible exact sums_Sum32.mono _ _)
      | (with_reducible exact LeO.refl _)
      | (with_reducible exact LeO.none _)
      | (with_reducible refine LeO.ite ?_ ?_)
      | (with_reducible refine LeO.bind ?_ (fun _ => ?_))
      | exact ih0 _ _ _ _ _ _
      | exact ih1 _ _ _ _ _ _
      | exact sums_Burst.mono _ _ _
      | exact sums_Fits16.mono _ _
      | exact sums_Fits32.mono _ _
      | exact sums_Sum32.mono _ _
      | exact LeO.none _
      | refine LeO.ite ?_ ?_
      | refine LeO.bind ?_ (fun _ => ?_)
theorem foghornlaw24_torn.mono : ∀ a0 a1 a2 a3 k, LeO (foghornlaw24_torn.f k a0 a1 a2 a3) (foghornlaw24_torn.f (k + 1) a0 a1 a2 a3) := by
  intro a0 a1 a2 a3 k
  obtain ⟨ih0, ih1⟩ := foghornlaw24_torn.mono_l k
  unfold foghornlaw24_torn.f
  repeat' first
      | (with_reducible exact ih0 _ _ _ _ _ _)
      | (with_reducible exact ih1 _ _ _ _ _ _)
      | (with_reducible exact sums_Burst.mono _ _ _)
      | (with_reducible exact sums_Fits16.mono _ _)
      | (with_reducible exact sums_Fits32.mono _ _)
      | (with_reducible exact sums_Sum32.mono _ _)
      | (with_reducible exact LeO.refl _)
      | (with_reducible exact LeO.none _)
      | (with_reducible refine LeO.ite ?_ ?_)
      | (with_reducible refine LeO.bind ?_ (fun _ => ?_))
      | exact ih0 _ _ _ _ _ _
      | exact ih1 _ _ _ _ _ _
      | exact sums_Burst.mono _ _ _
      | exact sums_Fits16.mono _ _
      | exact sums_Fits32.mono _ _
      | exact sums_Sum32.mono _ _
      | exact LeO.none _
      | refine LeO.ite ?_ ?_
      | refine LeO.bind ?_ (fun _ => ?_)
set_option maxHeartbeats 8000000 in
set_option maxRecDepth 100000 in
theorem foghornlaw24_torn.calls (k : Nat) (A0 : Option Addr) (c0 : Nat) (l0 : List Bool) (a1 : Int) (a2 : Int) (a3 : Int) (r : Bool) (w : World) (hr0 : Kd.C Kd.bool w A0 l0.length l0) (hc0 : l0.length ≤ c0) (h : foghornlaw24_torn.f k l0 a1 a2 a3 = some r) (ho_ : r = true := by rfl) :
    Calls Try.prog 33 #[.slice A0 l0.length c0, .int .i64 a1, .int .i64 a2, .int .u32 a3] w fun e w' => e = .returned (.bool r) ∧ Below w.heap.size w w' := by
  subst ho_
  have HR0 := Aside0.mk hr0
  have HC0 := Aside0.mk hc0
  clear hr0 hc0
  have HB := Aside0.mk (Below.refl w.heap.size w)
  have H : (if (wrap64 ((wrap64 ((l0.length : Int) - a1)) + 1)) = 0 then (none) else ((some (([] : List Bool) : List Bool)).bind fun y336 => (if y336.length + l0.length < 140737488355328 then (foghornlaw24_torn.l0 k l0 a1 a3 (Int.tmod a2 (wrap64 ((wrap64 ((l0.length : Int) - a1)) + 1))) (y336 ++ l0) 0) else (none)))) = some true := h
  clear h
  by_cases c5 : (wrap64 ((wrap64 ((l0.length : Int) - a1)) + 1)) = 0
  · rw [if_pos c5] at H
    exact absurd H (by simp)
  · rw [if_neg c5] at H
    have c5b0 : ((wrap64 ((wrap64 ((l0.length : Int) - a1)) + 1)) == 0) = false := beq_eq_false_iff_ne.mpr c5
    have c5b1 : ((wrap64 ((wrap64 ((l0.length : Int) - a1)) + 1)) != 0) = true := bne_iff_ne.mpr c5
    obtain ⟨y336, hy336⟩ : ∃ y_ : List Bool, y_ = (([] : List Bool)) := ⟨_, rfl⟩
    replace H : (if y336.length + l0.length < 140737488355328 then (foghornlaw24_torn.l0 k l0 a1 a3 (Int.tmod a2 (wrap64 ((wrap64 ((l0.length : Int) - a1)) + 1))) (y336 ++ l0) 0) else (none)) = some true := by first | (rw [hy336]; with_reducible exact H) | (have H2_ := (Option.bind_some _ _).symm.trans H; rw [hy336]; with_reducible exact H2_) | (have H2_ := (Option.bind_some _ _).symm.trans H; with_reducible exact H2_) | with_reducible exact H | (rw [hy336]; exact H) | exact H
    have Ny336 := Aside0.mk hy336
    clear hy336
    by_cases c6 : y336.length + l0.length < 140737488355328
    · rw [if_pos c6] at H
      have LMc6 := Aside0.mk c6
      clear c6
      obtain ⟨y339, hy339⟩ : ∃ y_ : List Bool, y_ = (y336 ++ l0) := ⟨_, rfl⟩
      replace H : (foghornlaw24_torn.l0 k l0 a1 a3 (Int.tmod a2 (wrap64 ((wrap64 ((l0.length : Int) - a1)) + 1))) y339 0) = some true := by first | (rw [hy339]; with_reducible exact H) | (have H2_ := (Option.bind_some _ _).symm.trans H; rw [hy339]; with_reducible exact H2_) | (have H2_ := (Option.bind_some _ _).symm.trans H; with_reducible exact H2_) | with_reducible exact H | (rw [hy339]; exact H) | exact H
      have Ny339 := Aside0.mk hy339
      clear hy339
      have H' := Aside0.mk H
      clear H
      go_enter Try.func33, Try.ntmps33
      go_wp2_with (first | ((with_reducible refine gate_dst (N := 27) rfl ?_); refine Kd.R_lit Kd.bool _ 4 ?hg (N := 27) ?hd (xs := ([] : List Bool)) (inner := []) (ok := fun _ => True) (okp := fun _ => True) ?hr ?hp (fun _ hk => hk) trivial (Below.refl _ _) (Nat.le_refl _) (by simp) ?_; (case hd => rfl); (case hg => rfl); (case hr => first | (go_simp; done) | (go_simp; rfl)); (case hp => exact (Reps.none _ _)); intro v337 w7 ho8 hb hg_ hnew_; clear hg_ hnew_; (first | rw [← Ny336.out] at ho8 | (simp only [Int.reduceToNat] at ho8; rw [← Ny336.out] at ho8)); have n0_ := Aside0.mk (Kd.R_lower ho8 (below_size (by repeat (first | (with_reducible first | exact HB.out | apply below_alloc | apply pw_below_drewN | apply below_drew1) | exact HB.out)))); have n1_ := Aside0.mk (below_step (by repeat (first | (with_reducible first | exact HB.out | apply below_alloc | apply pw_below_drewN | apply below_drew1) | exact HB.out)) hb); clear HB; have HO338 := n0_; have HB := n1_; clear n0_ n1_; clear hb ho8) | ((with_reducible refine gate_builtin (b := .append) (xs := #[.tmp 27, .tmp 28]) rfl ?_); at_builtin; refine Kd.R_append_rows Kd.bool (w0 := w) w.heap.size rfl (.tmp 27) (.tmp 28) 22 4 (.bool false) 1 rfl Try.underlying22 info4 rfl (by decide) (by omega) v337 y336 l0 _ _ _ (fun _ => True) (fun _ => False) rfl rfl ?aO ?aR (fun _ _ h => h) (fun _ h => h.elim) ?aF ?aB ?aS ?aL ?_; (case aR => repeat (first | exact (Kd.C_below HR0.out HB.out) | (with_reducible refine Kd.C_alloc ?_ _) | (with_reducible refine Kd.C_drewN ?_ _) | (with_reducible refine Kd.C_drew ?_))); (case aB => exact (by repeat (first | (with_reducible first | exact HB.out | apply below_alloc | apply pw_below_drewN | apply below_drew1) | exact HB.out))); (case aF => exact (fun _ _ => trivial)); (case aO => exact (by (with_reducible repeat (first | apply Kd.R_alloc | apply Kd.R_drewN | apply Kd.R_drew)); exact HO338.out)); (case aS => exact (below_size (by repeat (first | (with_reducible first | exact HB.out | apply below_alloc | apply pw_below_drewN | apply below_drew1) | exact HB.out)))); (case aL => have := LMc6.out; omega); intro v340 w9 ho hb hg hat; rw [← Ny339.out] at ho; have n0_ := Aside0.mk (hb); have n1_ := Aside0.mk (ho); clear HB; clear HO338; have HB := n0_; have HO341 := n1_; clear n0_ n1_; clear ho hb hg hat))
      repeat (go_quiet (first | ((with_reducible refine gate_dst (N := 27) rfl ?_); refine Kd.R_lit Kd.bool _ 4 ?hg (N := 27) ?hd (xs := ([] : List Bool)) (inner := []) (ok := fun _ => True) (okp := fun _ => True) ?hr ?hp (fun _ hk => hk) trivial (Below.refl _ _) (Nat.le_refl _) (by simp) ?_; (case hd => rfl); (case hg => rfl); (case hr => first | (go_simp; done) | (go_simp; rfl)); (case hp => exact (Reps.none _ _)); intro v337 w7 ho8 hb hg_ hnew_; clear hg_ hnew_; (first | rw [← Ny336.out] at ho8 | (simp only [Int.reduceToNat] at ho8; rw [← Ny336.out] at ho8)); have n0_ := Aside0.mk (Kd.R_lower ho8 (below_size (by repeat (first | (with_reducible first | exact HB.out | apply below_alloc | apply pw_below_drewN | apply below_drew1) | exact HB.out)))); have n1_ := Aside0.mk (below_step (by repeat (first | (with_reducible first | exact HB.out | apply below_alloc | apply pw_below_drewN | apply below_drew1) | exact HB.out)) hb); clear HB; have HO338 := n0_; have HB := n1_; clear n0_ n1_; clear hb ho8) | ((with_reducible refine gate_builtin (b := .append) (xs := #[.tmp 27, .tmp 28]) rfl ?_); at_builtin; refine Kd.R_append_rows Kd.bool (w0 := w) w.heap.size rfl (.tmp 27) (.tmp 28) 22 4 (.bool false) 1 rfl Try.underlying22 info4 rfl (by decide) (by omega) v337 y336 l0 _ _ _ (fun _ => True) (fun _ => False) rfl rfl ?aO ?aR (fun _ _ h => h) (fun _ h => h.elim) ?aF ?aB ?aS ?aL ?_; (case aR => repeat (first | exact (Kd.C_below HR0.out HB.out) | (with_reducible refine Kd.C_alloc ?_ _) | (with_reducible refine Kd.C_drewN ?_ _) | (with_reducible refine Kd.C_drew ?_))); (case aB => exact (by repeat (first | (with_reducible first | exact HB.out | apply below_alloc | apply pw_below_drewN | apply below_drew1) | exact HB.out))); (case aF => exact (fun _ _ => trivial)); (case aO => exact (by (with_reducible repeat (first | apply Kd.R_alloc | apply Kd.R_drewN | apply Kd.R_drew)); exact HO338.out)); (case aS => exact (below_size (by repeat (first | (with_reducible first | exact HB.out | apply below_alloc | apply pw_below_drewN | apply below_drew1) | exact HB.out)))); (case aL => have := LMc6.out; omega); intro v340 w9 ho hb hg hat; rw [← Ny339.out] at ho; have n0_ := Aside0.mk (hb); have n1_ := Aside0.mk (ho); clear HB; clear HO338; have HB := n0_; have HO341 := n1_; clear n0_ n1_; clear ho hb hg hat)); try go_wp2_with (first | ((with_reducible refine gate_dst (N := 27) rfl ?_); refine Kd.R_lit Kd.bool _ 4 ?hg (N := 27) ?hd (xs := ([] : List Bool)) (inner := []) (ok := fun _ => True) (okp := fun _ => True) ?hr ?hp (fun _ hk => hk) trivial (Below.refl _ _) (Nat.le_refl _) (by simp) ?_; (case hd => rfl); (case hg => rfl); (case hr => first | (go_simp; done) | (go_simp; rfl)); (case hp => exact (Reps.none _ _)); intro v337 w7 ho8 hb hg_ hnew_; clear hg_ hnew_; (first | rw [← Ny336.out] at ho8 | (simp only [Int.reduceToNat] at ho8; rw [← Ny336.out] at ho8)); have n0_ := Aside0.mk (Kd.R_lower ho8 (below_size (by repeat (first | (with_reducible first | exact HB.out | apply below_alloc | apply pw_below_drewN | apply below_drew1) | exact HB.out)))); have n1_ := Aside0.mk (below_step (by repeat (first | (with_reducible first | exact HB.out | apply below_alloc | apply pw_below_drewN | apply below_drew1) | exact HB.out)) hb); clear HB; have HO338 := n0_; have HB := n1_; clear n0_ n1_; clear hb ho8) | ((with_reducible refine gate_builtin (b := .append) (xs := #[.tmp 27, .tmp 28]) rfl ?_); at_builtin; refine Kd.R_append_rows Kd.bool (w0 := w) w.heap.size rfl (.tmp 27) (.tmp 28) 22 4 (.bool false) 1 rfl Try.underlying22 info4 rfl (by decide) (by omega) v337 y336 l0 _ _ _ (fun _ => True) (fun _ => False) rfl rfl ?aO ?aR (fun _ _ h => h) (fun _ h => h.elim) ?aF ?aB ?aS ?aL ?_; (case aR => repeat (first | exact (Kd.C_below HR0.out HB.out) | (with_reducible refine Kd.C_alloc ?_ _) | (with_reducible refine Kd.C_drewN ?_ _) | (with_reducible refine Kd.C_drew ?_))); (case aB => exact (by repeat (first | (with_reducible first | exact HB.out | apply below_alloc | apply pw_below_drewN | apply below_drew1) | exact HB.out))); (case aF => exact (fun _ _ => trivial)); (case aO => exact (by (with_reducible repeat (first | apply Kd.R_alloc | apply Kd.R_drewN | apply Kd.R_drew)); exact HO338.out)); (case aS => exact (below_size (by repeat (first | (with_reducible first | exact HB.out | apply below_alloc | apply pw_below_drewN | apply below_drew1) | exact HB.out)))); (case aL => have := LMc6.out; omega); intro v340 w9 ho hb hg hat; rw [← Ny339.out] at ho; have n0_ := Aside0.mk (hb); have n1_ := Aside0.mk (ho); clear HB; clear HO338; have HB := n0_; have HO341 := n1_; clear n0_ n1_; clear ho hb hg hat)))
      go_loopg [11] k (fun kq v11 w' => ∃ (x10_1 : List Bool) (x11_1 : Int), v11 = .int .i64 x11_1 ∧ Aside0 (foghornlaw24_torn.l0 kq l0 a1 a3 (Int.tmod a2 (wrap64 ((wrap64 ((l0.length : Int) - a1)) + 1))) x10_1 x11_1 = some true) ∧ Aside0 (kq ≤ k) ∧ Aside0 (Kd.R Kd.bool 4 w' w.heap.size (fun _ => True) v340 x10_1) ∧ Aside0 (Below w.heap.size w w'))
      case atStart => exact ⟨(y339), (0), (by first | rfl | (simp; done) | (simp [*]; done) | (simp; omega) | (congr 1; omega) | (rw [hR_]; done) | (simp only [hR_]; done) | (simp [hR_]; done)), H', ⟨Nat.le_refl _⟩, ⟨by (with_reducible repeat (first | apply Kd.R_alloc | apply Kd.R_drewN | apply Kd.R_drew)); exact HO341.out⟩, ⟨by repeat (first | (with_reducible first | exact HB.out | apply below_alloc | apply pw_below_drewN | apply below_drew1) | exact HB.out)⟩⟩
      case round =>
        clear H'
        try clear p2
        try clear c3
        try clear c5
        try clear c5b0
        try clear c5b1
        try clear c6
        try clear p6
        obtain ⟨x10_1, x11_1, rfl, HA, HK1, HO_10, HB⟩ := hrel
        cases gk with
        | zero => exact absurd HA.out (by simp [foghornlaw24_torn.l0])
        | succ k1 =>
          have H := HA.out
          clear HA
          simp only [foghornlaw24_torn.l0] at H
          by_cases c10 : x11_1 < a1
          · rw [if_pos c10] at H
            have c10b0 : decide (x11_1 < a1) = true := decide_eq_true c10
            clear c10
            by_cases c11 : 0 ≤ x11_1
            · rw [if_pos c11] at H
              have c11b0 := eq_true c11
              have c11b1 : decide (0 ≤ x11_1) = true := decide_eq_true c11
              clear c11
              obtain ⟨ji12, hji12⟩ : ∃ j_ : Int, (shr .u32 a3 x11_1) = j_ := ⟨_, rfl⟩
              replace H : (if (Go.bits .and .u32 (ji12) 1) = 1 then (if 0 ≤ (wrap64 ((Int.tmod a2 (wrap64 ((wrap64 ((l0.length : Int) - a1)) + 1))) + x11_1)) then (if (wrap64 ((Int.tmod a2 (wrap64 ((wrap64 ((l0.length : Int) - a1)) + 1))) + x11_1)) < (x10_1.length : Int) then (foghornlaw24_torn.l0 k1 l0 a1 a3 (Int.tmod a2 (wrap64 ((wrap64 ((l0.length : Int) - a1)) + 1))) (x10_1.set ((wrap64 ((Int.tmod a2 (wrap64 ((wrap64 ((l0.length : Int) - a1)) + 1))) + x11_1)) : Int).toNat (!(rdOf false x10_1 (wrap64 ((Int.tmod a2 (wrap64 ((wrap64 ((l0.length : Int) - a1)) + 1))) + x11_1))))) (wrap64 (x11_1 + 1))) else (none)) else (none)) else (foghornlaw24_torn.l0 k1 l0 a1 a3 (Int.tmod a2 (wrap64 ((wrap64 ((l0.length : Int) - a1)) + 1))) x10_1 (wrap64 (x11_1 + 1)))) = some true := by first | (rw [hji12] at H; exact H) | (simp only [hji12] at H ⊢; exact H)
              have hji12_ : (a3 / 2 ^ min x11_1.toNat 32) = ji12 := hji12
              have hji12z : x11_1 ≤ 32 → (a3 / 2 ^ x11_1.toNat) = ji12 := shr_small hji12
              by_cases c13 : (Go.bits .and .u32 (ji12) 1) = 1
              · rw [if_pos c13] at H
                have c13b0 : ((Go.bits .and .u32 (ji12) 1) == 1) = true := beq_iff_eq.mpr c13
                have c13b1 : ((Go.bits .and .u32 (ji12) 1) != 1) = false := bne_eq_false_iff_eq.mpr c13
                clear c13
                obtain ⟨ji14, hji14⟩ : ∃ j_ : Int, (wrap64 ((Int.tmod a2 (wrap64 ((wrap64 ((l0.length : Int) - a1)) + 1))) + x11_1)) = j_ := ⟨_, rfl⟩
                replace H : (if 0 ≤ (ji14) then (if (ji14) < (x10_1.length : Int) then (foghornlaw24_torn.l0 k1 l0 a1 a3 (Int.tmod a2 (wrap64 ((wrap64 ((l0.length : Int) - a1)) + 1))) (x10_1.set ((ji14) : Int).toNat (!(rdOf false x10_1 (ji14)))) (wrap64 (x11_1 + 1))) else (none)) else (none)) = some true := by first | (rw [hji14] at H; exact H) | (simp only [hji14] at H ⊢; exact H)
                have hji14w : (IntKind.i64.wrap ((Int.tmod a2 (wrap64 ((wrap64 ((l0.length : Int) - a1)) + 1))) + x11_1)) = ji14 := (i64_w _).trans hji14
                by_cases c15 : 0 ≤ (ji14)
                · rw [if_pos c15] at H
                  have c15b0 : decide (0 ≤ (ji14)) = true := decide_eq_true c15
                  clear c15
                  by_cases c16 : (ji14) < (x10_1.length : Int)
                  · rw [if_pos c16] at H
                    have c16b0 : decide ((ji14) < (x10_1.length : Int)) = true := decide_eq_true c16
                    clear c16
                    obtain ⟨y343, hy343⟩ : ∃ y_ : List Bool, y_ = (x10_1.set ((ji14) : Int).toNat (!(rdOf false x10_1 (ji14)))) := ⟨_, rfl⟩
                    replace H : (foghornlaw24_torn.l0 k1 l0 a1 a3 (Int.tmod a2 (wrap64 ((wrap64 ((l0.length : Int) - a1)) + 1))) y343 (wrap64 (x11_1 + 1))) = some true := by first | (rw [hy343]; with_reducible exact H) | (have H2_ := (Option.bind_some _ _).symm.trans H; rw [hy343]; with_reducible exact H2_) | (have H2_ := (Option.bind_some _ _).symm.trans H; with_reducible exact H2_) | with_reducible exact H | (rw [hy343]; exact H) | exact H
                    have Ny343 := Aside0.mk hy343
                    clear hy343
                    have H' := Aside0.mk H
                    clear H
                    obtain ⟨Ao18, co18, eo18⟩ := Kd.R_slice HO_10.out
                    subst eo18
                    have p342 : 0 ≤ ((ji14) : Int) := of_decide_eq_true (by first | (with_reducible assumption) | assumption)
                    have q342 : (ji14) < (x10_1.length : Int) := of_decide_eq_true (by first | (with_reducible assumption) | assumption)
                    obtain ⟨ad342, e342, hx342_0⟩ := Kd.at_bool (Kd.R_reads' HO_10.out).2.2 (ji14) p342 q342
                    cases e342
                    replace p342 := eq_true p342
                    replace q342 := eq_true q342
                    have p17 : 0 ≤ ((ji14) : Int) := of_decide_eq_true (by first | (with_reducible assumption) | assumption)
                    have q17 : ((ji14) : Int) < ((x10_1.length : Int) : Int) := of_decide_eq_true (by first | (with_reducible assumption) | assumption)
                    obtain ⟨go17, co17, eo17, gb17, gl17, cl17, HG17⟩ := Kd.R_form HO_10.out (by omega)
                    (first | cases eo17 | (injection eo17 with ea_ en_ ec_; (first | subst ea_ | (injection ea_ with ea_; subst ea_)); subst ec_; clear en_))
                    have GB17 := Aside0.mk gb17
                    have GG17 := Aside0.mk HG17
                    clear gb17 gl17 HG17
                    (first | simp only [add_plain] at hx342_0 | skip)
                    obtain ⟨hx17_0, hf17_0⟩ := Kd.R_celln false HO_10.out ((ji14) : Int) p17 q17
                    replace p17 := eq_true p17
                    replace q17 := eq_true q17
                    have HP19 := Kd.R_putg HO_10.out ((ji14) : Int) (!(rdOf false x10_1 (ji14)))
                    go_wp2_with (first | ((with_reducible refine gate_store (t := 4) (p := 51) rfl ?_); (try (rw [drewN_self wr]; generalize hq_ : World.drewN wr _ = wr; have n0_ := Aside0.mk (Kd.R_at hq_ HO_10.out); have n1_ := Aside0.mk (below_at hq_ HB.out); clear hq_ HO_10 HB; have HO_10 := n0_; have HB := n1_; clear n0_ n1_; (try (have HP19 := Kd.R_putg HO_10.out ((ji14) : Int) (!(rdOf false x10_1 (ji14))))))); refine store_event (t := 4) (p := 51) (v := ?vo_w20) (w1 := (wr.setCell ⟨go17, ((ji14) : Int).toNat, none⟩ (.bool (!(rdOf false x10_1 (ji14)))))) ?hg ?ho ?hn ?hr ?_; (case ho => rfl); (case hg => rfl); (case hn => rfl); (case hr => first | (go_simp; done) | (go_simp; rfl)); intro w20 hw; have hg : wr.grownBy w20 (some go17) := (by rw [hw]; exact HP19.2); have hp_ : Kd.R Kd.bool 4 w20 w.heap.size (fun _ => True) (.slice (some ⟨go17, 0, none⟩) x10_1.length co18) y343 := (by rw [hw, Ny343.out]; exact HP19.1); clear HP19; have n0_ := Aside0.mk (hp_); have n1_ := Aside0.mk ((by rw [hw]; exact below_set (HB.out) GB17.out : Below w.heap.size w w20)); clear HO_10; clear HB; have HO_10 := n0_; have HB := n1_; clear n0_ n1_; clear hg hw hp_))
                    repeat (go_quiet (first | ((with_reducible refine gate_store (t := 4) (p := 51) rfl ?_); (try (rw [drewN_self wr]; generalize hq_ : World.drewN wr _ = wr; have n0_ := Aside0.mk (Kd.R_at hq_ HO_10.out); have n1_ := Aside0.mk (below_at hq_ HB.out); clear hq_ HO_10 HB; have HO_10 := n0_; have HB := n1_; clear n0_ n1_; (try (have HP19 := Kd.R_putg HO_10.out ((ji14) : Int) (!(rdOf false x10_1 (ji14))))))); refine store_event (t := 4) (p := 51) (v := ?vo_w20) (w1 := (wr.setCell ⟨go17, ((ji14) : Int).toNat, none⟩ (.bool (!(rdOf false x10_1 (ji14)))))) ?hg ?ho ?hn ?hr ?_; (case ho => rfl); (case hg => rfl); (case hn => rfl); (case hr => first | (go_simp; done) | (go_simp; rfl)); intro w20 hw; have hg : wr.grownBy w20 (some go17) := (by rw [hw]; exact HP19.2); have hp_ : Kd.R Kd.bool 4 w20 w.heap.size (fun _ => True) (.slice (some ⟨go17, 0, none⟩) x10_1.length co18) y343 := (by rw [hw, Ny343.out]; exact HP19.1); clear HP19; have n0_ := Aside0.mk (hp_); have n1_ := Aside0.mk ((by rw [hw]; exact below_set (HB.out) GB17.out : Below w.heap.size w w20)); clear HO_10; clear HB; have HO_10 := n0_; have HB := n1_; clear n0_ n1_; clear hg hw hp_)); try go_wp2_with (first | ((with_reducible refine gate_store (t := 4) (p := 51) rfl ?_); (try (rw [drewN_self wr]; generalize hq_ : World.drewN wr _ = wr; have n0_ := Aside0.mk (Kd.R_at hq_ HO_10.out); have n1_ := Aside0.mk (below_at hq_ HB.out); clear hq_ HO_10 HB; have HO_10 := n0_; have HB := n1_; clear n0_ n1_; (try (have HP19 := Kd.R_putg HO_10.out ((ji14) : Int) (!(rdOf false x10_1 (ji14))))))); refine store_event (t := 4) (p := 51) (v := ?vo_w20) (w1 := (wr.setCell ⟨go17, ((ji14) : Int).toNat, none⟩ (.bool (!(rdOf false x10_1 (ji14)))))) ?hg ?ho ?hn ?hr ?_; (case ho => rfl); (case hg => rfl); (case hn => rfl); (case hr => first | (go_simp; done) | (go_simp; rfl)); intro w20 hw; have hg : wr.grownBy w20 (some go17) := (by rw [hw]; exact HP19.2); have hp_ : Kd.R Kd.bool 4 w20 w.heap.size (fun _ => True) (.slice (some ⟨go17, 0, none⟩) x10_1.length co18) y343 := (by rw [hw, Ny343.out]; exact HP19.1); clear HP19; have n0_ := Aside0.mk (hp_); have n1_ := Aside0.mk ((by rw [hw]; exact below_set (HB.out) GB17.out : Below w.heap.size w w20)); clear HO_10; clear HB; have HO_10 := n0_; have HB := n1_; clear n0_ n1_; clear hg hw hp_)))
                    (first | go_roundg k1 | (simp only [add_plain] at *; go_roundg k1))
                    case measure => have := HK1.out; omega
                    case rel => exact ⟨(y343), (wrap64 (x11_1 + 1)), (by first | rfl | (simp; done) | (simp [*]; done) | (simp; omega) | (congr 1; omega) | (rw [hR_]; done) | (simp only [hR_]; done) | (simp [hR_]; done)), H', ⟨by have := HK1.out; omega⟩, ⟨by (with_reducible repeat (first | apply Kd.R_alloc | apply Kd.R_drewN | apply Kd.R_drew)); exact HO_10.out⟩, ⟨by repeat (first | (with_reducible first | exact HB.out | apply below_alloc | apply pw_below_drewN | apply below_drew1) | exact HB.out)⟩⟩
                  · rw [if_neg c16] at H
                    exact absurd H (by simp)
                · rw [if_neg c15] at H
                  exact absurd H (by simp)
              · rw [if_neg c13] at H
                have c13b0 : ((Go.bits .and .u32 (ji12) 1) == 1) = false := beq_eq_false_iff_ne.mpr c13
                have c13b1 : ((Go.bits .and .u32 (ji12) 1) != 1) = true := bne_iff_ne.mpr c13
                have H' := Aside0.mk H
                clear H
                go_wp2
                repeat (go_quiet (fail); try go_wp2)
                (first | go_roundg k1 | (simp only [add_plain] at *; go_roundg k1))
                case measure => have := HK1.out; omega
                case rel => exact ⟨(x10_1), (wrap64 (x11_1 + 1)), (by first | rfl | (simp; done) | (simp [*]; done) | (simp; omega) | (congr 1; omega) | (rw [hR_]; done) | (simp only [hR_]; done) | (simp [hR_]; done)), H', ⟨by have := HK1.out; omega⟩, ⟨by (with_reducible repeat (first | apply Kd.R_alloc | apply Kd.R_drewN | apply Kd.R_drew)); exact HO_10.out⟩, ⟨by repeat (first | (with_reducible first | exact HB.out | apply below_alloc | apply pw_below_drewN | apply below_drew1) | exact HB.out)⟩⟩
            · rw [if_neg c11] at H
              exact absurd H (by simp)
          · rw [if_neg c10] at H
            have c10b0 : decide (x11_1 < a1) = false := decide_eq_false c10
            clear c10
            replace H := Option.bind_eq_some_iff.mp H
            obtain ⟨t344, A210, H⟩ := H
            replace H : (if a1 = 16 then ((sums_Fits16.f k1 x10_1).bind fun t345 => (foghornlaw24_torn.j1 k1 l0 a1 a3 (Int.tmod a2 (wrap64 ((wrap64 ((l0.length : Int) - a1)) + 1))) x10_1 t345)) else (foghornlaw24_torn.j1 k1 l0 a1 a3 (Int.tmod a2 (wrap64 ((wrap64 ((l0.length : Int) - a1)) + 1))) x10_1 t344)) = some true := H
            have A21 := Aside0.mk A210
            clear A210
            have HC22 := Aside0.mk H
            clear H
            obtain ⟨Ao23, co23, eo23⟩ := Kd.R_slice HO_10.out
            subst eo23
            go_upto_if 55 with (first | (go_at_call 32; (with_reducible refine (sums_Fits32.calls k1 _ _ x10_1 t344 _ ?side1 ?side2 A21.out).mono ?_); (case side1 => repeat (first | exact (Kd.R_reads' HO_10.out).2.2 | (with_reducible refine Kd.C_alloc ?_ _) | (with_reducible refine Kd.C_drewN ?_ _) | (with_reducible refine Kd.C_drew ?_))); (case side2 => exact (Kd.R_reads' HO_10.out).2.1); rintro e w24 ⟨rfl, hb⟩; have n0_ := Aside0.mk (Kd.R_below (by (with_reducible repeat (first | apply Kd.R_alloc | apply Kd.R_drewN | apply Kd.R_drew)); exact HO_10.out) hb); have n1_ := Aside0.mk (below_step (by repeat (first | (with_reducible first | exact HB.out | apply below_alloc | apply pw_below_drewN | apply below_drew1) | exact HB.out)) hb); clear HO_10; clear HB; have HO_10 := n0_; have HB := n1_; clear n0_ n1_; (try clear hb); (try clear hb2); (try clear hk); (try clear hi)))
            repeat (go_quiet (first | (go_at_call 32; (with_reducible refine (sums_Fits32.calls k1 _ _ x10_1 t344 _ ?side1 ?side2 A21.out).mono ?_); (case side1 => repeat (first | exact (Kd.R_reads' HO_10.out).2.2 | (with_reducible refine Kd.C_alloc ?_ _) | (with_reducible refine Kd.C_drewN ?_ _) | (with_reducible refine Kd.C_drew ?_))); (case side2 => exact (Kd.R_reads' HO_10.out).2.1); rintro e w24 ⟨rfl, hb⟩; have n0_ := Aside0.mk (Kd.R_below (by (with_reducible repeat (first | apply Kd.R_alloc | apply Kd.R_drewN | apply Kd.R_drew)); exact HO_10.out) hb); have n1_ := Aside0.mk (below_step (by repeat (first | (with_reducible first | exact HB.out | apply below_alloc | apply pw_below_drewN | apply below_drew1) | exact HB.out)) hb); clear HO_10; clear HB; have HO_10 := n0_; have HB := n1_; clear n0_ n1_; (try clear hb); (try clear hb2); (try clear hk); (try clear hi))); go_upto_if 55 with (first | (go_at_call 32; (with_reducible refine (sums_Fits32.calls k1 _ _ x10_1 t344 _ ?side1 ?side2 A21.out).mono ?_); (case side1 => repeat (first | exact (Kd.R_reads' HO_10.out).2.2 | (with_reducible refine Kd.C_alloc ?_ _) | (with_reducible refine Kd.C_drewN ?_ _) | (with_reducible refine Kd.C_drew ?_))); (case side2 => exact (Kd.R_reads' HO_10.out).2.1); rintro e w24 ⟨rfl, hb⟩; have n0_ := Aside0.mk (Kd.R_below (by (with_reducible repeat (first | apply Kd.R_alloc | apply Kd.R_drewN | apply Kd.R_drew)); exact HO_10.out) hb); have n1_ := Aside0.mk (below_step (by repeat (first | (with_reducible first | exact HB.out | apply below_alloc | apply pw_below_drewN | apply below_drew1) | exact HB.out)) hb); clear HO_10; clear HB; have HO_10 := n0_; have HB := n1_; clear n0_ n1_; (try clear hb); (try clear hb2); (try clear hk); (try clear hi))))
            (try simp only [Act.put, List.setIfInBounds_toArray, List.set_cons_zero, List.set_cons_succ])
            go_cut [12] (fun v12 wc => ∃ (kq : Nat) (x12_21 : Bool), v12 = .bool x12_21 ∧ Aside0 (foghornlaw24_torn.j1 kq l0 a1 a3 (Int.tmod a2 (wrap64 ((wrap64 ((l0.length : Int) - a1)) + 1))) x10_1 x12_21 = some true) ∧ Aside0 (kq ≤ k1) ∧ Aside0 (Kd.R Kd.bool 4 wc w.heap.size (fun _ => True) (.slice Ao23 x10_1.length co23) x10_1) ∧ Aside0 (Below w.heap.size w wc))
            case first =>
              have H := HC22.out
              clear HC22
              by_cases c25 : a1 = 16
              · rw [if_pos c25] at H
                have c25b0 : (a1 == 16) = true := beq_iff_eq.mpr c25
                have c25b1 : (a1 != 16) = false := bne_eq_false_iff_eq.mpr c25
                clear c25
                (first | rw [c25b0] | (simp only [i64_w, i32_w]; rw [c25b0]) | skip)
                replace H := Option.bind_eq_some_iff.mp H
                obtain ⟨t345, A260, H⟩ := H
                replace H : (foghornlaw24_torn.j1 k1 l0 a1 a3 (Int.tmod a2 (wrap64 ((wrap64 ((l0.length : Int) - a1)) + 1))) x10_1 t345) = some true := H
                have A26 := Aside0.mk A260
                clear A260
                have H' := Aside0.mk H
                clear H
                go_wp2_with (first | (go_at_call 31; (with_reducible refine (sums_Fits16.calls k1 _ _ x10_1 t345 _ ?side1 ?side2 A26.out).mono ?_); (case side1 => repeat (first | exact (Kd.R_reads' HO_10.out).2.2 | (with_reducible refine Kd.C_alloc ?_ _) | (with_reducible refine Kd.C_drewN ?_ _) | (with_reducible refine Kd.C_drew ?_))); (case side2 => exact (Kd.R_reads' HO_10.out).2.1); rintro e w27 ⟨rfl, hb⟩; have n0_ := Aside0.mk (Kd.R_below (by (with_reducible repeat (first | apply Kd.R_alloc | apply Kd.R_drewN | apply Kd.R_drew)); exact HO_10.out) hb); have n1_ := Aside0.mk (below_step (by repeat (first | (with_reducible first | exact HB.out | apply below_alloc | apply pw_below_drewN | apply below_drew1) | exact HB.out)) hb); clear HO_10; clear HB; have HO_10 := n0_; have HB := n1_; clear n0_ n1_; (try clear hb); (try clear hb2); (try clear hk); (try clear hi)))
                repeat (go_quiet (first | (go_at_call 31; (with_reducible refine (sums_Fits16.calls k1 _ _ x10_1 t345 _ ?side1 ?side2 A26.out).mono ?_); (case side1 => repeat (first | exact (Kd.R_reads' HO_10.out).2.2 | (with_reducible refine Kd.C_alloc ?_ _) | (with_reducible refine Kd.C_drewN ?_ _) | (with_reducible refine Kd.C_drew ?_))); (case side2 => exact (Kd.R_reads' HO_10.out).2.1); rintro e w27 ⟨rfl, hb⟩; have n0_ := Aside0.mk (Kd.R_below (by (with_reducible repeat (first | apply Kd.R_alloc | apply Kd.R_drewN | apply Kd.R_drew)); exact HO_10.out) hb); have n1_ := Aside0.mk (below_step (by repeat (first | (with_reducible first | exact HB.out | apply below_alloc | apply pw_below_drewN | apply below_drew1) | exact HB.out)) hb); clear HO_10; clear HB; have HO_10 := n0_; have HB := n1_; clear n0_ n1_; (try clear hb); (try clear hb2); (try clear hk); (try clear hi))); try go_wp2_with (first | (go_at_call 31; (with_reducible refine (sums_Fits16.calls k1 _ _ x10_1 t345 _ ?side1 ?side2 A26.out).mono ?_); (case side1 => repeat (first | exact (Kd.R_reads' HO_10.out).2.2 | (with_reducible refine Kd.C_alloc ?_ _) | (with_reducible refine Kd.C_drewN ?_ _) | (with_reducible refine Kd.C_drew ?_))); (case side2 => exact (Kd.R_reads' HO_10.out).2.1); rintro e w27 ⟨rfl, hb⟩; have n0_ := Aside0.mk (Kd.R_below (by (with_reducible repeat (first | apply Kd.R_alloc | apply Kd.R_drewN | apply Kd.R_drew)); exact HO_10.out) hb); have n1_ := Aside0.mk (below_step (by repeat (first | (with_reducible first | exact HB.out | apply below_alloc | apply pw_below_drewN | apply below_drew1) | exact HB.out)) hb); clear HO_10; clear HB; have HO_10 := n0_; have HB := n1_; clear n0_ n1_; (try clear hb); (try clear hb2); (try clear hk); (try clear hi))))
                go_meet
                case rel => exact ⟨_, (t345), (by first | rfl | (simp; done) | (simp [*]; done) | (simp; omega) | (congr 1; omega) | (rw [hR_]; done) | (simp only [hR_]; done) | (simp [hR_]; done)), H', ⟨by have := HK1.out; first | omega | exact Nat.le_refl _⟩, ⟨by (with_reducible repeat (first | apply Kd.R_alloc | apply Kd.R_drewN | apply Kd.R_drew)); exact HO_10.out⟩, ⟨by repeat (first | (with_reducible first | exact HB.out | apply below_alloc | apply pw_below_drewN | apply below_drew1) | exact HB.out)⟩⟩
              · rw [if_neg c25] at H
                have c25b0 : (a1 == 16) = false := beq_eq_false_iff_ne.mpr c25
                have c25b1 : (a1 != 16) = true := bne_iff_ne.mpr c25
                (first | rw [c25b0] | (simp only [i64_w, i32_w]; rw [c25b0]) | skip)
                have H' := Aside0.mk H
                clear H
                go_wp2
                repeat (go_quiet (fail); try go_wp2)
                go_meet
                case rel => exact ⟨_, (t344), (by first | rfl | (simp; done) | (simp [*]; done) | (simp; omega) | (congr 1; omega) | (rw [hR_]; done) | (simp only [hR_]; done) | (simp [hR_]; done)), H', ⟨by have := HK1.out; first | omega | exact Nat.le_refl _⟩, ⟨by (with_reducible repeat (first | apply Kd.R_alloc | apply Kd.R_drewN | apply Kd.R_drew)); exact HO_10.out⟩, ⟨by repeat (first | (with_reducible first | exact HB.out | apply below_alloc | apply pw_below_drewN | apply below_drew1) | exact HB.out)⟩⟩
            case rest =>
              clear HC22
              try clear c1
              try clear p1
              try clear q1
              try clear hx1
              try clear c2
              try clear p2
              try clear c3
              try clear p3
              try clear q3
              try clear hx3
              try clear c5
              try clear c5b0
              try clear c5b1
              try clear c6
              try clear p6
              try clear c10
              try clear c10b0
              try clear c11
              try clear c11b0
              try clear c11b1
              try clear c13
              try clear c13b0
              try clear c13b1
              try clear c15
              try clear c15b0
              try clear c16
              try clear c16b0
              try clear p17
              try clear q17
              try clear hx17
              try clear hf17
              try clear c25
              try clear c25b0
              try clear c25b1
              try clear hx17_0
              try clear hx342_0
              try clear p17
              try clear p2
              try clear p342
              try clear p6
              try clear q17
              try clear q342
              obtain ⟨kq, x12_21, rfl, HA, HJ21, HO_10, HB⟩ := hcut
              cases kq with
              | zero => exact absurd HA.out (by simp [foghornlaw24_torn.j1])
              | succ kj21 =>
                have H := HA.out
                clear HA
                simp only [foghornlaw24_torn.j1] at H
                replace H := Option.bind_eq_some_iff.mp H
                obtain ⟨⟨t346, t347, t348⟩, A280, H⟩ := H
                replace H : (if a3 = 0 then (if x12_21 = true then (some (t348 == 6)) else (some false)) else ((sums_Sum32.f kj21 l0).bind fun bt349 => ((sums_Sum32.f kj21 x10_1).bind fun bt351 => (if x12_21 = true then (some false) else (if t348 = 0 then (if t346 ≥ (Int.tmod a2 (wrap64 ((wrap64 ((l0.length : Int) - a1)) + 1))) then (if (wrap64 (t346 + t347)) ≤ (wrap64 ((Int.tmod a2 (wrap64 ((wrap64 ((l0.length : Int) - a1)) + 1))) + a1)) then (if 0 ≤ t346 then (if t346 < (x10_1.length : Int) then (if t346 < (l0.length : Int) then (if ((rdOf false x10_1 t346) != (rdOf false l0 t346)) = true then (if 0 ≤ (wrap64 ((wrap64 (t346 + t347)) - 1)) then (if (wrap64 ((wrap64 (t346 + t347)) - 1)) < (x10_1.length : Int) then (if (wrap64 ((wrap64 (t346 + t347)) - 1)) < (l0.length : Int) then (if ((rdOf false x10_1 (wrap64 ((wrap64 (t346 + t347)) - 1))) != (rdOf false l0 (wrap64 ((wrap64 (t346 + t347)) - 1)))) = true then (if bt349.2 = 0 then (if bt351.2 = 0 then (some (bt349.1 != bt351.1)) else (some false)) else (some false)) else (some false)) else (none)) else (none)) else (none)) else (some false)) else (none)) else (none)) else (none)) else (some false)) else (some false)) else (some false)))))) = some true := H
                have A28 := Aside0.mk A280
                clear A280
                by_cases c29 : a3 = 0
                · rw [if_pos c29] at H
                  have c29b0 : (a3 == 0) = true := beq_iff_eq.mpr c29
                  have c29b1 : (a3 != 0) = false := bne_eq_false_iff_eq.mpr c29
                  clear c29
                  by_cases c30 : x12_21 = true
                  · subst c30
                    have H1 : (some (t348 == 6)) = some true := by rw [if_pos rfl] at H; exact H
                    clear H
                    have H := H1
                    clear H1
                    have hR_ := Option.some.inj H
                    clear H
                    go_wp2_with (first | (go_at_call 24; (with_reducible refine (sums_Burst.calls kj21 _ _ l0 _ _ x10_1 t346 t347 t348 _ ?side1 ?side2 ?side3 ?side4 A28.out).mono ?_); (case side1 => repeat (first | exact (Kd.C_below HR0.out HB.out) | (with_reducible refine Kd.C_alloc ?_ _) | (with_reducible refine Kd.C_drewN ?_ _) | (with_reducible refine Kd.C_drew ?_))); (case side2 => exact HC0.out); (case side3 => repeat (first | exact (Kd.R_reads' HO_10.out).2.2 | (with_reducible refine Kd.C_alloc ?_ _) | (with_reducible refine Kd.C_drewN ?_ _) | (with_reducible refine Kd.C_drew ?_))); (case side4 => exact (Kd.R_reads' HO_10.out).2.1); rintro e w' ⟨rfl, ⟨nd, rfl⟩⟩; (try first | exact ⟨rfl, _, World.drewN_drewN _ _ _⟩ | exact ⟨rfl, _, Eq.trans (World.drewN_drewN _ _ _) (congrArg (World.drewN _) (Nat.add_assoc _ _ _))⟩)))
                    repeat (go_quiet (first | (go_at_call 24; (with_reducible refine (sums_Burst.calls kj21 _ _ l0 _ _ x10_1 t346 t347 t348 _ ?side1 ?side2 ?side3 ?side4 A28.out).mono ?_); (case side1 => repeat (first | exact (Kd.C_below HR0.out HB.out) | (with_reducible refine Kd.C_alloc ?_ _) | (with_reducible refine Kd.C_drewN ?_ _) | (with_reducible refine Kd.C_drew ?_))); (case side2 => exact HC0.out); (case side3 => repeat (first | exact (Kd.R_reads' HO_10.out).2.2 | (with_reducible refine Kd.C_alloc ?_ _) | (with_reducible refine Kd.C_drewN ?_ _) | (with_reducible refine Kd.C_drew ?_))); (case side4 => exact (Kd.R_reads' HO_10.out).2.1); rintro e w' ⟨rfl, ⟨nd, rfl⟩⟩; (try first | exact ⟨rfl, _, World.drewN_drewN _ _ _⟩ | exact ⟨rfl, _, Eq.trans (World.drewN_drewN _ _ _) (congrArg (World.drewN _) (Nat.add_assoc _ _ _))⟩))); try go_wp2_with (first | (go_at_call 24; (with_reducible refine (sums_Burst.calls kj21 _ _ l0 _ _ x10_1 t346 t347 t348 _ ?side1 ?side2 ?side3 ?side4 A28.out).mono ?_); (case side1 => repeat (first | exact (Kd.C_below HR0.out HB.out) | (with_reducible refine Kd.C_alloc ?_ _) | (with_reducible refine Kd.C_drewN ?_ _) | (with_reducible refine Kd.C_drew ?_))); (case side2 => exact HC0.out); (case side3 => repeat (first | exact (Kd.R_reads' HO_10.out).2.2 | (with_reducible refine Kd.C_alloc ?_ _) | (with_reducible refine Kd.C_drewN ?_ _) | (with_reducible refine Kd.C_drew ?_))); (case side4 => exact (Kd.R_reads' HO_10.out).2.1); rintro e w' ⟨rfl, ⟨nd, rfl⟩⟩; (try first | exact ⟨rfl, _, World.drewN_drewN _ _ _⟩ | exact ⟨rfl, _, Eq.trans (World.drewN_drewN _ _ _) (congrArg (World.drewN _) (Nat.add_assoc _ _ _))⟩))))
                    go_ret
                    exact ⟨by first | rfl | (simp [errW_none, errW_some] <;> rfl) | (simp [*, errW_none, errW_some] <;> rfl), by repeat (first | (with_reducible first | exact HB.out | apply below_alloc | apply pw_below_drewN | apply below_drew1) | exact HB.out)⟩
                  · replace c30 := Bool.eq_false_iff.mpr c30
                    subst c30
                    have H1 : (some false) = some true := by rw [if_neg (show ¬ (false = true) by decide)] at H; exact H
                    clear H
                    have H := H1
                    clear H1
                    exact absurd H (by simp)
                · rw [if_neg c29] at H
                  have c29b0 : (a3 == 0) = false := beq_eq_false_iff_ne.mpr c29
                  have c29b1 : (a3 != 0) = true := bne_iff_ne.mpr c29
                  replace H := Option.bind_eq_some_iff.mp H
                  obtain ⟨⟨t349, t350⟩, A310, H⟩ := H
                  replace H : ((sums_Sum32.f kj21 x10_1).bind fun bt351 => (if x12_21 = true then (some false) else (if t348 = 0 then (if t346 ≥ (Int.tmod a2 (wrap64 ((wrap64 ((l0.length : Int) - a1)) + 1))) then (if (wrap64 (t346 + t347)) ≤ (wrap64 ((Int.tmod a2 (wrap64 ((wrap64 ((l0.length : Int) - a1)) + 1))) + a1)) then (if 0 ≤ t346 then (if t346 < (x10_1.length : Int) then (if t346 < (l0.length : Int) then (if ((rdOf false x10_1 t346) != (rdOf false l0 t346)) = true then (if 0 ≤ (wrap64 ((wrap64 (t346 + t347)) - 1)) then (if (wrap64 ((wrap64 (t346 + t347)) - 1)) < (x10_1.length : Int) then (if (wrap64 ((wrap64 (t346 + t347)) - 1)) < (l0.length : Int) then (if ((rdOf false x10_1 (wrap64 ((wrap64 (t346 + t347)) - 1))) != (rdOf false l0 (wrap64 ((wrap64 (t346 + t347)) - 1)))) = true then (if t350 = 0 then (if bt351.2 = 0 then (some (t349 != bt351.1)) else (some false)) else (some false)) else (some false)) else (none)) else (none)) else (none)) else (some false)) else (none)) else (none)) else (none)) else (some false)) else (some false)) else (some false)))) = some true := H
                  have A31 := Aside0.mk A310
                  clear A310
                  replace H := Option.bind_eq_some_iff.mp H
                  obtain ⟨⟨t351, t352⟩, A320, H⟩ := H
                  replace H : (if x12_21 = true then (some false) else (if t348 = 0 then (if t346 ≥ (Int.tmod a2 (wrap64 ((wrap64 ((l0.length : Int) - a1)) + 1))) then (if (wrap64 (t346 + t347)) ≤ (wrap64 ((Int.tmod a2 (wrap64 ((wrap64 ((l0.length : Int) - a1)) + 1))) + a1)) then (if 0 ≤ t346 then (if t346 < (x10_1.length : Int) then (if t346 < (l0.length : Int) then (if ((rdOf false x10_1 t346) != (rdOf false l0 t346)) = true then (if 0 ≤ (wrap64 ((wrap64 (t346 + t347)) - 1)) then (if (wrap64 ((wrap64 (t346 + t347)) - 1)) < (x10_1.length : Int) then (if (wrap64 ((wrap64 (t346 + t347)) - 1)) < (l0.length : Int) then (if ((rdOf false x10_1 (wrap64 ((wrap64 (t346 + t347)) - 1))) != (rdOf false l0 (wrap64 ((wrap64 (t346 + t347)) - 1)))) = true then (if t350 = 0 then (if t352 = 0 then (some (t349 != t351)) else (some false)) else (some false)) else (some false)) else (none)) else (none)) else (none)) else (some false)) else (none)) else (none)) else (none)) else (some false)) else (some false)) else (some false))) = some true := H
                  have A32 := Aside0.mk A320
                  clear A320
                  by_cases c33 : x12_21 = true
                  · subst c33
                    have H1 : (some false) = some true := by rw [if_pos rfl] at H; exact H
                    clear H
                    have H := H1
                    clear H1
                    exact absurd H (by simp)
                  · replace c33 := Bool.eq_false_iff.mpr c33
                    subst c33
                    have H1 : (if t348 = 0 then (if t346 ≥ (Int.tmod a2 (wrap64 ((wrap64 ((l0.length : Int) - a1)) + 1))) then (if (wrap64 (t346 + t347)) ≤ (wrap64 ((Int.tmod a2 (wrap64 ((wrap64 ((l0.length : Int) - a1)) + 1))) + a1)) then (if 0 ≤ t346 then (if t346 < (x10_1.length : Int) then (if t346 < (l0.length : Int) then (if ((rdOf false x10_1 t346) != (rdOf false l0 t346)) = true then (if 0 ≤ (wrap64 ((wrap64 (t346 + t347)) - 1)) then (if (wrap64 ((wrap64 (t346 + t347)) - 1)) < (x10_1.length : Int) then (if (wrap64 ((wrap64 (t346 + t347)) - 1)) < (l0.length : Int) then (if ((rdOf false x10_1 (wrap64 ((wrap64 (t346 + t347)) - 1))) != (rdOf false l0 (wrap64 ((wrap64 (t346 + t347)) - 1)))) = true then (if t350 = 0 then (if t352 = 0 then (some (t349 != t351)) else (some false)) else (some false)) else (some false)) else (none)) else (none)) else (none)) else (some false)) else (none)) else (none)) else (none)) else (some false)) else (some false)) else (some false)) = some true := by rw [if_neg (show ¬ (false = true) by decide)] at H; exact H
                    clear H
                    have H := H1
                    clear H1
                    by_cases c34 : t348 = 0
                    · rw [if_pos c34] at H
                      have c34b0 : (t348 == 0) = true := beq_iff_eq.mpr c34
                      have c34b1 : (t348 != 0) = false := bne_eq_false_iff_eq.mpr c34
                      clear c34
                      by_cases c35 : t346 ≥ (Int.tmod a2 (wrap64 ((wrap64 ((l0.length : Int) - a1)) + 1)))
                      · rw [if_pos c35] at H
                        have c35b0 : decide ((Int.tmod a2 (wrap64 ((wrap64 ((l0.length : Int) - a1)) + 1))) ≤ t346) = true := decide_eq_true c35
                        clear c35
                        by_cases c36 : (wrap64 (t346 + t347)) ≤ (wrap64 ((Int.tmod a2 (wrap64 ((wrap64 ((l0.length : Int) - a1)) + 1))) + a1))
                        · rw [if_pos c36] at H
                          have c36b0 : decide ((wrap64 (t346 + t347)) ≤ (wrap64 ((Int.tmod a2 (wrap64 ((wrap64 ((l0.length : Int) - a1)) + 1))) + a1))) = true := decide_eq_true c36
                          clear c36
                          by_cases c37 : 0 ≤ t346
                          · rw [if_pos c37] at H
                            have c37b0 : decide (0 ≤ t346) = true := decide_eq_true c37
                            clear c37
                            by_cases c38 : t346 < (x10_1.length : Int)
                            · rw [if_pos c38] at H
                              have c38b0 : decide (t346 < (x10_1.length : Int)) = true := decide_eq_true c38
                              clear c38
                              by_cases c39 : t346 < (l0.length : Int)
                              · rw [if_pos c39] at H
                                have c39b0 : decide (t346 < (l0.length : Int)) = true := decide_eq_true c39
                                clear c39
                                by_cases c40 : ((rdOf false x10_1 t346) != (rdOf false l0 t346)) = true
                                · rw [if_pos c40] at H
                                  have c40b0 : ((rdOf false x10_1 t346) != (rdOf false l0 t346)) = true := c40
                                  (try (have c40b1 : decide ((rdOf false x10_1 t346) = (rdOf false l0 t346)) = false := by simpa using c40))
                                  (try (have c40b2 : ((rdOf false x10_1 t346) == (rdOf false l0 t346)) = false := by simpa using c40))
                                  (try (have c40b3 : ¬ ((rdOf false x10_1 t346) = (rdOf false l0 t346)) := by simpa using c40))
                                  clear c40
                                  obtain ⟨ji41, hji41⟩ : ∃ j_ : Int, (wrap64 ((wrap64 (t346 + t347)) - 1)) = j_ := ⟨_, rfl⟩
                                  replace H : (if 0 ≤ (ji41) then (if (ji41) < (x10_1.length : Int) then (if (ji41) < (l0.length : Int) then (if ((rdOf false x10_1 (ji41)) != (rdOf false l0 (ji41))) = true then (if t350 = 0 then (if t352 = 0 then (some (t349 != t351)) else (some false)) else (some false)) else (some false)) else (none)) else (none)) else (none)) = some true := by first | (rw [hji41] at H; exact H) | (simp only [hji41] at H ⊢; exact H)
                                  (try rw [hji41] at A28)
                                  (try rw [hji41] at A31)
                                  (try rw [hji41] at A32)
                                  have hji41w : (IntKind.i64.wrap ((wrap64 (t346 + t347)) - 1)) = ji41 := (i64_w _).trans hji41
                                  by_cases c42 : 0 ≤ (ji41)
                                  · rw [if_pos c42] at H
                                    have c42b0 : decide (0 ≤ (ji41)) = true := decide_eq_true c42
                                    clear c42
                                    by_cases c43 : (ji41) < (x10_1.length : Int)
                                    · rw [if_pos c43] at H
                                      have c43b0 : decide ((ji41) < (x10_1.length : Int)) = true := decide_eq_true c43
                                      clear c43
                                      by_cases c44 : (ji41) < (l0.length : Int)
                                      · rw [if_pos c44] at H
                                        have c44b0 : decide ((ji41) < (l0.length : Int)) = true := decide_eq_true c44
                                        clear c44
                                        by_cases c45 : ((rdOf false x10_1 (ji41)) != (rdOf false l0 (ji41))) = true
                                        · rw [if_pos c45] at H
                                          have c45b0 : ((rdOf false x10_1 (ji41)) != (rdOf false l0 (ji41))) = true := c45
                                          (try (have c45b1 : decide ((rdOf false x10_1 (ji41)) = (rdOf false l0 (ji41))) = false := by simpa using c45))
                                          (try (have c45b2 : ((rdOf false x10_1 (ji41)) == (rdOf false l0 (ji41))) = false := by simpa using c45))
                                          (try (have c45b3 : ¬ ((rdOf false x10_1 (ji41)) = (rdOf false l0 (ji41))) := by simpa using c45))
                                          clear c45
                                          by_cases c46 : t350 = 0
                                          · rw [if_pos c46] at H
                                            have c46b0 : (t350 == 0) = true := beq_iff_eq.mpr c46
                                            have c46b1 : (t350 != 0) = false := bne_eq_false_iff_eq.mpr c46
                                            clear c46
                                            by_cases c47 : t352 = 0
                                            · rw [if_pos c47] at H
                                              have c47b0 : (t352 == 0) = true := beq_iff_eq.mpr c47
                                              have c47b1 : (t352 != 0) = false := bne_eq_false_iff_eq.mpr c47
                                              clear c47
                                              have hR_ := Option.some.inj H
                                              clear H
                                              go_wp2_with (first | (go_at_call 24; (with_reducible refine (sums_Burst.calls kj21 _ _ l0 _ _ x10_1 t346 t347 t348 _ ?side1 ?side2 ?side3 ?side4 A28.out).mono ?_); (case side1 => repeat (first | exact (Kd.C_below HR0.out HB.out) | (with_reducible refine Kd.C_alloc ?_ _) | (with_reducible refine Kd.C_drewN ?_ _) | (with_reducible refine Kd.C_drew ?_))); (case side2 => exact HC0.out); (case side3 => repeat (first | exact (Kd.R_reads' HO_10.out).2.2 | (with_reducible refine Kd.C_alloc ?_ _) | (with_reducible refine Kd.C_drewN ?_ _) | (with_reducible refine Kd.C_drew ?_))); (case side4 => exact (Kd.R_reads' HO_10.out).2.1); rintro e w' ⟨rfl, ⟨nd, rfl⟩⟩; (try first | exact ⟨rfl, _, World.drewN_drewN _ _ _⟩ | exact ⟨rfl, _, Eq.trans (World.drewN_drewN _ _ _) (congrArg (World.drewN _) (Nat.add_assoc _ _ _))⟩)) | (go_at_call 8; (with_reducible refine (sums_Sum32.calls kj21 _ _ l0 t349 t350 _ ?side1 ?side2 A31.out).mono ?_); (case side1 => repeat (first | exact (Kd.C_below HR0.out (by repeat (first | (with_reducible first | exact HB.out | apply below_alloc | apply pw_below_drewN | apply below_drew1) | exact HB.out))) | (with_reducible refine Kd.C_alloc ?_ _) | (with_reducible refine Kd.C_drewN ?_ _) | (with_reducible refine Kd.C_drew ?_))); (case side2 => exact HC0.out); rintro e w' ⟨rfl, ⟨nd, rfl⟩⟩; (try first | exact ⟨rfl, _, World.drewN_drewN _ _ _⟩ | exact ⟨rfl, _, Eq.trans (World.drewN_drewN _ _ _) (congrArg (World.drewN _) (Nat.add_assoc _ _ _))⟩)) | (go_at_call 8; (with_reducible refine (sums_Sum32.calls kj21 _ _ x10_1 t351 t352 _ ?side1 ?side2 A32.out).mono ?_); (case side1 => repeat (first | exact (Kd.R_reads' HO_10.out).2.2 | (with_reducible refine Kd.C_alloc ?_ _) | (with_reducible refine Kd.C_drewN ?_ _) | (with_reducible refine Kd.C_drew ?_))); (case side2 => exact (Kd.R_reads' HO_10.out).2.1); rintro e w' ⟨rfl, ⟨nd, rfl⟩⟩; (try first | exact ⟨rfl, _, World.drewN_drewN _ _ _⟩ | exact ⟨rfl, _, Eq.trans (World.drewN_drewN _ _ _) (congrArg (World.drewN _) (Nat.add_assoc _ _ _))⟩); have p353 : 0 ≤ (t346 : Int) := of_decide_eq_true (by first | (with_reducible assumption) | assumption); have q353 : t346 < (x10_1.length : Int) := of_decide_eq_true (by first | (with_reducible assumption) | assumption); obtain ⟨ad353, e353, hx353_0⟩ := Kd.at_bool (Kd.R_reads' HO_10.out).2.2 t346 p353 q353; cases e353; replace p353 := eq_true p353; replace q353 := eq_true q353; have p354 : 0 ≤ (t346 : Int) := of_decide_eq_true (by first | (with_reducible assumption) | assumption); have q354 : t346 < (l0.length : Int) := of_decide_eq_true (by first | (with_reducible assumption) | assumption); obtain ⟨ad354, e354, hx354_0⟩ := Kd.at_bool HR0.out t346 p354 q354; cases e354; replace hx354_0 := (HB.out.cell (World.block_lt_of_cell? w _ hx354_0)).trans hx354_0; replace p354 := eq_true p354; replace q354 := eq_true q354; have p355 : 0 ≤ ((ji41) : Int) := of_decide_eq_true (by first | (with_reducible assumption) | assumption); have q355 : (ji41) < (x10_1.length : Int) := of_decide_eq_true (by first | (with_reducible assumption) | assumption); obtain ⟨ad355, e355, hx355_0⟩ := Kd.at_bool (Kd.R_reads' HO_10.out).2.2 (ji41) p355 q355; obtain rfl : ad353 = ad355 := (by injection e355); replace p355 := eq_true p355; replace q355 := eq_true q355; have p356 : 0 ≤ ((ji41) : Int) := of_decide_eq_true (by first | (with_reducible assumption) | assumption); have q356 : (ji41) < (l0.length : Int) := of_decide_eq_true (by first | (with_reducible assumption) | assumption); obtain ⟨ad356, e356, hx356_0⟩ := Kd.at_bool HR0.out (ji41) p356 q356; obtain rfl : ad354 = ad356 := (by injection e356); replace hx356_0 := (HB.out.cell (World.block_lt_of_cell? w _ hx356_0)).trans hx356_0; replace p356 := eq_true p356; replace q356 := eq_true q356))
                                              repeat (go_quiet (first | (go_at_call 24; (with_reducible refine (sums_Burst.calls kj21 _ _ l0 _ _ x10_1 t346 t347 t348 _ ?side1 ?side2 ?side3 ?side4 A28.out).mono ?_); (case side1 => repeat (first | exact (Kd.C_below HR0.out HB.out) | (with_reducible refine Kd.C_alloc ?_ _) | (with_reducible refine Kd.C_drewN ?_ _) | (with_reducible refine Kd.C_drew ?_))); (case side2 => exact HC0.out); (case side3 => repeat (first | exact (Kd.R_reads' HO_10.out).2.2 | (with_reducible refine Kd.C_alloc ?_ _) | (with_reducible refine Kd.C_drewN ?_ _) | (with_reducible refine Kd.C_drew ?_))); (case side4 => exact (Kd.R_reads' HO_10.out).2.1); rintro e w' ⟨rfl, ⟨nd, rfl⟩⟩; (try first | exact ⟨rfl, _, World.drewN_drewN _ _ _⟩ | exact ⟨rfl, _, Eq.trans (World.drewN_drewN _ _ _) (congrArg (World.drewN _) (Nat.add_assoc _ _ _))⟩)) | (go_at_call 8; (with_reducible refine (sums_Sum32.calls kj21 _ _ l0 t349 t350 _ ?side1 ?side2 A31.out).mono ?_); (case side1 => repeat (first | exact (Kd.C_below HR0.out (by repeat (first | (with_reducible first | exact HB.out | apply below_alloc | apply pw_below_drewN | apply below_drew1) | exact HB.out))) | (with_reducible refine Kd.C_alloc ?_ _) | (with_reducible refine Kd.C_drewN ?_ _) | (with_reducible refine Kd.C_drew ?_))); (case side2 => exact HC0.out); rintro e w' ⟨rfl, ⟨nd, rfl⟩⟩; (try first | exact ⟨rfl, _, World.drewN_drewN _ _ _⟩ | exact ⟨rfl, _, Eq.trans (World.drewN_drewN _ _ _) (congrArg (World.drewN _) (Nat.add_assoc _ _ _))⟩)) | (go_at_call 8; (with_reducible refine (sums_Sum32.calls kj21 _ _ x10_1 t351 t352 _ ?side1 ?side2 A32.out).mono ?_); (case side1 => repeat (first | exact (Kd.R_reads' HO_10.out).2.2 | (with_reducible refine Kd.C_alloc ?_ _) | (with_reducible refine Kd.C_drewN ?_ _) | (with_reducible refine Kd.C_drew ?_))); (case side2 => exact (Kd.R_reads' HO_10.out).2.1); rintro e w' ⟨rfl, ⟨nd, rfl⟩⟩; (try first | exact ⟨rfl, _, World.drewN_drewN _ _ _⟩ | exact ⟨rfl, _, Eq.trans (World.drewN_drewN _ _ _) (congrArg (World.drewN _) (Nat.add_assoc _ _ _))⟩); have p353 : 0 ≤ (t346 : Int) := of_decide_eq_true (by first | (with_reducible assumption) | assumption); have q353 : t346 < (x10_1.length : Int) := of_decide_eq_true (by first | (with_reducible assumption) | assumption); obtain ⟨ad353, e353, hx353_0⟩ := Kd.at_bool (Kd.R_reads' HO_10.out).2.2 t346 p353 q353; cases e353; replace p353 := eq_true p353; replace q353 := eq_true q353; have p354 : 0 ≤ (t346 : Int) := of_decide_eq_true (by first | (with_reducible assumption) | assumption); have q354 : t346 < (l0.length : Int) := of_decide_eq_true (by first | (with_reducible assumption) | assumption); obtain ⟨ad354, e354, hx354_0⟩ := Kd.at_bool HR0.out t346 p354 q354; cases e354; replace hx354_0 := (HB.out.cell (World.block_lt_of_cell? w _ hx354_0)).trans hx354_0; replace p354 := eq_true p354; replace q354 := eq_true q354; have p355 : 0 ≤ ((ji41) : Int) := of_decide_eq_true (by first | (with_reducible assumption) | assumption); have q355 : (ji41) < (x10_1.length : Int) := of_decide_eq_true (by first | (with_reducible assumption) | assumption); obtain ⟨ad355, e355, hx355_0⟩ := Kd.at_bool (Kd.R_reads' HO_10.out).2.2 (ji41) p355 q355; obtain rfl : ad353 = ad355 := (by injection e355); replace p355 := eq_true p355; replace q355 := eq_true q355; have p356 : 0 ≤ ((ji41) : Int) := of_decide_eq_true (by first | (with_reducible assumption) | assumption); have q356 : (ji41) < (l0.length : Int) := of_decide_eq_true (by first | (with_reducible assumption) | assumption); obtain ⟨ad356, e356, hx356_0⟩ := Kd.at_bool HR0.out (ji41) p356 q356; obtain rfl : ad354 = ad356 := (by injection e356); replace hx356_0 := (HB.out.cell (World.block_lt_of_cell? w _ hx356_0)).trans hx356_0; replace p356 := eq_true p356; replace q356 := eq_true q356)); try go_wp2_with (first | (go_at_call 24; (with_reducible refine (sums_Burst.calls kj21 _ _ l0 _ _ x10_1 t346 t347 t348 _ ?side1 ?side2 ?side3 ?side4 A28.out).mono ?_); (case side1 => repeat (first | exact (Kd.C_below HR0.out HB.out) | (with_reducible refine Kd.C_alloc ?_ _) | (with_reducible refine Kd.C_drewN ?_ _) | (with_reducible refine Kd.C_drew ?_))); (case side2 => exact HC0.out); (case side3 => repeat (first | exact (Kd.R_reads' HO_10.out).2.2 | (with_reducible refine Kd.C_alloc ?_ _) | (with_reducible refine Kd.C_drewN ?_ _) | (with_reducible refine Kd.C_drew ?_))); (case side4 => exact (Kd.R_reads' HO_10.out).2.1); rintro e w' ⟨rfl, ⟨nd, rfl⟩⟩; (try first | exact ⟨rfl, _, World.drewN_drewN _ _ _⟩ | exact ⟨rfl, _, Eq.trans (World.drewN_drewN _ _ _) (congrArg (World.drewN _) (Nat.add_assoc _ _ _))⟩)) | (go_at_call 8; (with_reducible refine (sums_Sum32.calls kj21 _ _ l0 t349 t350 _ ?side1 ?side2 A31.out).mono ?_); (case side1 => repeat (first | exact (Kd.C_below HR0.out (by repeat (first | (with_reducible first | exact HB.out | apply below_alloc | apply pw_below_drewN | apply below_drew1) | exact HB.out))) | (with_reducible refine Kd.C_alloc ?_ _) | (with_reducible refine Kd.C_drewN ?_ _) | (with_reducible refine Kd.C_drew ?_))); (case side2 => exact HC0.out); rintro e w' ⟨rfl, ⟨nd, rfl⟩⟩; (try first | exact ⟨rfl, _, World.drewN_drewN _ _ _⟩ | exact ⟨rfl, _, Eq.trans (World.drewN_drewN _ _ _) (congrArg (World.drewN _) (Nat.add_assoc _ _ _))⟩)) | (go_at_call 8; (with_reducible refine (sums_Sum32.calls kj21 _ _ x10_1 t351 t352 _ ?side1 ?side2 A32.out).mono ?_); (case side1 => repeat (first | exact (Kd.R_reads' HO_10.out).2.2 | (with_reducible refine Kd.C_alloc ?_ _) | (with_reducible refine Kd.C_drewN ?_ _) | (with_reducible refine Kd.C_drew ?_))); (case side2 => exact (Kd.R_reads' HO_10.out).2.1); rintro e w' ⟨rfl, ⟨nd, rfl⟩⟩; (try first | exact ⟨rfl, _, World.drewN_drewN _ _ _⟩ | exact ⟨rfl, _, Eq.trans (World.drewN_drewN _ _ _) (congrArg (World.drewN _) (Nat.add_assoc _ _ _))⟩); have p353 : 0 ≤ (t346 : Int) := of_decide_eq_true (by first | (with_reducible assumption) | assumption); have q353 : t346 < (x10_1.length : Int) := of_decide_eq_true (by first | (with_reducible assumption) | assumption); obtain ⟨ad353, e353, hx353_0⟩ := Kd.at_bool (Kd.R_reads' HO_10.out).2.2 t346 p353 q353; cases e353; replace p353 := eq_true p353; replace q353 := eq_true q353; have p354 : 0 ≤ (t346 : Int) := of_decide_eq_true (by first | (with_reducible assumption) | assumption); have q354 : t346 < (l0.length : Int) := of_decide_eq_true (by first | (with_reducible assumption) | assumption); obtain ⟨ad354, e354, hx354_0⟩ := Kd.at_bool HR0.out t346 p354 q354; cases e354; replace hx354_0 := (HB.out.cell (World.block_lt_of_cell? w _ hx354_0)).trans hx354_0; replace p354 := eq_true p354; replace q354 := eq_true q354; have p355 : 0 ≤ ((ji41) : Int) := of_decide_eq_true (by first | (with_reducible assumption) | assumption); have q355 : (ji41) < (x10_1.length : Int) := of_decide_eq_true (by first | (with_reducible assumption) | assumption); obtain ⟨ad355, e355, hx355_0⟩ := Kd.at_bool (Kd.R_reads' HO_10.out).2.2 (ji41) p355 q355; obtain rfl : ad353 = ad355 := (by injection e355); replace p355 := eq_true p355; replace q355 := eq_true q355; have p356 : 0 ≤ ((ji41) : Int) := of_decide_eq_true (by first | (with_reducible assumption) | assumption); have q356 : (ji41) < (l0.length : Int) := of_decide_eq_true (by first | (with_reducible assumption) | assumption); obtain ⟨ad356, e356, hx356_0⟩ := Kd.at_bool HR0.out (ji41) p356 q356; obtain rfl : ad354 = ad356 := (by injection e356); replace hx356_0 := (HB.out.cell (World.block_lt_of_cell? w _ hx356_0)).trans hx356_0; replace p356 := eq_true p356; replace q356 := eq_true q356)))
                                              go_ret
                                              exact ⟨by first | rfl | (simp [errW_none, errW_some] <;> rfl) | (simp only [← hji41]; first | rfl | (simp [errW_none, errW_some] <;> rfl)) | (simp [*, errW_none, errW_some] <;> rfl), by repeat (first | (with_reducible first | exact HB.out | apply below_alloc | apply pw_below_drewN | apply below_drew1) | exact HB.out)⟩
                                            · rw [if_neg c47] at H
                                              have c47b0 : (t352 == 0) = false := beq_eq_false_iff_ne.mpr c47
                                              have c47b1 : (t352 != 0) = true := bne_iff_ne.mpr c47
                                              exact absurd H (by simp)
                                          · rw [if_neg c46] at H
                                            have c46b0 : (t350 == 0) = false := beq_eq_false_iff_ne.mpr c46
                                            have c46b1 : (t350 != 0) = true := bne_iff_ne.mpr c46
                                            exact absurd H (by simp)
                                        · rw [if_neg c45] at H
                                          have c45b0 : ((rdOf false x10_1 (ji41)) != (rdOf false l0 (ji41))) = false := by simpa using c45
                                          (try (have c45b1 : decide ((rdOf false x10_1 (ji41)) = (rdOf false l0 (ji41))) = true := by simpa using c45))
                                          (try (have c45b2 : ((rdOf false x10_1 (ji41)) == (rdOf false l0 (ji41))) = true := by simpa using c45))
                                          clear c45
                                          exact absurd H (by simp)
                                      · rw [if_neg c44] at H
                                        exact absurd H (by simp)
                                    · rw [if_neg c43] at H
                                      exact absurd H (by simp)
                                  · rw [if_neg c42] at H
                                    exact absurd H (by simp)
                                · rw [if_neg c40] at H
                                  have c40b0 : ((rdOf false x10_1 t346) != (rdOf false l0 t346)) = false := by simpa using c40
                                  (try (have c40b1 : decide ((rdOf false x10_1 t346) = (rdOf false l0 t346)) = true := by simpa using c40))
                                  (try (have c40b2 : ((rdOf false x10_1 t346) == (rdOf false l0 t346)) = true := by simpa using c40))
                                  clear c40
                                  exact absurd H (by simp)
                              · rw [if_neg c39] at H
                                exact absurd H (by simp)
                            · rw [if_neg c38] at H
                              exact absurd H (by simp)
                          · rw [if_neg c37] at H
                            exact absurd H (by simp)
                        · rw [if_neg c36] at H
                          have c36b0 : decide ((wrap64 (t346 + t347)) ≤ (wrap64 ((Int.tmod a2 (wrap64 ((wrap64 ((l0.length : Int) - a1)) + 1))) + a1))) = false := decide_eq_false c36
                          clear c36
                          exact absurd H (by simp)
                      · rw [if_neg c35] at H
                        have c35b0 : decide ((Int.tmod a2 (wrap64 ((wrap64 ((l0.length : Int) - a1)) + 1))) ≤ t346) = false := decide_eq_false c35
                        clear c35
                        exact absurd H (by simp)
                    · rw [if_neg c34] at H
                      have c34b0 : (t348 == 0) = false := beq_eq_false_iff_ne.mpr c34
                      have c34b1 : (t348 != 0) = true := bne_iff_ne.mpr c34
                      exact absurd H (by simp)
    · rw [if_neg c6] at H
      exact absurd H (by simp)

/-! ### foghornlaw24_SumsBursts: function 6 -/
def foghornlaw24_SumsBursts.j0 : Nat → Int → Int → List Bool → List Bool → Bool → Option (Bool)
  | 0, _, _, _, _, _ => none
  | k + 1, x1, x2, x8, x10, x68 => if x68 = true then (some false) else ((foghornlaw24_torn.f k x8 16 (wrap64 (x1)) (Int.tmod x2 65536)).bind fun t378 => (if t378 = true then ((foghornlaw24_torn.f k x10 32 (wrap64 (x1)) x2).bind fun t379 => (if t379 = true then ((foghornlaw24_awake.f k).bind fun t380 => (some t380)) else (some false))) else (some false)))
def foghornlaw24_SumsBursts.f (k : Nat) (l0 : List Bool) (a1 : Int) (a2 : Int) : Option (Bool) := if 0 ≤ (mn (l0.length : Int) 300) then (if (mn (l0.length : Int) 300) ≤ (l0.length : Int) then ((some (l0.take ((mn (l0.length : Int) 300) : Int).toNat : List Bool)).bind fun y357 => ((sums_Row16.f k y357).bind fun bt361 => ((sums_Row32.f k y357).bind fun bt365 => (if bt361.2 = 0 then (if bt365.2 = 0 then (if (bt361.1.length : Int) = (wrap64 ((y357.length : Int) + 16)) then (if (bt365.1.length : Int) = (wrap64 ((y357.length : Int) + 32)) then ((sums_Fits16.f k bt361.1).bind fun t369 => (if t369 = true then ((sums_Fits32.f k bt365.1).bind fun t370 => (if t370 = true then (if 0 ≤ (Int.tmod (wrap64 (a1)) 9) then (if (Int.tmod (wrap64 (a1)) 9 : Int).toNat ≤ 281474976710656 then ((some (List.replicate (Int.tmod (wrap64 (a1)) 9 : Int).toNat false : List Bool)).bind fun y371 => (if y371.length + bt365.1.length < 140737488355328 then ((sums_Fits32.f k (y371 ++ bt365.1)).bind fun t377 => (foghornlaw24_SumsBursts.j0 k a1 a2 bt361.1 bt365.1 (!t377))) else (none))) else (none)) else (none)) else (foghornlaw24_SumsBursts.j0 k a1 a2 bt361.1 bt365.1 true))) else (foghornlaw24_SumsBursts.j0 k a1 a2 bt361.1 bt365.1 true))) else (foghornlaw24_SumsBursts.j0 k a1 a2 bt361.1 bt365.1 true)) else (foghornlaw24_SumsBursts.j0 k a1 a2 bt361.1 bt365.1 true)) else (foghornlaw24_SumsBursts.j0 k a1 a2 bt361.1 bt365.1 true)) else (foghornlaw24_SumsBursts.j0 k a1 a2 bt361.1 bt365.1 true))))) else (none)) else (none)
theorem foghornlaw24_SumsBursts.mono_l : ∀ k, (∀ y0 y1 y2 y3 y4, LeO (foghornlaw24_SumsBursts.j0 k y0 y1 y2 y3 y4) (foghornlaw24_SumsBursts.j0 (k + 1) y0 y1 y2 y3 y4))
  | 0 => fun _ _ _ _ _ r h => by simp [foghornlaw24_SumsBursts.j0] at h
  | k + 1 => by
    have ih0 := foghornlaw24_SumsBursts.mono_l k
    · intro y0 y1 y2 y3 y4
      unfold foghornlaw24_SumsBursts.j0
      repeat' first
      | (with_reducible exact ih0 _ _ _ _ _)
      | (with_reducible exact foghornlaw24_awake.mono _)
      | (with_reducible exact foghornlaw24_torn.mono _ _ _ _ _)
      | (with_reducible exact sums_Fits16.mono _ _)
      | (with_reducible exact sums_Fits32.mono _ _)
      | (with_reducible exact sums_Row16.mono _ _)
      | (with_reducible exact sums_Row32.mono _ _)
      | (with_reducible exact LeO.refl _)
      | (with_reducible exact LeO.none _)
      | (with_reducible refine LeO.ite ?_ ?_)
      | (with_reducible refine LeO.bind ?_ (fun _ => ?_))
      | exact ih0 _ _ _ _ _
      | exact foghornlaw24_awake.mono _
      | exact foghornlaw24_torn.mono _ _ _ _ _
      | exact sums_Fits16.mono _ _
      | exact sums_Fits32.mono _ _
      | exact sums_Row16.mono _ _
      | exact sums_Row32.mono _ _
      | exact LeO.none _
      | refine LeO.ite ?_ ?_
      | refine LeO.bind ?_ (fun _ => ?_)
theorem foghornlaw24_SumsBursts.mono : ∀ a0 a1 a2 k, LeO (foghornlaw24_SumsBursts.f k a0 a1 a2) (foghornlaw24_SumsBursts.f (k + 1) a0 a1 a2) := by
  intro a0 a1 a2 k
  have ih0 := foghornlaw24_SumsBursts.mono_l k
  unfold foghornlaw24_SumsBursts.f
  repeat' first
      | (with_reducible exact ih0 _ _ _ _ _)
      | (with_reducible exact foghornlaw24_awake.mono _)
      | (with_reducible exact foghornlaw24_torn.mono _ _ _ _ _)
      | (with_reducible exact sums_Fits16.mono _ _)
      | (with_reducible exact sums_Fits32.mono _ _)
      | (with_reducible exact sums_Row16.mono _ _)
      | (with_reducible exact sums_Row32.mono _ _)
      | (with_reducible exact LeO.refl _)
      | (with_reducible exact LeO.none _)
      | (with_reducible refine LeO.ite ?_ ?_)
      | (with_reducible refine LeO.bind ?_ (fun _ => ?_))
      | exact ih0 _ _ _ _ _
      | exact foghornlaw24_awake.mono _
      | exact foghornlaw24_torn.mono _ _ _ _ _
      | exact sums_Fits16.mono _ _
      | exact sums_Fits32.mono _ _
      | exact sums_Row16.mono _ _
      | exact sums_Row32.mono _ _
      | exact LeO.none _
      | refine LeO.ite ?_ ?_
      | refine LeO.bind ?_ (fun _ => ?_)
set_option maxHeartbeats 8000000 in
set_option maxRecDepth 100000 in
theorem foghornlaw24_SumsBursts.calls (k : Nat) (A0 : Option Addr) (c0 : Nat) (l0 : List Bool) (a1 : Int) (a2 : Int) (r : Bool) (w : World) (hr0 : Kd.C Kd.bool w A0 l0.length l0) (hc0 : l0.length ≤ c0) (h : foghornlaw24_SumsBursts.f k l0 a1 a2 = some r) (ho_ : r = true := by rfl) :
    Calls Try.prog 6 #[.slice A0 l0.length c0, .int .u16 a1, .int .u32 a2] w fun e w' => e = .returned (.bool r) ∧ Below w.heap.size w w' := by
  subst ho_
  have HR0 := Aside0.mk hr0
  have HC0 := Aside0.mk hc0
  clear hr0 hc0
  have HB := Aside0.mk (Below.refl w.heap.size w)
  have H : (if 0 ≤ (mn (l0.length : Int) 300) then (if (mn (l0.length : Int) 300) ≤ (l0.length : Int) then ((some (l0.take ((mn (l0.length : Int) 300) : Int).toNat : List Bool)).bind fun y357 => ((sums_Row16.f k y357).bind fun bt361 => ((sums_Row32.f k y357).bind fun bt365 => (if bt361.2 = 0 then (if bt365.2 = 0 then (if (bt361.1.length : Int) = (wrap64 ((y357.length : Int) + 16)) then (if (bt365.1.length : Int) = (wrap64 ((y357.length : Int) + 32)) then ((sums_Fits16.f k bt361.1).bind fun t369 => (if t369 = true then ((sums_Fits32.f k bt365.1).bind fun t370 => (if t370 = true then (if 0 ≤ (Int.tmod (wrap64 (a1)) 9) then (if (Int.tmod (wrap64 (a1)) 9 : Int).toNat ≤ 281474976710656 then ((some (List.replicate (Int.tmod (wrap64 (a1)) 9 : Int).toNat false : List Bool)).bind fun y371 => (if y371.length + bt365.1.length < 140737488355328 then ((sums_Fits32.f k (y371 ++ bt365.1)).bind fun t377 => (foghornlaw24_SumsBursts.j0 k a1 a2 bt361.1 bt365.1 (!t377))) else (none))) else (none)) else (none)) else (foghornlaw24_SumsBursts.j0 k a1 a2 bt361.1 bt365.1 true))) else (foghornlaw24_SumsBursts.j0 k a1 a2 bt361.1 bt365.1 true))) else (foghornlaw24_SumsBursts.j0 k a1 a2 bt361.1 bt365.1 true)) else (foghornlaw24_SumsBursts.j0 k a1 a2 bt361.1 bt365.1 true)) else (foghornlaw24_SumsBursts.j0 k a1 a2 bt361.1 bt365.1 true)) else (foghornlaw24_SumsBursts.j0 k a1 a2 bt361.1 bt365.1 true))))) else (none)) else (none)) = some true := h
  clear h
  obtain ⟨ji4, hji4⟩ : ∃ j_ : Int, (mn (l0.length : Int) 300) = j_ := ⟨_, rfl⟩
  replace H : (if 0 ≤ (ji4) then (if (ji4) ≤ (l0.length : Int) then ((some (l0.take ((ji4) : Int).toNat : List Bool)).bind fun y357 => ((sums_Row16.f k y357).bind fun bt361 => ((sums_Row32.f k y357).bind fun bt365 => (if bt361.2 = 0 then (if bt365.2 = 0 then (if (bt361.1.length : Int) = (wrap64 ((y357.length : Int) + 16)) then (if (bt365.1.length : Int) = (wrap64 ((y357.length : Int) + 32)) then ((sums_Fits16.f k bt361.1).bind fun t369 => (if t369 = true then ((sums_Fits32.f k bt365.1).bind fun t370 => (if t370 = true then (if 0 ≤ (Int.tmod (wrap64 (a1)) 9) then (if (Int.tmod (wrap64 (a1)) 9 : Int).toNat ≤ 281474976710656 then ((some (List.replicate (Int.tmod (wrap64 (a1)) 9 : Int).toNat false : List Bool)).bind fun y371 => (if y371.length + bt365.1.length < 140737488355328 then ((sums_Fits32.f k (y371 ++ bt365.1)).bind fun t377 => (foghornlaw24_SumsBursts.j0 k a1 a2 bt361.1 bt365.1 (!t377))) else (none))) else (none)) else (none)) else (foghornlaw24_SumsBursts.j0 k a1 a2 bt361.1 bt365.1 true))) else (foghornlaw24_SumsBursts.j0 k a1 a2 bt361.1 bt365.1 true))) else (foghornlaw24_SumsBursts.j0 k a1 a2 bt361.1 bt365.1 true)) else (foghornlaw24_SumsBursts.j0 k a1 a2 bt361.1 bt365.1 true)) else (foghornlaw24_SumsBursts.j0 k a1 a2 bt361.1 bt365.1 true)) else (foghornlaw24_SumsBursts.j0 k a1 a2 bt361.1 bt365.1 true))))) else (none)) else (none)) = some true := by first | (rw [hji4] at H; exact H) | (simp only [hji4] at H ⊢; exact H)
  (try (have hji4h : ji4 ≤ 300 := by (rw [← hji4]; unfold mn; (repeat' split) <;> omega)))
  (try (have hji4g : ji4 ≤ 64 := by omega))
  (try (have hji4l : 0 ≤ ji4 := by (rw [← hji4]; unfold mn; (repeat' split) <;> omega)))
  (try (have hji4m : 0 ≤ ji4 := by omega))
  have hji4_ : (if 300 < (l0.length : Int) then 300 else (l0.length : Int)) = ji4 := hji4
  by_cases c5 : 0 ≤ (ji4)
  · rw [if_pos c5] at H
    have c5b0 := eq_true c5
    have c5b1 : decide (0 ≤ (ji4)) = true := decide_eq_true c5
    clear c5
    by_cases c6 : (ji4) ≤ (l0.length : Int)
    · rw [if_pos c6] at H
      have c6b0 := eq_true c6
      have c6b1 : decide ((ji4) ≤ (l0.length : Int)) = true := decide_eq_true c6
      clear c6
      obtain ⟨y357, hy357⟩ : ∃ y_ : List Bool, y_ = (l0.take ((ji4) : Int).toNat) := ⟨_, rfl⟩
      replace H : ((sums_Row16.f k y357).bind fun bt361 => ((sums_Row32.f k y357).bind fun bt365 => (if bt361.2 = 0 then (if bt365.2 = 0 then (if (bt361.1.length : Int) = (wrap64 ((y357.length : Int) + 16)) then (if (bt365.1.length : Int) = (wrap64 ((y357.length : Int) + 32)) then ((sums_Fits16.f k bt361.1).bind fun t369 => (if t369 = true then ((sums_Fits32.f k bt365.1).bind fun t370 => (if t370 = true then (if 0 ≤ (Int.tmod (wrap64 (a1)) 9) then (if (Int.tmod (wrap64 (a1)) 9 : Int).toNat ≤ 281474976710656 then ((some (List.replicate (Int.tmod (wrap64 (a1)) 9 : Int).toNat false : List Bool)).bind fun y371 => (if y371.length + bt365.1.length < 140737488355328 then ((sums_Fits32.f k (y371 ++ bt365.1)).bind fun t377 => (foghornlaw24_SumsBursts.j0 k a1 a2 bt361.1 bt365.1 (!t377))) else (none))) else (none)) else (none)) else (foghornlaw24_SumsBursts.j0 k a1 a2 bt361.1 bt365.1 true))) else (foghornlaw24_SumsBursts.j0 k a1 a2 bt361.1 bt365.1 true))) else (foghornlaw24_SumsBursts.j0 k a1 a2 bt361.1 bt365.1 true)) else (foghornlaw24_SumsBursts.j0 k a1 a2 bt361.1 bt365.1 true)) else (foghornlaw24_SumsBursts.j0 k a1 a2 bt361.1 bt365.1 true)) else (foghornlaw24_SumsBursts.j0 k a1 a2 bt361.1 bt365.1 true)))) = some true := by first | (rw [hy357]; with_reducible exact H) | (have H2_ := (Option.bind_some _ _).symm.trans H; rw [hy357]; with_reducible exact H2_) | (have H2_ := (Option.bind_some _ _).symm.trans H; with_reducible exact H2_) | with_reducible exact H | (rw [hy357]; exact H) | exact H
      have Ny357 := Aside0.mk hy357
      clear hy357
      replace H := Option.bind_eq_some_iff.mp H
      obtain ⟨⟨t361, t362⟩, A70, H⟩ := H
      replace H : ((sums_Row32.f k y357).bind fun bt365 => (if t362 = 0 then (if bt365.2 = 0 then (if (t361.length : Int) = (wrap64 ((y357.length : Int) + 16)) then (if (bt365.1.length : Int) = (wrap64 ((y357.length : Int) + 32)) then ((sums_Fits16.f k t361).bind fun t369 => (if t369 = true then ((sums_Fits32.f k bt365.1).bind fun t370 => (if t370 = true then (if 0 ≤ (Int.tmod (wrap64 (a1)) 9) then (if (Int.tmod (wrap64 (a1)) 9 : Int).toNat ≤ 281474976710656 then ((some (List.replicate (Int.tmod (wrap64 (a1)) 9 : Int).toNat false : List Bool)).bind fun y371 => (if y371.length + bt365.1.length < 140737488355328 then ((sums_Fits32.f k (y371 ++ bt365.1)).bind fun t377 => (foghornlaw24_SumsBursts.j0 k a1 a2 t361 bt365.1 (!t377))) else (none))) else (none)) else (none)) else (foghornlaw24_SumsBursts.j0 k a1 a2 t361 bt365.1 true))) else (foghornlaw24_SumsBursts.j0 k a1 a2 t361 bt365.1 true))) else (foghornlaw24_SumsBursts.j0 k a1 a2 t361 bt365.1 true)) else (foghornlaw24_SumsBursts.j0 k a1 a2 t361 bt365.1 true)) else (foghornlaw24_SumsBursts.j0 k a1 a2 t361 bt365.1 true)) else (foghornlaw24_SumsBursts.j0 k a1 a2 t361 bt365.1 true))) = some true := H
      have A7 := Aside0.mk A70
      clear A70
      replace H := Option.bind_eq_some_iff.mp H
      obtain ⟨⟨t365, t366⟩, A80, H⟩ := H
      replace H : (if t362 = 0 then (if t366 = 0 then (if (t361.length : Int) = (wrap64 ((y357.length : Int) + 16)) then (if (t365.length : Int) = (wrap64 ((y357.length : Int) + 32)) then ((sums_Fits16.f k t361).bind fun t369 => (if t369 = true then ((sums_Fits32.f k t365).bind fun t370 => (if t370 = true then (if 0 ≤ (Int.tmod (wrap64 (a1)) 9) then (if (Int.tmod (wrap64 (a1)) 9 : Int).toNat ≤ 281474976710656 then ((some (List.replicate (Int.tmod (wrap64 (a1)) 9 : Int).toNat false : List Bool)).bind fun y371 => (if y371.length + t365.length < 140737488355328 then ((sums_Fits32.f k (y371 ++ t365)).bind fun t377 => (foghornlaw24_SumsBursts.j0 k a1 a2 t361 t365 (!t377))) else (none))) else (none)) else (none)) else (foghornlaw24_SumsBursts.j0 k a1 a2 t361 t365 true))) else (foghornlaw24_SumsBursts.j0 k a1 a2 t361 t365 true))) else (foghornlaw24_SumsBursts.j0 k a1 a2 t361 t365 true)) else (foghornlaw24_SumsBursts.j0 k a1 a2 t361 t365 true)) else (foghornlaw24_SumsBursts.j0 k a1 a2 t361 t365 true)) else (foghornlaw24_SumsBursts.j0 k a1 a2 t361 t365 true)) = some true := H
      have A8 := Aside0.mk A80
      clear A80
      have HC9 := Aside0.mk H
      clear H
      have q10 : ((ji4) : Int) ≤ ((l0.length : Int) : Int) := of_decide_eq_true (by first | (with_reducible assumption) | assumption)
      obtain ⟨i010, hi010, _, hsz10, _⟩ := info_parts info4
      have hroom10 : l0.length ≤ c0 := HC0.out
      have hC10 : Kd.C Kd.bool _ A0 l0.length l0 := HR0.out
      have hcut10 := cut_to (P := Try.prog) 22 4 .i64 Try.underlying22 hi010 A0 l0.length c0 (ji4) (of_decide_eq_true (by first | (with_reducible assumption) | assumption)) q10 hroom10
      have hr10 := Kd.C_take (m := ((ji4) : Int).toNat) hC10 (by omega)
      have hy10 : y357.length = ((ji4) : Int).toNat := (by rw [Ny357.out, List.length_take]; omega)
      rw [← Ny357.out] at hr10
      rw [← hy10] at hcut10
      have HR360 := Aside0.mk hr10
      have HC360 := Aside0.mk (show y357.length ≤ c0 from by omega)
      clear hr10 hC10 hroom10 hi010 hsz10
      have KY10 := Aside0.mk hy10
      clear hy10
      replace q10 := eq_true q10
      go_enter Try.func6, Try.ntmps6
      go_upto_region 4 with (first | ((with_reducible refine gate_callee (f := 29) rfl ?_); refine goesL_ (some 19) rfl rfl Try.func29 (by kernel_rfl) rfl #[.slice A0 y357.length c0] rfl (by (try simp only [List.map_toArray, List.map_cons, List.map_nil]); first | done | rfl | (simp only [List.length_drop, List.length_take]; rfl)) ?_; (with_reducible refine (sums_Row16.calls k _ _ y357 t361 t362 _ ?side1 ?side2 A7.out).mono ?_); (case side1 => repeat (first | exact HR360.out | (with_reducible refine Kd.C_alloc ?_ _) | (with_reducible refine Kd.C_drewN ?_ _) | (with_reducible refine Kd.C_drew ?_))); (case side2 => exact HC360.out); rintro e w11 ⟨v363, rfl, ho0, hb⟩; refine ⟨_, rfl, ?_⟩; have n0_ := Aside0.mk (Kd.R_lower ho0 (below_size (by repeat (first | (with_reducible first | exact HB.out | apply below_alloc | apply pw_below_drewN | apply below_drew1) | exact HB.out)))); have n1_ := Aside0.mk (below_step (by repeat (first | (with_reducible first | exact HB.out | apply below_alloc | apply pw_below_drewN | apply below_drew1) | exact HB.out)) hb); clear HB; have HO364 := n0_; have HB := n1_; clear n0_ n1_; (try clear hb); (try clear hb2); (try clear hk); (try clear hi); (try clear ho0)) | ((with_reducible refine gate_callee (f := 30) rfl ?_); refine goesL_ (some 24) rfl rfl Try.func30 (by kernel_rfl) rfl #[.slice A0 y357.length c0] rfl (by (try simp only [List.map_toArray, List.map_cons, List.map_nil]); first | done | rfl | (simp only [List.length_drop, List.length_take]; rfl)) ?_; (with_reducible refine (sums_Row32.calls k _ _ y357 t365 t366 _ ?side1 ?side2 A8.out).mono ?_); (case side1 => repeat (first | exact (Kd.C_below HR360.out HB.out) | (with_reducible refine Kd.C_alloc ?_ _) | (with_reducible refine Kd.C_drewN ?_ _) | (with_reducible refine Kd.C_drew ?_))); (case side2 => exact HC360.out); rintro e w12 ⟨v367, rfl, ho0, hb⟩; refine ⟨_, rfl, ?_⟩; have n0_ := Aside0.mk (Kd.R_elder' (by (with_reducible repeat (first | apply Kd.R_alloc | apply Kd.R_drewN | apply Kd.R_drew)); exact HO364.out) (Kd.R_base ho0) hb); have n1_ := Aside0.mk (Kd.R_lower (Kd.R_new' ho0 (Kd.R_lt (by (with_reducible repeat (first | apply Kd.R_alloc | apply Kd.R_drewN | apply Kd.R_drew)); exact HO364.out))) (below_size (by repeat (first | (with_reducible first | exact HB.out | apply below_alloc | apply pw_below_drewN | apply below_drew1) | exact HB.out)))); have n2_ := Aside0.mk (below_step (by repeat (first | (with_reducible first | exact HB.out | apply below_alloc | apply pw_below_drewN | apply below_drew1) | exact HB.out)) hb); clear HO364; clear HB; have HO364 := n0_; have HO368 := n1_; have HB := n2_; clear n0_ n1_ n2_; (try clear hb); (try clear hb2); (try clear hk); (try clear hi); (try clear ho0)))
      (try simp only [Act.put, List.setIfInBounds_toArray, List.set_cons_zero, List.set_cons_succ])
      go_cut [68] (fun v68 wc => ∃ (kq : Nat) (x68_8 : Bool), v68 = .bool x68_8 ∧ Aside0 (foghornlaw24_SumsBursts.j0 kq a1 a2 t361 t365 x68_8 = some true) ∧ Aside0 (kq ≤ k) ∧ Aside0 (Kd.R Kd.bool 4 wc w.heap.size (fun k_ => some k_ ≠ (v367 : Value).ownBlock) v363 t361) ∧ Aside0 (Kd.R Kd.bool 4 wc w.heap.size (fun k_ => some k_ ≠ (v363 : Value).ownBlock) v367 t365) ∧ Aside0 (Below w.heap.size w wc))
      case first =>
        have H := HC9.out
        clear HC9
        by_cases c13 : t362 = 0
        · rw [if_pos c13] at H
          have c13b0 : (t362 == 0) = true := beq_iff_eq.mpr c13
          have c13b1 : (t362 != 0) = false := bne_eq_false_iff_eq.mpr c13
          clear c13
          (first | rw [c13b0] | (simp only [i64_w, i32_w]; rw [c13b0]) | skip)
          by_cases c14 : t366 = 0
          · rw [if_pos c14] at H
            have c14b0 : (t366 == 0) = true := beq_iff_eq.mpr c14
            have c14b1 : (t366 != 0) = false := bne_eq_false_iff_eq.mpr c14
            clear c14
            by_cases c15 : (t361.length : Int) = (wrap64 ((y357.length : Int) + 16))
            · rw [if_pos c15] at H
              have c15b0 : ((t361.length : Int) == (wrap64 ((y357.length : Int) + 16))) = true := beq_iff_eq.mpr c15
              have c15b1 : ((t361.length : Int) != (wrap64 ((y357.length : Int) + 16))) = false := bne_eq_false_iff_eq.mpr c15
              clear c15
              by_cases c16 : (t365.length : Int) = (wrap64 ((y357.length : Int) + 32))
              · rw [if_pos c16] at H
                have c16b0 : ((t365.length : Int) == (wrap64 ((y357.length : Int) + 32))) = true := beq_iff_eq.mpr c16
                have c16b1 : ((t365.length : Int) != (wrap64 ((y357.length : Int) + 32))) = false := bne_eq_false_iff_eq.mpr c16
                clear c16
                replace H := Option.bind_eq_some_iff.mp H
                obtain ⟨t369, A170, H⟩ := H
                replace H : (if t369 = true then ((sums_Fits32.f k t365).bind fun t370 => (if t370 = true then (if 0 ≤ (Int.tmod (wrap64 (a1)) 9) then (if (Int.tmod (wrap64 (a1)) 9 : Int).toNat ≤ 281474976710656 then ((some (List.replicate (Int.tmod (wrap64 (a1)) 9 : Int).toNat false : List Bool)).bind fun y371 => (if y371.length + t365.length < 140737488355328 then ((sums_Fits32.f k (y371 ++ t365)).bind fun t377 => (foghornlaw24_SumsBursts.j0 k a1 a2 t361 t365 (!t377))) else (none))) else (none)) else (none)) else (foghornlaw24_SumsBursts.j0 k a1 a2 t361 t365 true))) else (foghornlaw24_SumsBursts.j0 k a1 a2 t361 t365 true)) = some true := H
                have A17 := Aside0.mk A170
                clear A170
                by_cases c18 : t369 = true
                · subst c18
                  have H1 : ((sums_Fits32.f k t365).bind fun t370 => (if t370 = true then (if 0 ≤ (Int.tmod (wrap64 (a1)) 9) then (if (Int.tmod (wrap64 (a1)) 9 : Int).toNat ≤ 281474976710656 then ((some (List.replicate (Int.tmod (wrap64 (a1)) 9 : Int).toNat false : List Bool)).bind fun y371 => (if y371.length + t365.length < 140737488355328 then ((sums_Fits32.f k (y371 ++ t365)).bind fun t377 => (foghornlaw24_SumsBursts.j0 k a1 a2 t361 t365 (!t377))) else (none))) else (none)) else (none)) else (foghornlaw24_SumsBursts.j0 k a1 a2 t361 t365 true))) = some true := by rw [if_pos rfl] at H; exact H
                  clear H
                  have H := H1
                  clear H1
                  replace H := Option.bind_eq_some_iff.mp H
                  obtain ⟨t370, A190, H⟩ := H
                  replace H : (if t370 = true then (if 0 ≤ (Int.tmod (wrap64 (a1)) 9) then (if (Int.tmod (wrap64 (a1)) 9 : Int).toNat ≤ 281474976710656 then ((some (List.replicate (Int.tmod (wrap64 (a1)) 9 : Int).toNat false : List Bool)).bind fun y371 => (if y371.length + t365.length < 140737488355328 then ((sums_Fits32.f k (y371 ++ t365)).bind fun t377 => (foghornlaw24_SumsBursts.j0 k a1 a2 t361 t365 (!t377))) else (none))) else (none)) else (none)) else (foghornlaw24_SumsBursts.j0 k a1 a2 t361 t365 true)) = some true := H
                  have A19 := Aside0.mk A190
                  clear A190
                  by_cases c20 : t370 = true
                  · subst c20
                    have H1 : (if 0 ≤ (Int.tmod (wrap64 (a1)) 9) then (if (Int.tmod (wrap64 (a1)) 9 : Int).toNat ≤ 281474976710656 then ((some (List.replicate (Int.tmod (wrap64 (a1)) 9 : Int).toNat false : List Bool)).bind fun y371 => (if y371.length + t365.length < 140737488355328 then ((sums_Fits32.f k (y371 ++ t365)).bind fun t377 => (foghornlaw24_SumsBursts.j0 k a1 a2 t361 t365 (!t377))) else (none))) else (none)) else (none)) = some true := by rw [if_pos rfl] at H; exact H
                    clear H
                    have H := H1
                    clear H1
                    obtain ⟨ji21, hji21⟩ : ∃ j_ : Int, (Int.tmod (wrap64 (a1)) 9) = j_ := ⟨_, rfl⟩
                    replace H : (if 0 ≤ (ji21) then (if (ji21 : Int).toNat ≤ 281474976710656 then ((some (List.replicate (ji21 : Int).toNat false : List Bool)).bind fun y371 => (if y371.length + t365.length < 140737488355328 then ((sums_Fits32.f k (y371 ++ t365)).bind fun t377 => (foghornlaw24_SumsBursts.j0 k a1 a2 t361 t365 (!t377))) else (none))) else (none)) else (none)) = some true := by first | (rw [hji21] at H; exact H) | (simp only [hji21] at H ⊢; exact H)
                    (try rw [hji21] at A17)
                    (try rw [hji21] at A19)
                    by_cases c22 : 0 ≤ (ji21)
                    · rw [if_pos c22] at H
                      have c22b0 := eq_true c22
                      have c22b1 : decide (0 ≤ (ji21)) = true := decide_eq_true c22
                      clear c22
                      by_cases c23 : (ji21 : Int).toNat ≤ 281474976710656
                      · rw [if_pos c23] at H
                        have c23b0 := eq_true c23
                        have c23b1 : decide ((ji21 : Int).toNat ≤ 281474976710656) = true := decide_eq_true c23
                        clear c23
                        obtain ⟨y371, hy371⟩ : ∃ y_ : List Bool, y_ = (List.replicate (ji21 : Int).toNat false) := ⟨_, rfl⟩
                        replace H : (if y371.length + t365.length < 140737488355328 then ((sums_Fits32.f k (y371 ++ t365)).bind fun t377 => (foghornlaw24_SumsBursts.j0 k a1 a2 t361 t365 (!t377))) else (none)) = some true := by first | (rw [hy371]; with_reducible exact H) | (have H2_ := (Option.bind_some _ _).symm.trans H; rw [hy371]; with_reducible exact H2_) | (have H2_ := (Option.bind_some _ _).symm.trans H; with_reducible exact H2_) | with_reducible exact H | (rw [hy371]; exact H) | exact H
                        have Ny371 := Aside0.mk hy371
                        clear hy371
                        by_cases c24 : y371.length + t365.length < 140737488355328
                        · rw [if_pos c24] at H
                          have LMc24 := Aside0.mk c24
                          clear c24
                          obtain ⟨y374, hy374⟩ : ∃ y_ : List Bool, y_ = (y371 ++ t365) := ⟨_, rfl⟩
                          replace H : ((sums_Fits32.f k y374).bind fun t377 => (foghornlaw24_SumsBursts.j0 k a1 a2 t361 t365 (!t377))) = some true := by first | (rw [hy374]; with_reducible exact H) | (have H2_ := (Option.bind_some _ _).symm.trans H; rw [hy374]; with_reducible exact H2_) | (have H2_ := (Option.bind_some _ _).symm.trans H; with_reducible exact H2_) | with_reducible exact H | (rw [hy374]; exact H) | exact H
                          have Ny374 := Aside0.mk hy374
                          clear hy374
                          replace H := Option.bind_eq_some_iff.mp H
                          obtain ⟨t377, A250, H⟩ := H
                          replace H : (foghornlaw24_SumsBursts.j0 k a1 a2 t361 t365 (!t377)) = some true := H
                          have A25 := Aside0.mk A250
                          clear A250
                          have H' := Aside0.mk H
                          clear H
                          obtain ⟨Ao26, co26, eo26⟩ := Kd.R_slice HO364.out
                          subst eo26
                          obtain ⟨Ao27, co27, eo27⟩ := Kd.R_slice HO368.out
                          subst eo27
                          go_wp2_with (first | (go_at_call 31; (with_reducible refine (sums_Fits16.calls k _ _ t361 true _ ?side1 ?side2 A17.out).mono ?_); (case side1 => repeat (first | exact (Kd.R_reads' HO364.out).2.2 | (with_reducible refine Kd.C_alloc ?_ _) | (with_reducible refine Kd.C_drewN ?_ _) | (with_reducible refine Kd.C_drew ?_))); (case side2 => exact (Kd.R_reads' HO364.out).2.1); rintro e w28 ⟨rfl, hb⟩; have n0_ := Aside0.mk (Kd.R_below (by (with_reducible repeat (first | apply Kd.R_alloc | apply Kd.R_drewN | apply Kd.R_drew)); exact HO364.out) hb); have n1_ := Aside0.mk (Kd.R_below (by (with_reducible repeat (first | apply Kd.R_alloc | apply Kd.R_drewN | apply Kd.R_drew)); exact HO368.out) hb); have n2_ := Aside0.mk (below_step (by repeat (first | (with_reducible first | exact HB.out | apply below_alloc | apply pw_below_drewN | apply below_drew1) | exact HB.out)) hb); clear HO364; clear HO368; clear HB; have HO364 := n0_; have HO368 := n1_; have HB := n2_; clear n0_ n1_ n2_; (try clear hb); (try clear hb2); (try clear hk); (try clear hi)) | (go_at_call 32; (with_reducible refine (sums_Fits32.calls k _ _ t365 true _ ?side1 ?side2 A19.out).mono ?_); (case side1 => repeat (first | exact (Kd.R_reads' HO368.out).2.2 | (with_reducible refine Kd.C_alloc ?_ _) | (with_reducible refine Kd.C_drewN ?_ _) | (with_reducible refine Kd.C_drew ?_))); (case side2 => exact (Kd.R_reads' HO368.out).2.1); rintro e w29 ⟨rfl, hb⟩; have n0_ := Aside0.mk (Kd.R_below (by (with_reducible repeat (first | apply Kd.R_alloc | apply Kd.R_drewN | apply Kd.R_drew)); exact HO364.out) hb); have n1_ := Aside0.mk (Kd.R_below (by (with_reducible repeat (first | apply Kd.R_alloc | apply Kd.R_drewN | apply Kd.R_drew)); exact HO368.out) hb); have n2_ := Aside0.mk (below_step (by repeat (first | (with_reducible first | exact HB.out | apply below_alloc | apply pw_below_drewN | apply below_drew1) | exact HB.out)) hb); clear HO364; clear HO368; clear HB; have HO364 := n0_; have HO368 := n1_; have HB := n2_; clear n0_ n1_ n2_; (try clear hb); (try clear hb2); (try clear hk); (try clear hi)) | ((with_reducible refine gate_dst (N := 63) rfl ?_); (try (refine gate_guard (by rfl) ?_; dsimp only)); refine Kd.R_make Kd.bool _ 4 rfl (N := 63) rfl 22 _ _ rfl ji21 rfl rfl Try.underlying22 (.bool false) 1 info4 rfl (by decide) (by omega) false (ok := fun _ => True) (okp := fun _ => True) rfl (fun _ hk => hk) trivial (of_decide_eq_true (by first | (with_reducible assumption) | assumption)) (Nat.le_trans (Nat.mul_le_mul_right _ (of_decide_eq_true (by first | (with_reducible assumption) | assumption) : ji21.toNat ≤ 281474976710656)) (by omega)) (Below.refl _ _) (Nat.le_refl _) ?_; intro v372 w30 ho31 hb hg_ hnew_; clear hg_ hnew_; (first | rw [← Ny371.out] at ho31 | (simp only [Int.reduceToNat] at ho31; rw [← Ny371.out] at ho31)); have n0_ := Aside0.mk (Kd.R_elder' (by (with_reducible repeat (first | apply Kd.R_alloc | apply Kd.R_drewN | apply Kd.R_drew)); exact HO364.out) (Kd.R_base ho31) hb); have n1_ := Aside0.mk (Kd.R_elder' (by (with_reducible repeat (first | apply Kd.R_alloc | apply Kd.R_drewN | apply Kd.R_drew)); exact HO368.out) (Kd.R_base ho31) hb); have n2_ := Aside0.mk (Kd.R_lower (Kd.R_new' (Kd.R_new' ho31 (Kd.R_lt (by (with_reducible repeat (first | apply Kd.R_alloc | apply Kd.R_drewN | apply Kd.R_drew)); exact HO364.out))) (Kd.R_lt (by (with_reducible repeat (first | apply Kd.R_alloc | apply Kd.R_drewN | apply Kd.R_drew)); exact HO368.out))) (below_size (by repeat (first | (with_reducible first | exact HB.out | apply below_alloc | apply pw_below_drewN | apply below_drew1) | exact HB.out)))); have n3_ := Aside0.mk (below_step (by repeat (first | (with_reducible first | exact HB.out | apply below_alloc | apply pw_below_drewN | apply below_drew1) | exact HB.out)) hb); clear HO364; clear HO368; clear HB; have HO364 := n0_; have HO368 := n1_; have HO373 := n2_; have HB := n3_; clear n0_ n1_ n2_ n3_; clear hb ho31) | ((with_reducible refine gate_builtin (b := .append) (xs := #[.tmp 63, .tmp 64]) rfl ?_); (try (refine gate_guard (by rfl) ?_; dsimp only)); at_builtin; refine Kd.R_append_rows Kd.bool (w0 := w) w.heap.size rfl (.tmp 63) (.tmp 64) 22 4 (.bool false) 1 rfl Try.underlying22 info4 rfl (by decide) (by omega) v372 y371 t365 _ _ _ (fun k_ => some k_ ≠ (.slice Ao26 t361.length co26 : Value).ownBlock ∧ some k_ ≠ (.slice Ao27 t365.length co27 : Value).ownBlock) (fun _ => False) rfl rfl ?aO ?aR (fun _ _ h => h) (fun _ h => h.elim) ?aF ?aB ?aS ?aL ?_; (case aR => repeat (first | exact (Kd.R_reads' HO368.out).2.2 | (with_reducible refine Kd.C_alloc ?_ _) | (with_reducible refine Kd.C_drewN ?_ _) | (with_reducible refine Kd.C_drew ?_))); (case aB => exact (by repeat (first | (with_reducible first | exact HB.out | apply below_alloc | apply pw_below_drewN | apply below_drew1) | exact HB.out))); (case aF => exact (fun k_ hk => ⟨Kd.fresh' (Kd.R_lt (by (with_reducible repeat (first | apply Kd.R_alloc | apply Kd.R_drewN | apply Kd.R_drew)); exact HO364.out)) k_ hk, Kd.fresh' (Kd.R_lt (by (with_reducible repeat (first | apply Kd.R_alloc | apply Kd.R_drewN | apply Kd.R_drew)); exact HO368.out)) k_ hk⟩)); (case aO => exact (by (with_reducible repeat (first | apply Kd.R_alloc | apply Kd.R_drewN | apply Kd.R_drew)); exact Kd.R_mono HO373.out (fun _ hk => ⟨hk.1.2, hk.2⟩))); (case aS => exact (below_size (by repeat (first | (with_reducible first | exact HB.out | apply below_alloc | apply pw_below_drewN | apply below_drew1) | exact HB.out)))); (case aL => have := LMc24.out; omega); intro v375 w32 ho hb hg hat; rw [← Ny374.out] at ho; have n0_ := Aside0.mk (Kd.R_after (ok := (fun k_ => some k_ ≠ (.slice Ao27 t365.length co27 : Value).ownBlock)) (by (with_reducible repeat (first | apply Kd.R_alloc | apply Kd.R_drewN | apply Kd.R_drew)); exact Kd.R_mono HO364.out (fun _ hk => ⟨hk.1.2, hk.2⟩)) hg hat); have n1_ := Aside0.mk (Kd.R_after (ok := (fun k_ => some k_ ≠ (.slice Ao26 t361.length co26 : Value).ownBlock)) (by (with_reducible repeat (first | apply Kd.R_alloc | apply Kd.R_drewN | apply Kd.R_drew)); exact Kd.R_mono HO368.out (fun _ hk => ⟨hk.1.2, hk.2⟩)) hg hat); have n2_ := Aside0.mk (hb); have n3_ := Aside0.mk (ho); clear HO364; clear HO368; clear HB; clear HO373; have HO364 := n0_; have HO368 := n1_; have HB := n2_; have HO376 := n3_; clear n0_ n1_ n2_ n3_; clear ho hb hg hat; obtain ⟨Ao33, co33, eo33⟩ := Kd.R_slice HO376.out; subst eo33) | (go_at_call 32; (with_reducible refine (sums_Fits32.calls k _ _ y374 t377 _ ?side1 ?side2 A25.out).mono ?_); (case side1 => repeat (first | exact (Kd.R_reads' HO376.out).2.2 | (with_reducible refine Kd.C_alloc ?_ _) | (with_reducible refine Kd.C_drewN ?_ _) | (with_reducible refine Kd.C_drew ?_))); (case side2 => exact (Kd.R_reads' HO376.out).2.1); rintro e w34 ⟨rfl, hb⟩; have n0_ := Aside0.mk (Kd.R_below (by (with_reducible repeat (first | apply Kd.R_alloc | apply Kd.R_drewN | apply Kd.R_drew)); exact HO364.out) hb); have n1_ := Aside0.mk (Kd.R_below (by (with_reducible repeat (first | apply Kd.R_alloc | apply Kd.R_drewN | apply Kd.R_drew)); exact HO368.out) hb); have n2_ := Aside0.mk (Kd.R_below (by (with_reducible repeat (first | apply Kd.R_alloc | apply Kd.R_drewN | apply Kd.R_drew)); exact HO376.out) hb); have n3_ := Aside0.mk (below_step (by repeat (first | (with_reducible first | exact HB.out | apply below_alloc | apply pw_below_drewN | apply below_drew1) | exact HB.out)) hb); clear HO364; clear HO368; clear HO376; clear HB; have HO364 := n0_; have HO368 := n1_; have HO376 := n2_; have HB := n3_; clear n0_ n1_ n2_ n3_; (try clear hb); (try clear hb2); (try clear hk); (try clear hi)))
                          go_meet
                          case rel => exact ⟨_, (!t377), (by first | rfl | (simp; done) | (simp [*]; done) | (simp; omega) | (congr 1; omega) | (rw [hR_]; done) | (simp only [hR_]; done) | (simp [hR_]; done)), H', ⟨by first | omega | exact Nat.le_refl _⟩, ⟨by (with_reducible repeat (first | apply Kd.R_alloc | apply Kd.R_drewN | apply Kd.R_drew)); exact Kd.R_mono HO364.out (fun _ hk => hk.1)⟩, ⟨by (with_reducible repeat (first | apply Kd.R_alloc | apply Kd.R_drewN | apply Kd.R_drew)); exact Kd.R_mono HO368.out (fun _ hk => hk.1)⟩, ⟨by repeat (first | (with_reducible first | exact HB.out | apply below_alloc | apply pw_below_drewN | apply below_drew1) | exact HB.out)⟩⟩
                        · rw [if_neg c24] at H
                          exact absurd H (by simp)
                      · rw [if_neg c23] at H
                        exact absurd H (by simp)
                    · rw [if_neg c22] at H
                      exact absurd H (by simp)
                  · replace c20 := Bool.eq_false_iff.mpr c20
                    subst c20
                    have H1 : (foghornlaw24_SumsBursts.j0 k a1 a2 t361 t365 true) = some true := by rw [if_neg (show ¬ (false = true) by decide)] at H; exact H
                    clear H
                    have H := H1
                    clear H1
                    have H' := Aside0.mk H
                    clear H
                    obtain ⟨Ao35, co35, eo35⟩ := Kd.R_slice HO364.out
                    subst eo35
                    obtain ⟨Ao36, co36, eo36⟩ := Kd.R_slice HO368.out
                    subst eo36
                    go_wp2_with (first | (go_at_call 31; (with_reducible refine (sums_Fits16.calls k _ _ t361 true _ ?side1 ?side2 A17.out).mono ?_); (case side1 => repeat (first | exact (Kd.R_reads' HO364.out).2.2 | (with_reducible refine Kd.C_alloc ?_ _) | (with_reducible refine Kd.C_drewN ?_ _) | (with_reducible refine Kd.C_drew ?_))); (case side2 => exact (Kd.R_reads' HO364.out).2.1); rintro e w37 ⟨rfl, hb⟩; have n0_ := Aside0.mk (Kd.R_below (by (with_reducible repeat (first | apply Kd.R_alloc | apply Kd.R_drewN | apply Kd.R_drew)); exact HO364.out) hb); have n1_ := Aside0.mk (Kd.R_below (by (with_reducible repeat (first | apply Kd.R_alloc | apply Kd.R_drewN | apply Kd.R_drew)); exact HO368.out) hb); have n2_ := Aside0.mk (below_step (by repeat (first | (with_reducible first | exact HB.out | apply below_alloc | apply pw_below_drewN | apply below_drew1) | exact HB.out)) hb); clear HO364; clear HO368; clear HB; have HO364 := n0_; have HO368 := n1_; have HB := n2_; clear n0_ n1_ n2_; (try clear hb); (try clear hb2); (try clear hk); (try clear hi)) | (go_at_call 32; (with_reducible refine (sums_Fits32.calls k _ _ t365 false _ ?side1 ?side2 A19.out).mono ?_); (case side1 => repeat (first | exact (Kd.R_reads' HO368.out).2.2 | (with_reducible refine Kd.C_alloc ?_ _) | (with_reducible refine Kd.C_drewN ?_ _) | (with_reducible refine Kd.C_drew ?_))); (case side2 => exact (Kd.R_reads' HO368.out).2.1); rintro e w38 ⟨rfl, hb⟩; have n0_ := Aside0.mk (Kd.R_below (by (with_reducible repeat (first | apply Kd.R_alloc | apply Kd.R_drewN | apply Kd.R_drew)); exact HO364.out) hb); have n1_ := Aside0.mk (Kd.R_below (by (with_reducible repeat (first | apply Kd.R_alloc | apply Kd.R_drewN | apply Kd.R_drew)); exact HO368.out) hb); have n2_ := Aside0.mk (below_step (by repeat (first | (with_reducible first | exact HB.out | apply below_alloc | apply pw_below_drewN | apply below_drew1) | exact HB.out)) hb); clear HO364; clear HO368; clear HB; have HO364 := n0_; have HO368 := n1_; have HB := n2_; clear n0_ n1_ n2_; (try clear hb); (try clear hb2); (try clear hk); (try clear hi)))
                    go_meet
                    case rel => exact ⟨_, (true), (by first | rfl | (simp; done) | (simp [*]; done) | (simp; omega) | (congr 1; omega) | (rw [hR_]; done) | (simp only [hR_]; done) | (simp [hR_]; done)), H', ⟨by first | omega | exact Nat.le_refl _⟩, ⟨by (with_reducible repeat (first | apply Kd.R_alloc | apply Kd.R_drewN | apply Kd.R_drew)); exact Kd.R_mono HO364.out (fun _ hk => hk.2)⟩, ⟨by (with_reducible repeat (first | apply Kd.R_alloc | apply Kd.R_drewN | apply Kd.R_drew)); exact Kd.R_mono HO368.out (fun _ hk => hk.2)⟩, ⟨by repeat (first | (with_reducible first | exact HB.out | apply below_alloc | apply pw_below_drewN | apply below_drew1) | exact HB.out)⟩⟩
                · replace c18 := Bool.eq_false_iff.mpr c18
                  subst c18
                  have H1 : (foghornlaw24_SumsBursts.j0 k a1 a2 t361 t365 true) = some true := by rw [if_neg (show ¬ (false = true) by decide)] at H; exact H
                  clear H
                  have H := H1
                  clear H1
                  have H' := Aside0.mk H
                  clear H
                  obtain ⟨Ao39, co39, eo39⟩ := Kd.R_slice HO364.out
                  subst eo39
                  obtain ⟨Ao40, co40, eo40⟩ := Kd.R_slice HO368.out
                  subst eo40
                  go_wp2_with (first | (go_at_call 31; (with_reducible refine (sums_Fits16.calls k _ _ t361 false _ ?side1 ?side2 A17.out).mono ?_); (case side1 => repeat (first | exact (Kd.R_reads' HO364.out).2.2 | (with_reducible refine Kd.C_alloc ?_ _) | (with_reducible refine Kd.C_drewN ?_ _) | (with_reducible refine Kd.C_drew ?_))); (case side2 => exact (Kd.R_reads' HO364.out).2.1); rintro e w41 ⟨rfl, hb⟩; have n0_ := Aside0.mk (Kd.R_below (by (with_reducible repeat (first | apply Kd.R_alloc | apply Kd.R_drewN | apply Kd.R_drew)); exact HO364.out) hb); have n1_ := Aside0.mk (Kd.R_below (by (with_reducible repeat (first | apply Kd.R_alloc | apply Kd.R_drewN | apply Kd.R_drew)); exact HO368.out) hb); have n2_ := Aside0.mk (below_step (by repeat (first | (with_reducible first | exact HB.out | apply below_alloc | apply pw_below_drewN | apply below_drew1) | exact HB.out)) hb); clear HO364; clear HO368; clear HB; have HO364 := n0_; have HO368 := n1_; have HB := n2_; clear n0_ n1_ n2_; (try clear hb); (try clear hb2); (try clear hk); (try clear hi)))
                  go_meet
                  case rel => exact ⟨_, (true), (by first | rfl | (simp; done) | (simp [*]; done) | (simp; omega) | (congr 1; omega) | (rw [hR_]; done) | (simp only [hR_]; done) | (simp [hR_]; done)), H', ⟨by first | omega | exact Nat.le_refl _⟩, ⟨by (with_reducible repeat (first | apply Kd.R_alloc | apply Kd.R_drewN | apply Kd.R_drew)); exact Kd.R_mono HO364.out (fun _ hk => hk.2)⟩, ⟨by (with_reducible repeat (first | apply Kd.R_alloc | apply Kd.R_drewN | apply Kd.R_drew)); exact Kd.R_mono HO368.out (fun _ hk => hk.2)⟩, ⟨by repeat (first | (with_reducible first | exact HB.out | apply below_alloc | apply pw_below_drewN | apply below_drew1) | exact HB.out)⟩⟩
              · rw [if_neg c16] at H
                have c16b0 : ((t365.length : Int) == (wrap64 ((y357.length : Int) + 32))) = false := beq_eq_false_iff_ne.mpr c16
                have c16b1 : ((t365.length : Int) != (wrap64 ((y357.length : Int) + 32))) = true := bne_iff_ne.mpr c16
                have H' := Aside0.mk H
                clear H
                obtain ⟨Ao42, co42, eo42⟩ := Kd.R_slice HO364.out
                subst eo42
                obtain ⟨Ao43, co43, eo43⟩ := Kd.R_slice HO368.out
                subst eo43
                go_wp2
                go_meet
                case rel => exact ⟨_, (true), (by first | rfl | (simp; done) | (simp [*]; done) | (simp; omega) | (congr 1; omega) | (rw [hR_]; done) | (simp only [hR_]; done) | (simp [hR_]; done)), H', ⟨by first | omega | exact Nat.le_refl _⟩, ⟨by (with_reducible repeat (first | apply Kd.R_alloc | apply Kd.R_drewN | apply Kd.R_drew)); exact Kd.R_mono HO364.out (fun _ hk => hk.2)⟩, ⟨by (with_reducible repeat (first | apply Kd.R_alloc | apply Kd.R_drewN | apply Kd.R_drew)); exact Kd.R_mono HO368.out (fun _ hk => hk.2)⟩, ⟨by repeat (first | (with_reducible first | exact HB.out | apply below_alloc | apply pw_below_drewN | apply below_drew1) | exact HB.out)⟩⟩
            · rw [if_neg c15] at H
              have c15b0 : ((t361.length : Int) == (wrap64 ((y357.length : Int) + 16))) = false := beq_eq_false_iff_ne.mpr c15
              have c15b1 : ((t361.length : Int) != (wrap64 ((y357.length : Int) + 16))) = true := bne_iff_ne.mpr c15
              have H' := Aside0.mk H
              clear H
              obtain ⟨Ao44, co44, eo44⟩ := Kd.R_slice HO364.out
              subst eo44
              go_wp2
              go_meet
              case rel => exact ⟨_, (true), (by first | rfl | (simp; done) | (simp [*]; done) | (simp; omega) | (congr 1; omega) | (rw [hR_]; done) | (simp only [hR_]; done) | (simp [hR_]; done)), H', ⟨by first | omega | exact Nat.le_refl _⟩, ⟨by (with_reducible repeat (first | apply Kd.R_alloc | apply Kd.R_drewN | apply Kd.R_drew)); exact Kd.R_mono HO364.out (fun _ hk => hk.2)⟩, ⟨by (with_reducible repeat (first | apply Kd.R_alloc | apply Kd.R_drewN | apply Kd.R_drew)); exact Kd.R_mono HO368.out (fun _ hk => hk.2)⟩, ⟨by repeat (first | (with_reducible first | exact HB.out | apply below_alloc | apply pw_below_drewN | apply below_drew1) | exact HB.out)⟩⟩
          · rw [if_neg c14] at H
            have c14b0 : (t366 == 0) = false := beq_eq_false_iff_ne.mpr c14
            have c14b1 : (t366 != 0) = true := bne_iff_ne.mpr c14
            have H' := Aside0.mk H
            clear H
            go_wp2
            go_meet
            case rel => exact ⟨_, (true), (by first | rfl | (simp; done) | (simp [*]; done) | (simp; omega) | (congr 1; omega) | (rw [hR_]; done) | (simp only [hR_]; done) | (simp [hR_]; done)), H', ⟨by first | omega | exact Nat.le_refl _⟩, ⟨by (with_reducible repeat (first | apply Kd.R_alloc | apply Kd.R_drewN | apply Kd.R_drew)); exact Kd.R_mono HO364.out (fun _ hk => hk.2)⟩, ⟨by (with_reducible repeat (first | apply Kd.R_alloc | apply Kd.R_drewN | apply Kd.R_drew)); exact Kd.R_mono HO368.out (fun _ hk => hk.2)⟩, ⟨by repeat (first | (with_reducible first | exact HB.out | apply below_alloc | apply pw_below_drewN | apply below_drew1) | exact HB.out)⟩⟩
        · rw [if_neg c13] at H
          have c13b0 : (t362 == 0) = false := beq_eq_false_iff_ne.mpr c13
          have c13b1 : (t362 != 0) = true := bne_iff_ne.mpr c13
          (first | rw [c13b0] | (simp only [i64_w, i32_w]; rw [c13b0]) | skip)
          have H' := Aside0.mk H
          clear H
          go_wp2
          go_meet
          case rel => exact ⟨_, (true), (by first | rfl | (simp; done) | (simp [*]; done) | (simp; omega) | (congr 1; omega) | (rw [hR_]; done) | (simp only [hR_]; done) | (simp [hR_]; done)), H', ⟨by first | omega | exact Nat.le_refl _⟩, ⟨by (with_reducible repeat (first | apply Kd.R_alloc | apply Kd.R_drewN | apply Kd.R_drew)); exact Kd.R_mono HO364.out (fun _ hk => hk.2)⟩, ⟨by (with_reducible repeat (first | apply Kd.R_alloc | apply Kd.R_drewN | apply Kd.R_drew)); exact Kd.R_mono HO368.out (fun _ hk => hk.2)⟩, ⟨by repeat (first | (with_reducible first | exact HB.out | apply below_alloc | apply pw_below_drewN | apply below_drew1) | exact HB.out)⟩⟩
      case rest =>
        clear HC9
        try clear c1
        try clear q1
        try clear c2
        try clear p2
        try clear c3
        try clear c5
        try clear c5b0
        try clear c5b1
        try clear c6
        try clear c6b0
        try clear c6b1
        try clear p6
        try clear q10
        try clear c13
        try clear c13b0
        try clear c13b1
        try clear c14
        try clear c14b0
        try clear c14b1
        try clear c15
        try clear c15b0
        try clear c15b1
        try clear c16
        try clear c16b0
        try clear c16b1
        try clear c18
        try clear c20
        try clear c22
        try clear c22b0
        try clear c22b1
        try clear c23
        try clear c23b0
        try clear c23b1
        try clear c24
        try clear c29
        try clear c30
        try clear q10
        obtain ⟨kq, x68_8, rfl, HA, HJ8, HO_8, HO_10, HB⟩ := hcut
        cases kq with
        | zero => exact absurd HA.out (by simp [foghornlaw24_SumsBursts.j0])
        | succ kj8 =>
          have H := HA.out
          clear HA
          simp only [foghornlaw24_SumsBursts.j0] at H
          by_cases c45 : x68_8 = true
          · subst c45
            have H1 : (some false) = some true := by rw [if_pos rfl] at H; exact H
            clear H
            have H := H1
            clear H1
            exact absurd H (by simp)
          · replace c45 := Bool.eq_false_iff.mpr c45
            subst c45
            have H1 : ((foghornlaw24_torn.f kj8 t361 16 (wrap64 (a1)) (Int.tmod a2 65536)).bind fun t378 => (if t378 = true then ((foghornlaw24_torn.f kj8 t365 32 (wrap64 (a1)) a2).bind fun t379 => (if t379 = true then ((foghornlaw24_awake.f kj8).bind fun t380 => (some t380)) else (some false))) else (some false))) = some true := by rw [if_neg (show ¬ (false = true) by decide)] at H; exact H
            clear H
            have H := H1
            clear H1
            replace H := Option.bind_eq_some_iff.mp H
            obtain ⟨t378, A460, H⟩ := H
            replace H : (if t378 = true then ((foghornlaw24_torn.f kj8 t365 32 (wrap64 (a1)) a2).bind fun t379 => (if t379 = true then ((foghornlaw24_awake.f kj8).bind fun t380 => (some t380)) else (some false))) else (some false)) = some true := H
            have A46 := Aside0.mk A460
            clear A460
            by_cases c47 : t378 = true
            · subst c47
              have H1 : ((foghornlaw24_torn.f kj8 t365 32 (wrap64 (a1)) a2).bind fun t379 => (if t379 = true then ((foghornlaw24_awake.f kj8).bind fun t380 => (some t380)) else (some false))) = some true := by rw [if_pos rfl] at H; exact H
              clear H
              have H := H1
              clear H1
              replace H := Option.bind_eq_some_iff.mp H
              obtain ⟨t379, A480, H⟩ := H
              replace H : (if t379 = true then ((foghornlaw24_awake.f kj8).bind fun t380 => (some t380)) else (some false)) = some true := H
              have A48 := Aside0.mk A480
              clear A480
              by_cases c49 : t379 = true
              · subst c49
                have H1 : ((foghornlaw24_awake.f kj8).bind fun t380 => (some t380)) = some true := by rw [if_pos rfl] at H; exact H
                clear H
                have H := H1
                clear H1
                replace H := Option.bind_eq_some_iff.mp H
                obtain ⟨t380, A500, H⟩ := H
                replace H : (some t380) = some true := H
                have A50 := Aside0.mk A500
                clear A500
                obtain rfl := Option.some.inj H
                obtain ⟨Ao51, co51, eo51⟩ := Kd.R_slice HO_8.out
                subst eo51
                go_wp2_with (first | ((with_reducible refine gate_callee (f := 33) rfl ?_); refine goesL_ (some 74) rfl rfl Try.func33 (by kernel_rfl) rfl #[.slice Ao51 t361.length co51, .int .i64 16, .int .i64 (wrap64 (a1)), .int .u32 (Int.tmod a2 65536)] rfl (by (try simp only [List.map_toArray, List.map_cons, List.map_nil]); first | done | rfl | (simp only [List.length_drop, List.length_take]; rfl)) ?_; (with_reducible refine (foghornlaw24_torn.calls kj8 _ _ t361 16 (wrap64 (a1)) (Int.tmod a2 65536) true _ ?side1 ?side2 A46.out).mono ?_); (case side1 => repeat (first | exact (Kd.R_reads' HO_8.out).2.2 | (with_reducible refine Kd.C_alloc ?_ _) | (with_reducible refine Kd.C_drewN ?_ _) | (with_reducible refine Kd.C_drew ?_))); (case side2 => exact (Kd.R_reads' HO_8.out).2.1); rintro e w52 ⟨rfl, hb⟩; refine ⟨_, rfl, ?_⟩; have n0_ := Aside0.mk (Kd.R_below (by (with_reducible repeat (first | apply Kd.R_alloc | apply Kd.R_drewN | apply Kd.R_drew)); exact HO_8.out) hb); have n1_ := Aside0.mk (Kd.R_below (by (with_reducible repeat (first | apply Kd.R_alloc | apply Kd.R_drewN | apply Kd.R_drew)); exact HO_10.out) hb); have n2_ := Aside0.mk (below_step (by repeat (first | (with_reducible first | exact HB.out | apply below_alloc | apply pw_below_drewN | apply below_drew1) | exact HB.out)) hb); clear HO_8; clear HO_10; clear HB; have HO_8 := n0_; have HO_10 := n1_; have HB := n2_; clear n0_ n1_ n2_; (try clear hb); (try clear hb2); (try clear hk); (try clear hi); obtain ⟨Ao53, co53, eo53⟩ := Kd.R_slice HO_10.out; subst eo53) | (go_at_call 33; (with_reducible refine (foghornlaw24_torn.calls kj8 _ _ t365 32 (wrap64 (a1)) a2 true _ ?side1 ?side2 A48.out).mono ?_); (case side1 => repeat (first | exact (Kd.R_reads' HO_10.out).2.2 | (with_reducible refine Kd.C_alloc ?_ _) | (with_reducible refine Kd.C_drewN ?_ _) | (with_reducible refine Kd.C_drew ?_))); (case side2 => exact (Kd.R_reads' HO_10.out).2.1); rintro e w54 ⟨rfl, hb⟩; have n0_ := Aside0.mk (Kd.R_below (by (with_reducible repeat (first | apply Kd.R_alloc | apply Kd.R_drewN | apply Kd.R_drew)); exact HO_8.out) hb); have n1_ := Aside0.mk (Kd.R_below (by (with_reducible repeat (first | apply Kd.R_alloc | apply Kd.R_drewN | apply Kd.R_drew)); exact HO_10.out) hb); have n2_ := Aside0.mk (below_step (by repeat (first | (with_reducible first | exact HB.out | apply below_alloc | apply pw_below_drewN | apply below_drew1) | exact HB.out)) hb); clear HO_8; clear HO_10; clear HB; have HO_8 := n0_; have HO_10 := n1_; have HB := n2_; clear n0_ n1_ n2_; (try clear hb); (try clear hb2); (try clear hk); (try clear hi)) | (go_at_call 13; (with_reducible refine (foghornlaw24_awake.calls kj8  true _ A50.out).mono ?_); rintro e w55 ⟨rfl, hb⟩; have n0_ := Aside0.mk (Kd.R_below (by (with_reducible repeat (first | apply Kd.R_alloc | apply Kd.R_drewN | apply Kd.R_drew)); exact HO_8.out) hb); have n1_ := Aside0.mk (Kd.R_below (by (with_reducible repeat (first | apply Kd.R_alloc | apply Kd.R_drewN | apply Kd.R_drew)); exact HO_10.out) hb); have n2_ := Aside0.mk (below_step (by repeat (first | (with_reducible first | exact HB.out | apply below_alloc | apply pw_below_drewN | apply below_drew1) | exact HB.out)) hb); clear HO_8; clear HO_10; clear HB; have HO_8 := n0_; have HO_10 := n1_; have HB := n2_; clear n0_ n1_ n2_; (try clear hb); (try clear hb2); (try clear hk); (try clear hi)))
                go_ret
                exact ⟨by first | rfl | (simp [errW_none, errW_some] <;> rfl) | (simp only [← hji4]; first | rfl | (simp [errW_none, errW_some] <;> rfl)) | (simp [*, errW_none, errW_some] <;> rfl), by repeat (first | (with_reducible first | exact HB.out | apply below_alloc | apply pw_below_drewN | apply below_drew1) | exact HB.out)⟩
              · replace c49 := Bool.eq_false_iff.mpr c49
                subst c49
                have H1 : (some false) = some true := by rw [if_neg (show ¬ (false = true) by decide)] at H; exact H
                clear H
                have H := H1
                clear H1
                exact absurd H (by simp)
            · replace c47 := Bool.eq_false_iff.mpr c47
              subst c47
              have H1 : (some false) = some true := by rw [if_neg (show ¬ (false = true) by decide)] at H; exact H
              clear H
              have H := H1
              clear H1
              exact absurd H (by simp)
    · rw [if_neg c6] at H
      exact absurd H (by simp)
  · rw [if_neg c5] at H
    exact absurd H (by simp)

end Go.Proofs.Ytjnedgkpakoceaa.Fog
