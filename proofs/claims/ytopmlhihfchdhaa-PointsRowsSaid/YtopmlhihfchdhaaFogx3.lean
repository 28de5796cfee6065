-- Written by fog.py, a program of this session, over the kit's print.
import Derived.Test.YtopmlhihfchdhaaFogx0
import Derived.Test.YtopmlhihfchdhaaFogx2
namespace Go.Proofs.Ytopmlhihfchdhaa.Fog
open Go.RowKit Go.Proofs.YtopmlhihfchdhaaW.PrintWords Go.Proofs.YtopmlhihfchdhaaW.PrintLast Go.Proofs.YtopmlhihfchdhaaW.PrintMore
attribute [local go_sem] max2_int min2_int max_two min_two max_three min_three max_four min_four   -- for this text's walks alone
attribute [local go_sem] fog_signed_u8 fog_max_u8 fog_signed_u16 fog_max_u16 fog_signed_u32 fog_max_u32 fog_signed_u64 fog_max_u64
set_option linter.unusedVariables false
set_option linter.unusedSimpArgs false

/-! ### foghornref04_Energy: function 20 -/
def foghornref04_Energy.l0 : Nat → List (S65) → Int → Int → Int → Option (Int × Int)
  | 0, _, _, _, _ => none
  | k + 1, x4, x5, x6, x7 => if x7 < (x4.length : Int) then (if 0 ≤ x7 then (foghornref04_Energy.l0 k x4 x5 (wrap64 ((wrap64 (x6 + (wrap64 (((rd_T65 x4 x7).f0) * ((rd_T65 x4 x7).f0))))) + (wrap64 (((rd_T65 x4 x7).f1) * ((rd_T65 x4 x7).f1))))) (wrap64 (x7 + 1))) else (none)) else (some (x6, x5))
def foghornref04_Energy.f (k : Nat) (a0 : Int) : Option (Int × Int) := (foghornref04_Points.f k a0).bind fun bt137 => (foghornref04_Energy.l0 k bt137.1 bt137.2 0 0)
theorem foghornref04_Energy.mono_l : ∀ k, (∀ y0 y1 y2 y3, LeO (foghornref04_Energy.l0 k y0 y1 y2 y3) (foghornref04_Energy.l0 (k + 1) y0 y1 y2 y3))
  | 0 => fun _ _ _ _ r h => by simp [foghornref04_Energy.l0] at h
  | k + 1 => by
    have ih0 := foghornref04_Energy.mono_l k
    · intro y0 y1 y2 y3
      unfold foghornref04_Energy.l0
      repeat' first
      | (with_reducible exact ih0 _ _ _ _)
      | (with_reducible exact foghornref04_Points.mono _ _)
      | (with_reducible exact LeO.refl _)
      | (with_reducible exact LeO.none _)
      | (with_reducible refine LeO.ite ?_ ?_)
      | (with_reducible refine LeO.bind ?_ (fun _ => ?_))
      | exact ih0 _ _ _ _
      | exact foghornref04_Points.mono _ _
      | exact LeO.none _
      | refine LeO.ite ?_ ?_
      | refine LeO.bind ?_ (fun _ => ?_)
theorem foghornref04_Energy.mono : ∀ a0 k, LeO (foghornref04_Energy.f k a0) (foghornref04_Energy.f (k + 1) a0) := by
  intro a0 k
  have ih0 := foghornref04_Energy.mono_l k
  unfold foghornref04_Energy.f
  repeat' first
      | (with_reducible exact ih0 _ _ _ _)
      | (with_reducible exact foghornref04_Points.mono _ _)
      | (with_reducible exact LeO.refl _)
      | (with_reducible exact LeO.none _)
      | (with_reducible refine LeO.ite ?_ ?_)
      | (with_reducible refine LeO.bind ?_ (fun _ => ?_))
      | exact ih0 _ _ _ _
      | exact foghornref04_Points.mono _ _
      | exact LeO.none _
      | refine LeO.ite ?_ ?_
      | refine LeO.bind ?_ (fun _ => ?_)
set_option maxHeartbeats 8000000 in
set_option maxRecDepth 100000 in
theorem foghornref04_Energy.calls (k : Nat) (a0 : Int) (r1 : Int) (r2 : Int) (w : World) (h : foghornref04_Energy.f k a0 = some (r1, r2)) :
    Calls Try.prog 20 #[.int .i64 a0] w fun e w' => e = .returned (.tuple #[.int .i64 r1, .int .i64 r2]) ∧ Below w.heap.size w w' := by
  have HB := Aside0.mk (Below.refl w.heap.size w)
  have H : ((foghornref04_Points.f k a0).bind fun bt137 => (foghornref04_Energy.l0 k bt137.1 bt137.2 0 0)) = some (r1, r2) := h
  clear h
  replace H := Option.bind_eq_some_iff.mp H
  obtain ⟨⟨t137, t138⟩, A20, H⟩ := H
  replace H : (foghornref04_Energy.l0 k t137 t138 0 0) = some (r1, r2) := H
  have A2 := Aside0.mk A20
  clear A20
  have H' := Aside0.mk H
  clear H
  go_enter Try.func20, Try.ntmps20
  go_wp2_with (first | (go_at_call 42; (with_reducible refine (foghornref04_Points.calls k a0 t137 t138 _ A2.out).mono ?_); rintro e w3 ⟨v139, rfl, ho0, hb⟩; have n0_ := Aside0.mk (Kd.R_lower ho0 (below_size (by repeat (first | (with_reducible first | exact HB.out | apply below_alloc | apply pw_below_drewN | apply below_drew1) | exact HB.out)))); have n1_ := Aside0.mk (below_step (by repeat (first | (with_reducible first | exact HB.out | apply below_alloc | apply pw_below_drewN | apply below_drew1) | exact HB.out)) hb); clear HB; have HO140 := n0_; have HB := n1_; clear n0_ n1_; (try clear hb); (try clear hb2); (try clear hk); (try clear hi); (try clear ho0)))
  repeat (go_quiet (first | (go_at_call 42; (with_reducible refine (foghornref04_Points.calls k a0 t137 t138 _ A2.out).mono ?_); rintro e w3 ⟨v139, rfl, ho0, hb⟩; have n0_ := Aside0.mk (Kd.R_lower ho0 (below_size (by repeat (first | (with_reducible first | exact HB.out | apply below_alloc | apply pw_below_drewN | apply below_drew1) | exact HB.out)))); have n1_ := Aside0.mk (below_step (by repeat (first | (with_reducible first | exact HB.out | apply below_alloc | apply pw_below_drewN | apply below_drew1) | exact HB.out)) hb); clear HB; have HO140 := n0_; have HB := n1_; clear n0_ n1_; (try clear hb); (try clear hb2); (try clear hk); (try clear hi); (try clear ho0))); try go_wp2_with (first | (go_at_call 42; (with_reducible refine (foghornref04_Points.calls k a0 t137 t138 _ A2.out).mono ?_); rintro e w3 ⟨v139, rfl, ho0, hb⟩; have n0_ := Aside0.mk (Kd.R_lower ho0 (below_size (by repeat (first | (with_reducible first | exact HB.out | apply below_alloc | apply pw_below_drewN | apply below_drew1) | exact HB.out)))); have n1_ := Aside0.mk (below_step (by repeat (first | (with_reducible first | exact HB.out | apply below_alloc | apply pw_below_drewN | apply below_drew1) | exact HB.out)) hb); clear HB; have HO140 := n0_; have HB := n1_; clear n0_ n1_; (try clear hb); (try clear hb2); (try clear hk); (try clear hi); (try clear ho0))))
  go_loopg [6, 7] k (fun kq v6 v7 w' => ∃ (x6_1 : Int) (x7_1 : Int), v6 = .int .i64 x6_1 ∧ v7 = .int .i64 x7_1 ∧ Aside0 (foghornref04_Energy.l0 kq t137 t138 x6_1 x7_1 = some (r1, r2)) ∧ Aside0 (kq ≤ k) ∧ Aside0 (Kd.R k65 65 w' w.heap.size (fun _ => True) v139 t137) ∧ Aside0 (Below w.heap.size w w'))
  case atStart => exact ⟨(0), (0), (by first | rfl | (simp; done) | (simp [*]; done) | (simp; omega) | (congr 1; omega) | (rw [hR_]; done) | (simp only [hR_]; done) | (simp [hR_]; done)), (by first | rfl | (simp; done) | (simp [*]; done) | (simp; omega) | (congr 1; omega) | (rw [hR_]; done) | (simp only [hR_]; done) | (simp [hR_]; done)), H', ⟨Nat.le_refl _⟩, ⟨by (with_reducible repeat (first | apply Kd.R_alloc | apply Kd.R_drewN | apply Kd.R_drew)); exact HO140.out⟩, ⟨by repeat (first | (with_reducible first | exact HB.out | apply below_alloc | apply pw_below_drewN | apply below_drew1) | exact HB.out)⟩⟩
  case round =>
    clear H'
    try clear c2
    try clear p2
    obtain ⟨x6_1, x7_1, rfl, rfl, HA, HK1, HO_4, HB⟩ := hrel
    cases gk with
    | zero => exact absurd HA.out (by simp [foghornref04_Energy.l0])
    | succ k1 =>
      have H := HA.out
      clear HA
      simp only [foghornref04_Energy.l0] at H
      by_cases c4 : x7_1 < (t137.length : Int)
      · rw [if_pos c4] at H
        have c4b0 : decide (x7_1 < (t137.length : Int)) = true := decide_eq_true c4
        clear c4
        by_cases c5 : 0 ≤ x7_1
        · rw [if_pos c5] at H
          have c5b0 : decide (0 ≤ x7_1) = true := decide_eq_true c5
          clear c5
          have H' := Aside0.mk H
          clear H
          obtain ⟨Ao6, co6, eo6⟩ := Kd.R_slice HO_4.out
          subst eo6
          have p141 : 0 ≤ (x7_1 : Int) := of_decide_eq_true (by first | (with_reducible assumption) | assumption)
          have q141 : x7_1 < (t137.length : Int) := of_decide_eq_true (by first | (with_reducible assumption) | assumption)
          obtain ⟨ad141, e141, hx141_0, hx141_1⟩ := at_T65 (Kd.R_reads' HO_4.out).2.2 x7_1 p141 q141
          cases e141
          replace p141 := eq_true p141
          replace q141 := eq_true q141
          have p142 : 0 ≤ (x7_1 : Int) := of_decide_eq_true (by first | (with_reducible assumption) | assumption)
          have q142 : x7_1 < (t137.length : Int) := of_decide_eq_true (by first | (with_reducible assumption) | assumption)
          obtain ⟨ad142, e142, hx142_0, hx142_1⟩ := at_T65 (Kd.R_reads' HO_4.out).2.2 x7_1 p142 q142
          obtain rfl : ad141 = ad142 := (by injection e142)
          replace p142 := eq_true p142
          replace q142 := eq_true q142
          have p143 : 0 ≤ (x7_1 : Int) := of_decide_eq_true (by first | (with_reducible assumption) | assumption)
          have q143 : x7_1 < (t137.length : Int) := of_decide_eq_true (by first | (with_reducible assumption) | assumption)
          obtain ⟨ad143, e143, hx143_0, hx143_1⟩ := at_T65 (Kd.R_reads' HO_4.out).2.2 x7_1 p143 q143
          obtain rfl : ad141 = ad143 := (by injection e143)
          replace p143 := eq_true p143
          replace q143 := eq_true q143
          have p144 : 0 ≤ (x7_1 : Int) := of_decide_eq_true (by first | (with_reducible assumption) | assumption)
          have q144 : x7_1 < (t137.length : Int) := of_decide_eq_true (by first | (with_reducible assumption) | assumption)
          obtain ⟨ad144, e144, hx144_0, hx144_1⟩ := at_T65 (Kd.R_reads' HO_4.out).2.2 x7_1 p144 q144
          obtain rfl : ad141 = ad144 := (by injection e144)
          replace p144 := eq_true p144
          replace q144 := eq_true q144
          go_wp2
          repeat (go_quiet (fail); try go_wp2)
          (first | go_roundg k1 | (simp only [add_plain] at *; go_roundg k1))
          case measure => have := HK1.out; omega
          case rel => exact ⟨(wrap64 ((wrap64 (x6_1 + (wrap64 (((rd_T65 t137 x7_1).f0) * ((rd_T65 t137 x7_1).f0))))) + (wrap64 (((rd_T65 t137 x7_1).f1) * ((rd_T65 t137 x7_1).f1))))), (wrap64 (x7_1 + 1)), (by first | rfl | (simp; done) | (simp [*]; done) | (simp; omega) | (congr 1; omega) | (rw [hR_]; done) | (simp only [hR_]; done) | (simp [hR_]; done)), (by first | rfl | (simp; done) | (simp [*]; done) | (simp; omega) | (congr 1; omega) | (rw [hR_]; done) | (simp only [hR_]; done) | (simp [hR_]; done)), H', ⟨by have := HK1.out; omega⟩, ⟨by (with_reducible repeat (first | apply Kd.R_alloc | apply Kd.R_drewN | apply Kd.R_drew)); exact HO_4.out⟩, ⟨by repeat (first | (with_reducible first | exact HB.out | apply below_alloc | apply pw_below_drewN | apply below_drew1) | exact HB.out)⟩⟩
        · rw [if_neg c5] at H
          exact absurd H (by simp)
      · rw [if_neg c4] at H
        have c4b0 : decide (x7_1 < (t137.length : Int)) = false := decide_eq_false c4
        clear c4
        simp only [Option.some.injEq, Prod.mk.injEq] at H
        obtain ⟨rfl, rfl⟩ := H
        obtain ⟨Ao7, co7, eo7⟩ := Kd.R_slice HO_4.out
        subst eo7
        go_wp2
        repeat (go_quiet (fail); try go_wp2)
        go_ret2
        exact ⟨by first | rfl | (simp [errW_none, errW_some] <;> rfl) | (simp [*, errW_none, errW_some] <;> rfl), by repeat (first | (with_reducible first | exact HB.out | apply below_alloc | apply pw_below_drewN | apply below_drew1) | exact HB.out)⟩

-- NOT PRINTED: function 21 (foghornlaw04_samePoints)

-- NOT PRINTED: function 3 (foghornlaw04_PointsSets)

-- NOT PRINTED: function 22 (foghornlaw04_number)

-- NOT PRINTED: function 23 (points_At)

-- NOT PRINTED: function 24 (foghornref04_At)

-- NOT PRINTED: function 25 (points_Label)

-- NOT PRINTED: function 26 (foghornref04_Label)

-- NOT PRINTED: function 27 (points_Turned)

-- NOT PRINTED: function 28 (foghornref04_Turned)

-- NOT PRINTED: function 29 (points_Coset)

-- NOT PRINTED: function 30 (foghornref04_Coset)

-- NOT PRINTED: function 4 (foghornlaw04_PointsAsks)

-- NOT PRINTED: function 31 (foghornlaw04_lent)

end Go.Proofs.Ytopmlhihfchdhaa.Fog
