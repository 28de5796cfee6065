-- Written by fog.py, a program of this session, over the kit's print.
import Derived.Test.YtclhkbjcemgmnaaFogx0
import Derived.Test.YtclhkbjcemgmnaaFogx4
import Derived.Test.YtclhkbjcemgmnaaFogx5
import Derived.Test.YtclhkbjcemgmnaaFogx6
import Derived.Test.YtclhkbjcemgmnaaHandJoin
namespace Go.Proofs.Ytclhkbjcemgmnaa.Fog
open Go.RowKit Go.Proofs.YtclhkbjcemgmnaaW.PrintWords Go.Proofs.YtclhkbjcemgmnaaW.PrintLast Go.Proofs.YtclhkbjcemgmnaaW.PrintMore
attribute [local go_sem] max2_int min2_int max_two min_two max_three min_three max_four min_four   -- for this text's walks alone
attribute [local go_sem] fog_signed_u8 fog_max_u8 fog_signed_u16 fog_max_u16 fog_signed_u32 fog_max_u32 fog_signed_u64 fog_max_u64
set_option linter.unusedVariables false
set_option linter.unusedSimpArgs false

/-! ### foghornlaw25_FramePieces: function 3 -/
mutual
def foghornlaw25_FramePieces.j0 : Nat → Int → Int → ByteArray → Int → List (S30) → List (S30) → List (S30) → Bool → Option (Bool)
  | 0, _, _, _, _, _, _, _, _ => none
  | k + 1, x0, x1, x2, x3, x4, x11, x13, x49 => if x49 = true then (some false) else ((some (([] : List (S30)) : List (S30))).bind fun y144 => (if y144.length + x4.length < 5864062014805 then (foghornlaw25_FramePieces.l0 k x0 x1 x2 x3 x11 x13 (y144 ++ x4) 0) else (none)))
def foghornlaw25_FramePieces.l0 : Nat → Int → Int → ByteArray → Int → List (S30) → List (S30) → List (S30) → Int → Option (Bool)
  | 0, _, _, _, _, _, _, _, _ => none
  | k + 1, x0, x1, x2, x3, x11, x13, x15, x16 => if x16 < 2 then ((some (([] : List (S30)) : List (S30))).bind fun y150 => (if y150.length + x15.length < 5864062014805 then ((some (y150 ++ x15 : List (S30))).bind fun y153 => ((frame_Join.f x15).bind fun bt156 => ((foghornref25_Join.f k y153).bind fun bt158 => (if bt156.1.toList = bt158.1.toList then (if bt156.2 = bt158.2 then ((foghornref25_SameAll.f k x15 y153).bind fun t160 => (foghornlaw25_FramePieces.j2 k x0 x1 x2 x3 x11 x13 x15 x16 (!t160))) else (foghornlaw25_FramePieces.j2 k x0 x1 x2 x3 x11 x13 x15 x16 true)) else (foghornlaw25_FramePieces.j2 k x0 x1 x2 x3 x11 x13 x15 x16 true))))) else (none))) else (foghornlaw25_FramePieces.l1 k x0 x1 x2 x3 x11 x13 0)
def foghornlaw25_FramePieces.j2 : Nat → Int → Int → ByteArray → Int → List (S30) → List (S30) → List (S30) → Int → Bool → Option (Bool)
  | 0, _, _, _, _, _, _, _, _, _ => none
  | k + 1, x0, x1, x2, x3, x11, x13, x15, x16, x83 => if x83 = true then (some false) else (if (x15.length : Int) > 0 then (if 0 ≤ (wrap64 ((x15.length : Int) - 1)) then (if (wrap64 ((x15.length : Int) - 1)) < (x15.length : Int) then (foghornlaw25_FramePieces.l0 k x0 x1 x2 x3 x11 x13 (x15.set ((wrap64 ((x15.length : Int) - 1)) : Int).toNat (⟨(rd_T30 x15 (wrap64 ((x15.length : Int) - 1))).f0, (rd_T30 x15 (wrap64 ((x15.length : Int) - 1))).f1, !((rd_T30 x15 (wrap64 ((x15.length : Int) - 1))).f2), (rd_T30 x15 (wrap64 ((x15.length : Int) - 1))).f3⟩ : S30)) (wrap64 (x16 + 1))) else (none)) else (none)) else (foghornlaw25_FramePieces.l0 k x0 x1 x2 x3 x11 x13 x15 (wrap64 (x16 + 1))))
def foghornlaw25_FramePieces.l1 : Nat → Int → Int → ByteArray → Int → List (S30) → List (S30) → Int → Option (Bool)
  | 0, _, _, _, _, _, _, _ => none
  | k + 1, x0, x1, x2, x3, x11, x13, x22 => if x22 < (x11.length : Int) then (if 0 ≤ x22 then (foghornlaw25_FramePieces.l1 k x0 x1 x2 x3 (x11.set (x22 : Int).toNat (⟨0, 0, false, (⟨#[]⟩ : ByteArray)⟩ : S30)) x13 (wrap64 (x22 + 1))) else (none)) else ((frame_Pieces.f k x0 x1 x2 x3).bind fun bt164 => ((foghornref25_SameAll.f k bt164.1 x13).bind fun t168 => (some t168)))
end
def foghornlaw25_FramePieces.f (k : Nat) (a0 : Int) (a1 : Int) (a2 : ByteArray) (a3 : Int) (l4 : List (S30)) : Option (Bool) := (frame_Pieces.f k a0 a1 a2 a3).bind fun bt135 => ((foghornref25_Pieces.f k a0 a1 a2 a3).bind fun bt139 => ((foghornref25_SameAll.f k bt135.1 bt139.1).bind fun t143 => (if t143 = true then (foghornlaw25_FramePieces.j0 k a0 a1 a2 a3 l4 bt135.1 bt139.1 (bt135.2 != bt139.2)) else (foghornlaw25_FramePieces.j0 k a0 a1 a2 a3 l4 bt135.1 bt139.1 true))))
theorem foghornlaw25_FramePieces.mono_l : ∀ k, (∀ y0 y1 y2 y3 y4 y5 y6 y7, LeO (foghornlaw25_FramePieces.j0 k y0 y1 y2 y3 y4 y5 y6 y7) (foghornlaw25_FramePieces.j0 (k + 1) y0 y1 y2 y3 y4 y5 y6 y7)) ∧ (∀ y0 y1 y2 y3 y4 y5 y6 y7, LeO (foghornlaw25_FramePieces.l0 k y0 y1 y2 y3 y4 y5 y6 y7) (foghornlaw25_FramePieces.l0 (k + 1) y0 y1 y2 y3 y4 y5 y6 y7)) ∧ (∀ y0 y1 y2 y3 y4 y5 y6 y7 y8, LeO (foghornlaw25_FramePieces.j2 k y0 y1 y2 y3 y4 y5 y6 y7 y8) (foghornlaw25_FramePieces.j2 (k + 1) y0 y1 y2 y3 y4 y5 y6 y7 y8)) ∧ (∀ y0 y1 y2 y3 y4 y5 y6, LeO (foghornlaw25_FramePieces.l1 k y0 y1 y2 y3 y4 y5 y6) (foghornlaw25_FramePieces.l1 (k + 1) y0 y1 y2 y3 y4 y5 y6))
  | 0 => ⟨fun _ _ _ _ _ _ _ _ r h => by simp [foghornlaw25_FramePieces.j0] at h, fun _ _ _ _ _ _ _ _ r h => by simp [foghornlaw25_FramePieces.l0] at h, fun _ _ _ _ _ _ _ _ _ r h => by simp [foghornlaw25_FramePieces.j2] at h, fun _ _ _ _ _ _ _ r h => by simp [foghornlaw25_FramePieces.l1] at h⟩
  | k + 1 => by
    obtain ⟨ih0, ih1, ih2, ih3⟩ := foghornlaw25_FramePieces.mono_l k
    refine ⟨?_, ?_, ?_, ?_⟩
    · intro y0 y1 y2 y3 y4 y5 y6 y7
      unfold foghornlaw25_FramePieces.j0
      repeat' first
      | (with_reducible exact ih0 _ _ _ _ _ _ _ _)
      | (with_reducible exact ih1 _ _ _ _ _ _ _ _)
      | (with_reducible exact ih2 _ _ _ _ _ _ _ _ _)
      | (with_reducible exact ih3 _ _ _ _ _ _ _)
      | (with_reducible exact foghornref25_Join.mono _ _)
      | (with_reducible exact foghornref25_Pieces.mono _ _ _ _ _)
      | (with_reducible exact foghornref25_SameAll.mono _ _ _)
      | (with_reducible exact frame_Pieces.mono _ _ _ _ _)
      | (with_reducible exact LeO.refl _)
      | (with_reducible exact LeO.none _)
      | (with_reducible refine LeO.ite ?_ ?_)
      | (with_reducible refine LeO.bind ?_ (fun _ => ?_))
      | exact ih0 _ _ _ _ _ _ _ _
      | exact ih1 _ _ _ _ _ _ _ _
      | exact ih2 _ _ _ _ _ _ _ _ _
      | exact ih3 _ _ _ _ _ _ _
      | exact foghornref25_Join.mono _ _
      | exact foghornref25_Pieces.mono _ _ _ _ _
      | exact foghornref25_SameAll.mono _ _ _
      | exact frame_Pieces.mono _ _ _ _ _
      | exact LeO.none _
      | refine LeO.ite ?_ ?_
      | refine LeO.bind ?_ (fun _ => ?_)
    · intro y0 y1 y2 y3 y4 y5 y6 y7
      unfold foghornlaw25_FramePieces.l0
      repeat' first
      | (with_reducible exact ih0 _ _ _ _ _ _ _ _)
      | (with_reducible exact ih1 _ _ _ _ _ _ _ _)
      | (with_reducible exact ih2 _ _ _ _ _ _ _ _ _)
      | (with_reducible exact ih3 _ _ _ _ _ _ _)
      | (with_reducible exact foghornref25_Join.mono _ _)
      | (with_reducible exact foghornref25_Pieces.mono _ _ _ _ _)
      | (with_reducible exact foghornref25_SameAll.mono _ _ _)
      | (with_reducible exact frame_Pieces.mono _ _ _ _ _)
      | (with_reducible exact LeO.refl _)
      | (with_reducible exact LeO.none _)
      | (with_reducible refine LeO.ite ?_ ?_)
      | (with_reducible refine LeO.bind ?_ (fun _ => ?_))
      | exact ih0 _ _ _ _ _ _ _ _
      | exact ih1 _ _ _ _ _ _ _ _
      | exact ih2 _ _ _ _ _ _ _ _ _
      | exact ih3 _ _ _ _ _ _ _
      | exact foghornref25_Join.mono _ _
      | exact foghornref25_Pieces.mono _ _ _ _ _
      | exact foghornref25_SameAll.mono _ _ _
      | exact frame_Pieces.mono _ _ _ _ _
      | exact LeO.none _
      | refine LeO.ite ?_ ?_
      | refine LeO.bind ?_ (fun _ => ?_)
    · intro y0 y1 y2 y3 y4 y5 y6 y7 y8
      unfold foghornlaw25_FramePieces.j2
      repeat' first
      | (with_reducible exact ih0 _ _ _ _ _ _ _ _)
      | (with_reducible exact ih1 _ _ _ _ _ _ _ _)
      | (with_reducible exact ih2 _ _ _ _ _ _ _ _ _)
      | (with_reducible exact ih3 _ _ _ _ _ _ _)
      | (with_reducible exact foghornref25_Join.mono _ _)
      | (with_reducible exact foghornref25_Pieces.mono _ _ _ _ _)
      | (with_reducible exact foghornref25_SameAll.mono _ _ _)
      | (with_reducible exact frame_Pieces.mono _ _ _ _ _)
      | (with_reducible exact LeO.refl _)
      | (with_reducible exact LeO.none _)
      | (with_reducible refine LeO.ite ?_ ?_)
      | (with_reducible refine LeO.bind ?_ (fun _ => ?_))
      | exact ih0 _ _ _ _ _ _ _ _
      | exact ih1 _ _ _ _ _ _ _ _
      | exact ih2 _ _ _ _ _ _ _ _ _
      | exact ih3 _ _ _ _ _ _ _
      | exact foghornref25_Join.mono _ _
      | exact foghornref25_Pieces.mono _ _ _ _ _
      | exact foghornref25_SameAll.mono _ _ _
      | exact frame_Pieces.mono _ _ _ _ _
      | exact LeO.none _
      | refine LeO.ite ?_ ?_
      | refine LeO.bind ?_ (fun _ => ?_)
    · intro y0 y1 y2 y3 y4 y5 y6
      unfold foghornlaw25_FramePieces.l1
      repeat' first
      | (with_reducible exact ih0 _ _ _ _ _ _ _ _)
      | (with_reducible exact ih1 _ _ _ _ _ _ _ _)
      | (with_reducible exact ih2 _ _ _ _ _ _ _ _ _)
      | (with_reducible exact ih3 _ _ _ _ _ _ _)
      | (with_reducible exact foghornref25_Join.mono _ _)
      | (with_reducible exact foghornref25_Pieces.mono _ _ _ _ _)
      | (with_reducible exact foghornref25_SameAll.mono _ _ _)
      | (with_reducible exact frame_Pieces.mono _ _ _ _ _)
      | (with_reducible exact LeO.refl _)
      | (with_reducible exact LeO.none _)
      | (with_reducible refine LeO.ite ?_ ?_)
      | (with_reducible refine LeO.bind ?_ (fun _ => ?_))
      | exact ih0 _ _ _ _ _ _ _ _
      | exact ih1 _ _ _ _ _ _ _ _
      | exact ih2 _ _ _ _ _ _ _ _ _
      | exact ih3 _ _ _ _ _ _ _
      | exact foghornref25_Join.mono _ _
      | exact foghornref25_Pieces.mono _ _ _ _ _
      | exact foghornref25_SameAll.mono _ _ _
      | exact frame_Pieces.mono _ _ _ _ _
      | exact LeO.none _
      | refine LeO.ite ?_ ?_
      | refine LeO.bind ?_ (fun _ => ?_)
theorem foghornlaw25_FramePieces.mono : ∀ a0 a1 a2 a3 a4 k, LeO (foghornlaw25_FramePieces.f k a0 a1 a2 a3 a4) (foghornlaw25_FramePieces.f (k + 1) a0 a1 a2 a3 a4) := by
  intro a0 a1 a2 a3 a4 k
  obtain ⟨ih0, ih1, ih2, ih3⟩ := foghornlaw25_FramePieces.mono_l k
  unfold foghornlaw25_FramePieces.f
  repeat' first
      | (with_reducible exact ih0 _ _ _ _ _ _ _ _)
      | (with_reducible exact ih1 _ _ _ _ _ _ _ _)
      | (with_reducible exact ih2 _ _ _ _ _ _ _ _ _)
      | (with_reducible exact ih3 _ _ _ _ _ _ _)
      | (with_reducible exact foghornref25_Join.mono _ _)
      | (with_reducible exact foghornref25_Pieces.mono _ _ _ _ _)
      | (with_reducible exact foghornref25_SameAll.mono _ _ _)
      | (with_reducible exact frame_Pieces.mono _ _ _ _ _)
      | (with_reducible exact LeO.refl _)
      | (with_reducible exact LeO.none _)
      | (with_reducible refine LeO.ite ?_ ?_)
      | (with_reducible refine LeO.bind ?_ (fun _ => ?_))
      | exact ih0 _ _ _ _ _ _ _ _
      | exact ih1 _ _ _ _ _ _ _ _
      | exact ih2 _ _ _ _ _ _ _ _ _
      | exact ih3 _ _ _ _ _ _ _
      | exact foghornref25_Join.mono _ _
      | exact foghornref25_Pieces.mono _ _ _ _ _
      | exact foghornref25_SameAll.mono _ _ _
      | exact frame_Pieces.mono _ _ _ _ _
      | exact LeO.none _
      | refine LeO.ite ?_ ?_
      | refine LeO.bind ?_ (fun _ => ?_)
set_option maxHeartbeats 8000000 in
set_option maxRecDepth 100000 in
theorem foghornlaw25_FramePieces.calls (k : Nat) (a0 : Int) (a1 : Int) (a2 : ByteArray) (a3 : Int) (A4 : Option Addr) (c4 : Nat) (l4 : List (S30)) (r : Bool) (w : World) (hr4 : Kd.C k30 w A4 l4.length l4) (hc4 : l4.length ≤ c4) (h : foghornlaw25_FramePieces.f k a0 a1 a2 a3 l4 = some r) (ho_ : r = true := by rfl) :
    Calls Try.prog 3 #[.int .u8 a0, .int .u8 a1, .string a2, .int .i64 a3, .slice A4 l4.length c4] w fun e w' => e = .returned (.bool r) ∧ Below w.heap.size w w' := by
  subst ho_
  have hu30 := Try.underlying30
  have HR4 := Aside0.mk hr4
  have HC4 := Aside0.mk hc4
  clear hr4 hc4
  have HB := Aside0.mk (Below.refl w.heap.size w)
  have H : ((frame_Pieces.f k a0 a1 a2 a3).bind fun bt135 => ((foghornref25_Pieces.f k a0 a1 a2 a3).bind fun bt139 => ((foghornref25_SameAll.f k bt135.1 bt139.1).bind fun t143 => (if t143 = true then (foghornlaw25_FramePieces.j0 k a0 a1 a2 a3 l4 bt135.1 bt139.1 (bt135.2 != bt139.2)) else (foghornlaw25_FramePieces.j0 k a0 a1 a2 a3 l4 bt135.1 bt139.1 true))))) = some true := h
  clear h
  replace H := Option.bind_eq_some_iff.mp H
  obtain ⟨⟨t135, t136⟩, A60, H⟩ := H
  replace H : ((foghornref25_Pieces.f k a0 a1 a2 a3).bind fun bt139 => ((foghornref25_SameAll.f k t135 bt139.1).bind fun t143 => (if t143 = true then (foghornlaw25_FramePieces.j0 k a0 a1 a2 a3 l4 t135 bt139.1 (t136 != bt139.2)) else (foghornlaw25_FramePieces.j0 k a0 a1 a2 a3 l4 t135 bt139.1 true)))) = some true := H
  have A6 := Aside0.mk A60
  clear A60
  replace H := Option.bind_eq_some_iff.mp H
  obtain ⟨⟨t139, t140⟩, A70, H⟩ := H
  replace H : ((foghornref25_SameAll.f k t135 t139).bind fun t143 => (if t143 = true then (foghornlaw25_FramePieces.j0 k a0 a1 a2 a3 l4 t135 t139 (t136 != t140)) else (foghornlaw25_FramePieces.j0 k a0 a1 a2 a3 l4 t135 t139 true))) = some true := H
  have A7 := Aside0.mk A70
  clear A70
  have HC8 := Aside0.mk H
  clear H
  go_enter Try.func3, Try.ntmps3
  go_upto_region 3 with (first | ((with_reducible refine gate_callee (f := 10) rfl ?_); refine goesL_ (some 30) rfl rfl Try.func10 (by kernel_rfl) rfl #[.int .u8 a0, .int .u8 a1, .string a2, .int .i64 a3] rfl (by (try simp only [List.map_toArray, List.map_cons, List.map_nil]); first | done | rfl | (simp only [List.length_drop, List.length_take]; rfl)) ?_; (with_reducible refine (frame_Pieces.calls k a0 a1 a2 a3 t135 t136 _ A6.out).mono ?_); rintro e w9 ⟨v137, rfl, ho0, hb⟩; refine ⟨_, rfl, ?_⟩; have n0_ := Aside0.mk (Kd.R_lower ho0 (below_size (by repeat (first | (with_reducible first | exact HB.out | apply below_alloc | apply pw_below_drewN | apply below_drew1) | exact HB.out)))); have n1_ := Aside0.mk (below_step (by repeat (first | (with_reducible first | exact HB.out | apply below_alloc | apply pw_below_drewN | apply below_drew1) | exact HB.out)) hb); clear HB; have HO138 := n0_; have HB := n1_; clear n0_ n1_; (try clear hb); (try clear hb2); (try clear hk); (try clear hi); (try clear ho0)) | ((with_reducible refine gate_callee (f := 11) rfl ?_); refine goesL_ (some 38) rfl rfl Try.func11 (by kernel_rfl) rfl #[.int .u8 a0, .int .u8 a1, .string a2, .int .i64 a3] rfl (by (try simp only [List.map_toArray, List.map_cons, List.map_nil]); first | done | rfl | (simp only [List.length_drop, List.length_take]; rfl)) ?_; (with_reducible refine (foghornref25_Pieces.calls k a0 a1 a2 a3 t139 t140 _ A7.out).mono ?_); rintro e w10 ⟨v141, rfl, ho0, hb⟩; refine ⟨_, rfl, ?_⟩; have n0_ := Aside0.mk (Kd.R_elder' (by (with_reducible repeat (first | apply Kd.R_alloc | apply Kd.R_drewN | apply Kd.R_drew)); exact HO138.out) (Kd.R_base ho0) hb); have n1_ := Aside0.mk (Kd.R_lower (Kd.R_new' ho0 (Kd.R_lt (by (with_reducible repeat (first | apply Kd.R_alloc | apply Kd.R_drewN | apply Kd.R_drew)); exact HO138.out))) (below_size (by repeat (first | (with_reducible first | exact HB.out | apply below_alloc | apply pw_below_drewN | apply below_drew1) | exact HB.out)))); have n2_ := Aside0.mk (below_step (by repeat (first | (with_reducible first | exact HB.out | apply below_alloc | apply pw_below_drewN | apply below_drew1) | exact HB.out)) hb); clear HO138; clear HB; have HO138 := n0_; have HO142 := n1_; have HB := n2_; clear n0_ n1_ n2_; (try clear hb); (try clear hb2); (try clear hk); (try clear hi); (try clear ho0)))
  (try simp only [Act.put, List.setIfInBounds_toArray, List.set_cons_zero, List.set_cons_succ])
  go_cut [49] (fun v49 wc => ∃ (kq : Nat) (x49_7 : Bool), v49 = .bool x49_7 ∧ Aside0 (foghornlaw25_FramePieces.j0 kq a0 a1 a2 a3 l4 t135 t139 x49_7 = some true) ∧ Aside0 (kq ≤ k) ∧ Aside0 (Kd.R k30 30 wc w.heap.size (fun k_ => some k_ ≠ (v141 : Value).ownBlock) v137 t135) ∧ Aside0 (Kd.R k30 30 wc w.heap.size (fun k_ => some k_ ≠ (v137 : Value).ownBlock) v141 t139) ∧ Aside0 (Below w.heap.size w wc))
  case first =>
    have H := HC8.out
    clear HC8
    replace H := Option.bind_eq_some_iff.mp H
    obtain ⟨t143, A110, H⟩ := H
    replace H : (if t143 = true then (foghornlaw25_FramePieces.j0 k a0 a1 a2 a3 l4 t135 t139 (t136 != t140)) else (foghornlaw25_FramePieces.j0 k a0 a1 a2 a3 l4 t135 t139 true)) = some true := H
    have A11 := Aside0.mk A110
    clear A110
    by_cases c12 : t143 = true
    · subst c12
      have H1 : (foghornlaw25_FramePieces.j0 k a0 a1 a2 a3 l4 t135 t139 (t136 != t140)) = some true := by rw [if_pos rfl] at H; exact H
      clear H
      have H := H1
      clear H1
      have H' := Aside0.mk H
      clear H
      obtain ⟨Ao13, co13, eo13⟩ := Kd.R_slice HO138.out
      subst eo13
      obtain ⟨Ao14, co14, eo14⟩ := Kd.R_slice HO142.out
      subst eo14
      go_wp2_with (first | ((with_reducible refine gate_callee (f := 12) rfl ?_); refine goesL_ (some 43) rfl rfl Try.func12 (by kernel_rfl) rfl #[.slice Ao13 t135.length co13, .slice Ao14 t139.length co14] rfl (by (try simp only [List.map_toArray, List.map_cons, List.map_nil]); first | done | rfl | (simp only [List.length_drop, List.length_take]; rfl)) ?_; (with_reducible refine (foghornref25_SameAll.calls k _ _ t135 _ _ t139 true _ ?side1 ?side2 ?side3 ?side4 A11.out).mono ?_); (case side1 => repeat (first | exact (Kd.R_reads' HO138.out).2.2 | (with_reducible refine Kd.C_alloc ?_ _) | (with_reducible refine Kd.C_drewN ?_ _) | (with_reducible refine Kd.C_drew ?_))); (case side2 => exact (Kd.R_reads' HO138.out).2.1); (case side3 => repeat (first | exact (Kd.R_reads' HO142.out).2.2 | (with_reducible refine Kd.C_alloc ?_ _) | (with_reducible refine Kd.C_drewN ?_ _) | (with_reducible refine Kd.C_drew ?_))); (case side4 => exact (Kd.R_reads' HO142.out).2.1); rintro e w15 ⟨rfl, hb⟩; refine ⟨_, rfl, ?_⟩; have n0_ := Aside0.mk (Kd.R_below (by (with_reducible repeat (first | apply Kd.R_alloc | apply Kd.R_drewN | apply Kd.R_drew)); exact HO138.out) hb); have n1_ := Aside0.mk (Kd.R_below (by (with_reducible repeat (first | apply Kd.R_alloc | apply Kd.R_drewN | apply Kd.R_drew)); exact HO142.out) hb); have n2_ := Aside0.mk (below_step (by repeat (first | (with_reducible first | exact HB.out | apply below_alloc | apply pw_below_drewN | apply below_drew1) | exact HB.out)) hb); clear HO138; clear HO142; clear HB; have HO138 := n0_; have HO142 := n1_; have HB := n2_; clear n0_ n1_ n2_; (try clear hb); (try clear hb2); (try clear hk); (try clear hi)))
      go_meet
      case rel => exact ⟨_, ((t136 != t140)), (by first | rfl | (simp; done) | (simp [*]; done) | (simp; omega) | (congr 1; omega) | (rw [hR_]; done) | (simp only [hR_]; done) | (simp [hR_]; done)), H', ⟨by first | omega | exact Nat.le_refl _⟩, ⟨by (with_reducible repeat (first | apply Kd.R_alloc | apply Kd.R_drewN | apply Kd.R_drew)); exact Kd.R_mono HO138.out (fun _ hk => hk.2)⟩, ⟨by (with_reducible repeat (first | apply Kd.R_alloc | apply Kd.R_drewN | apply Kd.R_drew)); exact Kd.R_mono HO142.out (fun _ hk => hk.2)⟩, ⟨by repeat (first | (with_reducible first | exact HB.out | apply below_alloc | apply pw_below_drewN | apply below_drew1) | exact HB.out)⟩⟩
    · replace c12 := Bool.eq_false_iff.mpr c12
      subst c12
      have H1 : (foghornlaw25_FramePieces.j0 k a0 a1 a2 a3 l4 t135 t139 true) = some true := by rw [if_neg (show ¬ (false = true) by decide)] at H; exact H
      clear H
      have H := H1
      clear H1
      have H' := Aside0.mk H
      clear H
      obtain ⟨Ao16, co16, eo16⟩ := Kd.R_slice HO138.out
      subst eo16
      obtain ⟨Ao17, co17, eo17⟩ := Kd.R_slice HO142.out
      subst eo17
      go_wp2_with (first | ((with_reducible refine gate_callee (f := 12) rfl ?_); refine goesL_ (some 43) rfl rfl Try.func12 (by kernel_rfl) rfl #[.slice Ao16 t135.length co16, .slice Ao17 t139.length co17] rfl (by (try simp only [List.map_toArray, List.map_cons, List.map_nil]); first | done | rfl | (simp only [List.length_drop, List.length_take]; rfl)) ?_; (with_reducible refine (foghornref25_SameAll.calls k _ _ t135 _ _ t139 false _ ?side1 ?side2 ?side3 ?side4 A11.out).mono ?_); (case side1 => repeat (first | exact (Kd.R_reads' HO138.out).2.2 | (with_reducible refine Kd.C_alloc ?_ _) | (with_reducible refine Kd.C_drewN ?_ _) | (with_reducible refine Kd.C_drew ?_))); (case side2 => exact (Kd.R_reads' HO138.out).2.1); (case side3 => repeat (first | exact (Kd.R_reads' HO142.out).2.2 | (with_reducible refine Kd.C_alloc ?_ _) | (with_reducible refine Kd.C_drewN ?_ _) | (with_reducible refine Kd.C_drew ?_))); (case side4 => exact (Kd.R_reads' HO142.out).2.1); rintro e w18 ⟨rfl, hb⟩; refine ⟨_, rfl, ?_⟩; have n0_ := Aside0.mk (Kd.R_below (by (with_reducible repeat (first | apply Kd.R_alloc | apply Kd.R_drewN | apply Kd.R_drew)); exact HO138.out) hb); have n1_ := Aside0.mk (Kd.R_below (by (with_reducible repeat (first | apply Kd.R_alloc | apply Kd.R_drewN | apply Kd.R_drew)); exact HO142.out) hb); have n2_ := Aside0.mk (below_step (by repeat (first | (with_reducible first | exact HB.out | apply below_alloc | apply pw_below_drewN | apply below_drew1) | exact HB.out)) hb); clear HO138; clear HO142; clear HB; have HO138 := n0_; have HO142 := n1_; have HB := n2_; clear n0_ n1_ n2_; (try clear hb); (try clear hb2); (try clear hk); (try clear hi)))
      go_meet
      case rel => exact ⟨_, (true), (by first | rfl | (simp; done) | (simp [*]; done) | (simp; omega) | (congr 1; omega) | (rw [hR_]; done) | (simp only [hR_]; done) | (simp [hR_]; done)), H', ⟨by first | omega | exact Nat.le_refl _⟩, ⟨by (with_reducible repeat (first | apply Kd.R_alloc | apply Kd.R_drewN | apply Kd.R_drew)); exact Kd.R_mono HO138.out (fun _ hk => hk.2)⟩, ⟨by (with_reducible repeat (first | apply Kd.R_alloc | apply Kd.R_drewN | apply Kd.R_drew)); exact Kd.R_mono HO142.out (fun _ hk => hk.2)⟩, ⟨by repeat (first | (with_reducible first | exact HB.out | apply below_alloc | apply pw_below_drewN | apply below_drew1) | exact HB.out)⟩⟩
  case rest =>
    clear HC8
    try clear c1
    try clear p2
    try clear c3
    try clear c4
    try clear c10
    try clear c11
    try clear c12
    obtain ⟨kq, x49_7, rfl, HA, HJ7, HO_11, HO_13, HB⟩ := hcut
    cases kq with
    | zero => exact absurd HA.out (by simp [foghornlaw25_FramePieces.j0])
    | succ kj7 =>
      have H := HA.out
      clear HA
      simp only [foghornlaw25_FramePieces.j0] at H
      by_cases c19 : x49_7 = true
      · subst c19
        have H1 : (some false) = some true := by rw [if_pos rfl] at H; exact H
        clear H
        have H := H1
        clear H1
        exact absurd H (by simp)
      · replace c19 := Bool.eq_false_iff.mpr c19
        subst c19
        have H1 : ((some (([] : List (S30)) : List (S30))).bind fun y144 => (if y144.length + l4.length < 5864062014805 then (foghornlaw25_FramePieces.l0 kj7 a0 a1 a2 a3 t135 t139 (y144 ++ l4) 0) else (none))) = some true := by rw [if_neg (show ¬ (false = true) by decide)] at H; exact H
        clear H
        have H := H1
        clear H1
        obtain ⟨y144, hy144⟩ : ∃ y_ : List (S30), y_ = (([] : List (S30))) := ⟨_, rfl⟩
        replace H : (if y144.length + l4.length < 5864062014805 then (foghornlaw25_FramePieces.l0 kj7 a0 a1 a2 a3 t135 t139 (y144 ++ l4) 0) else (none)) = some true := by first | (rw [hy144]; with_reducible exact H) | (have H2_ := (Option.bind_some _ _).symm.trans H; rw [hy144]; with_reducible exact H2_) | (have H2_ := (Option.bind_some _ _).symm.trans H; with_reducible exact H2_) | with_reducible exact H | (rw [hy144]; exact H) | exact H
        have Ny144 := Aside0.mk hy144
        clear hy144
        by_cases c20 : y144.length + l4.length < 5864062014805
        · rw [if_pos c20] at H
          have LMc20 := Aside0.mk c20
          clear c20
          obtain ⟨y147, hy147⟩ : ∃ y_ : List (S30), y_ = (y144 ++ l4) := ⟨_, rfl⟩
          replace H : (foghornlaw25_FramePieces.l0 kj7 a0 a1 a2 a3 t135 t139 y147 0) = some true := by first | (rw [hy147]; with_reducible exact H) | (have H2_ := (Option.bind_some _ _).symm.trans H; rw [hy147]; with_reducible exact H2_) | (have H2_ := (Option.bind_some _ _).symm.trans H; with_reducible exact H2_) | with_reducible exact H | (rw [hy147]; exact H) | exact H
          have Ny147 := Aside0.mk hy147
          clear hy147
          have H' := Aside0.mk H
          clear H
          go_wp2_with (first | ((with_reducible refine gate_dst (N := 50) rfl ?_); refine Kd.R_lit k30 _ 30 ?hg (N := 50) ?hd (xs := ([] : List (S30))) (inner := []) (ok := fun _ => True) (okp := fun _ => True) ?hr ?hp (fun _ hk => hk) trivial (Below.refl _ _) (Nat.le_refl _) (by simp) ?_; (case hd => rfl); (case hg => rfl); (case hr => first | (go_simp; done) | (go_simp; rfl)); (case hp => exact (Reps.none _ _)); intro v145 w21 ho22 hb hg_ hnew_; clear hg_ hnew_; (first | rw [← Ny144.out] at ho22 | (simp only [Int.reduceToNat] at ho22; rw [← Ny144.out] at ho22)); have n0_ := Aside0.mk (Kd.R_elder' (by (with_reducible repeat (first | apply Kd.R_alloc | apply Kd.R_drewN | apply Kd.R_drew)); exact HO_11.out) (Kd.R_base ho22) hb); have n1_ := Aside0.mk (Kd.R_elder' (by (with_reducible repeat (first | apply Kd.R_alloc | apply Kd.R_drewN | apply Kd.R_drew)); exact HO_13.out) (Kd.R_base ho22) hb); have n2_ := Aside0.mk (Kd.R_lower (Kd.R_new' (Kd.R_new' ho22 (Kd.R_lt (by (with_reducible repeat (first | apply Kd.R_alloc | apply Kd.R_drewN | apply Kd.R_drew)); exact HO_11.out))) (Kd.R_lt (by (with_reducible repeat (first | apply Kd.R_alloc | apply Kd.R_drewN | apply Kd.R_drew)); exact HO_13.out))) (below_size (by repeat (first | (with_reducible first | exact HB.out | apply below_alloc | apply pw_below_drewN | apply below_drew1) | exact HB.out)))); have n3_ := Aside0.mk (below_step (by repeat (first | (with_reducible first | exact HB.out | apply below_alloc | apply pw_below_drewN | apply below_drew1) | exact HB.out)) hb); clear HO_11; clear HO_13; clear HB; have HO_11 := n0_; have HO_13 := n1_; have HO146 := n2_; have HB := n3_; clear n0_ n1_ n2_ n3_; clear hb ho22) | ((with_reducible refine gate_builtin (b := .append) (xs := #[.tmp 50, .tmp 51]) rfl ?_); at_builtin; refine Kd.R_append_rows k30 (w0 := w) w.heap.size rfl (.tmp 50) (.tmp 51) 22 30 (.agg #[(.int .u8 0), (.int .u8 0), (.bool false), (.string ⟨#[]⟩)]) 24 rfl Try.underlying22 info30 rfl (by decide) (by omega) v145 y144 l4 _ _ _ (fun k_ => some k_ ≠ (v137 : Value).ownBlock ∧ some k_ ≠ (v141 : Value).ownBlock) (fun _ => False) rfl rfl ?aO ?aR (fun _ _ h => h) (fun _ h => h.elim) ?aF ?aB ?aS ?aL ?_; (case aR => repeat (first | exact (Kd.C_below HR4.out HB.out) | (with_reducible refine Kd.C_alloc ?_ _) | (with_reducible refine Kd.C_drewN ?_ _) | (with_reducible refine Kd.C_drew ?_))); (case aB => exact (by repeat (first | (with_reducible first | exact HB.out | apply below_alloc | apply pw_below_drewN | apply below_drew1) | exact HB.out))); (case aF => exact (fun k_ hk => ⟨Kd.fresh' (Kd.R_lt (by (with_reducible repeat (first | apply Kd.R_alloc | apply Kd.R_drewN | apply Kd.R_drew)); exact HO_11.out)) k_ hk, Kd.fresh' (Kd.R_lt (by (with_reducible repeat (first | apply Kd.R_alloc | apply Kd.R_drewN | apply Kd.R_drew)); exact HO_13.out)) k_ hk⟩)); (case aO => exact (by (with_reducible repeat (first | apply Kd.R_alloc | apply Kd.R_drewN | apply Kd.R_drew)); exact Kd.R_mono HO146.out (fun _ hk => ⟨hk.1.2, hk.2⟩))); (case aS => exact (below_size (by repeat (first | (with_reducible first | exact HB.out | apply below_alloc | apply pw_below_drewN | apply below_drew1) | exact HB.out)))); (case aL => have := LMc20.out; omega); intro v148 w23 ho hb hg hat; rw [← Ny147.out] at ho; have n0_ := Aside0.mk (Kd.R_after (ok := (fun k_ => some k_ ≠ (v141 : Value).ownBlock)) (by (with_reducible repeat (first | apply Kd.R_alloc | apply Kd.R_drewN | apply Kd.R_drew)); exact HO_11.out) hg hat); have n1_ := Aside0.mk (Kd.R_after (ok := (fun k_ => some k_ ≠ (v137 : Value).ownBlock)) (by (with_reducible repeat (first | apply Kd.R_alloc | apply Kd.R_drewN | apply Kd.R_drew)); exact HO_13.out) hg hat); have n2_ := Aside0.mk (hb); have n3_ := Aside0.mk (ho); clear HO_11; clear HO_13; clear HB; clear HO146; have HO_11 := n0_; have HO_13 := n1_; have HB := n2_; have HO149 := n3_; clear n0_ n1_ n2_ n3_; clear ho hb hg hat))
          go_loopg [16] kj7 (fun kq v16 w' => ∃ (x15_2 : List (S30)) (x16_2 : Int), v16 = .int .i64 x16_2 ∧ Aside0 (foghornlaw25_FramePieces.l0 kq a0 a1 a2 a3 t135 t139 x15_2 x16_2 = some true) ∧ Aside0 (kq ≤ kj7) ∧ Aside0 (Kd.R k30 30 w' w.heap.size (fun k_ => some k_ ≠ (v141 : Value).ownBlock ∧ some k_ ≠ (v148 : Value).ownBlock) v137 t135) ∧ Aside0 (Kd.R k30 30 w' w.heap.size (fun k_ => some k_ ≠ (v137 : Value).ownBlock ∧ some k_ ≠ (v148 : Value).ownBlock) v141 t139) ∧ Aside0 (Kd.R k30 30 w' w.heap.size (fun k_ => some k_ ≠ (v137 : Value).ownBlock ∧ some k_ ≠ (v141 : Value).ownBlock) v148 x15_2) ∧ Aside0 (Below w.heap.size w w'))
          case atStart => exact ⟨(y147), (0), (by first | rfl | (simp; done) | (simp [*]; done) | (simp; omega) | (congr 1; omega) | (rw [hR_]; done) | (simp only [hR_]; done) | (simp [hR_]; done)), H', ⟨Nat.le_refl _⟩, ⟨by (with_reducible repeat (first | apply Kd.R_alloc | apply Kd.R_drewN | apply Kd.R_drew)); exact HO_11.out⟩, ⟨by (with_reducible repeat (first | apply Kd.R_alloc | apply Kd.R_drewN | apply Kd.R_drew)); exact HO_13.out⟩, ⟨by (with_reducible repeat (first | apply Kd.R_alloc | apply Kd.R_drewN | apply Kd.R_drew)); exact HO149.out⟩, ⟨by repeat (first | (with_reducible first | exact HB.out | apply below_alloc | apply pw_below_drewN | apply below_drew1) | exact HB.out)⟩⟩
          case round =>
            clear H'
            try clear c1
            try clear c2
            try clear p2
            try clear c3
            try clear c4
            try clear c10
            try clear c11
            try clear c12
            try clear c19
            try clear c20
            try clear p2
            obtain ⟨x15_2, x16_2, rfl, HA, HK2, HO_11, HO_13, HO_15, HB⟩ := hrel
            cases gk with
            | zero => exact absurd HA.out (by simp [foghornlaw25_FramePieces.l0])
            | succ k2 =>
              have H := HA.out
              clear HA
              simp only [foghornlaw25_FramePieces.l0] at H
              by_cases c24 : x16_2 < 2
              · rw [if_pos c24] at H
                have c24b0 : decide (x16_2 < 2) = true := decide_eq_true c24
                clear c24
                obtain ⟨y150, hy150⟩ : ∃ y_ : List (S30), y_ = (([] : List (S30))) := ⟨_, rfl⟩
                replace H : (if y150.length + x15_2.length < 5864062014805 then ((some (y150 ++ x15_2 : List (S30))).bind fun y153 => ((frame_Join.f x15_2).bind fun bt156 => ((foghornref25_Join.f k2 y153).bind fun bt158 => (if bt156.1.toList = bt158.1.toList then (if bt156.2 = bt158.2 then ((foghornref25_SameAll.f k2 x15_2 y153).bind fun t160 => (foghornlaw25_FramePieces.j2 k2 a0 a1 a2 a3 t135 t139 x15_2 x16_2 (!t160))) else (foghornlaw25_FramePieces.j2 k2 a0 a1 a2 a3 t135 t139 x15_2 x16_2 true)) else (foghornlaw25_FramePieces.j2 k2 a0 a1 a2 a3 t135 t139 x15_2 x16_2 true))))) else (none)) = some true := by first | (rw [hy150]; with_reducible exact H) | (have H2_ := (Option.bind_some _ _).symm.trans H; rw [hy150]; with_reducible exact H2_) | (have H2_ := (Option.bind_some _ _).symm.trans H; with_reducible exact H2_) | with_reducible exact H | (rw [hy150]; exact H) | exact H
                have Ny150 := Aside0.mk hy150
                clear hy150
                by_cases c25 : y150.length + x15_2.length < 5864062014805
                · rw [if_pos c25] at H
                  have LMc25 := Aside0.mk c25
                  clear c25
                  obtain ⟨y153, hy153⟩ : ∃ y_ : List (S30), y_ = (y150 ++ x15_2) := ⟨_, rfl⟩
                  replace H : ((frame_Join.f x15_2).bind fun bt156 => ((foghornref25_Join.f k2 y153).bind fun bt158 => (if bt156.1.toList = bt158.1.toList then (if bt156.2 = bt158.2 then ((foghornref25_SameAll.f k2 x15_2 y153).bind fun t160 => (foghornlaw25_FramePieces.j2 k2 a0 a1 a2 a3 t135 t139 x15_2 x16_2 (!t160))) else (foghornlaw25_FramePieces.j2 k2 a0 a1 a2 a3 t135 t139 x15_2 x16_2 true)) else (foghornlaw25_FramePieces.j2 k2 a0 a1 a2 a3 t135 t139 x15_2 x16_2 true)))) = some true := by first | (rw [hy153]; with_reducible exact H) | (have H2_ := (Option.bind_some _ _).symm.trans H; rw [hy153]; with_reducible exact H2_) | (have H2_ := (Option.bind_some _ _).symm.trans H; with_reducible exact H2_) | with_reducible exact H | (rw [hy153]; exact H) | exact H
                  have Ny153 := Aside0.mk hy153
                  clear hy153
                  replace H := Option.bind_eq_some_iff.mp H
                  obtain ⟨⟨t156, t157⟩, A260, H⟩ := H
                  replace H : ((foghornref25_Join.f k2 y153).bind fun bt158 => (if t156.toList = bt158.1.toList then (if t157 = bt158.2 then ((foghornref25_SameAll.f k2 x15_2 y153).bind fun t160 => (foghornlaw25_FramePieces.j2 k2 a0 a1 a2 a3 t135 t139 x15_2 x16_2 (!t160))) else (foghornlaw25_FramePieces.j2 k2 a0 a1 a2 a3 t135 t139 x15_2 x16_2 true)) else (foghornlaw25_FramePieces.j2 k2 a0 a1 a2 a3 t135 t139 x15_2 x16_2 true))) = some true := H
                  have A26 := Aside0.mk A260
                  clear A260
                  replace H := Option.bind_eq_some_iff.mp H
                  obtain ⟨⟨t158, t159⟩, A270, H⟩ := H
                  replace H : (if t156.toList = t158.toList then (if t157 = t159 then ((foghornref25_SameAll.f k2 x15_2 y153).bind fun t160 => (foghornlaw25_FramePieces.j2 k2 a0 a1 a2 a3 t135 t139 x15_2 x16_2 (!t160))) else (foghornlaw25_FramePieces.j2 k2 a0 a1 a2 a3 t135 t139 x15_2 x16_2 true)) else (foghornlaw25_FramePieces.j2 k2 a0 a1 a2 a3 t135 t139 x15_2 x16_2 true)) = some true := H
                  have A27 := Aside0.mk A270
                  clear A270
                  have HC28 := Aside0.mk H
                  clear H
                  go_upto_region 12 with (first | ((with_reducible refine gate_dst (N := 57) rfl ?_); refine Kd.R_lit k30 _ 30 ?hg (N := 57) ?hd (xs := ([] : List (S30))) (inner := []) (ok := fun _ => True) (okp := fun _ => True) ?hr ?hp (fun _ hk => hk) trivial (Below.refl _ _) (Nat.le_refl _) (by simp) ?_; (case hd => rfl); (case hg => rfl); (case hr => first | (go_simp; done) | (go_simp; rfl)); (case hp => exact (Reps.none _ _)); intro v151 w29 ho30 hb hg_ hnew_; clear hg_ hnew_; (first | rw [← Ny150.out] at ho30 | (simp only [Int.reduceToNat] at ho30; rw [← Ny150.out] at ho30)); have n0_ := Aside0.mk (Kd.R_elder' (by (with_reducible repeat (first | apply Kd.R_alloc | apply Kd.R_drewN | apply Kd.R_drew)); exact HO_11.out) (Kd.R_base ho30) hb); have n1_ := Aside0.mk (Kd.R_elder' (by (with_reducible repeat (first | apply Kd.R_alloc | apply Kd.R_drewN | apply Kd.R_drew)); exact HO_13.out) (Kd.R_base ho30) hb); have n2_ := Aside0.mk (Kd.R_elder' (by (with_reducible repeat (first | apply Kd.R_alloc | apply Kd.R_drewN | apply Kd.R_drew)); exact HO_15.out) (Kd.R_base ho30) hb); have n3_ := Aside0.mk (Kd.R_lower (Kd.R_new' (Kd.R_new' (Kd.R_new' ho30 (Kd.R_lt (by (with_reducible repeat (first | apply Kd.R_alloc | apply Kd.R_drewN | apply Kd.R_drew)); exact HO_11.out))) (Kd.R_lt (by (with_reducible repeat (first | apply Kd.R_alloc | apply Kd.R_drewN | apply Kd.R_drew)); exact HO_13.out))) (Kd.R_lt (by (with_reducible repeat (first | apply Kd.R_alloc | apply Kd.R_drewN | apply Kd.R_drew)); exact HO_15.out))) (below_size (by repeat (first | (with_reducible first | exact HB.out | apply below_alloc | apply pw_below_drewN | apply below_drew1) | exact HB.out)))); have n4_ := Aside0.mk (below_step (by repeat (first | (with_reducible first | exact HB.out | apply below_alloc | apply pw_below_drewN | apply below_drew1) | exact HB.out)) hb); clear HO_11; clear HO_13; clear HO_15; clear HB; have HO_11 := n0_; have HO_13 := n1_; have HO_15 := n2_; have HO152 := n3_; have HB := n4_; clear n0_ n1_ n2_ n3_ n4_; clear hb ho30; obtain ⟨Ao32, co32, eo32⟩ := Kd.R_slice HO_15.out; subst eo32) | ((with_reducible refine gate_builtin (b := .append) (xs := #[.tmp 57, .tmp 58]) rfl ?_); at_builtin; refine Kd.R_append_rows k30 (w0 := w) w.heap.size rfl (.tmp 57) (.tmp 58) 22 30 (.agg #[(.int .u8 0), (.int .u8 0), (.bool false), (.string ⟨#[]⟩)]) 24 rfl Try.underlying22 info30 rfl (by decide) (by omega) v151 y150 x15_2 _ _ _ (fun k_ => some k_ ≠ (v137 : Value).ownBlock ∧ some k_ ≠ (v141 : Value).ownBlock ∧ some k_ ≠ (.slice Ao32 x15_2.length co32 : Value).ownBlock) (fun _ => False) rfl rfl ?aO ?aR (fun _ _ h => h) (fun _ h => h.elim) ?aF ?aB ?aS ?aL ?_; (case aR => repeat (first | exact (Kd.R_reads' HO_15.out).2.2 | (with_reducible refine Kd.C_alloc ?_ _) | (with_reducible refine Kd.C_drewN ?_ _) | (with_reducible refine Kd.C_drew ?_))); (case aB => exact (by repeat (first | (with_reducible first | exact HB.out | apply below_alloc | apply pw_below_drewN | apply below_drew1) | exact HB.out))); (case aF => exact (fun k_ hk => ⟨Kd.fresh' (Kd.R_lt (by (with_reducible repeat (first | apply Kd.R_alloc | apply Kd.R_drewN | apply Kd.R_drew)); exact HO_11.out)) k_ hk, Kd.fresh' (Kd.R_lt (by (with_reducible repeat (first | apply Kd.R_alloc | apply Kd.R_drewN | apply Kd.R_drew)); exact HO_13.out)) k_ hk, Kd.fresh' (Kd.R_lt (by (with_reducible repeat (first | apply Kd.R_alloc | apply Kd.R_drewN | apply Kd.R_drew)); exact HO_15.out)) k_ hk⟩)); (case aO => exact (by (with_reducible repeat (first | apply Kd.R_alloc | apply Kd.R_drewN | apply Kd.R_drew)); exact Kd.R_mono HO152.out (fun _ hk => ⟨hk.1.1.2, ⟨hk.1.2, hk.2⟩⟩))); (case aS => exact (below_size (by repeat (first | (with_reducible first | exact HB.out | apply below_alloc | apply pw_below_drewN | apply below_drew1) | exact HB.out)))); (case aL => have := LMc25.out; omega); intro v154 w31 ho hb hg hat; rw [← Ny153.out] at ho; have n0_ := Aside0.mk (Kd.R_after (ok := (fun k_ => some k_ ≠ (v141 : Value).ownBlock ∧ some k_ ≠ (.slice Ao32 x15_2.length co32 : Value).ownBlock)) (by (with_reducible repeat (first | apply Kd.R_alloc | apply Kd.R_drewN | apply Kd.R_drew)); exact HO_11.out) hg hat); have n1_ := Aside0.mk (Kd.R_after (ok := (fun k_ => some k_ ≠ (v137 : Value).ownBlock ∧ some k_ ≠ (.slice Ao32 x15_2.length co32 : Value).ownBlock)) (by (with_reducible repeat (first | apply Kd.R_alloc | apply Kd.R_drewN | apply Kd.R_drew)); exact HO_13.out) hg hat); have n2_ := Aside0.mk (Kd.R_after (ok := (fun k_ => some k_ ≠ (v137 : Value).ownBlock ∧ some k_ ≠ (v141 : Value).ownBlock)) (by (with_reducible repeat (first | apply Kd.R_alloc | apply Kd.R_drewN | apply Kd.R_drew)); exact HO_15.out) hg hat); have n3_ := Aside0.mk (hb); have n4_ := Aside0.mk (ho); clear HO_11; clear HO_13; clear HO_15; clear HB; clear HO152; have HO_11 := n0_; have HO_13 := n1_; have HO_15 := n2_; have HB := n3_; have HO155 := n4_; clear n0_ n1_ n2_ n3_ n4_; clear ho hb hg hat) | ((with_reducible refine gate_callee (f := 13) rfl ?_); refine goesL_ (some 62) rfl rfl Try.func13 (by kernel_rfl) rfl #[.slice Ao32 x15_2.length co32] rfl (by (try simp only [List.map_toArray, List.map_cons, List.map_nil]); first | done | rfl | (simp only [List.length_drop, List.length_take]; rfl)) ?_; (with_reducible refine (frame_Join.calls _ _ x15_2 t156 t157 _ ?side1 ?side2 A26.out).mono ?_); (case side1 => repeat (first | exact (Kd.R_reads' HO_15.out).2.2 | (with_reducible refine Kd.C_alloc ?_ _) | (with_reducible refine Kd.C_drewN ?_ _) | (with_reducible refine Kd.C_drew ?_))); (case side2 => exact (Kd.R_reads' HO_15.out).2.1); rintro e w33 ⟨rfl, hb⟩; refine ⟨_, rfl, ?_⟩; have n0_ := Aside0.mk (Kd.R_below (by (with_reducible repeat (first | apply Kd.R_alloc | apply Kd.R_drewN | apply Kd.R_drew)); exact HO_11.out) hb); have n1_ := Aside0.mk (Kd.R_below (by (with_reducible repeat (first | apply Kd.R_alloc | apply Kd.R_drewN | apply Kd.R_drew)); exact HO_13.out) hb); have n2_ := Aside0.mk (Kd.R_below (by (with_reducible repeat (first | apply Kd.R_alloc | apply Kd.R_drewN | apply Kd.R_drew)); exact HO_15.out) hb); have n3_ := Aside0.mk (Kd.R_below (by (with_reducible repeat (first | apply Kd.R_alloc | apply Kd.R_drewN | apply Kd.R_drew)); exact HO155.out) hb); have n4_ := Aside0.mk (below_step (by repeat (first | (with_reducible first | exact HB.out | apply below_alloc | apply pw_below_drewN | apply below_drew1) | exact HB.out)) hb); clear HO_11; clear HO_13; clear HO_15; clear HO155; clear HB; have HO_11 := n0_; have HO_13 := n1_; have HO_15 := n2_; have HO155 := n3_; have HB := n4_; clear n0_ n1_ n2_ n3_ n4_; (try clear hb); (try clear hb2); (try clear hk); (try clear hi); obtain ⟨Ao34, co34, eo34⟩ := Kd.R_slice HO155.out; subst eo34) | ((with_reducible refine gate_callee (f := 14) rfl ?_); refine goesL_ (some 67) rfl rfl Try.func14 (by kernel_rfl) rfl #[.slice Ao34 y153.length co34] rfl (by (try simp only [List.map_toArray, List.map_cons, List.map_nil]); first | done | rfl | (simp only [List.length_drop, List.length_take]; rfl)) ?_; (with_reducible refine (foghornref25_Join.calls k2 _ _ y153 t158 t159 _ ?side1 ?side2 A27.out).mono ?_); (case side1 => repeat (first | exact (Kd.R_reads' HO155.out).2.2 | (with_reducible refine Kd.C_alloc ?_ _) | (with_reducible refine Kd.C_drewN ?_ _) | (with_reducible refine Kd.C_drew ?_))); (case side2 => exact (Kd.R_reads' HO155.out).2.1); rintro e w35 ⟨rfl, hb⟩; refine ⟨_, rfl, ?_⟩; have n0_ := Aside0.mk (Kd.R_below (by (with_reducible repeat (first | apply Kd.R_alloc | apply Kd.R_drewN | apply Kd.R_drew)); exact HO_11.out) hb); have n1_ := Aside0.mk (Kd.R_below (by (with_reducible repeat (first | apply Kd.R_alloc | apply Kd.R_drewN | apply Kd.R_drew)); exact HO_13.out) hb); have n2_ := Aside0.mk (Kd.R_below (by (with_reducible repeat (first | apply Kd.R_alloc | apply Kd.R_drewN | apply Kd.R_drew)); exact HO_15.out) hb); have n3_ := Aside0.mk (Kd.R_below (by (with_reducible repeat (first | apply Kd.R_alloc | apply Kd.R_drewN | apply Kd.R_drew)); exact HO155.out) hb); have n4_ := Aside0.mk (below_step (by repeat (first | (with_reducible first | exact HB.out | apply below_alloc | apply pw_below_drewN | apply below_drew1) | exact HB.out)) hb); clear HO_11; clear HO_13; clear HO_15; clear HO155; clear HB; have HO_11 := n0_; have HO_13 := n1_; have HO_15 := n2_; have HO155 := n3_; have HB := n4_; clear n0_ n1_ n2_ n3_ n4_; (try clear hb); (try clear hb2); (try clear hk); (try clear hi)))
                  (try simp only [Act.put, List.setIfInBounds_toArray, List.set_cons_zero, List.set_cons_succ])
                  go_cut [83] (fun v83 wc => ∃ (kq : Nat) (x83_27 : Bool), v83 = .bool x83_27 ∧ Aside0 (foghornlaw25_FramePieces.j2 kq a0 a1 a2 a3 t135 t139 x15_2 x16_2 x83_27 = some true) ∧ Aside0 (kq ≤ k2) ∧ Aside0 (Kd.R k30 30 wc w.heap.size (fun k_ => some k_ ≠ (v141 : Value).ownBlock ∧ some k_ ≠ ((.slice Ao32 x15_2.length co32) : Value).ownBlock) v137 t135) ∧ Aside0 (Kd.R k30 30 wc w.heap.size (fun k_ => some k_ ≠ (v137 : Value).ownBlock ∧ some k_ ≠ ((.slice Ao32 x15_2.length co32) : Value).ownBlock) v141 t139) ∧ Aside0 (Kd.R k30 30 wc w.heap.size (fun k_ => some k_ ≠ (v137 : Value).ownBlock ∧ some k_ ≠ (v141 : Value).ownBlock) (.slice Ao32 x15_2.length co32) x15_2) ∧ Aside0 (Below w.heap.size w wc))
                  case first =>
                    have H := HC28.out
                    clear HC28
                    by_cases c36 : t156.toList = t158.toList
                    · rw [if_pos c36] at H
                      have c36b0 : (t156.toList == t158.toList) = true := beq_iff_eq.mpr c36
                      have c36b1 : (t156.toList != t158.toList) = false := bne_eq_false_iff_eq.mpr c36
                      clear c36
                      (first | rw [c36b0] | (simp only [i64_w, i32_w]; rw [c36b0]) | skip)
                      by_cases c37 : t157 = t159
                      · rw [if_pos c37] at H
                        have c37b0 : (t157 == t159) = true := beq_iff_eq.mpr c37
                        have c37b1 : (t157 != t159) = false := bne_eq_false_iff_eq.mpr c37
                        clear c37
                        replace H := Option.bind_eq_some_iff.mp H
                        obtain ⟨t160, A380, H⟩ := H
                        replace H : (foghornlaw25_FramePieces.j2 k2 a0 a1 a2 a3 t135 t139 x15_2 x16_2 (!t160)) = some true := H
                        have A38 := Aside0.mk A380
                        clear A380
                        have H' := Aside0.mk H
                        clear H
                        go_wp2_with (first | (go_at_call 12; (with_reducible refine (foghornref25_SameAll.calls k2 _ _ x15_2 _ _ y153 t160 _ ?side1 ?side2 ?side3 ?side4 A38.out).mono ?_); (case side1 => repeat (first | exact (Kd.R_reads' HO_15.out).2.2 | (with_reducible refine Kd.C_alloc ?_ _) | (with_reducible refine Kd.C_drewN ?_ _) | (with_reducible refine Kd.C_drew ?_))); (case side2 => exact (Kd.R_reads' HO_15.out).2.1); (case side3 => repeat (first | exact (Kd.R_reads' HO155.out).2.2 | (with_reducible refine Kd.C_alloc ?_ _) | (with_reducible refine Kd.C_drewN ?_ _) | (with_reducible refine Kd.C_drew ?_))); (case side4 => exact (Kd.R_reads' HO155.out).2.1); rintro e w39 ⟨rfl, hb⟩; have n0_ := Aside0.mk (Kd.R_below (by (with_reducible repeat (first | apply Kd.R_alloc | apply Kd.R_drewN | apply Kd.R_drew)); exact HO_11.out) hb); have n1_ := Aside0.mk (Kd.R_below (by (with_reducible repeat (first | apply Kd.R_alloc | apply Kd.R_drewN | apply Kd.R_drew)); exact HO_13.out) hb); have n2_ := Aside0.mk (Kd.R_below (by (with_reducible repeat (first | apply Kd.R_alloc | apply Kd.R_drewN | apply Kd.R_drew)); exact HO_15.out) hb); have n3_ := Aside0.mk (Kd.R_below (by (with_reducible repeat (first | apply Kd.R_alloc | apply Kd.R_drewN | apply Kd.R_drew)); exact HO155.out) hb); have n4_ := Aside0.mk (below_step (by repeat (first | (with_reducible first | exact HB.out | apply below_alloc | apply pw_below_drewN | apply below_drew1) | exact HB.out)) hb); clear HO_11; clear HO_13; clear HO_15; clear HO155; clear HB; have HO_11 := n0_; have HO_13 := n1_; have HO_15 := n2_; have HO155 := n3_; have HB := n4_; clear n0_ n1_ n2_ n3_ n4_; (try clear hb); (try clear hb2); (try clear hk); (try clear hi)))
                        go_meet
                        case rel => exact ⟨_, (!t160), (by first | rfl | (simp; done) | (simp [*]; done) | (simp; omega) | (congr 1; omega) | (rw [hR_]; done) | (simp only [hR_]; done) | (simp [hR_]; done)), H', ⟨by have := HJ7.out; have := HK2.out; first | omega | exact Nat.le_refl _⟩, ⟨by (with_reducible repeat (first | apply Kd.R_alloc | apply Kd.R_drewN | apply Kd.R_drew)); exact Kd.R_mono HO_11.out (fun _ hk => ⟨hk.1.1, hk.1.2⟩)⟩, ⟨by (with_reducible repeat (first | apply Kd.R_alloc | apply Kd.R_drewN | apply Kd.R_drew)); exact Kd.R_mono HO_13.out (fun _ hk => ⟨hk.1.1, hk.1.2⟩)⟩, ⟨by (with_reducible repeat (first | apply Kd.R_alloc | apply Kd.R_drewN | apply Kd.R_drew)); exact Kd.R_mono HO_15.out (fun _ hk => ⟨hk.1.1, hk.1.2⟩)⟩, ⟨by repeat (first | (with_reducible first | exact HB.out | apply below_alloc | apply pw_below_drewN | apply below_drew1) | exact HB.out)⟩⟩
                      · rw [if_neg c37] at H
                        have c37b0 : (t157 == t159) = false := beq_eq_false_iff_ne.mpr c37
                        have c37b1 : (t157 != t159) = true := bne_iff_ne.mpr c37
                        have H' := Aside0.mk H
                        clear H
                        go_wp2
                        go_meet
                        case rel => exact ⟨_, (true), (by first | rfl | (simp; done) | (simp [*]; done) | (simp; omega) | (congr 1; omega) | (rw [hR_]; done) | (simp only [hR_]; done) | (simp [hR_]; done)), H', ⟨by have := HJ7.out; have := HK2.out; first | omega | exact Nat.le_refl _⟩, ⟨by (with_reducible repeat (first | apply Kd.R_alloc | apply Kd.R_drewN | apply Kd.R_drew)); exact Kd.R_mono HO_11.out (fun _ hk => ⟨hk.1.1, hk.1.2⟩)⟩, ⟨by (with_reducible repeat (first | apply Kd.R_alloc | apply Kd.R_drewN | apply Kd.R_drew)); exact Kd.R_mono HO_13.out (fun _ hk => ⟨hk.1.1, hk.1.2⟩)⟩, ⟨by (with_reducible repeat (first | apply Kd.R_alloc | apply Kd.R_drewN | apply Kd.R_drew)); exact Kd.R_mono HO_15.out (fun _ hk => ⟨hk.1.1, hk.1.2⟩)⟩, ⟨by repeat (first | (with_reducible first | exact HB.out | apply below_alloc | apply pw_below_drewN | apply below_drew1) | exact HB.out)⟩⟩
                    · rw [if_neg c36] at H
                      have c36b0 : (t156.toList == t158.toList) = false := beq_eq_false_iff_ne.mpr c36
                      have c36b1 : (t156.toList != t158.toList) = true := bne_iff_ne.mpr c36
                      (first | rw [c36b0] | (simp only [i64_w, i32_w]; rw [c36b0]) | skip)
                      have H' := Aside0.mk H
                      clear H
                      go_wp2
                      go_meet
                      case rel => exact ⟨_, (true), (by first | rfl | (simp; done) | (simp [*]; done) | (simp; omega) | (congr 1; omega) | (rw [hR_]; done) | (simp only [hR_]; done) | (simp [hR_]; done)), H', ⟨by have := HJ7.out; have := HK2.out; first | omega | exact Nat.le_refl _⟩, ⟨by (with_reducible repeat (first | apply Kd.R_alloc | apply Kd.R_drewN | apply Kd.R_drew)); exact Kd.R_mono HO_11.out (fun _ hk => ⟨hk.1.1, hk.1.2⟩)⟩, ⟨by (with_reducible repeat (first | apply Kd.R_alloc | apply Kd.R_drewN | apply Kd.R_drew)); exact Kd.R_mono HO_13.out (fun _ hk => ⟨hk.1.1, hk.1.2⟩)⟩, ⟨by (with_reducible repeat (first | apply Kd.R_alloc | apply Kd.R_drewN | apply Kd.R_drew)); exact Kd.R_mono HO_15.out (fun _ hk => ⟨hk.1.1, hk.1.2⟩)⟩, ⟨by repeat (first | (with_reducible first | exact HB.out | apply below_alloc | apply pw_below_drewN | apply below_drew1) | exact HB.out)⟩⟩
                  case rest =>
                    clear HC28
                    try clear c1
                    try clear c2
                    try clear p2
                    try clear c3
                    try clear c4
                    try clear c10
                    try clear c11
                    try clear c12
                    try clear c13
                    try clear c14
                    try clear c19
                    try clear c20
                    try clear c24
                    try clear c24b0
                    try clear c25
                    try clear c36
                    try clear c36b0
                    try clear c36b1
                    try clear c37
                    try clear c37b0
                    try clear c37b1
                    try clear p2
                    obtain ⟨kq, x83_27, rfl, HA, HJ27, HO_11, HO_13, HO_15, HB⟩ := hcut
                    cases kq with
                    | zero => exact absurd HA.out (by simp [foghornlaw25_FramePieces.j2])
                    | succ kj27 =>
                      have H := HA.out
                      clear HA
                      simp only [foghornlaw25_FramePieces.j2] at H
                      by_cases c40 : x83_27 = true
                      · subst c40
                        have H1 : (some false) = some true := by rw [if_pos rfl] at H; exact H
                        clear H
                        have H := H1
                        clear H1
                        exact absurd H (by simp)
                      · replace c40 := Bool.eq_false_iff.mpr c40
                        subst c40
                        have H1 : (if (x15_2.length : Int) > 0 then (if 0 ≤ (wrap64 ((x15_2.length : Int) - 1)) then (if (wrap64 ((x15_2.length : Int) - 1)) < (x15_2.length : Int) then (foghornlaw25_FramePieces.l0 kj27 a0 a1 a2 a3 t135 t139 (x15_2.set ((wrap64 ((x15_2.length : Int) - 1)) : Int).toNat (⟨(rd_T30 x15_2 (wrap64 ((x15_2.length : Int) - 1))).f0, (rd_T30 x15_2 (wrap64 ((x15_2.length : Int) - 1))).f1, !((rd_T30 x15_2 (wrap64 ((x15_2.length : Int) - 1))).f2), (rd_T30 x15_2 (wrap64 ((x15_2.length : Int) - 1))).f3⟩ : S30)) (wrap64 (x16_2 + 1))) else (none)) else (none)) else (foghornlaw25_FramePieces.l0 kj27 a0 a1 a2 a3 t135 t139 x15_2 (wrap64 (x16_2 + 1)))) = some true := by rw [if_neg (show ¬ (false = true) by decide)] at H; exact H
                        clear H
                        have H := H1
                        clear H1
                        by_cases c41 : (x15_2.length : Int) > 0
                        · rw [if_pos c41] at H
                          have c41b0 : decide (0 < (x15_2.length : Int)) = true := decide_eq_true c41
                          have c41b1 : decide (0 < x15_2.length) = true := decide_eq_true (by omega)
                          clear c41
                          obtain ⟨ji42, hji42⟩ : ∃ j_ : Int, (wrap64 ((x15_2.length : Int) - 1)) = j_ := ⟨_, rfl⟩
                          replace H : (if 0 ≤ (ji42) then (if (ji42) < (x15_2.length : Int) then (foghornlaw25_FramePieces.l0 kj27 a0 a1 a2 a3 t135 t139 (x15_2.set ((ji42) : Int).toNat (⟨(rd_T30 x15_2 (ji42)).f0, (rd_T30 x15_2 (ji42)).f1, !((rd_T30 x15_2 (ji42)).f2), (rd_T30 x15_2 (ji42)).f3⟩ : S30)) (wrap64 (x16_2 + 1))) else (none)) else (none)) = some true := by first | (rw [hji42] at H; exact H) | (simp only [hji42] at H ⊢; exact H)
                          have hji42w : (IntKind.i64.wrap ((x15_2.length : Int) - 1)) = ji42 := (i64_w _).trans hji42
                          by_cases c43 : 0 ≤ (ji42)
                          · rw [if_pos c43] at H
                            have c43b0 : decide (0 ≤ (ji42)) = true := decide_eq_true c43
                            clear c43
                            by_cases c44 : (ji42) < (x15_2.length : Int)
                            · rw [if_pos c44] at H
                              have c44b0 : decide ((ji42) < (x15_2.length : Int)) = true := decide_eq_true c44
                              clear c44
                              obtain ⟨y162, hy162⟩ : ∃ y_ : List (S30), y_ = (x15_2.set ((ji42) : Int).toNat (⟨(rd_T30 x15_2 (ji42)).f0, (rd_T30 x15_2 (ji42)).f1, !((rd_T30 x15_2 (ji42)).f2), (rd_T30 x15_2 (ji42)).f3⟩ : S30)) := ⟨_, rfl⟩
                              replace H : (foghornlaw25_FramePieces.l0 kj27 a0 a1 a2 a3 t135 t139 y162 (wrap64 (x16_2 + 1))) = some true := by first | (rw [hy162]; with_reducible exact H) | (have H2_ := (Option.bind_some _ _).symm.trans H; rw [hy162]; with_reducible exact H2_) | (have H2_ := (Option.bind_some _ _).symm.trans H; with_reducible exact H2_) | with_reducible exact H | (rw [hy162]; exact H) | exact H
                              have Ny162 := Aside0.mk hy162
                              clear hy162
                              have H' := Aside0.mk H
                              clear H
                              have p161 : 0 ≤ ((ji42) : Int) := of_decide_eq_true (by first | (with_reducible assumption) | assumption)
                              have q161 : (ji42) < (x15_2.length : Int) := of_decide_eq_true (by first | (with_reducible assumption) | assumption)
                              obtain ⟨ad161, e161, hx161_0, hx161_1, hx161_2, hx161_3⟩ := at_T30 (Kd.R_reads' HO_15.out).2.2 (ji42) p161 q161
                              cases e161
                              replace p161 := eq_true p161
                              replace q161 := eq_true q161
                              have p45 : 0 ≤ ((ji42) : Int) := of_decide_eq_true (by first | (with_reducible assumption) | assumption)
                              have q45 : ((ji42) : Int) < ((x15_2.length : Int) : Int) := of_decide_eq_true (by first | (with_reducible assumption) | assumption)
                              obtain ⟨go45, co45, eo45, gb45, gl45, cl45, HG45⟩ := Kd.R_form HO_15.out (by omega)
                              (first | cases eo45 | (injection eo45 with ea_ en_ ec_; (first | subst ea_ | (injection ea_ with ea_; subst ea_)); subst ec_; clear en_))
                              have GB45 := Aside0.mk gb45
                              have GG45 := Aside0.mk HG45
                              clear gb45 gl45 HG45
                              (first | simp only [add_plain] at hx161_0 | skip)
                              (first | simp only [add_plain] at hx161_1 | skip)
                              (first | simp only [add_plain] at hx161_2 | skip)
                              (first | simp only [add_plain] at hx161_3 | skip)
                              obtain ⟨ce45, hcl45, hM45, hcc45, hfr45⟩ := Kd.R_elem HO_15.out z30 ((ji42) : Int) p45 q45
                              obtain rfl := k30_openM hM45
                              have hx45_0 : wc.cell? ⟨go45, ((ji42) : Int).toNat * 4, none⟩ = some (.int .u8 ((rd_T30 x15_2 (ji42)).f0)) := hcc45 0 _ rfl
                              have hx45_1 : wc.cell? ⟨go45, ((ji42) : Int).toNat * 4 + 1, none⟩ = some (.int .u8 ((rd_T30 x15_2 (ji42)).f1)) := hcc45 1 _ rfl
                              have hx45_2 : wc.cell? ⟨go45, ((ji42) : Int).toNat * 4 + 2, none⟩ = some (.bool ((rd_T30 x15_2 (ji42)).f2)) := hcc45 2 _ rfl
                              have hx45_3 : wc.cell? ⟨go45, ((ji42) : Int).toNat * 4 + 3, none⟩ = some (.string ((rd_T30 x15_2 (ji42)).f3)) := hcc45 3 _ rfl
                              have hf45_0 : wc.frozen? ⟨go45, ((ji42) : Int).toNat * 4, none⟩ = false := hfr45 0
                              have hf45_1 : wc.frozen? ⟨go45, ((ji42) : Int).toNat * 4 + 1, none⟩ = false := hfr45 1
                              have hf45_2 : wc.frozen? ⟨go45, ((ji42) : Int).toNat * 4 + 2, none⟩ = false := hfr45 2
                              have hf45_3 : wc.frozen? ⟨go45, ((ji42) : Int).toNat * 4 + 3, none⟩ = false := hfr45 3
                              clear hcl45 hcc45 hfr45 hM45
                              replace p45 := eq_true p45
                              replace q45 := eq_true q45
                              have HX46 := Aside0.mk (show Kd.R k30 30 wc w.heap.size (fun k_ => some k_ ≠ (v137 : Value).ownBlock ∧ some k_ ≠ (v141 : Value).ownBlock) (.slice (some ⟨go45, 0, none⟩) x15_2.length co32) x15_2 from (by (with_reducible repeat (first | apply Kd.R_alloc | apply Kd.R_drewN | apply Kd.R_drew)); exact HO_15.out))
                              obtain ⟨ce46, hcl46, hM46, hcc46, hfr46⟩ := Kd.R_elem HX46.out z30 ((ji42) : Int) (of_decide_eq_true (by first | (with_reducible assumption) | assumption)) (by have h_ : ((ji42) : Int) < ((x15_2.length : Int) : Int) := of_decide_eq_true (by first | (with_reducible assumption) | assumption); first | exact h_ | (have e_ := (Kd.R_reads' HO_15.out).1; omega) | simpa using h_)
                              obtain rfl := k30_openM hM46
                              have HP46 := Kd.R_seg HX46.out ((ji42) : Int) (of_decide_eq_true (by first | (with_reducible assumption) | assumption)) (by have h_ : ((ji42) : Int) < ((x15_2.length : Int) : Int) := of_decide_eq_true (by first | (with_reducible assumption) | assumption); first | exact h_ | (have e_ := (Kd.R_reads' HO_15.out).1; omega) | simpa using h_) (seg := [.bool (!((rd_T30 x15_2 (ji42)).f2))]) (j := 2) hcl46 hcc46 (show 3 ≤ 4 from by decide) (x' := (⟨(rd_T30 x15_2 (ji42)).f0, (rd_T30 x15_2 (ji42)).f1, !((rd_T30 x15_2 (ji42)).f2), (rd_T30 x15_2 (ji42)).f3⟩ : S30)) (k30_mkM _ _ _ (⟨(rd_T30 x15_2 (ji42)).f0, (rd_T30 x15_2 (ji42)).f1, !((rd_T30 x15_2 (ji42)).f2), (rd_T30 x15_2 (ji42)).f3⟩ : S30) ) (fun _ hk => hk)
                              have hx46_2 := hcc46 2 _ rfl
                              (try simp only [show (k30).sz = 4 from rfl, Nat.mul_one, Nat.add_zero] at hx46_2)
                              have hf46_2 := hfr46 2
                              (try simp only [show (k30).sz = 4 from rfl, Nat.mul_one, Nat.add_zero] at hf46_2)
                              clear hcl46 hcc46 hfr46 hM46
                              go_wp2_with (first | ((with_reducible refine gate_store (t := 4) (p := 100) rfl ?_); refine store_event (t := 4) (p := 100) (v := ?vo_w47) (w1 := (wc.setCell ⟨go45, ((ji42) : Int).toNat * 4 + 2, none⟩ (.bool (!((rd_T30 x15_2 (ji42)).f2))))) ?hg ?ho ?hn ?hr ?_; (case ho => rfl); (case hg => rfl); (case hn => rfl); (case hr => first | (go_simp; done) | (go_simp; rfl)); intro w47 hw; have hg : wc.grownBy w47 (some go45) := (by rw [hw]; exact HP46.2); have hp_ : Kd.R k30 30 w47 w.heap.size (fun k_ => some k_ ≠ (v137 : Value).ownBlock ∧ some k_ ≠ (v141 : Value).ownBlock) (.slice (some ⟨go45, 0, none⟩) x15_2.length co32) y162 := (by rw [hw, Ny162.out]; exact HP46.1); clear HP46; have n0_ := Aside0.mk (Kd.R_after (v := (.slice (some ⟨go45, 0, none⟩) x15_2.length co32)) (v1 := (.slice (some ⟨go45, 0, none⟩) x15_2.length co32)) (ok := (fun k_ => some k_ ≠ (v141 : Value).ownBlock)) (by (with_reducible repeat (first | apply Kd.R_alloc | apply Kd.R_drewN | apply Kd.R_drew)); exact HO_11.out) hg (.inl rfl)); have n1_ := Aside0.mk (Kd.R_after (v := (.slice (some ⟨go45, 0, none⟩) x15_2.length co32)) (v1 := (.slice (some ⟨go45, 0, none⟩) x15_2.length co32)) (ok := (fun k_ => some k_ ≠ (v137 : Value).ownBlock)) (by (with_reducible repeat (first | apply Kd.R_alloc | apply Kd.R_drewN | apply Kd.R_drew)); exact HO_13.out) hg (.inl rfl)); have n2_ := Aside0.mk (hp_); have n3_ := Aside0.mk ((by rw [hw]; exact below_set (HB.out) GB45.out : Below w.heap.size w w47)); clear HO_11; clear HO_13; clear HO_15; clear HB; have HO_11 := n0_; have HO_13 := n1_; have HO_15 := n2_; have HB := n3_; clear n0_ n1_ n2_ n3_; clear hg hw hp_))
                              (first | go_roundg kj27 | (simp only [add_plain] at *; go_roundg kj27))
                              case measure => have := HJ7.out; have := HK2.out; have := HJ27.out; omega
                              case rel => exact ⟨(y162), (wrap64 (x16_2 + 1)), (by first | rfl | (simp; done) | (simp [*]; done) | (simp; omega) | (congr 1; omega) | (rw [hR_]; done) | (simp only [hR_]; done) | (simp [hR_]; done)), H', ⟨by have := HJ7.out; have := HK2.out; have := HJ27.out; omega⟩, ⟨by (with_reducible repeat (first | apply Kd.R_alloc | apply Kd.R_drewN | apply Kd.R_drew)); exact HO_11.out⟩, ⟨by (with_reducible repeat (first | apply Kd.R_alloc | apply Kd.R_drewN | apply Kd.R_drew)); exact HO_13.out⟩, ⟨by (with_reducible repeat (first | apply Kd.R_alloc | apply Kd.R_drewN | apply Kd.R_drew)); exact HO_15.out⟩, ⟨by repeat (first | (with_reducible first | exact HB.out | apply below_alloc | apply pw_below_drewN | apply below_drew1) | exact HB.out)⟩⟩
                            · rw [if_neg c44] at H
                              exact absurd H (by simp)
                          · rw [if_neg c43] at H
                            exact absurd H (by simp)
                        · rw [if_neg c41] at H
                          have c41b0 : decide (0 < (x15_2.length : Int)) = false := decide_eq_false c41
                          have c41b1 : decide (0 < x15_2.length) = false := decide_eq_false (by omega)
                          clear c41
                          have H' := Aside0.mk H
                          clear H
                          go_wp2
                          (first | go_roundg kj27 | (simp only [add_plain] at *; go_roundg kj27))
                          case measure => have := HJ7.out; have := HK2.out; have := HJ27.out; omega
                          case rel => exact ⟨(x15_2), (wrap64 (x16_2 + 1)), (by first | rfl | (simp; done) | (simp [*]; done) | (simp; omega) | (congr 1; omega) | (rw [hR_]; done) | (simp only [hR_]; done) | (simp [hR_]; done)), H', ⟨by have := HJ7.out; have := HK2.out; have := HJ27.out; omega⟩, ⟨by (with_reducible repeat (first | apply Kd.R_alloc | apply Kd.R_drewN | apply Kd.R_drew)); exact HO_11.out⟩, ⟨by (with_reducible repeat (first | apply Kd.R_alloc | apply Kd.R_drewN | apply Kd.R_drew)); exact HO_13.out⟩, ⟨by (with_reducible repeat (first | apply Kd.R_alloc | apply Kd.R_drewN | apply Kd.R_drew)); exact HO_15.out⟩, ⟨by repeat (first | (with_reducible first | exact HB.out | apply below_alloc | apply pw_below_drewN | apply below_drew1) | exact HB.out)⟩⟩
                · rw [if_neg c25] at H
                  exact absurd H (by simp)
              · rw [if_neg c24] at H
                have c24b0 : decide (x16_2 < 2) = false := decide_eq_false c24
                clear c24
                have H' := Aside0.mk H
                clear H
                go_wp2
                go_loopg [22] k2 (fun kq v22 w' => ∃ (x11_3 : List (S30)) (x22_3 : Int), v22 = .int .i64 x22_3 ∧ Aside0 (foghornlaw25_FramePieces.l1 kq a0 a1 a2 a3 x11_3 t139 x22_3 = some true) ∧ Aside0 (kq ≤ k2) ∧ Aside0 (Kd.R k30 30 w' w.heap.size (fun k_ => some k_ ≠ (v141 : Value).ownBlock) v137 x11_3) ∧ Aside0 (Kd.R k30 30 w' w.heap.size (fun k_ => some k_ ≠ (v137 : Value).ownBlock) v141 t139) ∧ Aside0 (Below w.heap.size w w'))
                case atStart => exact ⟨(t135), (0), (by first | rfl | (simp; done) | (simp [*]; done) | (simp; omega) | (congr 1; omega) | (rw [hR_]; done) | (simp only [hR_]; done) | (simp [hR_]; done)), H', ⟨Nat.le_refl _⟩, ⟨by (with_reducible repeat (first | apply Kd.R_alloc | apply Kd.R_drewN | apply Kd.R_drew)); exact Kd.R_mono HO_11.out (fun _ hk => hk.1)⟩, ⟨by (with_reducible repeat (first | apply Kd.R_alloc | apply Kd.R_drewN | apply Kd.R_drew)); exact Kd.R_mono HO_13.out (fun _ hk => hk.1)⟩, ⟨by repeat (first | (with_reducible first | exact HB.out | apply below_alloc | apply pw_below_drewN | apply below_drew1) | exact HB.out)⟩⟩
                case round =>
                  clear H'
                  try clear c1
                  try clear p1
                  try clear q1
                  try clear hx1
                  try clear c2
                  try clear p2
                  try clear c3
                  try clear c4
                  try clear p4
                  try clear q4
                  try clear hx4
                  try clear p6
                  try clear c10
                  try clear c11
                  try clear c12
                  try clear c13
                  try clear c14
                  try clear p16
                  try clear q16
                  try clear hx16
                  try clear c19
                  try clear c20
                  try clear c24
                  try clear c24b0
                  try clear c25
                  try clear c36
                  try clear c36b0
                  try clear c36b1
                  try clear c37
                  try clear c37b0
                  try clear c37b1
                  try clear c40
                  try clear c41
                  try clear c41b0
                  try clear c41b1
                  try clear c43
                  try clear c43b0
                  try clear c44
                  try clear c44b0
                  try clear c45
                  try clear p45
                  try clear q45
                  try clear hx45
                  try clear hf45
                  try clear c46
                  try clear hx46
                  try clear hf46
                  try clear hx161_0
                  try clear hx161_1
                  try clear hx161_2
                  try clear hx161_3
                  try clear hx45_0
                  try clear hx45_1
                  try clear hx45_2
                  try clear hx45_3
                  try clear hx46_2
                  try clear p161
                  try clear p2
                  try clear p45
                  try clear q161
                  try clear q45
                  obtain ⟨x11_3, x22_3, rfl, HA, HK3, HO_11, HO_13, HB⟩ := hrel
                  cases gk with
                  | zero => exact absurd HA.out (by simp [foghornlaw25_FramePieces.l1])
                  | succ k3 =>
                    have H := HA.out
                    clear HA
                    simp only [foghornlaw25_FramePieces.l1] at H
                    by_cases c48 : x22_3 < (x11_3.length : Int)
                    · rw [if_pos c48] at H
                      have c48b0 : decide (x22_3 < (x11_3.length : Int)) = true := decide_eq_true c48
                      clear c48
                      by_cases c49 : 0 ≤ x22_3
                      · rw [if_pos c49] at H
                        have c49b0 : decide (0 ≤ x22_3) = true := decide_eq_true c49
                        clear c49
                        obtain ⟨y163, hy163⟩ : ∃ y_ : List (S30), y_ = (x11_3.set (x22_3 : Int).toNat (⟨0, 0, false, (⟨#[]⟩ : ByteArray)⟩ : S30)) := ⟨_, rfl⟩
                        replace H : (foghornlaw25_FramePieces.l1 k3 a0 a1 a2 a3 y163 t139 (wrap64 (x22_3 + 1))) = some true := by first | (rw [hy163]; with_reducible exact H) | (have H2_ := (Option.bind_some _ _).symm.trans H; rw [hy163]; with_reducible exact H2_) | (have H2_ := (Option.bind_some _ _).symm.trans H; with_reducible exact H2_) | with_reducible exact H | (rw [hy163]; exact H) | exact H
                        have Ny163 := Aside0.mk hy163
                        clear hy163
                        have H' := Aside0.mk H
                        clear H
                        obtain ⟨Ao51, co51, eo51⟩ := Kd.R_slice HO_11.out
                        subst eo51
                        have p50 : 0 ≤ (x22_3 : Int) := of_decide_eq_true (by first | (with_reducible assumption) | assumption)
                        have q50 : (x22_3 : Int) < ((x11_3.length : Int) : Int) := of_decide_eq_true (by first | (with_reducible assumption) | assumption)
                        obtain ⟨go50, co50, eo50, gb50, gl50, cl50, HG50⟩ := Kd.R_form HO_11.out (by omega)
                        (first | cases eo50 | (injection eo50 with ea_ en_ ec_; (first | subst ea_ | (injection ea_ with ea_; subst ea_)); subst ec_; clear en_))
                        have GB50 := Aside0.mk gb50
                        have GG50 := Aside0.mk HG50
                        clear gb50 gl50 HG50
                        obtain ⟨ce50, hcl50, hM50, hcc50, hfr50⟩ := Kd.R_elem HO_11.out z30 (x22_3 : Int) p50 q50
                        obtain rfl := k30_openM hM50
                        have hx50_0 : wr.cell? ⟨go50, (x22_3 : Int).toNat * 4, none⟩ = some (.int .u8 ((rd_T30 x11_3 x22_3).f0)) := hcc50 0 _ rfl
                        have hx50_1 : wr.cell? ⟨go50, (x22_3 : Int).toNat * 4 + 1, none⟩ = some (.int .u8 ((rd_T30 x11_3 x22_3).f1)) := hcc50 1 _ rfl
                        have hx50_2 : wr.cell? ⟨go50, (x22_3 : Int).toNat * 4 + 2, none⟩ = some (.bool ((rd_T30 x11_3 x22_3).f2)) := hcc50 2 _ rfl
                        have hx50_3 : wr.cell? ⟨go50, (x22_3 : Int).toNat * 4 + 3, none⟩ = some (.string ((rd_T30 x11_3 x22_3).f3)) := hcc50 3 _ rfl
                        have hf50_0 : wr.frozen? ⟨go50, (x22_3 : Int).toNat * 4, none⟩ = false := hfr50 0
                        have hf50_1 : wr.frozen? ⟨go50, (x22_3 : Int).toNat * 4 + 1, none⟩ = false := hfr50 1
                        have hf50_2 : wr.frozen? ⟨go50, (x22_3 : Int).toNat * 4 + 2, none⟩ = false := hfr50 2
                        have hf50_3 : wr.frozen? ⟨go50, (x22_3 : Int).toNat * 4 + 3, none⟩ = false := hfr50 3
                        clear hcl50 hcc50 hfr50 hM50
                        replace p50 := eq_true p50
                        replace q50 := eq_true q50
                        have HX52 := Aside0.mk (show Kd.R k30 30 wr w.heap.size (fun k_ => some k_ ≠ (v141 : Value).ownBlock) (.slice (some ⟨go50, 0, none⟩) x11_3.length co51) x11_3 from (by (with_reducible repeat (first | apply Kd.R_alloc | apply Kd.R_drewN | apply Kd.R_drew)); exact HO_11.out))
                        obtain ⟨ce52, hcl52, hM52, hcc52, hfr52⟩ := Kd.R_elem HX52.out z30 (x22_3 : Int) (of_decide_eq_true (by first | (with_reducible assumption) | assumption)) (by have h_ : (x22_3 : Int) < ((x11_3.length : Int) : Int) := of_decide_eq_true (by first | (with_reducible assumption) | assumption); first | exact h_ | (have e_ := (Kd.R_reads' HO_11.out).1; omega) | simpa using h_)
                        obtain rfl := k30_openM hM52
                        have HP52 := Kd.R_seg HX52.out (x22_3 : Int) (of_decide_eq_true (by first | (with_reducible assumption) | assumption)) (by have h_ : (x22_3 : Int) < ((x11_3.length : Int) : Int) := of_decide_eq_true (by first | (with_reducible assumption) | assumption); first | exact h_ | (have e_ := (Kd.R_reads' HO_11.out).1; omega) | simpa using h_) (seg := [.int .u8 0, .int .u8 0, .bool false, .string (⟨#[]⟩ : ByteArray)]) (j := 0) hcl52 hcc52 (show 4 ≤ 4 from by decide) (x' := (⟨0, 0, false, (⟨#[]⟩ : ByteArray)⟩ : S30)) (k30_mkM _ _ _ (⟨0, 0, false, (⟨#[]⟩ : ByteArray)⟩ : S30) ) (fun _ hk => hk)
                        have hx52_0 := hcc52 0 _ rfl
                        (try simp only [show (k30).sz = 4 from rfl, Nat.mul_one, Nat.add_zero] at hx52_0)
                        have hf52_0 := hfr52 0
                        (try simp only [show (k30).sz = 4 from rfl, Nat.mul_one, Nat.add_zero] at hf52_0)
                        have hx52_1 := hcc52 1 _ rfl
                        (try simp only [show (k30).sz = 4 from rfl, Nat.mul_one, Nat.add_zero] at hx52_1)
                        have hf52_1 := hfr52 1
                        (try simp only [show (k30).sz = 4 from rfl, Nat.mul_one, Nat.add_zero] at hf52_1)
                        have hx52_2 := hcc52 2 _ rfl
                        (try simp only [show (k30).sz = 4 from rfl, Nat.mul_one, Nat.add_zero] at hx52_2)
                        have hf52_2 := hfr52 2
                        (try simp only [show (k30).sz = 4 from rfl, Nat.mul_one, Nat.add_zero] at hf52_2)
                        have hx52_3 := hcc52 3 _ rfl
                        (try simp only [show (k30).sz = 4 from rfl, Nat.mul_one, Nat.add_zero] at hx52_3)
                        have hf52_3 := hfr52 3
                        (try simp only [show (k30).sz = 4 from rfl, Nat.mul_one, Nat.add_zero] at hf52_3)
                        clear hcl52 hcc52 hfr52 hM52
                        go_wp2_with (first | ((with_reducible refine gate_store (t := 30) (p := 110) rfl ?_); refine store_event (t := 30) (p := 110) (v := ?vo_w53) (w1 := ((((wr.setCell ⟨go50, (x22_3 : Int).toNat * 4, none⟩ (.int .u8 0)).setCell ⟨go50, (x22_3 : Int).toNat * 4 + 1, none⟩ (.int .u8 0)).setCell ⟨go50, (x22_3 : Int).toNat * 4 + 2, none⟩ (.bool false)).setCell ⟨go50, (x22_3 : Int).toNat * 4 + 3, none⟩ (.string (⟨#[]⟩ : ByteArray)))) ?hg ?ho ?hn ?hr ?_; (case ho => rfl); (case hg => rfl); (case hn => rfl); (case hr => first | (go_simp; done) | (go_simp; rfl)); intro w53 hw; have hg : wr.grownBy w53 (some go50) := (by rw [hw]; exact HP52.2); have hp_ : Kd.R k30 30 w53 w.heap.size (fun k_ => some k_ ≠ (v141 : Value).ownBlock) (.slice (some ⟨go50, 0, none⟩) x11_3.length co51) y163 := (by rw [hw, Ny163.out]; exact HP52.1); clear HP52; have n0_ := Aside0.mk (hp_); have n1_ := Aside0.mk (Kd.R_after (v := (.slice (some ⟨go50, 0, none⟩) x11_3.length co51)) (v1 := (.slice (some ⟨go50, 0, none⟩) x11_3.length co51)) (ok := (fun _ => True)) (by (with_reducible repeat (first | apply Kd.R_alloc | apply Kd.R_drewN | apply Kd.R_drew)); exact Kd.R_mono HO_13.out (fun _ hk => ⟨trivial, hk⟩)) hg (.inl rfl)); have n2_ := Aside0.mk ((by rw [hw]; exact below_set (below_set (below_set (below_set (HB.out) GB50.out) GB50.out) GB50.out) GB50.out : Below w.heap.size w w53)); clear HO_11; clear HO_13; clear HB; have HO_11 := n0_; have HO_13 := n1_; have HB := n2_; clear n0_ n1_ n2_; clear hg hw hp_))
                        (first | go_roundg k3 | (simp only [add_plain] at *; go_roundg k3))
                        case measure => have := HJ7.out; have := HK2.out; have := HK3.out; omega
                        case rel => exact ⟨(y163), (wrap64 (x22_3 + 1)), (by first | rfl | (simp; done) | (simp [*]; done) | (simp; omega) | (congr 1; omega) | (rw [hR_]; done) | (simp only [hR_]; done) | (simp [hR_]; done)), H', ⟨by have := HJ7.out; have := HK2.out; have := HK3.out; omega⟩, ⟨by (with_reducible repeat (first | apply Kd.R_alloc | apply Kd.R_drewN | apply Kd.R_drew)); exact HO_11.out⟩, ⟨by (with_reducible repeat (first | apply Kd.R_alloc | apply Kd.R_drewN | apply Kd.R_drew)); exact Kd.R_mono HO_13.out (fun _ hk => hk.2)⟩, ⟨by repeat (first | (with_reducible first | exact HB.out | apply below_alloc | apply pw_below_drewN | apply below_drew1) | exact HB.out)⟩⟩
                      · rw [if_neg c49] at H
                        exact absurd H (by simp)
                    · rw [if_neg c48] at H
                      have c48b0 : decide (x22_3 < (x11_3.length : Int)) = false := decide_eq_false c48
                      clear c48
                      replace H := Option.bind_eq_some_iff.mp H
                      obtain ⟨⟨t164, t165⟩, A540, H⟩ := H
                      replace H : ((foghornref25_SameAll.f k3 t164 t139).bind fun t168 => (some t168)) = some true := H
                      have A54 := Aside0.mk A540
                      clear A540
                      replace H := Option.bind_eq_some_iff.mp H
                      obtain ⟨t168, A550, H⟩ := H
                      replace H : (some t168) = some true := H
                      have A55 := Aside0.mk A550
                      clear A550
                      obtain rfl := Option.some.inj H
                      obtain ⟨Ao56, co56, eo56⟩ := Kd.R_slice HO_11.out
                      subst eo56
                      go_wp2_with (first | ((with_reducible refine gate_callee (f := 10) rfl ?_); refine goesL_ (some 116) rfl rfl Try.func10 (by kernel_rfl) rfl #[.int .u8 a0, .int .u8 a1, .string a2, .int .i64 a3] rfl (by (try simp only [List.map_toArray, List.map_cons, List.map_nil]); first | done | rfl | (simp only [List.length_drop, List.length_take]; rfl)) ?_; (with_reducible refine (frame_Pieces.calls k3 a0 a1 a2 a3 t164 t165 _ A54.out).mono ?_); rintro e w57 ⟨v166, rfl, ho0, hb⟩; refine ⟨_, rfl, ?_⟩; have n0_ := Aside0.mk (Kd.R_elder' (by (with_reducible repeat (first | apply Kd.R_alloc | apply Kd.R_drewN | apply Kd.R_drew)); exact HO_11.out) (Kd.R_base ho0) hb); have n1_ := Aside0.mk (Kd.R_elder' (by (with_reducible repeat (first | apply Kd.R_alloc | apply Kd.R_drewN | apply Kd.R_drew)); exact HO_13.out) (Kd.R_base ho0) hb); have n2_ := Aside0.mk (Kd.R_lower (Kd.R_new' (Kd.R_new' ho0 (Kd.R_lt (by (with_reducible repeat (first | apply Kd.R_alloc | apply Kd.R_drewN | apply Kd.R_drew)); exact HO_11.out))) (Kd.R_lt (by (with_reducible repeat (first | apply Kd.R_alloc | apply Kd.R_drewN | apply Kd.R_drew)); exact HO_13.out))) (below_size (by repeat (first | (with_reducible first | exact HB.out | apply below_alloc | apply pw_below_drewN | apply below_drew1) | exact HB.out)))); have n3_ := Aside0.mk (below_step (by repeat (first | (with_reducible first | exact HB.out | apply below_alloc | apply pw_below_drewN | apply below_drew1) | exact HB.out)) hb); clear HO_11; clear HO_13; clear HB; have HO_11 := n0_; have HO_13 := n1_; have HO167 := n2_; have HB := n3_; clear n0_ n1_ n2_ n3_; (try clear hb); (try clear hb2); (try clear hk); (try clear hi); (try clear ho0); obtain ⟨Ao58, co58, eo58⟩ := Kd.R_slice HO167.out; subst eo58; obtain ⟨Ao59, co59, eo59⟩ := Kd.R_slice HO_13.out; subst eo59) | ((with_reducible refine gate_callee (f := 12) rfl ?_); refine goesL_ (some 121) rfl rfl Try.func12 (by kernel_rfl) rfl #[.slice Ao58 t164.length co58, .slice Ao59 t139.length co59] rfl (by (try simp only [List.map_toArray, List.map_cons, List.map_nil]); first | done | rfl | (simp only [List.length_drop, List.length_take]; rfl)) ?_; (with_reducible refine (foghornref25_SameAll.calls k3 _ _ t164 _ _ t139 true _ ?side1 ?side2 ?side3 ?side4 A55.out).mono ?_); (case side1 => repeat (first | exact (Kd.R_reads' HO167.out).2.2 | (with_reducible refine Kd.C_alloc ?_ _) | (with_reducible refine Kd.C_drewN ?_ _) | (with_reducible refine Kd.C_drew ?_))); (case side2 => exact (Kd.R_reads' HO167.out).2.1); (case side3 => repeat (first | exact (Kd.R_reads' HO_13.out).2.2 | (with_reducible refine Kd.C_alloc ?_ _) | (with_reducible refine Kd.C_drewN ?_ _) | (with_reducible refine Kd.C_drew ?_))); (case side4 => exact (Kd.R_reads' HO_13.out).2.1); rintro e w60 ⟨rfl, hb⟩; refine ⟨_, rfl, ?_⟩; have n0_ := Aside0.mk (Kd.R_below (by (with_reducible repeat (first | apply Kd.R_alloc | apply Kd.R_drewN | apply Kd.R_drew)); exact HO_11.out) hb); have n1_ := Aside0.mk (Kd.R_below (by (with_reducible repeat (first | apply Kd.R_alloc | apply Kd.R_drewN | apply Kd.R_drew)); exact HO_13.out) hb); have n2_ := Aside0.mk (Kd.R_below (by (with_reducible repeat (first | apply Kd.R_alloc | apply Kd.R_drewN | apply Kd.R_drew)); exact HO167.out) hb); have n3_ := Aside0.mk (below_step (by repeat (first | (with_reducible first | exact HB.out | apply below_alloc | apply pw_below_drewN | apply below_drew1) | exact HB.out)) hb); clear HO_11; clear HO_13; clear HO167; clear HB; have HO_11 := n0_; have HO_13 := n1_; have HO167 := n2_; have HB := n3_; clear n0_ n1_ n2_ n3_; (try clear hb); (try clear hb2); (try clear hk); (try clear hi)))
                      go_ret
                      exact ⟨by first | rfl | (simp [errW_none, errW_some] <;> rfl) | (simp [*, errW_none, errW_some] <;> rfl), by repeat (first | (with_reducible first | exact HB.out | apply below_alloc | apply pw_below_drewN | apply below_drew1) | exact HB.out)⟩
        · rw [if_neg c20] at H
          exact absurd H (by simp)

/-! ### foghornref25_Sum: function 32 -/
def foghornref25_Sum.l0 : Nat → ByteArray → Int → Int → Int → Int → Int → Option (Int)
  | 0, _, _, _, _, _, _ => none
  | k + 1, x0, x1, x2, x7, x8, x9 => if x9 < (wrap64 ((wrap64 (8 * (x0.size : Int))) + x2)) then (if x9 < (wrap64 (8 * (x0.size : Int))) then (if 0 ≤ (wrap64 (Int.tdiv x9 8)) then (if (wrap64 (Int.tdiv x9 8)) < (x0.size : Int) then (if 0 ≤ (wrap64 (7 - (Int.tmod x9 8))) then (if (Go.bits .and .u64 x7 x8) = 0 then (foghornref25_Sum.l0 k x0 x1 x2 (Go.bits .or .u64 (IntKind.u64.wrap ((Go.bits .and .u64 x7 (IntKind.u64.wrap (x8 - 1))) * 2)) (Go.bits .and .u64 (shr .u64 (IntKind.u64.wrap (bt x0 (wrap64 (Int.tdiv x9 8)))) (wrap64 (7 - (Int.tmod x9 8)))) 1)) x8 (wrap64 (x9 + 1))) else (foghornref25_Sum.l0 k x0 x1 x2 (Go.bits .xor .u64 (Go.bits .or .u64 (IntKind.u64.wrap ((Go.bits .and .u64 x7 (IntKind.u64.wrap (x8 - 1))) * 2)) (Go.bits .and .u64 (shr .u64 (IntKind.u64.wrap (bt x0 (wrap64 (Int.tdiv x9 8)))) (wrap64 (7 - (Int.tmod x9 8)))) 1)) x1) x8 (wrap64 (x9 + 1)))) else (none)) else (none)) else (none)) else (if (Go.bits .and .u64 x7 x8) = 0 then (foghornref25_Sum.l0 k x0 x1 x2 (Go.bits .or .u64 (IntKind.u64.wrap ((Go.bits .and .u64 x7 (IntKind.u64.wrap (x8 - 1))) * 2)) 0) x8 (wrap64 (x9 + 1))) else (foghornref25_Sum.l0 k x0 x1 x2 (Go.bits .xor .u64 (Go.bits .or .u64 (IntKind.u64.wrap ((Go.bits .and .u64 x7 (IntKind.u64.wrap (x8 - 1))) * 2)) 0) x1) x8 (wrap64 (x9 + 1))))) else (some x7)
def foghornref25_Sum.f (k : Nat) (a0 : ByteArray) (a1 : Int) (a2 : Int) : Option (Int) := if 0 ≤ (wrap64 (a2 - 1)) then (foghornref25_Sum.l0 k a0 a1 a2 0 (shl .u64 1 (wrap64 (a2 - 1))) 0) else (none)
theorem foghornref25_Sum.mono_l : ∀ k, (∀ y0 y1 y2 y3 y4 y5, LeO (foghornref25_Sum.l0 k y0 y1 y2 y3 y4 y5) (foghornref25_Sum.l0 (k + 1) y0 y1 y2 y3 y4 y5))
  | 0 => fun _ _ _ _ _ _ r h => by simp [foghornref25_Sum.l0] at h
  | k + 1 => by
    have ih0 := foghornref25_Sum.mono_l k
    · intro y0 y1 y2 y3 y4 y5
      unfold foghornref25_Sum.l0
      repeat' first
      | (with_reducible exact ih0 _ _ _ _ _ _)
      | (with_reducible exact LeO.refl _)
      | (with_reducible exact LeO.none _)
      | (with_reducible refine LeO.ite ?_ ?_)
      | (with_reducible refine LeO.bind ?_ (fun _ => ?_))
      | exact ih0 _ _ _ _ _ _
      | exact LeO.none _
      | refine LeO.ite ?_ ?_
      | refine LeO.bind ?_ (fun _ => ?_)
theorem foghornref25_Sum.mono : ∀ a0 a1 a2 k, LeO (foghornref25_Sum.f k a0 a1 a2) (foghornref25_Sum.f (k + 1) a0 a1 a2) := by
  intro a0 a1 a2 k
  have ih0 := foghornref25_Sum.mono_l k
  unfold foghornref25_Sum.f
  repeat' first
      | (with_reducible exact ih0 _ _ _ _ _ _)
      | (with_reducible exact LeO.refl _)
      | (with_reducible exact LeO.none _)
      | (with_reducible refine LeO.ite ?_ ?_)
      | (with_reducible refine LeO.bind ?_ (fun _ => ?_))
      | exact ih0 _ _ _ _ _ _
      | exact LeO.none _
      | refine LeO.ite ?_ ?_
      | refine LeO.bind ?_ (fun _ => ?_)
set_option maxHeartbeats 8000000 in
set_option maxRecDepth 100000 in
theorem foghornref25_Sum.calls (k : Nat) (a0 : ByteArray) (a1 : Int) (a2 : Int) (r : Int) (w : World) (h : foghornref25_Sum.f k a0 a1 a2 = some r) :
    Calls Try.prog 32 #[.string a0, .int .u64 a1, .int .i64 a2] w fun e w' => e = .returned (.int .u64 r) ∧ Drawn0 w w' := by
  have H : (if 0 ≤ (wrap64 (a2 - 1)) then (foghornref25_Sum.l0 k a0 a1 a2 0 (shl .u64 1 (wrap64 (a2 - 1))) 0) else (none)) = some r := h
  clear h
  obtain ⟨ji4, hji4⟩ : ∃ j_ : Int, (wrap64 (a2 - 1)) = j_ := ⟨_, rfl⟩
  replace H : (if 0 ≤ (ji4) then (foghornref25_Sum.l0 k a0 a1 a2 0 (shl .u64 1 (ji4)) 0) else (none)) = some r := by first | (rw [hji4] at H; exact H) | (simp only [hji4] at H ⊢; exact H)
  have hji4w : (IntKind.i64.wrap (a2 - 1)) = ji4 := (i64_w _).trans hji4
  by_cases c5 : 0 ≤ (ji4)
  · rw [if_pos c5] at H
    have c5b0 := eq_true c5
    have c5b1 : decide (0 ≤ (ji4)) = true := decide_eq_true c5
    clear c5
    obtain ⟨ji6, hji6⟩ : ∃ j_ : Int, (shl .u64 1 (ji4)) = j_ := ⟨_, rfl⟩
    replace H : (foghornref25_Sum.l0 k a0 a1 a2 0 ji6 0) = some r := by first | (rw [hji6] at H; exact H) | (simp only [hji6] at H ⊢; exact H)
    have hji6_ : (IntKind.u64.wrap (1 * 2 ^ min (ji4).toNat 64)) = ji6 := hji6
    have hji6z : (ji4) ≤ 64 → (IntKind.u64.wrap (1 * 2 ^ (ji4).toNat)) = ji6 := shl_small hji6
    have hji6u : (IntKind.u64.wrap (2 ^ min (ji4).toNat 64)) = ji6 := by have h_ := hji6_; rw [Int.one_mul] at h_; exact h_
    have hji6v : (ji4) ≤ 64 → (IntKind.u64.wrap (2 ^ (ji4).toNat)) = ji6 := fun hle_ => by have h_ := hji6z hle_; rw [Int.one_mul] at h_; exact h_
    have H' := Aside0.mk H
    clear H
    go_enter Try.func32, Try.ntmps32
    go_wp2
    go_loopg [7, 9] k (fun kq v7 v9 w' => ∃ (x7_1 : Int) (x9_1 : Int), v7 = .int .u64 x7_1 ∧ v9 = .int .i64 x9_1 ∧ Aside0 (foghornref25_Sum.l0 kq a0 a1 a2 x7_1 ji6 x9_1 = some r) ∧ Aside0 (kq ≤ k) ∧ Drawn0 w w')
    case atStart => exact ⟨(0), (0), (by first | rfl | (simp; done) | (simp [*]; done) | (simp; omega) | (congr 1; omega) | (rw [hR_]; done) | (simp only [hR_]; done) | (simp [hR_]; done)), (by first | rfl | (simp; done) | (simp [*]; done) | (simp; omega) | (congr 1; omega) | (rw [hR_]; done) | (simp only [hR_]; done) | (simp [hR_]; done)), H', ⟨Nat.le_refl _⟩, by repeat (first | exact Drawn0.refl _ | apply Drawn0.step)⟩
    case round =>
      clear H'
      try clear p2
      try clear c3
      try clear c5
      try clear c5b0
      try clear c5b1
      try clear p6
      obtain ⟨x7_1, x9_1, rfl, rfl, HA, HK1, ⟨m1, rfl⟩⟩ := hrel
      cases gk with
      | zero => exact absurd HA.out (by simp [foghornref25_Sum.l0])
      | succ k1 =>
        have H := HA.out
        clear HA
        simp only [foghornref25_Sum.l0] at H
        by_cases c7 : x9_1 < (wrap64 ((wrap64 (8 * (a0.size : Int))) + a2))
        · rw [if_pos c7] at H
          have c7b0 : decide (x9_1 < (wrap64 ((wrap64 (8 * (a0.size : Int))) + a2))) = true := decide_eq_true c7
          clear c7
          by_cases c8 : x9_1 < (wrap64 (8 * (a0.size : Int)))
          · rw [if_pos c8] at H
            have c8b0 : decide (x9_1 < (wrap64 (8 * (a0.size : Int)))) = true := decide_eq_true c8
            clear c8
            obtain ⟨ji9, hji9⟩ : ∃ j_ : Int, (wrap64 (Int.tdiv x9_1 8)) = j_ := ⟨_, rfl⟩
            replace H : (if 0 ≤ (ji9) then (if (ji9) < (a0.size : Int) then (if 0 ≤ (wrap64 (7 - (Int.tmod x9_1 8))) then (if (Go.bits .and .u64 x7_1 ji6) = 0 then (foghornref25_Sum.l0 k1 a0 a1 a2 (Go.bits .or .u64 (IntKind.u64.wrap ((Go.bits .and .u64 x7_1 (IntKind.u64.wrap (ji6 - 1))) * 2)) (Go.bits .and .u64 (shr .u64 (IntKind.u64.wrap (bt a0 (ji9))) (wrap64 (7 - (Int.tmod x9_1 8)))) 1)) ji6 (wrap64 (x9_1 + 1))) else (foghornref25_Sum.l0 k1 a0 a1 a2 (Go.bits .xor .u64 (Go.bits .or .u64 (IntKind.u64.wrap ((Go.bits .and .u64 x7_1 (IntKind.u64.wrap (ji6 - 1))) * 2)) (Go.bits .and .u64 (shr .u64 (IntKind.u64.wrap (bt a0 (ji9))) (wrap64 (7 - (Int.tmod x9_1 8)))) 1)) a1) ji6 (wrap64 (x9_1 + 1)))) else (none)) else (none)) else (none)) = some r := by first | (rw [hji9] at H; exact H) | (simp only [hji9] at H ⊢; exact H)
            have hji9w : (IntKind.i64.wrap (Int.tdiv x9_1 8)) = ji9 := (i64_w _).trans hji9
            by_cases c10 : 0 ≤ (ji9)
            · rw [if_pos c10] at H
              have c10b0 : decide (0 ≤ (ji9)) = true := decide_eq_true c10
              clear c10
              by_cases c11 : (ji9) < (a0.size : Int)
              · rw [if_pos c11] at H
                have c11b0 : decide ((ji9) < (a0.size : Int)) = true := decide_eq_true c11
                clear c11
                obtain ⟨ji13, hji13⟩ : ∃ j_ : Int, (wrap64 (7 - (Int.tmod x9_1 8))) = j_ := ⟨_, rfl⟩
                replace H : (if 0 ≤ (ji13) then (if (Go.bits .and .u64 x7_1 ji6) = 0 then (foghornref25_Sum.l0 k1 a0 a1 a2 (Go.bits .or .u64 (IntKind.u64.wrap ((Go.bits .and .u64 x7_1 (IntKind.u64.wrap (ji6 - 1))) * 2)) (Go.bits .and .u64 (shr .u64 (IntKind.u64.wrap (bt a0 (ji9))) (ji13)) 1)) ji6 (wrap64 (x9_1 + 1))) else (foghornref25_Sum.l0 k1 a0 a1 a2 (Go.bits .xor .u64 (Go.bits .or .u64 (IntKind.u64.wrap ((Go.bits .and .u64 x7_1 (IntKind.u64.wrap (ji6 - 1))) * 2)) (Go.bits .and .u64 (shr .u64 (IntKind.u64.wrap (bt a0 (ji9))) (ji13)) 1)) a1) ji6 (wrap64 (x9_1 + 1)))) else (none)) = some r := by first | (rw [hji13] at H; exact H) | (simp only [hji13] at H ⊢; exact H)
                have hji13w : (IntKind.i64.wrap (7 - (Int.tmod x9_1 8))) = ji13 := (i64_w _).trans hji13
                by_cases c14 : 0 ≤ (ji13)
                · rw [if_pos c14] at H
                  have c14b0 := eq_true c14
                  have c14b1 : decide (0 ≤ (ji13)) = true := decide_eq_true c14
                  clear c14
                  obtain ⟨ji15, hji15⟩ : ∃ j_ : Int, (shr .u64 (IntKind.u64.wrap (bt a0 (ji9))) (ji13)) = j_ := ⟨_, rfl⟩
                  replace H : (if (Go.bits .and .u64 x7_1 ji6) = 0 then (foghornref25_Sum.l0 k1 a0 a1 a2 (Go.bits .or .u64 (IntKind.u64.wrap ((Go.bits .and .u64 x7_1 (IntKind.u64.wrap (ji6 - 1))) * 2)) (Go.bits .and .u64 (ji15) 1)) ji6 (wrap64 (x9_1 + 1))) else (foghornref25_Sum.l0 k1 a0 a1 a2 (Go.bits .xor .u64 (Go.bits .or .u64 (IntKind.u64.wrap ((Go.bits .and .u64 x7_1 (IntKind.u64.wrap (ji6 - 1))) * 2)) (Go.bits .and .u64 (ji15) 1)) a1) ji6 (wrap64 (x9_1 + 1)))) = some r := by first | (rw [hji15] at H; exact H) | (simp only [hji15] at H ⊢; exact H)
                  have hji15_ : ((IntKind.u64.wrap (bt a0 (ji9))) / 2 ^ min (ji13).toNat 64) = ji15 := hji15
                  have hji15z : (ji13) ≤ 64 → ((IntKind.u64.wrap (bt a0 (ji9))) / 2 ^ (ji13).toNat) = ji15 := shr_small hji15
                  by_cases c16 : (Go.bits .and .u64 x7_1 ji6) = 0
                  · rw [if_pos c16] at H
                    have c16b0 : ((Go.bits .and .u64 x7_1 ji6) == 0) = true := beq_iff_eq.mpr c16
                    have c16b1 : ((Go.bits .and .u64 x7_1 ji6) != 0) = false := bne_eq_false_iff_eq.mpr c16
                    clear c16
                    have H' := Aside0.mk H
                    clear H
                    have p12 : 0 ≤ ((ji9) : Int) := of_decide_eq_true (by first | (with_reducible assumption) | assumption)
                    have q12 : (ji9) < (a0.size : Int) := of_decide_eq_true (by first | (with_reducible assumption) | assumption)
                    have hx12 := bt_at a0 (ji9)
                    replace p12 := eq_true p12
                    replace q12 := eq_true q12
                    go_wp2
                    (first | go_roundg k1 | (simp only [add_plain] at *; go_roundg k1))
                    case measure => have := HK1.out; omega
                    case rel => exact ⟨(Go.bits .or .u64 (IntKind.u64.wrap ((Go.bits .and .u64 x7_1 (IntKind.u64.wrap (ji6 - 1))) * 2)) (Go.bits .and .u64 (ji15) 1)), (wrap64 (x9_1 + 1)), (by first | rfl | (simp; done) | (simp only [← hji6, ← hji15] <;> (first | rfl | simp)) | (simp [*]; done) | (simp; omega) | (congr 1; omega) | (rw [hR_]; done) | (simp only [hR_]; done) | (simp [hR_]; done)), (by first | rfl | (simp; done) | (simp [*]; done) | (simp; omega) | (congr 1; omega) | (rw [hR_]; done) | (simp only [hR_]; done) | (simp [hR_]; done)), H', ⟨by have := HK1.out; omega⟩, by repeat (first | exact Drawn0.refl _ | apply Drawn0.step)⟩
                  · rw [if_neg c16] at H
                    have c16b0 : ((Go.bits .and .u64 x7_1 ji6) == 0) = false := beq_eq_false_iff_ne.mpr c16
                    have c16b1 : ((Go.bits .and .u64 x7_1 ji6) != 0) = true := bne_iff_ne.mpr c16
                    have H' := Aside0.mk H
                    clear H
                    have p12 : 0 ≤ ((ji9) : Int) := of_decide_eq_true (by first | (with_reducible assumption) | assumption)
                    have q12 : (ji9) < (a0.size : Int) := of_decide_eq_true (by first | (with_reducible assumption) | assumption)
                    have hx12 := bt_at a0 (ji9)
                    replace p12 := eq_true p12
                    replace q12 := eq_true q12
                    go_wp2
                    (first | go_roundg k1 | (simp only [add_plain] at *; go_roundg k1))
                    case measure => have := HK1.out; omega
                    case rel => exact ⟨(Go.bits .xor .u64 (Go.bits .or .u64 (IntKind.u64.wrap ((Go.bits .and .u64 x7_1 (IntKind.u64.wrap (ji6 - 1))) * 2)) (Go.bits .and .u64 (ji15) 1)) a1), (wrap64 (x9_1 + 1)), (by first | rfl | (simp; done) | (simp only [← hji6, ← hji15] <;> (first | rfl | simp)) | (simp [*]; done) | (simp; omega) | (congr 1; omega) | (rw [hR_]; done) | (simp only [hR_]; done) | (simp [hR_]; done)), (by first | rfl | (simp; done) | (simp [*]; done) | (simp; omega) | (congr 1; omega) | (rw [hR_]; done) | (simp only [hR_]; done) | (simp [hR_]; done)), H', ⟨by have := HK1.out; omega⟩, by repeat (first | exact Drawn0.refl _ | apply Drawn0.step)⟩
                · rw [if_neg c14] at H
                  exact absurd H (by simp)
              · rw [if_neg c11] at H
                exact absurd H (by simp)
            · rw [if_neg c10] at H
              exact absurd H (by simp)
          · rw [if_neg c8] at H
            have c8b0 : decide (x9_1 < (wrap64 (8 * (a0.size : Int)))) = false := decide_eq_false c8
            clear c8
            by_cases c17 : (Go.bits .and .u64 x7_1 ji6) = 0
            · rw [if_pos c17] at H
              have c17b0 : ((Go.bits .and .u64 x7_1 ji6) == 0) = true := beq_iff_eq.mpr c17
              have c17b1 : ((Go.bits .and .u64 x7_1 ji6) != 0) = false := bne_eq_false_iff_eq.mpr c17
              clear c17
              have H' := Aside0.mk H
              clear H
              go_wp2
              (first | go_roundg k1 | (simp only [add_plain] at *; go_roundg k1))
              case measure => have := HK1.out; omega
              case rel => exact ⟨(Go.bits .or .u64 (IntKind.u64.wrap ((Go.bits .and .u64 x7_1 (IntKind.u64.wrap (ji6 - 1))) * 2)) 0), (wrap64 (x9_1 + 1)), (by first | rfl | (simp; done) | (simp only [← hji6] <;> (first | rfl | simp)) | (simp [*]; done) | (simp; omega) | (congr 1; omega) | (rw [hR_]; done) | (simp only [hR_]; done) | (simp [hR_]; done)), (by first | rfl | (simp; done) | (simp [*]; done) | (simp; omega) | (congr 1; omega) | (rw [hR_]; done) | (simp only [hR_]; done) | (simp [hR_]; done)), H', ⟨by have := HK1.out; omega⟩, by repeat (first | exact Drawn0.refl _ | apply Drawn0.step)⟩
            · rw [if_neg c17] at H
              have c17b0 : ((Go.bits .and .u64 x7_1 ji6) == 0) = false := beq_eq_false_iff_ne.mpr c17
              have c17b1 : ((Go.bits .and .u64 x7_1 ji6) != 0) = true := bne_iff_ne.mpr c17
              have H' := Aside0.mk H
              clear H
              go_wp2
              (first | go_roundg k1 | (simp only [add_plain] at *; go_roundg k1))
              case measure => have := HK1.out; omega
              case rel => exact ⟨(Go.bits .xor .u64 (Go.bits .or .u64 (IntKind.u64.wrap ((Go.bits .and .u64 x7_1 (IntKind.u64.wrap (ji6 - 1))) * 2)) 0) a1), (wrap64 (x9_1 + 1)), (by first | rfl | (simp; done) | (simp only [← hji6] <;> (first | rfl | simp)) | (simp [*]; done) | (simp; omega) | (congr 1; omega) | (rw [hR_]; done) | (simp only [hR_]; done) | (simp [hR_]; done)), (by first | rfl | (simp; done) | (simp [*]; done) | (simp; omega) | (congr 1; omega) | (rw [hR_]; done) | (simp only [hR_]; done) | (simp [hR_]; done)), H', ⟨by have := HK1.out; omega⟩, by repeat (first | exact Drawn0.refl _ | apply Drawn0.step)⟩
        · rw [if_neg c7] at H
          have c7b0 : decide (x9_1 < (wrap64 ((wrap64 (8 * (a0.size : Int))) + a2))) = false := decide_eq_false c7
          clear c7
          obtain rfl := Option.some.inj H
          go_wp2
          go_ret
          exact ⟨by first | rfl | (simp; done) | (simp only [← hji4, ← hji6] <;> (first | rfl | simp)) | (simp [*]; done) | (simp; omega) | (congr 1; omega) | (rw [hR_]; done) | (simp only [hR_]; done) | (simp [hR_]; done), by repeat (first | exact Drawn0.refl _ | apply Drawn0.step)⟩
  · rw [if_neg c5] at H
    exact absurd H (by simp)

end Go.Proofs.Ytclhkbjcemgmnaa.Fog
