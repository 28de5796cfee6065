-- Written by fog.py, a program of this session, over the kit's print.
import Derived.Test.YtabjfehhibeeiaaFogx0
namespace Go.Proofs.Ytabjfehhibeeiaa.Fog
open Go.RowKit Go.Proofs.YtabjfehhibeeiaaW.PrintWords Go.Proofs.YtabjfehhibeeiaaW.PrintLast Go.Proofs.YtabjfehhibeeiaaW.PrintMore
attribute [local go_sem] max2_int min2_int max_two min_two max_three min_three max_four min_four   -- for this text's walks alone
attribute [local go_sem] fog_signed_u8 fog_max_u8 fog_signed_u16 fog_max_u16 fog_signed_u32 fog_max_u32 fog_signed_u64 fog_max_u64
set_option linter.unusedVariables false
set_option linter.unusedSimpArgs false

/-! ### foghornref01_Pieces: function 18 -/
def foghornref01_Pieces.l0 : Nat → List Bool → Int → List (S34) → Int → Option ((List (S34)))
  | 0, _, _, _, _ => none
  | k + 1, x0, x1, x5, x6 => if x6 < (x0.length : Int) then (if x6 = 0 then (if x5.length < 4398046511104 then ((some (x5 ++ [(⟨x6, ([] : List Bool)⟩ : S34)] : List (S34))).bind fun y104 => (if 0 ≤ (wrap64 ((y104.length : Int) - 1)) then (if (wrap64 ((y104.length : Int) - 1)) < (y104.length : Int) then (if 0 ≤ x6 then (if ((rd_T34 y104 (wrap64 ((y104.length : Int) - 1))).f1).length < 140737488355328 then (foghornref01_Pieces.l0 k x0 x1 (y104.set ((wrap64 ((y104.length : Int) - 1)) : Int).toNat (⟨(rd_T34 y104 (wrap64 ((y104.length : Int) - 1))).f0, (((rd_T34 y104 (wrap64 ((y104.length : Int) - 1))).f1) ++ [rdOf false x0 x6])⟩ : S34)) (wrap64 (x6 + 1))) else (none)) else (none)) else (none)) else (none))) else (none)) else (if 0 ≤ (wrap64 ((x5.length : Int) - 1)) then (if (wrap64 ((x5.length : Int) - 1)) < (x5.length : Int) then (if (((rd_T34 x5 (wrap64 ((x5.length : Int) - 1))).f1).length : Int) = x1 then (if x5.length < 4398046511104 then ((some (x5 ++ [(⟨x6, ([] : List Bool)⟩ : S34)] : List (S34))).bind fun y114 => (if 0 ≤ (wrap64 ((y114.length : Int) - 1)) then (if (wrap64 ((y114.length : Int) - 1)) < (y114.length : Int) then (if 0 ≤ x6 then (if ((rd_T34 y114 (wrap64 ((y114.length : Int) - 1))).f1).length < 140737488355328 then (foghornref01_Pieces.l0 k x0 x1 (y114.set ((wrap64 ((y114.length : Int) - 1)) : Int).toNat (⟨(rd_T34 y114 (wrap64 ((y114.length : Int) - 1))).f0, (((rd_T34 y114 (wrap64 ((y114.length : Int) - 1))).f1) ++ [rdOf false x0 x6])⟩ : S34)) (wrap64 (x6 + 1))) else (none)) else (none)) else (none)) else (none))) else (none)) else (if 0 ≤ x6 then (if ((rd_T34 x5 (wrap64 ((x5.length : Int) - 1))).f1).length < 140737488355328 then (foghornref01_Pieces.l0 k x0 x1 (x5.set ((wrap64 ((x5.length : Int) - 1)) : Int).toNat (⟨(rd_T34 x5 (wrap64 ((x5.length : Int) - 1))).f0, (((rd_T34 x5 (wrap64 ((x5.length : Int) - 1))).f1) ++ [rdOf false x0 x6])⟩ : S34)) (wrap64 (x6 + 1))) else (none)) else (none))) else (none)) else (none))) else (some x5)
def foghornref01_Pieces.f (k : Nat) (l0 : List Bool) (a1 : Int) : Option ((List (S34))) := if a1 < 1 then (some ([] : List (S34))) else (foghornref01_Pieces.l0 k l0 a1 ([] : List (S34)) 0)
theorem foghornref01_Pieces.mono_l : ∀ k, (∀ y0 y1 y2 y3, LeO (foghornref01_Pieces.l0 k y0 y1 y2 y3) (foghornref01_Pieces.l0 (k + 1) y0 y1 y2 y3))
  | 0 => fun _ _ _ _ r h => by simp [foghornref01_Pieces.l0] at h
  | k + 1 => by
    have ih0 := foghornref01_Pieces.mono_l k
    · intro y0 y1 y2 y3
      unfold foghornref01_Pieces.l0
      repeat' first
      | (with_reducible exact ih0 _ _ _ _)
      | (with_reducible exact LeO.refl _)
      | (with_reducible exact LeO.none _)
      | (with_reducible refine LeO.ite ?_ ?_)
      | (with_reducible refine LeO.bind ?_ (fun _ => ?_))
      | exact ih0 _ _ _ _
      | exact LeO.none _
      | refine LeO.ite ?_ ?_
      | refine LeO.bind ?_ (fun _ => ?_)
theorem foghornref01_Pieces.mono : ∀ a0 a1 k, LeO (foghornref01_Pieces.f k a0 a1) (foghornref01_Pieces.f (k + 1) a0 a1) := by
  intro a0 a1 k
  have ih0 := foghornref01_Pieces.mono_l k
  unfold foghornref01_Pieces.f
  repeat' first
      | (with_reducible exact ih0 _ _ _ _)
      | (with_reducible exact LeO.refl _)
      | (with_reducible exact LeO.none _)
      | (with_reducible refine LeO.ite ?_ ?_)
      | (with_reducible refine LeO.bind ?_ (fun _ => ?_))
      | exact ih0 _ _ _ _
      | exact LeO.none _
      | refine LeO.ite ?_ ?_
      | refine LeO.bind ?_ (fun _ => ?_)
def foghornref01_Pieces.T10 : Bool × List (List Nat × List Nat) := (true, [([], []), ([], []), ([], []), ([], []), ([2, 3], [2, 3]), ([4], [4]), ([5], [5]), ([], []), ([], []), ([7, 8], [7, 8]), ([9], [9]), ([10], [10]), ([6, 11], [6, 11]), ([0, 1, 0, 1, 2, 3, 4, 5, 6, 7, 8, 9, 10, 11, 12], [0, 1]), ([13, 0, 1, 2, 3, 4, 5, 6, 7, 8, 9, 10, 11, 12], [13]), ([14, 12, 12, 0, 1, 2, 3, 4, 5, 6, 7, 8, 9, 10, 11, 12], [12, 14])])
def foghornref01_Pieces.B10 : List Nat := [0, 0, 0, 0, 12, 28, 60, 0, 0, 384, 896, 1920, 4092, 8191, 16383, 32767]
theorem foghornref01_Pieces.tab10 : rtab .any (opsOf Try.f18 10) = foghornref01_Pieces.T10 := by kernel_rfl
theorem foghornref01_Pieces.bits10 : waitsOk foghornref01_Pieces.T10.2 foghornref01_Pieces.B10 = true := by kernel_rfl
set_option maxHeartbeats 8000000 in
set_option maxRecDepth 100000 in
theorem foghornref01_Pieces.calls (k : Nat) (A0 : Option Addr) (c0 : Nat) (l0 : List Bool) (a1 : Int) (r : List (S34)) (w : World) (hr0 : Kd.C Kd.bool w A0 l0.length l0) (hc0 : l0.length ≤ c0) (h : foghornref01_Pieces.f k l0 a1 = some r) :
    Calls Try.prog 18 #[.slice A0 l0.length c0, .int .i64 a1] w fun e w' => ∃ v0_ : Value, e = .returned (v0_) ∧ Kd.S k34 34 w' w.heap.size (fun _ => True) v0_ r ∧ Below w.heap.size w w' := by
  have hu34 := Try.underlying34
  have HR0 := Aside0.mk hr0
  have HC0 := Aside0.mk hc0
  clear hr0 hc0
  have HB := Aside0.mk (Below.refl w.heap.size w)
  have H : (if a1 < 1 then (some ([] : List (S34))) else (foghornref01_Pieces.l0 k l0 a1 ([] : List (S34)) 0)) = some r := h
  clear h
  by_cases c3 : a1 < 1
  · rw [if_pos c3] at H
    have c3b0 : decide (a1 < 1) = true := decide_eq_true c3
    clear c3
    obtain rfl := Option.some.inj H
    go_enter Try.func18, Try.ntmps18
    go_wp2
    go_ret
    exact ⟨_, by first | rfl | (simp [errW_none, errW_some] <;> rfl) | (simp [*, errW_none, errW_some] <;> rfl), by first | exact Kd.S_nil _ _ _ _ _ | exact Kd.N_nil _ _ _ _ _ | exact Kd.V_nil _ _ _ _ _ | exact Kd.Q_nil _ _ _ _ _ | exact Kd.R_nil _ _ _ _ _, by repeat (first | (with_reducible first | exact HB.out | apply below_alloc | apply pw_below_drewN | apply below_drew1) | exact HB.out)⟩
  · rw [if_neg c3] at H
    have c3b0 : decide (a1 < 1) = false := decide_eq_false c3
    clear c3
    have H' := Aside0.mk H
    clear H
    go_enter Try.func18, Try.ntmps18
    go_wp2
    go_loopg [5, 6] k (fun kq v5 v6 w' => ∃ (x5_1 : List (S34)) (x6_1 : Int), v6 = .int .i64 x6_1 ∧ Aside0 (foghornref01_Pieces.l0 kq l0 a1 x5_1 x6_1 = some r) ∧ Aside0 (kq ≤ k) ∧ Aside0 (Kd.S k34 34 w' w.heap.size (fun _ => True) v5 x5_1) ∧ Aside0 (Below w.heap.size w w'))
    case atStart => exact ⟨(([] : List (S34))), (0), (by first | rfl | (simp; done) | (simp [*]; done) | (simp; omega) | (congr 1; omega) | (rw [hR_]; done) | (simp only [hR_]; done) | (simp [hR_]; done)), H', ⟨Nat.le_refl _⟩, ⟨by first | exact Kd.S_nil _ _ _ _ _ | exact Kd.N_nil _ _ _ _ _ | exact Kd.V_nil _ _ _ _ _ | exact Kd.Q_nil _ _ _ _ _ | exact Kd.R_nil _ _ _ _ _⟩, ⟨by repeat (first | (with_reducible first | exact HB.out | apply below_alloc | apply pw_below_drewN | apply below_drew1) | exact HB.out)⟩⟩
    case round =>
      clear H'
      try clear c1
      try clear p2
      try clear c3
      try clear c3b0
      obtain ⟨x5_1, x6_1, rfl, HA, HK1, HO_5, HB⟩ := hrel
      cases gk with
      | zero => exact absurd HA.out (by simp [foghornref01_Pieces.l0])
      | succ k1 =>
        have H := HA.out
        clear HA
        simp only [foghornref01_Pieces.l0] at H
        by_cases c4 : x6_1 < (l0.length : Int)
        · rw [if_pos c4] at H
          have c4b0 : decide (x6_1 < (l0.length : Int)) = true := decide_eq_true c4
          clear c4
          by_cases c5 : x6_1 = 0
          · rw [if_pos c5] at H
            have c5b0 : (x6_1 == 0) = true := beq_iff_eq.mpr c5
            have c5b1 : (x6_1 != 0) = false := bne_eq_false_iff_eq.mpr c5
            clear c5
            by_cases c6 : x5_1.length < 4398046511104
            · rw [if_pos c6] at H
              have LMc6 := Aside0.mk c6
              clear c6
              obtain ⟨y104, hy104⟩ : ∃ y_ : List (S34), y_ = (x5_1 ++ [(⟨x6_1, ([] : List Bool)⟩ : S34)]) := ⟨_, rfl⟩
              replace H : (if 0 ≤ (wrap64 ((y104.length : Int) - 1)) then (if (wrap64 ((y104.length : Int) - 1)) < (y104.length : Int) then (if 0 ≤ x6_1 then (if ((rd_T34 y104 (wrap64 ((y104.length : Int) - 1))).f1).length < 140737488355328 then (foghornref01_Pieces.l0 k1 l0 a1 (y104.set ((wrap64 ((y104.length : Int) - 1)) : Int).toNat (⟨(rd_T34 y104 (wrap64 ((y104.length : Int) - 1))).f0, (((rd_T34 y104 (wrap64 ((y104.length : Int) - 1))).f1) ++ [rdOf false l0 x6_1])⟩ : S34)) (wrap64 (x6_1 + 1))) else (none)) else (none)) else (none)) else (none)) = some r := by first | (rw [hy104]; with_reducible exact H) | (have H2_ := (Option.bind_some _ _).symm.trans H; rw [hy104]; with_reducible exact H2_) | (have H2_ := (Option.bind_some _ _).symm.trans H; with_reducible exact H2_) | with_reducible exact H | (rw [hy104]; exact H) | exact H
              have Ny104 := Aside0.mk hy104
              clear hy104
              obtain ⟨ji7, hji7⟩ : ∃ j_ : Int, (wrap64 ((y104.length : Int) - 1)) = j_ := ⟨_, rfl⟩
              replace H : (if 0 ≤ (ji7) then (if (ji7) < (y104.length : Int) then (if 0 ≤ x6_1 then (if ((rd_T34 y104 (ji7)).f1).length < 140737488355328 then (foghornref01_Pieces.l0 k1 l0 a1 (y104.set ((ji7) : Int).toNat (⟨(rd_T34 y104 (ji7)).f0, (((rd_T34 y104 (ji7)).f1) ++ [rdOf false l0 x6_1])⟩ : S34)) (wrap64 (x6_1 + 1))) else (none)) else (none)) else (none)) else (none)) = some r := by first | (rw [hji7] at H; exact H) | (simp only [hji7] at H ⊢; exact H)
              have hji7w : (IntKind.i64.wrap ((y104.length : Int) - 1)) = ji7 := (i64_w _).trans hji7
              by_cases c8 : 0 ≤ (ji7)
              · rw [if_pos c8] at H
                have c8b0 : decide (0 ≤ (ji7)) = true := decide_eq_true c8
                clear c8
                by_cases c9 : (ji7) < (y104.length : Int)
                · rw [if_pos c9] at H
                  have c9b0 : decide ((ji7) < (y104.length : Int)) = true := decide_eq_true c9
                  clear c9
                  by_cases c10 : 0 ≤ x6_1
                  · rw [if_pos c10] at H
                    have c10b0 : decide (0 ≤ x6_1) = true := decide_eq_true c10
                    clear c10
                    by_cases c11 : ((rd_T34 y104 (ji7)).f1).length < 140737488355328
                    · rw [if_pos c11] at H
                      have LMc11 := Aside0.mk c11
                      clear c11
                      obtain ⟨y109, hy109⟩ : ∃ y_ : List Bool, y_ = (((rd_T34 y104 (ji7)).f1) ++ [rdOf false l0 x6_1]) := ⟨_, rfl⟩
                      replace H : (foghornref01_Pieces.l0 k1 l0 a1 (y104.set ((ji7) : Int).toNat (⟨(rd_T34 y104 (ji7)).f0, y109⟩ : S34)) (wrap64 (x6_1 + 1))) = some r := by first | (rw [hy109]; with_reducible exact H) | (have H2_ := (Option.bind_some _ _).symm.trans H; rw [hy109]; with_reducible exact H2_) | (have H2_ := (Option.bind_some _ _).symm.trans H; with_reducible exact H2_) | with_reducible exact H | (rw [hy109]; exact H) | exact H
                      have Ny109 := Aside0.mk hy109
                      clear hy109
                      obtain ⟨y112, hy112⟩ : ∃ y_ : List (S34), y_ = (y104.set ((ji7) : Int).toNat (⟨(rd_T34 y104 (ji7)).f0, y109⟩ : S34)) := ⟨_, rfl⟩
                      replace H : (foghornref01_Pieces.l0 k1 l0 a1 y112 (wrap64 (x6_1 + 1))) = some r := by first | (rw [hy112]; with_reducible exact H) | (have H2_ := (Option.bind_some _ _).symm.trans H; rw [hy112]; with_reducible exact H2_) | (have H2_ := (Option.bind_some _ _).symm.trans H; with_reducible exact H2_) | with_reducible exact H | (rw [hy112]; exact H) | exact H
                      have Ny112 := Aside0.mk hy112
                      clear hy112
                      have H' := Aside0.mk H
                      clear H
                      try go_wp2_with (first | ((with_reducible refine gate_builtin (b := .append) (xs := #[.tmp 30, .tmp 33]) rfl ?_); (try (refine gate_guard (by rfl) ?_; dsimp only)); at_builtin; refine Kd.S_append k34 (w0 := w) w.heap.size rfl (.tmp 30) (.tmp 33) 27 34 (.agg #[(.int .i64 0), (.slice none 0 0)]) 32 rfl Try.underlying27 info34 rfl (by decide) (by omega) u5 x5_1 (⟨x6_1, ([] : List Bool)⟩ : S34) [.int .i64 x6_1, .slice none 0 0] (fun _ => True) (fun _ => False) rfl rfl ?aP (fun k_ hk_ => hk_.elim) ?aF ?aO ?aB ?aS ?aL ?_; (case aP => exact k34_mkM _ _ _ (⟨x6_1, ([] : List Bool)⟩ : S34) (Kd.R_nil _ _ _ _ _)); (case aB => exact (by repeat (first | (with_reducible first | exact HB.out | apply below_alloc | apply pw_below_drewN | apply below_drew1) | exact HB.out))); (case aF => exact (fun _ _ => trivial)); (case aO => exact (by (with_reducible repeat (first | apply Kd.S_alloc | apply Kd.S_drewN | apply Kd.S_drew)); exact Kd.S_mono HO_5.out (fun k_ hk => ⟨trivial, fun e_ => e_⟩))); (case aS => exact (below_size (by repeat (first | (with_reducible first | exact HB.out | apply below_alloc | apply pw_below_drewN | apply below_drew1) | exact HB.out)))); (case aL => have := LMc6.out; omega); intro v105 w13 ho hb hg hat; rw [← Ny104.out] at ho; have n0_ := Aside0.mk (hb); have n1_ := Aside0.mk (ho); clear HB; clear HO_5; have HB := n0_; have HO106 := n1_; clear n0_ n1_; clear ho hb hg hat; obtain ⟨Ao14, co14, eo14⟩ := Kd.S_slice HO106.out; subst eo14))
                      have n0_ := Aside0.mk (Kd.S_drew HO106.out)
                      have n1_ := Aside0.mk (below_drew1 HB.out)
                      clear HO106
                      clear HB
                      have HO106 := n0_
                      have HB := n1_
                      clear n0_ n1_
                      have p107 : 0 ≤ ((ji7) : Int) := of_decide_eq_true (by first | (with_reducible assumption) | assumption)
                      have q107 : (ji7) < (y104.length : Int) := of_decide_eq_true (by first | (with_reducible assumption) | assumption)
                      obtain ⟨ad107, A107_1, c107_1, e107, hx107_0, hx107_1, hl107_1, hi107_1⟩ := at_T34 (Kd.S_reads' HO106.out).2.2 (ji7) p107 q107
                      cases e107
                      obtain ⟨ce107, hce107, hMe107, hcc107⟩ := Kd.S_get HO106.out z34 (ji7) p107 (by first | exact q107 | exact of_decide_eq_true (by first | (with_reducible assumption) | assumption) | (have e_ := (Kd.S_reads' HO106.out).1; omega))
                      obtain ⟨ve107_1, rfl, ge107_1⟩ := k34_openM hMe107
                      have hv107_1 := hcc107 1 _ rfl
                      rw [add_field _ _ 1 (by omega)] at hv107_1
                      replace hv107_1 := Option.some.inj (hv107_1.symm.trans hx107_1)
                      rw [hv107_1] at ge107_1
                      have HL107_1 := Aside0.mk (show Kd.R Kd.bool 4 _ _ _ _ ((rd_T34 y104 (ji7)).f1) from ge107_1)
                      clear hv107_1 ge107_1
                      have HX107_1 := Aside0.mk hx107_1
                      clear hcc107 hce107
                      have HR107_1 := Aside0.mk hi107_1
                      have HC107_1 := Aside0.mk hl107_1
                      clear hi107_1 hl107_1
                      replace p107 := eq_true p107
                      replace q107 := eq_true q107
                      have p108 : 0 ≤ (x6_1 : Int) := of_decide_eq_true (by first | (with_reducible assumption) | assumption)
                      have q108 : x6_1 < (l0.length : Int) := of_decide_eq_true (by first | (with_reducible assumption) | assumption)
                      obtain ⟨ad108, e108, hx108_0⟩ := Kd.at_bool HR0.out x6_1 p108 q108
                      have hw108_0 := hx108_0
                      cases e108
                      replace hx108_0 := (HB.out.cell (World.block_lt_of_cell? w _ hx108_0)).trans hx108_0
                      replace p108 := eq_true p108
                      replace q108 := eq_true q108
                      obtain ⟨go16, co16, eo16, gb16, gl16, cl16, HG16⟩ := Kd.S_form HO106.out (by have h_ : ((ji7) : Int) < ((y104.length : Int) : Int) := of_decide_eq_true (by first | (with_reducible assumption) | assumption); have h2_ : 0 ≤ ((ji7) : Int) := (of_decide_eq_true (by first | (with_reducible assumption) | assumption)); omega)
                      (first | cases eo16 | (injection eo16 with ea_ en_ ec_; (first | subst ea_ | (injection ea_ with ea_; subst ea_)); subst ec_; clear en_))
                      have GB16 := Aside0.mk gb16
                      have GG16 := Aside0.mk HG16
                      clear gb16 gl16 HG16
                      (first | simp only [add_plain] at hx107_0 | skip)
                      (first | simp only [add_plain] at hx107_1 | skip)
                      obtain ⟨oki16, ce16, hcl16, hM16, hcc16, _, _, hH16⟩ := Kd.S_elem HO106.out z34 ((ji7) : Int) (of_decide_eq_true (by first | (with_reducible assumption) | assumption)) (by have h_ : ((ji7) : Int) < ((y104.length : Int) : Int) := of_decide_eq_true (by first | (with_reducible assumption) | assumption); first | exact h_ | (have e_ := (Kd.S_reads' HO106.out).1; omega) | simpa using h_)
                      obtain ⟨ve16_1, rfl, ge16_1⟩ := k34_openM hM16
                      have hv16 := hcc16 1 _ rfl
                      have hX16 := HX107_1.out
                      (try simp only [add_plain] at hX16)
                      (try simp only [Nat.add_zero] at hv16)
                      replace hv16 := Option.some.inj (hv16.symm.trans hX16)
                      subst hv16
                      clear hX16 hcc16 hcl16
                      have UU16 := Aside0.mk (show Kd.R Kd.bool 4 _ w.heap.size oki16 (.slice A107_1 ((rd_T34 y104 (ji7)).f1).length c107_1) ((rd_T34 y104 (ji7)).f1) from ge16_1)
                      have HH16 := Aside0.mk hH16
                      have HN16 := Aside0.mk (Kd.S_reads' HO106.out).1
                      clear hH16 ge16_1
                      refine start_ (n := 16) (S := fun w' => w'.cell? ⟨go16, (((ji7)).toNat * 2), none⟩ = some (.int .i64 ((rd_T34 y104 (ji7)).f0)) ∧ w'.cell? ⟨go16, (((ji7)).toNat * 2) + 1, none⟩ = some (.slice A107_1 ((rd_T34 y104 (ji7)).f1).length c107_1) ∧ w'.cell? (ad108.add (x6_1).toNat) = some (.bool (rdOf false l0 x6_1))) (ds := [15]) #[false, false, false, false, false, false, false, false, false, false, false, false, false, false, false, false] (by kernel_rfl) rfl rfl ⟨hx107_0, hx107_1, ((HB.out.cell (World.block_lt_of_cell? w _ hw108_0)).trans hw108_0)⟩ (fun hHeld => ?_); refine with_tabW foghornref01_Pieces.tab10 foghornref01_Pieces.bits10 (fun HT_ HW_ => ?_)
                      (first | generalize w13.drew = w15 at HO106 HB GG16 HH16 HL107_1 HR107_1 HX107_1 UU16 hx107_0 hx107_1 hx108_0 hHeld ⊢ | generalize w13.drew = w15 at *)
                      refine pure_ (i := 0) (N := some 38) (v := ?_) (a' := ?_) #[true, false, false, false, false, false, false, false, false, false, false, false, false, false, false, false] rfl rfl (any_of HT_.out (by kernel_rfl)) (fun _ _ _ h => h) (Or.inl ⟨by rfl, ?_⟩) ?_ ?_
                      rotate_left
                      · intro w'
                        go_simp
                        with_reducible rfl
                      rotate_left
                      · simp only [Act.put, List.setIfInBounds_toArray, List.set_cons_zero, List.set_cons_succ, i64_w, i32_w]
                        rfl
                      refine pure_ (i := 1) (N := some 39) (v := ?_) (a' := ?_) #[true, true, false, false, false, false, false, false, false, false, false, false, false, false, false, false] rfl rfl (any_of HT_.out (by kernel_rfl)) (fun _ _ _ h => h) (Or.inl ⟨by rfl, ?_⟩) ?_ ?_
                      rotate_left
                      · intro w'
                        go_simp
                        with_reducible rfl
                      rotate_left
                      · simp only [Act.put, List.setIfInBounds_toArray, List.set_cons_zero, List.set_cons_succ, i64_w, i32_w]
                        rfl
                      refine pure_ (i := 2) (N := some 40) (v := ?_) (a' := ?_) #[true, true, true, false, false, false, false, false, false, false, false, false, false, false, false, false] rfl rfl (any_of HT_.out (by kernel_rfl)) (fun _ _ _ h => h) (Or.inl ⟨by rfl, ?_⟩) ?_ ?_
                      rotate_left
                      · intro w'
                        go_simp
                        with_reducible rfl
                      rotate_left
                      · simp only [Act.put, List.setIfInBounds_toArray, List.set_cons_zero, List.set_cons_succ, i64_w, i32_w]
                        rfl
                      refine pure_ (i := 3) (N := some 41) (v := ?_) (a' := ?_) #[true, true, true, true, false, false, false, false, false, false, false, false, false, false, false, false] rfl rfl (any_of HT_.out (by kernel_rfl)) (fun _ _ _ h => h) (Or.inl ⟨by rfl, ?_⟩) ?_ ?_
                      rotate_left
                      · intro w'
                        go_simp
                        with_reducible rfl
                      rotate_left
                      · simp only [Act.put, List.setIfInBounds_toArray, List.set_cons_zero, List.set_cons_succ, i64_w, i32_w]
                        rfl
                      refine pure_ (i := 4) (N := some 42) (v := ?_) (a' := ?_) #[true, true, true, true, true, false, false, false, false, false, false, false, false, false, false, false] rfl rfl (any_of HT_.out (by kernel_rfl)) (fun _ _ _ h => h) (Or.inl ⟨by rfl, ?_⟩) ?_ ?_
                      rotate_left
                      · intro w'
                        go_simp
                        with_reducible rfl
                      rotate_left
                      · simp only [Act.put, List.setIfInBounds_toArray, List.set_cons_zero, List.set_cons_succ, i64_w, i32_w]
                        rfl
                      refine pure_ (i := 5) (N := some 43) (v := ?_) (a' := ?_) #[true, true, true, true, true, true, false, false, false, false, false, false, false, false, false, false] rfl rfl (any_of HT_.out (by kernel_rfl)) (fun _ _ _ h => h) (Or.inl ⟨by rfl, ?_⟩) ?_ ?_
                      rotate_left
                      · intro w'
                        go_simp
                        with_reducible rfl
                      rotate_left
                      · simp only [Act.put, List.setIfInBounds_toArray, List.set_cons_zero, List.set_cons_succ, i64_w, i32_w]
                        rfl
                      refine pure_ (i := 7) (N := some 45) (v := ?_) (a' := ?_) #[true, true, true, true, true, true, false, true, false, false, false, false, false, false, false, false] rfl rfl (any_of HT_.out (by kernel_rfl)) (fun _ _ _ h => h) (Or.inl ⟨by rfl, ?_⟩) ?_ ?_
                      rotate_left
                      · intro w'
                        go_simp
                        with_reducible rfl
                      rotate_left
                      · simp only [Act.put, List.setIfInBounds_toArray, List.set_cons_zero, List.set_cons_succ, i64_w, i32_w]
                        rfl
                      refine pure_ (i := 8) (N := some 46) (v := ?_) (a' := ?_) #[true, true, true, true, true, true, false, true, true, false, false, false, false, false, false, false] rfl rfl (any_of HT_.out (by kernel_rfl)) (fun _ _ _ h => h) (Or.inl ⟨by rfl, ?_⟩) ?_ ?_
                      rotate_left
                      · intro w'
                        go_simp
                        with_reducible rfl
                      rotate_left
                      · simp only [Act.put, List.setIfInBounds_toArray, List.set_cons_zero, List.set_cons_succ, i64_w, i32_w]
                        rfl
                      refine pure_ (i := 9) (N := some 47) (v := ?_) (a' := ?_) #[true, true, true, true, true, true, false, true, true, true, false, false, false, false, false, false] rfl rfl (any_of HT_.out (by kernel_rfl)) (fun _ _ _ h => h) (Or.inl ⟨by rfl, ?_⟩) ?_ ?_
                      rotate_left
                      · intro w'
                        go_simp
                        with_reducible rfl
                      rotate_left
                      · simp only [Act.put, List.setIfInBounds_toArray, List.set_cons_zero, List.set_cons_succ, i64_w, i32_w]
                        rfl
                      refine take_ (i := 6) (N := some 44) (v := ?_) (a' := ?_) #[true, true, true, true, true, true, true, true, true, true, false, false, false, false, false, false] rfl rfl (take_ofW HT_.out HW_.out (by kernel_rfl)) (fun _ _ _ h => h) (Or.inl ⟨by rfl, ?_⟩) hHeld ?_ ?_
                      rotate_left
                      · rintro w' ⟨s0, s1, s2⟩
                        go_simp
                        with_reducible rfl
                      rotate_left
                      · simp only [Act.put, List.setIfInBounds_toArray, List.set_cons_zero, List.set_cons_succ, i64_w, i32_w]
                        rfl
                      refine take_ (i := 10) (N := some 48) (v := ?_) (a' := ?_) #[true, true, true, true, true, true, true, true, true, true, true, false, false, false, false, false] rfl rfl (take_ofW HT_.out HW_.out (by kernel_rfl)) (fun _ _ _ h => h) (Or.inl ⟨by rfl, ?_⟩) hHeld ?_ ?_
                      rotate_left
                      · rintro w' ⟨s0, s1, s2⟩
                        go_simp
                        with_reducible rfl
                      rotate_left
                      · simp only [Act.put, List.setIfInBounds_toArray, List.set_cons_zero, List.set_cons_succ, i64_w, i32_w]
                        rfl
                      refine one_ (i := 11) (N := some 49) #[true, true, true, true, true, true, true, true, true, true, true, true, false, false, false, false] rfl rfl (one_of HT_.out (by kernel_rfl)) (by decide) (fun K hK => ?_)
                      refine value_ (w1 := ?_) (v := ?_) (by rfl) rfl ?_ ?_
                      rotate_left 2
                      · go_simp
                        constructor
                        · rfl
                        · rfl
                      refine hK.out _ _ ⟨(World.cell?_alloc_lt _ _ _ (World.block_lt_of_cell? _ _ (hHeld.1))).trans (hHeld.1), (World.cell?_alloc_lt _ _ _ (World.block_lt_of_cell? _ _ (hHeld.2.1))).trans (hHeld.2.1), (World.cell?_alloc_lt _ _ _ (World.block_lt_of_cell? _ _ (((HB.out.cell (World.block_lt_of_cell? w _ hw108_0)).trans hw108_0)))).trans (((HB.out.cell (World.block_lt_of_cell? w _ hw108_0)).trans hw108_0))⟩ (fun hHeld => ?_)
                      clear hK K
                      refine norm_ (a' := ?_) ?_ ?_
                      rotate_left
                      · show Act.put _ (some 49) _ = _
                        simp only [Act.put, List.setIfInBounds_toArray, List.set_cons_zero, List.set_cons_succ, i64_w, i32_w]
                        rfl
                      refine one_ (i := 12) (N := some 50) #[true, true, true, true, true, true, true, true, true, true, true, true, true, false, false, false] rfl rfl (one_of HT_.out (by kernel_rfl)) (by decide) (fun K hK => ?_)
                      refine Kd.R_append_step Kd.bool (w0 := w) w.heap.size (by rfl) (.tmp 44) (.tmp 49) 26 4 (.bool false) 1 rfl Try.underlying26 info4 rfl (by decide) (by omega) (.slice A107_1 ((rd_T34 y104 (ji7)).f1).length c107_1) ((rd_T34 y104 (ji7)).f1) (rdOf false l0 x6_1) [.bool (rdOf false l0 x6_1)] (fun k_ => oki16 k_ ∨ ((fun _ => True)) k_ ∧ w15.heap.size ≤ k_) (fun _ => False) rfl rfl ?aP (fun _ hk => hk.elim) ?aF ?aO ?aB ?aS ?aL ?_
                      (case aP => exact rfl)
                      (case aB => exact (by repeat (first | (with_reducible first | exact HB.out | apply below_alloc | apply pw_below_drewN | apply below_drew1) | exact HB.out)))
                      (case aF => exact (fun k_ hk => .inr ⟨trivial, hk⟩))
                      (case aO => exact (by (with_reducible repeat (first | apply Kd.R_alloc | apply Kd.R_drewN | apply Kd.R_drew)); exact Kd.R_mono UU16.out (fun _ hk => .inl hk)))
                      (case aS => exact (below_size (by repeat (first | (with_reducible first | exact HB.out | apply below_alloc | apply pw_below_drewN | apply below_drew1) | exact HB.out))))
                      (case aL => have := LMc11.out; omega)
                      intro v110 w17 ho hb hg hat
                      (first | have HS0_ := cell_grown hg (hHeld.1) (by first | (rw [add_block]; exact (fun e_ => ((HL107_1.out.1 _ e_.symm).2) rfl)) | (show some (Addr.add _ _).block ≠ _; rw [add_block]; exact (fun e_ => ((HL107_1.out.1 _ e_.symm).2) rfl)) | exact (fun e_ => ((HL107_1.out.1 _ e_.symm).2) rfl)) | have HS0_ := cell_grown hg (cell_unalloc (hHeld.1) (by first | (rw [add_block]; exact Kd.S_lt HO106.out _ rfl) | (show (Addr.add _ _).block < _; rw [add_block]; exact Kd.S_lt HO106.out _ rfl) | exact Kd.S_lt HO106.out _ rfl)) (by first | (rw [add_block]; exact (fun e_ => ((HL107_1.out.1 _ e_.symm).2) rfl)) | (show some (Addr.add _ _).block ≠ _; rw [add_block]; exact (fun e_ => ((HL107_1.out.1 _ e_.symm).2) rfl)) | exact (fun e_ => ((HL107_1.out.1 _ e_.symm).2) rfl)))
                      (first | have HS1_ := cell_grown hg (hHeld.2.1) (by first | (rw [add_block]; exact (fun e_ => ((HL107_1.out.1 _ e_.symm).2) rfl)) | (show some (Addr.add _ _).block ≠ _; rw [add_block]; exact (fun e_ => ((HL107_1.out.1 _ e_.symm).2) rfl)) | exact (fun e_ => ((HL107_1.out.1 _ e_.symm).2) rfl)) | have HS1_ := cell_grown hg (cell_unalloc (hHeld.2.1) (by first | (rw [add_block]; exact Kd.S_lt HO106.out _ rfl) | (show (Addr.add _ _).block < _; rw [add_block]; exact Kd.S_lt HO106.out _ rfl) | exact Kd.S_lt HO106.out _ rfl)) (by first | (rw [add_block]; exact (fun e_ => ((HL107_1.out.1 _ e_.symm).2) rfl)) | (show some (Addr.add _ _).block ≠ _; rw [add_block]; exact (fun e_ => ((HL107_1.out.1 _ e_.symm).2) rfl)) | exact (fun e_ => ((HL107_1.out.1 _ e_.symm).2) rfl)))
                      rw [← Ny109.out] at ho
                      have n0_ := Aside0.mk (hb)
                      have n1_ := Aside0.mk (Kd.H_grown (Kd.H_widen (by repeat (first | exact HH16.out | refine Kd.H_alloc ?_ _ | refine Kd.H_drewN ?_ _ | refine Kd.H_drew ?_))) hg (fun k_ e_ => .inl (UU16.out.1 k_ e_)))
                      have n2_ := Aside0.mk (ho)
                      clear HB
                      clear HH16
                      clear HO106
                      clear UU16
                      clear HL107_1
                      have HB := n0_
                      have HH16 := n1_
                      have HO111 := n2_
                      clear n0_ n1_ n2_
                      clear ho hb hg hat
                      have p12 : 0 ≤ ((ji7) : Int) := of_decide_eq_true (by first | (with_reducible assumption) | assumption)
                      have q12 : ((ji7) : Int) < ((y104.length : Int) : Int) := of_decide_eq_true (by first | (with_reducible assumption) | assumption)
                      replace p12 := eq_true p12
                      replace q12 := eq_true q12
                      obtain ⟨Ao20, co20, eo20⟩ := Kd.R_slice HO111.out
                      (first | subst eo20 | (injection eo20 with f1_ f2_ f3_; have f4_ := f1_.symm; have f5_ := f3_.symm; clear f1_ f2_ f3_; subst f4_; subst f5_))
                      obtain ⟨_, _, hraw18, _, _, hcc18, _⟩ := Kd.H_raw HH16.out (of_decide_eq_true (by first | (with_reducible assumption) | assumption)) (by have h_ : ((ji7) : Int) < ((y104.length : Int) : Int) := of_decide_eq_true (by first | (with_reducible assumption) | assumption); first | exact h_ | (have e_ := (HN16.out); omega) | simpa using h_)
                      obtain ⟨_, hfr18⟩ := Kd.H_at HH16.out (of_decide_eq_true (by first | (with_reducible assumption) | assumption)) (by have h_ : ((ji7) : Int) < ((y104.length : Int) : Int) := of_decide_eq_true (by first | (with_reducible assumption) | assumption); first | exact h_ | (have e_ := (HN16.out); omega) | simpa using h_)
                      have hx18_0 := hcc18 1 _ rfl
                      have hf18_0 := hfr18 1
                      (try rw [show (k34).sz = 2 from rfl] at hx18_0)
                      (try rw [show (k34).sz = 2 from rfl] at hf18_0)
                      have HP18 := Kd.S_seg0 HH16.out (of_decide_eq_true (by first | (with_reducible assumption) | assumption)) (by have h_ : ((ji7) : Int) < ((y104.length : Int) : Int) := of_decide_eq_true (by first | (with_reducible assumption) | assumption); first | exact h_ | (have e_ := (HN16.out); omega) | simpa using h_) (seg := [.slice Ao20 y109.length co20]) (j := 1) (show 2 ≤ 2 from by decide) (x' := (⟨(rd_T34 y104 (ji7)).f0, y109⟩ : S34)) (k34_mkM _ _ _ (⟨(rd_T34 y104 (ji7)).f0, y109⟩ : S34) HO111.out) (fun _ hk => hk)
                      clear hcc18 hfr18
                      have HS18 := HP18.1
                      rw [← Ny112.out] at HS18
                      have HQ18 := Aside0.mk HS18
                      obtain ⟨_, hgg18⟩ := Kd.R_typed hraw18 go16 rfl
                      have GG18_ := Aside0.mk hgg18
                      clear HP18 HS18 hgg18
                      refine hK.out _ _ ⟨HS0_, HS1_, ((HB.out.cell (World.block_lt_of_cell? w _ hw108_0)).trans hw108_0)⟩ (fun hHeld => ?_)
                      clear hK K
                      refine norm_ (a' := ?_) ?_ ?_
                      rotate_left
                      · show Act.put _ (some 50) _ = _
                        simp only [Act.put, List.setIfInBounds_toArray, List.set_cons_zero, List.set_cons_succ, i64_w, i32_w]
                        rfl
                      refine pure_ (i := 13) (N := some 51) (v := ?_) (a' := ?_) #[true, true, true, true, true, true, true, true, true, true, true, true, true, true, false, false] rfl rfl (any_of HT_.out (by kernel_rfl)) (fun _ _ _ h => h) (Or.inl ⟨by rfl, ?_⟩) ?_ ?_
                      rotate_left
                      · intro w'
                        go_simp
                        with_reducible rfl
                      rotate_left
                      · simp only [Act.put, List.setIfInBounds_toArray, List.set_cons_zero, List.set_cons_succ, i64_w, i32_w]
                        rfl
                      refine pure_ (i := 14) (N := some 52) (v := ?_) (a' := ?_) #[true, true, true, true, true, true, true, true, true, true, true, true, true, true, true, false] rfl rfl (any_of HT_.out (by kernel_rfl)) (fun _ _ _ h => h) (Or.inl ⟨by rfl, ?_⟩) ?_ ?_
                      rotate_left
                      · intro w'
                        go_simp
                        with_reducible rfl
                      rotate_left
                      · simp only [Act.put, List.setIfInBounds_toArray, List.set_cons_zero, List.set_cons_succ, i64_w, i32_w]
                        rfl
                      refine last_ (i := 15) (N := none) #[true, true, true, true, true, true, true, true, true, true, true, true, true, true, true, true] rfl rfl (one_of HT_.out (by kernel_rfl)) (by decide) (fun K hK => ?_)
                      refine skip_ (w1 := ?_) (by rfl) rfl ?_ ?_
                      rotate_left
                      · go_simp
                        rfl
                      refine hK.out _ _ ?_
                      clear hK K
                      refine done_ (done_of HT_.out (by kernel_rfl)) ?_
                      try go_wp2
                      (first | go_roundg k1 | (simp only [add_plain] at *; go_roundg k1))
                      case measure => have := HK1.out; omega
                      case rel => exact ⟨(y112), (wrap64 (x6_1 + 1)), (by first | rfl | (simp; done) | (simp [*]; done) | (simp; omega) | (congr 1; omega) | (rw [hR_]; done) | (simp only [hR_]; done) | (simp [hR_]; done)), H', ⟨by have := HK1.out; omega⟩, ⟨by (with_reducible repeat (first | apply Kd.S_alloc | apply Kd.S_drewN | apply Kd.S_drew)); exact HQ18.out⟩, ⟨by repeat (first | (with_reducible first | exact HB.out | apply below_alloc | apply pw_below_drewN | apply below_drew1 | refine below_set ?_ GB16.out) | exact HB.out)⟩⟩
                    · rw [if_neg c11] at H
                      exact absurd H (by simp)
                  · rw [if_neg c10] at H
                    exact absurd H (by simp)
                · rw [if_neg c9] at H
                  exact absurd H (by simp)
              · rw [if_neg c8] at H
                exact absurd H (by simp)
            · rw [if_neg c6] at H
              exact absurd H (by simp)
          · rw [if_neg c5] at H
            have c5b0 : (x6_1 == 0) = false := beq_eq_false_iff_ne.mpr c5
            have c5b1 : (x6_1 != 0) = true := bne_iff_ne.mpr c5
            obtain ⟨ji21, hji21⟩ : ∃ j_ : Int, (wrap64 ((x5_1.length : Int) - 1)) = j_ := ⟨_, rfl⟩
            replace H : (if 0 ≤ (ji21) then (if (ji21) < (x5_1.length : Int) then (if (((rd_T34 x5_1 (ji21)).f1).length : Int) = a1 then (if x5_1.length < 4398046511104 then ((some (x5_1 ++ [(⟨x6_1, ([] : List Bool)⟩ : S34)] : List (S34))).bind fun y114 => (if 0 ≤ (wrap64 ((y114.length : Int) - 1)) then (if (wrap64 ((y114.length : Int) - 1)) < (y114.length : Int) then (if 0 ≤ x6_1 then (if ((rd_T34 y114 (wrap64 ((y114.length : Int) - 1))).f1).length < 140737488355328 then (foghornref01_Pieces.l0 k1 l0 a1 (y114.set ((wrap64 ((y114.length : Int) - 1)) : Int).toNat (⟨(rd_T34 y114 (wrap64 ((y114.length : Int) - 1))).f0, (((rd_T34 y114 (wrap64 ((y114.length : Int) - 1))).f1) ++ [rdOf false l0 x6_1])⟩ : S34)) (wrap64 (x6_1 + 1))) else (none)) else (none)) else (none)) else (none))) else (none)) else (if 0 ≤ x6_1 then (if ((rd_T34 x5_1 (ji21)).f1).length < 140737488355328 then (foghornref01_Pieces.l0 k1 l0 a1 (x5_1.set ((ji21) : Int).toNat (⟨(rd_T34 x5_1 (ji21)).f0, (((rd_T34 x5_1 (ji21)).f1) ++ [rdOf false l0 x6_1])⟩ : S34)) (wrap64 (x6_1 + 1))) else (none)) else (none))) else (none)) else (none)) = some r := by first | (rw [hji21] at H; exact H) | (simp only [hji21] at H ⊢; exact H)
            have hji21w : (IntKind.i64.wrap ((x5_1.length : Int) - 1)) = ji21 := (i64_w _).trans hji21
            by_cases c22 : 0 ≤ (ji21)
            · rw [if_pos c22] at H
              have c22b0 : decide (0 ≤ (ji21)) = true := decide_eq_true c22
              clear c22
              by_cases c23 : (ji21) < (x5_1.length : Int)
              · rw [if_pos c23] at H
                have c23b0 : decide ((ji21) < (x5_1.length : Int)) = true := decide_eq_true c23
                clear c23
                by_cases c24 : (((rd_T34 x5_1 (ji21)).f1).length : Int) = a1
                · rw [if_pos c24] at H
                  have c24b0 : ((((rd_T34 x5_1 (ji21)).f1).length : Int) == a1) = true := beq_iff_eq.mpr c24
                  have c24b1 : ((((rd_T34 x5_1 (ji21)).f1).length : Int) != a1) = false := bne_eq_false_iff_eq.mpr c24
                  clear c24
                  by_cases c25 : x5_1.length < 4398046511104
                  · rw [if_pos c25] at H
                    have LMc25 := Aside0.mk c25
                    clear c25
                    obtain ⟨y114, hy114⟩ : ∃ y_ : List (S34), y_ = (x5_1 ++ [(⟨x6_1, ([] : List Bool)⟩ : S34)]) := ⟨_, rfl⟩
                    replace H : (if 0 ≤ (wrap64 ((y114.length : Int) - 1)) then (if (wrap64 ((y114.length : Int) - 1)) < (y114.length : Int) then (if 0 ≤ x6_1 then (if ((rd_T34 y114 (wrap64 ((y114.length : Int) - 1))).f1).length < 140737488355328 then (foghornref01_Pieces.l0 k1 l0 a1 (y114.set ((wrap64 ((y114.length : Int) - 1)) : Int).toNat (⟨(rd_T34 y114 (wrap64 ((y114.length : Int) - 1))).f0, (((rd_T34 y114 (wrap64 ((y114.length : Int) - 1))).f1) ++ [rdOf false l0 x6_1])⟩ : S34)) (wrap64 (x6_1 + 1))) else (none)) else (none)) else (none)) else (none)) = some r := by first | (rw [hy114]; with_reducible exact H) | (have H2_ := (Option.bind_some _ _).symm.trans H; rw [hy114]; with_reducible exact H2_) | (have H2_ := (Option.bind_some _ _).symm.trans H; with_reducible exact H2_) | with_reducible exact H | (rw [hy114]; exact H) | exact H
                    have Ny114 := Aside0.mk hy114
                    clear hy114
                    obtain ⟨ji26, hji26⟩ : ∃ j_ : Int, (wrap64 ((y114.length : Int) - 1)) = j_ := ⟨_, rfl⟩
                    replace H : (if 0 ≤ (ji26) then (if (ji26) < (y114.length : Int) then (if 0 ≤ x6_1 then (if ((rd_T34 y114 (ji26)).f1).length < 140737488355328 then (foghornref01_Pieces.l0 k1 l0 a1 (y114.set ((ji26) : Int).toNat (⟨(rd_T34 y114 (ji26)).f0, (((rd_T34 y114 (ji26)).f1) ++ [rdOf false l0 x6_1])⟩ : S34)) (wrap64 (x6_1 + 1))) else (none)) else (none)) else (none)) else (none)) = some r := by first | (rw [hji26] at H; exact H) | (simp only [hji26] at H ⊢; exact H)
                    have hji26w : (IntKind.i64.wrap ((y114.length : Int) - 1)) = ji26 := (i64_w _).trans hji26
                    by_cases c27 : 0 ≤ (ji26)
                    · rw [if_pos c27] at H
                      have c27b0 : decide (0 ≤ (ji26)) = true := decide_eq_true c27
                      clear c27
                      by_cases c28 : (ji26) < (y114.length : Int)
                      · rw [if_pos c28] at H
                        have c28b0 : decide ((ji26) < (y114.length : Int)) = true := decide_eq_true c28
                        clear c28
                        by_cases c29 : 0 ≤ x6_1
                        · rw [if_pos c29] at H
                          have c29b0 : decide (0 ≤ x6_1) = true := decide_eq_true c29
                          clear c29
                          by_cases c30 : ((rd_T34 y114 (ji26)).f1).length < 140737488355328
                          · rw [if_pos c30] at H
                            have LMc30 := Aside0.mk c30
                            clear c30
                            obtain ⟨y119, hy119⟩ : ∃ y_ : List Bool, y_ = (((rd_T34 y114 (ji26)).f1) ++ [rdOf false l0 x6_1]) := ⟨_, rfl⟩
                            replace H : (foghornref01_Pieces.l0 k1 l0 a1 (y114.set ((ji26) : Int).toNat (⟨(rd_T34 y114 (ji26)).f0, y119⟩ : S34)) (wrap64 (x6_1 + 1))) = some r := by first | (rw [hy119]; with_reducible exact H) | (have H2_ := (Option.bind_some _ _).symm.trans H; rw [hy119]; with_reducible exact H2_) | (have H2_ := (Option.bind_some _ _).symm.trans H; with_reducible exact H2_) | with_reducible exact H | (rw [hy119]; exact H) | exact H
                            have Ny119 := Aside0.mk hy119
                            clear hy119
                            obtain ⟨y122, hy122⟩ : ∃ y_ : List (S34), y_ = (y114.set ((ji26) : Int).toNat (⟨(rd_T34 y114 (ji26)).f0, y119⟩ : S34)) := ⟨_, rfl⟩
                            replace H : (foghornref01_Pieces.l0 k1 l0 a1 y122 (wrap64 (x6_1 + 1))) = some r := by first | (rw [hy122]; with_reducible exact H) | (have H2_ := (Option.bind_some _ _).symm.trans H; rw [hy122]; with_reducible exact H2_) | (have H2_ := (Option.bind_some _ _).symm.trans H; with_reducible exact H2_) | with_reducible exact H | (rw [hy122]; exact H) | exact H
                            have Ny122 := Aside0.mk hy122
                            clear hy122
                            have H' := Aside0.mk H
                            clear H
                            obtain ⟨Ao32, co32, eo32⟩ := Kd.S_slice HO_5.out
                            subst eo32
                            have p113 : 0 ≤ ((ji21) : Int) := of_decide_eq_true (by first | (with_reducible assumption) | assumption)
                            have q113 : (ji21) < (x5_1.length : Int) := of_decide_eq_true (by first | (with_reducible assumption) | assumption)
                            obtain ⟨ad113, A113_1, c113_1, e113, hx113_0, hx113_1, hl113_1, hi113_1⟩ := at_T34 (Kd.S_reads' HO_5.out).2.2 (ji21) p113 q113
                            cases e113
                            obtain ⟨ce113, hce113, hMe113, hcc113⟩ := Kd.S_get HO_5.out z34 (ji21) p113 (by first | exact q113 | exact of_decide_eq_true (by first | (with_reducible assumption) | assumption) | (have e_ := (Kd.S_reads' HO_5.out).1; omega))
                            obtain ⟨ve113_1, rfl, ge113_1⟩ := k34_openM hMe113
                            have hv113_1 := hcc113 1 _ rfl
                            rw [add_field _ _ 1 (by omega)] at hv113_1
                            replace hv113_1 := Option.some.inj (hv113_1.symm.trans hx113_1)
                            rw [hv113_1] at ge113_1
                            have HL113_1 := Aside0.mk (show Kd.R Kd.bool 4 _ _ _ _ ((rd_T34 x5_1 (ji21)).f1) from ge113_1)
                            clear hv113_1 ge113_1
                            have HX113_1 := Aside0.mk hx113_1
                            clear hcc113 hce113
                            have HR113_1 := Aside0.mk hi113_1
                            have HC113_1 := Aside0.mk hl113_1
                            clear hi113_1 hl113_1
                            replace p113 := eq_true p113
                            replace q113 := eq_true q113
                            try go_wp2_with (first | ((with_reducible refine gate_builtin (b := .append) (xs := #[.tmp 30, .tmp 33]) rfl ?_); (try (refine gate_guard (by rfl) ?_; dsimp only)); at_builtin; refine Kd.S_append k34 (w0 := w) w.heap.size rfl (.tmp 30) (.tmp 33) 27 34 (.agg #[(.int .i64 0), (.slice none 0 0)]) 32 rfl Try.underlying27 info34 rfl (by decide) (by omega) (.slice (some ad113) x5_1.length co32) x5_1 (⟨x6_1, ([] : List Bool)⟩ : S34) [.int .i64 x6_1, .slice none 0 0] (fun _ => True) (fun _ => False) rfl rfl ?aP (fun k_ hk_ => hk_.elim) ?aF ?aO ?aB ?aS ?aL ?_; (case aP => exact k34_mkM _ _ _ (⟨x6_1, ([] : List Bool)⟩ : S34) (Kd.R_nil _ _ _ _ _)); (case aB => exact (by repeat (first | (with_reducible first | exact HB.out | apply below_alloc | apply pw_below_drewN | apply below_drew1) | exact HB.out))); (case aF => exact (fun _ _ => trivial)); (case aO => exact (by (with_reducible repeat (first | apply Kd.S_alloc | apply Kd.S_drewN | apply Kd.S_drew)); exact Kd.S_mono HO_5.out (fun k_ hk => ⟨trivial, fun e_ => e_⟩))); (case aS => exact (below_size (by repeat (first | (with_reducible first | exact HB.out | apply below_alloc | apply pw_below_drewN | apply below_drew1) | exact HB.out)))); (case aL => have := LMc25.out; omega); intro v115 w33 ho hb hg hat; rw [← Ny114.out] at ho; have n0_ := Aside0.mk (Kd.R_after (ok := (fun _ => True)) (by (with_reducible repeat (first | apply Kd.R_alloc | apply Kd.R_drewN | apply Kd.R_drew)); exact HL113_1.out) hg hat); have n1_ := Aside0.mk (hb); have n2_ := Aside0.mk (ho); clear HL113_1; clear HB; clear HO_5; have HL113_1 := n0_; have HB := n1_; have HO116 := n2_; clear n0_ n1_ n2_; clear ho hb hg hat; obtain ⟨Ao34, co34, eo34⟩ := Kd.S_slice HO116.out; subst eo34))
                            have n0_ := Aside0.mk (Kd.R_drew HL113_1.out)
                            have n1_ := Aside0.mk (Kd.S_drew HO116.out)
                            have n2_ := Aside0.mk (below_drew1 HB.out)
                            clear HL113_1
                            clear HO116
                            clear HB
                            have HL113_1 := n0_
                            have HO116 := n1_
                            have HB := n2_
                            clear n0_ n1_ n2_
                            have p117 : 0 ≤ ((ji26) : Int) := of_decide_eq_true (by first | (with_reducible assumption) | assumption)
                            have q117 : (ji26) < (y114.length : Int) := of_decide_eq_true (by first | (with_reducible assumption) | assumption)
                            obtain ⟨ad117, A117_1, c117_1, e117, hx117_0, hx117_1, hl117_1, hi117_1⟩ := at_T34 (Kd.S_reads' HO116.out).2.2 (ji26) p117 q117
                            cases e117
                            obtain ⟨ce117, hce117, hMe117, hcc117⟩ := Kd.S_get HO116.out z34 (ji26) p117 (by first | exact q117 | exact of_decide_eq_true (by first | (with_reducible assumption) | assumption) | (have e_ := (Kd.S_reads' HO116.out).1; omega))
                            obtain ⟨ve117_1, rfl, ge117_1⟩ := k34_openM hMe117
                            have hv117_1 := hcc117 1 _ rfl
                            rw [add_field _ _ 1 (by omega)] at hv117_1
                            replace hv117_1 := Option.some.inj (hv117_1.symm.trans hx117_1)
                            rw [hv117_1] at ge117_1
                            have HL117_1 := Aside0.mk (show Kd.R Kd.bool 4 _ _ _ _ ((rd_T34 y114 (ji26)).f1) from ge117_1)
                            clear hv117_1 ge117_1
                            have HX117_1 := Aside0.mk hx117_1
                            clear hcc117 hce117
                            have HR117_1 := Aside0.mk hi117_1
                            have HC117_1 := Aside0.mk hl117_1
                            clear hi117_1 hl117_1
                            replace p117 := eq_true p117
                            replace q117 := eq_true q117
                            have p118 : 0 ≤ (x6_1 : Int) := of_decide_eq_true (by first | (with_reducible assumption) | assumption)
                            have q118 : x6_1 < (l0.length : Int) := of_decide_eq_true (by first | (with_reducible assumption) | assumption)
                            obtain ⟨ad118, e118, hx118_0⟩ := Kd.at_bool HR0.out x6_1 p118 q118
                            have hw118_0 := hx118_0
                            cases e118
                            replace hx118_0 := (HB.out.cell (World.block_lt_of_cell? w _ hx118_0)).trans hx118_0
                            replace p118 := eq_true p118
                            replace q118 := eq_true q118
                            obtain ⟨go36, co36, eo36, gb36, gl36, cl36, HG36⟩ := Kd.S_form HO116.out (by have h_ : ((ji26) : Int) < ((y114.length : Int) : Int) := of_decide_eq_true (by first | (with_reducible assumption) | assumption); have h2_ : 0 ≤ ((ji26) : Int) := (of_decide_eq_true (by first | (with_reducible assumption) | assumption)); omega)
                            (first | cases eo36 | (injection eo36 with ea_ en_ ec_; (first | subst ea_ | (injection ea_ with ea_; subst ea_)); subst ec_; clear en_))
                            have GB36 := Aside0.mk gb36
                            have GG36 := Aside0.mk HG36
                            clear gb36 gl36 HG36
                            (first | simp only [add_plain] at hx117_0 | skip)
                            (first | simp only [add_plain] at hx117_1 | skip)
                            obtain ⟨oki36, ce36, hcl36, hM36, hcc36, _, _, hH36⟩ := Kd.S_elem HO116.out z34 ((ji26) : Int) (of_decide_eq_true (by first | (with_reducible assumption) | assumption)) (by have h_ : ((ji26) : Int) < ((y114.length : Int) : Int) := of_decide_eq_true (by first | (with_reducible assumption) | assumption); first | exact h_ | (have e_ := (Kd.S_reads' HO116.out).1; omega) | simpa using h_)
                            obtain ⟨ve36_1, rfl, ge36_1⟩ := k34_openM hM36
                            have hv36 := hcc36 1 _ rfl
                            have hX36 := HX117_1.out
                            (try simp only [add_plain] at hX36)
                            (try simp only [Nat.add_zero] at hv36)
                            replace hv36 := Option.some.inj (hv36.symm.trans hX36)
                            subst hv36
                            clear hX36 hcc36 hcl36
                            have UU36 := Aside0.mk (show Kd.R Kd.bool 4 _ w.heap.size oki36 (.slice A117_1 ((rd_T34 y114 (ji26)).f1).length c117_1) ((rd_T34 y114 (ji26)).f1) from ge36_1)
                            have HH36 := Aside0.mk hH36
                            have HN36 := Aside0.mk (Kd.S_reads' HO116.out).1
                            clear hH36 ge36_1
                            refine start_ (n := 16) (S := fun w' => w'.cell? ⟨go36, (((ji26)).toNat * 2), none⟩ = some (.int .i64 ((rd_T34 y114 (ji26)).f0)) ∧ w'.cell? ⟨go36, (((ji26)).toNat * 2) + 1, none⟩ = some (.slice A117_1 ((rd_T34 y114 (ji26)).f1).length c117_1) ∧ w'.cell? (ad118.add (x6_1).toNat) = some (.bool (rdOf false l0 x6_1))) (ds := [15]) #[false, false, false, false, false, false, false, false, false, false, false, false, false, false, false, false] (by kernel_rfl) rfl rfl ⟨hx117_0, hx117_1, ((HB.out.cell (World.block_lt_of_cell? w _ hw118_0)).trans hw118_0)⟩ (fun hHeld => ?_); refine with_tabW foghornref01_Pieces.tab10 foghornref01_Pieces.bits10 (fun HT_ HW_ => ?_)
                            (first | generalize w33.drew = w35 at HL113_1 HO116 HB GG36 HH36 HL117_1 HR117_1 HX117_1 UU36 hx117_0 hx117_1 hx118_0 hHeld ⊢ | generalize w33.drew = w35 at *)
                            refine pure_ (i := 0) (N := some 38) (v := ?_) (a' := ?_) #[true, false, false, false, false, false, false, false, false, false, false, false, false, false, false, false] rfl rfl (any_of HT_.out (by kernel_rfl)) (fun _ _ _ h => h) (Or.inl ⟨by rfl, ?_⟩) ?_ ?_
                            rotate_left
                            · intro w'
                              go_simp
                              with_reducible rfl
                            rotate_left
                            · simp only [Act.put, List.setIfInBounds_toArray, List.set_cons_zero, List.set_cons_succ, i64_w, i32_w]
                              rfl
                            refine pure_ (i := 1) (N := some 39) (v := ?_) (a' := ?_) #[true, true, false, false, false, false, false, false, false, false, false, false, false, false, false, false] rfl rfl (any_of HT_.out (by kernel_rfl)) (fun _ _ _ h => h) (Or.inl ⟨by rfl, ?_⟩) ?_ ?_
                            rotate_left
                            · intro w'
                              go_simp
                              with_reducible rfl
                            rotate_left
                            · simp only [Act.put, List.setIfInBounds_toArray, List.set_cons_zero, List.set_cons_succ, i64_w, i32_w]
                              rfl
                            refine pure_ (i := 2) (N := some 40) (v := ?_) (a' := ?_) #[true, true, true, false, false, false, false, false, false, false, false, false, false, false, false, false] rfl rfl (any_of HT_.out (by kernel_rfl)) (fun _ _ _ h => h) (Or.inl ⟨by rfl, ?_⟩) ?_ ?_
                            rotate_left
                            · intro w'
                              go_simp
                              with_reducible rfl
                            rotate_left
                            · simp only [Act.put, List.setIfInBounds_toArray, List.set_cons_zero, List.set_cons_succ, i64_w, i32_w]
                              rfl
                            refine pure_ (i := 3) (N := some 41) (v := ?_) (a' := ?_) #[true, true, true, true, false, false, false, false, false, false, false, false, false, false, false, false] rfl rfl (any_of HT_.out (by kernel_rfl)) (fun _ _ _ h => h) (Or.inl ⟨by rfl, ?_⟩) ?_ ?_
                            rotate_left
                            · intro w'
                              go_simp
                              with_reducible rfl
                            rotate_left
                            · simp only [Act.put, List.setIfInBounds_toArray, List.set_cons_zero, List.set_cons_succ, i64_w, i32_w]
                              rfl
                            refine pure_ (i := 4) (N := some 42) (v := ?_) (a' := ?_) #[true, true, true, true, true, false, false, false, false, false, false, false, false, false, false, false] rfl rfl (any_of HT_.out (by kernel_rfl)) (fun _ _ _ h => h) (Or.inl ⟨by rfl, ?_⟩) ?_ ?_
                            rotate_left
                            · intro w'
                              go_simp
                              with_reducible rfl
                            rotate_left
                            · simp only [Act.put, List.setIfInBounds_toArray, List.set_cons_zero, List.set_cons_succ, i64_w, i32_w]
                              rfl
                            refine pure_ (i := 5) (N := some 43) (v := ?_) (a' := ?_) #[true, true, true, true, true, true, false, false, false, false, false, false, false, false, false, false] rfl rfl (any_of HT_.out (by kernel_rfl)) (fun _ _ _ h => h) (Or.inl ⟨by rfl, ?_⟩) ?_ ?_
                            rotate_left
                            · intro w'
                              go_simp
                              with_reducible rfl
                            rotate_left
                            · simp only [Act.put, List.setIfInBounds_toArray, List.set_cons_zero, List.set_cons_succ, i64_w, i32_w]
                              rfl
                            refine pure_ (i := 7) (N := some 45) (v := ?_) (a' := ?_) #[true, true, true, true, true, true, false, true, false, false, false, false, false, false, false, false] rfl rfl (any_of HT_.out (by kernel_rfl)) (fun _ _ _ h => h) (Or.inl ⟨by rfl, ?_⟩) ?_ ?_
                            rotate_left
                            · intro w'
                              go_simp
                              with_reducible rfl
                            rotate_left
                            · simp only [Act.put, List.setIfInBounds_toArray, List.set_cons_zero, List.set_cons_succ, i64_w, i32_w]
                              rfl
                            refine pure_ (i := 8) (N := some 46) (v := ?_) (a' := ?_) #[true, true, true, true, true, true, false, true, true, false, false, false, false, false, false, false] rfl rfl (any_of HT_.out (by kernel_rfl)) (fun _ _ _ h => h) (Or.inl ⟨by rfl, ?_⟩) ?_ ?_
                            rotate_left
                            · intro w'
                              go_simp
                              with_reducible rfl
                            rotate_left
                            · simp only [Act.put, List.setIfInBounds_toArray, List.set_cons_zero, List.set_cons_succ, i64_w, i32_w]
                              rfl
                            refine pure_ (i := 9) (N := some 47) (v := ?_) (a' := ?_) #[true, true, true, true, true, true, false, true, true, true, false, false, false, false, false, false] rfl rfl (any_of HT_.out (by kernel_rfl)) (fun _ _ _ h => h) (Or.inl ⟨by rfl, ?_⟩) ?_ ?_
                            rotate_left
                            · intro w'
                              go_simp
                              with_reducible rfl
                            rotate_left
                            · simp only [Act.put, List.setIfInBounds_toArray, List.set_cons_zero, List.set_cons_succ, i64_w, i32_w]
                              rfl
                            refine take_ (i := 6) (N := some 44) (v := ?_) (a' := ?_) #[true, true, true, true, true, true, true, true, true, true, false, false, false, false, false, false] rfl rfl (take_ofW HT_.out HW_.out (by kernel_rfl)) (fun _ _ _ h => h) (Or.inl ⟨by rfl, ?_⟩) hHeld ?_ ?_
                            rotate_left
                            · rintro w' ⟨s0, s1, s2⟩
                              go_simp
                              with_reducible rfl
                            rotate_left
                            · simp only [Act.put, List.setIfInBounds_toArray, List.set_cons_zero, List.set_cons_succ, i64_w, i32_w]
                              rfl
                            refine take_ (i := 10) (N := some 48) (v := ?_) (a' := ?_) #[true, true, true, true, true, true, true, true, true, true, true, false, false, false, false, false] rfl rfl (take_ofW HT_.out HW_.out (by kernel_rfl)) (fun _ _ _ h => h) (Or.inl ⟨by rfl, ?_⟩) hHeld ?_ ?_
                            rotate_left
                            · rintro w' ⟨s0, s1, s2⟩
                              go_simp
                              with_reducible rfl
                            rotate_left
                            · simp only [Act.put, List.setIfInBounds_toArray, List.set_cons_zero, List.set_cons_succ, i64_w, i32_w]
                              rfl
                            refine one_ (i := 11) (N := some 49) #[true, true, true, true, true, true, true, true, true, true, true, true, false, false, false, false] rfl rfl (one_of HT_.out (by kernel_rfl)) (by decide) (fun K hK => ?_)
                            refine value_ (w1 := ?_) (v := ?_) (by rfl) rfl ?_ ?_
                            rotate_left 2
                            · go_simp
                              constructor
                              · rfl
                              · rfl
                            refine hK.out _ _ ⟨(World.cell?_alloc_lt _ _ _ (World.block_lt_of_cell? _ _ (hHeld.1))).trans (hHeld.1), (World.cell?_alloc_lt _ _ _ (World.block_lt_of_cell? _ _ (hHeld.2.1))).trans (hHeld.2.1), (World.cell?_alloc_lt _ _ _ (World.block_lt_of_cell? _ _ (((HB.out.cell (World.block_lt_of_cell? w _ hw118_0)).trans hw118_0)))).trans (((HB.out.cell (World.block_lt_of_cell? w _ hw118_0)).trans hw118_0))⟩ (fun hHeld => ?_)
                            clear hK K
                            refine norm_ (a' := ?_) ?_ ?_
                            rotate_left
                            · show Act.put _ (some 49) _ = _
                              simp only [Act.put, List.setIfInBounds_toArray, List.set_cons_zero, List.set_cons_succ, i64_w, i32_w]
                              rfl
                            refine one_ (i := 12) (N := some 50) #[true, true, true, true, true, true, true, true, true, true, true, true, true, false, false, false] rfl rfl (one_of HT_.out (by kernel_rfl)) (by decide) (fun K hK => ?_)
                            refine Kd.R_append_step Kd.bool (w0 := w) w.heap.size (by rfl) (.tmp 44) (.tmp 49) 26 4 (.bool false) 1 rfl Try.underlying26 info4 rfl (by decide) (by omega) (.slice A117_1 ((rd_T34 y114 (ji26)).f1).length c117_1) ((rd_T34 y114 (ji26)).f1) (rdOf false l0 x6_1) [.bool (rdOf false l0 x6_1)] (fun k_ => oki36 k_ ∨ ((fun _ => True)) k_ ∧ w35.heap.size ≤ k_) (fun _ => False) rfl rfl ?aP (fun _ hk => hk.elim) ?aF ?aO ?aB ?aS ?aL ?_
                            (case aP => exact rfl)
                            (case aB => exact (by repeat (first | (with_reducible first | exact HB.out | apply below_alloc | apply pw_below_drewN | apply below_drew1) | exact HB.out)))
                            (case aF => exact (fun k_ hk => .inr ⟨trivial, hk⟩))
                            (case aO => exact (by (with_reducible repeat (first | apply Kd.R_alloc | apply Kd.R_drewN | apply Kd.R_drew)); exact Kd.R_mono UU36.out (fun _ hk => .inl hk)))
                            (case aS => exact (below_size (by repeat (first | (with_reducible first | exact HB.out | apply below_alloc | apply pw_below_drewN | apply below_drew1) | exact HB.out))))
                            (case aL => have := LMc30.out; omega)
                            intro v120 w37 ho hb hg hat
                            (first | have HS0_ := cell_grown hg (hHeld.1) (by first | (rw [add_block]; exact (fun e_ => ((HL117_1.out.1 _ e_.symm).2) rfl)) | (show some (Addr.add _ _).block ≠ _; rw [add_block]; exact (fun e_ => ((HL117_1.out.1 _ e_.symm).2) rfl)) | exact (fun e_ => ((HL117_1.out.1 _ e_.symm).2) rfl)) | have HS0_ := cell_grown hg (cell_unalloc (hHeld.1) (by first | (rw [add_block]; exact Kd.S_lt HO116.out _ rfl) | (show (Addr.add _ _).block < _; rw [add_block]; exact Kd.S_lt HO116.out _ rfl) | exact Kd.S_lt HO116.out _ rfl)) (by first | (rw [add_block]; exact (fun e_ => ((HL117_1.out.1 _ e_.symm).2) rfl)) | (show some (Addr.add _ _).block ≠ _; rw [add_block]; exact (fun e_ => ((HL117_1.out.1 _ e_.symm).2) rfl)) | exact (fun e_ => ((HL117_1.out.1 _ e_.symm).2) rfl)))
                            (first | have HS1_ := cell_grown hg (hHeld.2.1) (by first | (rw [add_block]; exact (fun e_ => ((HL117_1.out.1 _ e_.symm).2) rfl)) | (show some (Addr.add _ _).block ≠ _; rw [add_block]; exact (fun e_ => ((HL117_1.out.1 _ e_.symm).2) rfl)) | exact (fun e_ => ((HL117_1.out.1 _ e_.symm).2) rfl)) | have HS1_ := cell_grown hg (cell_unalloc (hHeld.2.1) (by first | (rw [add_block]; exact Kd.S_lt HO116.out _ rfl) | (show (Addr.add _ _).block < _; rw [add_block]; exact Kd.S_lt HO116.out _ rfl) | exact Kd.S_lt HO116.out _ rfl)) (by first | (rw [add_block]; exact (fun e_ => ((HL117_1.out.1 _ e_.symm).2) rfl)) | (show some (Addr.add _ _).block ≠ _; rw [add_block]; exact (fun e_ => ((HL117_1.out.1 _ e_.symm).2) rfl)) | exact (fun e_ => ((HL117_1.out.1 _ e_.symm).2) rfl)))
                            rw [← Ny119.out] at ho
                            have n0_ := Aside0.mk (hb)
                            have n1_ := Aside0.mk (Kd.H_grown (Kd.H_widen (by repeat (first | exact HH36.out | refine Kd.H_alloc ?_ _ | refine Kd.H_drewN ?_ _ | refine Kd.H_drew ?_))) hg (fun k_ e_ => .inl (UU36.out.1 k_ e_)))
                            have n2_ := Aside0.mk (ho)
                            clear HB
                            clear HH36
                            clear HO116
                            clear UU36
                            clear HL113_1
                            clear HL117_1
                            have HB := n0_
                            have HH36 := n1_
                            have HO121 := n2_
                            clear n0_ n1_ n2_
                            clear ho hb hg hat
                            have p31 : 0 ≤ ((ji26) : Int) := of_decide_eq_true (by first | (with_reducible assumption) | assumption)
                            have q31 : ((ji26) : Int) < ((y114.length : Int) : Int) := of_decide_eq_true (by first | (with_reducible assumption) | assumption)
                            replace p31 := eq_true p31
                            replace q31 := eq_true q31
                            obtain ⟨Ao40, co40, eo40⟩ := Kd.R_slice HO121.out
                            (first | subst eo40 | (injection eo40 with f1_ f2_ f3_; have f4_ := f1_.symm; have f5_ := f3_.symm; clear f1_ f2_ f3_; subst f4_; subst f5_))
                            obtain ⟨_, _, hraw38, _, _, hcc38, _⟩ := Kd.H_raw HH36.out (of_decide_eq_true (by first | (with_reducible assumption) | assumption)) (by have h_ : ((ji26) : Int) < ((y114.length : Int) : Int) := of_decide_eq_true (by first | (with_reducible assumption) | assumption); first | exact h_ | (have e_ := (HN36.out); omega) | simpa using h_)
                            obtain ⟨_, hfr38⟩ := Kd.H_at HH36.out (of_decide_eq_true (by first | (with_reducible assumption) | assumption)) (by have h_ : ((ji26) : Int) < ((y114.length : Int) : Int) := of_decide_eq_true (by first | (with_reducible assumption) | assumption); first | exact h_ | (have e_ := (HN36.out); omega) | simpa using h_)
                            have hx38_0 := hcc38 1 _ rfl
                            have hf38_0 := hfr38 1
                            (try rw [show (k34).sz = 2 from rfl] at hx38_0)
                            (try rw [show (k34).sz = 2 from rfl] at hf38_0)
                            have HP38 := Kd.S_seg0 HH36.out (of_decide_eq_true (by first | (with_reducible assumption) | assumption)) (by have h_ : ((ji26) : Int) < ((y114.length : Int) : Int) := of_decide_eq_true (by first | (with_reducible assumption) | assumption); first | exact h_ | (have e_ := (HN36.out); omega) | simpa using h_) (seg := [.slice Ao40 y119.length co40]) (j := 1) (show 2 ≤ 2 from by decide) (x' := (⟨(rd_T34 y114 (ji26)).f0, y119⟩ : S34)) (k34_mkM _ _ _ (⟨(rd_T34 y114 (ji26)).f0, y119⟩ : S34) HO121.out) (fun _ hk => hk)
                            clear hcc38 hfr38
                            have HS38 := HP38.1
                            rw [← Ny122.out] at HS38
                            have HQ38 := Aside0.mk HS38
                            obtain ⟨_, hgg38⟩ := Kd.R_typed hraw38 go36 rfl
                            have GG38_ := Aside0.mk hgg38
                            clear HP38 HS38 hgg38
                            refine hK.out _ _ ⟨HS0_, HS1_, ((HB.out.cell (World.block_lt_of_cell? w _ hw118_0)).trans hw118_0)⟩ (fun hHeld => ?_)
                            clear hK K
                            refine norm_ (a' := ?_) ?_ ?_
                            rotate_left
                            · show Act.put _ (some 50) _ = _
                              simp only [Act.put, List.setIfInBounds_toArray, List.set_cons_zero, List.set_cons_succ, i64_w, i32_w]
                              rfl
                            refine pure_ (i := 13) (N := some 51) (v := ?_) (a' := ?_) #[true, true, true, true, true, true, true, true, true, true, true, true, true, true, false, false] rfl rfl (any_of HT_.out (by kernel_rfl)) (fun _ _ _ h => h) (Or.inl ⟨by rfl, ?_⟩) ?_ ?_
                            rotate_left
                            · intro w'
                              go_simp
                              with_reducible rfl
                            rotate_left
                            · simp only [Act.put, List.setIfInBounds_toArray, List.set_cons_zero, List.set_cons_succ, i64_w, i32_w]
                              rfl
                            refine pure_ (i := 14) (N := some 52) (v := ?_) (a' := ?_) #[true, true, true, true, true, true, true, true, true, true, true, true, true, true, true, false] rfl rfl (any_of HT_.out (by kernel_rfl)) (fun _ _ _ h => h) (Or.inl ⟨by rfl, ?_⟩) ?_ ?_
                            rotate_left
                            · intro w'
                              go_simp
                              with_reducible rfl
                            rotate_left
                            · simp only [Act.put, List.setIfInBounds_toArray, List.set_cons_zero, List.set_cons_succ, i64_w, i32_w]
                              rfl
                            refine last_ (i := 15) (N := none) #[true, true, true, true, true, true, true, true, true, true, true, true, true, true, true, true] rfl rfl (one_of HT_.out (by kernel_rfl)) (by decide) (fun K hK => ?_)
                            refine skip_ (w1 := ?_) (by rfl) rfl ?_ ?_
                            rotate_left
                            · go_simp
                              rfl
                            refine hK.out _ _ ?_
                            clear hK K
                            refine done_ (done_of HT_.out (by kernel_rfl)) ?_
                            try go_wp2
                            (first | go_roundg k1 | (simp only [add_plain] at *; go_roundg k1))
                            case measure => have := HK1.out; omega
                            case rel => exact ⟨(y122), (wrap64 (x6_1 + 1)), (by first | rfl | (simp; done) | (simp [*]; done) | (simp; omega) | (congr 1; omega) | (rw [hR_]; done) | (simp only [hR_]; done) | (simp [hR_]; done)), H', ⟨by have := HK1.out; omega⟩, ⟨by (with_reducible repeat (first | apply Kd.S_alloc | apply Kd.S_drewN | apply Kd.S_drew)); exact HQ38.out⟩, ⟨by repeat (first | (with_reducible first | exact HB.out | apply below_alloc | apply pw_below_drewN | apply below_drew1 | refine below_set ?_ GB36.out) | exact HB.out)⟩⟩
                          · rw [if_neg c30] at H
                            exact absurd H (by simp)
                        · rw [if_neg c29] at H
                          exact absurd H (by simp)
                      · rw [if_neg c28] at H
                        exact absurd H (by simp)
                    · rw [if_neg c27] at H
                      exact absurd H (by simp)
                  · rw [if_neg c25] at H
                    exact absurd H (by simp)
                · rw [if_neg c24] at H
                  have c24b0 : ((((rd_T34 x5_1 (ji21)).f1).length : Int) == a1) = false := beq_eq_false_iff_ne.mpr c24
                  have c24b1 : ((((rd_T34 x5_1 (ji21)).f1).length : Int) != a1) = true := bne_iff_ne.mpr c24
                  by_cases c41 : 0 ≤ x6_1
                  · rw [if_pos c41] at H
                    have c41b0 : decide (0 ≤ x6_1) = true := decide_eq_true c41
                    clear c41
                    by_cases c42 : ((rd_T34 x5_1 (ji21)).f1).length < 140737488355328
                    · rw [if_pos c42] at H
                      have LMc42 := Aside0.mk c42
                      clear c42
                      obtain ⟨y125, hy125⟩ : ∃ y_ : List Bool, y_ = (((rd_T34 x5_1 (ji21)).f1) ++ [rdOf false l0 x6_1]) := ⟨_, rfl⟩
                      replace H : (foghornref01_Pieces.l0 k1 l0 a1 (x5_1.set ((ji21) : Int).toNat (⟨(rd_T34 x5_1 (ji21)).f0, y125⟩ : S34)) (wrap64 (x6_1 + 1))) = some r := by first | (rw [hy125]; with_reducible exact H) | (have H2_ := (Option.bind_some _ _).symm.trans H; rw [hy125]; with_reducible exact H2_) | (have H2_ := (Option.bind_some _ _).symm.trans H; with_reducible exact H2_) | with_reducible exact H | (rw [hy125]; exact H) | exact H
                      have Ny125 := Aside0.mk hy125
                      clear hy125
                      obtain ⟨y128, hy128⟩ : ∃ y_ : List (S34), y_ = (x5_1.set ((ji21) : Int).toNat (⟨(rd_T34 x5_1 (ji21)).f0, y125⟩ : S34)) := ⟨_, rfl⟩
                      replace H : (foghornref01_Pieces.l0 k1 l0 a1 y128 (wrap64 (x6_1 + 1))) = some r := by first | (rw [hy128]; with_reducible exact H) | (have H2_ := (Option.bind_some _ _).symm.trans H; rw [hy128]; with_reducible exact H2_) | (have H2_ := (Option.bind_some _ _).symm.trans H; with_reducible exact H2_) | with_reducible exact H | (rw [hy128]; exact H) | exact H
                      have Ny128 := Aside0.mk hy128
                      clear hy128
                      have H' := Aside0.mk H
                      clear H
                      obtain ⟨Ao44, co44, eo44⟩ := Kd.S_slice HO_5.out
                      subst eo44
                      have p113 : 0 ≤ ((ji21) : Int) := of_decide_eq_true (by first | (with_reducible assumption) | assumption)
                      have q113 : (ji21) < (x5_1.length : Int) := of_decide_eq_true (by first | (with_reducible assumption) | assumption)
                      obtain ⟨ad113, A113_1, c113_1, e113, hx113_0, hx113_1, hl113_1, hi113_1⟩ := at_T34 (Kd.S_reads' HO_5.out).2.2 (ji21) p113 q113
                      cases e113
                      obtain ⟨ce113, hce113, hMe113, hcc113⟩ := Kd.S_get HO_5.out z34 (ji21) p113 (by first | exact q113 | exact of_decide_eq_true (by first | (with_reducible assumption) | assumption) | (have e_ := (Kd.S_reads' HO_5.out).1; omega))
                      obtain ⟨ve113_1, rfl, ge113_1⟩ := k34_openM hMe113
                      have hv113_1 := hcc113 1 _ rfl
                      rw [add_field _ _ 1 (by omega)] at hv113_1
                      replace hv113_1 := Option.some.inj (hv113_1.symm.trans hx113_1)
                      rw [hv113_1] at ge113_1
                      have HL113_1 := Aside0.mk (show Kd.R Kd.bool 4 _ _ _ _ ((rd_T34 x5_1 (ji21)).f1) from ge113_1)
                      clear hv113_1 ge113_1
                      have HX113_1 := Aside0.mk hx113_1
                      clear hcc113 hce113
                      have HR113_1 := Aside0.mk hi113_1
                      have HC113_1 := Aside0.mk hl113_1
                      clear hi113_1 hl113_1
                      replace p113 := eq_true p113
                      replace q113 := eq_true q113
                      try go_wp2
                      have n0_ := Aside0.mk (Kd.S_drew HO_5.out)
                      have n1_ := Aside0.mk (Kd.R_drew HL113_1.out)
                      have n2_ := Aside0.mk (Kd.C_drew HR113_1.out)
                      have n3_ := Aside0.mk (below_drew1 HB.out)
                      clear HO_5
                      clear HL113_1
                      clear HR113_1
                      clear HB
                      have HO_5 := n0_
                      have HL113_1 := n1_
                      have HR113_1 := n2_
                      have HB := n3_
                      clear n0_ n1_ n2_ n3_
                      have p123 : 0 ≤ ((ji21) : Int) := of_decide_eq_true (by first | (with_reducible assumption) | assumption)
                      have q123 : (ji21) < (x5_1.length : Int) := of_decide_eq_true (by first | (with_reducible assumption) | assumption)
                      obtain ⟨ad123, A123_1, c123_1, e123, hx123_0, hx123_1, hl123_1, hi123_1⟩ := at_T34 (Kd.S_reads' HO_5.out).2.2 (ji21) p123 q123
                      obtain rfl : ad113 = ad123 := (by injection e123)
                      obtain ⟨ce123, hce123, hMe123, hcc123⟩ := Kd.S_get HO_5.out z34 (ji21) p123 (by first | exact q123 | exact of_decide_eq_true (by first | (with_reducible assumption) | assumption) | (have e_ := (Kd.S_reads' HO_5.out).1; omega))
                      obtain ⟨ve123_1, rfl, ge123_1⟩ := k34_openM hMe123
                      have hv123_1 := hcc123 1 _ rfl
                      rw [add_field _ _ 1 (by omega)] at hv123_1
                      replace hv123_1 := Option.some.inj (hv123_1.symm.trans hx123_1)
                      rw [hv123_1] at ge123_1
                      have HL123_1 := Aside0.mk (show Kd.R Kd.bool 4 _ _ _ _ ((rd_T34 x5_1 (ji21)).f1) from ge123_1)
                      clear hv123_1 ge123_1
                      have HX123_1 := Aside0.mk hx123_1
                      clear hcc123 hce123
                      have HR123_1 := Aside0.mk hi123_1
                      have HC123_1 := Aside0.mk hl123_1
                      clear hi123_1 hl123_1
                      replace p123 := eq_true p123
                      replace q123 := eq_true q123
                      have p124 : 0 ≤ (x6_1 : Int) := of_decide_eq_true (by first | (with_reducible assumption) | assumption)
                      have q124 : x6_1 < (l0.length : Int) := of_decide_eq_true (by first | (with_reducible assumption) | assumption)
                      obtain ⟨ad124, e124, hx124_0⟩ := Kd.at_bool HR0.out x6_1 p124 q124
                      have hw124_0 := hx124_0
                      cases e124
                      replace hx124_0 := (HB.out.cell (World.block_lt_of_cell? w _ hx124_0)).trans hx124_0
                      replace p124 := eq_true p124
                      replace q124 := eq_true q124
                      obtain ⟨go46, co46, eo46, gb46, gl46, cl46, HG46⟩ := Kd.S_form HO_5.out (by have h_ : ((ji21) : Int) < ((x5_1.length : Int) : Int) := of_decide_eq_true (by first | (with_reducible assumption) | assumption); have h2_ : 0 ≤ ((ji21) : Int) := (of_decide_eq_true (by first | (with_reducible assumption) | assumption)); omega)
                      (first | cases eo46 | (injection eo46 with ea_ en_ ec_; (first | subst ea_ | (injection ea_ with ea_; subst ea_)); subst ec_; clear en_))
                      have GB46 := Aside0.mk gb46
                      have GG46 := Aside0.mk HG46
                      clear gb46 gl46 HG46
                      (first | simp only [add_plain] at hx113_0 | skip)
                      (first | simp only [add_plain] at hx113_1 | skip)
                      (first | simp only [add_plain] at hx123_0 | skip)
                      (first | simp only [add_plain] at hx123_1 | skip)
                      obtain ⟨oki46, ce46, hcl46, hM46, hcc46, _, _, hH46⟩ := Kd.S_elem HO_5.out z34 ((ji21) : Int) (of_decide_eq_true (by first | (with_reducible assumption) | assumption)) (by have h_ : ((ji21) : Int) < ((x5_1.length : Int) : Int) := of_decide_eq_true (by first | (with_reducible assumption) | assumption); first | exact h_ | (have e_ := (Kd.S_reads' HO_5.out).1; omega) | simpa using h_)
                      obtain ⟨ve46_1, rfl, ge46_1⟩ := k34_openM hM46
                      have hv46 := hcc46 1 _ rfl
                      have hX46 := HX123_1.out
                      (try simp only [add_plain] at hX46)
                      (try simp only [Nat.add_zero] at hv46)
                      replace hv46 := Option.some.inj (hv46.symm.trans hX46)
                      subst hv46
                      clear hX46 hcc46 hcl46
                      have UU46 := Aside0.mk (show Kd.R Kd.bool 4 _ w.heap.size oki46 (.slice A123_1 ((rd_T34 x5_1 (ji21)).f1).length c123_1) ((rd_T34 x5_1 (ji21)).f1) from ge46_1)
                      have HH46 := Aside0.mk hH46
                      have HN46 := Aside0.mk (Kd.S_reads' HO_5.out).1
                      clear hH46 ge46_1
                      refine start_ (n := 16) (S := fun w' => w'.cell? ⟨go46, (((ji21)).toNat * 2), none⟩ = some (.int .i64 ((rd_T34 x5_1 (ji21)).f0)) ∧ w'.cell? ⟨go46, (((ji21)).toNat * 2) + 1, none⟩ = some (.slice A123_1 ((rd_T34 x5_1 (ji21)).f1).length c123_1) ∧ w'.cell? (ad124.add (x6_1).toNat) = some (.bool (rdOf false l0 x6_1))) (ds := [15]) #[false, false, false, false, false, false, false, false, false, false, false, false, false, false, false, false] (by kernel_rfl) rfl rfl ⟨hx123_0, hx123_1, ((HB.out.cell (World.block_lt_of_cell? w _ hw124_0)).trans hw124_0)⟩ (fun hHeld => ?_); refine with_tabW foghornref01_Pieces.tab10 foghornref01_Pieces.bits10 (fun HT_ HW_ => ?_)
                      (first | generalize wr.drew = w45 at HO_5 HL113_1 HR113_1 HB GG46 HH46 HL123_1 HR123_1 HX123_1 UU46 hx113_0 hx113_1 hx123_0 hx123_1 hx124_0 hHeld ⊢ | generalize wr.drew = w45 at *)
                      refine pure_ (i := 0) (N := some 38) (v := ?_) (a' := ?_) #[true, false, false, false, false, false, false, false, false, false, false, false, false, false, false, false] rfl rfl (any_of HT_.out (by kernel_rfl)) (fun _ _ _ h => h) (Or.inl ⟨by rfl, ?_⟩) ?_ ?_
                      rotate_left
                      · intro w'
                        go_simp
                        with_reducible rfl
                      rotate_left
                      · simp only [Act.put, List.setIfInBounds_toArray, List.set_cons_zero, List.set_cons_succ, i64_w, i32_w]
                        rfl
                      refine pure_ (i := 1) (N := some 39) (v := ?_) (a' := ?_) #[true, true, false, false, false, false, false, false, false, false, false, false, false, false, false, false] rfl rfl (any_of HT_.out (by kernel_rfl)) (fun _ _ _ h => h) (Or.inl ⟨by rfl, ?_⟩) ?_ ?_
                      rotate_left
                      · intro w'
                        go_simp
                        with_reducible rfl
                      rotate_left
                      · simp only [Act.put, List.setIfInBounds_toArray, List.set_cons_zero, List.set_cons_succ, i64_w, i32_w]
                        rfl
                      refine pure_ (i := 2) (N := some 40) (v := ?_) (a' := ?_) #[true, true, true, false, false, false, false, false, false, false, false, false, false, false, false, false] rfl rfl (any_of HT_.out (by kernel_rfl)) (fun _ _ _ h => h) (Or.inl ⟨by rfl, ?_⟩) ?_ ?_
                      rotate_left
                      · intro w'
                        go_simp
                        with_reducible rfl
                      rotate_left
                      · simp only [Act.put, List.setIfInBounds_toArray, List.set_cons_zero, List.set_cons_succ, i64_w, i32_w]
                        rfl
                      refine pure_ (i := 3) (N := some 41) (v := ?_) (a' := ?_) #[true, true, true, true, false, false, false, false, false, false, false, false, false, false, false, false] rfl rfl (any_of HT_.out (by kernel_rfl)) (fun _ _ _ h => h) (Or.inl ⟨by rfl, ?_⟩) ?_ ?_
                      rotate_left
                      · intro w'
                        go_simp
                        with_reducible rfl
                      rotate_left
                      · simp only [Act.put, List.setIfInBounds_toArray, List.set_cons_zero, List.set_cons_succ, i64_w, i32_w]
                        rfl
                      refine pure_ (i := 4) (N := some 42) (v := ?_) (a' := ?_) #[true, true, true, true, true, false, false, false, false, false, false, false, false, false, false, false] rfl rfl (any_of HT_.out (by kernel_rfl)) (fun _ _ _ h => h) (Or.inl ⟨by rfl, ?_⟩) ?_ ?_
                      rotate_left
                      · intro w'
                        go_simp
                        with_reducible rfl
                      rotate_left
                      · simp only [Act.put, List.setIfInBounds_toArray, List.set_cons_zero, List.set_cons_succ, i64_w, i32_w]
                        rfl
                      refine pure_ (i := 5) (N := some 43) (v := ?_) (a' := ?_) #[true, true, true, true, true, true, false, false, false, false, false, false, false, false, false, false] rfl rfl (any_of HT_.out (by kernel_rfl)) (fun _ _ _ h => h) (Or.inl ⟨by rfl, ?_⟩) ?_ ?_
                      rotate_left
                      · intro w'
                        go_simp
                        with_reducible rfl
                      rotate_left
                      · simp only [Act.put, List.setIfInBounds_toArray, List.set_cons_zero, List.set_cons_succ, i64_w, i32_w]
                        rfl
                      refine pure_ (i := 7) (N := some 45) (v := ?_) (a' := ?_) #[true, true, true, true, true, true, false, true, false, false, false, false, false, false, false, false] rfl rfl (any_of HT_.out (by kernel_rfl)) (fun _ _ _ h => h) (Or.inl ⟨by rfl, ?_⟩) ?_ ?_
                      rotate_left
                      · intro w'
                        go_simp
                        with_reducible rfl
                      rotate_left
                      · simp only [Act.put, List.setIfInBounds_toArray, List.set_cons_zero, List.set_cons_succ, i64_w, i32_w]
                        rfl
                      refine pure_ (i := 8) (N := some 46) (v := ?_) (a' := ?_) #[true, true, true, true, true, true, false, true, true, false, false, false, false, false, false, false] rfl rfl (any_of HT_.out (by kernel_rfl)) (fun _ _ _ h => h) (Or.inl ⟨by rfl, ?_⟩) ?_ ?_
                      rotate_left
                      · intro w'
                        go_simp
                        with_reducible rfl
                      rotate_left
                      · simp only [Act.put, List.setIfInBounds_toArray, List.set_cons_zero, List.set_cons_succ, i64_w, i32_w]
                        rfl
                      refine pure_ (i := 9) (N := some 47) (v := ?_) (a' := ?_) #[true, true, true, true, true, true, false, true, true, true, false, false, false, false, false, false] rfl rfl (any_of HT_.out (by kernel_rfl)) (fun _ _ _ h => h) (Or.inl ⟨by rfl, ?_⟩) ?_ ?_
                      rotate_left
                      · intro w'
                        go_simp
                        with_reducible rfl
                      rotate_left
                      · simp only [Act.put, List.setIfInBounds_toArray, List.set_cons_zero, List.set_cons_succ, i64_w, i32_w]
                        rfl
                      refine take_ (i := 6) (N := some 44) (v := ?_) (a' := ?_) #[true, true, true, true, true, true, true, true, true, true, false, false, false, false, false, false] rfl rfl (take_ofW HT_.out HW_.out (by kernel_rfl)) (fun _ _ _ h => h) (Or.inl ⟨by rfl, ?_⟩) hHeld ?_ ?_
                      rotate_left
                      · rintro w' ⟨s0, s1, s2⟩
                        go_simp
                        with_reducible rfl
                      rotate_left
                      · simp only [Act.put, List.setIfInBounds_toArray, List.set_cons_zero, List.set_cons_succ, i64_w, i32_w]
                        rfl
                      refine take_ (i := 10) (N := some 48) (v := ?_) (a' := ?_) #[true, true, true, true, true, true, true, true, true, true, true, false, false, false, false, false] rfl rfl (take_ofW HT_.out HW_.out (by kernel_rfl)) (fun _ _ _ h => h) (Or.inl ⟨by rfl, ?_⟩) hHeld ?_ ?_
                      rotate_left
                      · rintro w' ⟨s0, s1, s2⟩
                        go_simp
                        with_reducible rfl
                      rotate_left
                      · simp only [Act.put, List.setIfInBounds_toArray, List.set_cons_zero, List.set_cons_succ, i64_w, i32_w]
                        rfl
                      refine one_ (i := 11) (N := some 49) #[true, true, true, true, true, true, true, true, true, true, true, true, false, false, false, false] rfl rfl (one_of HT_.out (by kernel_rfl)) (by decide) (fun K hK => ?_)
                      refine value_ (w1 := ?_) (v := ?_) (by rfl) rfl ?_ ?_
                      rotate_left 2
                      · go_simp
                        constructor
                        · rfl
                        · rfl
                      refine hK.out _ _ ⟨(World.cell?_alloc_lt _ _ _ (World.block_lt_of_cell? _ _ (hHeld.1))).trans (hHeld.1), (World.cell?_alloc_lt _ _ _ (World.block_lt_of_cell? _ _ (hHeld.2.1))).trans (hHeld.2.1), (World.cell?_alloc_lt _ _ _ (World.block_lt_of_cell? _ _ (((HB.out.cell (World.block_lt_of_cell? w _ hw124_0)).trans hw124_0)))).trans (((HB.out.cell (World.block_lt_of_cell? w _ hw124_0)).trans hw124_0))⟩ (fun hHeld => ?_)
                      clear hK K
                      refine norm_ (a' := ?_) ?_ ?_
                      rotate_left
                      · show Act.put _ (some 49) _ = _
                        simp only [Act.put, List.setIfInBounds_toArray, List.set_cons_zero, List.set_cons_succ, i64_w, i32_w]
                        rfl
                      refine one_ (i := 12) (N := some 50) #[true, true, true, true, true, true, true, true, true, true, true, true, true, false, false, false] rfl rfl (one_of HT_.out (by kernel_rfl)) (by decide) (fun K hK => ?_)
                      refine Kd.R_append_step Kd.bool (w0 := w) w.heap.size (by rfl) (.tmp 44) (.tmp 49) 26 4 (.bool false) 1 rfl Try.underlying26 info4 rfl (by decide) (by omega) (.slice A123_1 ((rd_T34 x5_1 (ji21)).f1).length c123_1) ((rd_T34 x5_1 (ji21)).f1) (rdOf false l0 x6_1) [.bool (rdOf false l0 x6_1)] (fun k_ => oki46 k_ ∨ ((fun _ => True)) k_ ∧ w45.heap.size ≤ k_) (fun _ => False) rfl rfl ?aP (fun _ hk => hk.elim) ?aF ?aO ?aB ?aS ?aL ?_
                      (case aP => exact rfl)
                      (case aB => exact (by repeat (first | (with_reducible first | exact HB.out | apply below_alloc | apply pw_below_drewN | apply below_drew1) | exact HB.out)))
                      (case aF => exact (fun k_ hk => .inr ⟨trivial, hk⟩))
                      (case aO => exact (by (with_reducible repeat (first | apply Kd.R_alloc | apply Kd.R_drewN | apply Kd.R_drew)); exact Kd.R_mono UU46.out (fun _ hk => .inl hk)))
                      (case aS => exact (below_size (by repeat (first | (with_reducible first | exact HB.out | apply below_alloc | apply pw_below_drewN | apply below_drew1) | exact HB.out))))
                      (case aL => have := LMc42.out; omega)
                      intro v126 w47 ho hb hg hat
                      (first | have HS0_ := cell_grown hg (hHeld.1) (by first | (rw [add_block]; exact (fun e_ => ((HL123_1.out.1 _ e_.symm).2) rfl)) | (show some (Addr.add _ _).block ≠ _; rw [add_block]; exact (fun e_ => ((HL123_1.out.1 _ e_.symm).2) rfl)) | exact (fun e_ => ((HL123_1.out.1 _ e_.symm).2) rfl)) | have HS0_ := cell_grown hg (cell_unalloc (hHeld.1) (by first | (rw [add_block]; exact Kd.S_lt HO_5.out _ rfl) | (show (Addr.add _ _).block < _; rw [add_block]; exact Kd.S_lt HO_5.out _ rfl) | exact Kd.S_lt HO_5.out _ rfl)) (by first | (rw [add_block]; exact (fun e_ => ((HL123_1.out.1 _ e_.symm).2) rfl)) | (show some (Addr.add _ _).block ≠ _; rw [add_block]; exact (fun e_ => ((HL123_1.out.1 _ e_.symm).2) rfl)) | exact (fun e_ => ((HL123_1.out.1 _ e_.symm).2) rfl)))
                      (first | have HS1_ := cell_grown hg (hHeld.2.1) (by first | (rw [add_block]; exact (fun e_ => ((HL123_1.out.1 _ e_.symm).2) rfl)) | (show some (Addr.add _ _).block ≠ _; rw [add_block]; exact (fun e_ => ((HL123_1.out.1 _ e_.symm).2) rfl)) | exact (fun e_ => ((HL123_1.out.1 _ e_.symm).2) rfl)) | have HS1_ := cell_grown hg (cell_unalloc (hHeld.2.1) (by first | (rw [add_block]; exact Kd.S_lt HO_5.out _ rfl) | (show (Addr.add _ _).block < _; rw [add_block]; exact Kd.S_lt HO_5.out _ rfl) | exact Kd.S_lt HO_5.out _ rfl)) (by first | (rw [add_block]; exact (fun e_ => ((HL123_1.out.1 _ e_.symm).2) rfl)) | (show some (Addr.add _ _).block ≠ _; rw [add_block]; exact (fun e_ => ((HL123_1.out.1 _ e_.symm).2) rfl)) | exact (fun e_ => ((HL123_1.out.1 _ e_.symm).2) rfl)))
                      rw [← Ny125.out] at ho
                      have n0_ := Aside0.mk (hb)
                      have n1_ := Aside0.mk (Kd.H_grown (Kd.H_widen (by repeat (first | exact HH46.out | refine Kd.H_alloc ?_ _ | refine Kd.H_drewN ?_ _ | refine Kd.H_drew ?_))) hg (fun k_ e_ => .inl (UU46.out.1 k_ e_)))
                      have n2_ := Aside0.mk (ho)
                      clear HB
                      clear HH46
                      clear HO_5
                      clear UU46
                      clear HL113_1
                      clear HL123_1
                      have HB := n0_
                      have HH46 := n1_
                      have HO127 := n2_
                      clear n0_ n1_ n2_
                      clear ho hb hg hat
                      have p43 : 0 ≤ ((ji21) : Int) := of_decide_eq_true (by first | (with_reducible assumption) | assumption)
                      have q43 : ((ji21) : Int) < ((x5_1.length : Int) : Int) := of_decide_eq_true (by first | (with_reducible assumption) | assumption)
                      replace p43 := eq_true p43
                      replace q43 := eq_true q43
                      obtain ⟨Ao50, co50, eo50⟩ := Kd.R_slice HO127.out
                      (first | subst eo50 | (injection eo50 with f1_ f2_ f3_; have f4_ := f1_.symm; have f5_ := f3_.symm; clear f1_ f2_ f3_; subst f4_; subst f5_))
                      obtain ⟨_, _, hraw48, _, _, hcc48, _⟩ := Kd.H_raw HH46.out (of_decide_eq_true (by first | (with_reducible assumption) | assumption)) (by have h_ : ((ji21) : Int) < ((x5_1.length : Int) : Int) := of_decide_eq_true (by first | (with_reducible assumption) | assumption); first | exact h_ | (have e_ := (HN46.out); omega) | simpa using h_)
                      obtain ⟨_, hfr48⟩ := Kd.H_at HH46.out (of_decide_eq_true (by first | (with_reducible assumption) | assumption)) (by have h_ : ((ji21) : Int) < ((x5_1.length : Int) : Int) := of_decide_eq_true (by first | (with_reducible assumption) | assumption); first | exact h_ | (have e_ := (HN46.out); omega) | simpa using h_)
                      have hx48_0 := hcc48 1 _ rfl
                      have hf48_0 := hfr48 1
                      (try rw [show (k34).sz = 2 from rfl] at hx48_0)
                      (try rw [show (k34).sz = 2 from rfl] at hf48_0)
                      have HP48 := Kd.S_seg0 HH46.out (of_decide_eq_true (by first | (with_reducible assumption) | assumption)) (by have h_ : ((ji21) : Int) < ((x5_1.length : Int) : Int) := of_decide_eq_true (by first | (with_reducible assumption) | assumption); first | exact h_ | (have e_ := (HN46.out); omega) | simpa using h_) (seg := [.slice Ao50 y125.length co50]) (j := 1) (show 2 ≤ 2 from by decide) (x' := (⟨(rd_T34 x5_1 (ji21)).f0, y125⟩ : S34)) (k34_mkM _ _ _ (⟨(rd_T34 x5_1 (ji21)).f0, y125⟩ : S34) HO127.out) (fun _ hk => hk)
                      clear hcc48 hfr48
                      have HS48 := HP48.1
                      rw [← Ny128.out] at HS48
                      have HQ48 := Aside0.mk HS48
                      obtain ⟨_, hgg48⟩ := Kd.R_typed hraw48 go46 rfl
                      have GG48_ := Aside0.mk hgg48
                      clear HP48 HS48 hgg48
                      refine hK.out _ _ ⟨HS0_, HS1_, ((HB.out.cell (World.block_lt_of_cell? w _ hw124_0)).trans hw124_0)⟩ (fun hHeld => ?_)
                      clear hK K
                      refine norm_ (a' := ?_) ?_ ?_
                      rotate_left
                      · show Act.put _ (some 50) _ = _
                        simp only [Act.put, List.setIfInBounds_toArray, List.set_cons_zero, List.set_cons_succ, i64_w, i32_w]
                        rfl
                      refine pure_ (i := 13) (N := some 51) (v := ?_) (a' := ?_) #[true, true, true, true, true, true, true, true, true, true, true, true, true, true, false, false] rfl rfl (any_of HT_.out (by kernel_rfl)) (fun _ _ _ h => h) (Or.inl ⟨by rfl, ?_⟩) ?_ ?_
                      rotate_left
                      · intro w'
                        go_simp
                        with_reducible rfl
                      rotate_left
                      · simp only [Act.put, List.setIfInBounds_toArray, List.set_cons_zero, List.set_cons_succ, i64_w, i32_w]
                        rfl
                      refine pure_ (i := 14) (N := some 52) (v := ?_) (a' := ?_) #[true, true, true, true, true, true, true, true, true, true, true, true, true, true, true, false] rfl rfl (any_of HT_.out (by kernel_rfl)) (fun _ _ _ h => h) (Or.inl ⟨by rfl, ?_⟩) ?_ ?_
                      rotate_left
                      · intro w'
                        go_simp
                        with_reducible rfl
                      rotate_left
                      · simp only [Act.put, List.setIfInBounds_toArray, List.set_cons_zero, List.set_cons_succ, i64_w, i32_w]
                        rfl
                      refine last_ (i := 15) (N := none) #[true, true, true, true, true, true, true, true, true, true, true, true, true, true, true, true] rfl rfl (one_of HT_.out (by kernel_rfl)) (by decide) (fun K hK => ?_)
                      refine skip_ (w1 := ?_) (by rfl) rfl ?_ ?_
                      rotate_left
                      · go_simp
                        rfl
                      refine hK.out _ _ ?_
                      clear hK K
                      refine done_ (done_of HT_.out (by kernel_rfl)) ?_
                      try go_wp2
                      (first | go_roundg k1 | (simp only [add_plain] at *; go_roundg k1))
                      case measure => have := HK1.out; omega
                      case rel => exact ⟨(y128), (wrap64 (x6_1 + 1)), (by first | rfl | (simp; done) | (simp [*]; done) | (simp; omega) | (congr 1; omega) | (rw [hR_]; done) | (simp only [hR_]; done) | (simp [hR_]; done)), H', ⟨by have := HK1.out; omega⟩, ⟨by (with_reducible repeat (first | apply Kd.S_alloc | apply Kd.S_drewN | apply Kd.S_drew)); exact HQ48.out⟩, ⟨by repeat (first | (with_reducible first | exact HB.out | apply below_alloc | apply pw_below_drewN | apply below_drew1 | refine below_set ?_ GB46.out) | exact HB.out)⟩⟩
                    · rw [if_neg c42] at H
                      exact absurd H (by simp)
                  · rw [if_neg c41] at H
                    exact absurd H (by simp)
              · rw [if_neg c23] at H
                exact absurd H (by simp)
            · rw [if_neg c22] at H
              exact absurd H (by simp)
        · rw [if_neg c4] at H
          have c4b0 : decide (x6_1 < (l0.length : Int)) = false := decide_eq_false c4
          clear c4
          obtain rfl := Option.some.inj H
          go_wp2
          go_ret
          exact ⟨_, by first | rfl | (simp [errW_none, errW_some] <;> rfl) | (simp [*, errW_none, errW_some] <;> rfl), by (with_reducible repeat (first | apply Kd.S_alloc | apply Kd.S_drewN | apply Kd.S_drew)); exact HO_5.out, by repeat (first | (with_reducible first | exact HB.out | apply below_alloc | apply pw_below_drewN | apply below_drew1) | exact HB.out)⟩

end Go.Proofs.Ytabjfehhibeeiaa.Fog
