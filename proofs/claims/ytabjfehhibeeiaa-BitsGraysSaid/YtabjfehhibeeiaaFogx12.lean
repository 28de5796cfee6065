-- Written by fog.py, a program of this session, over the kit's print.
import Derived.Test.YtabjfehhibeeiaaFogx0
import Derived.Test.YtabjfehhibeeiaaFogx1
import Derived.Test.YtabjfehhibeeiaaFogx7
import Derived.Test.YtabjfehhibeeiaaHandRow
import Derived.Test.YtabjfehhibeeiaaHandWorks
namespace Go.Proofs.Ytabjfehhibeeiaa.Fog
open Go.RowKit Go.Proofs.YtabjfehhibeeiaaW.PrintWords Go.Proofs.YtabjfehhibeeiaaW.PrintLast Go.Proofs.YtabjfehhibeeiaaW.PrintMore
attribute [local go_sem] max2_int min2_int max_two min_two max_three min_three max_four min_four   -- for this text's walks alone
attribute [local go_sem] fog_signed_u8 fog_max_u8 fog_signed_u16 fog_max_u16 fog_signed_u32 fog_max_u32 fog_signed_u64 fog_max_u64
set_option linter.unusedVariables false
set_option linter.unusedSimpArgs false

/-! ### foghornlaw01_BitsRing: function 8 -/
mutual
def foghornlaw01_BitsRing.l0 : Nat → Int → Option (Bool)
  | 0, _ => none
  | k + 1, x1 => if x1 ≤ 16 then (if 0 ≤ x1 then (if 0 ≤ (shl .i64 1 x1) then (if (shl .i64 1 x1 : Int).toNat ≤ 281474976710656 then (foghornlaw01_BitsRing.l1 k x1 (shl .i64 1 x1) (List.replicate (shl .i64 1 x1 : Int).toNat false) 0) else (none)) else (none)) else (none)) else (some true)
def foghornlaw01_BitsRing.l1 : Nat → Int → Int → List Bool → Int → Option (Bool)
  | 0, _, _, _, _ => none
  | k + 1, x1, x2, x3, x4 => if x4 < x2 then ((bits_Gray.f x4).bind fun bt254 => (if x2 = 0 then (none) else ((bits_Gray.f (Int.tmod (wrap64 (x4 + 1)) x2)).bind fun bt256 => (if bt254.2 = 0 then (if bt256.2 = 0 then (if bt254.1 < 0 then (foghornlaw01_BitsRing.j2 k x1 x2 x3 x4 bt254.1 bt256.1 true) else (if bt254.1 ≥ x2 then (foghornlaw01_BitsRing.j2 k x1 x2 x3 x4 bt254.1 bt256.1 true) else (if bt256.1 < 0 then (foghornlaw01_BitsRing.j2 k x1 x2 x3 x4 bt254.1 bt256.1 true) else (if bt256.1 ≥ x2 then (foghornlaw01_BitsRing.j2 k x1 x2 x3 x4 bt254.1 bt256.1 true) else (if 0 ≤ bt254.1 then (if bt254.1 < (x3.length : Int) then (foghornlaw01_BitsRing.j2 k x1 x2 x3 x4 bt254.1 bt256.1 (rdOf false x3 bt254.1)) else (none)) else (none)))))) else (foghornlaw01_BitsRing.j2 k x1 x2 x3 x4 bt254.1 bt256.1 true)) else (foghornlaw01_BitsRing.j2 k x1 x2 x3 x4 bt254.1 bt256.1 true))))) else (foghornlaw01_BitsRing.l0 k (wrap64 (x1 + 1)))
def foghornlaw01_BitsRing.j2 : Nat → Int → Int → List Bool → Int → Int → Int → Bool → Option (Bool)
  | 0, _, _, _, _, _, _, _ => none
  | k + 1, x1, x2, x3, x4, x5, x7, x67 => if x67 = true then (some false) else (if 0 ≤ x5 then (if x5 < (x3.length : Int) then (if (Go.bits .xor .i64 x5 x7) = 0 then (some false) else (if (Go.bits .and .i64 (Go.bits .xor .i64 x5 x7) (wrap64 ((Go.bits .xor .i64 x5 x7) - 1))) = 0 then (foghornlaw01_BitsRing.l1 k x1 x2 (x3.set (x5 : Int).toNat true) (wrap64 (x4 + 1))) else (some false))) else (none)) else (none))
end
def foghornlaw01_BitsRing.f (k : Nat)  : Option (Bool) := (foghornlaw01_works.f).bind fun t250 => (if t250 = true then (foghornlaw01_BitsRing.l0 k 1) else (some false))
theorem foghornlaw01_BitsRing.mono_l : ∀ k, (∀ y0, LeO (foghornlaw01_BitsRing.l0 k y0) (foghornlaw01_BitsRing.l0 (k + 1) y0)) ∧ (∀ y0 y1 y2 y3, LeO (foghornlaw01_BitsRing.l1 k y0 y1 y2 y3) (foghornlaw01_BitsRing.l1 (k + 1) y0 y1 y2 y3)) ∧ (∀ y0 y1 y2 y3 y4 y5 y6, LeO (foghornlaw01_BitsRing.j2 k y0 y1 y2 y3 y4 y5 y6) (foghornlaw01_BitsRing.j2 (k + 1) y0 y1 y2 y3 y4 y5 y6))
  | 0 => ⟨fun _ r h => by simp [foghornlaw01_BitsRing.l0] at h, fun _ _ _ _ r h => by simp [foghornlaw01_BitsRing.l1] at h, fun _ _ _ _ _ _ _ r h => by simp [foghornlaw01_BitsRing.j2] at h⟩
  | k + 1 => by
    obtain ⟨ih0, ih1, ih2⟩ := foghornlaw01_BitsRing.mono_l k
    refine ⟨?_, ?_, ?_⟩
    · intro y0
      unfold foghornlaw01_BitsRing.l0
      repeat' first
      | (with_reducible exact ih0 _)
      | (with_reducible exact ih1 _ _ _ _)
      | (with_reducible exact ih2 _ _ _ _ _ _ _)
      | (with_reducible exact LeO.refl _)
      | (with_reducible exact LeO.none _)
      | (with_reducible refine LeO.ite ?_ ?_)
      | (with_reducible refine LeO.bind ?_ (fun _ => ?_))
      | exact ih0 _
      | exact ih1 _ _ _ _
      | exact ih2 _ _ _ _ _ _ _
      | exact LeO.none _
      | refine LeO.ite ?_ ?_
      | refine LeO.bind ?_ (fun _ => ?_)
    · intro y0 y1 y2 y3
      unfold foghornlaw01_BitsRing.l1
      repeat' first
      | (with_reducible exact ih0 _)
      | (with_reducible exact ih1 _ _ _ _)
      | (with_reducible exact ih2 _ _ _ _ _ _ _)
      | (with_reducible exact LeO.refl _)
      | (with_reducible exact LeO.none _)
      | (with_reducible refine LeO.ite ?_ ?_)
      | (with_reducible refine LeO.bind ?_ (fun _ => ?_))
      | exact ih0 _
      | exact ih1 _ _ _ _
      | exact ih2 _ _ _ _ _ _ _
      | exact LeO.none _
      | refine LeO.ite ?_ ?_
      | refine LeO.bind ?_ (fun _ => ?_)
    · intro y0 y1 y2 y3 y4 y5 y6
      unfold foghornlaw01_BitsRing.j2
      repeat' first
      | (with_reducible exact ih0 _)
      | (with_reducible exact ih1 _ _ _ _)
      | (with_reducible exact ih2 _ _ _ _ _ _ _)
      | (with_reducible exact LeO.refl _)
      | (with_reducible exact LeO.none _)
      | (with_reducible refine LeO.ite ?_ ?_)
      | (with_reducible refine LeO.bind ?_ (fun _ => ?_))
      | exact ih0 _
      | exact ih1 _ _ _ _
      | exact ih2 _ _ _ _ _ _ _
      | exact LeO.none _
      | refine LeO.ite ?_ ?_
      | refine LeO.bind ?_ (fun _ => ?_)
theorem foghornlaw01_BitsRing.mono : ∀ k, LeO (foghornlaw01_BitsRing.f k ) (foghornlaw01_BitsRing.f (k + 1) ) := by
  intro  k
  obtain ⟨ih0, ih1, ih2⟩ := foghornlaw01_BitsRing.mono_l k
  unfold foghornlaw01_BitsRing.f
  repeat' first
      | (with_reducible exact ih0 _)
      | (with_reducible exact ih1 _ _ _ _)
      | (with_reducible exact ih2 _ _ _ _ _ _ _)
      | (with_reducible exact LeO.refl _)
      | (with_reducible exact LeO.none _)
      | (with_reducible refine LeO.ite ?_ ?_)
      | (with_reducible refine LeO.bind ?_ (fun _ => ?_))
      | exact ih0 _
      | exact ih1 _ _ _ _
      | exact ih2 _ _ _ _ _ _ _
      | exact LeO.none _
      | refine LeO.ite ?_ ?_
      | refine LeO.bind ?_ (fun _ => ?_)
set_option maxHeartbeats 8000000 in
set_option maxRecDepth 100000 in
theorem foghornlaw01_BitsRing.calls (k : Nat)  (r : Bool) (w : World) (h : foghornlaw01_BitsRing.f k  = some r) (ho_ : r = true := by rfl) :
    Calls Try.prog 8 #[] w fun e w' => e = .returned (.bool r) ∧ Below w.heap.size w w' := by
  subst ho_
  have HB := Aside0.mk (Below.refl w.heap.size w)
  have H : ((foghornlaw01_works.f).bind fun t250 => (if t250 = true then (foghornlaw01_BitsRing.l0 k 1) else (some false))) = some true := h
  clear h
  replace H := Option.bind_eq_some_iff.mp H
  obtain ⟨t250, A10, H⟩ := H
  replace H : (if t250 = true then (foghornlaw01_BitsRing.l0 k 1) else (some false)) = some true := H
  have A1 := Aside0.mk A10
  clear A10
  by_cases c2 : t250 = true
  · subst c2
    have H1 : (foghornlaw01_BitsRing.l0 k 1) = some true := by rw [if_pos rfl] at H; exact H
    clear H
    have H := H1
    clear H1
    have H' := Aside0.mk H
    clear H
    go_enter Try.func8, Try.ntmps8
    go_wp2_with (first | ((with_reducible refine gate_callee (f := 45) rfl ?_); refine goesL_ (some 10) rfl rfl Try.func45 (by kernel_rfl) rfl #[] rfl (by (try simp only [List.map_toArray, List.map_cons, List.map_nil]); first | done | rfl | (simp only [List.length_drop, List.length_take]; rfl)) ?_; (with_reducible refine (foghornlaw01_works.calls  true _ A1.out).mono ?_); rintro e w3 ⟨rfl, hb⟩; refine ⟨_, rfl, ?_⟩; have n0_ := Aside0.mk (below_step (by repeat (first | (with_reducible first | exact HB.out | apply below_alloc | apply pw_below_drewN | apply below_drew1) | exact HB.out)) hb); clear HB; have HB := n0_; clear n0_; (try clear hb); (try clear hb2); (try clear hk); (try clear hi)))
    go_loopg [1] k (fun kq v1 w' => ∃ (x1_1 : Int), v1 = .int .i64 x1_1 ∧ Aside0 (foghornlaw01_BitsRing.l0 kq x1_1 = some true) ∧ Aside0 (kq ≤ k) ∧ Aside0 (Below w.heap.size w w'))
    case atStart => exact ⟨(1), (by first | rfl | (simp; done) | (simp [*]; done) | (simp; omega) | (congr 1; omega) | (rw [hR_]; done) | (simp only [hR_]; done) | (simp [hR_]; done)), H', ⟨Nat.le_refl _⟩, ⟨by repeat (first | (with_reducible first | exact HB.out | apply below_alloc | apply pw_below_drewN | apply below_drew1) | exact HB.out)⟩⟩
    case round =>
      clear H'
      try clear c2
      try clear p2
      obtain ⟨x1_1, rfl, HA, HK1, HB⟩ := hrel
      cases gk with
      | zero => exact absurd HA.out (by simp [foghornlaw01_BitsRing.l0])
      | succ k1 =>
        have H := HA.out
        clear HA
        simp only [foghornlaw01_BitsRing.l0] at H
        by_cases c4 : x1_1 ≤ 16
        · rw [if_pos c4] at H
          have c4b0 : decide (x1_1 ≤ 16) = true := decide_eq_true c4
          clear c4
          by_cases c5 : 0 ≤ x1_1
          · rw [if_pos c5] at H
            have c5b0 := eq_true c5
            have c5b1 : decide (0 ≤ x1_1) = true := decide_eq_true c5
            clear c5
            obtain ⟨ji6, hji6⟩ : ∃ j_ : Int, (shl .i64 1 x1_1) = j_ := ⟨_, rfl⟩
            replace H : (if 0 ≤ (ji6) then (if (ji6 : Int).toNat ≤ 281474976710656 then (foghornlaw01_BitsRing.l1 k1 x1_1 ji6 (List.replicate (ji6 : Int).toNat false) 0) else (none)) else (none)) = some true := by first | (rw [hji6] at H; exact H) | (simp only [hji6] at H ⊢; exact H)
            have hji6_ : (IntKind.i64.wrap (1 * 2 ^ min x1_1.toNat 64)) = ji6 := hji6
            have hji6z : x1_1 ≤ 64 → (IntKind.i64.wrap (1 * 2 ^ x1_1.toNat)) = ji6 := shl_small hji6
            have hji6u : (IntKind.i64.wrap (2 ^ min x1_1.toNat 64)) = ji6 := by have h_ := hji6_; rw [Int.one_mul] at h_; exact h_
            have hji6v : x1_1 ≤ 64 → (IntKind.i64.wrap (2 ^ x1_1.toNat)) = ji6 := fun hle_ => by have h_ := hji6z hle_; rw [Int.one_mul] at h_; exact h_
            have hji6y : (wrap64 (1 * 2 ^ min x1_1.toNat 64)) = ji6 := (i64_w _).symm.trans hji6_
            have hji6x : x1_1 ≤ 64 → (wrap64 (1 * 2 ^ x1_1.toNat)) = ji6 := fun h_ => (i64_w _).symm.trans (hji6z h_)
            by_cases c7 : 0 ≤ (ji6)
            · rw [if_pos c7] at H
              have c7b0 := eq_true c7
              have c7b1 : decide (0 ≤ (ji6)) = true := decide_eq_true c7
              clear c7
              by_cases c8 : (ji6 : Int).toNat ≤ 281474976710656
              · rw [if_pos c8] at H
                have c8b0 := eq_true c8
                have c8b1 : decide ((ji6 : Int).toNat ≤ 281474976710656) = true := decide_eq_true c8
                clear c8
                obtain ⟨y251, hy251⟩ : ∃ y_ : List Bool, y_ = (List.replicate (ji6 : Int).toNat false) := ⟨_, rfl⟩
                replace H : (foghornlaw01_BitsRing.l1 k1 x1_1 ji6 y251 0) = some true := by first | (rw [hy251]; with_reducible exact H) | (have H2_ := (Option.bind_some _ _).symm.trans H; rw [hy251]; with_reducible exact H2_) | (have H2_ := (Option.bind_some _ _).symm.trans H; with_reducible exact H2_) | with_reducible exact H | (rw [hy251]; exact H) | exact H
                have Ny251 := Aside0.mk hy251
                clear hy251
                have H' := Aside0.mk H
                clear H
                go_wp2_with (first | ((with_reducible refine gate_dst (N := 19) rfl ?_); refine Kd.R_make Kd.bool _ 4 rfl (N := 19) rfl 26 _ _ rfl ji6 rfl rfl Try.underlying26 (.bool false) 1 info4 rfl (by decide) (by omega) false (ok := fun _ => True) (okp := fun _ => True) rfl (fun _ hk => hk) trivial (of_decide_eq_true (by first | (with_reducible assumption) | assumption)) (Nat.le_trans (Nat.mul_le_mul_right _ (of_decide_eq_true (by first | (with_reducible assumption) | assumption) : ji6.toNat ≤ 281474976710656)) (by omega)) (Below.refl _ _) (Nat.le_refl _) ?_; intro v252 w9 ho10 hb hg_ hnew_; clear hg_ hnew_; (first | rw [← Ny251.out] at ho10 | (simp only [Int.reduceToNat] at ho10; rw [← Ny251.out] at ho10)); have n0_ := Aside0.mk (Kd.R_lower ho10 (below_size (by repeat (first | (with_reducible first | exact HB.out | apply below_alloc | apply pw_below_drewN | apply below_drew1) | exact HB.out)))); have n1_ := Aside0.mk (below_step (by repeat (first | (with_reducible first | exact HB.out | apply below_alloc | apply pw_below_drewN | apply below_drew1) | exact HB.out)) hb); clear HB; have HO253 := n0_; have HB := n1_; clear n0_ n1_; clear hb ho10))
                go_loopg [4] k1 (fun kq v4 w' => ∃ (x3_2 : List Bool) (x4_2 : Int), v4 = .int .i64 x4_2 ∧ Aside0 (foghornlaw01_BitsRing.l1 kq x1_1 ji6 x3_2 x4_2 = some true) ∧ Aside0 (kq ≤ k1) ∧ Aside0 (Kd.R Kd.bool 4 w' w.heap.size (fun _ => True) v252 x3_2) ∧ Aside0 (Below w.heap.size w w'))
                case atStart => exact ⟨(y251), (0), (by first | rfl | (simp; done) | (simp [*]; done) | (simp; omega) | (congr 1; omega) | (rw [hR_]; done) | (simp only [hR_]; done) | (simp [hR_]; done)), H', ⟨Nat.le_refl _⟩, ⟨by (with_reducible repeat (first | apply Kd.R_alloc | apply Kd.R_drewN | apply Kd.R_drew)); exact HO253.out⟩, ⟨by repeat (first | (with_reducible first | exact HB.out | apply below_alloc | apply pw_below_drewN | apply below_drew1) | exact HB.out)⟩⟩
                case round =>
                  clear H'
                  try clear c2
                  try clear p2
                  try clear c4
                  try clear c4b0
                  try clear c5
                  try clear c5b0
                  try clear c5b1
                  try clear p6
                  try clear c7
                  try clear c7b0
                  try clear c7b1
                  try clear c8
                  try clear c8b0
                  try clear c8b1
                  try clear p2
                  obtain ⟨x3_2, x4_2, rfl, HA, HK2, HO_3, HB⟩ := hrel
                  cases gk with
                  | zero => exact absurd HA.out (by simp [foghornlaw01_BitsRing.l1])
                  | succ k2 =>
                    have H := HA.out
                    clear HA
                    simp only [foghornlaw01_BitsRing.l1] at H
                    by_cases c11 : x4_2 < ji6
                    · rw [if_pos c11] at H
                      have c11b0 : decide (x4_2 < ji6) = true := decide_eq_true c11
                      clear c11
                      replace H := Option.bind_eq_some_iff.mp H
                      obtain ⟨⟨t254, t255⟩, A120, H⟩ := H
                      replace H : (if ji6 = 0 then (none) else ((bits_Gray.f (Int.tmod (wrap64 (x4_2 + 1)) ji6)).bind fun bt256 => (if t255 = 0 then (if bt256.2 = 0 then (if t254 < 0 then (foghornlaw01_BitsRing.j2 k2 x1_1 ji6 x3_2 x4_2 t254 bt256.1 true) else (if t254 ≥ ji6 then (foghornlaw01_BitsRing.j2 k2 x1_1 ji6 x3_2 x4_2 t254 bt256.1 true) else (if bt256.1 < 0 then (foghornlaw01_BitsRing.j2 k2 x1_1 ji6 x3_2 x4_2 t254 bt256.1 true) else (if bt256.1 ≥ ji6 then (foghornlaw01_BitsRing.j2 k2 x1_1 ji6 x3_2 x4_2 t254 bt256.1 true) else (if 0 ≤ t254 then (if t254 < (x3_2.length : Int) then (foghornlaw01_BitsRing.j2 k2 x1_1 ji6 x3_2 x4_2 t254 bt256.1 (rdOf false x3_2 t254)) else (none)) else (none)))))) else (foghornlaw01_BitsRing.j2 k2 x1_1 ji6 x3_2 x4_2 t254 bt256.1 true)) else (foghornlaw01_BitsRing.j2 k2 x1_1 ji6 x3_2 x4_2 t254 bt256.1 true)))) = some true := H
                      have A12 := Aside0.mk A120
                      clear A120
                      by_cases c13 : ji6 = 0
                      · rw [if_pos c13] at H
                        exact absurd H (by simp)
                      · rw [if_neg c13] at H
                        have c13b0 : (ji6 == 0) = false := beq_eq_false_iff_ne.mpr c13
                        have c13b1 : (ji6 != 0) = true := bne_iff_ne.mpr c13
                        replace H := Option.bind_eq_some_iff.mp H
                        obtain ⟨⟨t256, t257⟩, A140, H⟩ := H
                        replace H : (if t255 = 0 then (if t257 = 0 then (if t254 < 0 then (foghornlaw01_BitsRing.j2 k2 x1_1 ji6 x3_2 x4_2 t254 t256 true) else (if t254 ≥ ji6 then (foghornlaw01_BitsRing.j2 k2 x1_1 ji6 x3_2 x4_2 t254 t256 true) else (if t256 < 0 then (foghornlaw01_BitsRing.j2 k2 x1_1 ji6 x3_2 x4_2 t254 t256 true) else (if t256 ≥ ji6 then (foghornlaw01_BitsRing.j2 k2 x1_1 ji6 x3_2 x4_2 t254 t256 true) else (if 0 ≤ t254 then (if t254 < (x3_2.length : Int) then (foghornlaw01_BitsRing.j2 k2 x1_1 ji6 x3_2 x4_2 t254 t256 (rdOf false x3_2 t254)) else (none)) else (none)))))) else (foghornlaw01_BitsRing.j2 k2 x1_1 ji6 x3_2 x4_2 t254 t256 true)) else (foghornlaw01_BitsRing.j2 k2 x1_1 ji6 x3_2 x4_2 t254 t256 true)) = some true := H
                        have A14 := Aside0.mk A140
                        clear A140
                        have HC15 := Aside0.mk H
                        clear H
                        go_upto_region 13 with (first | ((with_reducible refine gate_callee (f := 14) rfl ?_); refine goesL_ (some 27) rfl rfl Try.func14 (by kernel_rfl) rfl #[.int .i64 x4_2] rfl (by (try simp only [List.map_toArray, List.map_cons, List.map_nil]); first | done | rfl | (simp only [List.length_drop, List.length_take]; rfl)) ?_; (with_reducible refine (bits_Gray.calls x4_2 t254 t255 _ A12.out).mono ?_); rintro e w' ⟨rfl, ⟨nd, rfl⟩⟩; refine ⟨_, rfl, ?_⟩) | ((with_reducible refine gate_callee (f := 14) rfl ?_); refine goesL_ (some 35) rfl rfl Try.func14 (by kernel_rfl) rfl #[.int .i64 (Int.tmod (wrap64 (x4_2 + 1)) ji6)] rfl (by (try simp only [List.map_toArray, List.map_cons, List.map_nil]); first | done | (simp only [hji6]; rfl) | rfl | (simp only [List.length_drop, List.length_take]; rfl)) ?_; (with_reducible refine (bits_Gray.calls (Int.tmod (wrap64 (x4_2 + 1)) ji6) t256 t257 _ A14.out).mono ?_); rintro e w' ⟨rfl, ⟨nd, rfl⟩⟩; refine ⟨_, rfl, ?_⟩))
                        (try simp only [Act.put, List.setIfInBounds_toArray, List.set_cons_zero, List.set_cons_succ])
                        go_cut [67] (fun v67 wc => ∃ (kq : Nat) (x67_14 : Bool), v67 = .bool x67_14 ∧ Aside0 (foghornlaw01_BitsRing.j2 kq x1_1 ji6 x3_2 x4_2 t254 t256 x67_14 = some true) ∧ Aside0 (kq ≤ k2) ∧ Aside0 (Kd.R Kd.bool 4 wc w.heap.size (fun _ => True) v252 x3_2) ∧ Aside0 (Below w.heap.size w wc))
                        case first =>
                          have H := HC15.out
                          clear HC15
                          by_cases c16 : t255 = 0
                          · rw [if_pos c16] at H
                            have c16b0 : (t255 == 0) = true := beq_iff_eq.mpr c16
                            have c16b1 : (t255 != 0) = false := bne_eq_false_iff_eq.mpr c16
                            clear c16
                            (first | rw [c16b0] | (simp only [i64_w, i32_w]; rw [c16b0]) | skip)
                            by_cases c17 : t257 = 0
                            · rw [if_pos c17] at H
                              have c17b0 : (t257 == 0) = true := beq_iff_eq.mpr c17
                              have c17b1 : (t257 != 0) = false := bne_eq_false_iff_eq.mpr c17
                              clear c17
                              by_cases c18 : t254 < 0
                              · rw [if_pos c18] at H
                                have c18b0 : decide (t254 < 0) = true := decide_eq_true c18
                                clear c18
                                have H' := Aside0.mk H
                                clear H
                                go_wp2
                                go_meet
                                case rel => exact ⟨_, (true), (by first | rfl | (simp; done) | (simp [*]; done) | (simp; omega) | (congr 1; omega) | (rw [hR_]; done) | (simp only [hR_]; done) | (simp [hR_]; done)), H', ⟨by have := HK1.out; have := HK2.out; first | omega | exact Nat.le_refl _⟩, ⟨by (with_reducible repeat (first | apply Kd.R_alloc | apply Kd.R_drewN | apply Kd.R_drew)); exact HO_3.out⟩, ⟨by repeat (first | (with_reducible first | exact HB.out | apply below_alloc | apply pw_below_drewN | apply below_drew1) | exact HB.out)⟩⟩
                              · rw [if_neg c18] at H
                                have c18b0 : decide (t254 < 0) = false := decide_eq_false c18
                                clear c18
                                by_cases c19 : t254 ≥ ji6
                                · rw [if_pos c19] at H
                                  have c19b0 : decide (ji6 ≤ t254) = true := decide_eq_true c19
                                  clear c19
                                  have H' := Aside0.mk H
                                  clear H
                                  go_wp2
                                  go_meet
                                  case rel => exact ⟨_, (true), (by first | rfl | (simp; done) | (simp [*]; done) | (simp; omega) | (congr 1; omega) | (rw [hR_]; done) | (simp only [hR_]; done) | (simp [hR_]; done)), H', ⟨by have := HK1.out; have := HK2.out; first | omega | exact Nat.le_refl _⟩, ⟨by (with_reducible repeat (first | apply Kd.R_alloc | apply Kd.R_drewN | apply Kd.R_drew)); exact HO_3.out⟩, ⟨by repeat (first | (with_reducible first | exact HB.out | apply below_alloc | apply pw_below_drewN | apply below_drew1) | exact HB.out)⟩⟩
                                · rw [if_neg c19] at H
                                  have c19b0 : decide (ji6 ≤ t254) = false := decide_eq_false c19
                                  clear c19
                                  by_cases c20 : t256 < 0
                                  · rw [if_pos c20] at H
                                    have c20b0 : decide (t256 < 0) = true := decide_eq_true c20
                                    clear c20
                                    have H' := Aside0.mk H
                                    clear H
                                    go_wp2
                                    go_meet
                                    case rel => exact ⟨_, (true), (by first | rfl | (simp; done) | (simp [*]; done) | (simp; omega) | (congr 1; omega) | (rw [hR_]; done) | (simp only [hR_]; done) | (simp [hR_]; done)), H', ⟨by have := HK1.out; have := HK2.out; first | omega | exact Nat.le_refl _⟩, ⟨by (with_reducible repeat (first | apply Kd.R_alloc | apply Kd.R_drewN | apply Kd.R_drew)); exact HO_3.out⟩, ⟨by repeat (first | (with_reducible first | exact HB.out | apply below_alloc | apply pw_below_drewN | apply below_drew1) | exact HB.out)⟩⟩
                                  · rw [if_neg c20] at H
                                    have c20b0 : decide (t256 < 0) = false := decide_eq_false c20
                                    clear c20
                                    by_cases c21 : t256 ≥ ji6
                                    · rw [if_pos c21] at H
                                      have c21b0 : decide (ji6 ≤ t256) = true := decide_eq_true c21
                                      clear c21
                                      have H' := Aside0.mk H
                                      clear H
                                      go_wp2
                                      go_meet
                                      case rel => exact ⟨_, (true), (by first | rfl | (simp; done) | (simp [*]; done) | (simp; omega) | (congr 1; omega) | (rw [hR_]; done) | (simp only [hR_]; done) | (simp [hR_]; done)), H', ⟨by have := HK1.out; have := HK2.out; first | omega | exact Nat.le_refl _⟩, ⟨by (with_reducible repeat (first | apply Kd.R_alloc | apply Kd.R_drewN | apply Kd.R_drew)); exact HO_3.out⟩, ⟨by repeat (first | (with_reducible first | exact HB.out | apply below_alloc | apply pw_below_drewN | apply below_drew1) | exact HB.out)⟩⟩
                                    · rw [if_neg c21] at H
                                      have c21b0 : decide (ji6 ≤ t256) = false := decide_eq_false c21
                                      clear c21
                                      by_cases c22 : 0 ≤ t254
                                      · rw [if_pos c22] at H
                                        have c22b0 : decide (0 ≤ t254) = true := decide_eq_true c22
                                        clear c22
                                        by_cases c23 : t254 < (x3_2.length : Int)
                                        · rw [if_pos c23] at H
                                          have c23b0 : decide (t254 < (x3_2.length : Int)) = true := decide_eq_true c23
                                          clear c23
                                          have H' := Aside0.mk H
                                          clear H
                                          obtain ⟨Ao24, co24, eo24⟩ := Kd.R_slice HO_3.out
                                          subst eo24
                                          have p258 : 0 ≤ (t254 : Int) := of_decide_eq_true (by first | (with_reducible assumption) | assumption)
                                          have q258 : t254 < (x3_2.length : Int) := of_decide_eq_true (by first | (with_reducible assumption) | assumption)
                                          obtain ⟨ad258, e258, hx258_0⟩ := Kd.at_bool (Kd.R_reads' HO_3.out).2.2 t254 p258 q258
                                          cases e258
                                          replace p258 := eq_true p258
                                          replace q258 := eq_true q258
                                          go_wp2
                                          go_meet
                                          case rel => exact ⟨_, (rdOf false x3_2 t254), (by first | rfl | (simp; done) | (simp [*]; done) | (simp; omega) | (congr 1; omega) | (rw [hR_]; done) | (simp only [hR_]; done) | (simp [hR_]; done)), H', ⟨by have := HK1.out; have := HK2.out; first | omega | exact Nat.le_refl _⟩, ⟨by (with_reducible repeat (first | apply Kd.R_alloc | apply Kd.R_drewN | apply Kd.R_drew)); exact HO_3.out⟩, ⟨by repeat (first | (with_reducible first | exact HB.out | apply below_alloc | apply pw_below_drewN | apply below_drew1) | exact HB.out)⟩⟩
                                        · rw [if_neg c23] at H
                                          exact absurd H (by simp)
                                      · rw [if_neg c22] at H
                                        exact absurd H (by simp)
                            · rw [if_neg c17] at H
                              have c17b0 : (t257 == 0) = false := beq_eq_false_iff_ne.mpr c17
                              have c17b1 : (t257 != 0) = true := bne_iff_ne.mpr c17
                              have H' := Aside0.mk H
                              clear H
                              go_wp2
                              go_meet
                              case rel => exact ⟨_, (true), (by first | rfl | (simp; done) | (simp [*]; done) | (simp; omega) | (congr 1; omega) | (rw [hR_]; done) | (simp only [hR_]; done) | (simp [hR_]; done)), H', ⟨by have := HK1.out; have := HK2.out; first | omega | exact Nat.le_refl _⟩, ⟨by (with_reducible repeat (first | apply Kd.R_alloc | apply Kd.R_drewN | apply Kd.R_drew)); exact HO_3.out⟩, ⟨by repeat (first | (with_reducible first | exact HB.out | apply below_alloc | apply pw_below_drewN | apply below_drew1) | exact HB.out)⟩⟩
                          · rw [if_neg c16] at H
                            have c16b0 : (t255 == 0) = false := beq_eq_false_iff_ne.mpr c16
                            have c16b1 : (t255 != 0) = true := bne_iff_ne.mpr c16
                            (first | rw [c16b0] | (simp only [i64_w, i32_w]; rw [c16b0]) | skip)
                            have H' := Aside0.mk H
                            clear H
                            go_wp2
                            go_meet
                            case rel => exact ⟨_, (true), (by first | rfl | (simp; done) | (simp [*]; done) | (simp; omega) | (congr 1; omega) | (rw [hR_]; done) | (simp only [hR_]; done) | (simp [hR_]; done)), H', ⟨by have := HK1.out; have := HK2.out; first | omega | exact Nat.le_refl _⟩, ⟨by (with_reducible repeat (first | apply Kd.R_alloc | apply Kd.R_drewN | apply Kd.R_drew)); exact HO_3.out⟩, ⟨by repeat (first | (with_reducible first | exact HB.out | apply below_alloc | apply pw_below_drewN | apply below_drew1) | exact HB.out)⟩⟩
                        case rest =>
                          clear HC15
                          try clear c1
                          try clear c2
                          try clear p2
                          try clear q2
                          try clear hx2
                          try clear c4
                          try clear c4b0
                          try clear c5
                          try clear c5b0
                          try clear c5b1
                          try clear p6
                          try clear c7
                          try clear c7b0
                          try clear c7b1
                          try clear c8
                          try clear c8b0
                          try clear c8b1
                          try clear c11
                          try clear c11b0
                          try clear c13
                          try clear c13b0
                          try clear c13b1
                          try clear c14
                          try clear c16
                          try clear c16b0
                          try clear c16b1
                          try clear c17
                          try clear c17b0
                          try clear c17b1
                          try clear c18
                          try clear c18b0
                          try clear c19
                          try clear c19b0
                          try clear c20
                          try clear c20b0
                          try clear c21
                          try clear c21b0
                          try clear c22
                          try clear c22b0
                          try clear c23
                          try clear c23b0
                          try clear hx258_0
                          try clear p2
                          try clear p258
                          try clear p6
                          try clear q258
                          obtain ⟨kq, x67_14, rfl, HA, HJ14, HO_3, HB⟩ := hcut
                          cases kq with
                          | zero => exact absurd HA.out (by simp [foghornlaw01_BitsRing.j2])
                          | succ kj14 =>
                            have H := HA.out
                            clear HA
                            simp only [foghornlaw01_BitsRing.j2] at H
                            by_cases c25 : x67_14 = true
                            · subst c25
                              have H1 : (some false) = some true := by rw [if_pos rfl] at H; exact H
                              clear H
                              have H := H1
                              clear H1
                              exact absurd H (by simp)
                            · replace c25 := Bool.eq_false_iff.mpr c25
                              subst c25
                              have H1 : (if 0 ≤ t254 then (if t254 < (x3_2.length : Int) then (if (Go.bits .xor .i64 t254 t256) = 0 then (some false) else (if (Go.bits .and .i64 (Go.bits .xor .i64 t254 t256) (wrap64 ((Go.bits .xor .i64 t254 t256) - 1))) = 0 then (foghornlaw01_BitsRing.l1 kj14 x1_1 ji6 (x3_2.set (t254 : Int).toNat true) (wrap64 (x4_2 + 1))) else (some false))) else (none)) else (none)) = some true := by rw [if_neg (show ¬ (false = true) by decide)] at H; exact H
                              clear H
                              have H := H1
                              clear H1
                              by_cases c26 : 0 ≤ t254
                              · rw [if_pos c26] at H
                                have c26b0 : decide (0 ≤ t254) = true := decide_eq_true c26
                                clear c26
                                by_cases c27 : t254 < (x3_2.length : Int)
                                · rw [if_pos c27] at H
                                  have c27b0 : decide (t254 < (x3_2.length : Int)) = true := decide_eq_true c27
                                  clear c27
                                  obtain ⟨y259, hy259⟩ : ∃ y_ : List Bool, y_ = (x3_2.set (t254 : Int).toNat true) := ⟨_, rfl⟩
                                  replace H : (if (Go.bits .xor .i64 t254 t256) = 0 then (some false) else (if (Go.bits .and .i64 (Go.bits .xor .i64 t254 t256) (wrap64 ((Go.bits .xor .i64 t254 t256) - 1))) = 0 then (foghornlaw01_BitsRing.l1 kj14 x1_1 ji6 y259 (wrap64 (x4_2 + 1))) else (some false))) = some true := by first | (rw [hy259]; with_reducible exact H) | (have H2_ := (Option.bind_some _ _).symm.trans H; rw [hy259]; with_reducible exact H2_) | (have H2_ := (Option.bind_some _ _).symm.trans H; with_reducible exact H2_) | with_reducible exact H | (rw [hy259]; exact H) | exact H
                                  have Ny259 := Aside0.mk hy259
                                  clear hy259
                                  by_cases c29 : (Go.bits .xor .i64 t254 t256) = 0
                                  · rw [if_pos c29] at H
                                    have c29b0 : ((Go.bits .xor .i64 t254 t256) == 0) = true := beq_iff_eq.mpr c29
                                    have c29b1 : ((Go.bits .xor .i64 t254 t256) != 0) = false := bne_eq_false_iff_eq.mpr c29
                                    clear c29
                                    exact absurd H (by simp)
                                  · rw [if_neg c29] at H
                                    have c29b0 : ((Go.bits .xor .i64 t254 t256) == 0) = false := beq_eq_false_iff_ne.mpr c29
                                    have c29b1 : ((Go.bits .xor .i64 t254 t256) != 0) = true := bne_iff_ne.mpr c29
                                    by_cases c30 : (Go.bits .and .i64 (Go.bits .xor .i64 t254 t256) (wrap64 ((Go.bits .xor .i64 t254 t256) - 1))) = 0
                                    · rw [if_pos c30] at H
                                      have c30b0 : ((Go.bits .and .i64 (Go.bits .xor .i64 t254 t256) (wrap64 ((Go.bits .xor .i64 t254 t256) - 1))) == 0) = true := beq_iff_eq.mpr c30
                                      have c30b1 : ((Go.bits .and .i64 (Go.bits .xor .i64 t254 t256) (wrap64 ((Go.bits .xor .i64 t254 t256) - 1))) != 0) = false := bne_eq_false_iff_eq.mpr c30
                                      clear c30
                                      have H' := Aside0.mk H
                                      clear H
                                      have p28 : 0 ≤ (t254 : Int) := of_decide_eq_true (by first | (with_reducible assumption) | assumption)
                                      have q28 : (t254 : Int) < ((x3_2.length : Int) : Int) := of_decide_eq_true (by first | (with_reducible assumption) | assumption)
                                      obtain ⟨go28, co28, eo28, gb28, gl28, cl28, HG28⟩ := Kd.R_form HO_3.out (by omega)
                                      (first | cases eo28 | (injection eo28 with ea_ en_ ec_; (first | subst ea_ | (injection ea_ with ea_; subst ea_)); subst ec_; clear en_))
                                      have GB28 := Aside0.mk gb28
                                      have GG28 := Aside0.mk HG28
                                      clear gb28 gl28 HG28
                                      obtain ⟨hx28_0, hf28_0⟩ := Kd.R_celln false HO_3.out (t254 : Int) p28 q28
                                      replace p28 := eq_true p28
                                      replace q28 := eq_true q28
                                      have HP31 := Kd.R_putg HO_3.out (t254 : Int) true
                                      go_wp2_with (first | ((with_reducible refine gate_store (t := 4) (p := 70) rfl ?_); refine store_event (t := 4) (p := 70) (v := ?vo_w32) (w1 := (wc.setCell ⟨go28, (t254 : Int).toNat, none⟩ (.bool true))) ?hg ?ho ?hn ?hr ?_; (case ho => rfl); (case hg => rfl); (case hn => rfl); (case hr => first | (go_simp; done) | (go_simp; rfl)); intro w32 hw; have hg : wc.grownBy w32 (some go28) := (by rw [hw]; exact HP31.2); have hp_ : Kd.R Kd.bool 4 w32 w.heap.size (fun _ => True) (.slice (some ⟨go28, 0, none⟩) x3_2.length co28) y259 := (by rw [hw, Ny259.out]; exact HP31.1); clear HP31; have n0_ := Aside0.mk (hp_); have n1_ := Aside0.mk ((by rw [hw]; exact below_set (HB.out) GB28.out : Below w.heap.size w w32)); clear HO_3; clear HB; have HO_3 := n0_; have HB := n1_; clear n0_ n1_; clear hg hw hp_))
                                      (first | go_roundg kj14 | (simp only [add_plain] at *; go_roundg kj14))
                                      case measure => have := HK1.out; have := HK2.out; have := HJ14.out; omega
                                      case rel => exact ⟨(y259), (wrap64 (x4_2 + 1)), (by first | rfl | (simp; done) | (simp [*]; done) | (simp; omega) | (congr 1; omega) | (rw [hR_]; done) | (simp only [hR_]; done) | (simp [hR_]; done)), H', ⟨by have := HK1.out; have := HK2.out; have := HJ14.out; omega⟩, ⟨by (with_reducible repeat (first | apply Kd.R_alloc | apply Kd.R_drewN | apply Kd.R_drew)); exact HO_3.out⟩, ⟨by repeat (first | (with_reducible first | exact HB.out | apply below_alloc | apply pw_below_drewN | apply below_drew1) | exact HB.out)⟩⟩
                                    · rw [if_neg c30] at H
                                      have c30b0 : ((Go.bits .and .i64 (Go.bits .xor .i64 t254 t256) (wrap64 ((Go.bits .xor .i64 t254 t256) - 1))) == 0) = false := beq_eq_false_iff_ne.mpr c30
                                      have c30b1 : ((Go.bits .and .i64 (Go.bits .xor .i64 t254 t256) (wrap64 ((Go.bits .xor .i64 t254 t256) - 1))) != 0) = true := bne_iff_ne.mpr c30
                                      exact absurd H (by simp)
                                · rw [if_neg c27] at H
                                  exact absurd H (by simp)
                              · rw [if_neg c26] at H
                                exact absurd H (by simp)
                    · rw [if_neg c11] at H
                      have c11b0 : decide (x4_2 < ji6) = false := decide_eq_false c11
                      clear c11
                      have H' := Aside0.mk H
                      clear H
                      go_wp2
                      (first | go_roundg k2 | (simp only [add_plain] at *; go_roundg k2))
                      case measure => have := HK1.out; have := HK2.out; omega
                      case rel => exact ⟨(wrap64 (x1_1 + 1)), (by first | rfl | (simp; done) | (simp [*]; done) | (simp; omega) | (congr 1; omega) | (rw [hR_]; done) | (simp only [hR_]; done) | (simp [hR_]; done)), H', ⟨by have := HK1.out; have := HK2.out; omega⟩, ⟨by repeat (first | (with_reducible first | exact HB.out | apply below_alloc | apply pw_below_drewN | apply below_drew1) | exact HB.out)⟩⟩
              · rw [if_neg c8] at H
                exact absurd H (by simp)
            · rw [if_neg c7] at H
              exact absurd H (by simp)
          · rw [if_neg c5] at H
            exact absurd H (by simp)
        · rw [if_neg c4] at H
          have c4b0 : decide (x1_1 ≤ 16) = false := decide_eq_false c4
          clear c4
          clear H
          go_wp2
          go_ret
          exact ⟨by first | rfl | (simp [errW_none, errW_some] <;> rfl) | (simp [*, errW_none, errW_some] <;> rfl), by repeat (first | (with_reducible first | exact HB.out | apply below_alloc | apply pw_below_drewN | apply below_drew1) | exact HB.out)⟩
  · replace c2 := Bool.eq_false_iff.mpr c2
    subst c2
    have H1 : (some false) = some true := by rw [if_neg (show ¬ (false = true) by decide)] at H; exact H
    clear H
    have H := H1
    clear H1
    exact absurd H (by simp)

/-- THE ONE PURE STATEMENT of foghornlaw01_BitsRing: yours. -/
def foghornlaw01_BitsRing.Pure : Prop := ∃ k, foghornlaw01_BitsRing.f k  = some true
theorem foghornlaw01_BitsRing.walk (P : foghornlaw01_BitsRing.Pure)  (w : World)  :
    Calls Try.prog 8 #[] w fun e w' => e = .returned (.bool true) ∧ Below w.heap.size w w' := by
  obtain ⟨k, h⟩ := P  
  refine (foghornlaw01_BitsRing.calls k  true w h).mono ?_
  rintro e w' ⟨rfl, hd⟩
  exact ⟨rfl, hd⟩

-- NOT PRINTED: function 9 (foghornlaw01_BitsCuts)

-- NOT PRINTED: function 10 (foghornlaw01_BitsMetric)

/-! ### foghornlaw01_BitsGrays: function 11 -/
def foghornlaw01_BitsGrays.f (k : Nat) (a0 : Int) : Option (Bool) := (foghornlaw01_works.f).bind fun t260 => (if t260 = true then ((bits_Gray.f (Go.bits .and .i64 a0 65535)).bind fun bt261 => ((bits_Ungray.f k bt261.1).bind fun bt263 => ((bits_Ungray.f k (Go.bits .and .i64 a0 65535)).bind fun bt265 => ((bits_Gray.f bt265.1).bind fun bt267 => ((bits_Gray.f (Go.bits .and .i64 (wrap64 ((Go.bits .and .i64 a0 65535) + 1)) 65535)).bind fun bt269 => ((bits_Row.f (([Go.bits .and .i64 bt261.1 65535] : List Int)) 16).bind fun bt274 => ((bits_Row.f (([Go.bits .and .i64 bt269.1 65535] : List Int)) 16).bind fun bt281 => ((bits_Distance.f k bt274.1 bt281.1).bind fun bt285 => (if bt261.2 = 0 then (if bt263.2 = 0 then (if bt265.2 = 0 then (if bt267.2 = 0 then (if bt269.2 = 0 then (if bt274.2 = 0 then (if bt281.2 = 0 then (if bt285.2 = 0 then (if bt263.1 = (Go.bits .and .i64 a0 65535) then (if bt267.1 = (Go.bits .and .i64 a0 65535) then (some (bt285.1 == 1)) else (some false)) else (some false)) else (some false)) else (some false)) else (some false)) else (some false)) else (some false)) else (some false)) else (some false)) else (some false)))))))))) else (some false))
theorem foghornlaw01_BitsGrays.mono : ∀ a0 k, LeO (foghornlaw01_BitsGrays.f k a0) (foghornlaw01_BitsGrays.f (k + 1) a0) := by
  intro a0 k
  unfold foghornlaw01_BitsGrays.f
  repeat' first
      | (with_reducible exact bits_Distance.mono _ _ _)
      | (with_reducible exact bits_Ungray.mono _ _)
      | (with_reducible exact LeO.refl _)
      | (with_reducible exact LeO.none _)
      | (with_reducible refine LeO.ite ?_ ?_)
      | (with_reducible refine LeO.bind ?_ (fun _ => ?_))
      | exact bits_Distance.mono _ _ _
      | exact bits_Ungray.mono _ _
      | exact LeO.none _
      | refine LeO.ite ?_ ?_
      | refine LeO.bind ?_ (fun _ => ?_)
set_option maxHeartbeats 8000000 in
set_option maxRecDepth 100000 in
theorem foghornlaw01_BitsGrays.calls (k : Nat) (a0 : Int) (r : Bool) (w : World) (h : foghornlaw01_BitsGrays.f k a0 = some r) (ho_ : r = true := by rfl) :
    Calls Try.prog 11 #[.int .i64 a0] w fun e w' => e = .returned (.bool r) ∧ Below w.heap.size w w' := by
  subst ho_
  have HB := Aside0.mk (Below.refl w.heap.size w)
  have H : ((foghornlaw01_works.f).bind fun t260 => (if t260 = true then ((bits_Gray.f (Go.bits .and .i64 a0 65535)).bind fun bt261 => ((bits_Ungray.f k bt261.1).bind fun bt263 => ((bits_Ungray.f k (Go.bits .and .i64 a0 65535)).bind fun bt265 => ((bits_Gray.f bt265.1).bind fun bt267 => ((bits_Gray.f (Go.bits .and .i64 (wrap64 ((Go.bits .and .i64 a0 65535) + 1)) 65535)).bind fun bt269 => ((bits_Row.f (([Go.bits .and .i64 bt261.1 65535] : List Int)) 16).bind fun bt274 => ((bits_Row.f (([Go.bits .and .i64 bt269.1 65535] : List Int)) 16).bind fun bt281 => ((bits_Distance.f k bt274.1 bt281.1).bind fun bt285 => (if bt261.2 = 0 then (if bt263.2 = 0 then (if bt265.2 = 0 then (if bt267.2 = 0 then (if bt269.2 = 0 then (if bt274.2 = 0 then (if bt281.2 = 0 then (if bt285.2 = 0 then (if bt263.1 = (Go.bits .and .i64 a0 65535) then (if bt267.1 = (Go.bits .and .i64 a0 65535) then (some (bt285.1 == 1)) else (some false)) else (some false)) else (some false)) else (some false)) else (some false)) else (some false)) else (some false)) else (some false)) else (some false)) else (some false)))))))))) else (some false))) = some true := h
  clear h
  replace H := Option.bind_eq_some_iff.mp H
  obtain ⟨t260, A20, H⟩ := H
  replace H : (if t260 = true then ((bits_Gray.f (Go.bits .and .i64 a0 65535)).bind fun bt261 => ((bits_Ungray.f k bt261.1).bind fun bt263 => ((bits_Ungray.f k (Go.bits .and .i64 a0 65535)).bind fun bt265 => ((bits_Gray.f bt265.1).bind fun bt267 => ((bits_Gray.f (Go.bits .and .i64 (wrap64 ((Go.bits .and .i64 a0 65535) + 1)) 65535)).bind fun bt269 => ((bits_Row.f (([Go.bits .and .i64 bt261.1 65535] : List Int)) 16).bind fun bt274 => ((bits_Row.f (([Go.bits .and .i64 bt269.1 65535] : List Int)) 16).bind fun bt281 => ((bits_Distance.f k bt274.1 bt281.1).bind fun bt285 => (if bt261.2 = 0 then (if bt263.2 = 0 then (if bt265.2 = 0 then (if bt267.2 = 0 then (if bt269.2 = 0 then (if bt274.2 = 0 then (if bt281.2 = 0 then (if bt285.2 = 0 then (if bt263.1 = (Go.bits .and .i64 a0 65535) then (if bt267.1 = (Go.bits .and .i64 a0 65535) then (some (bt285.1 == 1)) else (some false)) else (some false)) else (some false)) else (some false)) else (some false)) else (some false)) else (some false)) else (some false)) else (some false)) else (some false)))))))))) else (some false)) = some true := H
  have A2 := Aside0.mk A20
  clear A20
  by_cases c3 : t260 = true
  · subst c3
    have H1 : ((bits_Gray.f (Go.bits .and .i64 a0 65535)).bind fun bt261 => ((bits_Ungray.f k bt261.1).bind fun bt263 => ((bits_Ungray.f k (Go.bits .and .i64 a0 65535)).bind fun bt265 => ((bits_Gray.f bt265.1).bind fun bt267 => ((bits_Gray.f (Go.bits .and .i64 (wrap64 ((Go.bits .and .i64 a0 65535) + 1)) 65535)).bind fun bt269 => ((bits_Row.f (([Go.bits .and .i64 bt261.1 65535] : List Int)) 16).bind fun bt274 => ((bits_Row.f (([Go.bits .and .i64 bt269.1 65535] : List Int)) 16).bind fun bt281 => ((bits_Distance.f k bt274.1 bt281.1).bind fun bt285 => (if bt261.2 = 0 then (if bt263.2 = 0 then (if bt265.2 = 0 then (if bt267.2 = 0 then (if bt269.2 = 0 then (if bt274.2 = 0 then (if bt281.2 = 0 then (if bt285.2 = 0 then (if bt263.1 = (Go.bits .and .i64 a0 65535) then (if bt267.1 = (Go.bits .and .i64 a0 65535) then (some (bt285.1 == 1)) else (some false)) else (some false)) else (some false)) else (some false)) else (some false)) else (some false)) else (some false)) else (some false)) else (some false)) else (some false)))))))))) = some true := by rw [if_pos rfl] at H; exact H
    clear H
    have H := H1
    clear H1
    replace H := Option.bind_eq_some_iff.mp H
    obtain ⟨⟨t261, t262⟩, A40, H⟩ := H
    replace H : ((bits_Ungray.f k t261).bind fun bt263 => ((bits_Ungray.f k (Go.bits .and .i64 a0 65535)).bind fun bt265 => ((bits_Gray.f bt265.1).bind fun bt267 => ((bits_Gray.f (Go.bits .and .i64 (wrap64 ((Go.bits .and .i64 a0 65535) + 1)) 65535)).bind fun bt269 => ((bits_Row.f (([Go.bits .and .i64 t261 65535] : List Int)) 16).bind fun bt274 => ((bits_Row.f (([Go.bits .and .i64 bt269.1 65535] : List Int)) 16).bind fun bt281 => ((bits_Distance.f k bt274.1 bt281.1).bind fun bt285 => (if t262 = 0 then (if bt263.2 = 0 then (if bt265.2 = 0 then (if bt267.2 = 0 then (if bt269.2 = 0 then (if bt274.2 = 0 then (if bt281.2 = 0 then (if bt285.2 = 0 then (if bt263.1 = (Go.bits .and .i64 a0 65535) then (if bt267.1 = (Go.bits .and .i64 a0 65535) then (some (bt285.1 == 1)) else (some false)) else (some false)) else (some false)) else (some false)) else (some false)) else (some false)) else (some false)) else (some false)) else (some false)) else (some false))))))))) = some true := H
    have A4 := Aside0.mk A40
    clear A40
    replace H := Option.bind_eq_some_iff.mp H
    obtain ⟨⟨t263, t264⟩, A50, H⟩ := H
    replace H : ((bits_Ungray.f k (Go.bits .and .i64 a0 65535)).bind fun bt265 => ((bits_Gray.f bt265.1).bind fun bt267 => ((bits_Gray.f (Go.bits .and .i64 (wrap64 ((Go.bits .and .i64 a0 65535) + 1)) 65535)).bind fun bt269 => ((bits_Row.f (([Go.bits .and .i64 t261 65535] : List Int)) 16).bind fun bt274 => ((bits_Row.f (([Go.bits .and .i64 bt269.1 65535] : List Int)) 16).bind fun bt281 => ((bits_Distance.f k bt274.1 bt281.1).bind fun bt285 => (if t262 = 0 then (if t264 = 0 then (if bt265.2 = 0 then (if bt267.2 = 0 then (if bt269.2 = 0 then (if bt274.2 = 0 then (if bt281.2 = 0 then (if bt285.2 = 0 then (if t263 = (Go.bits .and .i64 a0 65535) then (if bt267.1 = (Go.bits .and .i64 a0 65535) then (some (bt285.1 == 1)) else (some false)) else (some false)) else (some false)) else (some false)) else (some false)) else (some false)) else (some false)) else (some false)) else (some false)) else (some false)))))))) = some true := H
    have A5 := Aside0.mk A50
    clear A50
    replace H := Option.bind_eq_some_iff.mp H
    obtain ⟨⟨t265, t266⟩, A60, H⟩ := H
    replace H : ((bits_Gray.f t265).bind fun bt267 => ((bits_Gray.f (Go.bits .and .i64 (wrap64 ((Go.bits .and .i64 a0 65535) + 1)) 65535)).bind fun bt269 => ((bits_Row.f (([Go.bits .and .i64 t261 65535] : List Int)) 16).bind fun bt274 => ((bits_Row.f (([Go.bits .and .i64 bt269.1 65535] : List Int)) 16).bind fun bt281 => ((bits_Distance.f k bt274.1 bt281.1).bind fun bt285 => (if t262 = 0 then (if t264 = 0 then (if t266 = 0 then (if bt267.2 = 0 then (if bt269.2 = 0 then (if bt274.2 = 0 then (if bt281.2 = 0 then (if bt285.2 = 0 then (if t263 = (Go.bits .and .i64 a0 65535) then (if bt267.1 = (Go.bits .and .i64 a0 65535) then (some (bt285.1 == 1)) else (some false)) else (some false)) else (some false)) else (some false)) else (some false)) else (some false)) else (some false)) else (some false)) else (some false)) else (some false))))))) = some true := H
    have A6 := Aside0.mk A60
    clear A60
    replace H := Option.bind_eq_some_iff.mp H
    obtain ⟨⟨t267, t268⟩, A70, H⟩ := H
    replace H : ((bits_Gray.f (Go.bits .and .i64 (wrap64 ((Go.bits .and .i64 a0 65535) + 1)) 65535)).bind fun bt269 => ((bits_Row.f (([Go.bits .and .i64 t261 65535] : List Int)) 16).bind fun bt274 => ((bits_Row.f (([Go.bits .and .i64 bt269.1 65535] : List Int)) 16).bind fun bt281 => ((bits_Distance.f k bt274.1 bt281.1).bind fun bt285 => (if t262 = 0 then (if t264 = 0 then (if t266 = 0 then (if t268 = 0 then (if bt269.2 = 0 then (if bt274.2 = 0 then (if bt281.2 = 0 then (if bt285.2 = 0 then (if t263 = (Go.bits .and .i64 a0 65535) then (if t267 = (Go.bits .and .i64 a0 65535) then (some (bt285.1 == 1)) else (some false)) else (some false)) else (some false)) else (some false)) else (some false)) else (some false)) else (some false)) else (some false)) else (some false)) else (some false)))))) = some true := H
    have A7 := Aside0.mk A70
    clear A70
    replace H := Option.bind_eq_some_iff.mp H
    obtain ⟨⟨t269, t270⟩, A80, H⟩ := H
    replace H : ((bits_Row.f (([Go.bits .and .i64 t261 65535] : List Int)) 16).bind fun bt274 => ((bits_Row.f (([Go.bits .and .i64 t269 65535] : List Int)) 16).bind fun bt281 => ((bits_Distance.f k bt274.1 bt281.1).bind fun bt285 => (if t262 = 0 then (if t264 = 0 then (if t266 = 0 then (if t268 = 0 then (if t270 = 0 then (if bt274.2 = 0 then (if bt281.2 = 0 then (if bt285.2 = 0 then (if t263 = (Go.bits .and .i64 a0 65535) then (if t267 = (Go.bits .and .i64 a0 65535) then (some (bt285.1 == 1)) else (some false)) else (some false)) else (some false)) else (some false)) else (some false)) else (some false)) else (some false)) else (some false)) else (some false)) else (some false))))) = some true := H
    have A8 := Aside0.mk A80
    clear A80
    obtain ⟨y271, hy271⟩ : ∃ y_ : List Int, y_ = (([Go.bits .and .i64 t261 65535] : List Int)) := ⟨_, rfl⟩
    replace H : ((bits_Row.f y271 16).bind fun bt274 => ((bits_Row.f (([Go.bits .and .i64 t269 65535] : List Int)) 16).bind fun bt281 => ((bits_Distance.f k bt274.1 bt281.1).bind fun bt285 => (if t262 = 0 then (if t264 = 0 then (if t266 = 0 then (if t268 = 0 then (if t270 = 0 then (if bt274.2 = 0 then (if bt281.2 = 0 then (if bt285.2 = 0 then (if t263 = (Go.bits .and .i64 a0 65535) then (if t267 = (Go.bits .and .i64 a0 65535) then (some (bt285.1 == 1)) else (some false)) else (some false)) else (some false)) else (some false)) else (some false)) else (some false)) else (some false)) else (some false)) else (some false)) else (some false))))) = some true := by first | (rw [hy271]; with_reducible exact H) | (have H2_ := (Option.bind_some _ _).symm.trans H; rw [hy271]; with_reducible exact H2_) | (have H2_ := (Option.bind_some _ _).symm.trans H; with_reducible exact H2_) | with_reducible exact H | (rw [hy271]; exact H) | exact H
    have Ny271 := Aside0.mk hy271
    clear hy271
    replace H := Option.bind_eq_some_iff.mp H
    obtain ⟨⟨t274, t275⟩, A90, H⟩ := H
    replace H : ((bits_Row.f (([Go.bits .and .i64 t269 65535] : List Int)) 16).bind fun bt281 => ((bits_Distance.f k t274 bt281.1).bind fun bt285 => (if t262 = 0 then (if t264 = 0 then (if t266 = 0 then (if t268 = 0 then (if t270 = 0 then (if t275 = 0 then (if bt281.2 = 0 then (if bt285.2 = 0 then (if t263 = (Go.bits .and .i64 a0 65535) then (if t267 = (Go.bits .and .i64 a0 65535) then (some (bt285.1 == 1)) else (some false)) else (some false)) else (some false)) else (some false)) else (some false)) else (some false)) else (some false)) else (some false)) else (some false)) else (some false)))) = some true := H
    have A9 := Aside0.mk A90
    clear A90
    obtain ⟨y278, hy278⟩ : ∃ y_ : List Int, y_ = (([Go.bits .and .i64 t269 65535] : List Int)) := ⟨_, rfl⟩
    replace H : ((bits_Row.f y278 16).bind fun bt281 => ((bits_Distance.f k t274 bt281.1).bind fun bt285 => (if t262 = 0 then (if t264 = 0 then (if t266 = 0 then (if t268 = 0 then (if t270 = 0 then (if t275 = 0 then (if bt281.2 = 0 then (if bt285.2 = 0 then (if t263 = (Go.bits .and .i64 a0 65535) then (if t267 = (Go.bits .and .i64 a0 65535) then (some (bt285.1 == 1)) else (some false)) else (some false)) else (some false)) else (some false)) else (some false)) else (some false)) else (some false)) else (some false)) else (some false)) else (some false)))) = some true := by first | (rw [hy278]; with_reducible exact H) | (have H2_ := (Option.bind_some _ _).symm.trans H; rw [hy278]; with_reducible exact H2_) | (have H2_ := (Option.bind_some _ _).symm.trans H; with_reducible exact H2_) | with_reducible exact H | (rw [hy278]; exact H) | exact H
    have Ny278 := Aside0.mk hy278
    clear hy278
    replace H := Option.bind_eq_some_iff.mp H
    obtain ⟨⟨t281, t282⟩, A100, H⟩ := H
    replace H : ((bits_Distance.f k t274 t281).bind fun bt285 => (if t262 = 0 then (if t264 = 0 then (if t266 = 0 then (if t268 = 0 then (if t270 = 0 then (if t275 = 0 then (if t282 = 0 then (if bt285.2 = 0 then (if t263 = (Go.bits .and .i64 a0 65535) then (if t267 = (Go.bits .and .i64 a0 65535) then (some (bt285.1 == 1)) else (some false)) else (some false)) else (some false)) else (some false)) else (some false)) else (some false)) else (some false)) else (some false)) else (some false)) else (some false))) = some true := H
    have A10 := Aside0.mk A100
    clear A100
    replace H := Option.bind_eq_some_iff.mp H
    obtain ⟨⟨t285, t286⟩, A110, H⟩ := H
    replace H : (if t262 = 0 then (if t264 = 0 then (if t266 = 0 then (if t268 = 0 then (if t270 = 0 then (if t275 = 0 then (if t282 = 0 then (if t286 = 0 then (if t263 = (Go.bits .and .i64 a0 65535) then (if t267 = (Go.bits .and .i64 a0 65535) then (some (t285 == 1)) else (some false)) else (some false)) else (some false)) else (some false)) else (some false)) else (some false)) else (some false)) else (some false)) else (some false)) else (some false)) = some true := H
    have A11 := Aside0.mk A110
    clear A110
    by_cases c12 : t262 = 0
    · rw [if_pos c12] at H
      have c12b0 : (t262 == 0) = true := beq_iff_eq.mpr c12
      have c12b1 : (t262 != 0) = false := bne_eq_false_iff_eq.mpr c12
      clear c12
      by_cases c13 : t264 = 0
      · rw [if_pos c13] at H
        have c13b0 : (t264 == 0) = true := beq_iff_eq.mpr c13
        have c13b1 : (t264 != 0) = false := bne_eq_false_iff_eq.mpr c13
        clear c13
        by_cases c14 : t266 = 0
        · rw [if_pos c14] at H
          have c14b0 : (t266 == 0) = true := beq_iff_eq.mpr c14
          have c14b1 : (t266 != 0) = false := bne_eq_false_iff_eq.mpr c14
          clear c14
          by_cases c15 : t268 = 0
          · rw [if_pos c15] at H
            have c15b0 : (t268 == 0) = true := beq_iff_eq.mpr c15
            have c15b1 : (t268 != 0) = false := bne_eq_false_iff_eq.mpr c15
            clear c15
            by_cases c16 : t270 = 0
            · rw [if_pos c16] at H
              have c16b0 : (t270 == 0) = true := beq_iff_eq.mpr c16
              have c16b1 : (t270 != 0) = false := bne_eq_false_iff_eq.mpr c16
              clear c16
              by_cases c17 : t275 = 0
              · rw [if_pos c17] at H
                have c17b0 : (t275 == 0) = true := beq_iff_eq.mpr c17
                have c17b1 : (t275 != 0) = false := bne_eq_false_iff_eq.mpr c17
                clear c17
                by_cases c18 : t282 = 0
                · rw [if_pos c18] at H
                  have c18b0 : (t282 == 0) = true := beq_iff_eq.mpr c18
                  have c18b1 : (t282 != 0) = false := bne_eq_false_iff_eq.mpr c18
                  clear c18
                  by_cases c19 : t286 = 0
                  · rw [if_pos c19] at H
                    have c19b0 : (t286 == 0) = true := beq_iff_eq.mpr c19
                    have c19b1 : (t286 != 0) = false := bne_eq_false_iff_eq.mpr c19
                    clear c19
                    by_cases c20 : t263 = (Go.bits .and .i64 a0 65535)
                    · rw [if_pos c20] at H
                      have c20b0 : (t263 == (Go.bits .and .i64 a0 65535)) = true := beq_iff_eq.mpr c20
                      have c20b1 : (t263 != (Go.bits .and .i64 a0 65535)) = false := bne_eq_false_iff_eq.mpr c20
                      clear c20
                      by_cases c21 : t267 = (Go.bits .and .i64 a0 65535)
                      · rw [if_pos c21] at H
                        have c21b0 : (t267 == (Go.bits .and .i64 a0 65535)) = true := beq_iff_eq.mpr c21
                        have c21b1 : (t267 != (Go.bits .and .i64 a0 65535)) = false := bne_eq_false_iff_eq.mpr c21
                        clear c21
                        have hR_ := Option.some.inj H
                        clear H
                        go_enter Try.func11, Try.ntmps11
                        go_wp2_with (first | ((with_reducible refine gate_callee (f := 45) rfl ?_); refine goesL_ (some 19) rfl rfl Try.func45 (by kernel_rfl) rfl #[] rfl (by (try simp only [List.map_toArray, List.map_cons, List.map_nil]); first | done | rfl | (simp only [List.length_drop, List.length_take]; rfl)) ?_; (with_reducible refine (foghornlaw01_works.calls  true _ A2.out).mono ?_); rintro e w22 ⟨rfl, hb⟩; refine ⟨_, rfl, ?_⟩; have n0_ := Aside0.mk (below_step (by repeat (first | (with_reducible first | exact HB.out | apply below_alloc | apply pw_below_drewN | apply below_drew1) | exact HB.out)) hb); clear HB; have HB := n0_; clear n0_; (try clear hb); (try clear hb2); (try clear hk); (try clear hi)) | ((with_reducible refine gate_callee (f := 14) rfl ?_); refine goesL_ (some 25) rfl rfl Try.func14 (by kernel_rfl) rfl #[.int .i64 (Go.bits .and .i64 a0 65535)] rfl (by (try simp only [List.map_toArray, List.map_cons, List.map_nil]); first | done | rfl | (simp only [List.length_drop, List.length_take]; rfl)) ?_; (with_reducible refine (bits_Gray.calls (Go.bits .and .i64 a0 65535) t261 t262 _ A4.out).mono ?_); rintro e w' ⟨rfl, ⟨nd, rfl⟩⟩; refine ⟨_, rfl, ?_⟩) | ((with_reducible refine gate_callee (f := 16) rfl ?_); refine goesL_ (some 30) rfl rfl Try.func16 (by kernel_rfl) rfl #[.int .i64 t261] rfl (by (try simp only [List.map_toArray, List.map_cons, List.map_nil]); first | done | rfl | (simp only [List.length_drop, List.length_take]; rfl)) ?_; (with_reducible refine (bits_Ungray.calls k t261 t263 t264 _ A5.out).mono ?_); rintro e w' ⟨rfl, ⟨nd, rfl⟩⟩; refine ⟨_, rfl, ?_⟩) | ((with_reducible refine gate_callee (f := 16) rfl ?_); refine goesL_ (some 35) rfl rfl Try.func16 (by kernel_rfl) rfl #[.int .i64 (Go.bits .and .i64 a0 65535)] rfl (by (try simp only [List.map_toArray, List.map_cons, List.map_nil]); first | done | rfl | (simp only [List.length_drop, List.length_take]; rfl)) ?_; (with_reducible refine (bits_Ungray.calls k (Go.bits .and .i64 a0 65535) t265 t266 _ A6.out).mono ?_); rintro e w' ⟨rfl, ⟨nd, rfl⟩⟩; refine ⟨_, rfl, ?_⟩) | ((with_reducible refine gate_callee (f := 14) rfl ?_); refine goesL_ (some 40) rfl rfl Try.func14 (by kernel_rfl) rfl #[.int .i64 t265] rfl (by (try simp only [List.map_toArray, List.map_cons, List.map_nil]); first | done | rfl | (simp only [List.length_drop, List.length_take]; rfl)) ?_; (with_reducible refine (bits_Gray.calls t265 t267 t268 _ A7.out).mono ?_); rintro e w' ⟨rfl, ⟨nd, rfl⟩⟩; refine ⟨_, rfl, ?_⟩) | ((with_reducible refine gate_callee (f := 14) rfl ?_); refine goesL_ (some 47) rfl rfl Try.func14 (by kernel_rfl) rfl #[.int .i64 (Go.bits .and .i64 (wrap64 ((Go.bits .and .i64 a0 65535) + 1)) 65535)] rfl (by (try simp only [List.map_toArray, List.map_cons, List.map_nil]); first | done | rfl | (simp only [List.length_drop, List.length_take]; rfl)) ?_; (with_reducible refine (bits_Gray.calls (Go.bits .and .i64 (wrap64 ((Go.bits .and .i64 a0 65535) + 1)) 65535) t269 t270 _ A8.out).mono ?_); rintro e w' ⟨rfl, ⟨nd, rfl⟩⟩; refine ⟨_, rfl, ?_⟩) | ((with_reducible refine gate_dst (N := 53) rfl ?_); refine Kd.R_lit (Kd.int .i64) _ 3 ?hg (N := 53) ?hd (xs := ([Go.bits .and .i64 t261 65535] : List Int)) (inner := [.int .i64 (Go.bits .and .i64 t261 65535)]) (ok := fun _ => True) (okp := fun _ => True) ?hr ?hp (fun _ hk => hk) trivial (Below.refl _ _) (Nat.le_refl _) (by simp) ?_; (case hd => rfl); (case hg => rfl); (case hr => first | (go_simp; done) | (go_simp; rfl)); (case hp => exact (Reps.one (show Kd.M (Kd.int .i64) _ _ _ (Go.bits .and .i64 t261 65535) [.int .i64 (Go.bits .and .i64 t261 65535)] from rfl) (Reps.none _ _))); intro v272 w23 ho24 hb hg_ hnew_; clear hg_ hnew_; (first | rw [← Ny271.out] at ho24 | (simp only [Int.reduceToNat] at ho24; rw [← Ny271.out] at ho24)); have n0_ := Aside0.mk (Kd.R_lower ho24 (below_size (by repeat (first | (with_reducible first | exact HB.out | apply below_alloc | apply pw_below_drewN | apply below_drew1) | exact HB.out)))); have n1_ := Aside0.mk (below_step (by repeat (first | (with_reducible first | exact HB.out | apply below_alloc | apply pw_below_drewN | apply below_drew1) | exact HB.out)) hb); clear HB; have HO273 := n0_; have HB := n1_; clear n0_ n1_; clear hb ho24; obtain ⟨Ao25, co25, eo25⟩ := Kd.R_slice HO273.out; subst eo25) | ((with_reducible refine gate_callee (f := 42) rfl ?_); refine goesL_ (some 54) rfl rfl Try.func42 (by kernel_rfl) rfl #[.slice Ao25 y271.length co25, .int .i64 16] rfl (by (try simp only [List.map_toArray, List.map_cons, List.map_nil]); first | done | rfl | (simp only [List.length_drop, List.length_take]; rfl)) ?_; (with_reducible refine (bits_Row.calls _ _ y271 16 t274 t275 _ ?side1 ?side2 A9.out).mono ?_); (case side1 => repeat (first | exact (Kd.R_reads' HO273.out).2.2 | (with_reducible refine Kd.C_alloc ?_ _) | (with_reducible refine Kd.C_drewN ?_ _) | (with_reducible refine Kd.C_drew ?_))); (case side2 => exact (Kd.R_reads' HO273.out).2.1); rintro e w26 ⟨v276, rfl, ho0, hb⟩; refine ⟨_, rfl, ?_⟩; have n0_ := Aside0.mk (Kd.R_below (by (with_reducible repeat (first | apply Kd.R_alloc | apply Kd.R_drewN | apply Kd.R_drew)); exact HO273.out) hb); have n1_ := Aside0.mk (Kd.R_lower ho0 (below_size (by repeat (first | (with_reducible first | exact HB.out | apply below_alloc | apply pw_below_drewN | apply below_drew1) | exact HB.out)))); have n2_ := Aside0.mk (below_step (by repeat (first | (with_reducible first | exact HB.out | apply below_alloc | apply pw_below_drewN | apply below_drew1) | exact HB.out)) hb); clear HO273; clear HB; have HO273 := n0_; have HO277 := n1_; have HB := n2_; clear n0_ n1_ n2_; (try clear hb); (try clear hb2); (try clear hk); (try clear hi); (try clear ho0)) | ((with_reducible refine gate_dst (N := 60) rfl ?_); refine Kd.R_lit (Kd.int .i64) _ 3 ?hg (N := 60) ?hd (xs := ([Go.bits .and .i64 t269 65535] : List Int)) (inner := [.int .i64 (Go.bits .and .i64 t269 65535)]) (ok := fun _ => True) (okp := fun _ => True) ?hr ?hp (fun _ hk => hk) trivial (Below.refl _ _) (Nat.le_refl _) (by simp) ?_; (case hd => rfl); (case hg => rfl); (case hr => first | (go_simp; done) | (go_simp; rfl)); (case hp => exact (Reps.one (show Kd.M (Kd.int .i64) _ _ _ (Go.bits .and .i64 t269 65535) [.int .i64 (Go.bits .and .i64 t269 65535)] from rfl) (Reps.none _ _))); intro v279 w27 ho28 hb hg_ hnew_; clear hg_ hnew_; (first | rw [← Ny278.out] at ho28 | (simp only [Int.reduceToNat] at ho28; rw [← Ny278.out] at ho28)); have n0_ := Aside0.mk (Kd.R_elder' (by (with_reducible repeat (first | apply Kd.R_alloc | apply Kd.R_drewN | apply Kd.R_drew)); exact HO273.out) (Kd.R_base ho28) hb); have n1_ := Aside0.mk (Kd.R_below (by (with_reducible repeat (first | apply Kd.R_alloc | apply Kd.R_drewN | apply Kd.R_drew)); exact HO277.out) hb); have n2_ := Aside0.mk (Kd.R_lower (Kd.R_new' ho28 (Kd.R_lt (by (with_reducible repeat (first | apply Kd.R_alloc | apply Kd.R_drewN | apply Kd.R_drew)); exact HO273.out))) (below_size (by repeat (first | (with_reducible first | exact HB.out | apply below_alloc | apply pw_below_drewN | apply below_drew1) | exact HB.out)))); have n3_ := Aside0.mk (below_step (by repeat (first | (with_reducible first | exact HB.out | apply below_alloc | apply pw_below_drewN | apply below_drew1) | exact HB.out)) hb); clear HO273; clear HO277; clear HB; have HO273 := n0_; have HO277 := n1_; have HO280 := n2_; have HB := n3_; clear n0_ n1_ n2_ n3_; clear hb ho28; obtain ⟨Ao29, co29, eo29⟩ := Kd.R_slice HO280.out; subst eo29) | ((with_reducible refine gate_callee (f := 42) rfl ?_); refine goesL_ (some 61) rfl rfl Try.func42 (by kernel_rfl) rfl #[.slice Ao29 y278.length co29, .int .i64 16] rfl (by (try simp only [List.map_toArray, List.map_cons, List.map_nil]); first | done | rfl | (simp only [List.length_drop, List.length_take]; rfl)) ?_; (with_reducible refine (bits_Row.calls _ _ y278 16 t281 t282 _ ?side1 ?side2 A10.out).mono ?_); (case side1 => repeat (first | exact (Kd.R_reads' HO280.out).2.2 | (with_reducible refine Kd.C_alloc ?_ _) | (with_reducible refine Kd.C_drewN ?_ _) | (with_reducible refine Kd.C_drew ?_))); (case side2 => exact (Kd.R_reads' HO280.out).2.1); rintro e w30 ⟨v283, rfl, ho0, hb⟩; refine ⟨_, rfl, ?_⟩; have n0_ := Aside0.mk (Kd.R_below (by (with_reducible repeat (first | apply Kd.R_alloc | apply Kd.R_drewN | apply Kd.R_drew)); exact HO273.out) hb); have n1_ := Aside0.mk (Kd.R_elder' (by (with_reducible repeat (first | apply Kd.R_alloc | apply Kd.R_drewN | apply Kd.R_drew)); exact HO277.out) (Kd.R_base ho0) hb); have n2_ := Aside0.mk (Kd.R_below (by (with_reducible repeat (first | apply Kd.R_alloc | apply Kd.R_drewN | apply Kd.R_drew)); exact HO280.out) hb); have n3_ := Aside0.mk (Kd.R_lower (Kd.R_new' ho0 (Kd.R_lt (by (with_reducible repeat (first | apply Kd.R_alloc | apply Kd.R_drewN | apply Kd.R_drew)); exact HO277.out))) (below_size (by repeat (first | (with_reducible first | exact HB.out | apply below_alloc | apply pw_below_drewN | apply below_drew1) | exact HB.out)))); have n4_ := Aside0.mk (below_step (by repeat (first | (with_reducible first | exact HB.out | apply below_alloc | apply pw_below_drewN | apply below_drew1) | exact HB.out)) hb); clear HO273; clear HO277; clear HO280; clear HB; have HO273 := n0_; have HO277 := n1_; have HO280 := n2_; have HO284 := n3_; have HB := n4_; clear n0_ n1_ n2_ n3_ n4_; (try clear hb); (try clear hb2); (try clear hk); (try clear hi); (try clear ho0); obtain ⟨Ao31, co31, eo31⟩ := Kd.R_slice HO277.out; subst eo31; obtain ⟨Ao32, co32, eo32⟩ := Kd.R_slice HO284.out; subst eo32) | ((with_reducible refine gate_callee (f := 25) rfl ?_); refine goesL_ (some 67) rfl rfl Try.func25 (by kernel_rfl) rfl #[.slice Ao31 t274.length co31, .slice Ao32 t281.length co32] rfl (by (try simp only [List.map_toArray, List.map_cons, List.map_nil]); first | done | rfl | (simp only [List.length_drop, List.length_take]; rfl)) ?_; (with_reducible refine (bits_Distance.calls k _ _ t274 _ _ t281 t285 t286 _ ?side1 ?side2 ?side3 ?side4 A11.out).mono ?_); (case side1 => repeat (first | exact (Kd.R_reads' HO277.out).2.2 | (with_reducible refine Kd.C_alloc ?_ _) | (with_reducible refine Kd.C_drewN ?_ _) | (with_reducible refine Kd.C_drew ?_))); (case side2 => exact (Kd.R_reads' HO277.out).2.1); (case side3 => repeat (first | exact (Kd.R_reads' HO284.out).2.2 | (with_reducible refine Kd.C_alloc ?_ _) | (with_reducible refine Kd.C_drewN ?_ _) | (with_reducible refine Kd.C_drew ?_))); (case side4 => exact (Kd.R_reads' HO284.out).2.1); rintro e w33 ⟨rfl, hb⟩; refine ⟨_, rfl, ?_⟩; have n0_ := Aside0.mk (Kd.R_below (by (with_reducible repeat (first | apply Kd.R_alloc | apply Kd.R_drewN | apply Kd.R_drew)); exact HO273.out) hb); have n1_ := Aside0.mk (Kd.R_below (by (with_reducible repeat (first | apply Kd.R_alloc | apply Kd.R_drewN | apply Kd.R_drew)); exact HO277.out) hb); have n2_ := Aside0.mk (Kd.R_below (by (with_reducible repeat (first | apply Kd.R_alloc | apply Kd.R_drewN | apply Kd.R_drew)); exact HO280.out) hb); have n3_ := Aside0.mk (Kd.R_below (by (with_reducible repeat (first | apply Kd.R_alloc | apply Kd.R_drewN | apply Kd.R_drew)); exact HO284.out) hb); have n4_ := Aside0.mk (below_step (by repeat (first | (with_reducible first | exact HB.out | apply below_alloc | apply pw_below_drewN | apply below_drew1) | exact HB.out)) hb); clear HO273; clear HO277; clear HO280; clear HO284; clear HB; have HO273 := n0_; have HO277 := n1_; have HO280 := n2_; have HO284 := n3_; have HB := n4_; clear n0_ n1_ n2_ n3_ n4_; (try clear hb); (try clear hb2); (try clear hk); (try clear hi)))
                        go_ret
                        exact ⟨by first | rfl | (simp [errW_none, errW_some] <;> rfl) | (simp [*, errW_none, errW_some] <;> rfl), by repeat (first | (with_reducible first | exact HB.out | apply below_alloc | apply pw_below_drewN | apply below_drew1) | exact HB.out)⟩
                      · rw [if_neg c21] at H
                        have c21b0 : (t267 == (Go.bits .and .i64 a0 65535)) = false := beq_eq_false_iff_ne.mpr c21
                        have c21b1 : (t267 != (Go.bits .and .i64 a0 65535)) = true := bne_iff_ne.mpr c21
                        exact absurd H (by simp)
                    · rw [if_neg c20] at H
                      have c20b0 : (t263 == (Go.bits .and .i64 a0 65535)) = false := beq_eq_false_iff_ne.mpr c20
                      have c20b1 : (t263 != (Go.bits .and .i64 a0 65535)) = true := bne_iff_ne.mpr c20
                      exact absurd H (by simp)
                  · rw [if_neg c19] at H
                    have c19b0 : (t286 == 0) = false := beq_eq_false_iff_ne.mpr c19
                    have c19b1 : (t286 != 0) = true := bne_iff_ne.mpr c19
                    exact absurd H (by simp)
                · rw [if_neg c18] at H
                  have c18b0 : (t282 == 0) = false := beq_eq_false_iff_ne.mpr c18
                  have c18b1 : (t282 != 0) = true := bne_iff_ne.mpr c18
                  exact absurd H (by simp)
              · rw [if_neg c17] at H
                have c17b0 : (t275 == 0) = false := beq_eq_false_iff_ne.mpr c17
                have c17b1 : (t275 != 0) = true := bne_iff_ne.mpr c17
                exact absurd H (by simp)
            · rw [if_neg c16] at H
              have c16b0 : (t270 == 0) = false := beq_eq_false_iff_ne.mpr c16
              have c16b1 : (t270 != 0) = true := bne_iff_ne.mpr c16
              exact absurd H (by simp)
          · rw [if_neg c15] at H
            have c15b0 : (t268 == 0) = false := beq_eq_false_iff_ne.mpr c15
            have c15b1 : (t268 != 0) = true := bne_iff_ne.mpr c15
            exact absurd H (by simp)
        · rw [if_neg c14] at H
          have c14b0 : (t266 == 0) = false := beq_eq_false_iff_ne.mpr c14
          have c14b1 : (t266 != 0) = true := bne_iff_ne.mpr c14
          exact absurd H (by simp)
      · rw [if_neg c13] at H
        have c13b0 : (t264 == 0) = false := beq_eq_false_iff_ne.mpr c13
        have c13b1 : (t264 != 0) = true := bne_iff_ne.mpr c13
        exact absurd H (by simp)
    · rw [if_neg c12] at H
      have c12b0 : (t262 == 0) = false := beq_eq_false_iff_ne.mpr c12
      have c12b1 : (t262 != 0) = true := bne_iff_ne.mpr c12
      exact absurd H (by simp)
  · replace c3 := Bool.eq_false_iff.mpr c3
    subst c3
    have H1 : (some false) = some true := by rw [if_neg (show ¬ (false = true) by decide)] at H; exact H
    clear H
    have H := H1
    clear H1
    exact absurd H (by simp)

/-- THE ONE PURE STATEMENT of foghornlaw01_BitsGrays: yours. -/
def foghornlaw01_BitsGrays.Pure : Prop := ∀ (a0 : Int), (Lit.int .i64 a0).wf = true → ∃ k, foghornlaw01_BitsGrays.f k a0 = some true
theorem foghornlaw01_BitsGrays.walk (P : foghornlaw01_BitsGrays.Pure) (a0 : Int) (w : World) (w0 : (Lit.int .i64 a0).wf = true) :
    Calls Try.prog 11 #[.int .i64 a0] w fun e w' => e = .returned (.bool true) ∧ Below w.heap.size w w' := by
  obtain ⟨k, h⟩ := P a0 w0
  refine (foghornlaw01_BitsGrays.calls k a0 true w h).mono ?_
  rintro e w' ⟨rfl, hd⟩
  exact ⟨rfl, hd⟩

-- NOT PRINTED: function 12 (foghornlaw01_BitsBack)

-- NOT PRINTED: function 13 (foghornlaw01_BitsNames)

end Go.Proofs.Ytabjfehhibeeiaa.Fog
