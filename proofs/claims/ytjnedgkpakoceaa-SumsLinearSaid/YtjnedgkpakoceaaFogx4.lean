-- Written by fog.py, a program of this session, over the kit's print.
import Derived.Test.YtjnedgkpakoceaaFogx0
import Derived.Test.YtjnedgkpakoceaaFogx1
import Derived.Test.YtjnedgkpakoceaaFogx3
namespace Go.Proofs.Ytjnedgkpakoceaa.Fog
open Go.RowKit Go.Proofs.YtjnedgkpakoceaaW.PrintWords Go.Proofs.YtjnedgkpakoceaaW.PrintLast Go.Proofs.YtjnedgkpakoceaaW.PrintMore
attribute [local go_sem] max2_int min2_int max_two min_two max_three min_three max_four min_four   -- for this text's walks alone
attribute [local go_sem] fog_signed_u8 fog_max_u8 fog_signed_u16 fog_max_u16 fog_signed_u32 fog_max_u32 fog_signed_u64 fog_max_u64
set_option linter.unusedVariables false
set_option linter.unusedSimpArgs false

/-! ### foghornlaw24_SumsLinear: function 3 -/
mutual
def foghornlaw24_SumsLinear.j0 : Nat → Int → List Bool → Int → Int → Bool → Option (Bool)
  | 0, _, _, _, _, _ => none
  | k + 1, x2, x7, x9, x15, x114 => if x114 = true then (some false) else (if 0 ≤ (Int.tmod (wrap64 (x2)) 40) then (if (Int.tmod (wrap64 (x2)) 40 : Int).toNat ≤ 281474976710656 then ((some (List.replicate (Int.tmod (wrap64 (x2)) 40 : Int).toNat false : List Bool)).bind fun y155 => (if y155.length + x7.length < 140737488355328 then ((sums_Sum32.f k (y155 ++ x7)).bind fun bt161 => (if bt161.1 = x9 then (foghornlaw24_SumsLinear.j1 k x2 x7 x9 x15 (bt161.2 != 0)) else (foghornlaw24_SumsLinear.j1 k x2 x7 x9 x15 true))) else (none))) else (none)) else (none))
def foghornlaw24_SumsLinear.j1 : Nat → Int → List Bool → Int → Int → Bool → Option (Bool)
  | 0, _, _, _, _, _ => none
  | k + 1, x2, x7, x9, x15, x131 => if x131 = true then (some false) else (if (wrap64 ((x7.length : Int) + 1)) = 0 then (none) else (if 0 ≤ (Int.tmod (wrap64 (x2)) (wrap64 ((x7.length : Int) + 1))) then (if (Int.tmod (wrap64 (x2)) (wrap64 ((x7.length : Int) + 1))) ≤ (x7.length : Int) then ((sums_Sum32.f k (x7.take ((Int.tmod (wrap64 (x2)) (wrap64 ((x7.length : Int) + 1))) : Int).toNat)).bind fun bt167 => ((sums_Sum32.f k (x7.drop ((Int.tmod (wrap64 (x2)) (wrap64 ((x7.length : Int) + 1))) : Int).toNat)).bind fun bt173 => ((sums_Joined32.f k bt167.1 bt173.1 (wrap64 ((x7.length : Int) - (Int.tmod (wrap64 (x2)) (wrap64 ((x7.length : Int) + 1)))))).bind fun bt175 => (if bt167.2 = 0 then (if bt173.2 = 0 then (if bt175.2 = 0 then (foghornlaw24_SumsLinear.j2 k x7 x15 (bt175.1 != x9)) else (foghornlaw24_SumsLinear.j2 k x7 x15 true)) else (foghornlaw24_SumsLinear.j2 k x7 x15 true)) else (foghornlaw24_SumsLinear.j2 k x7 x15 true))))) else (none)) else (none)))
def foghornlaw24_SumsLinear.j2 : Nat → List Bool → Int → Bool → Option (Bool)
  | 0, _, _, _ => none
  | k + 1, x7, x15, x176 => if x176 = true then (some false) else (foghornlaw24_SumsLinear.l0 k x7 x15 0 0)
def foghornlaw24_SumsLinear.l0 : Nat → List Bool → Int → Int → Int → Option (Bool)
  | 0, _, _, _, _ => none
  | k + 1, x7, x15, x30, x31 => if x31 < (x7.length : Int) then (if 0 ≤ x31 then (if x31 ≤ (wrap64 (x31 + 1)) then (if (wrap64 (x31 + 1)) ≤ (x7.length : Int) then ((sums_On16.f k x30 ((x7.take ((wrap64 (x31 + 1)) : Int).toNat).drop (x31 : Int).toNat)).bind fun bt181 => (if bt181.2 = 0 then (foghornlaw24_SumsLinear.l0 k x7 x15 bt181.1 (wrap64 (x31 + 1))) else (some false))) else (none)) else (none)) else (none)) else (if x30 = x15 then ((foghornlaw24_awake.f k).bind fun t183 => (some t183)) else (some false))
end
def foghornlaw24_SumsLinear.f (k : Nat) (l0 : List Bool) (l1 : List Bool) (a2 : Int) : Option (Bool) := if 0 ≤ (mn (l0.length : Int) 300) then (if (mn (l0.length : Int) 300) ≤ (l0.length : Int) then ((some (l0.take ((mn (l0.length : Int) 300) : Int).toNat : List Bool)).bind fun y127 => (if 0 ≤ (y127.length : Int) then (if ((y127.length : Int) : Int).toNat ≤ 281474976710656 then ((some (List.replicate ((y127.length : Int) : Int).toNat false : List Bool)).bind fun y131 => ((some (l1.take (min l1.length y131.length) ++ y131.drop (min l1.length y131.length) : List Bool)).bind fun y134 => ((sums_Sum32.f k y127).bind fun bt137 => ((sums_Sum32.f k y134).bind fun bt139 => ((foghornlaw24_unlike.f k y127 y134).bind fun t141 => ((sums_Sum32.f k t141).bind fun bt144 => ((sums_Sum16.f k y127).bind fun bt146 => ((sums_Sum16.f k y134).bind fun bt148 => ((foghornlaw24_unlike.f k y127 y134).bind fun t150 => ((sums_Sum16.f k t150).bind fun bt153 => (if bt137.2 = 0 then (if bt139.2 = 0 then (if bt144.2 = 0 then (if bt146.2 = 0 then (if bt148.2 = 0 then (if bt153.2 = 0 then (if bt144.1 = (Go.bits .xor .u32 bt137.1 bt139.1) then (foghornlaw24_SumsLinear.j0 k a2 y127 bt137.1 bt146.1 (bt153.1 != (Go.bits .xor .u16 bt146.1 bt148.1))) else (foghornlaw24_SumsLinear.j0 k a2 y127 bt137.1 bt146.1 true)) else (foghornlaw24_SumsLinear.j0 k a2 y127 bt137.1 bt146.1 true)) else (foghornlaw24_SumsLinear.j0 k a2 y127 bt137.1 bt146.1 true)) else (foghornlaw24_SumsLinear.j0 k a2 y127 bt137.1 bt146.1 true)) else (foghornlaw24_SumsLinear.j0 k a2 y127 bt137.1 bt146.1 true)) else (foghornlaw24_SumsLinear.j0 k a2 y127 bt137.1 bt146.1 true)) else (foghornlaw24_SumsLinear.j0 k a2 y127 bt137.1 bt146.1 true)))))))))))) else (none)) else (none))) else (none)) else (none)
theorem foghornlaw24_SumsLinear.mono_l : ∀ k, (∀ y0 y1 y2 y3 y4, LeO (foghornlaw24_SumsLinear.j0 k y0 y1 y2 y3 y4) (foghornlaw24_SumsLinear.j0 (k + 1) y0 y1 y2 y3 y4)) ∧ (∀ y0 y1 y2 y3 y4, LeO (foghornlaw24_SumsLinear.j1 k y0 y1 y2 y3 y4) (foghornlaw24_SumsLinear.j1 (k + 1) y0 y1 y2 y3 y4)) ∧ (∀ y0 y1 y2, LeO (foghornlaw24_SumsLinear.j2 k y0 y1 y2) (foghornlaw24_SumsLinear.j2 (k + 1) y0 y1 y2)) ∧ (∀ y0 y1 y2 y3, LeO (foghornlaw24_SumsLinear.l0 k y0 y1 y2 y3) (foghornlaw24_SumsLinear.l0 (k + 1) y0 y1 y2 y3))
  | 0 => ⟨fun _ _ _ _ _ r h => by simp [foghornlaw24_SumsLinear.j0] at h, fun _ _ _ _ _ r h => by simp [foghornlaw24_SumsLinear.j1] at h, fun _ _ _ r h => by simp [foghornlaw24_SumsLinear.j2] at h, fun _ _ _ _ r h => by simp [foghornlaw24_SumsLinear.l0] at h⟩
  | k + 1 => by
    obtain ⟨ih0, ih1, ih2, ih3⟩ := foghornlaw24_SumsLinear.mono_l k
    refine ⟨?_, ?_, ?_, ?_⟩
    · intro y0 y1 y2 y3 y4
      unfold foghornlaw24_SumsLinear.j0
      repeat' first
      | (with_reducible exact ih0 _ _ _ _ _)
      | (with_reducible exact ih1 _ _ _ _ _)
      | (with_reducible exact ih2 _ _ _)
      | (with_reducible exact ih3 _ _ _ _)
      | (with_reducible exact foghornlaw24_awake.mono _)
      | (with_reducible exact foghornlaw24_unlike.mono _ _ _)
      | (with_reducible exact sums_Joined32.mono _ _ _ _)
      | (with_reducible exact sums_On16.mono _ _ _)
      | (with_reducible exact sums_Sum16.mono _ _)
      | (with_reducible exact sums_Sum32.mono _ _)
      | (with_reducible exact LeO.refl _)
      | (with_reducible exact LeO.none _)
      | (with_reducible refine LeO.ite ?_ ?_)
      | (with_reducible refine LeO.bind ?_ (fun _ => ?_))
      | exact ih0 _ _ _ _ _
      | exact ih1 _ _ _ _ _
      | exact ih2 _ _ _
      | exact ih3 _ _ _ _
      | exact foghornlaw24_awake.mono _
      | exact foghornlaw24_unlike.mono _ _ _
      | exact sums_Joined32.mono _ _ _ _
      | exact sums_On16.mono _ _ _
      | exact sums_Sum16.mono _ _
      | exact sums_Sum32.mono _ _
      | exact LeO.none _
      | refine LeO.ite ?_ ?_
      | refine LeO.bind ?_ (fun _ => ?_)
    · intro y0 y1 y2 y3 y4
      unfold foghornlaw24_SumsLinear.j1
      repeat' first
      | (with_reducible exact ih0 _ _ _ _ _)
      | (with_reducible exact ih1 _ _ _ _ _)
      | (with_reducible exact ih2 _ _ _)
      | (with_reducible exact ih3 _ _ _ _)
      | (with_reducible exact foghornlaw24_awake.mono _)
      | (with_reducible exact foghornlaw24_unlike.mono _ _ _)
      | (with_reducible exact sums_Joined32.mono _ _ _ _)
      | (with_reducible exact sums_On16.mono _ _ _)
      | (with_reducible exact sums_Sum16.mono _ _)
      | (with_reducible exact sums_Sum32.mono _ _)
      | (with_reducible exact LeO.refl _)
      | (with_reducible exact LeO.none _)
      | (with_reducible refine LeO.ite ?_ ?_)
      | (with_reducible refine LeO.bind ?_ (fun _ => ?_))
      | exact ih0 _ _ _ _ _
      | exact ih1 _ _ _ _ _
      | exact ih2 _ _ _
      | exact ih3 _ _ _ _
      | exact foghornlaw24_awake.mono _
      | exact foghornlaw24_unlike.mono _ _ _
      | exact sums_Joined32.mono _ _ _ _
      | exact sums_On16.mono _ _ _
      | exact sums_Sum16.mono _ _
      | exact sums_Sum32.mono _ _
      | exact LeO.none _
      | refine LeO.ite ?_ ?_
      | refine LeO.bind ?_ (fun _ => ?_)
    · intro y0 y1 y2
      unfold foghornlaw24_SumsLinear.j2
      repeat' first
      | (with_reducible exact ih0 _ _ _ _ _)
      | (with_reducible exact ih1 _ _ _ _ _)
      | (with_reducible exact ih2 _ _ _)
      | (with_reducible exact ih3 _ _ _ _)
      | (with_reducible exact foghornlaw24_awake.mono _)
      | (with_reducible exact foghornlaw24_unlike.mono _ _ _)
      | (with_reducible exact sums_Joined32.mono _ _ _ _)
      | (with_reducible exact sums_On16.mono _ _ _)
      | (with_reducible exact sums_Sum16.mono _ _)
      | (with_reducible exact sums_Sum32.mono _ _)
      | (with_reducible exact LeO.refl _)
      | (with_reducible exact LeO.none _)
      | (with_reducible refine LeO.ite ?_ ?_)
      | (with_reducible refine LeO.bind ?_ (fun _ => ?_))
      | exact ih0 _ _ _ _ _
      | exact ih1 _ _ _ _ _
      | exact ih2 _ _ _
      | exact ih3 _ _ _ _
      | exact foghornlaw24_awake.mono _
      | exact foghornlaw24_unlike.mono _ _ _
      | exact sums_Joined32.mono _ _ _ _
      | exact sums_On16.mono _ _ _
      | exact sums_Sum16.mono _ _
      | exact sums_Sum32.mono _ _
      | exact LeO.none _
      | refine LeO.ite ?_ ?_
      | refine LeO.bind ?_ (fun _ => ?_)
    · intro y0 y1 y2 y3
      unfold foghornlaw24_SumsLinear.l0
      repeat' first
      | (with_reducible exact ih0 _ _ _ _ _)
      | (with_reducible exact ih1 _ _ _ _ _)
      | (with_reducible exact ih2 _ _ _)
      | (with_reducible exact ih3 _ _ _ _)
      | (with_reducible exact foghornlaw24_awake.mono _)
      | (with_reducible exact foghornlaw24_unlike.mono _ _ _)
      | (with_reducible exact sums_Joined32.mono _ _ _ _)
      | (with_reducible exact sums_On16.mono _ _ _)
      | (with_reducible exact sums_Sum16.mono _ _)
      | (with_reducible exact sums_Sum32.mono _ _)
      | (with_reducible exact LeO.refl _)
      | (with_reducible exact LeO.none _)
      | (with_reducible refine LeO.ite ?_ ?_)
      | (with_reducible refine LeO.bind ?_ (fun _ => ?_))
      | exact ih0 _ _ _ _ _
      | exact ih1 _ _ _ _ _
      | exact ih2 _ _ _
      | exact ih3 _ _ _ _
      | exact foghornlaw24_awake.mono _
      | exact foghornlaw24_unlike.mono _ _ _
      | exact sums_Joined32.mono _ _ _ _
      | exact sums_On16.mono _ _ _
      | exact sums_Sum16.mono _ _
      | exact sums_Sum32.mono _ _
      | exact LeO.none _
      | refine LeO.ite ?_ ?_
      | refine LeO.bind ?_ (fun _ => ?_)
theorem foghornlaw24_SumsLinear.mono : ∀ a0 a1 a2 k, LeO (foghornlaw24_SumsLinear.f k a0 a1 a2) (foghornlaw24_SumsLinear.f (k + 1) a0 a1 a2) := by
  intro a0 a1 a2 k
  obtain ⟨ih0, ih1, ih2, ih3⟩ := foghornlaw24_SumsLinear.mono_l k
  unfold foghornlaw24_SumsLinear.f
  repeat' first
      | (with_reducible exact ih0 _ _ _ _ _)
      | (with_reducible exact ih1 _ _ _ _ _)
      | (with_reducible exact ih2 _ _ _)
      | (with_reducible exact ih3 _ _ _ _)
      | (with_reducible exact foghornlaw24_awake.mono _)
      | (with_reducible exact foghornlaw24_unlike.mono _ _ _)
      | (with_reducible exact sums_Joined32.mono _ _ _ _)
      | (with_reducible exact sums_On16.mono _ _ _)
      | (with_reducible exact sums_Sum16.mono _ _)
      | (with_reducible exact sums_Sum32.mono _ _)
      | (with_reducible exact LeO.refl _)
      | (with_reducible exact LeO.none _)
      | (with_reducible refine LeO.ite ?_ ?_)
      | (with_reducible refine LeO.bind ?_ (fun _ => ?_))
      | exact ih0 _ _ _ _ _
      | exact ih1 _ _ _ _ _
      | exact ih2 _ _ _
      | exact ih3 _ _ _ _
      | exact foghornlaw24_awake.mono _
      | exact foghornlaw24_unlike.mono _ _ _
      | exact sums_Joined32.mono _ _ _ _
      | exact sums_On16.mono _ _ _
      | exact sums_Sum16.mono _ _
      | exact sums_Sum32.mono _ _
      | exact LeO.none _
      | refine LeO.ite ?_ ?_
      | refine LeO.bind ?_ (fun _ => ?_)
set_option maxHeartbeats 8000000 in
set_option maxRecDepth 100000 in
theorem foghornlaw24_SumsLinear.calls (k : Nat) (A0 : Option Addr) (c0 : Nat) (l0 : List Bool) (A1 : Option Addr) (c1 : Nat) (l1 : List Bool) (a2 : Int) (r : Bool) (w : World) (hr0 : Kd.C Kd.bool w A0 l0.length l0) (hc0 : l0.length ≤ c0) (hr1 : Kd.C Kd.bool w A1 l1.length l1) (hc1 : l1.length ≤ c1) (h : foghornlaw24_SumsLinear.f k l0 l1 a2 = some r) (ho_ : r = true := by rfl) :
    Calls Try.prog 3 #[.slice A0 l0.length c0, .slice A1 l1.length c1, .int .u16 a2] w fun e w' => e = .returned (.bool r) ∧ Below w.heap.size w w' := by
  subst ho_
  have HR0 := Aside0.mk hr0
  have HC0 := Aside0.mk hc0
  clear hr0 hc0
  have HR1 := Aside0.mk hr1
  have HC1 := Aside0.mk hc1
  clear hr1 hc1
  have HB := Aside0.mk (Below.refl w.heap.size w)
  have H : (if 0 ≤ (mn (l0.length : Int) 300) then (if (mn (l0.length : Int) 300) ≤ (l0.length : Int) then ((some (l0.take ((mn (l0.length : Int) 300) : Int).toNat : List Bool)).bind fun y127 => (if 0 ≤ (y127.length : Int) then (if ((y127.length : Int) : Int).toNat ≤ 281474976710656 then ((some (List.replicate ((y127.length : Int) : Int).toNat false : List Bool)).bind fun y131 => ((some (l1.take (min l1.length y131.length) ++ y131.drop (min l1.length y131.length) : List Bool)).bind fun y134 => ((sums_Sum32.f k y127).bind fun bt137 => ((sums_Sum32.f k y134).bind fun bt139 => ((foghornlaw24_unlike.f k y127 y134).bind fun t141 => ((sums_Sum32.f k t141).bind fun bt144 => ((sums_Sum16.f k y127).bind fun bt146 => ((sums_Sum16.f k y134).bind fun bt148 => ((foghornlaw24_unlike.f k y127 y134).bind fun t150 => ((sums_Sum16.f k t150).bind fun bt153 => (if bt137.2 = 0 then (if bt139.2 = 0 then (if bt144.2 = 0 then (if bt146.2 = 0 then (if bt148.2 = 0 then (if bt153.2 = 0 then (if bt144.1 = (Go.bits .xor .u32 bt137.1 bt139.1) then (foghornlaw24_SumsLinear.j0 k a2 y127 bt137.1 bt146.1 (bt153.1 != (Go.bits .xor .u16 bt146.1 bt148.1))) else (foghornlaw24_SumsLinear.j0 k a2 y127 bt137.1 bt146.1 true)) else (foghornlaw24_SumsLinear.j0 k a2 y127 bt137.1 bt146.1 true)) else (foghornlaw24_SumsLinear.j0 k a2 y127 bt137.1 bt146.1 true)) else (foghornlaw24_SumsLinear.j0 k a2 y127 bt137.1 bt146.1 true)) else (foghornlaw24_SumsLinear.j0 k a2 y127 bt137.1 bt146.1 true)) else (foghornlaw24_SumsLinear.j0 k a2 y127 bt137.1 bt146.1 true)) else (foghornlaw24_SumsLinear.j0 k a2 y127 bt137.1 bt146.1 true)))))))))))) else (none)) else (none))) else (none)) else (none)) = some true := h
  clear h
  obtain ⟨ji4, hji4⟩ : ∃ j_ : Int, (mn (l0.length : Int) 300) = j_ := ⟨_, rfl⟩
  replace H : (if 0 ≤ (ji4) then (if (ji4) ≤ (l0.length : Int) then ((some (l0.take ((ji4) : Int).toNat : List Bool)).bind fun y127 => (if 0 ≤ (y127.length : Int) then (if ((y127.length : Int) : Int).toNat ≤ 281474976710656 then ((some (List.replicate ((y127.length : Int) : Int).toNat false : List Bool)).bind fun y131 => ((some (l1.take (min l1.length y131.length) ++ y131.drop (min l1.length y131.length) : List Bool)).bind fun y134 => ((sums_Sum32.f k y127).bind fun bt137 => ((sums_Sum32.f k y134).bind fun bt139 => ((foghornlaw24_unlike.f k y127 y134).bind fun t141 => ((sums_Sum32.f k t141).bind fun bt144 => ((sums_Sum16.f k y127).bind fun bt146 => ((sums_Sum16.f k y134).bind fun bt148 => ((foghornlaw24_unlike.f k y127 y134).bind fun t150 => ((sums_Sum16.f k t150).bind fun bt153 => (if bt137.2 = 0 then (if bt139.2 = 0 then (if bt144.2 = 0 then (if bt146.2 = 0 then (if bt148.2 = 0 then (if bt153.2 = 0 then (if bt144.1 = (Go.bits .xor .u32 bt137.1 bt139.1) then (foghornlaw24_SumsLinear.j0 k a2 y127 bt137.1 bt146.1 (bt153.1 != (Go.bits .xor .u16 bt146.1 bt148.1))) else (foghornlaw24_SumsLinear.j0 k a2 y127 bt137.1 bt146.1 true)) else (foghornlaw24_SumsLinear.j0 k a2 y127 bt137.1 bt146.1 true)) else (foghornlaw24_SumsLinear.j0 k a2 y127 bt137.1 bt146.1 true)) else (foghornlaw24_SumsLinear.j0 k a2 y127 bt137.1 bt146.1 true)) else (foghornlaw24_SumsLinear.j0 k a2 y127 bt137.1 bt146.1 true)) else (foghornlaw24_SumsLinear.j0 k a2 y127 bt137.1 bt146.1 true)) else (foghornlaw24_SumsLinear.j0 k a2 y127 bt137.1 bt146.1 true)))))))))))) else (none)) else (none))) else (none)) else (none)) = some true := by first | (rw [hji4] at H; exact H) | (simp only [hji4] at H ⊢; exact H)
  (try (have hji4h : ji4 ≤ 300 := by (rw [← hji4]; unfold mn; (repeat' split) <;> omega)))
  (try (have hji4g : ji4 ≤ 64 := by omega))
  (try (have hji4l : 0 ≤ ji4 := by (rw [← hji4]; unfold mn; (repeat' split) <;> omega)))
  (try (have hji4m : 0 ≤ ji4 := by omega))
  have hji4_ : (if 300 < (l0.length : Int) then 300 else (l0.length : Int)) = ji4 := hji4
  by_cases c5 : 0 ≤ (ji4)
  · rw [if_pos c5] at H
    have c5b0 := eq_true c5
    have c5b1 : decide (0 ≤ (ji4)) = true := decide_eq_true c5
    clear c5
    by_cases c6 : (ji4) ≤ (l0.length : Int)
    · rw [if_pos c6] at H
      have c6b0 := eq_true c6
      have c6b1 : decide ((ji4) ≤ (l0.length : Int)) = true := decide_eq_true c6
      clear c6
      obtain ⟨y127, hy127⟩ : ∃ y_ : List Bool, y_ = (l0.take ((ji4) : Int).toNat) := ⟨_, rfl⟩
      replace H : (if 0 ≤ (y127.length : Int) then (if ((y127.length : Int) : Int).toNat ≤ 281474976710656 then ((some (List.replicate ((y127.length : Int) : Int).toNat false : List Bool)).bind fun y131 => ((some (l1.take (min l1.length y131.length) ++ y131.drop (min l1.length y131.length) : List Bool)).bind fun y134 => ((sums_Sum32.f k y127).bind fun bt137 => ((sums_Sum32.f k y134).bind fun bt139 => ((foghornlaw24_unlike.f k y127 y134).bind fun t141 => ((sums_Sum32.f k t141).bind fun bt144 => ((sums_Sum16.f k y127).bind fun bt146 => ((sums_Sum16.f k y134).bind fun bt148 => ((foghornlaw24_unlike.f k y127 y134).bind fun t150 => ((sums_Sum16.f k t150).bind fun bt153 => (if bt137.2 = 0 then (if bt139.2 = 0 then (if bt144.2 = 0 then (if bt146.2 = 0 then (if bt148.2 = 0 then (if bt153.2 = 0 then (if bt144.1 = (Go.bits .xor .u32 bt137.1 bt139.1) then (foghornlaw24_SumsLinear.j0 k a2 y127 bt137.1 bt146.1 (bt153.1 != (Go.bits .xor .u16 bt146.1 bt148.1))) else (foghornlaw24_SumsLinear.j0 k a2 y127 bt137.1 bt146.1 true)) else (foghornlaw24_SumsLinear.j0 k a2 y127 bt137.1 bt146.1 true)) else (foghornlaw24_SumsLinear.j0 k a2 y127 bt137.1 bt146.1 true)) else (foghornlaw24_SumsLinear.j0 k a2 y127 bt137.1 bt146.1 true)) else (foghornlaw24_SumsLinear.j0 k a2 y127 bt137.1 bt146.1 true)) else (foghornlaw24_SumsLinear.j0 k a2 y127 bt137.1 bt146.1 true)) else (foghornlaw24_SumsLinear.j0 k a2 y127 bt137.1 bt146.1 true)))))))))))) else (none)) else (none)) = some true := by first | (rw [hy127]; with_reducible exact H) | (have H2_ := (Option.bind_some _ _).symm.trans H; rw [hy127]; with_reducible exact H2_) | (have H2_ := (Option.bind_some _ _).symm.trans H; with_reducible exact H2_) | with_reducible exact H | (rw [hy127]; exact H) | exact H
      have Ny127 := Aside0.mk hy127
      clear hy127
      by_cases c7 : 0 ≤ (y127.length : Int)
      · rw [if_pos c7] at H
        have c7b0 := eq_true c7
        have c7b1 : decide (0 ≤ (y127.length : Int)) = true := decide_eq_true c7
        clear c7
        by_cases c8 : ((y127.length : Int) : Int).toNat ≤ 281474976710656
        · rw [if_pos c8] at H
          have c8b0 := eq_true c8
          have c8b1 : decide (((y127.length : Int) : Int).toNat ≤ 281474976710656) = true := decide_eq_true c8
          clear c8
          obtain ⟨y131, hy131⟩ : ∃ y_ : List Bool, y_ = (List.replicate ((y127.length : Int) : Int).toNat false) := ⟨_, rfl⟩
          replace H : ((some (l1.take (min l1.length y131.length) ++ y131.drop (min l1.length y131.length) : List Bool)).bind fun y134 => ((sums_Sum32.f k y127).bind fun bt137 => ((sums_Sum32.f k y134).bind fun bt139 => ((foghornlaw24_unlike.f k y127 y134).bind fun t141 => ((sums_Sum32.f k t141).bind fun bt144 => ((sums_Sum16.f k y127).bind fun bt146 => ((sums_Sum16.f k y134).bind fun bt148 => ((foghornlaw24_unlike.f k y127 y134).bind fun t150 => ((sums_Sum16.f k t150).bind fun bt153 => (if bt137.2 = 0 then (if bt139.2 = 0 then (if bt144.2 = 0 then (if bt146.2 = 0 then (if bt148.2 = 0 then (if bt153.2 = 0 then (if bt144.1 = (Go.bits .xor .u32 bt137.1 bt139.1) then (foghornlaw24_SumsLinear.j0 k a2 y127 bt137.1 bt146.1 (bt153.1 != (Go.bits .xor .u16 bt146.1 bt148.1))) else (foghornlaw24_SumsLinear.j0 k a2 y127 bt137.1 bt146.1 true)) else (foghornlaw24_SumsLinear.j0 k a2 y127 bt137.1 bt146.1 true)) else (foghornlaw24_SumsLinear.j0 k a2 y127 bt137.1 bt146.1 true)) else (foghornlaw24_SumsLinear.j0 k a2 y127 bt137.1 bt146.1 true)) else (foghornlaw24_SumsLinear.j0 k a2 y127 bt137.1 bt146.1 true)) else (foghornlaw24_SumsLinear.j0 k a2 y127 bt137.1 bt146.1 true)) else (foghornlaw24_SumsLinear.j0 k a2 y127 bt137.1 bt146.1 true))))))))))) = some true := by first | (rw [hy131]; with_reducible exact H) | (have H2_ := (Option.bind_some _ _).symm.trans H; rw [hy131]; with_reducible exact H2_) | (have H2_ := (Option.bind_some _ _).symm.trans H; with_reducible exact H2_) | with_reducible exact H | (rw [hy131]; exact H) | exact H
          have Ny131 := Aside0.mk hy131
          clear hy131
          obtain ⟨y134, hy134⟩ : ∃ y_ : List Bool, y_ = (l1.take (min l1.length y131.length) ++ y131.drop (min l1.length y131.length)) := ⟨_, rfl⟩
          replace H : ((sums_Sum32.f k y127).bind fun bt137 => ((sums_Sum32.f k y134).bind fun bt139 => ((foghornlaw24_unlike.f k y127 y134).bind fun t141 => ((sums_Sum32.f k t141).bind fun bt144 => ((sums_Sum16.f k y127).bind fun bt146 => ((sums_Sum16.f k y134).bind fun bt148 => ((foghornlaw24_unlike.f k y127 y134).bind fun t150 => ((sums_Sum16.f k t150).bind fun bt153 => (if bt137.2 = 0 then (if bt139.2 = 0 then (if bt144.2 = 0 then (if bt146.2 = 0 then (if bt148.2 = 0 then (if bt153.2 = 0 then (if bt144.1 = (Go.bits .xor .u32 bt137.1 bt139.1) then (foghornlaw24_SumsLinear.j0 k a2 y127 bt137.1 bt146.1 (bt153.1 != (Go.bits .xor .u16 bt146.1 bt148.1))) else (foghornlaw24_SumsLinear.j0 k a2 y127 bt137.1 bt146.1 true)) else (foghornlaw24_SumsLinear.j0 k a2 y127 bt137.1 bt146.1 true)) else (foghornlaw24_SumsLinear.j0 k a2 y127 bt137.1 bt146.1 true)) else (foghornlaw24_SumsLinear.j0 k a2 y127 bt137.1 bt146.1 true)) else (foghornlaw24_SumsLinear.j0 k a2 y127 bt137.1 bt146.1 true)) else (foghornlaw24_SumsLinear.j0 k a2 y127 bt137.1 bt146.1 true)) else (foghornlaw24_SumsLinear.j0 k a2 y127 bt137.1 bt146.1 true)))))))))) = some true := by first | (rw [hy134]; with_reducible exact H) | (have H2_ := (Option.bind_some _ _).symm.trans H; rw [hy134]; with_reducible exact H2_) | (have H2_ := (Option.bind_some _ _).symm.trans H; with_reducible exact H2_) | with_reducible exact H | (rw [hy134]; exact H) | exact H
          have Ny134 := Aside0.mk hy134
          clear hy134
          replace H := Option.bind_eq_some_iff.mp H
          obtain ⟨⟨t137, t138⟩, A90, H⟩ := H
          replace H : ((sums_Sum32.f k y134).bind fun bt139 => ((foghornlaw24_unlike.f k y127 y134).bind fun t141 => ((sums_Sum32.f k t141).bind fun bt144 => ((sums_Sum16.f k y127).bind fun bt146 => ((sums_Sum16.f k y134).bind fun bt148 => ((foghornlaw24_unlike.f k y127 y134).bind fun t150 => ((sums_Sum16.f k t150).bind fun bt153 => (if t138 = 0 then (if bt139.2 = 0 then (if bt144.2 = 0 then (if bt146.2 = 0 then (if bt148.2 = 0 then (if bt153.2 = 0 then (if bt144.1 = (Go.bits .xor .u32 t137 bt139.1) then (foghornlaw24_SumsLinear.j0 k a2 y127 t137 bt146.1 (bt153.1 != (Go.bits .xor .u16 bt146.1 bt148.1))) else (foghornlaw24_SumsLinear.j0 k a2 y127 t137 bt146.1 true)) else (foghornlaw24_SumsLinear.j0 k a2 y127 t137 bt146.1 true)) else (foghornlaw24_SumsLinear.j0 k a2 y127 t137 bt146.1 true)) else (foghornlaw24_SumsLinear.j0 k a2 y127 t137 bt146.1 true)) else (foghornlaw24_SumsLinear.j0 k a2 y127 t137 bt146.1 true)) else (foghornlaw24_SumsLinear.j0 k a2 y127 t137 bt146.1 true)) else (foghornlaw24_SumsLinear.j0 k a2 y127 t137 bt146.1 true))))))))) = some true := H
          have A9 := Aside0.mk A90
          clear A90
          replace H := Option.bind_eq_some_iff.mp H
          obtain ⟨⟨t139, t140⟩, A100, H⟩ := H
          replace H : ((foghornlaw24_unlike.f k y127 y134).bind fun t141 => ((sums_Sum32.f k t141).bind fun bt144 => ((sums_Sum16.f k y127).bind fun bt146 => ((sums_Sum16.f k y134).bind fun bt148 => ((foghornlaw24_unlike.f k y127 y134).bind fun t150 => ((sums_Sum16.f k t150).bind fun bt153 => (if t138 = 0 then (if t140 = 0 then (if bt144.2 = 0 then (if bt146.2 = 0 then (if bt148.2 = 0 then (if bt153.2 = 0 then (if bt144.1 = (Go.bits .xor .u32 t137 t139) then (foghornlaw24_SumsLinear.j0 k a2 y127 t137 bt146.1 (bt153.1 != (Go.bits .xor .u16 bt146.1 bt148.1))) else (foghornlaw24_SumsLinear.j0 k a2 y127 t137 bt146.1 true)) else (foghornlaw24_SumsLinear.j0 k a2 y127 t137 bt146.1 true)) else (foghornlaw24_SumsLinear.j0 k a2 y127 t137 bt146.1 true)) else (foghornlaw24_SumsLinear.j0 k a2 y127 t137 bt146.1 true)) else (foghornlaw24_SumsLinear.j0 k a2 y127 t137 bt146.1 true)) else (foghornlaw24_SumsLinear.j0 k a2 y127 t137 bt146.1 true)) else (foghornlaw24_SumsLinear.j0 k a2 y127 t137 bt146.1 true)))))))) = some true := H
          have A10 := Aside0.mk A100
          clear A100
          replace H := Option.bind_eq_some_iff.mp H
          obtain ⟨t141, A110, H⟩ := H
          replace H : ((sums_Sum32.f k t141).bind fun bt144 => ((sums_Sum16.f k y127).bind fun bt146 => ((sums_Sum16.f k y134).bind fun bt148 => ((foghornlaw24_unlike.f k y127 y134).bind fun t150 => ((sums_Sum16.f k t150).bind fun bt153 => (if t138 = 0 then (if t140 = 0 then (if bt144.2 = 0 then (if bt146.2 = 0 then (if bt148.2 = 0 then (if bt153.2 = 0 then (if bt144.1 = (Go.bits .xor .u32 t137 t139) then (foghornlaw24_SumsLinear.j0 k a2 y127 t137 bt146.1 (bt153.1 != (Go.bits .xor .u16 bt146.1 bt148.1))) else (foghornlaw24_SumsLinear.j0 k a2 y127 t137 bt146.1 true)) else (foghornlaw24_SumsLinear.j0 k a2 y127 t137 bt146.1 true)) else (foghornlaw24_SumsLinear.j0 k a2 y127 t137 bt146.1 true)) else (foghornlaw24_SumsLinear.j0 k a2 y127 t137 bt146.1 true)) else (foghornlaw24_SumsLinear.j0 k a2 y127 t137 bt146.1 true)) else (foghornlaw24_SumsLinear.j0 k a2 y127 t137 bt146.1 true)) else (foghornlaw24_SumsLinear.j0 k a2 y127 t137 bt146.1 true))))))) = some true := H
          have A11 := Aside0.mk A110
          clear A110
          replace H := Option.bind_eq_some_iff.mp H
          obtain ⟨⟨t144, t145⟩, A120, H⟩ := H
          replace H : ((sums_Sum16.f k y127).bind fun bt146 => ((sums_Sum16.f k y134).bind fun bt148 => ((foghornlaw24_unlike.f k y127 y134).bind fun t150 => ((sums_Sum16.f k t150).bind fun bt153 => (if t138 = 0 then (if t140 = 0 then (if t145 = 0 then (if bt146.2 = 0 then (if bt148.2 = 0 then (if bt153.2 = 0 then (if t144 = (Go.bits .xor .u32 t137 t139) then (foghornlaw24_SumsLinear.j0 k a2 y127 t137 bt146.1 (bt153.1 != (Go.bits .xor .u16 bt146.1 bt148.1))) else (foghornlaw24_SumsLinear.j0 k a2 y127 t137 bt146.1 true)) else (foghornlaw24_SumsLinear.j0 k a2 y127 t137 bt146.1 true)) else (foghornlaw24_SumsLinear.j0 k a2 y127 t137 bt146.1 true)) else (foghornlaw24_SumsLinear.j0 k a2 y127 t137 bt146.1 true)) else (foghornlaw24_SumsLinear.j0 k a2 y127 t137 bt146.1 true)) else (foghornlaw24_SumsLinear.j0 k a2 y127 t137 bt146.1 true)) else (foghornlaw24_SumsLinear.j0 k a2 y127 t137 bt146.1 true)))))) = some true := H
          have A12 := Aside0.mk A120
          clear A120
          replace H := Option.bind_eq_some_iff.mp H
          obtain ⟨⟨t146, t147⟩, A130, H⟩ := H
          replace H : ((sums_Sum16.f k y134).bind fun bt148 => ((foghornlaw24_unlike.f k y127 y134).bind fun t150 => ((sums_Sum16.f k t150).bind fun bt153 => (if t138 = 0 then (if t140 = 0 then (if t145 = 0 then (if t147 = 0 then (if bt148.2 = 0 then (if bt153.2 = 0 then (if t144 = (Go.bits .xor .u32 t137 t139) then (foghornlaw24_SumsLinear.j0 k a2 y127 t137 t146 (bt153.1 != (Go.bits .xor .u16 t146 bt148.1))) else (foghornlaw24_SumsLinear.j0 k a2 y127 t137 t146 true)) else (foghornlaw24_SumsLinear.j0 k a2 y127 t137 t146 true)) else (foghornlaw24_SumsLinear.j0 k a2 y127 t137 t146 true)) else (foghornlaw24_SumsLinear.j0 k a2 y127 t137 t146 true)) else (foghornlaw24_SumsLinear.j0 k a2 y127 t137 t146 true)) else (foghornlaw24_SumsLinear.j0 k a2 y127 t137 t146 true)) else (foghornlaw24_SumsLinear.j0 k a2 y127 t137 t146 true))))) = some true := H
          have A13 := Aside0.mk A130
          clear A130
          replace H := Option.bind_eq_some_iff.mp H
          obtain ⟨⟨t148, t149⟩, A140, H⟩ := H
          replace H : ((foghornlaw24_unlike.f k y127 y134).bind fun t150 => ((sums_Sum16.f k t150).bind fun bt153 => (if t138 = 0 then (if t140 = 0 then (if t145 = 0 then (if t147 = 0 then (if t149 = 0 then (if bt153.2 = 0 then (if t144 = (Go.bits .xor .u32 t137 t139) then (foghornlaw24_SumsLinear.j0 k a2 y127 t137 t146 (bt153.1 != (Go.bits .xor .u16 t146 t148))) else (foghornlaw24_SumsLinear.j0 k a2 y127 t137 t146 true)) else (foghornlaw24_SumsLinear.j0 k a2 y127 t137 t146 true)) else (foghornlaw24_SumsLinear.j0 k a2 y127 t137 t146 true)) else (foghornlaw24_SumsLinear.j0 k a2 y127 t137 t146 true)) else (foghornlaw24_SumsLinear.j0 k a2 y127 t137 t146 true)) else (foghornlaw24_SumsLinear.j0 k a2 y127 t137 t146 true)) else (foghornlaw24_SumsLinear.j0 k a2 y127 t137 t146 true)))) = some true := H
          have A14 := Aside0.mk A140
          clear A140
          replace H := Option.bind_eq_some_iff.mp H
          obtain ⟨t150, A150, H⟩ := H
          replace H : ((sums_Sum16.f k t150).bind fun bt153 => (if t138 = 0 then (if t140 = 0 then (if t145 = 0 then (if t147 = 0 then (if t149 = 0 then (if bt153.2 = 0 then (if t144 = (Go.bits .xor .u32 t137 t139) then (foghornlaw24_SumsLinear.j0 k a2 y127 t137 t146 (bt153.1 != (Go.bits .xor .u16 t146 t148))) else (foghornlaw24_SumsLinear.j0 k a2 y127 t137 t146 true)) else (foghornlaw24_SumsLinear.j0 k a2 y127 t137 t146 true)) else (foghornlaw24_SumsLinear.j0 k a2 y127 t137 t146 true)) else (foghornlaw24_SumsLinear.j0 k a2 y127 t137 t146 true)) else (foghornlaw24_SumsLinear.j0 k a2 y127 t137 t146 true)) else (foghornlaw24_SumsLinear.j0 k a2 y127 t137 t146 true)) else (foghornlaw24_SumsLinear.j0 k a2 y127 t137 t146 true))) = some true := H
          have A15 := Aside0.mk A150
          clear A150
          replace H := Option.bind_eq_some_iff.mp H
          obtain ⟨⟨t153, t154⟩, A160, H⟩ := H
          replace H : (if t138 = 0 then (if t140 = 0 then (if t145 = 0 then (if t147 = 0 then (if t149 = 0 then (if t154 = 0 then (if t144 = (Go.bits .xor .u32 t137 t139) then (foghornlaw24_SumsLinear.j0 k a2 y127 t137 t146 (t153 != (Go.bits .xor .u16 t146 t148))) else (foghornlaw24_SumsLinear.j0 k a2 y127 t137 t146 true)) else (foghornlaw24_SumsLinear.j0 k a2 y127 t137 t146 true)) else (foghornlaw24_SumsLinear.j0 k a2 y127 t137 t146 true)) else (foghornlaw24_SumsLinear.j0 k a2 y127 t137 t146 true)) else (foghornlaw24_SumsLinear.j0 k a2 y127 t137 t146 true)) else (foghornlaw24_SumsLinear.j0 k a2 y127 t137 t146 true)) else (foghornlaw24_SumsLinear.j0 k a2 y127 t137 t146 true)) = some true := H
          have A16 := Aside0.mk A160
          clear A160
          have HC17 := Aside0.mk H
          clear H
          have q18 : ((ji4) : Int) ≤ ((l0.length : Int) : Int) := of_decide_eq_true (by first | (with_reducible assumption) | assumption)
          obtain ⟨i018, hi018, _, hsz18, _⟩ := info_parts info4
          have hroom18 : l0.length ≤ c0 := HC0.out
          have hC18 : Kd.C Kd.bool _ A0 l0.length l0 := HR0.out
          have hcut18 := cut_to (P := Try.prog) 22 4 .i64 Try.underlying22 hi018 A0 l0.length c0 (ji4) (of_decide_eq_true (by first | (with_reducible assumption) | assumption)) q18 hroom18
          have hr18 := Kd.C_take (m := ((ji4) : Int).toNat) hC18 (by omega)
          have hy18 : y127.length = ((ji4) : Int).toNat := (by rw [Ny127.out, List.length_take]; omega)
          rw [← Ny127.out] at hr18
          rw [← hy18] at hcut18
          have HR130 := Aside0.mk hr18
          have HC130 := Aside0.mk (show y127.length ≤ c0 from by omega)
          clear hr18 hC18 hroom18 hi018 hsz18
          have KY18 := Aside0.mk hy18
          clear hy18
          replace q18 := eq_true q18
          go_enter Try.func3, Try.ntmps3
          go_upto_region 10 with (first | ((with_reducible refine gate_dst (N := 41) rfl ?_); refine Kd.R_make Kd.bool _ 4 rfl (N := 41) rfl 22 _ _ rfl (y127.length : Int) rfl rfl Try.underlying22 (.bool false) 1 info4 rfl (by decide) (by omega) false (ok := fun _ => True) (okp := fun _ => True) rfl (fun _ hk => hk) trivial (of_decide_eq_true (by first | (with_reducible assumption) | assumption)) (Nat.le_trans (Nat.mul_le_mul_right _ (of_decide_eq_true (by first | (with_reducible assumption) | assumption) : (y127.length : Int).toNat ≤ 281474976710656)) (by omega)) (Below.refl _ _) (Nat.le_refl _) ?_; intro v132 w19 ho20 hb hg_ hnew_; clear hg_ hnew_; (first | rw [← Ny131.out] at ho20 | (simp only [Int.reduceToNat] at ho20; rw [← Ny131.out] at ho20)); have n0_ := Aside0.mk (Kd.R_lower ho20 (below_size (by repeat (first | (with_reducible first | exact HB.out | apply below_alloc | apply pw_below_drewN | apply below_drew1) | exact HB.out)))); have n1_ := Aside0.mk (below_step (by repeat (first | (with_reducible first | exact HB.out | apply below_alloc | apply pw_below_drewN | apply below_drew1) | exact HB.out)) hb); clear HB; have HO133 := n0_; have HB := n1_; clear n0_ n1_; clear hb ho20) | ((with_reducible refine gate_builtin (b := .copy) (xs := #[.tmp 42, .tmp 43]) rfl ?_); refine Kd.R_copy (enc := Value.bool) (h1 := fun _ => rfl) (w0 := w) false w.heap.size rfl (.tmp 42) (.tmp 43) 22 22 4 rfl Try.underlying22 (by kernel_rfl) v132 y131 l1 _ _ _ (fun _ => True) rfl rfl ?aO ?aR ?aB ?aS ?_; (case aR => repeat (first | exact (Kd.C_below HR1.out HB.out) | (with_reducible refine Kd.C_alloc ?_ _) | (with_reducible refine Kd.C_drewN ?_ _) | (with_reducible refine Kd.C_drew ?_))); (case aB => exact (by repeat (first | (with_reducible first | exact HB.out | apply below_alloc | apply pw_below_drewN | apply below_drew1) | exact HB.out))); (case aO => exact (by (with_reducible repeat (first | apply Kd.R_alloc | apply Kd.R_drewN | apply Kd.R_drew)); exact HO133.out)); (case aS => exact (below_size (by repeat (first | (with_reducible first | exact HB.out | apply below_alloc | apply pw_below_drewN | apply below_drew1) | exact HB.out)))); intro w21 ho hb hg; have hat : (v132 : Value).ownBlock = (v132 : Value).ownBlock ∨ ∃ b, (v132 : Value).ownBlock = some b ∧ w.heap.size ≤ b := .inl rfl; rw [← Ny134.out] at ho; have n0_ := Aside0.mk (hb); have n1_ := Aside0.mk (ho); clear HB; clear HO133; have HB := n0_; have HO136 := n1_; clear n0_ n1_; clear ho hb hg hat) | ((with_reducible refine gate_callee (f := 8) rfl ?_); refine goesL_ (some 47) rfl rfl Try.func8 (by kernel_rfl) rfl #[.slice A0 y127.length c0] rfl (by (try simp only [List.map_toArray, List.map_cons, List.map_nil]); first | done | rfl | (simp only [List.length_drop, List.length_take]; rfl)) ?_; (with_reducible refine (sums_Sum32.calls k _ _ y127 t137 t138 _ ?side1 ?side2 A9.out).mono ?_); (case side1 => repeat (first | exact (Kd.C_below HR130.out HB.out) | (with_reducible refine Kd.C_alloc ?_ _) | (with_reducible refine Kd.C_drewN ?_ _) | (with_reducible refine Kd.C_drew ?_))); (case side2 => exact HC130.out); rintro e w' ⟨rfl, ⟨nd, rfl⟩⟩; refine ⟨_, rfl, ?_⟩; obtain ⟨Ao22, co22, eo22⟩ := Kd.R_slice HO136.out; subst eo22) | ((with_reducible refine gate_callee (f := 8) rfl ?_); refine goesL_ (some 52) rfl rfl Try.func8 (by kernel_rfl) rfl #[.slice Ao22 y134.length co22] rfl (by (try simp only [List.map_toArray, List.map_cons, List.map_nil]); first | done | rfl | (simp only [List.length_drop, List.length_take]; rfl)) ?_; (with_reducible refine (sums_Sum32.calls k _ _ y134 t139 t140 _ ?side1 ?side2 A10.out).mono ?_); (case side1 => repeat (first | exact (Kd.R_reads' HO136.out).2.2 | (with_reducible refine Kd.C_alloc ?_ _) | (with_reducible refine Kd.C_drewN ?_ _) | (with_reducible refine Kd.C_drew ?_))); (case side2 => exact (Kd.R_reads' HO136.out).2.1); rintro e w' ⟨rfl, ⟨nd, rfl⟩⟩; refine ⟨_, rfl, ?_⟩) | ((with_reducible refine gate_callee (f := 9) rfl ?_); refine goesL_ (some 58) rfl rfl Try.func9 (by kernel_rfl) rfl #[.slice A0 y127.length c0, .slice Ao22 y134.length co22] rfl (by (try simp only [List.map_toArray, List.map_cons, List.map_nil]); first | done | rfl | (simp only [List.length_drop, List.length_take]; rfl)) ?_; (with_reducible refine (foghornlaw24_unlike.calls k _ _ y127 _ _ y134 t141 _ ?side1 ?side2 ?side3 ?side4 A11.out).mono ?_); (case side1 => repeat (first | exact (Kd.C_below HR130.out (by repeat (first | (with_reducible first | exact HB.out | apply below_alloc | apply pw_below_drewN | apply below_drew1) | exact HB.out))) | (with_reducible refine Kd.C_alloc ?_ _) | (with_reducible refine Kd.C_drewN ?_ _) | (with_reducible refine Kd.C_drew ?_))); (case side2 => exact HC130.out); (case side3 => repeat (first | exact (Kd.R_reads' HO136.out).2.2 | (with_reducible refine Kd.C_alloc ?_ _) | (with_reducible refine Kd.C_drewN ?_ _) | (with_reducible refine Kd.C_drew ?_))); (case side4 => exact (Kd.R_reads' HO136.out).2.1); rintro e w23 ⟨v142, rfl, ho0, hb⟩; refine ⟨_, rfl, ?_⟩; have n0_ := Aside0.mk (Kd.R_elder' (by (with_reducible repeat (first | apply Kd.R_alloc | apply Kd.R_drewN | apply Kd.R_drew)); exact HO136.out) (Kd.R_base ho0) hb); have n1_ := Aside0.mk (Kd.R_lower (Kd.R_new' ho0 (Kd.R_lt (by (with_reducible repeat (first | apply Kd.R_alloc | apply Kd.R_drewN | apply Kd.R_drew)); exact HO136.out))) (below_size (by repeat (first | (with_reducible first | exact HB.out | apply below_alloc | apply pw_below_drewN | apply below_drew1) | exact HB.out)))); have n2_ := Aside0.mk (below_step (by repeat (first | (with_reducible first | exact HB.out | apply below_alloc | apply pw_below_drewN | apply below_drew1) | exact HB.out)) hb); clear HO136; clear HB; have HO136 := n0_; have HO143 := n1_; have HB := n2_; clear n0_ n1_ n2_; (try clear hb); (try clear hb2); (try clear hk); (try clear hi); (try clear ho0); obtain ⟨Ao24, co24, eo24⟩ := Kd.R_slice HO143.out; subst eo24) | ((with_reducible refine gate_callee (f := 8) rfl ?_); refine goesL_ (some 59) rfl rfl Try.func8 (by kernel_rfl) rfl #[.slice Ao24 t141.length co24] rfl (by (try simp only [List.map_toArray, List.map_cons, List.map_nil]); first | done | rfl | (simp only [List.length_drop, List.length_take]; rfl)) ?_; (with_reducible refine (sums_Sum32.calls k _ _ t141 t144 t145 _ ?side1 ?side2 A12.out).mono ?_); (case side1 => repeat (first | exact (Kd.R_reads' HO143.out).2.2 | (with_reducible refine Kd.C_alloc ?_ _) | (with_reducible refine Kd.C_drewN ?_ _) | (with_reducible refine Kd.C_drew ?_))); (case side2 => exact (Kd.R_reads' HO143.out).2.1); rintro e w' ⟨rfl, ⟨nd, rfl⟩⟩; refine ⟨_, rfl, ?_⟩) | ((with_reducible refine gate_callee (f := 10) rfl ?_); refine goesL_ (some 64) rfl rfl Try.func10 (by kernel_rfl) rfl #[.slice A0 y127.length c0] rfl (by (try simp only [List.map_toArray, List.map_cons, List.map_nil]); first | done | rfl | (simp only [List.length_drop, List.length_take]; rfl)) ?_; (with_reducible refine (sums_Sum16.calls k _ _ y127 t146 t147 _ ?side1 ?side2 A13.out).mono ?_); (case side1 => repeat (first | exact (Kd.C_below HR130.out (by repeat (first | (with_reducible first | exact HB.out | apply below_alloc | apply pw_below_drewN | apply below_drew1) | exact HB.out))) | (with_reducible refine Kd.C_alloc ?_ _) | (with_reducible refine Kd.C_drewN ?_ _) | (with_reducible refine Kd.C_drew ?_))); (case side2 => exact HC130.out); rintro e w' ⟨rfl, ⟨nd, rfl⟩⟩; refine ⟨_, rfl, ?_⟩) | ((with_reducible refine gate_callee (f := 10) rfl ?_); refine goesL_ (some 69) rfl rfl Try.func10 (by kernel_rfl) rfl #[.slice Ao22 y134.length co22] rfl (by (try simp only [List.map_toArray, List.map_cons, List.map_nil]); first | done | rfl | (simp only [List.length_drop, List.length_take]; rfl)) ?_; (with_reducible refine (sums_Sum16.calls k _ _ y134 t148 t149 _ ?side1 ?side2 A14.out).mono ?_); (case side1 => repeat (first | exact (Kd.R_reads' HO136.out).2.2 | (with_reducible refine Kd.C_alloc ?_ _) | (with_reducible refine Kd.C_drewN ?_ _) | (with_reducible refine Kd.C_drew ?_))); (case side2 => exact (Kd.R_reads' HO136.out).2.1); rintro e w' ⟨rfl, ⟨nd, rfl⟩⟩; refine ⟨_, rfl, ?_⟩) | ((with_reducible refine gate_callee (f := 9) rfl ?_); refine goesL_ (some 75) rfl rfl Try.func9 (by kernel_rfl) rfl #[.slice A0 y127.length c0, .slice Ao22 y134.length co22] rfl (by (try simp only [List.map_toArray, List.map_cons, List.map_nil]); first | done | rfl | (simp only [List.length_drop, List.length_take]; rfl)) ?_; (with_reducible refine (foghornlaw24_unlike.calls k _ _ y127 _ _ y134 t150 _ ?side1 ?side2 ?side3 ?side4 A15.out).mono ?_); (case side1 => repeat (first | exact (Kd.C_below HR130.out (by repeat (first | (with_reducible first | exact HB.out | apply below_alloc | apply pw_below_drewN | apply below_drew1) | exact HB.out))) | (with_reducible refine Kd.C_alloc ?_ _) | (with_reducible refine Kd.C_drewN ?_ _) | (with_reducible refine Kd.C_drew ?_))); (case side2 => exact HC130.out); (case side3 => repeat (first | exact (Kd.R_reads' HO136.out).2.2 | (with_reducible refine Kd.C_alloc ?_ _) | (with_reducible refine Kd.C_drewN ?_ _) | (with_reducible refine Kd.C_drew ?_))); (case side4 => exact (Kd.R_reads' HO136.out).2.1); rintro e w25 ⟨v151, rfl, ho0, hb⟩; refine ⟨_, rfl, ?_⟩; have n0_ := Aside0.mk (Kd.R_elder' (by (with_reducible repeat (first | apply Kd.R_alloc | apply Kd.R_drewN | apply Kd.R_drew)); exact HO136.out) (Kd.R_base ho0) hb); have n1_ := Aside0.mk (Kd.R_elder' (by (with_reducible repeat (first | apply Kd.R_alloc | apply Kd.R_drewN | apply Kd.R_drew)); exact HO143.out) (Kd.R_base ho0) hb); have n2_ := Aside0.mk (Kd.R_lower (Kd.R_new' (Kd.R_new' ho0 (Kd.R_lt (by (with_reducible repeat (first | apply Kd.R_alloc | apply Kd.R_drewN | apply Kd.R_drew)); exact HO136.out))) (Kd.R_lt (by (with_reducible repeat (first | apply Kd.R_alloc | apply Kd.R_drewN | apply Kd.R_drew)); exact HO143.out))) (below_size (by repeat (first | (with_reducible first | exact HB.out | apply below_alloc | apply pw_below_drewN | apply below_drew1) | exact HB.out)))); have n3_ := Aside0.mk (below_step (by repeat (first | (with_reducible first | exact HB.out | apply below_alloc | apply pw_below_drewN | apply below_drew1) | exact HB.out)) hb); clear HO136; clear HO143; clear HB; have HO136 := n0_; have HO143 := n1_; have HO152 := n2_; have HB := n3_; clear n0_ n1_ n2_ n3_; (try clear hb); (try clear hb2); (try clear hk); (try clear hi); (try clear ho0); obtain ⟨Ao26, co26, eo26⟩ := Kd.R_slice HO152.out; subst eo26) | ((with_reducible refine gate_callee (f := 10) rfl ?_); refine goesL_ (some 76) rfl rfl Try.func10 (by kernel_rfl) rfl #[.slice Ao26 t150.length co26] rfl (by (try simp only [List.map_toArray, List.map_cons, List.map_nil]); first | done | rfl | (simp only [List.length_drop, List.length_take]; rfl)) ?_; (with_reducible refine (sums_Sum16.calls k _ _ t150 t153 t154 _ ?side1 ?side2 A16.out).mono ?_); (case side1 => repeat (first | exact (Kd.R_reads' HO152.out).2.2 | (with_reducible refine Kd.C_alloc ?_ _) | (with_reducible refine Kd.C_drewN ?_ _) | (with_reducible refine Kd.C_drew ?_))); (case side2 => exact (Kd.R_reads' HO152.out).2.1); rintro e w' ⟨rfl, ⟨nd, rfl⟩⟩; refine ⟨_, rfl, ?_⟩))
          (try simp only [Act.put, List.setIfInBounds_toArray, List.set_cons_zero, List.set_cons_succ])
          go_cut [114] (fun v114 wc => ∃ (kq : Nat) (x114_16 : Bool), v114 = .bool x114_16 ∧ Aside0 (foghornlaw24_SumsLinear.j0 kq a2 y127 t137 t146 x114_16 = some true) ∧ Aside0 (kq ≤ k) ∧ Aside0 (Below w.heap.size w wc))
          case first =>
            have H := HC17.out
            clear HC17
            by_cases c27 : t138 = 0
            · rw [if_pos c27] at H
              have c27b0 : (t138 == 0) = true := beq_iff_eq.mpr c27
              have c27b1 : (t138 != 0) = false := bne_eq_false_iff_eq.mpr c27
              clear c27
              (first | rw [c27b0] | (simp only [i64_w, i32_w]; rw [c27b0]) | skip)
              by_cases c28 : t140 = 0
              · rw [if_pos c28] at H
                have c28b0 : (t140 == 0) = true := beq_iff_eq.mpr c28
                have c28b1 : (t140 != 0) = false := bne_eq_false_iff_eq.mpr c28
                clear c28
                by_cases c29 : t145 = 0
                · rw [if_pos c29] at H
                  have c29b0 : (t145 == 0) = true := beq_iff_eq.mpr c29
                  have c29b1 : (t145 != 0) = false := bne_eq_false_iff_eq.mpr c29
                  clear c29
                  by_cases c30 : t147 = 0
                  · rw [if_pos c30] at H
                    have c30b0 : (t147 == 0) = true := beq_iff_eq.mpr c30
                    have c30b1 : (t147 != 0) = false := bne_eq_false_iff_eq.mpr c30
                    clear c30
                    by_cases c31 : t149 = 0
                    · rw [if_pos c31] at H
                      have c31b0 : (t149 == 0) = true := beq_iff_eq.mpr c31
                      have c31b1 : (t149 != 0) = false := bne_eq_false_iff_eq.mpr c31
                      clear c31
                      by_cases c32 : t154 = 0
                      · rw [if_pos c32] at H
                        have c32b0 : (t154 == 0) = true := beq_iff_eq.mpr c32
                        have c32b1 : (t154 != 0) = false := bne_eq_false_iff_eq.mpr c32
                        clear c32
                        by_cases c33 : t144 = (Go.bits .xor .u32 t137 t139)
                        · rw [if_pos c33] at H
                          have c33b0 : (t144 == (Go.bits .xor .u32 t137 t139)) = true := beq_iff_eq.mpr c33
                          have c33b1 : (t144 != (Go.bits .xor .u32 t137 t139)) = false := bne_eq_false_iff_eq.mpr c33
                          clear c33
                          have H' := Aside0.mk H
                          clear H
                          go_wp2
                          go_meet
                          case rel => exact ⟨_, ((t153 != (Go.bits .xor .u16 t146 t148))), (by first | rfl | (simp; done) | (simp [*]; done) | (simp; omega) | (congr 1; omega) | (rw [hR_]; done) | (simp only [hR_]; done) | (simp [hR_]; done)), H', ⟨by first | omega | exact Nat.le_refl _⟩, ⟨by repeat (first | (with_reducible first | exact HB.out | apply below_alloc | apply pw_below_drewN | apply below_drew1) | exact HB.out)⟩⟩
                        · rw [if_neg c33] at H
                          have c33b0 : (t144 == (Go.bits .xor .u32 t137 t139)) = false := beq_eq_false_iff_ne.mpr c33
                          have c33b1 : (t144 != (Go.bits .xor .u32 t137 t139)) = true := bne_iff_ne.mpr c33
                          have H' := Aside0.mk H
                          clear H
                          go_wp2
                          go_meet
                          case rel => exact ⟨_, (true), (by first | rfl | (simp; done) | (simp [*]; done) | (simp; omega) | (congr 1; omega) | (rw [hR_]; done) | (simp only [hR_]; done) | (simp [hR_]; done)), H', ⟨by first | omega | exact Nat.le_refl _⟩, ⟨by repeat (first | (with_reducible first | exact HB.out | apply below_alloc | apply pw_below_drewN | apply below_drew1) | exact HB.out)⟩⟩
                      · rw [if_neg c32] at H
                        have c32b0 : (t154 == 0) = false := beq_eq_false_iff_ne.mpr c32
                        have c32b1 : (t154 != 0) = true := bne_iff_ne.mpr c32
                        have H' := Aside0.mk H
                        clear H
                        go_wp2
                        go_meet
                        case rel => exact ⟨_, (true), (by first | rfl | (simp; done) | (simp [*]; done) | (simp; omega) | (congr 1; omega) | (rw [hR_]; done) | (simp only [hR_]; done) | (simp [hR_]; done)), H', ⟨by first | omega | exact Nat.le_refl _⟩, ⟨by repeat (first | (with_reducible first | exact HB.out | apply below_alloc | apply pw_below_drewN | apply below_drew1) | exact HB.out)⟩⟩
                    · rw [if_neg c31] at H
                      have c31b0 : (t149 == 0) = false := beq_eq_false_iff_ne.mpr c31
                      have c31b1 : (t149 != 0) = true := bne_iff_ne.mpr c31
                      have H' := Aside0.mk H
                      clear H
                      go_wp2
                      go_meet
                      case rel => exact ⟨_, (true), (by first | rfl | (simp; done) | (simp [*]; done) | (simp; omega) | (congr 1; omega) | (rw [hR_]; done) | (simp only [hR_]; done) | (simp [hR_]; done)), H', ⟨by first | omega | exact Nat.le_refl _⟩, ⟨by repeat (first | (with_reducible first | exact HB.out | apply below_alloc | apply pw_below_drewN | apply below_drew1) | exact HB.out)⟩⟩
                  · rw [if_neg c30] at H
                    have c30b0 : (t147 == 0) = false := beq_eq_false_iff_ne.mpr c30
                    have c30b1 : (t147 != 0) = true := bne_iff_ne.mpr c30
                    have H' := Aside0.mk H
                    clear H
                    go_wp2
                    go_meet
                    case rel => exact ⟨_, (true), (by first | rfl | (simp; done) | (simp [*]; done) | (simp; omega) | (congr 1; omega) | (rw [hR_]; done) | (simp only [hR_]; done) | (simp [hR_]; done)), H', ⟨by first | omega | exact Nat.le_refl _⟩, ⟨by repeat (first | (with_reducible first | exact HB.out | apply below_alloc | apply pw_below_drewN | apply below_drew1) | exact HB.out)⟩⟩
                · rw [if_neg c29] at H
                  have c29b0 : (t145 == 0) = false := beq_eq_false_iff_ne.mpr c29
                  have c29b1 : (t145 != 0) = true := bne_iff_ne.mpr c29
                  have H' := Aside0.mk H
                  clear H
                  go_wp2
                  go_meet
                  case rel => exact ⟨_, (true), (by first | rfl | (simp; done) | (simp [*]; done) | (simp; omega) | (congr 1; omega) | (rw [hR_]; done) | (simp only [hR_]; done) | (simp [hR_]; done)), H', ⟨by first | omega | exact Nat.le_refl _⟩, ⟨by repeat (first | (with_reducible first | exact HB.out | apply below_alloc | apply pw_below_drewN | apply below_drew1) | exact HB.out)⟩⟩
              · rw [if_neg c28] at H
                have c28b0 : (t140 == 0) = false := beq_eq_false_iff_ne.mpr c28
                have c28b1 : (t140 != 0) = true := bne_iff_ne.mpr c28
                have H' := Aside0.mk H
                clear H
                go_wp2
                go_meet
                case rel => exact ⟨_, (true), (by first | rfl | (simp; done) | (simp [*]; done) | (simp; omega) | (congr 1; omega) | (rw [hR_]; done) | (simp only [hR_]; done) | (simp [hR_]; done)), H', ⟨by first | omega | exact Nat.le_refl _⟩, ⟨by repeat (first | (with_reducible first | exact HB.out | apply below_alloc | apply pw_below_drewN | apply below_drew1) | exact HB.out)⟩⟩
            · rw [if_neg c27] at H
              have c27b0 : (t138 == 0) = false := beq_eq_false_iff_ne.mpr c27
              have c27b1 : (t138 != 0) = true := bne_iff_ne.mpr c27
              (first | rw [c27b0] | (simp only [i64_w, i32_w]; rw [c27b0]) | skip)
              have H' := Aside0.mk H
              clear H
              go_wp2
              go_meet
              case rel => exact ⟨_, (true), (by first | rfl | (simp; done) | (simp [*]; done) | (simp; omega) | (congr 1; omega) | (rw [hR_]; done) | (simp only [hR_]; done) | (simp [hR_]; done)), H', ⟨by first | omega | exact Nat.le_refl _⟩, ⟨by repeat (first | (with_reducible first | exact HB.out | apply below_alloc | apply pw_below_drewN | apply below_drew1) | exact HB.out)⟩⟩
          case rest =>
            clear HC17
            try clear c1
            try clear q1
            try clear c2
            try clear p2
            try clear c3
            try clear c5
            try clear c5b0
            try clear c5b1
            try clear c6
            try clear c6b0
            try clear c6b1
            try clear c7
            try clear c7b0
            try clear c7b1
            try clear c8
            try clear c8b0
            try clear c8b1
            try clear c9
            try clear c10
            try clear q18
            try clear c27
            try clear c27b0
            try clear c27b1
            try clear c28
            try clear c28b0
            try clear c28b1
            try clear c29
            try clear c29b0
            try clear c29b1
            try clear c30
            try clear c30b0
            try clear c30b1
            try clear c31
            try clear c31b0
            try clear c31b1
            try clear c32
            try clear c32b0
            try clear c32b1
            try clear c33
            try clear c33b0
            try clear c33b1
            try clear q18
            obtain ⟨kq, x114_16, rfl, HA, HJ16, HB⟩ := hcut
            cases kq with
            | zero => exact absurd HA.out (by simp [foghornlaw24_SumsLinear.j0])
            | succ kj16 =>
              have H := HA.out
              clear HA
              simp only [foghornlaw24_SumsLinear.j0] at H
              by_cases c34 : x114_16 = true
              · subst c34
                have H1 : (some false) = some true := by rw [if_pos rfl] at H; exact H
                clear H
                have H := H1
                clear H1
                exact absurd H (by simp)
              · replace c34 := Bool.eq_false_iff.mpr c34
                subst c34
                have H1 : (if 0 ≤ (Int.tmod (wrap64 (a2)) 40) then (if (Int.tmod (wrap64 (a2)) 40 : Int).toNat ≤ 281474976710656 then ((some (List.replicate (Int.tmod (wrap64 (a2)) 40 : Int).toNat false : List Bool)).bind fun y155 => (if y155.length + y127.length < 140737488355328 then ((sums_Sum32.f kj16 (y155 ++ y127)).bind fun bt161 => (if bt161.1 = t137 then (foghornlaw24_SumsLinear.j1 kj16 a2 y127 t137 t146 (bt161.2 != 0)) else (foghornlaw24_SumsLinear.j1 kj16 a2 y127 t137 t146 true))) else (none))) else (none)) else (none)) = some true := by rw [if_neg (show ¬ (false = true) by decide)] at H; exact H
                clear H
                have H := H1
                clear H1
                obtain ⟨ji35, hji35⟩ : ∃ j_ : Int, (Int.tmod (wrap64 (a2)) 40) = j_ := ⟨_, rfl⟩
                replace H : (if 0 ≤ (ji35) then (if (ji35 : Int).toNat ≤ 281474976710656 then ((some (List.replicate (ji35 : Int).toNat false : List Bool)).bind fun y155 => (if y155.length + y127.length < 140737488355328 then ((sums_Sum32.f kj16 (y155 ++ y127)).bind fun bt161 => (if bt161.1 = t137 then (foghornlaw24_SumsLinear.j1 kj16 a2 y127 t137 t146 (bt161.2 != 0)) else (foghornlaw24_SumsLinear.j1 kj16 a2 y127 t137 t146 true))) else (none))) else (none)) else (none)) = some true := by first | (rw [hji35] at H; exact H) | (simp only [hji35] at H ⊢; exact H)
                by_cases c36 : 0 ≤ (ji35)
                · rw [if_pos c36] at H
                  have c36b0 := eq_true c36
                  have c36b1 : decide (0 ≤ (ji35)) = true := decide_eq_true c36
                  clear c36
                  by_cases c37 : (ji35 : Int).toNat ≤ 281474976710656
                  · rw [if_pos c37] at H
                    have c37b0 := eq_true c37
                    have c37b1 : decide ((ji35 : Int).toNat ≤ 281474976710656) = true := decide_eq_true c37
                    clear c37
                    obtain ⟨y155, hy155⟩ : ∃ y_ : List Bool, y_ = (List.replicate (ji35 : Int).toNat false) := ⟨_, rfl⟩
                    replace H : (if y155.length + y127.length < 140737488355328 then ((sums_Sum32.f kj16 (y155 ++ y127)).bind fun bt161 => (if bt161.1 = t137 then (foghornlaw24_SumsLinear.j1 kj16 a2 y127 t137 t146 (bt161.2 != 0)) else (foghornlaw24_SumsLinear.j1 kj16 a2 y127 t137 t146 true))) else (none)) = some true := by first | (rw [hy155]; with_reducible exact H) | (have H2_ := (Option.bind_some _ _).symm.trans H; rw [hy155]; with_reducible exact H2_) | (have H2_ := (Option.bind_some _ _).symm.trans H; with_reducible exact H2_) | with_reducible exact H | (rw [hy155]; exact H) | exact H
                    have Ny155 := Aside0.mk hy155
                    clear hy155
                    by_cases c38 : y155.length + y127.length < 140737488355328
                    · rw [if_pos c38] at H
                      have LMc38 := Aside0.mk c38
                      clear c38
                      obtain ⟨y158, hy158⟩ : ∃ y_ : List Bool, y_ = (y155 ++ y127) := ⟨_, rfl⟩
                      replace H : ((sums_Sum32.f kj16 y158).bind fun bt161 => (if bt161.1 = t137 then (foghornlaw24_SumsLinear.j1 kj16 a2 y127 t137 t146 (bt161.2 != 0)) else (foghornlaw24_SumsLinear.j1 kj16 a2 y127 t137 t146 true))) = some true := by first | (rw [hy158]; with_reducible exact H) | (have H2_ := (Option.bind_some _ _).symm.trans H; rw [hy158]; with_reducible exact H2_) | (have H2_ := (Option.bind_some _ _).symm.trans H; with_reducible exact H2_) | with_reducible exact H | (rw [hy158]; exact H) | exact H
                      have Ny158 := Aside0.mk hy158
                      clear hy158
                      replace H := Option.bind_eq_some_iff.mp H
                      obtain ⟨⟨t161, t162⟩, A390, H⟩ := H
                      replace H : (if t161 = t137 then (foghornlaw24_SumsLinear.j1 kj16 a2 y127 t137 t146 (t162 != 0)) else (foghornlaw24_SumsLinear.j1 kj16 a2 y127 t137 t146 true)) = some true := H
                      have A39 := Aside0.mk A390
                      clear A390
                      have HC40 := Aside0.mk H
                      clear H
                      go_upto_region 13 with (first | ((with_reducible refine gate_dst (N := 119) rfl ?_); refine Kd.R_make Kd.bool _ 4 rfl (N := 119) rfl 22 _ _ rfl ji35 rfl rfl Try.underlying22 (.bool false) 1 info4 rfl (by decide) (by omega) false (ok := fun _ => True) (okp := fun _ => True) rfl (fun _ hk => hk) trivial (of_decide_eq_true (by first | (with_reducible assumption) | assumption)) (Nat.le_trans (Nat.mul_le_mul_right _ (of_decide_eq_true (by first | (with_reducible assumption) | assumption) : ji35.toNat ≤ 281474976710656)) (by omega)) (Below.refl _ _) (Nat.le_refl _) ?_; intro v156 w41 ho42 hb hg_ hnew_; clear hg_ hnew_; (first | rw [← Ny155.out] at ho42 | (simp only [Int.reduceToNat] at ho42; rw [← Ny155.out] at ho42)); have n0_ := Aside0.mk (Kd.R_lower ho42 (below_size (by repeat (first | (with_reducible first | exact HB.out | apply below_alloc | apply pw_below_drewN | apply below_drew1) | exact HB.out)))); have n1_ := Aside0.mk (below_step (by repeat (first | (with_reducible first | exact HB.out | apply below_alloc | apply pw_below_drewN | apply below_drew1) | exact HB.out)) hb); clear HB; have HO157 := n0_; have HB := n1_; clear n0_ n1_; clear hb ho42) | ((with_reducible refine gate_builtin (b := .append) (xs := #[.tmp 119, .tmp 120]) rfl ?_); at_builtin; refine Kd.R_append_rows Kd.bool (w0 := w) w.heap.size rfl (.tmp 119) (.tmp 120) 22 4 (.bool false) 1 rfl Try.underlying22 info4 rfl (by decide) (by omega) v156 y155 y127 _ _ _ (fun _ => True) (fun _ => False) rfl rfl ?aO ?aR (fun _ _ h => h) (fun _ h => h.elim) ?aF ?aB ?aS ?aL ?_; (case aR => repeat (first | exact (Kd.C_below HR130.out HB.out) | (with_reducible refine Kd.C_alloc ?_ _) | (with_reducible refine Kd.C_drewN ?_ _) | (with_reducible refine Kd.C_drew ?_))); (case aB => exact (by repeat (first | (with_reducible first | exact HB.out | apply below_alloc | apply pw_below_drewN | apply below_drew1) | exact HB.out))); (case aF => exact (fun _ _ => trivial)); (case aO => exact (by (with_reducible repeat (first | apply Kd.R_alloc | apply Kd.R_drewN | apply Kd.R_drew)); exact HO157.out)); (case aS => exact (below_size (by repeat (first | (with_reducible first | exact HB.out | apply below_alloc | apply pw_below_drewN | apply below_drew1) | exact HB.out)))); (case aL => have := LMc38.out; omega); intro v159 w43 ho hb hg hat; rw [← Ny158.out] at ho; have n0_ := Aside0.mk (hb); have n1_ := Aside0.mk (ho); clear HB; clear HO157; have HB := n0_; have HO160 := n1_; clear n0_ n1_; clear ho hb hg hat; obtain ⟨Ao44, co44, eo44⟩ := Kd.R_slice HO160.out; subst eo44) | ((with_reducible refine gate_callee (f := 8) rfl ?_); refine goesL_ (some 122) rfl rfl Try.func8 (by kernel_rfl) rfl #[.slice Ao44 y158.length co44] rfl (by (try simp only [List.map_toArray, List.map_cons, List.map_nil]); first | done | rfl | (simp only [List.length_drop, List.length_take]; rfl)) ?_; (with_reducible refine (sums_Sum32.calls kj16 _ _ y158 t161 t162 _ ?side1 ?side2 A39.out).mono ?_); (case side1 => repeat (first | exact (Kd.R_reads' HO160.out).2.2 | (with_reducible refine Kd.C_alloc ?_ _) | (with_reducible refine Kd.C_drewN ?_ _) | (with_reducible refine Kd.C_drew ?_))); (case side2 => exact (Kd.R_reads' HO160.out).2.1); rintro e w' ⟨rfl, ⟨nd, rfl⟩⟩; refine ⟨_, rfl, ?_⟩))
                      (try simp only [Act.put, List.setIfInBounds_toArray, List.set_cons_zero, List.set_cons_succ])
                      go_cut [131] (fun v131 wc => ∃ (kq : Nat) (x131_39 : Bool), v131 = .bool x131_39 ∧ Aside0 (foghornlaw24_SumsLinear.j1 kq a2 y127 t137 t146 x131_39 = some true) ∧ Aside0 (kq ≤ kj16) ∧ Aside0 (Below w.heap.size w wc))
                      case first =>
                        have H := HC40.out
                        clear HC40
                        by_cases c45 : t161 = t137
                        · rw [if_pos c45] at H
                          have c45b0 : (t161 == t137) = true := beq_iff_eq.mpr c45
                          have c45b1 : (t161 != t137) = false := bne_eq_false_iff_eq.mpr c45
                          clear c45
                          (first | rw [c45b0] | (simp only [i64_w, i32_w]; rw [c45b0]) | skip)
                          have H' := Aside0.mk H
                          clear H
                          go_wp2
                          go_meet
                          case rel => exact ⟨_, ((t162 != 0)), (by first | rfl | (simp; done) | (simp [*]; done) | (simp; omega) | (congr 1; omega) | (rw [hR_]; done) | (simp only [hR_]; done) | (simp [hR_]; done)), H', ⟨by have := HJ16.out; first | omega | exact Nat.le_refl _⟩, ⟨by repeat (first | (with_reducible first | exact HB.out | apply below_alloc | apply pw_below_drewN | apply below_drew1) | exact HB.out)⟩⟩
                        · rw [if_neg c45] at H
                          have c45b0 : (t161 == t137) = false := beq_eq_false_iff_ne.mpr c45
                          have c45b1 : (t161 != t137) = true := bne_iff_ne.mpr c45
                          (first | rw [c45b0] | (simp only [i64_w, i32_w]; rw [c45b0]) | skip)
                          have H' := Aside0.mk H
                          clear H
                          go_wp2
                          go_meet
                          case rel => exact ⟨_, (true), (by first | rfl | (simp; done) | (simp [*]; done) | (simp; omega) | (congr 1; omega) | (rw [hR_]; done) | (simp only [hR_]; done) | (simp [hR_]; done)), H', ⟨by have := HJ16.out; first | omega | exact Nat.le_refl _⟩, ⟨by repeat (first | (with_reducible first | exact HB.out | apply below_alloc | apply pw_below_drewN | apply below_drew1) | exact HB.out)⟩⟩
                      case rest =>
                        clear HC40
                        try clear c1
                        try clear q1
                        try clear c2
                        try clear p2
                        try clear c3
                        try clear c4
                        try clear c5
                        try clear c5b0
                        try clear c5b1
                        try clear c6
                        try clear c6b0
                        try clear c6b1
                        try clear p6
                        try clear c7
                        try clear c7b0
                        try clear c7b1
                        try clear c8
                        try clear c8b0
                        try clear c8b1
                        try clear c9
                        try clear c10
                        try clear q18
                        try clear c27
                        try clear c27b0
                        try clear c27b1
                        try clear c28
                        try clear c28b0
                        try clear c28b1
                        try clear c29
                        try clear c29b0
                        try clear c29b1
                        try clear c30
                        try clear c30b0
                        try clear c30b1
                        try clear c31
                        try clear c31b0
                        try clear c31b1
                        try clear c32
                        try clear c32b0
                        try clear c32b1
                        try clear c33
                        try clear c33b0
                        try clear c33b1
                        try clear c34
                        try clear c36
                        try clear c36b0
                        try clear c36b1
                        try clear c37
                        try clear c37b0
                        try clear c37b1
                        try clear c38
                        try clear c45
                        try clear c45b0
                        try clear c45b1
                        try clear p2
                        try clear q1
                        try clear q18
                        obtain ⟨kq, x131_39, rfl, HA, HJ39, HB⟩ := hcut
                        cases kq with
                        | zero => exact absurd HA.out (by simp [foghornlaw24_SumsLinear.j1])
                        | succ kj39 =>
                          have H := HA.out
                          clear HA
                          simp only [foghornlaw24_SumsLinear.j1] at H
                          by_cases c46 : x131_39 = true
                          · subst c46
                            have H1 : (some false) = some true := by rw [if_pos rfl] at H; exact H
                            clear H
                            have H := H1
                            clear H1
                            exact absurd H (by simp)
                          · replace c46 := Bool.eq_false_iff.mpr c46
                            subst c46
                            have H1 : (if (wrap64 ((y127.length : Int) + 1)) = 0 then (none) else (if 0 ≤ (Int.tmod (wrap64 (a2)) (wrap64 ((y127.length : Int) + 1))) then (if (Int.tmod (wrap64 (a2)) (wrap64 ((y127.length : Int) + 1))) ≤ (y127.length : Int) then ((sums_Sum32.f kj39 (y127.take ((Int.tmod (wrap64 (a2)) (wrap64 ((y127.length : Int) + 1))) : Int).toNat)).bind fun bt167 => ((sums_Sum32.f kj39 (y127.drop ((Int.tmod (wrap64 (a2)) (wrap64 ((y127.length : Int) + 1))) : Int).toNat)).bind fun bt173 => ((sums_Joined32.f kj39 bt167.1 bt173.1 (wrap64 ((y127.length : Int) - (Int.tmod (wrap64 (a2)) (wrap64 ((y127.length : Int) + 1)))))).bind fun bt175 => (if bt167.2 = 0 then (if bt173.2 = 0 then (if bt175.2 = 0 then (foghornlaw24_SumsLinear.j2 kj39 y127 t146 (bt175.1 != t137)) else (foghornlaw24_SumsLinear.j2 kj39 y127 t146 true)) else (foghornlaw24_SumsLinear.j2 kj39 y127 t146 true)) else (foghornlaw24_SumsLinear.j2 kj39 y127 t146 true))))) else (none)) else (none))) = some true := by rw [if_neg (show ¬ (false = true) by decide)] at H; exact H
                            clear H
                            have H := H1
                            clear H1
                            by_cases c47 : (wrap64 ((y127.length : Int) + 1)) = 0
                            · rw [if_pos c47] at H
                              exact absurd H (by simp)
                            · rw [if_neg c47] at H
                              have c47b0 : ((wrap64 ((y127.length : Int) + 1)) == 0) = false := beq_eq_false_iff_ne.mpr c47
                              have c47b1 : ((wrap64 ((y127.length : Int) + 1)) != 0) = true := bne_iff_ne.mpr c47
                              obtain ⟨ji48, hji48⟩ : ∃ j_ : Int, (Int.tmod (wrap64 (a2)) (wrap64 ((y127.length : Int) + 1))) = j_ := ⟨_, rfl⟩
                              replace H : (if 0 ≤ (ji48) then (if (ji48) ≤ (y127.length : Int) then ((sums_Sum32.f kj39 (y127.take ((ji48) : Int).toNat)).bind fun bt167 => ((sums_Sum32.f kj39 (y127.drop ((ji48) : Int).toNat)).bind fun bt173 => ((sums_Joined32.f kj39 bt167.1 bt173.1 (wrap64 ((y127.length : Int) - (ji48)))).bind fun bt175 => (if bt167.2 = 0 then (if bt173.2 = 0 then (if bt175.2 = 0 then (foghornlaw24_SumsLinear.j2 kj39 y127 t146 (bt175.1 != t137)) else (foghornlaw24_SumsLinear.j2 kj39 y127 t146 true)) else (foghornlaw24_SumsLinear.j2 kj39 y127 t146 true)) else (foghornlaw24_SumsLinear.j2 kj39 y127 t146 true))))) else (none)) else (none)) = some true := by first | (rw [hji48] at H; exact H) | (simp only [hji48] at H ⊢; exact H)
                              by_cases c49 : 0 ≤ (ji48)
                              · rw [if_pos c49] at H
                                have c49b0 := eq_true c49
                                have c49b1 : decide (0 ≤ (ji48)) = true := decide_eq_true c49
                                clear c49
                                by_cases c50 : (ji48) ≤ (y127.length : Int)
                                · rw [if_pos c50] at H
                                  have c50b0 := eq_true c50
                                  have c50b1 : decide ((ji48) ≤ (y127.length : Int)) = true := decide_eq_true c50
                                  clear c50
                                  obtain ⟨y163, hy163⟩ : ∃ y_ : List Bool, y_ = (y127.take ((ji48) : Int).toNat) := ⟨_, rfl⟩
                                  replace H : ((sums_Sum32.f kj39 y163).bind fun bt167 => ((sums_Sum32.f kj39 (y127.drop ((ji48) : Int).toNat)).bind fun bt173 => ((sums_Joined32.f kj39 bt167.1 bt173.1 (wrap64 ((y127.length : Int) - (ji48)))).bind fun bt175 => (if bt167.2 = 0 then (if bt173.2 = 0 then (if bt175.2 = 0 then (foghornlaw24_SumsLinear.j2 kj39 y127 t146 (bt175.1 != t137)) else (foghornlaw24_SumsLinear.j2 kj39 y127 t146 true)) else (foghornlaw24_SumsLinear.j2 kj39 y127 t146 true)) else (foghornlaw24_SumsLinear.j2 kj39 y127 t146 true))))) = some true := by first | (rw [hy163]; with_reducible exact H) | (have H2_ := (Option.bind_some _ _).symm.trans H; rw [hy163]; with_reducible exact H2_) | (have H2_ := (Option.bind_some _ _).symm.trans H; with_reducible exact H2_) | with_reducible exact H | (rw [hy163]; exact H) | exact H
                                  have Ny163 := Aside0.mk hy163
                                  clear hy163
                                  replace H := Option.bind_eq_some_iff.mp H
                                  obtain ⟨⟨t167, t168⟩, A510, H⟩ := H
                                  replace H : ((sums_Sum32.f kj39 (y127.drop ((ji48) : Int).toNat)).bind fun bt173 => ((sums_Joined32.f kj39 t167 bt173.1 (wrap64 ((y127.length : Int) - (ji48)))).bind fun bt175 => (if t168 = 0 then (if bt173.2 = 0 then (if bt175.2 = 0 then (foghornlaw24_SumsLinear.j2 kj39 y127 t146 (bt175.1 != t137)) else (foghornlaw24_SumsLinear.j2 kj39 y127 t146 true)) else (foghornlaw24_SumsLinear.j2 kj39 y127 t146 true)) else (foghornlaw24_SumsLinear.j2 kj39 y127 t146 true)))) = some true := H
                                  have A51 := Aside0.mk A510
                                  clear A510
                                  have c52b0 := eq_true (of_decide_eq_true (by first | (with_reducible assumption) | assumption) : 0 ≤ (ji48))
                                  have c53b0 := eq_true (of_decide_eq_true (by first | (with_reducible assumption) | assumption) : (ji48) ≤ (y127.length : Int))
                                  obtain ⟨y169, hy169⟩ : ∃ y_ : List Bool, y_ = (y127.drop ((ji48) : Int).toNat) := ⟨_, rfl⟩
                                  replace H : ((sums_Sum32.f kj39 y169).bind fun bt173 => ((sums_Joined32.f kj39 t167 bt173.1 (wrap64 ((y127.length : Int) - (ji48)))).bind fun bt175 => (if t168 = 0 then (if bt173.2 = 0 then (if bt175.2 = 0 then (foghornlaw24_SumsLinear.j2 kj39 y127 t146 (bt175.1 != t137)) else (foghornlaw24_SumsLinear.j2 kj39 y127 t146 true)) else (foghornlaw24_SumsLinear.j2 kj39 y127 t146 true)) else (foghornlaw24_SumsLinear.j2 kj39 y127 t146 true)))) = some true := by first | (rw [hy169]; with_reducible exact H) | (have H2_ := (Option.bind_some _ _).symm.trans H; rw [hy169]; with_reducible exact H2_) | (have H2_ := (Option.bind_some _ _).symm.trans H; with_reducible exact H2_) | with_reducible exact H | (rw [hy169]; exact H) | exact H
                                  have Ny169 := Aside0.mk hy169
                                  clear hy169
                                  replace H := Option.bind_eq_some_iff.mp H
                                  obtain ⟨⟨t173, t174⟩, A540, H⟩ := H
                                  replace H : ((sums_Joined32.f kj39 t167 t173 (wrap64 ((y127.length : Int) - (ji48)))).bind fun bt175 => (if t168 = 0 then (if t174 = 0 then (if bt175.2 = 0 then (foghornlaw24_SumsLinear.j2 kj39 y127 t146 (bt175.1 != t137)) else (foghornlaw24_SumsLinear.j2 kj39 y127 t146 true)) else (foghornlaw24_SumsLinear.j2 kj39 y127 t146 true)) else (foghornlaw24_SumsLinear.j2 kj39 y127 t146 true))) = some true := H
                                  have A54 := Aside0.mk A540
                                  clear A540
                                  replace H := Option.bind_eq_some_iff.mp H
                                  obtain ⟨⟨t175, t176⟩, A550, H⟩ := H
                                  replace H : (if t168 = 0 then (if t174 = 0 then (if t176 = 0 then (foghornlaw24_SumsLinear.j2 kj39 y127 t146 (t175 != t137)) else (foghornlaw24_SumsLinear.j2 kj39 y127 t146 true)) else (foghornlaw24_SumsLinear.j2 kj39 y127 t146 true)) else (foghornlaw24_SumsLinear.j2 kj39 y127 t146 true)) = some true := H
                                  have A55 := Aside0.mk A550
                                  clear A550
                                  have HC56 := Aside0.mk H
                                  clear H
                                  have q57 : ((ji48) : Int) ≤ ((y127.length : Int) : Int) := of_decide_eq_true (by first | (with_reducible assumption) | assumption)
                                  obtain ⟨i057, hi057, _, hsz57, _⟩ := info_parts info4
                                  have hroom57 : y127.length ≤ c0 := HC130.out
                                  have hC57 : Kd.C Kd.bool _ A0 y127.length y127 := HR130.out
                                  have hcut57 := cut_to (P := Try.prog) 22 4 .i64 Try.underlying22 hi057 A0 y127.length c0 (ji48) (of_decide_eq_true (by first | (with_reducible assumption) | assumption)) q57 hroom57
                                  have hr57 := Kd.C_take (m := ((ji48) : Int).toNat) hC57 (by omega)
                                  have hy57 : y163.length = ((ji48) : Int).toNat := (by rw [Ny163.out, List.length_take]; omega)
                                  rw [← Ny163.out] at hr57
                                  rw [← hy57] at hcut57
                                  have HR166 := Aside0.mk hr57
                                  have HC166 := Aside0.mk (show y163.length ≤ c0 from by omega)
                                  clear hr57 hC57 hroom57 hi057 hsz57
                                  have KY57 := Aside0.mk hy57
                                  clear hy57
                                  replace q57 := eq_true q57
                                  go_upto_region 19 with (first | ((with_reducible refine gate_callee (f := 8) rfl ?_); refine goesL_ (some 142) rfl rfl Try.func8 (by kernel_rfl) rfl #[.slice A0 y163.length c0] rfl (by (try simp only [List.map_toArray, List.map_cons, List.map_nil]); first | done | rfl | (simp only [List.length_drop, List.length_take]; rfl)) ?_; (with_reducible refine (sums_Sum32.calls kj39 _ _ y163 t167 t168 _ ?side1 ?side2 A51.out).mono ?_); (case side1 => repeat (first | exact (Kd.C_below HR166.out HB.out) | (with_reducible refine Kd.C_alloc ?_ _) | (with_reducible refine Kd.C_drewN ?_ _) | (with_reducible refine Kd.C_drew ?_))); (case side2 => exact HC166.out); rintro e w' ⟨rfl, ⟨nd, rfl⟩⟩; refine ⟨_, rfl, ?_⟩; have q58 : ((ji48) : Int) ≤ ((y127.length : Int) : Int) := of_decide_eq_true (by first | (with_reducible assumption) | assumption); obtain ⟨i058, hi058, _, hsz58, _⟩ := info_parts info4; have hroom58 : y127.length ≤ c0 := HC130.out; have hC58 : Kd.C Kd.bool _ A0 y127.length y127 := HR130.out; have q058 : (0 : Int) ≤ ((ji48) : Int) := of_decide_eq_true (by first | (with_reducible assumption) | assumption); have hcut58 := cut_from (P := Try.prog) 22 4 .i64 Try.underlying22 hi058 1 hsz58 A0 y127.length c0 (ji48) q058 q58; have hr58 := Kd.C_drop (m := ((ji48) : Int).toNat) (c := c0) hC58 (by omega) hroom58; obtain ⟨A58, hA58⟩ : ∃ A1, A1 = (if c0 = ((ji48) : Int).toNat then A0 else (A0 : Option Addr).map (·.add (((ji48) : Int).toNat * 1))) := ⟨_, rfl⟩; obtain ⟨c58, hc58⟩ : ∃ c1, c1 = c0 - ((ji48) : Int).toNat := ⟨_, rfl⟩; have hy58 : y169.length = y127.length - ((ji48) : Int).toNat := (by rw [Ny169.out, List.length_drop] <;> omega); rw [show (y127).drop ((ji48) : Int).toNat = y169 from Ny169.out.symm] at hr58; replace hr58 : Kd.C Kd.bool _ A58 y169.length y169 := (by rw [hA58]; exact hr58); rw [← hy58, ← hA58, ← hc58] at hcut58; have HR172 := Aside0.mk hr58; have HC172 := Aside0.mk (show y169.length ≤ c58 from by rw [hy58, hc58]; exact Nat.sub_le_sub_right hroom58 _); clear hr58 hC58 hroom58 hi058 hsz58 hc58; have KY58 := Aside0.mk hy58; have KA58 := Aside0.mk hA58; clear hy58 hA58; replace q58 := eq_true q58) | ((with_reducible refine gate_callee (f := 8) rfl ?_); refine goesL_ (some 149) rfl rfl Try.func8 (by kernel_rfl) rfl #[.slice A58 y169.length c58] rfl (by (try simp only [List.map_toArray, List.map_cons, List.map_nil]); first | done | rfl | (simp only [List.length_drop, List.length_take]; rfl)) ?_; (with_reducible refine (sums_Sum32.calls kj39 _ _ y169 t173 t174 _ ?side1 ?side2 A54.out).mono ?_); (case side1 => repeat (first | exact (Kd.C_below HR172.out (by repeat (first | (with_reducible first | exact HB.out | apply below_alloc | apply pw_below_drewN | apply below_drew1) | exact HB.out))) | (with_reducible refine Kd.C_alloc ?_ _) | (with_reducible refine Kd.C_drewN ?_ _) | (with_reducible refine Kd.C_drew ?_))); (case side2 => exact HC172.out); rintro e w' ⟨rfl, ⟨nd, rfl⟩⟩; refine ⟨_, rfl, ?_⟩) | ((with_reducible refine gate_callee (f := 11) rfl ?_); refine goesL_ (some 159) rfl rfl Try.func11 (by kernel_rfl) rfl #[.int .u32 t167, .int .u32 t173, .int .i64 (wrap64 ((y127.length : Int) - (ji48)))] rfl (by (try simp only [List.map_toArray, List.map_cons, List.map_nil]); first | done | (simp only [hji48]; rfl) | rfl | (simp only [List.length_drop, List.length_take]; rfl)) ?_; (with_reducible refine (sums_Joined32.calls kj39 t167 t173 (wrap64 ((y127.length : Int) - (ji48))) t175 t176 _ A55.out).mono ?_); rintro e w' ⟨rfl, ⟨nd, rfl⟩⟩; refine ⟨_, rfl, ?_⟩))
                                  (try simp only [Act.put, List.setIfInBounds_toArray, List.set_cons_zero, List.set_cons_succ])
                                  go_cut [176] (fun v176 wc => ∃ (kq : Nat) (x176_55 : Bool), v176 = .bool x176_55 ∧ Aside0 (foghornlaw24_SumsLinear.j2 kq y127 t146 x176_55 = some true) ∧ Aside0 (kq ≤ kj39) ∧ Aside0 (Below w.heap.size w wc))
                                  case first =>
                                    have H := HC56.out
                                    clear HC56
                                    by_cases c59 : t168 = 0
                                    · rw [if_pos c59] at H
                                      have c59b0 : (t168 == 0) = true := beq_iff_eq.mpr c59
                                      have c59b1 : (t168 != 0) = false := bne_eq_false_iff_eq.mpr c59
                                      clear c59
                                      (first | rw [c59b0] | (simp only [i64_w, i32_w]; rw [c59b0]) | skip)
                                      by_cases c60 : t174 = 0
                                      · rw [if_pos c60] at H
                                        have c60b0 : (t174 == 0) = true := beq_iff_eq.mpr c60
                                        have c60b1 : (t174 != 0) = false := bne_eq_false_iff_eq.mpr c60
                                        clear c60
                                        by_cases c61 : t176 = 0
                                        · rw [if_pos c61] at H
                                          have c61b0 : (t176 == 0) = true := beq_iff_eq.mpr c61
                                          have c61b1 : (t176 != 0) = false := bne_eq_false_iff_eq.mpr c61
                                          clear c61
                                          have H' := Aside0.mk H
                                          clear H
                                          go_wp2
                                          go_meet
                                          case rel => exact ⟨_, ((t175 != t137)), (by first | rfl | (simp; done) | (simp [*]; done) | (simp; omega) | (congr 1; omega) | (rw [hR_]; done) | (simp only [hR_]; done) | (simp [hR_]; done)), H', ⟨by have := HJ16.out; have := HJ39.out; first | omega | exact Nat.le_refl _⟩, ⟨by repeat (first | (with_reducible first | exact HB.out | apply below_alloc | apply pw_below_drewN | apply below_drew1) | exact HB.out)⟩⟩
                                        · rw [if_neg c61] at H
                                          have c61b0 : (t176 == 0) = false := beq_eq_false_iff_ne.mpr c61
                                          have c61b1 : (t176 != 0) = true := bne_iff_ne.mpr c61
                                          have H' := Aside0.mk H
                                          clear H
                                          go_wp2
                                          go_meet
                                          case rel => exact ⟨_, (true), (by first | rfl | (simp; done) | (simp [*]; done) | (simp; omega) | (congr 1; omega) | (rw [hR_]; done) | (simp only [hR_]; done) | (simp [hR_]; done)), H', ⟨by have := HJ16.out; have := HJ39.out; first | omega | exact Nat.le_refl _⟩, ⟨by repeat (first | (with_reducible first | exact HB.out | apply below_alloc | apply pw_below_drewN | apply below_drew1) | exact HB.out)⟩⟩
                                      · rw [if_neg c60] at H
                                        have c60b0 : (t174 == 0) = false := beq_eq_false_iff_ne.mpr c60
                                        have c60b1 : (t174 != 0) = true := bne_iff_ne.mpr c60
                                        have H' := Aside0.mk H
                                        clear H
                                        go_wp2
                                        go_meet
                                        case rel => exact ⟨_, (true), (by first | rfl | (simp; done) | (simp [*]; done) | (simp; omega) | (congr 1; omega) | (rw [hR_]; done) | (simp only [hR_]; done) | (simp [hR_]; done)), H', ⟨by have := HJ16.out; have := HJ39.out; first | omega | exact Nat.le_refl _⟩, ⟨by repeat (first | (with_reducible first | exact HB.out | apply below_alloc | apply pw_below_drewN | apply below_drew1) | exact HB.out)⟩⟩
                                    · rw [if_neg c59] at H
                                      have c59b0 : (t168 == 0) = false := beq_eq_false_iff_ne.mpr c59
                                      have c59b1 : (t168 != 0) = true := bne_iff_ne.mpr c59
                                      (first | rw [c59b0] | (simp only [i64_w, i32_w]; rw [c59b0]) | skip)
                                      have H' := Aside0.mk H
                                      clear H
                                      go_wp2
                                      go_meet
                                      case rel => exact ⟨_, (true), (by first | rfl | (simp; done) | (simp [*]; done) | (simp; omega) | (congr 1; omega) | (rw [hR_]; done) | (simp only [hR_]; done) | (simp [hR_]; done)), H', ⟨by have := HJ16.out; have := HJ39.out; first | omega | exact Nat.le_refl _⟩, ⟨by repeat (first | (with_reducible first | exact HB.out | apply below_alloc | apply pw_below_drewN | apply below_drew1) | exact HB.out)⟩⟩
                                  case rest =>
                                    clear HC56
                                    try clear c1
                                    try clear q1
                                    try clear c2
                                    try clear p2
                                    try clear c3
                                    try clear c4
                                    try clear c5
                                    try clear c5b0
                                    try clear c5b1
                                    try clear q5
                                    try clear c6
                                    try clear c6b0
                                    try clear c6b1
                                    try clear p6
                                    try clear c7
                                    try clear c7b0
                                    try clear c7b1
                                    try clear c8
                                    try clear c8b0
                                    try clear c8b1
                                    try clear c9
                                    try clear c10
                                    try clear c11
                                    try clear q18
                                    try clear c27
                                    try clear c27b0
                                    try clear c27b1
                                    try clear c28
                                    try clear c28b0
                                    try clear c28b1
                                    try clear c29
                                    try clear c29b0
                                    try clear c29b1
                                    try clear c30
                                    try clear c30b0
                                    try clear c30b1
                                    try clear c31
                                    try clear c31b0
                                    try clear c31b1
                                    try clear c32
                                    try clear c32b0
                                    try clear c32b1
                                    try clear c33
                                    try clear c33b0
                                    try clear c33b1
                                    try clear c34
                                    try clear c36
                                    try clear c36b0
                                    try clear c36b1
                                    try clear c37
                                    try clear c37b0
                                    try clear c37b1
                                    try clear c38
                                    try clear c45
                                    try clear c45b0
                                    try clear c45b1
                                    try clear c46
                                    try clear c47
                                    try clear c47b0
                                    try clear c47b1
                                    try clear c49
                                    try clear c49b0
                                    try clear c49b1
                                    try clear c50
                                    try clear c50b0
                                    try clear c50b1
                                    try clear c52
                                    try clear c52b0
                                    try clear c53
                                    try clear c53b0
                                    try clear q57
                                    try clear c58
                                    try clear q58
                                    try clear c59
                                    try clear c59b0
                                    try clear c59b1
                                    try clear c60
                                    try clear c60b0
                                    try clear c60b1
                                    try clear c61
                                    try clear c61b0
                                    try clear c61b1
                                    try clear p2
                                    try clear p6
                                    try clear q058
                                    try clear q1
                                    try clear q18
                                    try clear q57
                                    try clear q58
                                    obtain ⟨kq, x176_55, rfl, HA, HJ55, HB⟩ := hcut
                                    cases kq with
                                    | zero => exact absurd HA.out (by simp [foghornlaw24_SumsLinear.j2])
                                    | succ kj55 =>
                                      have H := HA.out
                                      clear HA
                                      simp only [foghornlaw24_SumsLinear.j2] at H
                                      by_cases c62 : x176_55 = true
                                      · subst c62
                                        have H1 : (some false) = some true := by rw [if_pos rfl] at H; exact H
                                        clear H
                                        have H := H1
                                        clear H1
                                        exact absurd H (by simp)
                                      · replace c62 := Bool.eq_false_iff.mpr c62
                                        subst c62
                                        have H1 : (foghornlaw24_SumsLinear.l0 kj55 y127 t146 0 0) = some true := by rw [if_neg (show ¬ (false = true) by decide)] at H; exact H
                                        clear H
                                        have H := H1
                                        clear H1
                                        have H' := Aside0.mk H
                                        clear H
                                        go_wp2
                                        go_loopg [30, 31] kj55 (fun kq v30 v31 w' => ∃ (x30_4 : Int) (x31_4 : Int), v30 = .int .u16 x30_4 ∧ v31 = .int .i64 x31_4 ∧ Aside0 (foghornlaw24_SumsLinear.l0 kq y127 t146 x30_4 x31_4 = some true) ∧ Aside0 (kq ≤ kj55) ∧ Aside0 (Below w.heap.size w w'))
                                        case atStart => exact ⟨(0), (0), (by first | rfl | (simp; done) | (simp [*]; done) | (simp; omega) | (congr 1; omega) | (rw [hR_]; done) | (simp only [hR_]; done) | (simp [hR_]; done)), (by first | rfl | (simp; done) | (simp [*]; done) | (simp; omega) | (congr 1; omega) | (rw [hR_]; done) | (simp only [hR_]; done) | (simp [hR_]; done)), H', ⟨Nat.le_refl _⟩, ⟨by repeat (first | (with_reducible first | exact HB.out | apply below_alloc | apply pw_below_drewN | apply below_drew1) | exact HB.out)⟩⟩
                                        case round =>
                                          clear H'
                                          try clear c1
                                          try clear q1
                                          try clear c2
                                          try clear p2
                                          try clear c3
                                          try clear c4
                                          try clear c5
                                          try clear c5b0
                                          try clear c5b1
                                          try clear q5
                                          try clear c6
                                          try clear c6b0
                                          try clear c6b1
                                          try clear p6
                                          try clear c7
                                          try clear c7b0
                                          try clear c7b1
                                          try clear c8
                                          try clear c8b0
                                          try clear c8b1
                                          try clear c9
                                          try clear c10
                                          try clear c11
                                          try clear q18
                                          try clear c27
                                          try clear c27b0
                                          try clear c27b1
                                          try clear c28
                                          try clear c28b0
                                          try clear c28b1
                                          try clear c29
                                          try clear c29b0
                                          try clear c29b1
                                          try clear c30
                                          try clear c30b0
                                          try clear c30b1
                                          try clear c31
                                          try clear c31b0
                                          try clear c31b1
                                          try clear c32
                                          try clear c32b0
                                          try clear c32b1
                                          try clear c33
                                          try clear c33b0
                                          try clear c33b1
                                          try clear c34
                                          try clear c36
                                          try clear c36b0
                                          try clear c36b1
                                          try clear c37
                                          try clear c37b0
                                          try clear c37b1
                                          try clear c38
                                          try clear c45
                                          try clear c45b0
                                          try clear c45b1
                                          try clear c46
                                          try clear c47
                                          try clear c47b0
                                          try clear c47b1
                                          try clear c49
                                          try clear c49b0
                                          try clear c49b1
                                          try clear c50
                                          try clear c50b0
                                          try clear c50b1
                                          try clear c52
                                          try clear c52b0
                                          try clear c53
                                          try clear c53b0
                                          try clear q57
                                          try clear c58
                                          try clear q58
                                          try clear c59
                                          try clear c59b0
                                          try clear c59b1
                                          try clear c60
                                          try clear c60b0
                                          try clear c60b1
                                          try clear c61
                                          try clear c61b0
                                          try clear c61b1
                                          try clear c62
                                          try clear p2
                                          try clear p6
                                          try clear q058
                                          try clear q1
                                          try clear q18
                                          try clear q5
                                          try clear q57
                                          try clear q58
                                          obtain ⟨x30_4, x31_4, rfl, rfl, HA, HK4, HB⟩ := hrel
                                          cases gk with
                                          | zero => exact absurd HA.out (by simp [foghornlaw24_SumsLinear.l0])
                                          | succ k4 =>
                                            have H := HA.out
                                            clear HA
                                            simp only [foghornlaw24_SumsLinear.l0] at H
                                            by_cases c63 : x31_4 < (y127.length : Int)
                                            · rw [if_pos c63] at H
                                              have c63b0 : decide (x31_4 < (y127.length : Int)) = true := decide_eq_true c63
                                              clear c63
                                              by_cases c64 : 0 ≤ x31_4
                                              · rw [if_pos c64] at H
                                                have c64b0 := eq_true c64
                                                have c64b1 : decide (0 ≤ x31_4) = true := decide_eq_true c64
                                                clear c64
                                                by_cases c65 : x31_4 ≤ (wrap64 (x31_4 + 1))
                                                · rw [if_pos c65] at H
                                                  have c65b0 := eq_true c65
                                                  have c65b1 : decide (x31_4 ≤ (wrap64 (x31_4 + 1))) = true := decide_eq_true c65
                                                  by_cases c66 : (wrap64 (x31_4 + 1)) ≤ (y127.length : Int)
                                                  · rw [if_pos c66] at H
                                                    have c66b0 := eq_true c66
                                                    have c66b1 : decide ((wrap64 (x31_4 + 1)) ≤ (y127.length : Int)) = true := decide_eq_true c66
                                                    obtain ⟨y177, hy177⟩ : ∃ y_ : List Bool, y_ = ((y127.take ((wrap64 (x31_4 + 1)) : Int).toNat).drop (x31_4 : Int).toNat) := ⟨_, rfl⟩
                                                    replace H : ((sums_On16.f k4 x30_4 y177).bind fun bt181 => (if bt181.2 = 0 then (foghornlaw24_SumsLinear.l0 k4 y127 t146 bt181.1 (wrap64 (x31_4 + 1))) else (some false))) = some true := by first | (rw [hy177]; with_reducible exact H) | (have H2_ := (Option.bind_some _ _).symm.trans H; rw [hy177]; with_reducible exact H2_) | (have H2_ := (Option.bind_some _ _).symm.trans H; with_reducible exact H2_) | with_reducible exact H | (rw [hy177]; exact H) | exact H
                                                    have Ny177 := Aside0.mk hy177
                                                    clear hy177
                                                    replace H := Option.bind_eq_some_iff.mp H
                                                    obtain ⟨⟨t181, t182⟩, A670, H⟩ := H
                                                    replace H : (if t182 = 0 then (foghornlaw24_SumsLinear.l0 k4 y127 t146 t181 (wrap64 (x31_4 + 1))) else (some false)) = some true := H
                                                    have A67 := Aside0.mk A670
                                                    clear A670
                                                    by_cases c68 : t182 = 0
                                                    · rw [if_pos c68] at H
                                                      have c68b0 : (t182 == 0) = true := beq_iff_eq.mpr c68
                                                      have c68b1 : (t182 != 0) = false := bne_eq_false_iff_eq.mpr c68
                                                      clear c68
                                                      have H' := Aside0.mk H
                                                      clear H
                                                      have q69 : ((wrap64 (x31_4 + 1)) : Int) ≤ ((y127.length : Int) : Int) := of_decide_eq_true (by first | (with_reducible assumption) | assumption)
                                                      obtain ⟨i069, hi069, _, hsz69, _⟩ := info_parts info4
                                                      have hroom69 : y127.length ≤ c0 := HC130.out
                                                      have hC69 : Kd.C Kd.bool _ A0 y127.length y127 := HR130.out
                                                      have ql69 : (x31_4 : Int) ≤ ((wrap64 (x31_4 + 1)) : Int) := of_decide_eq_true (by first | (with_reducible assumption) | assumption)
                                                      have q069 : (0 : Int) ≤ (x31_4 : Int) := of_decide_eq_true (by first | (with_reducible assumption) | assumption)
                                                      have hcut69 := cut_mid (P := Try.prog) 22 4 .i64 .i64 Try.underlying22 hi069 1 hsz69 A0 y127.length c0 x31_4 (wrap64 (x31_4 + 1)) q069 ql69 q69 hroom69
                                                      have hr69 := Kd.C_mid (lo := (x31_4 : Int).toNat) (hi := ((wrap64 (x31_4 + 1)) : Int).toNat) (c := c0) hC69 (by omega) (by omega) hroom69
                                                      obtain ⟨A69, hA69⟩ : ∃ A1, A1 = (if c0 = (x31_4 : Int).toNat then A0 else (A0 : Option Addr).map (·.add ((x31_4 : Int).toNat * 1))) := ⟨_, rfl⟩
                                                      obtain ⟨c69, hc69⟩ : ∃ c1, c1 = c0 - (x31_4 : Int).toNat := ⟨_, rfl⟩
                                                      have hy69 : y177.length = ((wrap64 (x31_4 + 1)) : Int).toNat - (x31_4 : Int).toNat := (by rw [Ny177.out, List.length_drop, List.length_take] <;> omega)
                                                      rw [show ((y127).take ((wrap64 (x31_4 + 1)) : Int).toNat).drop (x31_4 : Int).toNat = y177 from Ny177.out.symm] at hr69
                                                      replace hr69 : Kd.C Kd.bool _ A69 y177.length y177 := (by rw [hA69]; exact hr69)
                                                      rw [← hy69, ← hA69, ← hc69] at hcut69
                                                      have HR180 := Aside0.mk hr69
                                                      have HC180 := Aside0.mk (show y177.length ≤ c69 from by rw [hy69, hc69]; exact Nat.sub_le_sub_right (Nat.le_trans (by omega) hroom69) _)
                                                      clear hr69 hC69 hroom69 hi069 hsz69 hc69
                                                      have KY69 := Aside0.mk hy69
                                                      have KA69 := Aside0.mk hA69
                                                      clear hy69 hA69
                                                      replace q69 := eq_true q69
                                                      go_wp2_with (first | ((with_reducible refine gate_callee (f := 12) rfl ?_); refine goesL_ (some 190) rfl rfl Try.func12 (by kernel_rfl) rfl #[.int .u16 x30_4, .slice A69 y177.length c69] rfl (by (try simp only [List.map_toArray, List.map_cons, List.map_nil]); first | done | rfl | (simp only [List.length_drop, List.length_take]; rfl)) ?_; (with_reducible refine (sums_On16.calls k4 x30_4 _ _ y177 t181 t182 _ ?side1 ?side2 A67.out).mono ?_); (case side1 => repeat (first | exact (Kd.C_below HR180.out HB.out) | (with_reducible refine Kd.C_alloc ?_ _) | (with_reducible refine Kd.C_drewN ?_ _) | (with_reducible refine Kd.C_drew ?_))); (case side2 => exact HC180.out); rintro e w' ⟨rfl, ⟨nd, rfl⟩⟩; refine ⟨_, rfl, ?_⟩))
                                                      (first | go_roundg k4 | (simp only [add_plain] at *; go_roundg k4))
                                                      case measure => have := HJ16.out; have := HJ39.out; have := HJ55.out; have := HK4.out; omega
                                                      case rel => exact ⟨(t181), (wrap64 (x31_4 + 1)), (by first | rfl | (simp; done) | (simp [*]; done) | (simp; omega) | (congr 1; omega) | (rw [hR_]; done) | (simp only [hR_]; done) | (simp [hR_]; done)), (by first | rfl | (simp; done) | (simp [*]; done) | (simp; omega) | (congr 1; omega) | (rw [hR_]; done) | (simp only [hR_]; done) | (simp [hR_]; done)), H', ⟨by have := HJ16.out; have := HJ39.out; have := HJ55.out; have := HK4.out; omega⟩, ⟨by repeat (first | (with_reducible first | exact HB.out | apply below_alloc | apply pw_below_drewN | apply below_drew1) | exact HB.out)⟩⟩
                                                    · rw [if_neg c68] at H
                                                      have c68b0 : (t182 == 0) = false := beq_eq_false_iff_ne.mpr c68
                                                      have c68b1 : (t182 != 0) = true := bne_iff_ne.mpr c68
                                                      exact absurd H (by simp)
                                                  · rw [if_neg c66] at H
                                                    exact absurd H (by simp)
                                                · rw [if_neg c65] at H
                                                  exact absurd H (by simp)
                                              · rw [if_neg c64] at H
                                                exact absurd H (by simp)
                                            · rw [if_neg c63] at H
                                              have c63b0 : decide (x31_4 < (y127.length : Int)) = false := decide_eq_false c63
                                              clear c63
                                              by_cases c70 : x30_4 = t146
                                              · rw [if_pos c70] at H
                                                have c70b0 : (x30_4 == t146) = true := beq_iff_eq.mpr c70
                                                have c70b1 : (x30_4 != t146) = false := bne_eq_false_iff_eq.mpr c70
                                                clear c70
                                                replace H := Option.bind_eq_some_iff.mp H
                                                obtain ⟨t183, A710, H⟩ := H
                                                replace H : (some t183) = some true := H
                                                have A71 := Aside0.mk A710
                                                clear A710
                                                obtain rfl := Option.some.inj H
                                                go_wp2_with (first | (go_at_call 13; (with_reducible refine (foghornlaw24_awake.calls k4  true _ A71.out).mono ?_); rintro e w72 ⟨rfl, hb⟩; have n0_ := Aside0.mk (below_step (by repeat (first | (with_reducible first | exact HB.out | apply below_alloc | apply pw_below_drewN | apply below_drew1) | exact HB.out)) hb); clear HB; have HB := n0_; clear n0_; (try clear hb); (try clear hb2); (try clear hk); (try clear hi)))
                                                go_ret
                                                exact ⟨by first | rfl | (simp [errW_none, errW_some] <;> rfl) | (simp only [← hji4, ← hji35, ← hji48]; first | rfl | (simp [errW_none, errW_some] <;> rfl)) | (simp [*, errW_none, errW_some] <;> rfl), by repeat (first | (with_reducible first | exact HB.out | apply below_alloc | apply pw_below_drewN | apply below_drew1) | exact HB.out)⟩
                                              · rw [if_neg c70] at H
                                                have c70b0 : (x30_4 == t146) = false := beq_eq_false_iff_ne.mpr c70
                                                have c70b1 : (x30_4 != t146) = true := bne_iff_ne.mpr c70
                                                exact absurd H (by simp)
                                · rw [if_neg c50] at H
                                  exact absurd H (by simp)
                              · rw [if_neg c49] at H
                                exact absurd H (by simp)
                    · rw [if_neg c38] at H
                      exact absurd H (by simp)
                  · rw [if_neg c37] at H
                    exact absurd H (by simp)
                · rw [if_neg c36] at H
                  exact absurd H (by simp)
        · rw [if_neg c8] at H
          exact absurd H (by simp)
      · rw [if_neg c7] at H
        exact absurd H (by simp)
    · rw [if_neg c6] at H
      exact absurd H (by simp)
  · rw [if_neg c5] at H
    exact absurd H (by simp)

end Go.Proofs.Ytjnedgkpakoceaa.Fog
