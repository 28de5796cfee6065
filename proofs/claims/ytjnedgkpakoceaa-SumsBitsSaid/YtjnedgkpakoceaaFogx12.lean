-- Written by fog.py, a program of this session, over the kit's print.
import Derived.Test.YtjnedgkpakoceaaFogx0
import Derived.Test.YtjnedgkpakoceaaFogx1
import Derived.Test.YtjnedgkpakoceaaFogx8
import Derived.Test.YtjnedgkpakoceaaFogx9
import Derived.Test.YtjnedgkpakoceaaFogx10
import Derived.Test.YtjnedgkpakoceaaFogx11
namespace Go.Proofs.Ytjnedgkpakoceaa.Fog
open Go.RowKit Go.Proofs.YtjnedgkpakoceaaW.PrintWords Go.Proofs.YtjnedgkpakoceaaW.PrintLast Go.Proofs.YtjnedgkpakoceaaW.PrintMore
attribute [local go_sem] max2_int min2_int max_two min_two max_three min_three max_four min_four   -- for this text's walks alone
attribute [local go_sem] fog_signed_u8 fog_max_u8 fog_signed_u16 fog_max_u16 fog_signed_u32 fog_max_u32 fog_signed_u64 fog_max_u64
set_option linter.unusedVariables false
set_option linter.unusedSimpArgs false

/-! ### foghornlaw24_told: function 28 -/
mutual
def foghornlaw24_told.j0 : Nat → List Bool → List Bool → Int → Bool → Option (Bool)
  | 0, _, _, _, _ => none
  | k + 1, x0, x1, x2, x64 => if x64 = true then (some false) else ((sums_On16.f k (IntKind.u16.wrap (x2)) x0).bind fun bt352 => ((foghornref24_On.f k 16 (Int.tmod x2 65536) x1).bind fun bt354 => ((sums_On32.f k x2 x0).bind fun bt356 => ((foghornref24_On.f k 32 x2 x1).bind fun bt358 => (if ((bt352.1) % 4294967296) = bt354.1 then (if bt352.2 = bt354.2 then (if bt356.1 = bt358.1 then (foghornlaw24_told.j1 k x0 x1 (bt356.2 != bt358.2)) else (foghornlaw24_told.j1 k x0 x1 true)) else (foghornlaw24_told.j1 k x0 x1 true)) else (foghornlaw24_told.j1 k x0 x1 true))))))
def foghornlaw24_told.j1 : Nat → List Bool → List Bool → Bool → Option (Bool)
  | 0, _, _, _ => none
  | k + 1, x0, x1, x109 => if x109 = true then (some false) else ((sums_Row16.f k x0).bind fun bt360 => ((foghornref24_Row.f k 16 x1).bind fun bt364 => ((sums_Row32.f k x0).bind fun bt368 => ((foghornref24_Row.f k 32 x1).bind fun bt372 => (if bt360.2 = bt364.2 then ((foghornref24_Same.f k bt360.1 bt364.1).bind fun t376 => (if t376 = true then (if bt368.2 = bt372.2 then ((foghornref24_Same.f k bt368.1 bt372.1).bind fun t377 => (if t377 = true then ((sums_Fits16.f k bt360.1).bind fun t378 => ((foghornref24_Fits.f k 16 bt364.1).bind fun t379 => (if (t378 != t379) = true then (foghornlaw24_told.j2 k x0 x1 bt360.1 bt364.1 true) else ((sums_Fits32.f k bt368.1).bind fun t380 => ((foghornref24_Fits.f k 32 bt372.1).bind fun t381 => (foghornlaw24_told.j2 k x0 x1 bt360.1 bt364.1 (t380 != t381))))))) else (foghornlaw24_told.j2 k x0 x1 bt360.1 bt364.1 true))) else (foghornlaw24_told.j2 k x0 x1 bt360.1 bt364.1 true)) else (foghornlaw24_told.j2 k x0 x1 bt360.1 bt364.1 true))) else (foghornlaw24_told.j2 k x0 x1 bt360.1 bt364.1 true))))))
def foghornlaw24_told.j2 : Nat → List Bool → List Bool → List Bool → List Bool → Bool → Option (Bool)
  | 0, _, _, _, _, _ => none
  | k + 1, x0, x1, x19, x20, x163 => if x163 = true then (some false) else (foghornlaw24_told.l0 k x0 x1 x19 x20 0)
def foghornlaw24_told.l0 : Nat → List Bool → List Bool → List Bool → List Bool → Int → Option (Bool)
  | 0, _, _, _, _, _ => none
  | k + 1, x0, x1, x19, x20, x23 => if x23 < (x19.length : Int) then (if 0 ≤ x23 then (foghornlaw24_told.l0 k x0 x1 (x19.set (x23 : Int).toNat (!(rdOf false x19 x23))) x20 (wrap64 (x23 + 1))) else (none)) else ((sums_Row16.f k x0).bind fun bt384 => ((foghornref24_Same.f k bt384.1 x20).bind fun t388 => (if t388 = true then ((sums_Fits16.f k x0).bind fun t389 => ((foghornref24_Fits.f k 16 x1).bind fun t390 => (if (t389 == t390) = true then ((sums_Fits32.f k x0).bind fun t391 => ((foghornref24_Fits.f k 32 x1).bind fun t392 => (some (t391 == t392)))) else (some false)))) else (some false))))
end
def foghornlaw24_told.f (k : Nat) (l0 : List Bool) (l1 : List Bool) (a2 : Int) : Option (Bool) := (sums_Sum16.f k l0).bind fun bt344 => ((foghornref24_Told.f k 16 l1).bind fun bt346 => ((sums_Sum32.f k l0).bind fun bt348 => ((foghornref24_Told.f k 32 l1).bind fun bt350 => (if ((bt344.1) % 4294967296) = bt346.1 then (if bt344.2 = bt346.2 then (if bt348.1 = bt350.1 then (foghornlaw24_told.j0 k l0 l1 a2 (bt348.2 != bt350.2)) else (foghornlaw24_told.j0 k l0 l1 a2 true)) else (foghornlaw24_told.j0 k l0 l1 a2 true)) else (foghornlaw24_told.j0 k l0 l1 a2 true)))))
theorem foghornlaw24_told.mono_l : ∀ k, (∀ y0 y1 y2 y3, LeO (foghornlaw24_told.j0 k y0 y1 y2 y3) (foghornlaw24_told.j0 (k + 1) y0 y1 y2 y3)) ∧ (∀ y0 y1 y2, LeO (foghornlaw24_told.j1 k y0 y1 y2) (foghornlaw24_told.j1 (k + 1) y0 y1 y2)) ∧ (∀ y0 y1 y2 y3 y4, LeO (foghornlaw24_told.j2 k y0 y1 y2 y3 y4) (foghornlaw24_told.j2 (k + 1) y0 y1 y2 y3 y4)) ∧ (∀ y0 y1 y2 y3 y4, LeO (foghornlaw24_told.l0 k y0 y1 y2 y3 y4) (foghornlaw24_told.l0 (k + 1) y0 y1 y2 y3 y4))
  | 0 => ⟨fun _ _ _ _ r h => by simp [foghornlaw24_told.j0] at h, fun _ _ _ r h => by simp [foghornlaw24_told.j1] at h, fun _ _ _ _ _ r h => by simp [foghornlaw24_told.j2] at h, fun _ _ _ _ _ r h => by simp [foghornlaw24_told.l0] at h⟩
  | k + 1 => by
    obtain ⟨ih0, ih1, ih2, ih3⟩ := foghornlaw24_told.mono_l k
    refine ⟨?_, ?_, ?_, ?_⟩
    · intro y0 y1 y2 y3
      unfold foghornlaw24_told.j0
      repeat' first
      | (with_reducible exact ih0 _ _ _ _)
      | (with_reducible exact ih1 _ _ _)
      | (with_reducible exact ih2 _ _ _ _ _)
      | (with_reducible exact ih3 _ _ _ _ _)
      | (with_reducible exact foghornref24_Fits.mono _ _ _)
      | (with_reducible exact foghornref24_On.mono _ _ _ _)
      | (with_reducible exact foghornref24_Row.mono _ _ _)
      | (with_reducible exact foghornref24_Same.mono _ _ _)
      | (with_reducible exact foghornref24_Told.mono _ _ _)
      | (with_reducible exact sums_Fits16.mono _ _)
      | (with_reducible exact sums_Fits32.mono _ _)
      | (with_reducible exact sums_On16.mono _ _ _)
      | (with_reducible exact sums_On32.mono _ _ _)
      | (with_reducible exact sums_Row16.mono _ _)
      | (with_reducible exact sums_Row32.mono _ _)
      | (with_reducible exact sums_Sum16.mono _ _)
      | (with_reducible exact sums_Sum32.mono _ _)
      | (with_reducible exact LeO.refl _)
      | (with_reducible exact LeO.none _)
      | (with_reducible refine LeO.ite ?_ ?_)
      | (with_reducible refine LeO.bind ?_ (fun _ => ?_))
      | exact ih0 _ _ _ _
      | exact ih1 _ _ _
      | exact ih2 _ _ _ _ _
      | exact ih3 _ _ _ _ _
      | exact foghornref24_Fits.mono _ _ _
      | exact foghornref24_On.mono _ _ _ _
      | exact foghornref24_Row.mono _ _ _
      | exact foghornref24_Same.mono _ _ _
      | exact foghornref24_Told.mono _ _ _
      | exact sums_Fits16.mono _ _
      | exact sums_Fits32.mono _ _
      | exact sums_On16.mono _ _ _
      | exact sums_On32.mono _ _ _
      | exact sums_Row16.mono _ _
      | exact sums_Row32.mono _ _
      | exact sums_Sum16.mono _ _
      | exact sums_Sum32.mono _ _
      | exact LeO.none _
      | refine LeO.ite ?_ ?_
      | refine LeO.bind ?_ (fun _ => ?_)
    · intro y0 y1 y2
      unfold foghornlaw24_told.j1
      repeat' first
      | (with_reducible exact ih0 _ _ _ _)
      | (with_reducible exact ih1 _ _ _)
      | (with_reducible exact ih2 _ _ _ _ _)
      | (with_reducible exact ih3 _ _ _ _ _)
      | (with_reducible exact foghornref24_Fits.mono _ _ _)
      | (with_reducible exact foghornref24_On.mono _ _ _ _)
      | (with_reducible exact foghornref24_Row.mono _ _ _)
      | (with_reducible exact foghornref24_Same.mono _ _ _)
      | (with_reducible exact foghornref24_Told.mono _ _ _)
      | (with_reducible exact sums_Fits16.mono _ _)
      | (with_reducible exact sums_Fits32.mono _ _)
      | (with_reducible exact sums_On16.mono _ _ _)
      | (with_reducible exact sums_On32.mono _ _ _)
      | (with_reducible exact sums_Row16.mono _ _)
      | (with_reducible exact sums_Row32.mono _ _)
      | (with_reducible exact sums_Sum16.mono _ _)
      | (with_reducible exact sums_Sum32.mono _ _)
      | (with_reducible exact LeO.refl _)
      | (with_reducible exact LeO.none _)
      | (with_reducible refine LeO.ite ?_ ?_)
      | (with_reducible refine LeO.bind ?_ (fun _ => ?_))
      | exact ih0 _ _ _ _
      | exact ih1 _ _ _
      | exact ih2 _ _ _ _ _
      | exact ih3 _ _ _ _ _
      | exact foghornref24_Fits.mono _ _ _
      | exact foghornref24_On.mono _ _ _ _
      | exact foghornref24_Row.mono _ _ _
      | exact foghornref24_Same.mono _ _ _
      | exact foghornref24_Told.mono _ _ _
      | exact sums_Fits16.mono _ _
      | exact sums_Fits32.mono _ _
      | exact sums_On16.mono _ _ _
      | exact sums_On32.mono _ _ _
      | exact sums_Row16.mono _ _
      | exact sums_Row32.mono _ _
      | exact sums_Sum16.mono _ _
      | exact sums_Sum32.mono _ _
      | exact LeO.none _
      | refine LeO.ite ?_ ?_
      | refine LeO.bind ?_ (fun _ => ?_)
    · intro y0 y1 y2 y3 y4
      unfold foghornlaw24_told.j2
      repeat' first
      | (with_reducible exact ih0 _ _ _ _)
      | (with_reducible exact ih1 _ _ _)
      | (with_reducible exact ih2 _ _ _ _ _)
      | (with_reducible exact ih3 _ _ _ _ _)
      | (with_reducible exact foghornref24_Fits.mono _ _ _)
      | (with_reducible exact foghornref24_On.mono _ _ _ _)
      | (with_reducible exact foghornref24_Row.mono _ _ _)
      | (with_reducible exact foghornref24_Same.mono _ _ _)
      | (with_reducible exact foghornref24_Told.mono _ _ _)
      | (with_reducible exact sums_Fits16.mono _ _)
      | (with_reducible exact sums_Fits32.mono _ _)
      | (with_reducible exact sums_On16.mono _ _ _)
      | (with_reducible exact sums_On32.mono _ _ _)
      | (with_reducible exact sums_Row16.mono _ _)
      | (with_reducible exact sums_Row32.mono _ _)
      | (with_reducible exact sums_Sum16.mono _ _)
      | (with_reducible exact sums_Sum32.mono _ _)
      | (with_reducible exact LeO.refl _)
      | (with_reducible exact LeO.none _)
      | (with_reducible refine LeO.ite ?_ ?_)
      | (with_reducible refine LeO.bind ?_ (fun _ => ?_))
      | exact ih0 _ _ _ _
      | exact ih1 _ _ _
      | exact ih2 _ _ _ _ _
      | exact ih3 _ _ _ _ _
      | exact foghornref24_Fits.mono _ _ _
      | exact foghornref24_On.mono _ _ _ _
      | exact foghornref24_Row.mono _ _ _
      | exact foghornref24_Same.mono _ _ _
      | exact foghornref24_Told.mono _ _ _
      | exact sums_Fits16.mono _ _
      | exact sums_Fits32.mono _ _
      | exact sums_On16.mono _ _ _
      | exact sums_On32.mono _ _ _
      | exact sums_Row16.mono _ _
      | exact sums_Row32.mono _ _
      | exact sums_Sum16.mono _ _
      | exact sums_Sum32.mono _ _
      | exact LeO.none _
      | refine LeO.ite ?_ ?_
      | refine LeO.bind ?_ (fun _ => ?_)
    · intro y0 y1 y2 y3 y4
      unfold foghornlaw24_told.l0
      repeat' first
      | (with_reducible exact ih0 _ _ _ _)
      | (with_reducible exact ih1 _ _ _)
      | (with_reducible exact ih2 _ _ _ _ _)
      | (with_reducible exact ih3 _ _ _ _ _)
      | (with_reducible exact foghornref24_Fits.mono _ _ _)
      | (with_reducible exact foghornref24_On.mono _ _ _ _)
      | (with_reducible exact foghornref24_Row.mono _ _ _)
      | (with_reducible exact foghornref24_Same.mono _ _ _)
      | (with_reducible exact foghornref24_Told.mono _ _ _)
      | (with_reducible exact sums_Fits16.mono _ _)
      | (with_reducible exact sums_Fits32.mono _ _)
      | (with_reducible exact sums_On16.mono _ _ _)
      | (with_reducible exact sums_On32.mono _ _ _)
      | (with_reducible exact sums_Row16.mono _ _)
      | (with_reducible exact sums_Row32.mono _ _)
      | (with_reducible exact sums_Sum16.mono _ _)
      | (with_reducible exact sums_Sum32.mono _ _)
      | (with_reducible exact LeO.refl _)
      | (with_reducible exact LeO.none _)
      | (with_reducible refine LeO.ite ?_ ?_)
      | (with_reducible refine LeO.bind ?_ (fun _ => ?_))
      | exact ih0 _ _ _ _
      | exact ih1 _ _ _
      | exact ih2 _ _ _ _ _
      | exact ih3 _ _ _ _ _
      | exact foghornref24_Fits.mono _ _ _
      | exact foghornref24_On.mono _ _ _ _
      | exact foghornref24_Row.mono _ _ _
      | exact foghornref24_Same.mono _ _ _
      | exact foghornref24_Told.mono _ _ _
      | exact sums_Fits16.mono _ _
      | exact sums_Fits32.mono _ _
      | exact sums_On16.mono _ _ _
      | exact sums_On32.mono _ _ _
      | exact sums_Row16.mono _ _
      | exact sums_Row32.mono _ _
      | exact sums_Sum16.mono _ _
      | exact sums_Sum32.mono _ _
      | exact LeO.none _
      | refine LeO.ite ?_ ?_
      | refine LeO.bind ?_ (fun _ => ?_)
theorem foghornlaw24_told.mono : ∀ a0 a1 a2 k, LeO (foghornlaw24_told.f k a0 a1 a2) (foghornlaw24_told.f (k + 1) a0 a1 a2) := by
  intro a0 a1 a2 k
  obtain ⟨ih0, ih1, ih2, ih3⟩ := foghornlaw24_told.mono_l k
  unfold foghornlaw24_told.f
  repeat' first
      | (with_reducible exact ih0 _ _ _ _)
      | (with_reducible exact ih1 _ _ _)
      | (with_reducible exact ih2 _ _ _ _ _)
      | (with_reducible exact ih3 _ _ _ _ _)
      | (with_reducible exact foghornref24_Fits.mono _ _ _)
      | (with_reducible exact foghornref24_On.mono _ _ _ _)
      | (with_reducible exact foghornref24_Row.mono _ _ _)
      | (with_reducible exact foghornref24_Same.mono _ _ _)
      | (with_reducible exact foghornref24_Told.mono _ _ _)
      | (with_reducible exact sums_Fits16.mono _ _)
      | (with_reducible exact sums_Fits32.mono _ _)
      | (with_reducible exact sums_On16.mono _ _ _)
      | (with_reducible exact sums_On32.mono _ _ _)
      | (with_reducible exact sums_Row16.mono _ _)
      | (with_reducible exact sums_Row32.mono _ _)
      | (with_reducible exact sums_Sum16.mono _ _)
      | (with_reducible exact sums_Sum32.mono _ _)
      | (with_reducible exact LeO.refl _)
      | (with_reducible exact LeO.none _)
      | (with_reducible refine LeO.ite ?_ ?_)
      | (with_reducible refine LeO.bind ?_ (fun _ => ?_))
      | exact ih0 _ _ _ _
      | exact ih1 _ _ _
      | exact ih2 _ _ _ _ _
      | exact ih3 _ _ _ _ _
      | exact foghornref24_Fits.mono _ _ _
      | exact foghornref24_On.mono _ _ _ _
      | exact foghornref24_Row.mono _ _ _
      | exact foghornref24_Same.mono _ _ _
      | exact foghornref24_Told.mono _ _ _
      | exact sums_Fits16.mono _ _
      | exact sums_Fits32.mono _ _
      | exact sums_On16.mono _ _ _
      | exact sums_On32.mono _ _ _
      | exact sums_Row16.mono _ _
      | exact sums_Row32.mono _ _
      | exact sums_Sum16.mono _ _
      | exact sums_Sum32.mono _ _
      | exact LeO.none _
      | refine LeO.ite ?_ ?_
      | refine LeO.bind ?_ (fun _ => ?_)
set_option maxHeartbeats 8000000 in
set_option maxRecDepth 100000 in
theorem foghornlaw24_told.calls (k : Nat) (A0 : Option Addr) (c0 : Nat) (l0 : List Bool) (A1 : Option Addr) (c1 : Nat) (l1 : List Bool) (a2 : Int) (r : Bool) (w : World) (hr0 : Kd.C Kd.bool w A0 l0.length l0) (hc0 : l0.length ≤ c0) (hr1 : Kd.C Kd.bool w A1 l1.length l1) (hc1 : l1.length ≤ c1) (h : foghornlaw24_told.f k l0 l1 a2 = some r) (ho_ : r = true := by rfl) :
    Calls Try.prog 28 #[.slice A0 l0.length c0, .slice A1 l1.length c1, .int .u32 a2] w fun e w' => e = .returned (.bool r) ∧ Below w.heap.size w w' := by
  subst ho_
  have HR0 := Aside0.mk hr0
  have HC0 := Aside0.mk hc0
  clear hr0 hc0
  have HR1 := Aside0.mk hr1
  have HC1 := Aside0.mk hc1
  clear hr1 hc1
  have HB := Aside0.mk (Below.refl w.heap.size w)
  have H : ((sums_Sum16.f k l0).bind fun bt344 => ((foghornref24_Told.f k 16 l1).bind fun bt346 => ((sums_Sum32.f k l0).bind fun bt348 => ((foghornref24_Told.f k 32 l1).bind fun bt350 => (if ((bt344.1) % 4294967296) = bt346.1 then (if bt344.2 = bt346.2 then (if bt348.1 = bt350.1 then (foghornlaw24_told.j0 k l0 l1 a2 (bt348.2 != bt350.2)) else (foghornlaw24_told.j0 k l0 l1 a2 true)) else (foghornlaw24_told.j0 k l0 l1 a2 true)) else (foghornlaw24_told.j0 k l0 l1 a2 true)))))) = some true := h
  clear h
  replace H := Option.bind_eq_some_iff.mp H
  obtain ⟨⟨t344, t345⟩, A40, H⟩ := H
  replace H : ((foghornref24_Told.f k 16 l1).bind fun bt346 => ((sums_Sum32.f k l0).bind fun bt348 => ((foghornref24_Told.f k 32 l1).bind fun bt350 => (if ((t344) % 4294967296) = bt346.1 then (if t345 = bt346.2 then (if bt348.1 = bt350.1 then (foghornlaw24_told.j0 k l0 l1 a2 (bt348.2 != bt350.2)) else (foghornlaw24_told.j0 k l0 l1 a2 true)) else (foghornlaw24_told.j0 k l0 l1 a2 true)) else (foghornlaw24_told.j0 k l0 l1 a2 true))))) = some true := H
  have A4 := Aside0.mk A40
  clear A40
  replace H := Option.bind_eq_some_iff.mp H
  obtain ⟨⟨t346, t347⟩, A50, H⟩ := H
  replace H : ((sums_Sum32.f k l0).bind fun bt348 => ((foghornref24_Told.f k 32 l1).bind fun bt350 => (if ((t344) % 4294967296) = t346 then (if t345 = t347 then (if bt348.1 = bt350.1 then (foghornlaw24_told.j0 k l0 l1 a2 (bt348.2 != bt350.2)) else (foghornlaw24_told.j0 k l0 l1 a2 true)) else (foghornlaw24_told.j0 k l0 l1 a2 true)) else (foghornlaw24_told.j0 k l0 l1 a2 true)))) = some true := H
  have A5 := Aside0.mk A50
  clear A50
  replace H := Option.bind_eq_some_iff.mp H
  obtain ⟨⟨t348, t349⟩, A60, H⟩ := H
  replace H : ((foghornref24_Told.f k 32 l1).bind fun bt350 => (if ((t344) % 4294967296) = t346 then (if t345 = t347 then (if t348 = bt350.1 then (foghornlaw24_told.j0 k l0 l1 a2 (t349 != bt350.2)) else (foghornlaw24_told.j0 k l0 l1 a2 true)) else (foghornlaw24_told.j0 k l0 l1 a2 true)) else (foghornlaw24_told.j0 k l0 l1 a2 true))) = some true := H
  have A6 := Aside0.mk A60
  clear A60
  replace H := Option.bind_eq_some_iff.mp H
  obtain ⟨⟨t350, t351⟩, A70, H⟩ := H
  replace H : (if ((t344) % 4294967296) = t346 then (if t345 = t347 then (if t348 = t350 then (foghornlaw24_told.j0 k l0 l1 a2 (t349 != t351)) else (foghornlaw24_told.j0 k l0 l1 a2 true)) else (foghornlaw24_told.j0 k l0 l1 a2 true)) else (foghornlaw24_told.j0 k l0 l1 a2 true)) = some true := H
  have A7 := Aside0.mk A70
  clear A70
  have HC8 := Aside0.mk H
  clear H
  go_enter Try.func28, Try.ntmps28
  go_upto_region 5 with (first | ((with_reducible refine gate_callee (f := 10) rfl ?_); refine goesL_ (some 28) rfl rfl Try.func10 (by kernel_rfl) rfl #[.slice A0 l0.length c0] rfl (by (try simp only [List.map_toArray, List.map_cons, List.map_nil]); first | done | rfl | (simp only [List.length_drop, List.length_take]; rfl)) ?_; (with_reducible refine (sums_Sum16.calls k _ _ l0 t344 t345 _ ?side1 ?side2 A4.out).mono ?_); (case side1 => repeat (first | exact HR0.out | (with_reducible refine Kd.C_alloc ?_ _) | (with_reducible refine Kd.C_drewN ?_ _) | (with_reducible refine Kd.C_drew ?_))); (case side2 => exact HC0.out); rintro e w' ⟨rfl, ⟨nd, rfl⟩⟩; refine ⟨_, rfl, ?_⟩) | ((with_reducible refine gate_callee (f := 44) rfl ?_); refine goesL_ (some 33) rfl rfl Try.func44 (by kernel_rfl) rfl #[.int .i64 16, .slice A1 l1.length c1] rfl (by (try simp only [List.map_toArray, List.map_cons, List.map_nil]); first | done | rfl | (simp only [List.length_drop, List.length_take]; rfl)) ?_; (with_reducible refine (foghornref24_Told.calls k 16 _ _ l1 t346 t347 _ ?side1 ?side2 A5.out).mono ?_); (case side1 => repeat (first | exact HR1.out | (with_reducible refine Kd.C_alloc ?_ _) | (with_reducible refine Kd.C_drewN ?_ _) | (with_reducible refine Kd.C_drew ?_))); (case side2 => exact HC1.out); rintro e w9 ⟨rfl, hb⟩; refine ⟨_, rfl, ?_⟩; have n0_ := Aside0.mk (below_step (by repeat (first | (with_reducible first | exact HB.out | apply below_alloc | apply pw_below_drewN | apply below_drew1) | exact HB.out)) hb); clear HB; have HB := n0_; clear n0_; (try clear hb); (try clear hb2); (try clear hk); (try clear hi)) | ((with_reducible refine gate_callee (f := 8) rfl ?_); refine goesL_ (some 38) rfl rfl Try.func8 (by kernel_rfl) rfl #[.slice A0 l0.length c0] rfl (by (try simp only [List.map_toArray, List.map_cons, List.map_nil]); first | done | rfl | (simp only [List.length_drop, List.length_take]; rfl)) ?_; (with_reducible refine (sums_Sum32.calls k _ _ l0 t348 t349 _ ?side1 ?side2 A6.out).mono ?_); (case side1 => repeat (first | exact (Kd.C_below HR0.out HB.out) | (with_reducible refine Kd.C_alloc ?_ _) | (with_reducible refine Kd.C_drewN ?_ _) | (with_reducible refine Kd.C_drew ?_))); (case side2 => exact HC0.out); rintro e w' ⟨rfl, ⟨nd, rfl⟩⟩; refine ⟨_, rfl, ?_⟩) | ((with_reducible refine gate_callee (f := 44) rfl ?_); refine goesL_ (some 43) rfl rfl Try.func44 (by kernel_rfl) rfl #[.int .i64 32, .slice A1 l1.length c1] rfl (by (try simp only [List.map_toArray, List.map_cons, List.map_nil]); first | done | rfl | (simp only [List.length_drop, List.length_take]; rfl)) ?_; (with_reducible refine (foghornref24_Told.calls k 32 _ _ l1 t350 t351 _ ?side1 ?side2 A7.out).mono ?_); (case side1 => repeat (first | exact (Kd.C_below HR1.out (by repeat (first | (with_reducible first | exact HB.out | apply below_alloc | apply pw_below_drewN | apply below_drew1) | exact HB.out))) | (with_reducible refine Kd.C_alloc ?_ _) | (with_reducible refine Kd.C_drewN ?_ _) | (with_reducible refine Kd.C_drew ?_))); (case side2 => exact HC1.out); rintro e w10 ⟨rfl, hb⟩; refine ⟨_, rfl, ?_⟩; have n0_ := Aside0.mk (below_step (by repeat (first | (with_reducible first | exact HB.out | apply below_alloc | apply pw_below_drewN | apply below_drew1) | exact HB.out)) hb); clear HB; have HB := n0_; clear n0_; (try clear hb); (try clear hb2); (try clear hk); (try clear hi)))
  (try simp only [Act.put, List.setIfInBounds_toArray, List.set_cons_zero, List.set_cons_succ])
  go_cut [64] (fun v64 wc => ∃ (kq : Nat) (x64_7 : Bool), v64 = .bool x64_7 ∧ Aside0 (foghornlaw24_told.j0 kq l0 l1 a2 x64_7 = some true) ∧ Aside0 (kq ≤ k) ∧ Aside0 (Below w.heap.size w wc))
  case first =>
    have H := HC8.out
    clear HC8
    by_cases c11 : ((t344) % 4294967296) = t346
    · rw [if_pos c11] at H
      have c11b0 : (((t344) % 4294967296) == t346) = true := beq_iff_eq.mpr c11
      have c11b1 : (((t344) % 4294967296) != t346) = false := bne_eq_false_iff_eq.mpr c11
      clear c11
      (first | rw [c11b0] | (simp only [i64_w, i32_w]; rw [c11b0]) | skip)
      by_cases c12 : t345 = t347
      · rw [if_pos c12] at H
        have c12b0 : (t345 == t347) = true := beq_iff_eq.mpr c12
        have c12b1 : (t345 != t347) = false := bne_eq_false_iff_eq.mpr c12
        clear c12
        by_cases c13 : t348 = t350
        · rw [if_pos c13] at H
          have c13b0 : (t348 == t350) = true := beq_iff_eq.mpr c13
          have c13b1 : (t348 != t350) = false := bne_eq_false_iff_eq.mpr c13
          clear c13
          have H' := Aside0.mk H
          clear H
          go_wp2
          go_meet
          case rel => exact ⟨_, ((t349 != t351)), (by first | rfl | (simp; done) | (simp [*]; done) | (simp; omega) | (congr 1; omega) | (rw [hR_]; done) | (simp only [hR_]; done) | (simp [hR_]; done)), H', ⟨by first | omega | exact Nat.le_refl _⟩, ⟨by repeat (first | (with_reducible first | exact HB.out | apply below_alloc | apply pw_below_drewN | apply below_drew1) | exact HB.out)⟩⟩
        · rw [if_neg c13] at H
          have c13b0 : (t348 == t350) = false := beq_eq_false_iff_ne.mpr c13
          have c13b1 : (t348 != t350) = true := bne_iff_ne.mpr c13
          have H' := Aside0.mk H
          clear H
          go_wp2
          go_meet
          case rel => exact ⟨_, (true), (by first | rfl | (simp; done) | (simp [*]; done) | (simp; omega) | (congr 1; omega) | (rw [hR_]; done) | (simp only [hR_]; done) | (simp [hR_]; done)), H', ⟨by first | omega | exact Nat.le_refl _⟩, ⟨by repeat (first | (with_reducible first | exact HB.out | apply below_alloc | apply pw_below_drewN | apply below_drew1) | exact HB.out)⟩⟩
      · rw [if_neg c12] at H
        have c12b0 : (t345 == t347) = false := beq_eq_false_iff_ne.mpr c12
        have c12b1 : (t345 != t347) = true := bne_iff_ne.mpr c12
        have H' := Aside0.mk H
        clear H
        go_wp2
        go_meet
        case rel => exact ⟨_, (true), (by first | rfl | (simp; done) | (simp [*]; done) | (simp; omega) | (congr 1; omega) | (rw [hR_]; done) | (simp only [hR_]; done) | (simp [hR_]; done)), H', ⟨by first | omega | exact Nat.le_refl _⟩, ⟨by repeat (first | (with_reducible first | exact HB.out | apply below_alloc | apply pw_below_drewN | apply below_drew1) | exact HB.out)⟩⟩
    · rw [if_neg c11] at H
      have c11b0 : (((t344) % 4294967296) == t346) = false := beq_eq_false_iff_ne.mpr c11
      have c11b1 : (((t344) % 4294967296) != t346) = true := bne_iff_ne.mpr c11
      (first | rw [c11b0] | (simp only [i64_w, i32_w]; rw [c11b0]) | skip)
      have H' := Aside0.mk H
      clear H
      go_wp2
      go_meet
      case rel => exact ⟨_, (true), (by first | rfl | (simp; done) | (simp [*]; done) | (simp; omega) | (congr 1; omega) | (rw [hR_]; done) | (simp only [hR_]; done) | (simp [hR_]; done)), H', ⟨by first | omega | exact Nat.le_refl _⟩, ⟨by repeat (first | (with_reducible first | exact HB.out | apply below_alloc | apply pw_below_drewN | apply below_drew1) | exact HB.out)⟩⟩
  case rest =>
    clear HC8
    try clear c1
    try clear c2
    try clear p2
    try clear c4
    try clear c8
    try clear c10
    try clear c11
    try clear c11b0
    try clear c11b1
    try clear c12
    try clear c12b0
    try clear c12b1
    try clear c13
    try clear c13b0
    try clear c13b1
    obtain ⟨kq, x64_7, rfl, HA, HJ7, HB⟩ := hcut
    cases kq with
    | zero => exact absurd HA.out (by simp [foghornlaw24_told.j0])
    | succ kj7 =>
      have H := HA.out
      clear HA
      simp only [foghornlaw24_told.j0] at H
      by_cases c14 : x64_7 = true
      · subst c14
        have H1 : (some false) = some true := by rw [if_pos rfl] at H; exact H
        clear H
        have H := H1
        clear H1
        exact absurd H (by simp)
      · replace c14 := Bool.eq_false_iff.mpr c14
        subst c14
        have H1 : ((sums_On16.f kj7 (IntKind.u16.wrap (a2)) l0).bind fun bt352 => ((foghornref24_On.f kj7 16 (Int.tmod a2 65536) l1).bind fun bt354 => ((sums_On32.f kj7 a2 l0).bind fun bt356 => ((foghornref24_On.f kj7 32 a2 l1).bind fun bt358 => (if ((bt352.1) % 4294967296) = bt354.1 then (if bt352.2 = bt354.2 then (if bt356.1 = bt358.1 then (foghornlaw24_told.j1 kj7 l0 l1 (bt356.2 != bt358.2)) else (foghornlaw24_told.j1 kj7 l0 l1 true)) else (foghornlaw24_told.j1 kj7 l0 l1 true)) else (foghornlaw24_told.j1 kj7 l0 l1 true)))))) = some true := by rw [if_neg (show ¬ (false = true) by decide)] at H; exact H
        clear H
        have H := H1
        clear H1
        replace H := Option.bind_eq_some_iff.mp H
        obtain ⟨⟨t352, t353⟩, A150, H⟩ := H
        replace H : ((foghornref24_On.f kj7 16 (Int.tmod a2 65536) l1).bind fun bt354 => ((sums_On32.f kj7 a2 l0).bind fun bt356 => ((foghornref24_On.f kj7 32 a2 l1).bind fun bt358 => (if ((t352) % 4294967296) = bt354.1 then (if t353 = bt354.2 then (if bt356.1 = bt358.1 then (foghornlaw24_told.j1 kj7 l0 l1 (bt356.2 != bt358.2)) else (foghornlaw24_told.j1 kj7 l0 l1 true)) else (foghornlaw24_told.j1 kj7 l0 l1 true)) else (foghornlaw24_told.j1 kj7 l0 l1 true))))) = some true := H
        have A15 := Aside0.mk A150
        clear A150
        replace H := Option.bind_eq_some_iff.mp H
        obtain ⟨⟨t354, t355⟩, A160, H⟩ := H
        replace H : ((sums_On32.f kj7 a2 l0).bind fun bt356 => ((foghornref24_On.f kj7 32 a2 l1).bind fun bt358 => (if ((t352) % 4294967296) = t354 then (if t353 = t355 then (if bt356.1 = bt358.1 then (foghornlaw24_told.j1 kj7 l0 l1 (bt356.2 != bt358.2)) else (foghornlaw24_told.j1 kj7 l0 l1 true)) else (foghornlaw24_told.j1 kj7 l0 l1 true)) else (foghornlaw24_told.j1 kj7 l0 l1 true)))) = some true := H
        have A16 := Aside0.mk A160
        clear A160
        replace H := Option.bind_eq_some_iff.mp H
        obtain ⟨⟨t356, t357⟩, A170, H⟩ := H
        replace H : ((foghornref24_On.f kj7 32 a2 l1).bind fun bt358 => (if ((t352) % 4294967296) = t354 then (if t353 = t355 then (if t356 = bt358.1 then (foghornlaw24_told.j1 kj7 l0 l1 (t357 != bt358.2)) else (foghornlaw24_told.j1 kj7 l0 l1 true)) else (foghornlaw24_told.j1 kj7 l0 l1 true)) else (foghornlaw24_told.j1 kj7 l0 l1 true))) = some true := H
        have A17 := Aside0.mk A170
        clear A170
        replace H := Option.bind_eq_some_iff.mp H
        obtain ⟨⟨t358, t359⟩, A180, H⟩ := H
        replace H : (if ((t352) % 4294967296) = t354 then (if t353 = t355 then (if t356 = t358 then (foghornlaw24_told.j1 kj7 l0 l1 (t357 != t359)) else (foghornlaw24_told.j1 kj7 l0 l1 true)) else (foghornlaw24_told.j1 kj7 l0 l1 true)) else (foghornlaw24_told.j1 kj7 l0 l1 true)) = some true := H
        have A18 := Aside0.mk A180
        clear A180
        have HC19 := Aside0.mk H
        clear H
        go_upto_region 11 with (first | ((with_reducible refine gate_callee (f := 12) rfl ?_); refine goesL_ (some 69) rfl rfl Try.func12 (by kernel_rfl) rfl #[.int .u16 (IntKind.u16.wrap (a2)), .slice A0 l0.length c0] rfl (by (try simp only [List.map_toArray, List.map_cons, List.map_nil]); first | done | rfl | (simp only [List.length_drop, List.length_take]; rfl)) ?_; (with_reducible refine (sums_On16.calls kj7 (IntKind.u16.wrap (a2)) _ _ l0 t352 t353 _ ?side1 ?side2 A15.out).mono ?_); (case side1 => repeat (first | exact (Kd.C_below HR0.out HB.out) | (with_reducible refine Kd.C_alloc ?_ _) | (with_reducible refine Kd.C_drewN ?_ _) | (with_reducible refine Kd.C_drew ?_))); (case side2 => exact HC0.out); rintro e w' ⟨rfl, ⟨nd, rfl⟩⟩; refine ⟨_, rfl, ?_⟩) | ((with_reducible refine gate_callee (f := 42) rfl ?_); refine goesL_ (some 76) rfl rfl Try.func42 (by kernel_rfl) rfl #[.int .i64 16, .int .u32 (Int.tmod a2 65536), .slice A1 l1.length c1] rfl (by (try simp only [List.map_toArray, List.map_cons, List.map_nil]); first | done | rfl | (simp only [List.length_drop, List.length_take]; rfl)) ?_; (with_reducible refine (foghornref24_On.calls kj7 16 (Int.tmod a2 65536) _ _ l1 t354 t355 _ ?side1 ?side2 A16.out).mono ?_); (case side1 => repeat (first | exact (Kd.C_below HR1.out (by repeat (first | (with_reducible first | exact HB.out | apply below_alloc | apply pw_below_drewN | apply below_drew1) | exact HB.out))) | (with_reducible refine Kd.C_alloc ?_ _) | (with_reducible refine Kd.C_drewN ?_ _) | (with_reducible refine Kd.C_drew ?_))); (case side2 => exact HC1.out); rintro e w20 ⟨rfl, hb⟩; refine ⟨_, rfl, ?_⟩; have n0_ := Aside0.mk (below_step (by repeat (first | (with_reducible first | exact HB.out | apply below_alloc | apply pw_below_drewN | apply below_drew1) | exact HB.out)) hb); clear HB; have HB := n0_; clear n0_; (try clear hb); (try clear hb2); (try clear hk); (try clear hi)) | ((with_reducible refine gate_callee (f := 34) rfl ?_); refine goesL_ (some 82) rfl rfl Try.func34 (by kernel_rfl) rfl #[.int .u32 a2, .slice A0 l0.length c0] rfl (by (try simp only [List.map_toArray, List.map_cons, List.map_nil]); first | done | rfl | (simp only [List.length_drop, List.length_take]; rfl)) ?_; (with_reducible refine (sums_On32.calls kj7 a2 _ _ l0 t356 t357 _ ?side1 ?side2 A17.out).mono ?_); (case side1 => repeat (first | exact (Kd.C_below HR0.out HB.out) | (with_reducible refine Kd.C_alloc ?_ _) | (with_reducible refine Kd.C_drewN ?_ _) | (with_reducible refine Kd.C_drew ?_))); (case side2 => exact HC0.out); rintro e w' ⟨rfl, ⟨nd, rfl⟩⟩; refine ⟨_, rfl, ?_⟩) | ((with_reducible refine gate_callee (f := 42) rfl ?_); refine goesL_ (some 88) rfl rfl Try.func42 (by kernel_rfl) rfl #[.int .i64 32, .int .u32 a2, .slice A1 l1.length c1] rfl (by (try simp only [List.map_toArray, List.map_cons, List.map_nil]); first | done | rfl | (simp only [List.length_drop, List.length_take]; rfl)) ?_; (with_reducible refine (foghornref24_On.calls kj7 32 a2 _ _ l1 t358 t359 _ ?side1 ?side2 A18.out).mono ?_); (case side1 => repeat (first | exact (Kd.C_below HR1.out (by repeat (first | (with_reducible first | exact HB.out | apply below_alloc | apply pw_below_drewN | apply below_drew1) | exact HB.out))) | (with_reducible refine Kd.C_alloc ?_ _) | (with_reducible refine Kd.C_drewN ?_ _) | (with_reducible refine Kd.C_drew ?_))); (case side2 => exact HC1.out); rintro e w21 ⟨rfl, hb⟩; refine ⟨_, rfl, ?_⟩; have n0_ := Aside0.mk (below_step (by repeat (first | (with_reducible first | exact HB.out | apply below_alloc | apply pw_below_drewN | apply below_drew1) | exact HB.out)) hb); clear HB; have HB := n0_; clear n0_; (try clear hb); (try clear hb2); (try clear hk); (try clear hi)))
        (try simp only [Act.put, List.setIfInBounds_toArray, List.set_cons_zero, List.set_cons_succ])
        go_cut [109] (fun v109 wc => ∃ (kq : Nat) (x109_18 : Bool), v109 = .bool x109_18 ∧ Aside0 (foghornlaw24_told.j1 kq l0 l1 x109_18 = some true) ∧ Aside0 (kq ≤ kj7) ∧ Aside0 (Below w.heap.size w wc))
        case first =>
          have H := HC19.out
          clear HC19
          by_cases c22 : ((t352) % 4294967296) = t354
          · rw [if_pos c22] at H
            have c22b0 : (((t352) % 4294967296) == t354) = true := beq_iff_eq.mpr c22
            have c22b1 : (((t352) % 4294967296) != t354) = false := bne_eq_false_iff_eq.mpr c22
            clear c22
            (first | rw [c22b0] | (simp only [i64_w, i32_w]; rw [c22b0]) | skip)
            by_cases c23 : t353 = t355
            · rw [if_pos c23] at H
              have c23b0 : (t353 == t355) = true := beq_iff_eq.mpr c23
              have c23b1 : (t353 != t355) = false := bne_eq_false_iff_eq.mpr c23
              clear c23
              by_cases c24 : t356 = t358
              · rw [if_pos c24] at H
                have c24b0 : (t356 == t358) = true := beq_iff_eq.mpr c24
                have c24b1 : (t356 != t358) = false := bne_eq_false_iff_eq.mpr c24
                clear c24
                have H' := Aside0.mk H
                clear H
                go_wp2
                go_meet
                case rel => exact ⟨_, ((t357 != t359)), (by first | rfl | (simp; done) | (simp [*]; done) | (simp; omega) | (congr 1; omega) | (rw [hR_]; done) | (simp only [hR_]; done) | (simp [hR_]; done)), H', ⟨by have := HJ7.out; first | omega | exact Nat.le_refl _⟩, ⟨by repeat (first | (with_reducible first | exact HB.out | apply below_alloc | apply pw_below_drewN | apply below_drew1) | exact HB.out)⟩⟩
              · rw [if_neg c24] at H
                have c24b0 : (t356 == t358) = false := beq_eq_false_iff_ne.mpr c24
                have c24b1 : (t356 != t358) = true := bne_iff_ne.mpr c24
                have H' := Aside0.mk H
                clear H
                go_wp2
                go_meet
                case rel => exact ⟨_, (true), (by first | rfl | (simp; done) | (simp [*]; done) | (simp; omega) | (congr 1; omega) | (rw [hR_]; done) | (simp only [hR_]; done) | (simp [hR_]; done)), H', ⟨by have := HJ7.out; first | omega | exact Nat.le_refl _⟩, ⟨by repeat (first | (with_reducible first | exact HB.out | apply below_alloc | apply pw_below_drewN | apply below_drew1) | exact HB.out)⟩⟩
            · rw [if_neg c23] at H
              have c23b0 : (t353 == t355) = false := beq_eq_false_iff_ne.mpr c23
              have c23b1 : (t353 != t355) = true := bne_iff_ne.mpr c23
              have H' := Aside0.mk H
              clear H
              go_wp2
              go_meet
              case rel => exact ⟨_, (true), (by first | rfl | (simp; done) | (simp [*]; done) | (simp; omega) | (congr 1; omega) | (rw [hR_]; done) | (simp only [hR_]; done) | (simp [hR_]; done)), H', ⟨by have := HJ7.out; first | omega | exact Nat.le_refl _⟩, ⟨by repeat (first | (with_reducible first | exact HB.out | apply below_alloc | apply pw_below_drewN | apply below_drew1) | exact HB.out)⟩⟩
          · rw [if_neg c22] at H
            have c22b0 : (((t352) % 4294967296) == t354) = false := beq_eq_false_iff_ne.mpr c22
            have c22b1 : (((t352) % 4294967296) != t354) = true := bne_iff_ne.mpr c22
            (first | rw [c22b0] | (simp only [i64_w, i32_w]; rw [c22b0]) | skip)
            have H' := Aside0.mk H
            clear H
            go_wp2
            go_meet
            case rel => exact ⟨_, (true), (by first | rfl | (simp; done) | (simp [*]; done) | (simp; omega) | (congr 1; omega) | (rw [hR_]; done) | (simp only [hR_]; done) | (simp [hR_]; done)), H', ⟨by have := HJ7.out; first | omega | exact Nat.le_refl _⟩, ⟨by repeat (first | (with_reducible first | exact HB.out | apply below_alloc | apply pw_below_drewN | apply below_drew1) | exact HB.out)⟩⟩
        case rest =>
          clear HC19
          try clear c1
          try clear c2
          try clear p2
          try clear c3
          try clear c4
          try clear c8
          try clear c10
          try clear c11
          try clear c11b0
          try clear c11b1
          try clear c12
          try clear c12b0
          try clear c12b1
          try clear c13
          try clear c13b0
          try clear c13b1
          try clear c14
          try clear c22
          try clear c22b0
          try clear c22b1
          try clear c23
          try clear c23b0
          try clear c23b1
          try clear c24
          try clear c24b0
          try clear c24b1
          try clear p2
          obtain ⟨kq, x109_18, rfl, HA, HJ18, HB⟩ := hcut
          cases kq with
          | zero => exact absurd HA.out (by simp [foghornlaw24_told.j1])
          | succ kj18 =>
            have H := HA.out
            clear HA
            simp only [foghornlaw24_told.j1] at H
            by_cases c25 : x109_18 = true
            · subst c25
              have H1 : (some false) = some true := by rw [if_pos rfl] at H; exact H
              clear H
              have H := H1
              clear H1
              exact absurd H (by simp)
            · replace c25 := Bool.eq_false_iff.mpr c25
              subst c25
              have H1 : ((sums_Row16.f kj18 l0).bind fun bt360 => ((foghornref24_Row.f kj18 16 l1).bind fun bt364 => ((sums_Row32.f kj18 l0).bind fun bt368 => ((foghornref24_Row.f kj18 32 l1).bind fun bt372 => (if bt360.2 = bt364.2 then ((foghornref24_Same.f kj18 bt360.1 bt364.1).bind fun t376 => (if t376 = true then (if bt368.2 = bt372.2 then ((foghornref24_Same.f kj18 bt368.1 bt372.1).bind fun t377 => (if t377 = true then ((sums_Fits16.f kj18 bt360.1).bind fun t378 => ((foghornref24_Fits.f kj18 16 bt364.1).bind fun t379 => (if (t378 != t379) = true then (foghornlaw24_told.j2 kj18 l0 l1 bt360.1 bt364.1 true) else ((sums_Fits32.f kj18 bt368.1).bind fun t380 => ((foghornref24_Fits.f kj18 32 bt372.1).bind fun t381 => (foghornlaw24_told.j2 kj18 l0 l1 bt360.1 bt364.1 (t380 != t381))))))) else (foghornlaw24_told.j2 kj18 l0 l1 bt360.1 bt364.1 true))) else (foghornlaw24_told.j2 kj18 l0 l1 bt360.1 bt364.1 true)) else (foghornlaw24_told.j2 kj18 l0 l1 bt360.1 bt364.1 true))) else (foghornlaw24_told.j2 kj18 l0 l1 bt360.1 bt364.1 true)))))) = some true := by rw [if_neg (show ¬ (false = true) by decide)] at H; exact H
              clear H
              have H := H1
              clear H1
              replace H := Option.bind_eq_some_iff.mp H
              obtain ⟨⟨t360, t361⟩, A260, H⟩ := H
              replace H : ((foghornref24_Row.f kj18 16 l1).bind fun bt364 => ((sums_Row32.f kj18 l0).bind fun bt368 => ((foghornref24_Row.f kj18 32 l1).bind fun bt372 => (if t361 = bt364.2 then ((foghornref24_Same.f kj18 t360 bt364.1).bind fun t376 => (if t376 = true then (if bt368.2 = bt372.2 then ((foghornref24_Same.f kj18 bt368.1 bt372.1).bind fun t377 => (if t377 = true then ((sums_Fits16.f kj18 t360).bind fun t378 => ((foghornref24_Fits.f kj18 16 bt364.1).bind fun t379 => (if (t378 != t379) = true then (foghornlaw24_told.j2 kj18 l0 l1 t360 bt364.1 true) else ((sums_Fits32.f kj18 bt368.1).bind fun t380 => ((foghornref24_Fits.f kj18 32 bt372.1).bind fun t381 => (foghornlaw24_told.j2 kj18 l0 l1 t360 bt364.1 (t380 != t381))))))) else (foghornlaw24_told.j2 kj18 l0 l1 t360 bt364.1 true))) else (foghornlaw24_told.j2 kj18 l0 l1 t360 bt364.1 true)) else (foghornlaw24_told.j2 kj18 l0 l1 t360 bt364.1 true))) else (foghornlaw24_told.j2 kj18 l0 l1 t360 bt364.1 true))))) = some true := H
              have A26 := Aside0.mk A260
              clear A260
              replace H := Option.bind_eq_some_iff.mp H
              obtain ⟨⟨t364, t365⟩, A270, H⟩ := H
              replace H : ((sums_Row32.f kj18 l0).bind fun bt368 => ((foghornref24_Row.f kj18 32 l1).bind fun bt372 => (if t361 = t365 then ((foghornref24_Same.f kj18 t360 t364).bind fun t376 => (if t376 = true then (if bt368.2 = bt372.2 then ((foghornref24_Same.f kj18 bt368.1 bt372.1).bind fun t377 => (if t377 = true then ((sums_Fits16.f kj18 t360).bind fun t378 => ((foghornref24_Fits.f kj18 16 t364).bind fun t379 => (if (t378 != t379) = true then (foghornlaw24_told.j2 kj18 l0 l1 t360 t364 true) else ((sums_Fits32.f kj18 bt368.1).bind fun t380 => ((foghornref24_Fits.f kj18 32 bt372.1).bind fun t381 => (foghornlaw24_told.j2 kj18 l0 l1 t360 t364 (t380 != t381))))))) else (foghornlaw24_told.j2 kj18 l0 l1 t360 t364 true))) else (foghornlaw24_told.j2 kj18 l0 l1 t360 t364 true)) else (foghornlaw24_told.j2 kj18 l0 l1 t360 t364 true))) else (foghornlaw24_told.j2 kj18 l0 l1 t360 t364 true)))) = some true := H
              have A27 := Aside0.mk A270
              clear A270
              replace H := Option.bind_eq_some_iff.mp H
              obtain ⟨⟨t368, t369⟩, A280, H⟩ := H
              replace H : ((foghornref24_Row.f kj18 32 l1).bind fun bt372 => (if t361 = t365 then ((foghornref24_Same.f kj18 t360 t364).bind fun t376 => (if t376 = true then (if t369 = bt372.2 then ((foghornref24_Same.f kj18 t368 bt372.1).bind fun t377 => (if t377 = true then ((sums_Fits16.f kj18 t360).bind fun t378 => ((foghornref24_Fits.f kj18 16 t364).bind fun t379 => (if (t378 != t379) = true then (foghornlaw24_told.j2 kj18 l0 l1 t360 t364 true) else ((sums_Fits32.f kj18 t368).bind fun t380 => ((foghornref24_Fits.f kj18 32 bt372.1).bind fun t381 => (foghornlaw24_told.j2 kj18 l0 l1 t360 t364 (t380 != t381))))))) else (foghornlaw24_told.j2 kj18 l0 l1 t360 t364 true))) else (foghornlaw24_told.j2 kj18 l0 l1 t360 t364 true)) else (foghornlaw24_told.j2 kj18 l0 l1 t360 t364 true))) else (foghornlaw24_told.j2 kj18 l0 l1 t360 t364 true))) = some true := H
              have A28 := Aside0.mk A280
              clear A280
              replace H := Option.bind_eq_some_iff.mp H
              obtain ⟨⟨t372, t373⟩, A290, H⟩ := H
              replace H : (if t361 = t365 then ((foghornref24_Same.f kj18 t360 t364).bind fun t376 => (if t376 = true then (if t369 = t373 then ((foghornref24_Same.f kj18 t368 t372).bind fun t377 => (if t377 = true then ((sums_Fits16.f kj18 t360).bind fun t378 => ((foghornref24_Fits.f kj18 16 t364).bind fun t379 => (if (t378 != t379) = true then (foghornlaw24_told.j2 kj18 l0 l1 t360 t364 true) else ((sums_Fits32.f kj18 t368).bind fun t380 => ((foghornref24_Fits.f kj18 32 t372).bind fun t381 => (foghornlaw24_told.j2 kj18 l0 l1 t360 t364 (t380 != t381))))))) else (foghornlaw24_told.j2 kj18 l0 l1 t360 t364 true))) else (foghornlaw24_told.j2 kj18 l0 l1 t360 t364 true)) else (foghornlaw24_told.j2 kj18 l0 l1 t360 t364 true))) else (foghornlaw24_told.j2 kj18 l0 l1 t360 t364 true)) = some true := H
              have A29 := Aside0.mk A290
              clear A290
              have HC30 := Aside0.mk H
              clear H
              go_upto_region 17 with (first | ((with_reducible refine gate_callee (f := 29) rfl ?_); refine goesL_ (some 112) rfl rfl Try.func29 (by kernel_rfl) rfl #[.slice A0 l0.length c0] rfl (by (try simp only [List.map_toArray, List.map_cons, List.map_nil]); first | done | rfl | (simp only [List.length_drop, List.length_take]; rfl)) ?_; (with_reducible refine (sums_Row16.calls kj18 _ _ l0 t360 t361 _ ?side1 ?side2 A26.out).mono ?_); (case side1 => repeat (first | exact (Kd.C_below HR0.out HB.out) | (with_reducible refine Kd.C_alloc ?_ _) | (with_reducible refine Kd.C_drewN ?_ _) | (with_reducible refine Kd.C_drew ?_))); (case side2 => exact HC0.out); rintro e w31 ⟨v362, rfl, ho0, hb⟩; refine ⟨_, rfl, ?_⟩; have n0_ := Aside0.mk (Kd.R_lower ho0 (below_size (by repeat (first | (with_reducible first | exact HB.out | apply below_alloc | apply pw_below_drewN | apply below_drew1) | exact HB.out)))); have n1_ := Aside0.mk (below_step (by repeat (first | (with_reducible first | exact HB.out | apply below_alloc | apply pw_below_drewN | apply below_drew1) | exact HB.out)) hb); clear HB; have HO363 := n0_; have HB := n1_; clear n0_ n1_; (try clear hb); (try clear hb2); (try clear hk); (try clear hi); (try clear ho0)) | ((with_reducible refine gate_callee (f := 45) rfl ?_); refine goesL_ (some 117) rfl rfl Try.func45 (by kernel_rfl) rfl #[.int .i64 16, .slice A1 l1.length c1] rfl (by (try simp only [List.map_toArray, List.map_cons, List.map_nil]); first | done | rfl | (simp only [List.length_drop, List.length_take]; rfl)) ?_; (with_reducible refine (foghornref24_Row.calls kj18 16 _ _ l1 t364 t365 _ ?side1 ?side2 A27.out).mono ?_); (case side1 => repeat (first | exact (Kd.C_below HR1.out HB.out) | (with_reducible refine Kd.C_alloc ?_ _) | (with_reducible refine Kd.C_drewN ?_ _) | (with_reducible refine Kd.C_drew ?_))); (case side2 => exact HC1.out); rintro e w32 ⟨v366, rfl, ho0, hb⟩; refine ⟨_, rfl, ?_⟩; have n0_ := Aside0.mk (Kd.R_elder' (by (with_reducible repeat (first | apply Kd.R_alloc | apply Kd.R_drewN | apply Kd.R_drew)); exact HO363.out) (Kd.R_base ho0) hb); have n1_ := Aside0.mk (Kd.R_lower (Kd.R_new' ho0 (Kd.R_lt (by (with_reducible repeat (first | apply Kd.R_alloc | apply Kd.R_drewN | apply Kd.R_drew)); exact HO363.out))) (below_size (by repeat (first | (with_reducible first | exact HB.out | apply below_alloc | apply pw_below_drewN | apply below_drew1) | exact HB.out)))); have n2_ := Aside0.mk (below_step (by repeat (first | (with_reducible first | exact HB.out | apply below_alloc | apply pw_below_drewN | apply below_drew1) | exact HB.out)) hb); clear HO363; clear HB; have HO363 := n0_; have HO367 := n1_; have HB := n2_; clear n0_ n1_ n2_; (try clear hb); (try clear hb2); (try clear hk); (try clear hi); (try clear ho0)) | ((with_reducible refine gate_callee (f := 30) rfl ?_); refine goesL_ (some 122) rfl rfl Try.func30 (by kernel_rfl) rfl #[.slice A0 l0.length c0] rfl (by (try simp only [List.map_toArray, List.map_cons, List.map_nil]); first | done | rfl | (simp only [List.length_drop, List.length_take]; rfl)) ?_; (with_reducible refine (sums_Row32.calls kj18 _ _ l0 t368 t369 _ ?side1 ?side2 A28.out).mono ?_); (case side1 => repeat (first | exact (Kd.C_below HR0.out HB.out) | (with_reducible refine Kd.C_alloc ?_ _) | (with_reducible refine Kd.C_drewN ?_ _) | (with_reducible refine Kd.C_drew ?_))); (case side2 => exact HC0.out); rintro e w33 ⟨v370, rfl, ho0, hb⟩; refine ⟨_, rfl, ?_⟩; have n0_ := Aside0.mk (Kd.R_elder' (by (with_reducible repeat (first | apply Kd.R_alloc | apply Kd.R_drewN | apply Kd.R_drew)); exact HO363.out) (Kd.R_base ho0) hb); have n1_ := Aside0.mk (Kd.R_elder' (by (with_reducible repeat (first | apply Kd.R_alloc | apply Kd.R_drewN | apply Kd.R_drew)); exact HO367.out) (Kd.R_base ho0) hb); have n2_ := Aside0.mk (Kd.R_lower (Kd.R_new' (Kd.R_new' ho0 (Kd.R_lt (by (with_reducible repeat (first | apply Kd.R_alloc | apply Kd.R_drewN | apply Kd.R_drew)); exact HO363.out))) (Kd.R_lt (by (with_reducible repeat (first | apply Kd.R_alloc | apply Kd.R_drewN | apply Kd.R_drew)); exact HO367.out))) (below_size (by repeat (first | (with_reducible first | exact HB.out | apply below_alloc | apply pw_below_drewN | apply below_drew1) | exact HB.out)))); have n3_ := Aside0.mk (below_step (by repeat (first | (with_reducible first | exact HB.out | apply below_alloc | apply pw_below_drewN | apply below_drew1) | exact HB.out)) hb); clear HO363; clear HO367; clear HB; have HO363 := n0_; have HO367 := n1_; have HO371 := n2_; have HB := n3_; clear n0_ n1_ n2_ n3_; (try clear hb); (try clear hb2); (try clear hk); (try clear hi); (try clear ho0)) | ((with_reducible refine gate_callee (f := 45) rfl ?_); refine goesL_ (some 127) rfl rfl Try.func45 (by kernel_rfl) rfl #[.int .i64 32, .slice A1 l1.length c1] rfl (by (try simp only [List.map_toArray, List.map_cons, List.map_nil]); first | done | rfl | (simp only [List.length_drop, List.length_take]; rfl)) ?_; (with_reducible refine (foghornref24_Row.calls kj18 32 _ _ l1 t372 t373 _ ?side1 ?side2 A29.out).mono ?_); (case side1 => repeat (first | exact (Kd.C_below HR1.out HB.out) | (with_reducible refine Kd.C_alloc ?_ _) | (with_reducible refine Kd.C_drewN ?_ _) | (with_reducible refine Kd.C_drew ?_))); (case side2 => exact HC1.out); rintro e w34 ⟨v374, rfl, ho0, hb⟩; refine ⟨_, rfl, ?_⟩; have n0_ := Aside0.mk (Kd.R_elder' (by (with_reducible repeat (first | apply Kd.R_alloc | apply Kd.R_drewN | apply Kd.R_drew)); exact HO363.out) (Kd.R_base ho0) hb); have n1_ := Aside0.mk (Kd.R_elder' (by (with_reducible repeat (first | apply Kd.R_alloc | apply Kd.R_drewN | apply Kd.R_drew)); exact HO367.out) (Kd.R_base ho0) hb); have n2_ := Aside0.mk (Kd.R_elder' (by (with_reducible repeat (first | apply Kd.R_alloc | apply Kd.R_drewN | apply Kd.R_drew)); exact HO371.out) (Kd.R_base ho0) hb); have n3_ := Aside0.mk (Kd.R_lower (Kd.R_new' (Kd.R_new' (Kd.R_new' ho0 (Kd.R_lt (by (with_reducible repeat (first | apply Kd.R_alloc | apply Kd.R_drewN | apply Kd.R_drew)); exact HO363.out))) (Kd.R_lt (by (with_reducible repeat (first | apply Kd.R_alloc | apply Kd.R_drewN | apply Kd.R_drew)); exact HO367.out))) (Kd.R_lt (by (with_reducible repeat (first | apply Kd.R_alloc | apply Kd.R_drewN | apply Kd.R_drew)); exact HO371.out))) (below_size (by repeat (first | (with_reducible first | exact HB.out | apply below_alloc | apply pw_below_drewN | apply below_drew1) | exact HB.out)))); have n4_ := Aside0.mk (below_step (by repeat (first | (with_reducible first | exact HB.out | apply below_alloc | apply pw_below_drewN | apply below_drew1) | exact HB.out)) hb); clear HO363; clear HO367; clear HO371; clear HB; have HO363 := n0_; have HO367 := n1_; have HO371 := n2_; have HO375 := n3_; have HB := n4_; clear n0_ n1_ n2_ n3_ n4_; (try clear hb); (try clear hb2); (try clear hk); (try clear hi); (try clear ho0)))
              (try simp only [Act.put, List.setIfInBounds_toArray, List.set_cons_zero, List.set_cons_succ])
              go_cut [163] (fun v163 wc => ∃ (kq : Nat) (x163_29 : Bool), v163 = .bool x163_29 ∧ Aside0 (foghornlaw24_told.j2 kq l0 l1 t360 t364 x163_29 = some true) ∧ Aside0 (kq ≤ kj18) ∧ Aside0 (Kd.R Kd.bool 4 wc w.heap.size (fun k_ => some k_ ≠ (v366 : Value).ownBlock) v362 t360) ∧ Aside0 (Kd.R Kd.bool 4 wc w.heap.size (fun k_ => some k_ ≠ (v362 : Value).ownBlock) v366 t364) ∧ Aside0 (Below w.heap.size w wc))
              case first =>
                have H := HC30.out
                clear HC30
                by_cases c35 : t361 = t365
                · rw [if_pos c35] at H
                  have c35b0 : (t361 == t365) = true := beq_iff_eq.mpr c35
                  have c35b1 : (t361 != t365) = false := bne_eq_false_iff_eq.mpr c35
                  clear c35
                  (first | rw [c35b0] | (simp only [i64_w, i32_w]; rw [c35b0]) | skip)
                  replace H := Option.bind_eq_some_iff.mp H
                  obtain ⟨t376, A360, H⟩ := H
                  replace H : (if t376 = true then (if t369 = t373 then ((foghornref24_Same.f kj18 t368 t372).bind fun t377 => (if t377 = true then ((sums_Fits16.f kj18 t360).bind fun t378 => ((foghornref24_Fits.f kj18 16 t364).bind fun t379 => (if (t378 != t379) = true then (foghornlaw24_told.j2 kj18 l0 l1 t360 t364 true) else ((sums_Fits32.f kj18 t368).bind fun t380 => ((foghornref24_Fits.f kj18 32 t372).bind fun t381 => (foghornlaw24_told.j2 kj18 l0 l1 t360 t364 (t380 != t381))))))) else (foghornlaw24_told.j2 kj18 l0 l1 t360 t364 true))) else (foghornlaw24_told.j2 kj18 l0 l1 t360 t364 true)) else (foghornlaw24_told.j2 kj18 l0 l1 t360 t364 true)) = some true := H
                  have A36 := Aside0.mk A360
                  clear A360
                  by_cases c37 : t376 = true
                  · subst c37
                    have H1 : (if t369 = t373 then ((foghornref24_Same.f kj18 t368 t372).bind fun t377 => (if t377 = true then ((sums_Fits16.f kj18 t360).bind fun t378 => ((foghornref24_Fits.f kj18 16 t364).bind fun t379 => (if (t378 != t379) = true then (foghornlaw24_told.j2 kj18 l0 l1 t360 t364 true) else ((sums_Fits32.f kj18 t368).bind fun t380 => ((foghornref24_Fits.f kj18 32 t372).bind fun t381 => (foghornlaw24_told.j2 kj18 l0 l1 t360 t364 (t380 != t381))))))) else (foghornlaw24_told.j2 kj18 l0 l1 t360 t364 true))) else (foghornlaw24_told.j2 kj18 l0 l1 t360 t364 true)) = some true := by rw [if_pos rfl] at H; exact H
                    clear H
                    have H := H1
                    clear H1
                    by_cases c38 : t369 = t373
                    · rw [if_pos c38] at H
                      have c38b0 : (t369 == t373) = true := beq_iff_eq.mpr c38
                      have c38b1 : (t369 != t373) = false := bne_eq_false_iff_eq.mpr c38
                      clear c38
                      replace H := Option.bind_eq_some_iff.mp H
                      obtain ⟨t377, A390, H⟩ := H
                      replace H : (if t377 = true then ((sums_Fits16.f kj18 t360).bind fun t378 => ((foghornref24_Fits.f kj18 16 t364).bind fun t379 => (if (t378 != t379) = true then (foghornlaw24_told.j2 kj18 l0 l1 t360 t364 true) else ((sums_Fits32.f kj18 t368).bind fun t380 => ((foghornref24_Fits.f kj18 32 t372).bind fun t381 => (foghornlaw24_told.j2 kj18 l0 l1 t360 t364 (t380 != t381))))))) else (foghornlaw24_told.j2 kj18 l0 l1 t360 t364 true)) = some true := H
                      have A39 := Aside0.mk A390
                      clear A390
                      by_cases c40 : t377 = true
                      · subst c40
                        have H1 : ((sums_Fits16.f kj18 t360).bind fun t378 => ((foghornref24_Fits.f kj18 16 t364).bind fun t379 => (if (t378 != t379) = true then (foghornlaw24_told.j2 kj18 l0 l1 t360 t364 true) else ((sums_Fits32.f kj18 t368).bind fun t380 => ((foghornref24_Fits.f kj18 32 t372).bind fun t381 => (foghornlaw24_told.j2 kj18 l0 l1 t360 t364 (t380 != t381))))))) = some true := by rw [if_pos rfl] at H; exact H
                        clear H
                        have H := H1
                        clear H1
                        replace H := Option.bind_eq_some_iff.mp H
                        obtain ⟨t378, A410, H⟩ := H
                        replace H : ((foghornref24_Fits.f kj18 16 t364).bind fun t379 => (if (t378 != t379) = true then (foghornlaw24_told.j2 kj18 l0 l1 t360 t364 true) else ((sums_Fits32.f kj18 t368).bind fun t380 => ((foghornref24_Fits.f kj18 32 t372).bind fun t381 => (foghornlaw24_told.j2 kj18 l0 l1 t360 t364 (t380 != t381)))))) = some true := H
                        have A41 := Aside0.mk A410
                        clear A410
                        replace H := Option.bind_eq_some_iff.mp H
                        obtain ⟨t379, A420, H⟩ := H
                        replace H : (if (t378 != t379) = true then (foghornlaw24_told.j2 kj18 l0 l1 t360 t364 true) else ((sums_Fits32.f kj18 t368).bind fun t380 => ((foghornref24_Fits.f kj18 32 t372).bind fun t381 => (foghornlaw24_told.j2 kj18 l0 l1 t360 t364 (t380 != t381))))) = some true := H
                        have A42 := Aside0.mk A420
                        clear A420
                        by_cases c43 : (t378 != t379) = true
                        · rw [if_pos c43] at H
                          have c43b0 : (t378 != t379) = true := c43
                          (try (have c43b1 : decide (t378 = t379) = false := by simpa using c43))
                          (try (have c43b2 : (t378 == t379) = false := by simpa using c43))
                          (try (have c43b3 : ¬ (t378 = t379) := by simpa using c43))
                          clear c43
                          have H' := Aside0.mk H
                          clear H
                          obtain ⟨Ao44, co44, eo44⟩ := Kd.R_slice HO363.out
                          subst eo44
                          obtain ⟨Ao45, co45, eo45⟩ := Kd.R_slice HO367.out
                          subst eo45
                          go_wp2_with (first | (go_at_call 43; (with_reducible refine (foghornref24_Same.calls kj18 _ _ t360 _ _ t364 true _ ?side1 ?side2 ?side3 ?side4 A36.out).mono ?_); (case side1 => repeat (first | exact (Kd.R_reads' HO363.out).2.2 | (with_reducible refine Kd.C_alloc ?_ _) | (with_reducible refine Kd.C_drewN ?_ _) | (with_reducible refine Kd.C_drew ?_))); (case side2 => exact (Kd.R_reads' HO363.out).2.1); (case side3 => repeat (first | exact (Kd.R_reads' HO367.out).2.2 | (with_reducible refine Kd.C_alloc ?_ _) | (with_reducible refine Kd.C_drewN ?_ _) | (with_reducible refine Kd.C_drew ?_))); (case side4 => exact (Kd.R_reads' HO367.out).2.1); rintro e w' ⟨rfl, ⟨nd, rfl⟩⟩; obtain ⟨Ao46, co46, eo46⟩ := Kd.R_slice HO371.out; subst eo46; obtain ⟨Ao47, co47, eo47⟩ := Kd.R_slice HO375.out; subst eo47) | (go_at_call 43; (with_reducible refine (foghornref24_Same.calls kj18 _ _ t368 _ _ t372 true _ ?side1 ?side2 ?side3 ?side4 A39.out).mono ?_); (case side1 => repeat (first | exact (Kd.R_reads' HO371.out).2.2 | (with_reducible refine Kd.C_alloc ?_ _) | (with_reducible refine Kd.C_drewN ?_ _) | (with_reducible refine Kd.C_drew ?_))); (case side2 => exact (Kd.R_reads' HO371.out).2.1); (case side3 => repeat (first | exact (Kd.R_reads' HO375.out).2.2 | (with_reducible refine Kd.C_alloc ?_ _) | (with_reducible refine Kd.C_drewN ?_ _) | (with_reducible refine Kd.C_drew ?_))); (case side4 => exact (Kd.R_reads' HO375.out).2.1); rintro e w' ⟨rfl, ⟨nd, rfl⟩⟩) | (go_at_call 31; (with_reducible refine (sums_Fits16.calls kj18 _ _ t360 t378 _ ?side1 ?side2 A41.out).mono ?_); (case side1 => repeat (first | exact (Kd.R_reads' HO363.out).2.2 | (with_reducible refine Kd.C_alloc ?_ _) | (with_reducible refine Kd.C_drewN ?_ _) | (with_reducible refine Kd.C_drew ?_))); (case side2 => exact (Kd.R_reads' HO363.out).2.1); rintro e w48 ⟨rfl, hb⟩; have n0_ := Aside0.mk (Kd.R_below (by (with_reducible repeat (first | apply Kd.R_alloc | apply Kd.R_drewN | apply Kd.R_drew)); exact HO363.out) hb); have n1_ := Aside0.mk (Kd.R_below (by (with_reducible repeat (first | apply Kd.R_alloc | apply Kd.R_drewN | apply Kd.R_drew)); exact HO367.out) hb); have n2_ := Aside0.mk (Kd.R_below (by (with_reducible repeat (first | apply Kd.R_alloc | apply Kd.R_drewN | apply Kd.R_drew)); exact HO371.out) hb); have n3_ := Aside0.mk (Kd.R_below (by (with_reducible repeat (first | apply Kd.R_alloc | apply Kd.R_drewN | apply Kd.R_drew)); exact HO375.out) hb); have n4_ := Aside0.mk (below_step (by repeat (first | (with_reducible first | exact HB.out | apply below_alloc | apply pw_below_drewN | apply below_drew1) | exact HB.out)) hb); clear HO363; clear HO367; clear HO371; clear HO375; clear HB; have HO363 := n0_; have HO367 := n1_; have HO371 := n2_; have HO375 := n3_; have HB := n4_; clear n0_ n1_ n2_ n3_ n4_; (try clear hb); (try clear hb2); (try clear hk); (try clear hi)) | (go_at_call 46; (with_reducible refine (foghornref24_Fits.calls kj18 16 _ _ t364 t379 _ ?side1 ?side2 A42.out).mono ?_); (case side1 => repeat (first | exact (Kd.R_reads' HO367.out).2.2 | (with_reducible refine Kd.C_alloc ?_ _) | (with_reducible refine Kd.C_drewN ?_ _) | (with_reducible refine Kd.C_drew ?_))); (case side2 => exact (Kd.R_reads' HO367.out).2.1); rintro e w49 ⟨rfl, hb⟩; have n0_ := Aside0.mk (Kd.R_below (by (with_reducible repeat (first | apply Kd.R_alloc | apply Kd.R_drewN | apply Kd.R_drew)); exact HO363.out) hb); have n1_ := Aside0.mk (Kd.R_below (by (with_reducible repeat (first | apply Kd.R_alloc | apply Kd.R_drewN | apply Kd.R_drew)); exact HO367.out) hb); have n2_ := Aside0.mk (Kd.R_below (by (with_reducible repeat (first | apply Kd.R_alloc | apply Kd.R_drewN | apply Kd.R_drew)); exact HO371.out) hb); have n3_ := Aside0.mk (Kd.R_below (by (with_reducible repeat (first | apply Kd.R_alloc | apply Kd.R_drewN | apply Kd.R_drew)); exact HO375.out) hb); have n4_ := Aside0.mk (below_step (by repeat (first | (with_reducible first | exact HB.out | apply below_alloc | apply pw_below_drewN | apply below_drew1) | exact HB.out)) hb); clear HO363; clear HO367; clear HO371; clear HO375; clear HB; have HO363 := n0_; have HO367 := n1_; have HO371 := n2_; have HO375 := n3_; have HB := n4_; clear n0_ n1_ n2_ n3_ n4_; (try clear hb); (try clear hb2); (try clear hk); (try clear hi)))
                          go_meet
                          case rel => exact ⟨_, (true), (by first | rfl | (simp; done) | (simp [*]; done) | (simp; omega) | (congr 1; omega) | (rw [hR_]; done) | (simp only [hR_]; done) | (simp [hR_]; done)), H', ⟨by have := HJ7.out; have := HJ18.out; first | omega | exact Nat.le_refl _⟩, ⟨by (with_reducible repeat (first | apply Kd.R_alloc | apply Kd.R_drewN | apply Kd.R_drew)); exact Kd.R_mono HO363.out (fun _ hk => hk.1.1.2)⟩, ⟨by (with_reducible repeat (first | apply Kd.R_alloc | apply Kd.R_drewN | apply Kd.R_drew)); exact Kd.R_mono HO367.out (fun _ hk => hk.1.1.2)⟩, ⟨by repeat (first | (with_reducible first | exact HB.out | apply below_alloc | apply pw_below_drewN | apply below_drew1) | exact HB.out)⟩⟩
                        · rw [if_neg c43] at H
                          have c43b0 : (t378 != t379) = false := by simpa using c43
                          (try (have c43b1 : decide (t378 = t379) = true := by simpa using c43))
                          (try (have c43b2 : (t378 == t379) = true := by simpa using c43))
                          clear c43
                          replace H := Option.bind_eq_some_iff.mp H
                          obtain ⟨t380, A500, H⟩ := H
                          replace H : ((foghornref24_Fits.f kj18 32 t372).bind fun t381 => (foghornlaw24_told.j2 kj18 l0 l1 t360 t364 (t380 != t381))) = some true := H
                          have A50 := Aside0.mk A500
                          clear A500
                          replace H := Option.bind_eq_some_iff.mp H
                          obtain ⟨t381, A510, H⟩ := H
                          replace H : (foghornlaw24_told.j2 kj18 l0 l1 t360 t364 (t380 != t381)) = some true := H
                          have A51 := Aside0.mk A510
                          clear A510
                          have H' := Aside0.mk H
                          clear H
                          obtain ⟨Ao52, co52, eo52⟩ := Kd.R_slice HO363.out
                          subst eo52
                          obtain ⟨Ao53, co53, eo53⟩ := Kd.R_slice HO367.out
                          subst eo53
                          go_wp2_with (first | (go_at_call 43; (with_reducible refine (foghornref24_Same.calls kj18 _ _ t360 _ _ t364 true _ ?side1 ?side2 ?side3 ?side4 A36.out).mono ?_); (case side1 => repeat (first | exact (Kd.R_reads' HO363.out).2.2 | (with_reducible refine Kd.C_alloc ?_ _) | (with_reducible refine Kd.C_drewN ?_ _) | (with_reducible refine Kd.C_drew ?_))); (case side2 => exact (Kd.R_reads' HO363.out).2.1); (case side3 => repeat (first | exact (Kd.R_reads' HO367.out).2.2 | (with_reducible refine Kd.C_alloc ?_ _) | (with_reducible refine Kd.C_drewN ?_ _) | (with_reducible refine Kd.C_drew ?_))); (case side4 => exact (Kd.R_reads' HO367.out).2.1); rintro e w' ⟨rfl, ⟨nd, rfl⟩⟩; obtain ⟨Ao54, co54, eo54⟩ := Kd.R_slice HO371.out; subst eo54; obtain ⟨Ao55, co55, eo55⟩ := Kd.R_slice HO375.out; subst eo55) | (go_at_call 43; (with_reducible refine (foghornref24_Same.calls kj18 _ _ t368 _ _ t372 true _ ?side1 ?side2 ?side3 ?side4 A39.out).mono ?_); (case side1 => repeat (first | exact (Kd.R_reads' HO371.out).2.2 | (with_reducible refine Kd.C_alloc ?_ _) | (with_reducible refine Kd.C_drewN ?_ _) | (with_reducible refine Kd.C_drew ?_))); (case side2 => exact (Kd.R_reads' HO371.out).2.1); (case side3 => repeat (first | exact (Kd.R_reads' HO375.out).2.2 | (with_reducible refine Kd.C_alloc ?_ _) | (with_reducible refine Kd.C_drewN ?_ _) | (with_reducible refine Kd.C_drew ?_))); (case side4 => exact (Kd.R_reads' HO375.out).2.1); rintro e w' ⟨rfl, ⟨nd, rfl⟩⟩) | (go_at_call 31; (with_reducible refine (sums_Fits16.calls kj18 _ _ t360 t378 _ ?side1 ?side2 A41.out).mono ?_); (case side1 => repeat (first | exact (Kd.R_reads' HO363.out).2.2 | (with_reducible refine Kd.C_alloc ?_ _) | (with_reducible refine Kd.C_drewN ?_ _) | (with_reducible refine Kd.C_drew ?_))); (case side2 => exact (Kd.R_reads' HO363.out).2.1); rintro e w56 ⟨rfl, hb⟩; have n0_ := Aside0.mk (Kd.R_below (by (with_reducible repeat (first | apply Kd.R_alloc | apply Kd.R_drewN | apply Kd.R_drew)); exact HO363.out) hb); have n1_ := Aside0.mk (Kd.R_below (by (with_reducible repeat (first | apply Kd.R_alloc | apply Kd.R_drewN | apply Kd.R_drew)); exact HO367.out) hb); have n2_ := Aside0.mk (Kd.R_below (by (with_reducible repeat (first | apply Kd.R_alloc | apply Kd.R_drewN | apply Kd.R_drew)); exact HO371.out) hb); have n3_ := Aside0.mk (Kd.R_below (by (with_reducible repeat (first | apply Kd.R_alloc | apply Kd.R_drewN | apply Kd.R_drew)); exact HO375.out) hb); have n4_ := Aside0.mk (below_step (by repeat (first | (with_reducible first | exact HB.out | apply below_alloc | apply pw_below_drewN | apply below_drew1) | exact HB.out)) hb); clear HO363; clear HO367; clear HO371; clear HO375; clear HB; have HO363 := n0_; have HO367 := n1_; have HO371 := n2_; have HO375 := n3_; have HB := n4_; clear n0_ n1_ n2_ n3_ n4_; (try clear hb); (try clear hb2); (try clear hk); (try clear hi)) | (go_at_call 46; (with_reducible refine (foghornref24_Fits.calls kj18 16 _ _ t364 t379 _ ?side1 ?side2 A42.out).mono ?_); (case side1 => repeat (first | exact (Kd.R_reads' HO367.out).2.2 | (with_reducible refine Kd.C_alloc ?_ _) | (with_reducible refine Kd.C_drewN ?_ _) | (with_reducible refine Kd.C_drew ?_))); (case side2 => exact (Kd.R_reads' HO367.out).2.1); rintro e w57 ⟨rfl, hb⟩; have n0_ := Aside0.mk (Kd.R_below (by (with_reducible repeat (first | apply Kd.R_alloc | apply Kd.R_drewN | apply Kd.R_drew)); exact HO363.out) hb); have n1_ := Aside0.mk (Kd.R_below (by (with_reducible repeat (first | apply Kd.R_alloc | apply Kd.R_drewN | apply Kd.R_drew)); exact HO367.out) hb); have n2_ := Aside0.mk (Kd.R_below (by (with_reducible repeat (first | apply Kd.R_alloc | apply Kd.R_drewN | apply Kd.R_drew)); exact HO371.out) hb); have n3_ := Aside0.mk (Kd.R_below (by (with_reducible repeat (first | apply Kd.R_alloc | apply Kd.R_drewN | apply Kd.R_drew)); exact HO375.out) hb); have n4_ := Aside0.mk (below_step (by repeat (first | (with_reducible first | exact HB.out | apply below_alloc | apply pw_below_drewN | apply below_drew1) | exact HB.out)) hb); clear HO363; clear HO367; clear HO371; clear HO375; clear HB; have HO363 := n0_; have HO367 := n1_; have HO371 := n2_; have HO375 := n3_; have HB := n4_; clear n0_ n1_ n2_ n3_ n4_; (try clear hb); (try clear hb2); (try clear hk); (try clear hi)) | (go_at_call 32; (with_reducible refine (sums_Fits32.calls kj18 _ _ t368 t380 _ ?side1 ?side2 A50.out).mono ?_); (case side1 => repeat (first | exact (Kd.R_reads' HO371.out).2.2 | (with_reducible refine Kd.C_alloc ?_ _) | (with_reducible refine Kd.C_drewN ?_ _) | (with_reducible refine Kd.C_drew ?_))); (case side2 => exact (Kd.R_reads' HO371.out).2.1); rintro e w58 ⟨rfl, hb⟩; have n0_ := Aside0.mk (Kd.R_below (by (with_reducible repeat (first | apply Kd.R_alloc | apply Kd.R_drewN | apply Kd.R_drew)); exact HO363.out) hb); have n1_ := Aside0.mk (Kd.R_below (by (with_reducible repeat (first | apply Kd.R_alloc | apply Kd.R_drewN | apply Kd.R_drew)); exact HO367.out) hb); have n2_ := Aside0.mk (Kd.R_below (by (with_reducible repeat (first | apply Kd.R_alloc | apply Kd.R_drewN | apply Kd.R_drew)); exact HO371.out) hb); have n3_ := Aside0.mk (Kd.R_below (by (with_reducible repeat (first | apply Kd.R_alloc | apply Kd.R_drewN | apply Kd.R_drew)); exact HO375.out) hb); have n4_ := Aside0.mk (below_step (by repeat (first | (with_reducible first | exact HB.out | apply below_alloc | apply pw_below_drewN | apply below_drew1) | exact HB.out)) hb); clear HO363; clear HO367; clear HO371; clear HO375; clear HB; have HO363 := n0_; have HO367 := n1_; have HO371 := n2_; have HO375 := n3_; have HB := n4_; clear n0_ n1_ n2_ n3_ n4_; (try clear hb); (try clear hb2); (try clear hk); (try clear hi)) | (go_at_call 46; (with_reducible refine (foghornref24_Fits.calls kj18 32 _ _ t372 t381 _ ?side1 ?side2 A51.out).mono ?_); (case side1 => repeat (first | exact (Kd.R_reads' HO375.out).2.2 | (with_reducible refine Kd.C_alloc ?_ _) | (with_reducible refine Kd.C_drewN ?_ _) | (with_reducible refine Kd.C_drew ?_))); (case side2 => exact (Kd.R_reads' HO375.out).2.1); rintro e w59 ⟨rfl, hb⟩; have n0_ := Aside0.mk (Kd.R_below (by (with_reducible repeat (first | apply Kd.R_alloc | apply Kd.R_drewN | apply Kd.R_drew)); exact HO363.out) hb); have n1_ := Aside0.mk (Kd.R_below (by (with_reducible repeat (first | apply Kd.R_alloc | apply Kd.R_drewN | apply Kd.R_drew)); exact HO367.out) hb); have n2_ := Aside0.mk (Kd.R_below (by (with_reducible repeat (first | apply Kd.R_alloc | apply Kd.R_drewN | apply Kd.R_drew)); exact HO371.out) hb); have n3_ := Aside0.mk (Kd.R_below (by (with_reducible repeat (first | apply Kd.R_alloc | apply Kd.R_drewN | apply Kd.R_drew)); exact HO375.out) hb); have n4_ := Aside0.mk (below_step (by repeat (first | (with_reducible first | exact HB.out | apply below_alloc | apply pw_below_drewN | apply below_drew1) | exact HB.out)) hb); clear HO363; clear HO367; clear HO371; clear HO375; clear HB; have HO363 := n0_; have HO367 := n1_; have HO371 := n2_; have HO375 := n3_; have HB := n4_; clear n0_ n1_ n2_ n3_ n4_; (try clear hb); (try clear hb2); (try clear hk); (try clear hi)))
                          go_meet
                          case rel => exact ⟨_, ((t380 != t381)), (by first | rfl | (simp; done) | (simp [*]; done) | (simp; omega) | (congr 1; omega) | (rw [hR_]; done) | (simp only [hR_]; done) | (simp [hR_]; done)), H', ⟨by have := HJ7.out; have := HJ18.out; first | omega | exact Nat.le_refl _⟩, ⟨by (with_reducible repeat (first | apply Kd.R_alloc | apply Kd.R_drewN | apply Kd.R_drew)); exact Kd.R_mono HO363.out (fun _ hk => hk.1.1.2)⟩, ⟨by (with_reducible repeat (first | apply Kd.R_alloc | apply Kd.R_drewN | apply Kd.R_drew)); exact Kd.R_mono HO367.out (fun _ hk => hk.1.1.2)⟩, ⟨by repeat (first | (with_reducible first | exact HB.out | apply below_alloc | apply pw_below_drewN | apply below_drew1) | exact HB.out)⟩⟩
                      · replace c40 := Bool.eq_false_iff.mpr c40
                        subst c40
                        have H1 : (foghornlaw24_told.j2 kj18 l0 l1 t360 t364 true) = some true := by rw [if_neg (show ¬ (false = true) by decide)] at H; exact H
                        clear H
                        have H := H1
                        clear H1
                        have H' := Aside0.mk H
                        clear H
                        obtain ⟨Ao60, co60, eo60⟩ := Kd.R_slice HO363.out
                        subst eo60
                        obtain ⟨Ao61, co61, eo61⟩ := Kd.R_slice HO367.out
                        subst eo61
                        go_wp2_with (first | (go_at_call 43; (with_reducible refine (foghornref24_Same.calls kj18 _ _ t360 _ _ t364 true _ ?side1 ?side2 ?side3 ?side4 A36.out).mono ?_); (case side1 => repeat (first | exact (Kd.R_reads' HO363.out).2.2 | (with_reducible refine Kd.C_alloc ?_ _) | (with_reducible refine Kd.C_drewN ?_ _) | (with_reducible refine Kd.C_drew ?_))); (case side2 => exact (Kd.R_reads' HO363.out).2.1); (case side3 => repeat (first | exact (Kd.R_reads' HO367.out).2.2 | (with_reducible refine Kd.C_alloc ?_ _) | (with_reducible refine Kd.C_drewN ?_ _) | (with_reducible refine Kd.C_drew ?_))); (case side4 => exact (Kd.R_reads' HO367.out).2.1); rintro e w' ⟨rfl, ⟨nd, rfl⟩⟩; obtain ⟨Ao62, co62, eo62⟩ := Kd.R_slice HO371.out; subst eo62; obtain ⟨Ao63, co63, eo63⟩ := Kd.R_slice HO375.out; subst eo63) | (go_at_call 43; (with_reducible refine (foghornref24_Same.calls kj18 _ _ t368 _ _ t372 false _ ?side1 ?side2 ?side3 ?side4 A39.out).mono ?_); (case side1 => repeat (first | exact (Kd.R_reads' HO371.out).2.2 | (with_reducible refine Kd.C_alloc ?_ _) | (with_reducible refine Kd.C_drewN ?_ _) | (with_reducible refine Kd.C_drew ?_))); (case side2 => exact (Kd.R_reads' HO371.out).2.1); (case side3 => repeat (first | exact (Kd.R_reads' HO375.out).2.2 | (with_reducible refine Kd.C_alloc ?_ _) | (with_reducible refine Kd.C_drewN ?_ _) | (with_reducible refine Kd.C_drew ?_))); (case side4 => exact (Kd.R_reads' HO375.out).2.1); rintro e w' ⟨rfl, ⟨nd, rfl⟩⟩))
                        go_meet
                        case rel => exact ⟨_, (true), (by first | rfl | (simp; done) | (simp [*]; done) | (simp; omega) | (congr 1; omega) | (rw [hR_]; done) | (simp only [hR_]; done) | (simp [hR_]; done)), H', ⟨by have := HJ7.out; have := HJ18.out; first | omega | exact Nat.le_refl _⟩, ⟨by (with_reducible repeat (first | apply Kd.R_alloc | apply Kd.R_drewN | apply Kd.R_drew)); exact Kd.R_mono HO363.out (fun _ hk => hk.1.1.2)⟩, ⟨by (with_reducible repeat (first | apply Kd.R_alloc | apply Kd.R_drewN | apply Kd.R_drew)); exact Kd.R_mono HO367.out (fun _ hk => hk.1.1.2)⟩, ⟨by repeat (first | (with_reducible first | exact HB.out | apply below_alloc | apply pw_below_drewN | apply below_drew1) | exact HB.out)⟩⟩
                    · rw [if_neg c38] at H
                      have c38b0 : (t369 == t373) = false := beq_eq_false_iff_ne.mpr c38
                      have c38b1 : (t369 != t373) = true := bne_iff_ne.mpr c38
                      have H' := Aside0.mk H
                      clear H
                      obtain ⟨Ao64, co64, eo64⟩ := Kd.R_slice HO363.out
                      subst eo64
                      obtain ⟨Ao65, co65, eo65⟩ := Kd.R_slice HO367.out
                      subst eo65
                      go_wp2_with (first | (go_at_call 43; (with_reducible refine (foghornref24_Same.calls kj18 _ _ t360 _ _ t364 true _ ?side1 ?side2 ?side3 ?side4 A36.out).mono ?_); (case side1 => repeat (first | exact (Kd.R_reads' HO363.out).2.2 | (with_reducible refine Kd.C_alloc ?_ _) | (with_reducible refine Kd.C_drewN ?_ _) | (with_reducible refine Kd.C_drew ?_))); (case side2 => exact (Kd.R_reads' HO363.out).2.1); (case side3 => repeat (first | exact (Kd.R_reads' HO367.out).2.2 | (with_reducible refine Kd.C_alloc ?_ _) | (with_reducible refine Kd.C_drewN ?_ _) | (with_reducible refine Kd.C_drew ?_))); (case side4 => exact (Kd.R_reads' HO367.out).2.1); rintro e w' ⟨rfl, ⟨nd, rfl⟩⟩))
                      go_meet
                      case rel => exact ⟨_, (true), (by first | rfl | (simp; done) | (simp [*]; done) | (simp; omega) | (congr 1; omega) | (rw [hR_]; done) | (simp only [hR_]; done) | (simp [hR_]; done)), H', ⟨by have := HJ7.out; have := HJ18.out; first | omega | exact Nat.le_refl _⟩, ⟨by (with_reducible repeat (first | apply Kd.R_alloc | apply Kd.R_drewN | apply Kd.R_drew)); exact Kd.R_mono HO363.out (fun _ hk => hk.1.1.2)⟩, ⟨by (with_reducible repeat (first | apply Kd.R_alloc | apply Kd.R_drewN | apply Kd.R_drew)); exact Kd.R_mono HO367.out (fun _ hk => hk.1.1.2)⟩, ⟨by repeat (first | (with_reducible first | exact HB.out | apply below_alloc | apply pw_below_drewN | apply below_drew1) | exact HB.out)⟩⟩
                  · replace c37 := Bool.eq_false_iff.mpr c37
                    subst c37
                    have H1 : (foghornlaw24_told.j2 kj18 l0 l1 t360 t364 true) = some true := by rw [if_neg (show ¬ (false = true) by decide)] at H; exact H
                    clear H
                    have H := H1
                    clear H1
                    have H' := Aside0.mk H
                    clear H
                    obtain ⟨Ao66, co66, eo66⟩ := Kd.R_slice HO363.out
                    subst eo66
                    obtain ⟨Ao67, co67, eo67⟩ := Kd.R_slice HO367.out
                    subst eo67
                    go_wp2_with (first | (go_at_call 43; (with_reducible refine (foghornref24_Same.calls kj18 _ _ t360 _ _ t364 false _ ?side1 ?side2 ?side3 ?side4 A36.out).mono ?_); (case side1 => repeat (first | exact (Kd.R_reads' HO363.out).2.2 | (with_reducible refine Kd.C_alloc ?_ _) | (with_reducible refine Kd.C_drewN ?_ _) | (with_reducible refine Kd.C_drew ?_))); (case side2 => exact (Kd.R_reads' HO363.out).2.1); (case side3 => repeat (first | exact (Kd.R_reads' HO367.out).2.2 | (with_reducible refine Kd.C_alloc ?_ _) | (with_reducible refine Kd.C_drewN ?_ _) | (with_reducible refine Kd.C_drew ?_))); (case side4 => exact (Kd.R_reads' HO367.out).2.1); rintro e w' ⟨rfl, ⟨nd, rfl⟩⟩))
                    go_meet
                    case rel => exact ⟨_, (true), (by first | rfl | (simp; done) | (simp [*]; done) | (simp; omega) | (congr 1; omega) | (rw [hR_]; done) | (simp only [hR_]; done) | (simp [hR_]; done)), H', ⟨by have := HJ7.out; have := HJ18.out; first | omega | exact Nat.le_refl _⟩, ⟨by (with_reducible repeat (first | apply Kd.R_alloc | apply Kd.R_drewN | apply Kd.R_drew)); exact Kd.R_mono HO363.out (fun _ hk => hk.1.1.2)⟩, ⟨by (with_reducible repeat (first | apply Kd.R_alloc | apply Kd.R_drewN | apply Kd.R_drew)); exact Kd.R_mono HO367.out (fun _ hk => hk.1.1.2)⟩, ⟨by repeat (first | (with_reducible first | exact HB.out | apply below_alloc | apply pw_below_drewN | apply below_drew1) | exact HB.out)⟩⟩
                · rw [if_neg c35] at H
                  have c35b0 : (t361 == t365) = false := beq_eq_false_iff_ne.mpr c35
                  have c35b1 : (t361 != t365) = true := bne_iff_ne.mpr c35
                  (first | rw [c35b0] | (simp only [i64_w, i32_w]; rw [c35b0]) | skip)
                  have H' := Aside0.mk H
                  clear H
                  go_wp2
                  go_meet
                  case rel => exact ⟨_, (true), (by first | rfl | (simp; done) | (simp [*]; done) | (simp; omega) | (congr 1; omega) | (rw [hR_]; done) | (simp only [hR_]; done) | (simp [hR_]; done)), H', ⟨by have := HJ7.out; have := HJ18.out; first | omega | exact Nat.le_refl _⟩, ⟨by (with_reducible repeat (first | apply Kd.R_alloc | apply Kd.R_drewN | apply Kd.R_drew)); exact Kd.R_mono HO363.out (fun _ hk => hk.1.1.2)⟩, ⟨by (with_reducible repeat (first | apply Kd.R_alloc | apply Kd.R_drewN | apply Kd.R_drew)); exact Kd.R_mono HO367.out (fun _ hk => hk.1.1.2)⟩, ⟨by repeat (first | (with_reducible first | exact HB.out | apply below_alloc | apply pw_below_drewN | apply below_drew1) | exact HB.out)⟩⟩
              case rest =>
                clear HC30
                try clear c1
                try clear c2
                try clear p2
                try clear c3
                try clear c4
                try clear c8
                try clear c10
                try clear c11
                try clear c11b0
                try clear c11b1
                try clear c12
                try clear c12b0
                try clear c12b1
                try clear c13
                try clear c13b0
                try clear c13b1
                try clear c14
                try clear c22
                try clear c22b0
                try clear c22b1
                try clear c23
                try clear c23b0
                try clear c23b1
                try clear c24
                try clear c24b0
                try clear c24b1
                try clear c25
                try clear c28
                try clear c29
                try clear c30
                try clear c34
                try clear c35
                try clear c35b0
                try clear c35b1
                try clear c37
                try clear c38
                try clear c38b0
                try clear c38b1
                try clear c40
                try clear c42
                try clear c43
                try clear c43b0
                try clear c43b1
                try clear c43b2
                try clear c44
                try clear c45
                try clear p2
                obtain ⟨kq, x163_29, rfl, HA, HJ29, HO_19, HO_20, HB⟩ := hcut
                cases kq with
                | zero => exact absurd HA.out (by simp [foghornlaw24_told.j2])
                | succ kj29 =>
                  have H := HA.out
                  clear HA
                  simp only [foghornlaw24_told.j2] at H
                  by_cases c68 : x163_29 = true
                  · subst c68
                    have H1 : (some false) = some true := by rw [if_pos rfl] at H; exact H
                    clear H
                    have H := H1
                    clear H1
                    exact absurd H (by simp)
                  · replace c68 := Bool.eq_false_iff.mpr c68
                    subst c68
                    have H1 : (foghornlaw24_told.l0 kj29 l0 l1 t360 t364 0) = some true := by rw [if_neg (show ¬ (false = true) by decide)] at H; exact H
                    clear H
                    have H := H1
                    clear H1
                    have H' := Aside0.mk H
                    clear H
                    go_wp2
                    go_loopg [23] kj29 (fun kq v23 w' => ∃ (x19_4 : List Bool) (x23_4 : Int), v23 = .int .i64 x23_4 ∧ Aside0 (foghornlaw24_told.l0 kq l0 l1 x19_4 t364 x23_4 = some true) ∧ Aside0 (kq ≤ kj29) ∧ Aside0 (Kd.R Kd.bool 4 w' w.heap.size (fun k_ => some k_ ≠ (v366 : Value).ownBlock) v362 x19_4) ∧ Aside0 (Kd.R Kd.bool 4 w' w.heap.size (fun k_ => some k_ ≠ (v362 : Value).ownBlock) v366 t364) ∧ Aside0 (Below w.heap.size w w'))
                    case atStart => exact ⟨(t360), (0), (by first | rfl | (simp; done) | (simp [*]; done) | (simp; omega) | (congr 1; omega) | (rw [hR_]; done) | (simp only [hR_]; done) | (simp [hR_]; done)), H', ⟨Nat.le_refl _⟩, ⟨by (with_reducible repeat (first | apply Kd.R_alloc | apply Kd.R_drewN | apply Kd.R_drew)); exact HO_19.out⟩, ⟨by (with_reducible repeat (first | apply Kd.R_alloc | apply Kd.R_drewN | apply Kd.R_drew)); exact HO_20.out⟩, ⟨by repeat (first | (with_reducible first | exact HB.out | apply below_alloc | apply pw_below_drewN | apply below_drew1) | exact HB.out)⟩⟩
                    case round =>
                      clear H'
                      try clear c1
                      try clear c2
                      try clear p2
                      try clear c3
                      try clear c4
                      try clear c6
                      try clear c8
                      try clear c10
                      try clear c11
                      try clear c11b0
                      try clear c11b1
                      try clear c12
                      try clear c12b0
                      try clear c12b1
                      try clear c13
                      try clear c13b0
                      try clear c13b1
                      try clear c14
                      try clear c22
                      try clear c22b0
                      try clear c22b1
                      try clear c23
                      try clear c23b0
                      try clear c23b1
                      try clear c24
                      try clear c24b0
                      try clear c24b1
                      try clear c25
                      try clear c28
                      try clear c29
                      try clear c30
                      try clear c34
                      try clear c35
                      try clear c35b0
                      try clear c35b1
                      try clear c37
                      try clear c38
                      try clear c38b0
                      try clear c38b1
                      try clear c40
                      try clear c42
                      try clear c43
                      try clear c43b0
                      try clear c43b1
                      try clear c43b2
                      try clear c44
                      try clear c45
                      try clear c68
                      try clear p2
                      obtain ⟨x19_4, x23_4, rfl, HA, HK4, HO_19, HO_20, HB⟩ := hrel
                      cases gk with
                      | zero => exact absurd HA.out (by simp [foghornlaw24_told.l0])
                      | succ k4 =>
                        have H := HA.out
                        clear HA
                        simp only [foghornlaw24_told.l0] at H
                        by_cases c69 : x23_4 < (x19_4.length : Int)
                        · rw [if_pos c69] at H
                          have c69b0 : decide (x23_4 < (x19_4.length : Int)) = true := decide_eq_true c69
                          clear c69
                          by_cases c70 : 0 ≤ x23_4
                          · rw [if_pos c70] at H
                            have c70b0 : decide (0 ≤ x23_4) = true := decide_eq_true c70
                            clear c70
                            obtain ⟨y383, hy383⟩ : ∃ y_ : List Bool, y_ = (x19_4.set (x23_4 : Int).toNat (!(rdOf false x19_4 x23_4))) := ⟨_, rfl⟩
                            replace H : (foghornlaw24_told.l0 k4 l0 l1 y383 t364 (wrap64 (x23_4 + 1))) = some true := by first | (rw [hy383]; with_reducible exact H) | (have H2_ := (Option.bind_some _ _).symm.trans H; rw [hy383]; with_reducible exact H2_) | (have H2_ := (Option.bind_some _ _).symm.trans H; with_reducible exact H2_) | with_reducible exact H | (rw [hy383]; exact H) | exact H
                            have Ny383 := Aside0.mk hy383
                            clear hy383
                            have H' := Aside0.mk H
                            clear H
                            obtain ⟨Ao72, co72, eo72⟩ := Kd.R_slice HO_19.out
                            subst eo72
                            have p382 : 0 ≤ (x23_4 : Int) := of_decide_eq_true (by first | (with_reducible assumption) | assumption)
                            have q382 : x23_4 < (x19_4.length : Int) := of_decide_eq_true (by first | (with_reducible assumption) | assumption)
                            obtain ⟨ad382, e382, hx382_0⟩ := Kd.at_bool (Kd.R_reads' HO_19.out).2.2 x23_4 p382 q382
                            cases e382
                            replace p382 := eq_true p382
                            replace q382 := eq_true q382
                            have p71 : 0 ≤ (x23_4 : Int) := of_decide_eq_true (by first | (with_reducible assumption) | assumption)
                            have q71 : (x23_4 : Int) < ((x19_4.length : Int) : Int) := of_decide_eq_true (by first | (with_reducible assumption) | assumption)
                            obtain ⟨go71, co71, eo71, gb71, gl71, cl71, HG71⟩ := Kd.R_form HO_19.out (by omega)
                            (first | cases eo71 | (injection eo71 with ea_ en_ ec_; (first | subst ea_ | (injection ea_ with ea_; subst ea_)); subst ec_; clear en_))
                            have GB71 := Aside0.mk gb71
                            have GG71 := Aside0.mk HG71
                            clear gb71 gl71 HG71
                            (first | simp only [add_plain] at hx382_0 | skip)
                            obtain ⟨hx71_0, hf71_0⟩ := Kd.R_celln false HO_19.out (x23_4 : Int) p71 q71
                            replace p71 := eq_true p71
                            replace q71 := eq_true q71
                            have HP73 := Kd.R_putg HO_19.out (x23_4 : Int) (!(rdOf false x19_4 x23_4))
                            go_wp2_with (first | ((with_reducible refine gate_store (t := 4) (p := 177) rfl ?_); refine store_event (t := 4) (p := 177) (v := ?vo_w74) (w1 := (wr.setCell ⟨go71, (x23_4 : Int).toNat, none⟩ (.bool (!(rdOf false x19_4 x23_4))))) ?hg ?ho ?hn ?hr ?_; (case ho => rfl); (case hg => rfl); (case hn => rfl); (case hr => first | (go_simp; done) | (go_simp; rfl)); intro w74 hw; have hg : wr.grownBy w74 (some go71) := (by rw [hw]; exact HP73.2); have hp_ : Kd.R Kd.bool 4 w74 w.heap.size (fun k_ => some k_ ≠ (v366 : Value).ownBlock) (.slice (some ⟨go71, 0, none⟩) x19_4.length co72) y383 := (by rw [hw, Ny383.out]; exact HP73.1); clear HP73; have n0_ := Aside0.mk (hp_); have n1_ := Aside0.mk (Kd.R_after (v := (.slice (some ⟨go71, 0, none⟩) x19_4.length co72)) (v1 := (.slice (some ⟨go71, 0, none⟩) x19_4.length co72)) (ok := (fun _ => True)) (by (with_reducible repeat (first | apply Kd.R_alloc | apply Kd.R_drewN | apply Kd.R_drew)); exact Kd.R_mono HO_20.out (fun _ hk => ⟨trivial, hk⟩)) hg (.inl rfl)); have n2_ := Aside0.mk ((by rw [hw]; exact below_set (HB.out) GB71.out : Below w.heap.size w w74)); clear HO_19; clear HO_20; clear HB; have HO_19 := n0_; have HO_20 := n1_; have HB := n2_; clear n0_ n1_ n2_; clear hg hw hp_))
                            (first | go_roundg k4 | (simp only [add_plain] at *; go_roundg k4))
                            case measure => have := HJ7.out; have := HJ18.out; have := HJ29.out; have := HK4.out; omega
                            case rel => exact ⟨(y383), (wrap64 (x23_4 + 1)), (by first | rfl | (simp; done) | (simp [*]; done) | (simp; omega) | (congr 1; omega) | (rw [hR_]; done) | (simp only [hR_]; done) | (simp [hR_]; done)), H', ⟨by have := HJ7.out; have := HJ18.out; have := HJ29.out; have := HK4.out; omega⟩, ⟨by (with_reducible repeat (first | apply Kd.R_alloc | apply Kd.R_drewN | apply Kd.R_drew)); exact HO_19.out⟩, ⟨by (with_reducible repeat (first | apply Kd.R_alloc | apply Kd.R_drewN | apply Kd.R_drew)); exact Kd.R_mono HO_20.out (fun _ hk => hk.2)⟩, ⟨by repeat (first | (with_reducible first | exact HB.out | apply below_alloc | apply pw_below_drewN | apply below_drew1) | exact HB.out)⟩⟩
                          · rw [if_neg c70] at H
                            exact absurd H (by simp)
                        · rw [if_neg c69] at H
                          have c69b0 : decide (x23_4 < (x19_4.length : Int)) = false := decide_eq_false c69
                          clear c69
                          replace H := Option.bind_eq_some_iff.mp H
                          obtain ⟨⟨t384, t385⟩, A750, H⟩ := H
                          replace H : ((foghornref24_Same.f k4 t384 t364).bind fun t388 => (if t388 = true then ((sums_Fits16.f k4 l0).bind fun t389 => ((foghornref24_Fits.f k4 16 l1).bind fun t390 => (if (t389 == t390) = true then ((sums_Fits32.f k4 l0).bind fun t391 => ((foghornref24_Fits.f k4 32 l1).bind fun t392 => (some (t391 == t392)))) else (some false)))) else (some false))) = some true := H
                          have A75 := Aside0.mk A750
                          clear A750
                          replace H := Option.bind_eq_some_iff.mp H
                          obtain ⟨t388, A760, H⟩ := H
                          replace H : (if t388 = true then ((sums_Fits16.f k4 l0).bind fun t389 => ((foghornref24_Fits.f k4 16 l1).bind fun t390 => (if (t389 == t390) = true then ((sums_Fits32.f k4 l0).bind fun t391 => ((foghornref24_Fits.f k4 32 l1).bind fun t392 => (some (t391 == t392)))) else (some false)))) else (some false)) = some true := H
                          have A76 := Aside0.mk A760
                          clear A760
                          by_cases c77 : t388 = true
                          · subst c77
                            have H1 : ((sums_Fits16.f k4 l0).bind fun t389 => ((foghornref24_Fits.f k4 16 l1).bind fun t390 => (if (t389 == t390) = true then ((sums_Fits32.f k4 l0).bind fun t391 => ((foghornref24_Fits.f k4 32 l1).bind fun t392 => (some (t391 == t392)))) else (some false)))) = some true := by rw [if_pos rfl] at H; exact H
                            clear H
                            have H := H1
                            clear H1
                            replace H := Option.bind_eq_some_iff.mp H
                            obtain ⟨t389, A780, H⟩ := H
                            replace H : ((foghornref24_Fits.f k4 16 l1).bind fun t390 => (if (t389 == t390) = true then ((sums_Fits32.f k4 l0).bind fun t391 => ((foghornref24_Fits.f k4 32 l1).bind fun t392 => (some (t391 == t392)))) else (some false))) = some true := H
                            have A78 := Aside0.mk A780
                            clear A780
                            replace H := Option.bind_eq_some_iff.mp H
                            obtain ⟨t390, A790, H⟩ := H
                            replace H : (if (t389 == t390) = true then ((sums_Fits32.f k4 l0).bind fun t391 => ((foghornref24_Fits.f k4 32 l1).bind fun t392 => (some (t391 == t392)))) else (some false)) = some true := H
                            have A79 := Aside0.mk A790
                            clear A790
                            by_cases c80 : (t389 == t390) = true
                            · rw [if_pos c80] at H
                              have c80b0 : (t389 == t390) = true := c80
                              (try (have c80b1 : decide (t389 = t390) = true := by simpa using c80))
                              (try (have c80b2 : (t389 == t390) = true := by simpa using c80))
                              clear c80
                              replace H := Option.bind_eq_some_iff.mp H
                              obtain ⟨t391, A810, H⟩ := H
                              replace H : ((foghornref24_Fits.f k4 32 l1).bind fun t392 => (some (t391 == t392))) = some true := H
                              have A81 := Aside0.mk A810
                              clear A810
                              replace H := Option.bind_eq_some_iff.mp H
                              obtain ⟨t392, A820, H⟩ := H
                              replace H : (some (t391 == t392)) = some true := H
                              have A82 := Aside0.mk A820
                              clear A820
                              have hR_ := Option.some.inj H
                              clear H
                              obtain ⟨Ao83, co83, eo83⟩ := Kd.R_slice HO_19.out
                              subst eo83
                              go_wp2_with (first | ((with_reducible refine gate_callee (f := 29) rfl ?_); refine goesL_ (some 180) rfl rfl Try.func29 (by kernel_rfl) rfl #[.slice A0 l0.length c0] rfl (by (try simp only [List.map_toArray, List.map_cons, List.map_nil]); first | done | rfl | (simp only [List.length_drop, List.length_take]; rfl)) ?_; (with_reducible refine (sums_Row16.calls k4 _ _ l0 t384 t385 _ ?side1 ?side2 A75.out).mono ?_); (case side1 => repeat (first | exact (Kd.C_below HR0.out HB.out) | (with_reducible refine Kd.C_alloc ?_ _) | (with_reducible refine Kd.C_drewN ?_ _) | (with_reducible refine Kd.C_drew ?_))); (case side2 => exact HC0.out); rintro e w84 ⟨v386, rfl, ho0, hb⟩; refine ⟨_, rfl, ?_⟩; have n0_ := Aside0.mk (Kd.R_elder' (by (with_reducible repeat (first | apply Kd.R_alloc | apply Kd.R_drewN | apply Kd.R_drew)); exact HO_19.out) (Kd.R_base ho0) hb); have n1_ := Aside0.mk (Kd.R_elder' (by (with_reducible repeat (first | apply Kd.R_alloc | apply Kd.R_drewN | apply Kd.R_drew)); exact HO_20.out) (Kd.R_base ho0) hb); have n2_ := Aside0.mk (Kd.R_lower (Kd.R_new' (Kd.R_new' ho0 (Kd.R_lt (by (with_reducible repeat (first | apply Kd.R_alloc | apply Kd.R_drewN | apply Kd.R_drew)); exact HO_19.out))) (Kd.R_lt (by (with_reducible repeat (first | apply Kd.R_alloc | apply Kd.R_drewN | apply Kd.R_drew)); exact HO_20.out))) (below_size (by repeat (first | (with_reducible first | exact HB.out | apply below_alloc | apply pw_below_drewN | apply below_drew1) | exact HB.out)))); have n3_ := Aside0.mk (below_step (by repeat (first | (with_reducible first | exact HB.out | apply below_alloc | apply pw_below_drewN | apply below_drew1) | exact HB.out)) hb); clear HO_19; clear HO_20; clear HB; have HO_19 := n0_; have HO_20 := n1_; have HO387 := n2_; have HB := n3_; clear n0_ n1_ n2_ n3_; (try clear hb); (try clear hb2); (try clear hk); (try clear hi); (try clear ho0); obtain ⟨Ao85, co85, eo85⟩ := Kd.R_slice HO387.out; subst eo85; obtain ⟨Ao86, co86, eo86⟩ := Kd.R_slice HO_20.out; subst eo86) | ((with_reducible refine gate_callee (f := 43) rfl ?_); refine goesL_ (some 185) rfl rfl Try.func43 (by kernel_rfl) rfl #[.slice Ao85 t384.length co85, .slice Ao86 t364.length co86] rfl (by (try simp only [List.map_toArray, List.map_cons, List.map_nil]); first | done | rfl | (simp only [List.length_drop, List.length_take]; rfl)) ?_; (with_reducible refine (foghornref24_Same.calls k4 _ _ t384 _ _ t364 true _ ?side1 ?side2 ?side3 ?side4 A76.out).mono ?_); (case side1 => repeat (first | exact (Kd.R_reads' HO387.out).2.2 | (with_reducible refine Kd.C_alloc ?_ _) | (with_reducible refine Kd.C_drewN ?_ _) | (with_reducible refine Kd.C_drew ?_))); (case side2 => exact (Kd.R_reads' HO387.out).2.1); (case side3 => repeat (first | exact (Kd.R_reads' HO_20.out).2.2 | (with_reducible refine Kd.C_alloc ?_ _) | (with_reducible refine Kd.C_drewN ?_ _) | (with_reducible refine Kd.C_drew ?_))); (case side4 => exact (Kd.R_reads' HO_20.out).2.1); rintro e w' ⟨rfl, ⟨nd, rfl⟩⟩; refine ⟨_, rfl, ?_⟩) | (go_at_call 31; (with_reducible refine (sums_Fits16.calls k4 _ _ l0 t389 _ ?side1 ?side2 A78.out).mono ?_); (case side1 => repeat (first | exact (Kd.C_below HR0.out (by repeat (first | (with_reducible first | exact HB.out | apply below_alloc | apply pw_below_drewN | apply below_drew1) | exact HB.out))) | (with_reducible refine Kd.C_alloc ?_ _) | (with_reducible refine Kd.C_drewN ?_ _) | (with_reducible refine Kd.C_drew ?_))); (case side2 => exact HC0.out); rintro e w87 ⟨rfl, hb⟩; have n0_ := Aside0.mk (Kd.R_below (by (with_reducible repeat (first | apply Kd.R_alloc | apply Kd.R_drewN | apply Kd.R_drew)); exact HO_19.out) hb); have n1_ := Aside0.mk (Kd.R_below (by (with_reducible repeat (first | apply Kd.R_alloc | apply Kd.R_drewN | apply Kd.R_drew)); exact HO_20.out) hb); have n2_ := Aside0.mk (Kd.R_below (by (with_reducible repeat (first | apply Kd.R_alloc | apply Kd.R_drewN | apply Kd.R_drew)); exact HO387.out) hb); have n3_ := Aside0.mk (below_step (by repeat (first | (with_reducible first | exact HB.out | apply below_alloc | apply pw_below_drewN | apply below_drew1) | exact HB.out)) hb); clear HO_19; clear HO_20; clear HO387; clear HB; have HO_19 := n0_; have HO_20 := n1_; have HO387 := n2_; have HB := n3_; clear n0_ n1_ n2_ n3_; (try clear hb); (try clear hb2); (try clear hk); (try clear hi)) | (go_at_call 46; (with_reducible refine (foghornref24_Fits.calls k4 16 _ _ l1 t390 _ ?side1 ?side2 A79.out).mono ?_); (case side1 => repeat (first | exact (Kd.C_below HR1.out HB.out) | (with_reducible refine Kd.C_alloc ?_ _) | (with_reducible refine Kd.C_drewN ?_ _) | (with_reducible refine Kd.C_drew ?_))); (case side2 => exact HC1.out); rintro e w88 ⟨rfl, hb⟩; have n0_ := Aside0.mk (Kd.R_below (by (with_reducible repeat (first | apply Kd.R_alloc | apply Kd.R_drewN | apply Kd.R_drew)); exact HO_19.out) hb); have n1_ := Aside0.mk (Kd.R_below (by (with_reducible repeat (first | apply Kd.R_alloc | apply Kd.R_drewN | apply Kd.R_drew)); exact HO_20.out) hb); have n2_ := Aside0.mk (Kd.R_below (by (with_reducible repeat (first | apply Kd.R_alloc | apply Kd.R_drewN | apply Kd.R_drew)); exact HO387.out) hb); have n3_ := Aside0.mk (below_step (by repeat (first | (with_reducible first | exact HB.out | apply below_alloc | apply pw_below_drewN | apply below_drew1) | exact HB.out)) hb); clear HO_19; clear HO_20; clear HO387; clear HB; have HO_19 := n0_; have HO_20 := n1_; have HO387 := n2_; have HB := n3_; clear n0_ n1_ n2_ n3_; (try clear hb); (try clear hb2); (try clear hk); (try clear hi)) | (go_at_call 32; (with_reducible refine (sums_Fits32.calls k4 _ _ l0 t391 _ ?side1 ?side2 A81.out).mono ?_); (case side1 => repeat (first | exact (Kd.C_below HR0.out HB.out) | (with_reducible refine Kd.C_alloc ?_ _) | (with_reducible refine Kd.C_drewN ?_ _) | (with_reducible refine Kd.C_drew ?_))); (case side2 => exact HC0.out); rintro e w89 ⟨rfl, hb⟩; have n0_ := Aside0.mk (Kd.R_below (by (with_reducible repeat (first | apply Kd.R_alloc | apply Kd.R_drewN | apply Kd.R_drew)); exact HO_19.out) hb); have n1_ := Aside0.mk (Kd.R_below (by (with_reducible repeat (first | apply Kd.R_alloc | apply Kd.R_drewN | apply Kd.R_drew)); exact HO_20.out) hb); have n2_ := Aside0.mk (Kd.R_below (by (with_reducible repeat (first | apply Kd.R_alloc | apply Kd.R_drewN | apply Kd.R_drew)); exact HO387.out) hb); have n3_ := Aside0.mk (below_step (by repeat (first | (with_reducible first | exact HB.out | apply below_alloc | apply pw_below_drewN | apply below_drew1) | exact HB.out)) hb); clear HO_19; clear HO_20; clear HO387; clear HB; have HO_19 := n0_; have HO_20 := n1_; have HO387 := n2_; have HB := n3_; clear n0_ n1_ n2_ n3_; (try clear hb); (try clear hb2); (try clear hk); (try clear hi)) | (go_at_call 46; (with_reducible refine (foghornref24_Fits.calls k4 32 _ _ l1 t392 _ ?side1 ?side2 A82.out).mono ?_); (case side1 => repeat (first | exact (Kd.C_below HR1.out HB.out) | (with_reducible refine Kd.C_alloc ?_ _) | (with_reducible refine Kd.C_drewN ?_ _) | (with_reducible refine Kd.C_drew ?_))); (case side2 => exact HC1.out); rintro e w90 ⟨rfl, hb⟩; have n0_ := Aside0.mk (Kd.R_below (by (with_reducible repeat (first | apply Kd.R_alloc | apply Kd.R_drewN | apply Kd.R_drew)); exact HO_19.out) hb); have n1_ := Aside0.mk (Kd.R_below (by (with_reducible repeat (first | apply Kd.R_alloc | apply Kd.R_drewN | apply Kd.R_drew)); exact HO_20.out) hb); have n2_ := Aside0.mk (Kd.R_below (by (with_reducible repeat (first | apply Kd.R_alloc | apply Kd.R_drewN | apply Kd.R_drew)); exact HO387.out) hb); have n3_ := Aside0.mk (below_step (by repeat (first | (with_reducible first | exact HB.out | apply below_alloc | apply pw_below_drewN | apply below_drew1) | exact HB.out)) hb); clear HO_19; clear HO_20; clear HO387; clear HB; have HO_19 := n0_; have HO_20 := n1_; have HO387 := n2_; have HB := n3_; clear n0_ n1_ n2_ n3_; (try clear hb); (try clear hb2); (try clear hk); (try clear hi)))
                              go_ret
                              exact ⟨by first | rfl | (simp [errW_none, errW_some] <;> rfl) | (simp [*, errW_none, errW_some] <;> rfl), by repeat (first | (with_reducible first | exact HB.out | apply below_alloc | apply pw_below_drewN | apply below_drew1) | exact HB.out)⟩
                            · rw [if_neg c80] at H
                              have c80b0 : (t389 == t390) = false := by simpa using c80
                              (try (have c80b1 : decide (t389 = t390) = false := by simpa using c80))
                              (try (have c80b2 : (t389 == t390) = false := by simpa using c80))
                              (try (have c80b3 : ¬ (t389 = t390) := by simpa using c80))
                              clear c80
                              exact absurd H (by simp)
                          · replace c77 := Bool.eq_false_iff.mpr c77
                            subst c77
                            have H1 : (some false) = some true := by rw [if_neg (show ¬ (false = true) by decide)] at H; exact H
                            clear H
                            have H := H1
                            clear H1
                            exact absurd H (by simp)

-- NOT PRINTED: function 5 (foghornlaw24_SumsBits)

end Go.Proofs.Ytjnedgkpakoceaa.Fog
