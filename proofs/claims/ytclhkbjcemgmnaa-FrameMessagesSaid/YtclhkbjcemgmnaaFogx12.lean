-- Written by fog.py, a program of this session, over the kit's print.
import Derived.Test.YtclhkbjcemgmnaaFogx0
import Derived.Test.YtclhkbjcemgmnaaFogx4
import Derived.Test.YtclhkbjcemgmnaaHandJoin
import Derived.Test.YtclhkbjcemgmnaaHandPack
import Derived.Test.YtclhkbjcemgmnaaHandWorks
namespace Go.Proofs.Ytclhkbjcemgmnaa.Fog
open Go.RowKit Go.Proofs.YtclhkbjcemgmnaaW.PrintWords Go.Proofs.YtclhkbjcemgmnaaW.PrintLast Go.Proofs.YtclhkbjcemgmnaaW.PrintMore
attribute [local go_sem] max2_int min2_int max_two min_two max_three min_three max_four min_four   -- for this text's walks alone
attribute [local go_sem] fog_signed_u8 fog_max_u8 fog_signed_u16 fog_max_u16 fog_signed_u32 fog_max_u32 fog_signed_u64 fog_max_u64
set_option linter.unusedVariables false
set_option linter.unusedSimpArgs false

/-! ### foghornlaw25_FrameMessages: function 8 -/
mutual
def foghornlaw25_FrameMessages.j0 : Nat → Int → Int → Int → List (S30) → Bool → Option (Bool)
  | 0, _, _, _, _, _ => none
  | k + 1, x0, x1, x3, x9, x67 => if x67 = true then (some false) else (foghornlaw25_FrameMessages.l0 k x0 x1 x3 x9 0)
def foghornlaw25_FrameMessages.l0 : Nat → Int → Int → Int → List (S30) → Int → Option (Bool)
  | 0, _, _, _, _, _ => none
  | k + 1, x0, x1, x3, x9, x13 => if x13 < (x9.length : Int) then (if 0 ≤ x13 then ((frame_Pack.f ((rd_T30 x9 x13).f0) ((rd_T30 x9 x13).f1) ((rd_T30 x9 x13).f2) ((rd_T30 x9 x13).f3)).bind fun bt305 => (if bt305.2 = 0 then (if ((rd_T30 x9 x13).f0) = x0 then (if ((rd_T30 x9 x13).f1) = ((x1 + (x13)) % 256) then (if (((rd_T30 x9 x13).f2) != (decide (x13 < (wrap64 ((x9.length : Int) - 1))))) = true then (some false) else (if (rd_T30 x9 x13).f2 = true then (if (((rd_T30 x9 x13).f3).size : Int) = x3 then (foghornlaw25_FrameMessages.l0 k x0 x1 x3 x9 (wrap64 (x13 + 1))) else (some false)) else (foghornlaw25_FrameMessages.l0 k x0 x1 x3 x9 (wrap64 (x13 + 1))))) else (some false)) else (some false)) else (some false))) else (none)) else (some true)
end
def foghornlaw25_FrameMessages.f (k : Nat) (a0 : Int) (a1 : Int) (a2 : ByteArray) (a3 : Int) : Option (Bool) := (foghornlaw25_works.f).bind fun t297 => (if t297 = true then (if 0 ≤ (mn (a2.size : Int) 5000) then (if (mn (a2.size : Int) 5000) ≤ (a2.size : Int) then ((frame_Pieces.f k ((1 + (Int.tmod a0 15)) % 256) a1 (a2.extract 0 ((mn (a2.size : Int) 5000) : Int).toNat) (wrap64 (1 + (wrap64 (Int.tmod (IntKind.u64.wrap (a3)) 240))))).bind fun bt298 => ((frame_Join.f bt298.1).bind fun bt302 => (if bt298.2 = 0 then (if bt302.2 = 0 then (if bt302.1.toList = (a2.extract 0 ((mn (a2.size : Int) 5000) : Int).toNat).toList then (if (wrap64 (1 + (wrap64 (Int.tmod (IntKind.u64.wrap (a3)) 240)))) = 0 then (none) else (foghornlaw25_FrameMessages.j0 k ((1 + (Int.tmod a0 15)) % 256) a1 (wrap64 (1 + (wrap64 (Int.tmod (IntKind.u64.wrap (a3)) 240)))) bt298.1 ((bt298.1.length : Int) != (mx 1 (wrap64 (Int.tdiv (wrap64 ((wrap64 (((a2.extract 0 ((mn (a2.size : Int) 5000) : Int).toNat).size : Int) + (wrap64 (1 + (wrap64 (Int.tmod (IntKind.u64.wrap (a3)) 240)))))) - 1)) (wrap64 (1 + (wrap64 (Int.tmod (IntKind.u64.wrap (a3)) 240)))))))))) else (foghornlaw25_FrameMessages.j0 k ((1 + (Int.tmod a0 15)) % 256) a1 (wrap64 (1 + (wrap64 (Int.tmod (IntKind.u64.wrap (a3)) 240)))) bt298.1 true)) else (foghornlaw25_FrameMessages.j0 k ((1 + (Int.tmod a0 15)) % 256) a1 (wrap64 (1 + (wrap64 (Int.tmod (IntKind.u64.wrap (a3)) 240)))) bt298.1 true)) else (foghornlaw25_FrameMessages.j0 k ((1 + (Int.tmod a0 15)) % 256) a1 (wrap64 (1 + (wrap64 (Int.tmod (IntKind.u64.wrap (a3)) 240)))) bt298.1 true)))) else (none)) else (none)) else (some false))
theorem foghornlaw25_FrameMessages.mono_l : ∀ k, (∀ y0 y1 y2 y3 y4, LeO (foghornlaw25_FrameMessages.j0 k y0 y1 y2 y3 y4) (foghornlaw25_FrameMessages.j0 (k + 1) y0 y1 y2 y3 y4)) ∧ (∀ y0 y1 y2 y3 y4, LeO (foghornlaw25_FrameMessages.l0 k y0 y1 y2 y3 y4) (foghornlaw25_FrameMessages.l0 (k + 1) y0 y1 y2 y3 y4))
  | 0 => ⟨fun _ _ _ _ _ r h => by simp [foghornlaw25_FrameMessages.j0] at h, fun _ _ _ _ _ r h => by simp [foghornlaw25_FrameMessages.l0] at h⟩
  | k + 1 => by
    obtain ⟨ih0, ih1⟩ := foghornlaw25_FrameMessages.mono_l k
    refine ⟨?_, ?_⟩
    · intro y0 y1 y2 y3 y4
      unfold foghornlaw25_FrameMessages.j0
      repeat' first
      | (with_reducible exact ih0 _ _ _ _ _)
      | (with_reducible exact ih1 _ _ _ _ _)
      | (with_reducible exact frame_Pieces.mono _ _ _ _ _)
      | (with_reducible exact LeO.refl _)
      | (with_reducible exact LeO.none _)
      | (with_reducible refine LeO.ite ?_ ?_)
      | (with_reducible refine LeO.bind ?_ (fun _ => ?_))
      | exact ih0 _ _ _ _ _
      | exact ih1 _ _ _ _ _
      | exact frame_Pieces.mono _ _ _ _ _
      | exact LeO.none _
      | refine LeO.ite ?_ ?_
      | refine LeO.bind ?_ (fun _ => ?_)
    · intro y0 y1 y2 y3 y4
      unfold foghornlaw25_FrameMessages.l0
      repeat' first
      | (with_reducible exact ih0 _ _ _ _ _)
      | (with_reducible exact ih1 _ _ _ _ _)
      | (with_reducible exact frame_Pieces.mono _ _ _ _ _)
      | (with_reducible exact LeO.refl _)
      | (with_reducible exact LeO.none _)
      | (with_reducible refine LeO.ite ?_ ?_)
      | (with_reducible refine LeO.bind ?_ (fun _ => ?_))
      | exact ih0 _ _ _ _ _
      | exact ih1 _ _ _ _ _
      | exact frame_Pieces.mono _ _ _ _ _
      | exact LeO.none _
      | refine LeO.ite ?_ ?_
      | refine LeO.bind ?_ (fun _ => ?_)
theorem foghornlaw25_FrameMessages.mono : ∀ a0 a1 a2 a3 k, LeO (foghornlaw25_FrameMessages.f k a0 a1 a2 a3) (foghornlaw25_FrameMessages.f (k + 1) a0 a1 a2 a3) := by
  intro a0 a1 a2 a3 k
  obtain ⟨ih0, ih1⟩ := foghornlaw25_FrameMessages.mono_l k
  unfold foghornlaw25_FrameMessages.f
  repeat' first
      | (with_reducible exact ih0 _ _ _ _ _)
      | (with_reducible exact ih1 _ _ _ _ _)
      | (with_reducible exact frame_Pieces.mono _ _ _ _ _)
      | (with_reducible exact LeO.refl _)
      | (with_reducible exact LeO.none _)
      | (with_reducible refine LeO.ite ?_ ?_)
      | (with_reducible refine LeO.bind ?_ (fun _ => ?_))
      | exact ih0 _ _ _ _ _
      | exact ih1 _ _ _ _ _
      | exact frame_Pieces.mono _ _ _ _ _
      | exact LeO.none _
      | refine LeO.ite ?_ ?_
      | refine LeO.bind ?_ (fun _ => ?_)
set_option maxHeartbeats 8000000 in
set_option maxRecDepth 100000 in
theorem foghornlaw25_FrameMessages.calls (k : Nat) (a0 : Int) (a1 : Int) (a2 : ByteArray) (a3 : Int) (r : Bool) (w : World) (h : foghornlaw25_FrameMessages.f k a0 a1 a2 a3 = some r) (ho_ : r = true := by rfl) :
    Calls Try.prog 8 #[.int .u8 a0, .int .u8 a1, .string a2, .int .i64 a3] w fun e w' => e = .returned (.bool r) ∧ Below w.heap.size w w' := by
  subst ho_
  have hu30 := Try.underlying30
  have HB := Aside0.mk (Below.refl w.heap.size w)
  have H : ((foghornlaw25_works.f).bind fun t297 => (if t297 = true then (if 0 ≤ (mn (a2.size : Int) 5000) then (if (mn (a2.size : Int) 5000) ≤ (a2.size : Int) then ((frame_Pieces.f k ((1 + (Int.tmod a0 15)) % 256) a1 (a2.extract 0 ((mn (a2.size : Int) 5000) : Int).toNat) (wrap64 (1 + (wrap64 (Int.tmod (IntKind.u64.wrap (a3)) 240))))).bind fun bt298 => ((frame_Join.f bt298.1).bind fun bt302 => (if bt298.2 = 0 then (if bt302.2 = 0 then (if bt302.1.toList = (a2.extract 0 ((mn (a2.size : Int) 5000) : Int).toNat).toList then (if (wrap64 (1 + (wrap64 (Int.tmod (IntKind.u64.wrap (a3)) 240)))) = 0 then (none) else (foghornlaw25_FrameMessages.j0 k ((1 + (Int.tmod a0 15)) % 256) a1 (wrap64 (1 + (wrap64 (Int.tmod (IntKind.u64.wrap (a3)) 240)))) bt298.1 ((bt298.1.length : Int) != (mx 1 (wrap64 (Int.tdiv (wrap64 ((wrap64 (((a2.extract 0 ((mn (a2.size : Int) 5000) : Int).toNat).size : Int) + (wrap64 (1 + (wrap64 (Int.tmod (IntKind.u64.wrap (a3)) 240)))))) - 1)) (wrap64 (1 + (wrap64 (Int.tmod (IntKind.u64.wrap (a3)) 240)))))))))) else (foghornlaw25_FrameMessages.j0 k ((1 + (Int.tmod a0 15)) % 256) a1 (wrap64 (1 + (wrap64 (Int.tmod (IntKind.u64.wrap (a3)) 240)))) bt298.1 true)) else (foghornlaw25_FrameMessages.j0 k ((1 + (Int.tmod a0 15)) % 256) a1 (wrap64 (1 + (wrap64 (Int.tmod (IntKind.u64.wrap (a3)) 240)))) bt298.1 true)) else (foghornlaw25_FrameMessages.j0 k ((1 + (Int.tmod a0 15)) % 256) a1 (wrap64 (1 + (wrap64 (Int.tmod (IntKind.u64.wrap (a3)) 240)))) bt298.1 true)))) else (none)) else (none)) else (some false))) = some true := h
  clear h
  replace H := Option.bind_eq_some_iff.mp H
  obtain ⟨t297, A50, H⟩ := H
  replace H : (if t297 = true then (if 0 ≤ (mn (a2.size : Int) 5000) then (if (mn (a2.size : Int) 5000) ≤ (a2.size : Int) then ((frame_Pieces.f k ((1 + (Int.tmod a0 15)) % 256) a1 (a2.extract 0 ((mn (a2.size : Int) 5000) : Int).toNat) (wrap64 (1 + (wrap64 (Int.tmod (IntKind.u64.wrap (a3)) 240))))).bind fun bt298 => ((frame_Join.f bt298.1).bind fun bt302 => (if bt298.2 = 0 then (if bt302.2 = 0 then (if bt302.1.toList = (a2.extract 0 ((mn (a2.size : Int) 5000) : Int).toNat).toList then (if (wrap64 (1 + (wrap64 (Int.tmod (IntKind.u64.wrap (a3)) 240)))) = 0 then (none) else (foghornlaw25_FrameMessages.j0 k ((1 + (Int.tmod a0 15)) % 256) a1 (wrap64 (1 + (wrap64 (Int.tmod (IntKind.u64.wrap (a3)) 240)))) bt298.1 ((bt298.1.length : Int) != (mx 1 (wrap64 (Int.tdiv (wrap64 ((wrap64 (((a2.extract 0 ((mn (a2.size : Int) 5000) : Int).toNat).size : Int) + (wrap64 (1 + (wrap64 (Int.tmod (IntKind.u64.wrap (a3)) 240)))))) - 1)) (wrap64 (1 + (wrap64 (Int.tmod (IntKind.u64.wrap (a3)) 240)))))))))) else (foghornlaw25_FrameMessages.j0 k ((1 + (Int.tmod a0 15)) % 256) a1 (wrap64 (1 + (wrap64 (Int.tmod (IntKind.u64.wrap (a3)) 240)))) bt298.1 true)) else (foghornlaw25_FrameMessages.j0 k ((1 + (Int.tmod a0 15)) % 256) a1 (wrap64 (1 + (wrap64 (Int.tmod (IntKind.u64.wrap (a3)) 240)))) bt298.1 true)) else (foghornlaw25_FrameMessages.j0 k ((1 + (Int.tmod a0 15)) % 256) a1 (wrap64 (1 + (wrap64 (Int.tmod (IntKind.u64.wrap (a3)) 240)))) bt298.1 true)))) else (none)) else (none)) else (some false)) = some true := H
  have A5 := Aside0.mk A50
  clear A50
  by_cases c6 : t297 = true
  · subst c6
    have H1 : (if 0 ≤ (mn (a2.size : Int) 5000) then (if (mn (a2.size : Int) 5000) ≤ (a2.size : Int) then ((frame_Pieces.f k ((1 + (Int.tmod a0 15)) % 256) a1 (a2.extract 0 ((mn (a2.size : Int) 5000) : Int).toNat) (wrap64 (1 + (wrap64 (Int.tmod (IntKind.u64.wrap (a3)) 240))))).bind fun bt298 => ((frame_Join.f bt298.1).bind fun bt302 => (if bt298.2 = 0 then (if bt302.2 = 0 then (if bt302.1.toList = (a2.extract 0 ((mn (a2.size : Int) 5000) : Int).toNat).toList then (if (wrap64 (1 + (wrap64 (Int.tmod (IntKind.u64.wrap (a3)) 240)))) = 0 then (none) else (foghornlaw25_FrameMessages.j0 k ((1 + (Int.tmod a0 15)) % 256) a1 (wrap64 (1 + (wrap64 (Int.tmod (IntKind.u64.wrap (a3)) 240)))) bt298.1 ((bt298.1.length : Int) != (mx 1 (wrap64 (Int.tdiv (wrap64 ((wrap64 (((a2.extract 0 ((mn (a2.size : Int) 5000) : Int).toNat).size : Int) + (wrap64 (1 + (wrap64 (Int.tmod (IntKind.u64.wrap (a3)) 240)))))) - 1)) (wrap64 (1 + (wrap64 (Int.tmod (IntKind.u64.wrap (a3)) 240)))))))))) else (foghornlaw25_FrameMessages.j0 k ((1 + (Int.tmod a0 15)) % 256) a1 (wrap64 (1 + (wrap64 (Int.tmod (IntKind.u64.wrap (a3)) 240)))) bt298.1 true)) else (foghornlaw25_FrameMessages.j0 k ((1 + (Int.tmod a0 15)) % 256) a1 (wrap64 (1 + (wrap64 (Int.tmod (IntKind.u64.wrap (a3)) 240)))) bt298.1 true)) else (foghornlaw25_FrameMessages.j0 k ((1 + (Int.tmod a0 15)) % 256) a1 (wrap64 (1 + (wrap64 (Int.tmod (IntKind.u64.wrap (a3)) 240)))) bt298.1 true)))) else (none)) else (none)) = some true := by rw [if_pos rfl] at H; exact H
    clear H
    have H := H1
    clear H1
    obtain ⟨ji7, hji7⟩ : ∃ j_ : Int, (mn (a2.size : Int) 5000) = j_ := ⟨_, rfl⟩
    replace H : (if 0 ≤ (ji7) then (if (ji7) ≤ (a2.size : Int) then ((frame_Pieces.f k ((1 + (Int.tmod a0 15)) % 256) a1 (a2.extract 0 ((ji7) : Int).toNat) (wrap64 (1 + (wrap64 (Int.tmod (IntKind.u64.wrap (a3)) 240))))).bind fun bt298 => ((frame_Join.f bt298.1).bind fun bt302 => (if bt298.2 = 0 then (if bt302.2 = 0 then (if bt302.1.toList = (a2.extract 0 ((ji7) : Int).toNat).toList then (if (wrap64 (1 + (wrap64 (Int.tmod (IntKind.u64.wrap (a3)) 240)))) = 0 then (none) else (foghornlaw25_FrameMessages.j0 k ((1 + (Int.tmod a0 15)) % 256) a1 (wrap64 (1 + (wrap64 (Int.tmod (IntKind.u64.wrap (a3)) 240)))) bt298.1 ((bt298.1.length : Int) != (mx 1 (wrap64 (Int.tdiv (wrap64 ((wrap64 (((a2.extract 0 ((ji7) : Int).toNat).size : Int) + (wrap64 (1 + (wrap64 (Int.tmod (IntKind.u64.wrap (a3)) 240)))))) - 1)) (wrap64 (1 + (wrap64 (Int.tmod (IntKind.u64.wrap (a3)) 240)))))))))) else (foghornlaw25_FrameMessages.j0 k ((1 + (Int.tmod a0 15)) % 256) a1 (wrap64 (1 + (wrap64 (Int.tmod (IntKind.u64.wrap (a3)) 240)))) bt298.1 true)) else (foghornlaw25_FrameMessages.j0 k ((1 + (Int.tmod a0 15)) % 256) a1 (wrap64 (1 + (wrap64 (Int.tmod (IntKind.u64.wrap (a3)) 240)))) bt298.1 true)) else (foghornlaw25_FrameMessages.j0 k ((1 + (Int.tmod a0 15)) % 256) a1 (wrap64 (1 + (wrap64 (Int.tmod (IntKind.u64.wrap (a3)) 240)))) bt298.1 true)))) else (none)) else (none)) = some true := by first | (rw [hji7] at H; exact H) | (simp only [hji7] at H ⊢; exact H)
    (try rw [hji7] at A5)
    (try (have hji7h : ji7 ≤ 5000 := by (rw [← hji7]; unfold mn; (repeat' split) <;> omega)))
    (try (have hji7g : ji7 ≤ 64 := by omega))
    (try (have hji7l : 0 ≤ ji7 := by (rw [← hji7]; unfold mn; (repeat' split) <;> omega)))
    (try (have hji7m : 0 ≤ ji7 := by omega))
    have hji7_ : (if 5000 < (a2.size : Int) then 5000 else (a2.size : Int)) = ji7 := hji7
    by_cases c8 : 0 ≤ (ji7)
    · rw [if_pos c8] at H
      have c8b0 := eq_true c8
      have c8b1 : decide (0 ≤ (ji7)) = true := decide_eq_true c8
      clear c8
      by_cases c9 : (ji7) ≤ (a2.size : Int)
      · rw [if_pos c9] at H
        have c9b0 := eq_true c9
        have c9b1 : decide ((ji7) ≤ (a2.size : Int)) = true := decide_eq_true c9
        clear c9
        replace H := Option.bind_eq_some_iff.mp H
        obtain ⟨⟨t298, t299⟩, A100, H⟩ := H
        replace H : ((frame_Join.f t298).bind fun bt302 => (if t299 = 0 then (if bt302.2 = 0 then (if bt302.1.toList = (a2.extract 0 ((ji7) : Int).toNat).toList then (if (wrap64 (1 + (wrap64 (Int.tmod (IntKind.u64.wrap (a3)) 240)))) = 0 then (none) else (foghornlaw25_FrameMessages.j0 k ((1 + (Int.tmod a0 15)) % 256) a1 (wrap64 (1 + (wrap64 (Int.tmod (IntKind.u64.wrap (a3)) 240)))) t298 ((t298.length : Int) != (mx 1 (wrap64 (Int.tdiv (wrap64 ((wrap64 (((a2.extract 0 ((ji7) : Int).toNat).size : Int) + (wrap64 (1 + (wrap64 (Int.tmod (IntKind.u64.wrap (a3)) 240)))))) - 1)) (wrap64 (1 + (wrap64 (Int.tmod (IntKind.u64.wrap (a3)) 240)))))))))) else (foghornlaw25_FrameMessages.j0 k ((1 + (Int.tmod a0 15)) % 256) a1 (wrap64 (1 + (wrap64 (Int.tmod (IntKind.u64.wrap (a3)) 240)))) t298 true)) else (foghornlaw25_FrameMessages.j0 k ((1 + (Int.tmod a0 15)) % 256) a1 (wrap64 (1 + (wrap64 (Int.tmod (IntKind.u64.wrap (a3)) 240)))) t298 true)) else (foghornlaw25_FrameMessages.j0 k ((1 + (Int.tmod a0 15)) % 256) a1 (wrap64 (1 + (wrap64 (Int.tmod (IntKind.u64.wrap (a3)) 240)))) t298 true))) = some true := H
        have A10 := Aside0.mk A100
        clear A100
        replace H := Option.bind_eq_some_iff.mp H
        obtain ⟨⟨t302, t303⟩, A110, H⟩ := H
        replace H : (if t299 = 0 then (if t303 = 0 then (if t302.toList = (a2.extract 0 ((ji7) : Int).toNat).toList then (if (wrap64 (1 + (wrap64 (Int.tmod (IntKind.u64.wrap (a3)) 240)))) = 0 then (none) else (foghornlaw25_FrameMessages.j0 k ((1 + (Int.tmod a0 15)) % 256) a1 (wrap64 (1 + (wrap64 (Int.tmod (IntKind.u64.wrap (a3)) 240)))) t298 ((t298.length : Int) != (mx 1 (wrap64 (Int.tdiv (wrap64 ((wrap64 (((a2.extract 0 ((ji7) : Int).toNat).size : Int) + (wrap64 (1 + (wrap64 (Int.tmod (IntKind.u64.wrap (a3)) 240)))))) - 1)) (wrap64 (1 + (wrap64 (Int.tmod (IntKind.u64.wrap (a3)) 240)))))))))) else (foghornlaw25_FrameMessages.j0 k ((1 + (Int.tmod a0 15)) % 256) a1 (wrap64 (1 + (wrap64 (Int.tmod (IntKind.u64.wrap (a3)) 240)))) t298 true)) else (foghornlaw25_FrameMessages.j0 k ((1 + (Int.tmod a0 15)) % 256) a1 (wrap64 (1 + (wrap64 (Int.tmod (IntKind.u64.wrap (a3)) 240)))) t298 true)) else (foghornlaw25_FrameMessages.j0 k ((1 + (Int.tmod a0 15)) % 256) a1 (wrap64 (1 + (wrap64 (Int.tmod (IntKind.u64.wrap (a3)) 240)))) t298 true)) = some true := H
        have A11 := Aside0.mk A110
        clear A110
        have HC12 := Aside0.mk H
        clear H
        go_enter Try.func8, Try.ntmps8
        go_upto_region 8 with (first | ((with_reducible refine gate_callee (f := 22) rfl ?_); refine goesL_ (some 16) rfl rfl Try.func22 (by kernel_rfl) rfl #[] rfl (by (try simp only [List.map_toArray, List.map_cons, List.map_nil]); first | done | rfl | (simp only [List.length_drop, List.length_take]; rfl)) ?_; (with_reducible refine (foghornlaw25_works.calls  true _ (by first | exact A5.out | (have z9_ := A5.out; rw [← Nbq30.out] at z9_; exact z9_))).mono ?_); rintro e w13 ⟨rfl, hb⟩; refine ⟨_, rfl, ?_⟩; have n0_ := Aside0.mk (below_step (by repeat (first | (with_reducible first | exact HB.out | apply below_alloc | apply pw_below_drewN | apply below_drew1) | exact HB.out)) hb); clear HB; have HB := n0_; clear n0_; (try clear hb); (try clear hb2); (try clear hk); (try clear hi)) | ((with_reducible refine gate_callee (f := 10) rfl ?_); refine goesL_ (some 36) rfl rfl Try.func10 (by kernel_rfl) rfl #[.int .u8 ((1 + (Int.tmod a0 15)) % 256), .int .u8 a1, .string (a2.extract 0 ((ji7) : Int).toNat), .int .i64 (wrap64 (1 + (wrap64 (Int.tmod (IntKind.u64.wrap (a3)) 240))))] rfl (by (try simp only [List.map_toArray, List.map_cons, List.map_nil]); first | done | (simp only [hji7]; rfl) | rfl | (simp only [List.length_drop, List.length_take]; rfl)) ?_; (with_reducible refine (frame_Pieces.calls k ((1 + (Int.tmod a0 15)) % 256) a1 (a2.extract 0 ((ji7) : Int).toNat) (wrap64 (1 + (wrap64 (Int.tmod (IntKind.u64.wrap (a3)) 240)))) t298 t299 _ (by first | exact A10.out | (have z9_ := A10.out; rw [← Nbq30.out] at z9_; exact z9_))).mono ?_); rintro e w14 ⟨v300, rfl, ho0, hb⟩; refine ⟨_, rfl, ?_⟩; have n0_ := Aside0.mk (Kd.R_lower ho0 (below_size (by repeat (first | (with_reducible first | exact HB.out | apply below_alloc | apply pw_below_drewN | apply below_drew1) | exact HB.out)))); have n1_ := Aside0.mk (below_step (by repeat (first | (with_reducible first | exact HB.out | apply below_alloc | apply pw_below_drewN | apply below_drew1) | exact HB.out)) hb); clear HB; have HO301 := n0_; have HB := n1_; clear n0_ n1_; (try clear hb); (try clear hb2); (try clear hk); (try clear hi); (try clear ho0); obtain ⟨Ao15, co15, eo15⟩ := Kd.R_slice HO301.out; subst eo15) | ((with_reducible refine gate_callee (f := 13) rfl ?_); refine goesL_ (some 41) rfl rfl Try.func13 (by kernel_rfl) rfl #[.slice Ao15 t298.length co15] rfl (by (try simp only [List.map_toArray, List.map_cons, List.map_nil]); first | done | rfl | (simp only [List.length_drop, List.length_take]; rfl)) ?_; (with_reducible refine (frame_Join.calls _ _ t298 t302 t303 _ ?side1 ?side2 (by first | exact A11.out | (have z9_ := A11.out; rw [← Nbq30.out] at z9_; exact z9_))).mono ?_); (case side1 => repeat (first | exact (Kd.R_reads' HO301.out).2.2 | (with_reducible refine Kd.C_alloc ?_ _) | (with_reducible refine Kd.C_drewN ?_ _) | (with_reducible refine Kd.C_drew ?_))); (case side2 => exact (Kd.R_reads' HO301.out).2.1); rintro e w16 ⟨rfl, hb⟩; refine ⟨_, rfl, ?_⟩; have n0_ := Aside0.mk (Kd.R_below (by (with_reducible repeat (first | apply Kd.R_alloc | apply Kd.R_drewN | apply Kd.R_drew)); exact HO301.out) hb); have n1_ := Aside0.mk (below_step (by repeat (first | (with_reducible first | exact HB.out | apply below_alloc | apply pw_below_drewN | apply below_drew1) | exact HB.out)) hb); clear HO301; clear HB; have HO301 := n0_; have HB := n1_; clear n0_ n1_; (try clear hb); (try clear hb2); (try clear hk); (try clear hi)))
        (try simp only [Act.put, List.setIfInBounds_toArray, List.set_cons_zero, List.set_cons_succ])
        go_cut [67] (fun v67 wc => ∃ (kq : Nat) (x67_11 : Bool), v67 = .bool x67_11 ∧ Aside0 (foghornlaw25_FrameMessages.j0 kq ((1 + (Int.tmod a0 15)) % 256) a1 (wrap64 (1 + (wrap64 (Int.tmod (IntKind.u64.wrap (a3)) 240)))) t298 x67_11 = some true) ∧ Aside0 (kq ≤ k) ∧ Aside0 (Kd.R k30 30 wc w.heap.size (fun _ => True) (.slice Ao15 t298.length co15) t298) ∧ Aside0 (Below w.heap.size w wc))
        case first =>
          have H := HC12.out
          clear HC12
          by_cases c17 : t299 = 0
          · rw [if_pos c17] at H
            have c17b0 : (t299 == 0) = true := beq_iff_eq.mpr c17
            have c17b1 : (t299 != 0) = false := bne_eq_false_iff_eq.mpr c17
            clear c17
            (first | rw [c17b0] | (simp only [i64_w, i32_w]; rw [c17b0]) | skip)
            by_cases c18 : t303 = 0
            · rw [if_pos c18] at H
              have c18b0 : (t303 == 0) = true := beq_iff_eq.mpr c18
              have c18b1 : (t303 != 0) = false := bne_eq_false_iff_eq.mpr c18
              clear c18
              by_cases c19 : t302.toList = (a2.extract 0 ((ji7) : Int).toNat).toList
              · rw [if_pos c19] at H
                have c19b0 : (t302.toList == (a2.extract 0 ((ji7) : Int).toNat).toList) = true := beq_iff_eq.mpr c19
                have c19b1 : (t302.toList != (a2.extract 0 ((ji7) : Int).toNat).toList) = false := bne_eq_false_iff_eq.mpr c19
                clear c19
                by_cases c20 : (wrap64 (1 + (wrap64 (Int.tmod (IntKind.u64.wrap (a3)) 240)))) = 0
                · rw [if_pos c20] at H
                  exact absurd H (by simp)
                · rw [if_neg c20] at H
                  have c20b0 : ((wrap64 (1 + (wrap64 (Int.tmod (IntKind.u64.wrap (a3)) 240)))) == 0) = false := beq_eq_false_iff_ne.mpr c20
                  have c20b1 : ((wrap64 (1 + (wrap64 (Int.tmod (IntKind.u64.wrap (a3)) 240)))) != 0) = true := bne_iff_ne.mpr c20
                  obtain ⟨ji21, hji21⟩ : ∃ j_ : Int, (mx 1 (wrap64 (Int.tdiv (wrap64 ((wrap64 (((a2.extract 0 ((ji7) : Int).toNat).size : Int) + (wrap64 (1 + (wrap64 (Int.tmod (IntKind.u64.wrap (a3)) 240)))))) - 1)) (wrap64 (1 + (wrap64 (Int.tmod (IntKind.u64.wrap (a3)) 240))))))) = j_ := ⟨_, rfl⟩
                  replace H : (foghornlaw25_FrameMessages.j0 k ((1 + (Int.tmod a0 15)) % 256) a1 (wrap64 (1 + (wrap64 (Int.tmod (IntKind.u64.wrap (a3)) 240)))) t298 ((t298.length : Int) != (ji21))) = some true := by first | (rw [hji21] at H; exact H) | (simp only [hji21] at H ⊢; exact H)
                  have hji21_ : (if 1 < (wrap64 (Int.tdiv (wrap64 ((wrap64 (((a2.extract 0 ((ji7) : Int).toNat).size : Int) + (wrap64 (1 + (wrap64 (Int.tmod (IntKind.u64.wrap (a3)) 240)))))) - 1)) (wrap64 (1 + (wrap64 (Int.tmod (IntKind.u64.wrap (a3)) 240)))))) then (wrap64 (Int.tdiv (wrap64 ((wrap64 (((a2.extract 0 ((ji7) : Int).toNat).size : Int) + (wrap64 (1 + (wrap64 (Int.tmod (IntKind.u64.wrap (a3)) 240)))))) - 1)) (wrap64 (1 + (wrap64 (Int.tmod (IntKind.u64.wrap (a3)) 240)))))) else 1) = ji21 := hji21
                  have hq21_ := hji21_
                  (try simp [*, -hji21_, -hji21] at hq21_)
                  have H' := Aside0.mk H
                  clear H
                  go_wp2
                  go_meet
                  case rel => exact ⟨_, (((t298.length : Int) != (ji21))), (by first | rfl | (simp; done) | (simp only [← hji21] <;> (first | rfl | simp)) | (simp [*]; done) | (simp; omega) | (congr 1; omega) | (rw [hR_]; done) | (simp only [hR_]; done) | (simp [hR_]; done)), H', ⟨by first | omega | exact Nat.le_refl _⟩, ⟨by (with_reducible repeat (first | apply Kd.R_alloc | apply Kd.R_drewN | apply Kd.R_drew)); exact HO301.out⟩, ⟨by repeat (first | (with_reducible first | exact HB.out | apply below_alloc | apply pw_below_drewN | apply below_drew1) | exact HB.out)⟩⟩
              · rw [if_neg c19] at H
                have c19b0 : (t302.toList == (a2.extract 0 ((ji7) : Int).toNat).toList) = false := beq_eq_false_iff_ne.mpr c19
                have c19b1 : (t302.toList != (a2.extract 0 ((ji7) : Int).toNat).toList) = true := bne_iff_ne.mpr c19
                have H' := Aside0.mk H
                clear H
                go_wp2
                go_meet
                case rel => exact ⟨_, (true), (by first | rfl | (simp; done) | (simp [*]; done) | (simp; omega) | (congr 1; omega) | (rw [hR_]; done) | (simp only [hR_]; done) | (simp [hR_]; done)), H', ⟨by first | omega | exact Nat.le_refl _⟩, ⟨by (with_reducible repeat (first | apply Kd.R_alloc | apply Kd.R_drewN | apply Kd.R_drew)); exact HO301.out⟩, ⟨by repeat (first | (with_reducible first | exact HB.out | apply below_alloc | apply pw_below_drewN | apply below_drew1) | exact HB.out)⟩⟩
            · rw [if_neg c18] at H
              have c18b0 : (t303 == 0) = false := beq_eq_false_iff_ne.mpr c18
              have c18b1 : (t303 != 0) = true := bne_iff_ne.mpr c18
              have H' := Aside0.mk H
              clear H
              go_wp2
              go_meet
              case rel => exact ⟨_, (true), (by first | rfl | (simp; done) | (simp [*]; done) | (simp; omega) | (congr 1; omega) | (rw [hR_]; done) | (simp only [hR_]; done) | (simp [hR_]; done)), H', ⟨by first | omega | exact Nat.le_refl _⟩, ⟨by (with_reducible repeat (first | apply Kd.R_alloc | apply Kd.R_drewN | apply Kd.R_drew)); exact HO301.out⟩, ⟨by repeat (first | (with_reducible first | exact HB.out | apply below_alloc | apply pw_below_drewN | apply below_drew1) | exact HB.out)⟩⟩
          · rw [if_neg c17] at H
            have c17b0 : (t299 == 0) = false := beq_eq_false_iff_ne.mpr c17
            have c17b1 : (t299 != 0) = true := bne_iff_ne.mpr c17
            (first | rw [c17b0] | (simp only [i64_w, i32_w]; rw [c17b0]) | skip)
            have H' := Aside0.mk H
            clear H
            go_wp2
            go_meet
            case rel => exact ⟨_, (true), (by first | rfl | (simp; done) | (simp [*]; done) | (simp; omega) | (congr 1; omega) | (rw [hR_]; done) | (simp only [hR_]; done) | (simp [hR_]; done)), H', ⟨by first | omega | exact Nat.le_refl _⟩, ⟨by (with_reducible repeat (first | apply Kd.R_alloc | apply Kd.R_drewN | apply Kd.R_drew)); exact HO301.out⟩, ⟨by repeat (first | (with_reducible first | exact HB.out | apply below_alloc | apply pw_below_drewN | apply below_drew1) | exact HB.out)⟩⟩
        case rest =>
          clear HC12
          try clear c1
          try clear c2
          try clear p2
          try clear c6
          try clear p6
          try clear c8
          try clear c8b0
          try clear c8b1
          try clear c9
          try clear c9b0
          try clear c9b1
          try clear c10
          try clear c13
          try clear c17
          try clear c17b0
          try clear c17b1
          try clear c18
          try clear c18b0
          try clear c18b1
          try clear c19
          try clear c19b0
          try clear c19b1
          try clear c20
          try clear c20b0
          try clear c20b1
          obtain ⟨kq, x67_11, rfl, HA, HJ11, HO_9, HB⟩ := hcut
          cases kq with
          | zero => exact absurd HA.out (by simp [foghornlaw25_FrameMessages.j0])
          | succ kj11 =>
            have H := HA.out
            clear HA
            simp only [foghornlaw25_FrameMessages.j0] at H
            by_cases c22 : x67_11 = true
            · subst c22
              have H1 : (some false) = some true := by rw [if_pos rfl] at H; exact H
              clear H
              have H := H1
              clear H1
              exact absurd H (by simp)
            · replace c22 := Bool.eq_false_iff.mpr c22
              subst c22
              have H1 : (foghornlaw25_FrameMessages.l0 kj11 ((1 + (Int.tmod a0 15)) % 256) a1 (wrap64 (1 + (wrap64 (Int.tmod (IntKind.u64.wrap (a3)) 240)))) t298 0) = some true := by rw [if_neg (show ¬ (false = true) by decide)] at H; exact H
              clear H
              have H := H1
              clear H1
              have H' := Aside0.mk H
              clear H
              go_wp2
              go_loopg [13] kj11 (fun kq v13 w' => ∃ (x13_2 : Int), v13 = .int .i64 x13_2 ∧ Aside0 (foghornlaw25_FrameMessages.l0 kq ((1 + (Int.tmod a0 15)) % 256) a1 (wrap64 (1 + (wrap64 (Int.tmod (IntKind.u64.wrap (a3)) 240)))) t298 x13_2 = some true) ∧ Aside0 (kq ≤ kj11) ∧ Aside0 (Kd.R k30 30 w' w.heap.size (fun _ => True) (.slice Ao15 t298.length co15) t298) ∧ Aside0 (Below w.heap.size w w'))
              case atStart => exact ⟨(0), (by first | rfl | (simp; done) | (simp [*]; done) | (simp; omega) | (congr 1; omega) | (rw [hR_]; done) | (simp only [hR_]; done) | (simp [hR_]; done)), H', ⟨Nat.le_refl _⟩, ⟨by (with_reducible repeat (first | apply Kd.R_alloc | apply Kd.R_drewN | apply Kd.R_drew)); exact HO_9.out⟩, ⟨by repeat (first | (with_reducible first | exact HB.out | apply below_alloc | apply pw_below_drewN | apply below_drew1) | exact HB.out)⟩⟩
              case round =>
                clear H'
                try clear c1
                try clear c2
                try clear p2
                try clear c6
                try clear p6
                try clear c8
                try clear c8b0
                try clear c8b1
                try clear c9
                try clear c9b0
                try clear c9b1
                try clear c10
                try clear c13
                try clear c17
                try clear c17b0
                try clear c17b1
                try clear c18
                try clear c18b0
                try clear c18b1
                try clear c19
                try clear c19b0
                try clear c19b1
                try clear c20
                try clear c20b0
                try clear c20b1
                try clear c22
                try clear p2
                try clear p6
                obtain ⟨x13_2, rfl, HA, HK2, HO_9, HB⟩ := hrel
                cases gk with
                | zero => exact absurd HA.out (by simp [foghornlaw25_FrameMessages.l0])
                | succ k2 =>
                  have H := HA.out
                  clear HA
                  simp only [foghornlaw25_FrameMessages.l0] at H
                  by_cases c23 : x13_2 < (t298.length : Int)
                  · rw [if_pos c23] at H
                    have c23b0 : decide (x13_2 < (t298.length : Int)) = true := decide_eq_true c23
                    clear c23
                    by_cases c24 : 0 ≤ x13_2
                    · rw [if_pos c24] at H
                      have c24b0 : decide (0 ≤ x13_2) = true := decide_eq_true c24
                      clear c24
                      replace H := Option.bind_eq_some_iff.mp H
                      obtain ⟨⟨t305, t306⟩, A250, H⟩ := H
                      replace H : (if t306 = 0 then (if ((rd_T30 t298 x13_2).f0) = ((1 + (Int.tmod a0 15)) % 256) then (if ((rd_T30 t298 x13_2).f1) = ((a1 + (x13_2)) % 256) then (if (((rd_T30 t298 x13_2).f2) != (decide (x13_2 < (wrap64 ((t298.length : Int) - 1))))) = true then (some false) else (if (rd_T30 t298 x13_2).f2 = true then (if (((rd_T30 t298 x13_2).f3).size : Int) = (wrap64 (1 + (wrap64 (Int.tmod (IntKind.u64.wrap (a3)) 240)))) then (foghornlaw25_FrameMessages.l0 k2 ((1 + (Int.tmod a0 15)) % 256) a1 (wrap64 (1 + (wrap64 (Int.tmod (IntKind.u64.wrap (a3)) 240)))) t298 (wrap64 (x13_2 + 1))) else (some false)) else (foghornlaw25_FrameMessages.l0 k2 ((1 + (Int.tmod a0 15)) % 256) a1 (wrap64 (1 + (wrap64 (Int.tmod (IntKind.u64.wrap (a3)) 240)))) t298 (wrap64 (x13_2 + 1))))) else (some false)) else (some false)) else (some false)) = some true := H
                      have A25 := Aside0.mk A250
                      clear A250
                      by_cases c26 : t306 = 0
                      · rw [if_pos c26] at H
                        have c26b0 : (t306 == 0) = true := beq_iff_eq.mpr c26
                        have c26b1 : (t306 != 0) = false := bne_eq_false_iff_eq.mpr c26
                        clear c26
                        by_cases c27 : ((rd_T30 t298 x13_2).f0) = ((1 + (Int.tmod a0 15)) % 256)
                        · rw [if_pos c27] at H
                          have c27b0 : (((rd_T30 t298 x13_2).f0) == ((1 + (Int.tmod a0 15)) % 256)) = true := beq_iff_eq.mpr c27
                          have c27b1 : (((rd_T30 t298 x13_2).f0) != ((1 + (Int.tmod a0 15)) % 256)) = false := bne_eq_false_iff_eq.mpr c27
                          clear c27
                          by_cases c28 : ((rd_T30 t298 x13_2).f1) = ((a1 + (x13_2)) % 256)
                          · rw [if_pos c28] at H
                            have c28b0 : (((rd_T30 t298 x13_2).f1) == ((a1 + (x13_2)) % 256)) = true := beq_iff_eq.mpr c28
                            have c28b1 : (((rd_T30 t298 x13_2).f1) != ((a1 + (x13_2)) % 256)) = false := bne_eq_false_iff_eq.mpr c28
                            clear c28
                            by_cases c29 : (((rd_T30 t298 x13_2).f2) != (decide (x13_2 < (wrap64 ((t298.length : Int) - 1))))) = true
                            · rw [if_pos c29] at H
                              have c29b0 : (((rd_T30 t298 x13_2).f2) != (decide (x13_2 < (wrap64 ((t298.length : Int) - 1))))) = true := c29
                              (try (have c29b1 : decide (((rd_T30 t298 x13_2).f2) = (decide (x13_2 < (wrap64 ((t298.length : Int) - 1))))) = false := by simpa using c29))
                              (try (have c29b2 : (((rd_T30 t298 x13_2).f2) == (decide (x13_2 < (wrap64 ((t298.length : Int) - 1))))) = false := by simpa using c29))
                              (try (have c29b3 : ¬ (((rd_T30 t298 x13_2).f2) = (decide (x13_2 < (wrap64 ((t298.length : Int) - 1))))) := by simpa using c29))
                              clear c29
                              exact absurd H (by simp)
                            · rw [if_neg c29] at H
                              have c29b0 : (((rd_T30 t298 x13_2).f2) != (decide (x13_2 < (wrap64 ((t298.length : Int) - 1))))) = false := by simpa using c29
                              (try (have c29b1 : decide (((rd_T30 t298 x13_2).f2) = (decide (x13_2 < (wrap64 ((t298.length : Int) - 1))))) = true := by simpa using c29))
                              (try (have c29b2 : (((rd_T30 t298 x13_2).f2) == (decide (x13_2 < (wrap64 ((t298.length : Int) - 1))))) = true := by simpa using c29))
                              clear c29
                              obtain ⟨bq30, hbq30⟩ : ∃ b_ : Bool, b_ = ((rd_T30 t298 x13_2).f2) := ⟨_, rfl⟩
                              replace H : (if bq30 = true then (if (((rd_T30 t298 x13_2).f3).size : Int) = (wrap64 (1 + (wrap64 (Int.tmod (IntKind.u64.wrap (a3)) 240)))) then (foghornlaw25_FrameMessages.l0 k2 ((1 + (Int.tmod a0 15)) % 256) a1 (wrap64 (1 + (wrap64 (Int.tmod (IntKind.u64.wrap (a3)) 240)))) t298 (wrap64 (x13_2 + 1))) else (some false)) else (foghornlaw25_FrameMessages.l0 k2 ((1 + (Int.tmod a0 15)) % 256) a1 (wrap64 (1 + (wrap64 (Int.tmod (IntKind.u64.wrap (a3)) 240)))) t298 (wrap64 (x13_2 + 1)))) = some true := by rw [← hbq30] at H; exact H
                              have Nbq30 := Aside0.mk hbq30
                              clear hbq30
                              by_cases c31 : bq30 = true
                              · subst c31
                                (try rw [← Nbq30.out] at c29b0)   -- z8_
                                (try rw [← Nbq30.out] at c29b1)   -- z8_
                                (try rw [← Nbq30.out] at c29b2)   -- z8_
                                (try rw [← Nbq30.out] at c29b3)   -- z8_
                                (try rw [← Nbq30.out] at c29b0)   -- z8_
                                (try rw [← Nbq30.out] at c29b1)   -- z8_
                                (try rw [← Nbq30.out] at c29b2)   -- z8_
                                have H1 : (if (((rd_T30 t298 x13_2).f3).size : Int) = (wrap64 (1 + (wrap64 (Int.tmod (IntKind.u64.wrap (a3)) 240)))) then (foghornlaw25_FrameMessages.l0 k2 ((1 + (Int.tmod a0 15)) % 256) a1 (wrap64 (1 + (wrap64 (Int.tmod (IntKind.u64.wrap (a3)) 240)))) t298 (wrap64 (x13_2 + 1))) else (some false)) = some true := by rw [if_pos rfl] at H; exact H
                                clear H
                                have H := H1
                                clear H1
                                by_cases c32 : (((rd_T30 t298 x13_2).f3).size : Int) = (wrap64 (1 + (wrap64 (Int.tmod (IntKind.u64.wrap (a3)) 240))))
                                · rw [if_pos c32] at H
                                  have c32b0 : ((((rd_T30 t298 x13_2).f3).size : Int) == (wrap64 (1 + (wrap64 (Int.tmod (IntKind.u64.wrap (a3)) 240))))) = true := beq_iff_eq.mpr c32
                                  have c32b1 : ((((rd_T30 t298 x13_2).f3).size : Int) != (wrap64 (1 + (wrap64 (Int.tmod (IntKind.u64.wrap (a3)) 240))))) = false := bne_eq_false_iff_eq.mpr c32
                                  clear c32
                                  have H' := Aside0.mk H
                                  clear H
                                  have p304 : 0 ≤ (x13_2 : Int) := of_decide_eq_true (by first | (with_reducible assumption) | assumption)
                                  have q304 : x13_2 < (t298.length : Int) := of_decide_eq_true (by first | (with_reducible assumption) | assumption)
                                  obtain ⟨ad304, e304, hx304_0, hx304_1, hx304_2, hx304_3⟩ := at_T30 (Kd.R_reads' HO_9.out).2.2 x13_2 p304 q304
                                  (try rw [← Nbq30.out] at hx304_2)
                                  cases e304
                                  replace p304 := eq_true p304
                                  replace q304 := eq_true q304
                                  go_wp2_with (first | ((with_reducible refine gate_callee (f := 15) rfl ?_); refine goesL_ (some 79) rfl rfl Try.func15 (by kernel_rfl) rfl #[.agg #[.int .u8 ((rd_T30 t298 x13_2).f0), .int .u8 ((rd_T30 t298 x13_2).f1), .bool true, .string ((rd_T30 t298 x13_2).f3)]] rfl (by (try simp only [List.map_toArray, List.map_cons, List.map_nil]); first | done | rfl | (simp only [List.length_drop, List.length_take]; rfl)) ?_; (with_reducible refine (frame_Pack.calls ((rd_T30 t298 x13_2).f0) ((rd_T30 t298 x13_2).f1) true ((rd_T30 t298 x13_2).f3) t305 t306 _ (by first | exact A25.out | (have z9_ := A25.out; rw [← Nbq30.out] at z9_; exact z9_))).mono ?_); rintro e w33 ⟨rfl, hb⟩; refine ⟨_, rfl, ?_⟩; have n0_ := Aside0.mk (Kd.R_below (by (with_reducible repeat (first | apply Kd.R_alloc | apply Kd.R_drewN | apply Kd.R_drew)); exact HO_9.out) hb); have n1_ := Aside0.mk (below_step (by repeat (first | (with_reducible first | exact HB.out | apply below_alloc | apply pw_below_drewN | apply below_drew1) | exact HB.out)) hb); clear HO_9; clear HB; have HO_9 := n0_; have HB := n1_; clear n0_ n1_; (try clear hb); (try clear hb2); (try clear hk); (try clear hi); have p307 : 0 ≤ (x13_2 : Int) := of_decide_eq_true (by first | (with_reducible assumption) | assumption); have q307 : x13_2 < (t298.length : Int) := of_decide_eq_true (by first | (with_reducible assumption) | assumption); obtain ⟨ad307, e307, hx307_0, hx307_1, hx307_2, hx307_3⟩ := at_T30 (Kd.R_reads' HO_9.out).2.2 x13_2 p307 q307; (try rw [← Nbq30.out] at hx307_2); obtain rfl : ad304 = ad307 := (by injection e307); replace p307 := eq_true p307; replace q307 := eq_true q307; have p308 : 0 ≤ (x13_2 : Int) := of_decide_eq_true (by first | (with_reducible assumption) | assumption); have q308 : x13_2 < (t298.length : Int) := of_decide_eq_true (by first | (with_reducible assumption) | assumption); obtain ⟨ad308, e308, hx308_0, hx308_1, hx308_2, hx308_3⟩ := at_T30 (Kd.R_reads' HO_9.out).2.2 x13_2 p308 q308; (try rw [← Nbq30.out] at hx308_2); obtain rfl : ad304 = ad308 := (by injection e308); replace p308 := eq_true p308; replace q308 := eq_true q308; have p309 : 0 ≤ (x13_2 : Int) := of_decide_eq_true (by first | (with_reducible assumption) | assumption); have q309 : x13_2 < (t298.length : Int) := of_decide_eq_true (by first | (with_reducible assumption) | assumption); obtain ⟨ad309, e309, hx309_0, hx309_1, hx309_2, hx309_3⟩ := at_T30 (Kd.R_reads' HO_9.out).2.2 x13_2 p309 q309; (try rw [← Nbq30.out] at hx309_2); obtain rfl : ad304 = ad309 := (by injection e309); replace p309 := eq_true p309; replace q309 := eq_true q309; have p310 : 0 ≤ (x13_2 : Int) := of_decide_eq_true (by first | (with_reducible assumption) | assumption); have q310 : x13_2 < (t298.length : Int) := of_decide_eq_true (by first | (with_reducible assumption) | assumption); obtain ⟨ad310, e310, hx310_0, hx310_1, hx310_2, hx310_3⟩ := at_T30 (Kd.R_reads' HO_9.out).2.2 x13_2 p310 q310; (try rw [← Nbq30.out] at hx310_2); obtain rfl : ad304 = ad310 := (by injection e310); replace p310 := eq_true p310; replace q310 := eq_true q310; have p311 : 0 ≤ (x13_2 : Int) := of_decide_eq_true (by first | (with_reducible assumption) | assumption); have q311 : x13_2 < (t298.length : Int) := of_decide_eq_true (by first | (with_reducible assumption) | assumption); obtain ⟨ad311, e311, hx311_0, hx311_1, hx311_2, hx311_3⟩ := at_T30 (Kd.R_reads' HO_9.out).2.2 x13_2 p311 q311; (try rw [← Nbq30.out] at hx311_2); obtain rfl : ad304 = ad311 := (by injection e311); replace p311 := eq_true p311; replace q311 := eq_true q311))
                                  (first | go_roundg k2 | (simp only [add_plain] at *; go_roundg k2))
                                  case measure => have := HJ11.out; have := HK2.out; omega
                                  case rel => exact ⟨(wrap64 (x13_2 + 1)), (by first | rfl | (simp; done) | (simp [*]; done) | (simp; omega) | (congr 1; omega) | (rw [hR_]; done) | (simp only [hR_]; done) | (simp [hR_]; done)), H', ⟨by have := HJ11.out; have := HK2.out; omega⟩, ⟨by (with_reducible repeat (first | apply Kd.R_alloc | apply Kd.R_drewN | apply Kd.R_drew)); exact HO_9.out⟩, ⟨by repeat (first | (with_reducible first | exact HB.out | apply below_alloc | apply pw_below_drewN | apply below_drew1) | exact HB.out)⟩⟩
                                · rw [if_neg c32] at H
                                  have c32b0 : ((((rd_T30 t298 x13_2).f3).size : Int) == (wrap64 (1 + (wrap64 (Int.tmod (IntKind.u64.wrap (a3)) 240))))) = false := beq_eq_false_iff_ne.mpr c32
                                  have c32b1 : ((((rd_T30 t298 x13_2).f3).size : Int) != (wrap64 (1 + (wrap64 (Int.tmod (IntKind.u64.wrap (a3)) 240))))) = true := bne_iff_ne.mpr c32
                                  exact absurd H (by simp)
                              · replace c31 := Bool.eq_false_iff.mpr c31
                                subst c31
                                (try rw [← Nbq30.out] at c29b0)   -- z8_
                                (try rw [← Nbq30.out] at c29b1)   -- z8_
                                (try rw [← Nbq30.out] at c29b2)   -- z8_
                                (try rw [← Nbq30.out] at c29b3)   -- z8_
                                (try rw [← Nbq30.out] at c29b0)   -- z8_
                                (try rw [← Nbq30.out] at c29b1)   -- z8_
                                (try rw [← Nbq30.out] at c29b2)   -- z8_
                                have H1 : (foghornlaw25_FrameMessages.l0 k2 ((1 + (Int.tmod a0 15)) % 256) a1 (wrap64 (1 + (wrap64 (Int.tmod (IntKind.u64.wrap (a3)) 240)))) t298 (wrap64 (x13_2 + 1))) = some true := by rw [if_neg (show ¬ (false = true) by decide)] at H; exact H
                                clear H
                                have H := H1
                                clear H1
                                have H' := Aside0.mk H
                                clear H
                                have p304 : 0 ≤ (x13_2 : Int) := of_decide_eq_true (by first | (with_reducible assumption) | assumption)
                                have q304 : x13_2 < (t298.length : Int) := of_decide_eq_true (by first | (with_reducible assumption) | assumption)
                                obtain ⟨ad304, e304, hx304_0, hx304_1, hx304_2, hx304_3⟩ := at_T30 (Kd.R_reads' HO_9.out).2.2 x13_2 p304 q304
                                (try rw [← Nbq30.out] at hx304_2)
                                cases e304
                                replace p304 := eq_true p304
                                replace q304 := eq_true q304
                                go_wp2_with (first | ((with_reducible refine gate_callee (f := 15) rfl ?_); refine goesL_ (some 79) rfl rfl Try.func15 (by kernel_rfl) rfl #[.agg #[.int .u8 ((rd_T30 t298 x13_2).f0), .int .u8 ((rd_T30 t298 x13_2).f1), .bool false, .string ((rd_T30 t298 x13_2).f3)]] rfl (by (try simp only [List.map_toArray, List.map_cons, List.map_nil]); first | done | rfl | (simp only [List.length_drop, List.length_take]; rfl)) ?_; (with_reducible refine (frame_Pack.calls ((rd_T30 t298 x13_2).f0) ((rd_T30 t298 x13_2).f1) false ((rd_T30 t298 x13_2).f3) t305 t306 _ (by first | exact A25.out | (have z9_ := A25.out; rw [← Nbq30.out] at z9_; exact z9_))).mono ?_); rintro e w34 ⟨rfl, hb⟩; refine ⟨_, rfl, ?_⟩; have n0_ := Aside0.mk (Kd.R_below (by (with_reducible repeat (first | apply Kd.R_alloc | apply Kd.R_drewN | apply Kd.R_drew)); exact HO_9.out) hb); have n1_ := Aside0.mk (below_step (by repeat (first | (with_reducible first | exact HB.out | apply below_alloc | apply pw_below_drewN | apply below_drew1) | exact HB.out)) hb); clear HO_9; clear HB; have HO_9 := n0_; have HB := n1_; clear n0_ n1_; (try clear hb); (try clear hb2); (try clear hk); (try clear hi); have p307 : 0 ≤ (x13_2 : Int) := of_decide_eq_true (by first | (with_reducible assumption) | assumption); have q307 : x13_2 < (t298.length : Int) := of_decide_eq_true (by first | (with_reducible assumption) | assumption); obtain ⟨ad307, e307, hx307_0, hx307_1, hx307_2, hx307_3⟩ := at_T30 (Kd.R_reads' HO_9.out).2.2 x13_2 p307 q307; (try rw [← Nbq30.out] at hx307_2); obtain rfl : ad304 = ad307 := (by injection e307); replace p307 := eq_true p307; replace q307 := eq_true q307; have p308 : 0 ≤ (x13_2 : Int) := of_decide_eq_true (by first | (with_reducible assumption) | assumption); have q308 : x13_2 < (t298.length : Int) := of_decide_eq_true (by first | (with_reducible assumption) | assumption); obtain ⟨ad308, e308, hx308_0, hx308_1, hx308_2, hx308_3⟩ := at_T30 (Kd.R_reads' HO_9.out).2.2 x13_2 p308 q308; (try rw [← Nbq30.out] at hx308_2); obtain rfl : ad304 = ad308 := (by injection e308); replace p308 := eq_true p308; replace q308 := eq_true q308; have p309 : 0 ≤ (x13_2 : Int) := of_decide_eq_true (by first | (with_reducible assumption) | assumption); have q309 : x13_2 < (t298.length : Int) := of_decide_eq_true (by first | (with_reducible assumption) | assumption); obtain ⟨ad309, e309, hx309_0, hx309_1, hx309_2, hx309_3⟩ := at_T30 (Kd.R_reads' HO_9.out).2.2 x13_2 p309 q309; (try rw [← Nbq30.out] at hx309_2); obtain rfl : ad304 = ad309 := (by injection e309); replace p309 := eq_true p309; replace q309 := eq_true q309; have p310 : 0 ≤ (x13_2 : Int) := of_decide_eq_true (by first | (with_reducible assumption) | assumption); have q310 : x13_2 < (t298.length : Int) := of_decide_eq_true (by first | (with_reducible assumption) | assumption); obtain ⟨ad310, e310, hx310_0, hx310_1, hx310_2, hx310_3⟩ := at_T30 (Kd.R_reads' HO_9.out).2.2 x13_2 p310 q310; (try rw [← Nbq30.out] at hx310_2); obtain rfl : ad304 = ad310 := (by injection e310); replace p310 := eq_true p310; replace q310 := eq_true q310))
                                (first | go_roundg k2 | (simp only [add_plain] at *; go_roundg k2))
                                case measure => have := HJ11.out; have := HK2.out; omega
                                case rel => exact ⟨(wrap64 (x13_2 + 1)), (by first | rfl | (simp; done) | (simp [*]; done) | (simp; omega) | (congr 1; omega) | (rw [hR_]; done) | (simp only [hR_]; done) | (simp [hR_]; done)), H', ⟨by have := HJ11.out; have := HK2.out; omega⟩, ⟨by (with_reducible repeat (first | apply Kd.R_alloc | apply Kd.R_drewN | apply Kd.R_drew)); exact HO_9.out⟩, ⟨by repeat (first | (with_reducible first | exact HB.out | apply below_alloc | apply pw_below_drewN | apply below_drew1) | exact HB.out)⟩⟩
                          · rw [if_neg c28] at H
                            have c28b0 : (((rd_T30 t298 x13_2).f1) == ((a1 + (x13_2)) % 256)) = false := beq_eq_false_iff_ne.mpr c28
                            have c28b1 : (((rd_T30 t298 x13_2).f1) != ((a1 + (x13_2)) % 256)) = true := bne_iff_ne.mpr c28
                            exact absurd H (by simp)
                        · rw [if_neg c27] at H
                          have c27b0 : (((rd_T30 t298 x13_2).f0) == ((1 + (Int.tmod a0 15)) % 256)) = false := beq_eq_false_iff_ne.mpr c27
                          have c27b1 : (((rd_T30 t298 x13_2).f0) != ((1 + (Int.tmod a0 15)) % 256)) = true := bne_iff_ne.mpr c27
                          exact absurd H (by simp)
                      · rw [if_neg c26] at H
                        have c26b0 : (t306 == 0) = false := beq_eq_false_iff_ne.mpr c26
                        have c26b1 : (t306 != 0) = true := bne_iff_ne.mpr c26
                        exact absurd H (by simp)
                    · rw [if_neg c24] at H
                      exact absurd H (by simp)
                  · rw [if_neg c23] at H
                    have c23b0 : decide (x13_2 < (t298.length : Int)) = false := decide_eq_false c23
                    clear c23
                    clear H
                    go_wp2
                    go_ret
                    exact ⟨by first | rfl | (simp [errW_none, errW_some] <;> rfl) | (simp only [← hji7]; first | rfl | (simp [errW_none, errW_some] <;> rfl)) | (simp [*, errW_none, errW_some] <;> rfl), by repeat (first | (with_reducible first | exact HB.out | apply below_alloc | apply pw_below_drewN | apply below_drew1) | exact HB.out)⟩
      · rw [if_neg c9] at H
        exact absurd H (by simp)
    · rw [if_neg c8] at H
      exact absurd H (by simp)
  · replace c6 := Bool.eq_false_iff.mpr c6
    subst c6
    (try rw [← Nbq30.out] at c29b2)   -- z8_
    have H1 : (some false) = some true := by rw [if_neg (show ¬ (false = true) by decide)] at H; exact H
    clear H
    have H := H1
    clear H1
    exact absurd H (by simp)

/-- THE ONE PURE STATEMENT of foghornlaw25_FrameMessages: yours. -/
def foghornlaw25_FrameMessages.Pure : Prop := ∀ (a0 : Int) (a1 : Int) (a2 : ByteArray) (a3 : Int), (Lit.int .u8 a0).wf = true → (Lit.int .u8 a1).wf = true → a2.size ≤ 140737488351232 → (Lit.int .i64 a3).wf = true → ∃ k, foghornlaw25_FrameMessages.f k a0 a1 a2 a3 = some true
theorem foghornlaw25_FrameMessages.walk (P : foghornlaw25_FrameMessages.Pure) (a0 : Int) (a1 : Int) (a2 : ByteArray) (a3 : Int) (w : World) (w0 : (Lit.int .u8 a0).wf = true) (w1 : (Lit.int .u8 a1).wf = true) (w2 : a2.size ≤ 140737488351232) (w3 : (Lit.int .i64 a3).wf = true) :
    Calls Try.prog 8 #[.int .u8 a0, .int .u8 a1, .string a2, .int .i64 a3] w fun e w' => e = .returned (.bool true) ∧ Below w.heap.size w w' := by
  obtain ⟨k, h⟩ := P a0 a1 a2 a3 w0 w1 w2 w3
  refine (foghornlaw25_FrameMessages.calls k a0 a1 a2 a3 true w h).mono ?_
  rintro e w' ⟨rfl, hd⟩
  exact ⟨rfl, hd⟩

-- NOT PRINTED: function 9 (foghornlaw25_FrameNever)

end Go.Proofs.Ytclhkbjcemgmnaa.Fog
