-- Written by fog.py, a program of this session, over the kit's print.
import Derived.Test.YtclhkbjcemgmnaaFogx0
import Derived.Test.YtclhkbjcemgmnaaFogx4
import Derived.Test.YtclhkbjcemgmnaaHandJoin
import Derived.Test.YtclhkbjcemgmnaaHandPack
import Derived.Test.YtclhkbjcemgmnaaHandWorks
namespace Go.Proofs.Ytclhkbjcemgmnaa.Fog
open Go.RowKit Go.Proofs.YtclhkbjcemgmnaaW.PrintWords Go.Proofs.YtclhkbjcemgmnaaW.PrintLast Go.Proofs.YtclhkbjcemgmnaaW.PrintMore
attribute [local go_sem] max2_int min2_int max_two min_two max_three min_three max_four min_four   -- for this text's walks alone
attribute [local go_sem] fog_signed_u8 fog_max_u8 fog_signed_u16 fog_max_u16 fog_signed_u32 fog_max_u32 fog_signed_u64 fog_max_u64
set_option linter.unusedVariables false
set_option linter.unusedSimpArgs false

/-! ### foghornlaw25_FrameNames: function 6 -/
def foghornlaw25_FrameNames.l0 : Nat → ByteArray → ByteArray → Int → Int → Int → Int → Int → Int → Int → List (S30) → Int → Int → ByteArray → Int → List (S30) → Int → Option (Bool)
  | 0, _, _, _, _, _, _, _, _, _, _, _, _, _, _, _, _ => none
  | k + 1, x1, x2, x3, x5, x7, x9, x11, x12, x15, x16, x17, x19, x20, x21, x22, x23 => if x23 < (x22.length : Int) then (if 0 ≤ 164 then (if 164 ≤ (x1.size : Int) then (if 0 ≤ x23 then (foghornlaw25_FrameNames.l0 k x1 x2 x3 x5 x7 x9 x11 x12 x15 x16 x17 x19 x20 x21 (x22.set (x23 : Int).toNat (⟨1, (x23) % 256, decide (x23 < (wrap64 ((x22.length : Int) - 1))), x1.extract 0 164⟩ : S30)) (wrap64 (x23 + 1))) else (none)) else (none)) else (none)) else ((frame_Join.f x22).bind fun bt291 => (if x3 = 0 then (if x5 = 1 then (if x7 = 1 then (if x9 = 1 then (if x12 = 0 then (if x15 = 4 then (if x17 = 0 then (if x19 = 1 then (if x21 = 0 then (if bt291.2 = 1 then (if (x2.size : Int) = 249 then (if x11 = 249 then (if (x16.length : Int) = 32768 then (if 0 ≤ 32768 then (if 32768 ≤ (x1.size : Int) then (some (x20.toList == (x1.extract 0 32768).toList)) else (none)) else (none)) else (some false)) else (some false)) else (some false)) else (some false)) else (some false)) else (some false)) else (some false)) else (some false)) else (some false)) else (some false)) else (some false)) else (some false)) else (some false)))
def foghornlaw25_FrameNames.f (k : Nat)  : Option (Bool) := (foghornlaw25_works.f).bind fun t244 => (if t244 = true then (if 32769 ≤ 281474976710656 then ((some (List.replicate 32769 0 : List Int)).bind fun y245 => (if 0 ≤ 240 then (if 240 ≤ ((strOfNums y245).size : Int) then ((frame_Pack.f 15 0 false ((strOfNums y245).extract 0 240)).bind fun bt248 => (if 0 ≤ 241 then (if 241 ≤ ((strOfNums y245).size : Int) then ((frame_Pack.f 15 0 false ((strOfNums y245).extract 0 241)).bind fun bt250 => ((frame_Pack.f 16 0 false (⟨#[]⟩ : ByteArray)).bind fun bt252 => ((frame_Pack.f 0 0 false (⟨#[]⟩ : ByteArray)).bind fun bt254 => ((frame_Parse.f k bt248.1).bind fun bt256 => (if 0 ≤ 9 then (if 9 ≤ ((strOfNums y245).size : Int) then ((frame_Parse.f k ((strOfNums y245).extract 0 9)).bind fun bt263 => (if 0 ≤ 32768 then (if 32768 ≤ ((strOfNums y245).size : Int) then ((frame_Pieces.f k 1 0 ((strOfNums y245).extract 0 32768) 1).bind fun bt270 => ((frame_Pieces.f k 1 0 (strOfNums y245) 240).bind fun bt274 => ((frame_Join.f bt270.1).bind fun bt278 => ((some (([] : List (S30)) : List (S30))).bind fun y280 => (if 0 ≤ (mn (bt270.1.length : Int) 200) then (if (mn (bt270.1.length : Int) 200) ≤ (bt270.1.length : Int) then ((some (bt270.1.take ((mn (bt270.1.length : Int) 200) : Int).toNat : List (S30))).bind fun y283 => (if y280.length + y283.length < 5864062014805 then (foghornlaw25_FrameNames.l0 k (strOfNums y245) bt248.1 bt248.2 bt250.2 bt252.2 bt254.2 bt256.2.2.2.2.1 bt256.2.2.2.2.2 bt263.2.2.2.2.2 bt270.1 bt270.2 bt274.2 bt278.1 bt278.2 (y280 ++ y283) 0) else (none))) else (none)) else (none)))))) else (none)) else (none))) else (none)) else (none)))))) else (none)) else (none))) else (none)) else (none))) else (none)) else (some false))
theorem foghornlaw25_FrameNames.mono_l : ∀ k, (∀ y0 y1 y2 y3 y4 y5 y6 y7 y8 y9 y10 y11 y12 y13 y14 y15, LeO (foghornlaw25_FrameNames.l0 k y0 y1 y2 y3 y4 y5 y6 y7 y8 y9 y10 y11 y12 y13 y14 y15) (foghornlaw25_FrameNames.l0 (k + 1) y0 y1 y2 y3 y4 y5 y6 y7 y8 y9 y10 y11 y12 y13 y14 y15))
  | 0 => fun _ _ _ _ _ _ _ _ _ _ _ _ _ _ _ _ r h => by simp [foghornlaw25_FrameNames.l0] at h
  | k + 1 => by
    have ih0 := foghornlaw25_FrameNames.mono_l k
    · intro y0 y1 y2 y3 y4 y5 y6 y7 y8 y9 y10 y11 y12 y13 y14 y15
      unfold foghornlaw25_FrameNames.l0
      repeat' first
      | (with_reducible exact ih0 _ _ _ _ _ _ _ _ _ _ _ _ _ _ _ _)
      | (with_reducible exact frame_Parse.mono _ _)
      | (with_reducible exact frame_Pieces.mono _ _ _ _ _)
      | (with_reducible exact LeO.refl _)
      | (with_reducible exact LeO.none _)
      | (with_reducible refine LeO.ite ?_ ?_)
      | (with_reducible refine LeO.bind ?_ (fun _ => ?_))
      | exact ih0 _ _ _ _ _ _ _ _ _ _ _ _ _ _ _ _
      | exact frame_Parse.mono _ _
      | exact frame_Pieces.mono _ _ _ _ _
      | exact LeO.none _
      | refine LeO.ite ?_ ?_
      | refine LeO.bind ?_ (fun _ => ?_)
theorem foghornlaw25_FrameNames.mono : ∀ k, LeO (foghornlaw25_FrameNames.f k ) (foghornlaw25_FrameNames.f (k + 1) ) := by
  intro  k
  have ih0 := foghornlaw25_FrameNames.mono_l k
  unfold foghornlaw25_FrameNames.f
  repeat' first
      | (with_reducible exact ih0 _ _ _ _ _ _ _ _ _ _ _ _ _ _ _ _)
      | (with_reducible exact frame_Parse.mono _ _)
      | (with_reducible exact frame_Pieces.mono _ _ _ _ _)
      | (with_reducible exact LeO.refl _)
      | (with_reducible exact LeO.none _)
      | (with_reducible refine LeO.ite ?_ ?_)
      | (with_reducible refine LeO.bind ?_ (fun _ => ?_))
      | exact ih0 _ _ _ _ _ _ _ _ _ _ _ _ _ _ _ _
      | exact frame_Parse.mono _ _
      | exact frame_Pieces.mono _ _ _ _ _
      | exact LeO.none _
      | refine LeO.ite ?_ ?_
      | refine LeO.bind ?_ (fun _ => ?_)
set_option maxHeartbeats 8000000 in
set_option maxRecDepth 100000 in
theorem foghornlaw25_FrameNames.calls (k : Nat)  (r : Bool) (w : World) (h : foghornlaw25_FrameNames.f k  = some r) (ho_ : r = true := by rfl) :
    Calls Try.prog 6 #[] w fun e w' => e = .returned (.bool r) ∧ Below w.heap.size w w' := by
  subst ho_
  have hu30 := Try.underlying30
  have HB := Aside0.mk (Below.refl w.heap.size w)
  have H : ((foghornlaw25_works.f).bind fun t244 => (if t244 = true then (if 32769 ≤ 281474976710656 then ((some (List.replicate 32769 0 : List Int)).bind fun y245 => (if 0 ≤ 240 then (if 240 ≤ ((strOfNums y245).size : Int) then ((frame_Pack.f 15 0 false ((strOfNums y245).extract 0 240)).bind fun bt248 => (if 0 ≤ 241 then (if 241 ≤ ((strOfNums y245).size : Int) then ((frame_Pack.f 15 0 false ((strOfNums y245).extract 0 241)).bind fun bt250 => ((frame_Pack.f 16 0 false (⟨#[]⟩ : ByteArray)).bind fun bt252 => ((frame_Pack.f 0 0 false (⟨#[]⟩ : ByteArray)).bind fun bt254 => ((frame_Parse.f k bt248.1).bind fun bt256 => (if 0 ≤ 9 then (if 9 ≤ ((strOfNums y245).size : Int) then ((frame_Parse.f k ((strOfNums y245).extract 0 9)).bind fun bt263 => (if 0 ≤ 32768 then (if 32768 ≤ ((strOfNums y245).size : Int) then ((frame_Pieces.f k 1 0 ((strOfNums y245).extract 0 32768) 1).bind fun bt270 => ((frame_Pieces.f k 1 0 (strOfNums y245) 240).bind fun bt274 => ((frame_Join.f bt270.1).bind fun bt278 => ((some (([] : List (S30)) : List (S30))).bind fun y280 => (if 0 ≤ (mn (bt270.1.length : Int) 200) then (if (mn (bt270.1.length : Int) 200) ≤ (bt270.1.length : Int) then ((some (bt270.1.take ((mn (bt270.1.length : Int) 200) : Int).toNat : List (S30))).bind fun y283 => (if y280.length + y283.length < 5864062014805 then (foghornlaw25_FrameNames.l0 k (strOfNums y245) bt248.1 bt248.2 bt250.2 bt252.2 bt254.2 bt256.2.2.2.2.1 bt256.2.2.2.2.2 bt263.2.2.2.2.2 bt270.1 bt270.2 bt274.2 bt278.1 bt278.2 (y280 ++ y283) 0) else (none))) else (none)) else (none)))))) else (none)) else (none))) else (none)) else (none)))))) else (none)) else (none))) else (none)) else (none))) else (none)) else (some false))) = some true := h
  clear h
  replace H := Option.bind_eq_some_iff.mp H
  obtain ⟨t244, A10, H⟩ := H
  replace H : (if t244 = true then (if 32769 ≤ 281474976710656 then ((some (List.replicate 32769 0 : List Int)).bind fun y245 => (if 0 ≤ 240 then (if 240 ≤ ((strOfNums y245).size : Int) then ((frame_Pack.f 15 0 false ((strOfNums y245).extract 0 240)).bind fun bt248 => (if 0 ≤ 241 then (if 241 ≤ ((strOfNums y245).size : Int) then ((frame_Pack.f 15 0 false ((strOfNums y245).extract 0 241)).bind fun bt250 => ((frame_Pack.f 16 0 false (⟨#[]⟩ : ByteArray)).bind fun bt252 => ((frame_Pack.f 0 0 false (⟨#[]⟩ : ByteArray)).bind fun bt254 => ((frame_Parse.f k bt248.1).bind fun bt256 => (if 0 ≤ 9 then (if 9 ≤ ((strOfNums y245).size : Int) then ((frame_Parse.f k ((strOfNums y245).extract 0 9)).bind fun bt263 => (if 0 ≤ 32768 then (if 32768 ≤ ((strOfNums y245).size : Int) then ((frame_Pieces.f k 1 0 ((strOfNums y245).extract 0 32768) 1).bind fun bt270 => ((frame_Pieces.f k 1 0 (strOfNums y245) 240).bind fun bt274 => ((frame_Join.f bt270.1).bind fun bt278 => ((some (([] : List (S30)) : List (S30))).bind fun y280 => (if 0 ≤ (mn (bt270.1.length : Int) 200) then (if (mn (bt270.1.length : Int) 200) ≤ (bt270.1.length : Int) then ((some (bt270.1.take ((mn (bt270.1.length : Int) 200) : Int).toNat : List (S30))).bind fun y283 => (if y280.length + y283.length < 5864062014805 then (foghornlaw25_FrameNames.l0 k (strOfNums y245) bt248.1 bt248.2 bt250.2 bt252.2 bt254.2 bt256.2.2.2.2.1 bt256.2.2.2.2.2 bt263.2.2.2.2.2 bt270.1 bt270.2 bt274.2 bt278.1 bt278.2 (y280 ++ y283) 0) else (none))) else (none)) else (none)))))) else (none)) else (none))) else (none)) else (none)))))) else (none)) else (none))) else (none)) else (none))) else (none)) else (some false)) = some true := H
  have A1 := Aside0.mk A10
  clear A10
  by_cases c2 : t244 = true
  · subst c2
    have H1 : (if 32769 ≤ 281474976710656 then ((some (List.replicate 32769 0 : List Int)).bind fun y245 => (if 0 ≤ 240 then (if 240 ≤ ((strOfNums y245).size : Int) then ((frame_Pack.f 15 0 false ((strOfNums y245).extract 0 240)).bind fun bt248 => (if 0 ≤ 241 then (if 241 ≤ ((strOfNums y245).size : Int) then ((frame_Pack.f 15 0 false ((strOfNums y245).extract 0 241)).bind fun bt250 => ((frame_Pack.f 16 0 false (⟨#[]⟩ : ByteArray)).bind fun bt252 => ((frame_Pack.f 0 0 false (⟨#[]⟩ : ByteArray)).bind fun bt254 => ((frame_Parse.f k bt248.1).bind fun bt256 => (if 0 ≤ 9 then (if 9 ≤ ((strOfNums y245).size : Int) then ((frame_Parse.f k ((strOfNums y245).extract 0 9)).bind fun bt263 => (if 0 ≤ 32768 then (if 32768 ≤ ((strOfNums y245).size : Int) then ((frame_Pieces.f k 1 0 ((strOfNums y245).extract 0 32768) 1).bind fun bt270 => ((frame_Pieces.f k 1 0 (strOfNums y245) 240).bind fun bt274 => ((frame_Join.f bt270.1).bind fun bt278 => ((some (([] : List (S30)) : List (S30))).bind fun y280 => (if 0 ≤ (mn (bt270.1.length : Int) 200) then (if (mn (bt270.1.length : Int) 200) ≤ (bt270.1.length : Int) then ((some (bt270.1.take ((mn (bt270.1.length : Int) 200) : Int).toNat : List (S30))).bind fun y283 => (if y280.length + y283.length < 5864062014805 then (foghornlaw25_FrameNames.l0 k (strOfNums y245) bt248.1 bt248.2 bt250.2 bt252.2 bt254.2 bt256.2.2.2.2.1 bt256.2.2.2.2.2 bt263.2.2.2.2.2 bt270.1 bt270.2 bt274.2 bt278.1 bt278.2 (y280 ++ y283) 0) else (none))) else (none)) else (none)))))) else (none)) else (none))) else (none)) else (none)))))) else (none)) else (none))) else (none)) else (none))) else (none)) = some true := by rw [if_pos rfl] at H; exact H
    clear H
    have H := H1
    clear H1
    by_cases c3 : 32769 ≤ 281474976710656
    · rw [if_pos c3] at H
      have c3b0 := eq_true c3
      have c3b1 : decide (32769 ≤ 281474976710656) = true := decide_eq_true c3
      clear c3
      obtain ⟨y245, hy245⟩ : ∃ y_ : List Int, y_ = (List.replicate 32769 0) := ⟨_, rfl⟩
      replace H : (if 0 ≤ 240 then (if 240 ≤ ((strOfNums y245).size : Int) then ((frame_Pack.f 15 0 false ((strOfNums y245).extract 0 240)).bind fun bt248 => (if 0 ≤ 241 then (if 241 ≤ ((strOfNums y245).size : Int) then ((frame_Pack.f 15 0 false ((strOfNums y245).extract 0 241)).bind fun bt250 => ((frame_Pack.f 16 0 false (⟨#[]⟩ : ByteArray)).bind fun bt252 => ((frame_Pack.f 0 0 false (⟨#[]⟩ : ByteArray)).bind fun bt254 => ((frame_Parse.f k bt248.1).bind fun bt256 => (if 0 ≤ 9 then (if 9 ≤ ((strOfNums y245).size : Int) then ((frame_Parse.f k ((strOfNums y245).extract 0 9)).bind fun bt263 => (if 0 ≤ 32768 then (if 32768 ≤ ((strOfNums y245).size : Int) then ((frame_Pieces.f k 1 0 ((strOfNums y245).extract 0 32768) 1).bind fun bt270 => ((frame_Pieces.f k 1 0 (strOfNums y245) 240).bind fun bt274 => ((frame_Join.f bt270.1).bind fun bt278 => ((some (([] : List (S30)) : List (S30))).bind fun y280 => (if 0 ≤ (mn (bt270.1.length : Int) 200) then (if (mn (bt270.1.length : Int) 200) ≤ (bt270.1.length : Int) then ((some (bt270.1.take ((mn (bt270.1.length : Int) 200) : Int).toNat : List (S30))).bind fun y283 => (if y280.length + y283.length < 5864062014805 then (foghornlaw25_FrameNames.l0 k (strOfNums y245) bt248.1 bt248.2 bt250.2 bt252.2 bt254.2 bt256.2.2.2.2.1 bt256.2.2.2.2.2 bt263.2.2.2.2.2 bt270.1 bt270.2 bt274.2 bt278.1 bt278.2 (y280 ++ y283) 0) else (none))) else (none)) else (none)))))) else (none)) else (none))) else (none)) else (none)))))) else (none)) else (none))) else (none)) else (none)) = some true := by first | (rw [hy245]; with_reducible exact H) | (have H2_ := (Option.bind_some _ _).symm.trans H; rw [hy245]; with_reducible exact H2_) | (have H2_ := (Option.bind_some _ _).symm.trans H; with_reducible exact H2_) | with_reducible exact H | (rw [hy245]; exact H) | exact H
      have Ny245 := Aside0.mk hy245
      clear hy245
      by_cases c4 : 0 ≤ 240
      · rw [if_pos c4] at H
        have c4b0 := eq_true c4
        have c4b1 : decide (0 ≤ 240) = true := decide_eq_true c4
        clear c4
        by_cases c5 : 240 ≤ ((strOfNums y245).size : Int)
        · rw [if_pos c5] at H
          have c5b0 := eq_true c5
          have c5b1 : decide (240 ≤ ((strOfNums y245).size : Int)) = true := decide_eq_true c5
          clear c5
          replace H := Option.bind_eq_some_iff.mp H
          obtain ⟨⟨t248, t249⟩, A60, H⟩ := H
          replace H : (if 0 ≤ 241 then (if 241 ≤ ((strOfNums y245).size : Int) then ((frame_Pack.f 15 0 false ((strOfNums y245).extract 0 241)).bind fun bt250 => ((frame_Pack.f 16 0 false (⟨#[]⟩ : ByteArray)).bind fun bt252 => ((frame_Pack.f 0 0 false (⟨#[]⟩ : ByteArray)).bind fun bt254 => ((frame_Parse.f k t248).bind fun bt256 => (if 0 ≤ 9 then (if 9 ≤ ((strOfNums y245).size : Int) then ((frame_Parse.f k ((strOfNums y245).extract 0 9)).bind fun bt263 => (if 0 ≤ 32768 then (if 32768 ≤ ((strOfNums y245).size : Int) then ((frame_Pieces.f k 1 0 ((strOfNums y245).extract 0 32768) 1).bind fun bt270 => ((frame_Pieces.f k 1 0 (strOfNums y245) 240).bind fun bt274 => ((frame_Join.f bt270.1).bind fun bt278 => ((some (([] : List (S30)) : List (S30))).bind fun y280 => (if 0 ≤ (mn (bt270.1.length : Int) 200) then (if (mn (bt270.1.length : Int) 200) ≤ (bt270.1.length : Int) then ((some (bt270.1.take ((mn (bt270.1.length : Int) 200) : Int).toNat : List (S30))).bind fun y283 => (if y280.length + y283.length < 5864062014805 then (foghornlaw25_FrameNames.l0 k (strOfNums y245) t248 t249 bt250.2 bt252.2 bt254.2 bt256.2.2.2.2.1 bt256.2.2.2.2.2 bt263.2.2.2.2.2 bt270.1 bt270.2 bt274.2 bt278.1 bt278.2 (y280 ++ y283) 0) else (none))) else (none)) else (none)))))) else (none)) else (none))) else (none)) else (none)))))) else (none)) else (none)) = some true := H
          have A6 := Aside0.mk A60
          clear A60
          by_cases c7 : 0 ≤ 241
          · rw [if_pos c7] at H
            have c7b0 := eq_true c7
            have c7b1 : decide (0 ≤ 241) = true := decide_eq_true c7
            clear c7
            by_cases c8 : 241 ≤ ((strOfNums y245).size : Int)
            · rw [if_pos c8] at H
              have c8b0 := eq_true c8
              have c8b1 : decide (241 ≤ ((strOfNums y245).size : Int)) = true := decide_eq_true c8
              clear c8
              replace H := Option.bind_eq_some_iff.mp H
              obtain ⟨⟨t250, t251⟩, A90, H⟩ := H
              replace H : ((frame_Pack.f 16 0 false (⟨#[]⟩ : ByteArray)).bind fun bt252 => ((frame_Pack.f 0 0 false (⟨#[]⟩ : ByteArray)).bind fun bt254 => ((frame_Parse.f k t248).bind fun bt256 => (if 0 ≤ 9 then (if 9 ≤ ((strOfNums y245).size : Int) then ((frame_Parse.f k ((strOfNums y245).extract 0 9)).bind fun bt263 => (if 0 ≤ 32768 then (if 32768 ≤ ((strOfNums y245).size : Int) then ((frame_Pieces.f k 1 0 ((strOfNums y245).extract 0 32768) 1).bind fun bt270 => ((frame_Pieces.f k 1 0 (strOfNums y245) 240).bind fun bt274 => ((frame_Join.f bt270.1).bind fun bt278 => ((some (([] : List (S30)) : List (S30))).bind fun y280 => (if 0 ≤ (mn (bt270.1.length : Int) 200) then (if (mn (bt270.1.length : Int) 200) ≤ (bt270.1.length : Int) then ((some (bt270.1.take ((mn (bt270.1.length : Int) 200) : Int).toNat : List (S30))).bind fun y283 => (if y280.length + y283.length < 5864062014805 then (foghornlaw25_FrameNames.l0 k (strOfNums y245) t248 t249 t251 bt252.2 bt254.2 bt256.2.2.2.2.1 bt256.2.2.2.2.2 bt263.2.2.2.2.2 bt270.1 bt270.2 bt274.2 bt278.1 bt278.2 (y280 ++ y283) 0) else (none))) else (none)) else (none)))))) else (none)) else (none))) else (none)) else (none))))) = some true := H
              have A9 := Aside0.mk A90
              clear A90
              replace H := Option.bind_eq_some_iff.mp H
              obtain ⟨⟨t252, t253⟩, A100, H⟩ := H
              replace H : ((frame_Pack.f 0 0 false (⟨#[]⟩ : ByteArray)).bind fun bt254 => ((frame_Parse.f k t248).bind fun bt256 => (if 0 ≤ 9 then (if 9 ≤ ((strOfNums y245).size : Int) then ((frame_Parse.f k ((strOfNums y245).extract 0 9)).bind fun bt263 => (if 0 ≤ 32768 then (if 32768 ≤ ((strOfNums y245).size : Int) then ((frame_Pieces.f k 1 0 ((strOfNums y245).extract 0 32768) 1).bind fun bt270 => ((frame_Pieces.f k 1 0 (strOfNums y245) 240).bind fun bt274 => ((frame_Join.f bt270.1).bind fun bt278 => ((some (([] : List (S30)) : List (S30))).bind fun y280 => (if 0 ≤ (mn (bt270.1.length : Int) 200) then (if (mn (bt270.1.length : Int) 200) ≤ (bt270.1.length : Int) then ((some (bt270.1.take ((mn (bt270.1.length : Int) 200) : Int).toNat : List (S30))).bind fun y283 => (if y280.length + y283.length < 5864062014805 then (foghornlaw25_FrameNames.l0 k (strOfNums y245) t248 t249 t251 t253 bt254.2 bt256.2.2.2.2.1 bt256.2.2.2.2.2 bt263.2.2.2.2.2 bt270.1 bt270.2 bt274.2 bt278.1 bt278.2 (y280 ++ y283) 0) else (none))) else (none)) else (none)))))) else (none)) else (none))) else (none)) else (none)))) = some true := H
              have A10 := Aside0.mk A100
              clear A100
              replace H := Option.bind_eq_some_iff.mp H
              obtain ⟨⟨t254, t255⟩, A110, H⟩ := H
              replace H : ((frame_Parse.f k t248).bind fun bt256 => (if 0 ≤ 9 then (if 9 ≤ ((strOfNums y245).size : Int) then ((frame_Parse.f k ((strOfNums y245).extract 0 9)).bind fun bt263 => (if 0 ≤ 32768 then (if 32768 ≤ ((strOfNums y245).size : Int) then ((frame_Pieces.f k 1 0 ((strOfNums y245).extract 0 32768) 1).bind fun bt270 => ((frame_Pieces.f k 1 0 (strOfNums y245) 240).bind fun bt274 => ((frame_Join.f bt270.1).bind fun bt278 => ((some (([] : List (S30)) : List (S30))).bind fun y280 => (if 0 ≤ (mn (bt270.1.length : Int) 200) then (if (mn (bt270.1.length : Int) 200) ≤ (bt270.1.length : Int) then ((some (bt270.1.take ((mn (bt270.1.length : Int) 200) : Int).toNat : List (S30))).bind fun y283 => (if y280.length + y283.length < 5864062014805 then (foghornlaw25_FrameNames.l0 k (strOfNums y245) t248 t249 t251 t253 t255 bt256.2.2.2.2.1 bt256.2.2.2.2.2 bt263.2.2.2.2.2 bt270.1 bt270.2 bt274.2 bt278.1 bt278.2 (y280 ++ y283) 0) else (none))) else (none)) else (none)))))) else (none)) else (none))) else (none)) else (none))) = some true := H
              have A11 := Aside0.mk A110
              clear A110
              replace H := Option.bind_eq_some_iff.mp H
              obtain ⟨⟨t256, t257, t258, t259, t260, t261⟩, A120, H⟩ := H
              replace H : (if 0 ≤ 9 then (if 9 ≤ ((strOfNums y245).size : Int) then ((frame_Parse.f k ((strOfNums y245).extract 0 9)).bind fun bt263 => (if 0 ≤ 32768 then (if 32768 ≤ ((strOfNums y245).size : Int) then ((frame_Pieces.f k 1 0 ((strOfNums y245).extract 0 32768) 1).bind fun bt270 => ((frame_Pieces.f k 1 0 (strOfNums y245) 240).bind fun bt274 => ((frame_Join.f bt270.1).bind fun bt278 => ((some (([] : List (S30)) : List (S30))).bind fun y280 => (if 0 ≤ (mn (bt270.1.length : Int) 200) then (if (mn (bt270.1.length : Int) 200) ≤ (bt270.1.length : Int) then ((some (bt270.1.take ((mn (bt270.1.length : Int) 200) : Int).toNat : List (S30))).bind fun y283 => (if y280.length + y283.length < 5864062014805 then (foghornlaw25_FrameNames.l0 k (strOfNums y245) t248 t249 t251 t253 t255 t260 t261 bt263.2.2.2.2.2 bt270.1 bt270.2 bt274.2 bt278.1 bt278.2 (y280 ++ y283) 0) else (none))) else (none)) else (none)))))) else (none)) else (none))) else (none)) else (none)) = some true := H
              have A12 := Aside0.mk A120
              clear A120
              by_cases c13 : 0 ≤ 9
              · rw [if_pos c13] at H
                have c13b0 := eq_true c13
                have c13b1 : decide (0 ≤ 9) = true := decide_eq_true c13
                clear c13
                by_cases c14 : 9 ≤ ((strOfNums y245).size : Int)
                · rw [if_pos c14] at H
                  have c14b0 := eq_true c14
                  have c14b1 : decide (9 ≤ ((strOfNums y245).size : Int)) = true := decide_eq_true c14
                  clear c14
                  replace H := Option.bind_eq_some_iff.mp H
                  obtain ⟨⟨t263, t264, t265, t266, t267, t268⟩, A150, H⟩ := H
                  replace H : (if 0 ≤ 32768 then (if 32768 ≤ ((strOfNums y245).size : Int) then ((frame_Pieces.f k 1 0 ((strOfNums y245).extract 0 32768) 1).bind fun bt270 => ((frame_Pieces.f k 1 0 (strOfNums y245) 240).bind fun bt274 => ((frame_Join.f bt270.1).bind fun bt278 => ((some (([] : List (S30)) : List (S30))).bind fun y280 => (if 0 ≤ (mn (bt270.1.length : Int) 200) then (if (mn (bt270.1.length : Int) 200) ≤ (bt270.1.length : Int) then ((some (bt270.1.take ((mn (bt270.1.length : Int) 200) : Int).toNat : List (S30))).bind fun y283 => (if y280.length + y283.length < 5864062014805 then (foghornlaw25_FrameNames.l0 k (strOfNums y245) t248 t249 t251 t253 t255 t260 t261 t268 bt270.1 bt270.2 bt274.2 bt278.1 bt278.2 (y280 ++ y283) 0) else (none))) else (none)) else (none)))))) else (none)) else (none)) = some true := H
                  have A15 := Aside0.mk A150
                  clear A150
                  by_cases c16 : 0 ≤ 32768
                  · rw [if_pos c16] at H
                    have c16b0 := eq_true c16
                    have c16b1 : decide (0 ≤ 32768) = true := decide_eq_true c16
                    clear c16
                    by_cases c17 : 32768 ≤ ((strOfNums y245).size : Int)
                    · rw [if_pos c17] at H
                      have c17b0 := eq_true c17
                      have c17b1 : decide (32768 ≤ ((strOfNums y245).size : Int)) = true := decide_eq_true c17
                      clear c17
                      replace H := Option.bind_eq_some_iff.mp H
                      obtain ⟨⟨t270, t271⟩, A180, H⟩ := H
                      replace H : ((frame_Pieces.f k 1 0 (strOfNums y245) 240).bind fun bt274 => ((frame_Join.f t270).bind fun bt278 => ((some (([] : List (S30)) : List (S30))).bind fun y280 => (if 0 ≤ (mn (t270.length : Int) 200) then (if (mn (t270.length : Int) 200) ≤ (t270.length : Int) then ((some (t270.take ((mn (t270.length : Int) 200) : Int).toNat : List (S30))).bind fun y283 => (if y280.length + y283.length < 5864062014805 then (foghornlaw25_FrameNames.l0 k (strOfNums y245) t248 t249 t251 t253 t255 t260 t261 t268 t270 t271 bt274.2 bt278.1 bt278.2 (y280 ++ y283) 0) else (none))) else (none)) else (none))))) = some true := H
                      have A18 := Aside0.mk A180
                      clear A180
                      replace H := Option.bind_eq_some_iff.mp H
                      obtain ⟨⟨t274, t275⟩, A190, H⟩ := H
                      replace H : ((frame_Join.f t270).bind fun bt278 => ((some (([] : List (S30)) : List (S30))).bind fun y280 => (if 0 ≤ (mn (t270.length : Int) 200) then (if (mn (t270.length : Int) 200) ≤ (t270.length : Int) then ((some (t270.take ((mn (t270.length : Int) 200) : Int).toNat : List (S30))).bind fun y283 => (if y280.length + y283.length < 5864062014805 then (foghornlaw25_FrameNames.l0 k (strOfNums y245) t248 t249 t251 t253 t255 t260 t261 t268 t270 t271 t275 bt278.1 bt278.2 (y280 ++ y283) 0) else (none))) else (none)) else (none)))) = some true := H
                      have A19 := Aside0.mk A190
                      clear A190
                      replace H := Option.bind_eq_some_iff.mp H
                      obtain ⟨⟨t278, t279⟩, A200, H⟩ := H
                      replace H : ((some (([] : List (S30)) : List (S30))).bind fun y280 => (if 0 ≤ (mn (t270.length : Int) 200) then (if (mn (t270.length : Int) 200) ≤ (t270.length : Int) then ((some (t270.take ((mn (t270.length : Int) 200) : Int).toNat : List (S30))).bind fun y283 => (if y280.length + y283.length < 5864062014805 then (foghornlaw25_FrameNames.l0 k (strOfNums y245) t248 t249 t251 t253 t255 t260 t261 t268 t270 t271 t275 t278 t279 (y280 ++ y283) 0) else (none))) else (none)) else (none))) = some true := H
                      have A20 := Aside0.mk A200
                      clear A200
                      obtain ⟨y280, hy280⟩ : ∃ y_ : List (S30), y_ = (([] : List (S30))) := ⟨_, rfl⟩
                      replace H : (if 0 ≤ (mn (t270.length : Int) 200) then (if (mn (t270.length : Int) 200) ≤ (t270.length : Int) then ((some (t270.take ((mn (t270.length : Int) 200) : Int).toNat : List (S30))).bind fun y283 => (if y280.length + y283.length < 5864062014805 then (foghornlaw25_FrameNames.l0 k (strOfNums y245) t248 t249 t251 t253 t255 t260 t261 t268 t270 t271 t275 t278 t279 (y280 ++ y283) 0) else (none))) else (none)) else (none)) = some true := by first | (rw [hy280]; with_reducible exact H) | (have H2_ := (Option.bind_some _ _).symm.trans H; rw [hy280]; with_reducible exact H2_) | (have H2_ := (Option.bind_some _ _).symm.trans H; with_reducible exact H2_) | with_reducible exact H | (rw [hy280]; exact H) | exact H
                      have Ny280 := Aside0.mk hy280
                      clear hy280
                      obtain ⟨ji21, hji21⟩ : ∃ j_ : Int, (mn (t270.length : Int) 200) = j_ := ⟨_, rfl⟩
                      replace H : (if 0 ≤ (ji21) then (if (ji21) ≤ (t270.length : Int) then ((some (t270.take ((ji21) : Int).toNat : List (S30))).bind fun y283 => (if y280.length + y283.length < 5864062014805 then (foghornlaw25_FrameNames.l0 k (strOfNums y245) t248 t249 t251 t253 t255 t260 t261 t268 t270 t271 t275 t278 t279 (y280 ++ y283) 0) else (none))) else (none)) else (none)) = some true := by first | (rw [hji21] at H; exact H) | (simp only [hji21] at H ⊢; exact H)
                      (try rw [hji21] at A1)
                      (try rw [hji21] at A6)
                      (try rw [hji21] at A9)
                      (try rw [hji21] at A10)
                      (try rw [hji21] at A11)
                      (try rw [hji21] at A12)
                      (try rw [hji21] at A15)
                      (try rw [hji21] at A18)
                      (try rw [hji21] at A19)
                      (try rw [hji21] at A20)
                      (try (have hji21h : ji21 ≤ 200 := by (rw [← hji21]; unfold mn; (repeat' split) <;> omega)))
                      (try (have hji21g : ji21 ≤ 64 := by omega))
                      (try (have hji21l : 0 ≤ ji21 := by (rw [← hji21]; unfold mn; (repeat' split) <;> omega)))
                      (try (have hji21m : 0 ≤ ji21 := by omega))
                      have hji21_ : (if 200 < (t270.length : Int) then 200 else (t270.length : Int)) = ji21 := hji21
                      by_cases c22 : 0 ≤ (ji21)
                      · rw [if_pos c22] at H
                        have c22b0 := eq_true c22
                        have c22b1 : decide (0 ≤ (ji21)) = true := decide_eq_true c22
                        clear c22
                        by_cases c23 : (ji21) ≤ (t270.length : Int)
                        · rw [if_pos c23] at H
                          have c23b0 := eq_true c23
                          have c23b1 : decide ((ji21) ≤ (t270.length : Int)) = true := decide_eq_true c23
                          clear c23
                          obtain ⟨y283, hy283⟩ : ∃ y_ : List (S30), y_ = (t270.take ((ji21) : Int).toNat) := ⟨_, rfl⟩
                          replace H : (if y280.length + y283.length < 5864062014805 then (foghornlaw25_FrameNames.l0 k (strOfNums y245) t248 t249 t251 t253 t255 t260 t261 t268 t270 t271 t275 t278 t279 (y280 ++ y283) 0) else (none)) = some true := by first | (rw [hy283]; with_reducible exact H) | (have H2_ := (Option.bind_some _ _).symm.trans H; rw [hy283]; with_reducible exact H2_) | (have H2_ := (Option.bind_some _ _).symm.trans H; with_reducible exact H2_) | with_reducible exact H | (rw [hy283]; exact H) | exact H
                          have Ny283 := Aside0.mk hy283
                          clear hy283
                          by_cases c24 : y280.length + y283.length < 5864062014805
                          · rw [if_pos c24] at H
                            have LMc24 := Aside0.mk c24
                            clear c24
                            obtain ⟨y287, hy287⟩ : ∃ y_ : List (S30), y_ = (y280 ++ y283) := ⟨_, rfl⟩
                            replace H : (foghornlaw25_FrameNames.l0 k (strOfNums y245) t248 t249 t251 t253 t255 t260 t261 t268 t270 t271 t275 t278 t279 y287 0) = some true := by first | (rw [hy287]; with_reducible exact H) | (have H2_ := (Option.bind_some _ _).symm.trans H; rw [hy287]; with_reducible exact H2_) | (have H2_ := (Option.bind_some _ _).symm.trans H; with_reducible exact H2_) | with_reducible exact H | (rw [hy287]; exact H) | exact H
                            have Ny287 := Aside0.mk hy287
                            clear hy287
                            have H' := Aside0.mk H
                            clear H
                            go_enter Try.func6, Try.ntmps6
                            go_wp2_with (first | ((with_reducible refine gate_callee (f := 22) rfl ?_); refine goesL_ (some 26) rfl rfl Try.func22 (by kernel_rfl) rfl #[] rfl (by (try simp only [List.map_toArray, List.map_cons, List.map_nil]); first | done | rfl | (simp only [List.length_drop, List.length_take]; rfl)) ?_; (with_reducible refine (foghornlaw25_works.calls  true _ A1.out).mono ?_); rintro e w25 ⟨rfl, hb⟩; refine ⟨_, rfl, ?_⟩; have n0_ := Aside0.mk (below_step (by repeat (first | (with_reducible first | exact HB.out | apply below_alloc | apply pw_below_drewN | apply below_drew1) | exact HB.out)) hb); clear HB; have HB := n0_; clear n0_; (try clear hb); (try clear hb2); (try clear hk); (try clear hi)) | ((with_reducible refine gate_dst (N := 40) rfl ?_); (try (refine gate_guard (by rfl) ?_; dsimp only)); refine Kd.R_make (Kd.int .u8) _ 5 rfl (N := 40) rfl 46 _ _ rfl 32769 rfl rfl Try.underlying46 (.int .u8 0) 1 info5 rfl (by decide) (by omega) 0 (ok := fun _ => True) (okp := fun _ => True) rfl (fun _ hk => hk) trivial (by omega) (by omega) (Below.refl _ _) (Nat.le_refl _) ?_; intro v246 w26 ho27 hb hg_ hnew_; clear hg_ hnew_; (first | rw [← Ny245.out] at ho27 | (simp only [Int.reduceToNat] at ho27; rw [← Ny245.out] at ho27)); have n0_ := Aside0.mk (Kd.R_lower ho27 (below_size (by repeat (first | (with_reducible first | exact HB.out | apply below_alloc | apply pw_below_drewN | apply below_drew1) | exact HB.out)))); have n1_ := Aside0.mk (below_step (by repeat (first | (with_reducible first | exact HB.out | apply below_alloc | apply pw_below_drewN | apply below_drew1) | exact HB.out)) hb); clear HB; have HO247 := n0_; have HB := n1_; clear n0_ n1_; clear hb ho27; have hcv28 := own_string (P := Try.prog) Try.underlying46 Try.underlying5 Try.underlying9 (Kd.own_of_R HO247.out)) | ((with_reducible refine gate_callee (f := 15) rfl ?_); refine goesL_ (some 46) rfl rfl Try.func15 (by kernel_rfl) rfl #[.agg #[.int .u8 15, .int .u8 0, .bool false, .string ((strOfNums y245).extract 0 240)]] rfl (by (try simp only [List.map_toArray, List.map_cons, List.map_nil]); first | done | rfl | (simp only [List.length_drop, List.length_take]; rfl)) ?_; (with_reducible refine (frame_Pack.calls 15 0 false ((strOfNums y245).extract 0 240) t248 t249 _ A6.out).mono ?_); rintro e w29 ⟨rfl, hb⟩; refine ⟨_, rfl, ?_⟩; have n0_ := Aside0.mk (Kd.R_below (by (with_reducible repeat (first | apply Kd.R_alloc | apply Kd.R_drewN | apply Kd.R_drew)); exact HO247.out) hb); have n1_ := Aside0.mk (below_step (by repeat (first | (with_reducible first | exact HB.out | apply below_alloc | apply pw_below_drewN | apply below_drew1) | exact HB.out)) hb); clear HO247; clear HB; have HO247 := n0_; have HB := n1_; clear n0_ n1_; (try clear hb); (try clear hb2); (try clear hk); (try clear hi)) | ((with_reducible refine gate_callee (f := 15) rfl ?_); refine goesL_ (some 53) rfl rfl Try.func15 (by kernel_rfl) rfl #[.agg #[.int .u8 15, .int .u8 0, .bool false, .string ((strOfNums y245).extract 0 241)]] rfl (by (try simp only [List.map_toArray, List.map_cons, List.map_nil]); first | done | rfl | (simp only [List.length_drop, List.length_take]; rfl)) ?_; (with_reducible refine (frame_Pack.calls 15 0 false ((strOfNums y245).extract 0 241) t250 t251 _ A9.out).mono ?_); rintro e w30 ⟨rfl, hb⟩; refine ⟨_, rfl, ?_⟩; have n0_ := Aside0.mk (Kd.R_below (by (with_reducible repeat (first | apply Kd.R_alloc | apply Kd.R_drewN | apply Kd.R_drew)); exact HO247.out) hb); have n1_ := Aside0.mk (below_step (by repeat (first | (with_reducible first | exact HB.out | apply below_alloc | apply pw_below_drewN | apply below_drew1) | exact HB.out)) hb); clear HO247; clear HB; have HO247 := n0_; have HB := n1_; clear n0_ n1_; (try clear hb); (try clear hb2); (try clear hk); (try clear hi)) | ((with_reducible refine gate_callee (f := 15) rfl ?_); refine goesL_ (some 58) rfl rfl Try.func15 (by kernel_rfl) rfl #[.agg #[.int .u8 16, .int .u8 0, .bool false, .string (⟨#[]⟩ : ByteArray)]] rfl (by (try simp only [List.map_toArray, List.map_cons, List.map_nil]); first | done | rfl | (simp only [List.length_drop, List.length_take]; rfl)) ?_; (with_reducible refine (frame_Pack.calls 16 0 false (⟨#[]⟩ : ByteArray) t252 t253 _ A10.out).mono ?_); rintro e w31 ⟨rfl, hb⟩; refine ⟨_, rfl, ?_⟩; have n0_ := Aside0.mk (Kd.R_below (by (with_reducible repeat (first | apply Kd.R_alloc | apply Kd.R_drewN | apply Kd.R_drew)); exact HO247.out) hb); have n1_ := Aside0.mk (below_step (by repeat (first | (with_reducible first | exact HB.out | apply below_alloc | apply pw_below_drewN | apply below_drew1) | exact HB.out)) hb); clear HO247; clear HB; have HO247 := n0_; have HB := n1_; clear n0_ n1_; (try clear hb); (try clear hb2); (try clear hk); (try clear hi)) | ((with_reducible refine gate_callee (f := 15) rfl ?_); refine goesL_ (some 63) rfl rfl Try.func15 (by kernel_rfl) rfl #[.agg #[.int .u8 0, .int .u8 0, .bool false, .string (⟨#[]⟩ : ByteArray)]] rfl (by (try simp only [List.map_toArray, List.map_cons, List.map_nil]); first | done | rfl | (simp only [List.length_drop, List.length_take]; rfl)) ?_; (with_reducible refine (frame_Pack.calls 0 0 false (⟨#[]⟩ : ByteArray) t254 t255 _ A11.out).mono ?_); rintro e w32 ⟨rfl, hb⟩; refine ⟨_, rfl, ?_⟩; have n0_ := Aside0.mk (Kd.R_below (by (with_reducible repeat (first | apply Kd.R_alloc | apply Kd.R_drewN | apply Kd.R_drew)); exact HO247.out) hb); have n1_ := Aside0.mk (below_step (by repeat (first | (with_reducible first | exact HB.out | apply below_alloc | apply pw_below_drewN | apply below_drew1) | exact HB.out)) hb); clear HO247; clear HB; have HO247 := n0_; have HB := n1_; clear n0_ n1_; (try clear hb); (try clear hb2); (try clear hk); (try clear hi)) | ((with_reducible refine gate_callee (f := 17) rfl ?_); refine goesL_ (some 68) rfl rfl Try.func17 (by kernel_rfl) rfl #[.string t248] rfl (by (try simp only [List.map_toArray, List.map_cons, List.map_nil]); first | done | rfl | (simp only [List.length_drop, List.length_take]; rfl)) ?_; (with_reducible refine (frame_Parse.calls k t248 t256 t257 t258 t259 t260 t261 _ A12.out).mono ?_); rintro e w33 ⟨rfl, hb⟩; refine ⟨_, rfl, ?_⟩; have n0_ := Aside0.mk (Kd.R_below (by (with_reducible repeat (first | apply Kd.R_alloc | apply Kd.R_drewN | apply Kd.R_drew)); exact HO247.out) hb); have n1_ := Aside0.mk (below_step (by repeat (first | (with_reducible first | exact HB.out | apply below_alloc | apply pw_below_drewN | apply below_drew1) | exact HB.out)) hb); clear HO247; clear HB; have HO247 := n0_; have HB := n1_; clear n0_ n1_; (try clear hb); (try clear hb2); (try clear hk); (try clear hi)) | ((with_reducible refine gate_dst (N := 10) rfl ?_); (try (refine gate_guard (by rfl) ?_; dsimp only)); refine box_event ?hg (N := 10) ?hd (cs := #[.int .u8 0, .int .u8 0, .bool false, .string (⟨#[]⟩ : ByteArray)]) (t := 30) ?hr ?_; (case hd => rfl); (case hg => rfl); (case hr => first | (go_simp; done) | (go_simp; rfl)); intro gb262 hg w34 hbox hb; have n0_ := Aside0.mk (Kd.R_below (by (with_reducible repeat (first | apply Kd.R_alloc | apply Kd.R_drewN | apply Kd.R_drew)); exact HO247.out) hb); have n1_ := Aside0.mk (below_step (by repeat (first | (with_reducible first | exact HB.out | apply below_alloc | apply pw_below_drewN | apply below_drew1) | exact HB.out)) hb); have n2_ := Aside0.mk (hbox); have n3_ := Aside0.mk ((by rw [hg]; exact (below_size (by repeat (first | (with_reducible first | exact HB.out | apply below_alloc | apply pw_below_drewN | apply below_drew1) | exact HB.out))) : w.heap.size ≤ gb262)); have n4_ := Aside0.mk ((by rw [hg]; exact (below_size (by repeat (first | (with_reducible first | exact HB.out | apply below_alloc | apply pw_below_drewN | apply below_drew1) | exact HB.out))) : w.heap.size ≤ gb262)); clear HO247; clear HB; have HO247 := n0_; have HB := n1_; have BK262 := n2_; have GW262 := n3_; have GE262 := n4_; clear n0_ n1_ n2_ n3_ n4_; clear hb hbox hg; have hcz35_0 : w34.cell? ⟨gb262, 0, none⟩ = some (.int .u8 0) := (blk_cell BK262.out 0).trans rfl; have hcz35_1 : w34.cell? ⟨gb262, 1, none⟩ = some (.int .u8 0) := (blk_cell BK262.out 1).trans rfl; have hcz35_2 : w34.cell? ⟨gb262, 2, none⟩ = some (.bool false) := (blk_cell BK262.out 2).trans rfl; have hcz35_3 : w34.cell? ⟨gb262, 3, none⟩ = some (.string (⟨#[]⟩ : ByteArray)) := (blk_cell BK262.out 3).trans rfl; have hfz35_0 := blk_frozen BK262.out 0; have hfz35_1 := blk_frozen BK262.out 1; have hfz35_2 := blk_frozen BK262.out 2; have hfz35_3 := blk_frozen BK262.out 3) | ((with_reducible refine gate_callee (f := 17) rfl ?_); refine goesL_ (some 75) rfl rfl Try.func17 (by kernel_rfl) rfl #[.string ((strOfNums y245).extract 0 9)] rfl (by (try simp only [List.map_toArray, List.map_cons, List.map_nil]); first | done | rfl | (simp only [List.length_drop, List.length_take]; rfl)) ?_; (with_reducible refine (frame_Parse.calls k ((strOfNums y245).extract 0 9) t263 t264 t265 t266 t267 t268 _ A15.out).mono ?_); rintro e w36 ⟨rfl, hb⟩; refine ⟨_, rfl, ?_⟩; have n0_ := Aside0.mk (Kd.R_below (by (with_reducible repeat (first | apply Kd.R_alloc | apply Kd.R_drewN | apply Kd.R_drew)); exact (Kd.R_mono (Kd.R_far (p := ⟨gb262, 3, none⟩) (Kd.R_far (p := ⟨gb262, 2, none⟩) (Kd.R_far (p := ⟨gb262, 1, none⟩) (Kd.R_far (p := ⟨gb262, 0, none⟩) (Kd.R_types HO247.out BK262.out (by decide)) (fun _ hk => hk.2) (.int .u8 t256)) (fun _ hk => hk.2) (.int .u8 t257)) (fun _ hk => hk.2) (.bool t258)) (fun _ hk => hk.2) (.string t259)) (fun _ h_ => h_.1))) hb); have n1_ := Aside0.mk (blk_below (g := gb262) (o := .cells #[.int .u8 t256, .int .u8 t257, .bool t258, .string t259] 30 (0, 0)) (by (with_reducible repeat (first | refine blk_drewN ?_ _ | refine blk_drew ?_ | refine blk_alloc ?_ _)); refine blk_put (cs := #[.int .u8 t256, .int .u8 t257, .bool t258, .string (⟨#[]⟩ : ByteArray)]) ?_ 3 _ rfl; (with_reducible repeat (first | refine blk_drewN ?_ _ | refine blk_drew ?_ | refine blk_alloc ?_ _)); refine blk_put (cs := #[.int .u8 t256, .int .u8 t257, .bool false, .string (⟨#[]⟩ : ByteArray)]) ?_ 2 _ rfl; (with_reducible repeat (first | refine blk_drewN ?_ _ | refine blk_drew ?_ | refine blk_alloc ?_ _)); refine blk_put (cs := #[.int .u8 t256, .int .u8 0, .bool false, .string (⟨#[]⟩ : ByteArray)]) ?_ 1 _ rfl; (with_reducible repeat (first | refine blk_drewN ?_ _ | refine blk_drew ?_ | refine blk_alloc ?_ _)); refine blk_put (cs := #[.int .u8 0, .int .u8 0, .bool false, .string (⟨#[]⟩ : ByteArray)]) ?_ 0 _ rfl; (with_reducible repeat (first | refine blk_drewN ?_ _ | refine blk_drew ?_ | refine blk_alloc ?_ _)); exact BK262.out) hb); have n2_ := Aside0.mk (below_step (by repeat (first | (with_reducible first | exact HB.out | apply below_alloc | apply pw_below_drewN | apply below_drew1 | refine below_set ?_ GE262.out) | exact HB.out)) hb); clear HO247; clear BK262; clear HB; have HO247 := n0_; have BK262 := n1_; have HB := n2_; clear n0_ n1_ n2_; (try clear hb); (try clear hb2); (try clear hk); (try clear hi)) | ((with_reducible refine gate_dst (N := 13) rfl ?_); (try (refine gate_guard (by rfl) ?_; dsimp only)); refine box_event ?hg (N := 13) ?hd (cs := #[.int .u8 0, .int .u8 0, .bool false, .string (⟨#[]⟩ : ByteArray)]) (t := 30) ?hr ?_; (case hd => rfl); (case hg => rfl); (case hr => first | (go_simp; done) | (go_simp; rfl)); intro gb269 hg w37 hbox hb; have n0_ := Aside0.mk (Kd.R_below (by (with_reducible repeat (first | apply Kd.R_alloc | apply Kd.R_drewN | apply Kd.R_drew)); exact HO247.out) hb); have n1_ := Aside0.mk (blk_below (g := gb262) (o := .cells #[.int .u8 t256, .int .u8 t257, .bool t258, .string t259] 30 (0, 0)) (by (with_reducible repeat (first | refine blk_drewN ?_ _ | refine blk_drew ?_ | refine blk_alloc ?_ _)); exact BK262.out) hb); have n2_ := Aside0.mk (below_step (by repeat (first | (with_reducible first | exact HB.out | apply below_alloc | apply pw_below_drewN | apply below_drew1 | refine below_set ?_ GE262.out) | exact HB.out)) hb); have n3_ := Aside0.mk (hbox); have n4_ := Aside0.mk ((by rw [hg]; exact (below_size (by repeat (first | (with_reducible first | exact HB.out | apply below_alloc | apply pw_below_drewN | apply below_drew1 | refine below_set ?_ GE262.out) | exact HB.out))) : w.heap.size ≤ gb269)); have n5_ := Aside0.mk ((by rw [hg]; exact (below_size (by repeat (first | (with_reducible first | exact HB.out | apply below_alloc | apply pw_below_drewN | apply below_drew1 | refine below_set ?_ GE262.out) | exact HB.out))) : w.heap.size ≤ gb269)); have n6_ := Aside0.mk ((by rw [hg]; exact Nat.ne_of_lt (blk_lt (g := gb262) (o := .cells #[.int .u8 t256, .int .u8 t257, .bool t258, .string t259] 30 (0, 0)) (by (with_reducible repeat (first | refine blk_drewN ?_ _ | refine blk_drew ?_ | refine blk_alloc ?_ _)); exact BK262.out)) : gb262 ≠ gb269)); have n7_ := Aside0.mk ((by rw [hg]; exact Nat.ne_of_gt (blk_lt (g := gb262) (o := .cells #[.int .u8 t256, .int .u8 t257, .bool t258, .string t259] 30 (0, 0)) (by (with_reducible repeat (first | refine blk_drewN ?_ _ | refine blk_drew ?_ | refine blk_alloc ?_ _)); exact BK262.out)) : gb269 ≠ gb262)); clear HO247; clear BK262; clear HB; have HO247 := n0_; have BK262 := n1_; have HB := n2_; have BK269 := n3_; have GW269 := n4_; have GE269 := n5_; have NB262_269 := n6_; have NB269_262 := n7_; clear n0_ n1_ n2_ n3_ n4_ n5_ n6_ n7_; clear hb hbox hg; have hnb38 := NB269_262.out; have hnc38 := NB262_269.out; have hcz39_0 : w37.cell? ⟨gb269, 0, none⟩ = some (.int .u8 0) := (blk_cell BK269.out 0).trans rfl; have hcz39_1 : w37.cell? ⟨gb269, 1, none⟩ = some (.int .u8 0) := (blk_cell BK269.out 1).trans rfl; have hcz39_2 : w37.cell? ⟨gb269, 2, none⟩ = some (.bool false) := (blk_cell BK269.out 2).trans rfl; have hcz39_3 : w37.cell? ⟨gb269, 3, none⟩ = some (.string (⟨#[]⟩ : ByteArray)) := (blk_cell BK269.out 3).trans rfl; have hfz39_0 := blk_frozen BK269.out 0; have hfz39_1 := blk_frozen BK269.out 1; have hfz39_2 := blk_frozen BK269.out 2; have hfz39_3 := blk_frozen BK269.out 3) | ((with_reducible refine gate_callee (f := 10) rfl ?_); refine goesL_ (some 82) rfl rfl Try.func10 (by kernel_rfl) rfl #[.int .u8 1, .int .u8 0, .string ((strOfNums y245).extract 0 32768), .int .i64 1] rfl (by (try simp only [List.map_toArray, List.map_cons, List.map_nil]); first | done | rfl | (simp only [List.length_drop, List.length_take]; rfl)) ?_; (with_reducible refine (frame_Pieces.calls k 1 0 ((strOfNums y245).extract 0 32768) 1 t270 t271 _ A18.out).mono ?_); rintro e w40 ⟨v272, rfl, ho0, hb⟩; refine ⟨_, rfl, ?_⟩; have n0_ := Aside0.mk (Kd.R_below (by (with_reducible repeat (first | apply Kd.R_alloc | apply Kd.R_drewN | apply Kd.R_drew)); exact (Kd.R_mono (Kd.R_far (p := ⟨gb269, 3, none⟩) (Kd.R_far (p := ⟨gb269, 2, none⟩) (Kd.R_far (p := ⟨gb269, 1, none⟩) (Kd.R_far (p := ⟨gb269, 0, none⟩) (Kd.R_types HO247.out BK269.out (by decide)) (fun _ hk => hk.2) (.int .u8 t263)) (fun _ hk => hk.2) (.int .u8 t264)) (fun _ hk => hk.2) (.bool t265)) (fun _ hk => hk.2) (.string t266)) (fun _ h_ => h_.1))) hb); have n1_ := Aside0.mk (Kd.R_lower (Kd.R_newB (Kd.R_newB ho0 (g := gb262) (o := .cells #[.int .u8 t256, .int .u8 t257, .bool t258, .string t259] 30 (0, 0)) (by (with_reducible repeat (first | refine blk_drewN ?_ _ | refine blk_drew ?_ | refine blk_alloc ?_ _)); refine blk_far ?_ NB262_269.out _; (with_reducible repeat (first | refine blk_drewN ?_ _ | refine blk_drew ?_ | refine blk_alloc ?_ _)); refine blk_far ?_ NB262_269.out _; (with_reducible repeat (first | refine blk_drewN ?_ _ | refine blk_drew ?_ | refine blk_alloc ?_ _)); refine blk_far ?_ NB262_269.out _; (with_reducible repeat (first | refine blk_drewN ?_ _ | refine blk_drew ?_ | refine blk_alloc ?_ _)); refine blk_far ?_ NB262_269.out _; (with_reducible repeat (first | refine blk_drewN ?_ _ | refine blk_drew ?_ | refine blk_alloc ?_ _)); exact BK262.out)) (g := gb269) (o := .cells #[.int .u8 t263, .int .u8 t264, .bool t265, .string t266] 30 (0, 0)) (by (with_reducible repeat (first | refine blk_drewN ?_ _ | refine blk_drew ?_ | refine blk_alloc ?_ _)); refine blk_put (cs := #[.int .u8 t263, .int .u8 t264, .bool t265, .string (⟨#[]⟩ : ByteArray)]) ?_ 3 _ rfl; (with_reducible repeat (first | refine blk_drewN ?_ _ | refine blk_drew ?_ | refine blk_alloc ?_ _)); refine blk_put (cs := #[.int .u8 t263, .int .u8 t264, .bool false, .string (⟨#[]⟩ : ByteArray)]) ?_ 2 _ rfl; (with_reducible repeat (first | refine blk_drewN ?_ _ | refine blk_drew ?_ | refine blk_alloc ?_ _)); refine blk_put (cs := #[.int .u8 t263, .int .u8 0, .bool false, .string (⟨#[]⟩ : ByteArray)]) ?_ 1 _ rfl; (with_reducible repeat (first | refine blk_drewN ?_ _ | refine blk_drew ?_ | refine blk_alloc ?_ _)); refine blk_put (cs := #[.int .u8 0, .int .u8 0, .bool false, .string (⟨#[]⟩ : ByteArray)]) ?_ 0 _ rfl; (with_reducible repeat (first | refine blk_drewN ?_ _ | refine blk_drew ?_ | refine blk_alloc ?_ _)); exact BK269.out)) (below_size (by repeat (first | (with_reducible first | exact HB.out | apply below_alloc | apply pw_below_drewN | apply below_drew1 | refine below_set ?_ GE262.out | refine below_set ?_ GE269.out) | exact HB.out)))); have n2_ := Aside0.mk (blk_below (g := gb262) (o := .cells #[.int .u8 t256, .int .u8 t257, .bool t258, .string t259] 30 (0, 0)) (by (with_reducible repeat (first | refine blk_drewN ?_ _ | refine blk_drew ?_ | refine blk_alloc ?_ _)); refine blk_far ?_ NB262_269.out _; (with_reducible repeat (first | refine blk_drewN ?_ _ | refine blk_drew ?_ | refine blk_alloc ?_ _)); refine blk_far ?_ NB262_269.out _; (with_reducible repeat (first | refine blk_drewN ?_ _ | refine blk_drew ?_ | refine blk_alloc ?_ _)); refine blk_far ?_ NB262_269.out _; (with_reducible repeat (first | refine blk_drewN ?_ _ | refine blk_drew ?_ | refine blk_alloc ?_ _)); refine blk_far ?_ NB262_269.out _; (with_reducible repeat (first | refine blk_drewN ?_ _ | refine blk_drew ?_ | refine blk_alloc ?_ _)); exact BK262.out) hb); have n3_ := Aside0.mk (blk_below (g := gb269) (o := .cells #[.int .u8 t263, .int .u8 t264, .bool t265, .string t266] 30 (0, 0)) (by (with_reducible repeat (first | refine blk_drewN ?_ _ | refine blk_drew ?_ | refine blk_alloc ?_ _)); refine blk_put (cs := #[.int .u8 t263, .int .u8 t264, .bool t265, .string (⟨#[]⟩ : ByteArray)]) ?_ 3 _ rfl; (with_reducible repeat (first | refine blk_drewN ?_ _ | refine blk_drew ?_ | refine blk_alloc ?_ _)); refine blk_put (cs := #[.int .u8 t263, .int .u8 t264, .bool false, .string (⟨#[]⟩ : ByteArray)]) ?_ 2 _ rfl; (with_reducible repeat (first | refine blk_drewN ?_ _ | refine blk_drew ?_ | refine blk_alloc ?_ _)); refine blk_put (cs := #[.int .u8 t263, .int .u8 0, .bool false, .string (⟨#[]⟩ : ByteArray)]) ?_ 1 _ rfl; (with_reducible repeat (first | refine blk_drewN ?_ _ | refine blk_drew ?_ | refine blk_alloc ?_ _)); refine blk_put (cs := #[.int .u8 0, .int .u8 0, .bool false, .string (⟨#[]⟩ : ByteArray)]) ?_ 0 _ rfl; (with_reducible repeat (first | refine blk_drewN ?_ _ | refine blk_drew ?_ | refine blk_alloc ?_ _)); exact BK269.out) hb); have n4_ := Aside0.mk (below_step (by repeat (first | (with_reducible first | exact HB.out | apply below_alloc | apply pw_below_drewN | apply below_drew1 | refine below_set ?_ GE262.out | refine below_set ?_ GE269.out) | exact HB.out)) hb); clear HO247; clear BK262; clear BK269; clear HB; have HO247 := n0_; have HO273 := n1_; have BK262 := n2_; have BK269 := n3_; have HB := n4_; clear n0_ n1_ n2_ n3_ n4_; (try clear hb); (try clear hb2); (try clear hk); (try clear hi); (try clear ho0)) | ((with_reducible refine gate_callee (f := 10) rfl ?_); refine goesL_ (some 87) rfl rfl Try.func10 (by kernel_rfl) rfl #[.int .u8 1, .int .u8 0, .string (strOfNums y245), .int .i64 240] rfl (by (try simp only [List.map_toArray, List.map_cons, List.map_nil]); first | done | rfl | (simp only [List.length_drop, List.length_take]; rfl)) ?_; (with_reducible refine (frame_Pieces.calls k 1 0 (strOfNums y245) 240 t274 t275 _ A19.out).mono ?_); rintro e w41 ⟨v276, rfl, ho0, hb⟩; refine ⟨_, rfl, ?_⟩; have n0_ := Aside0.mk (Kd.R_below (by (with_reducible repeat (first | apply Kd.R_alloc | apply Kd.R_drewN | apply Kd.R_drew)); exact HO247.out) hb); have n1_ := Aside0.mk (Kd.R_elder' (by (with_reducible repeat (first | apply Kd.R_alloc | apply Kd.R_drewN | apply Kd.R_drew)); exact HO273.out) (Kd.R_base ho0) hb); have n2_ := Aside0.mk (Kd.R_lower (Kd.R_newB (Kd.R_newB (Kd.R_new' ho0 (Kd.R_lt (by (with_reducible repeat (first | apply Kd.R_alloc | apply Kd.R_drewN | apply Kd.R_drew)); exact HO273.out))) (g := gb262) (o := .cells #[.int .u8 t256, .int .u8 t257, .bool t258, .string t259] 30 (0, 0)) (by (with_reducible repeat (first | refine blk_drewN ?_ _ | refine blk_drew ?_ | refine blk_alloc ?_ _)); exact BK262.out)) (g := gb269) (o := .cells #[.int .u8 t263, .int .u8 t264, .bool t265, .string t266] 30 (0, 0)) (by (with_reducible repeat (first | refine blk_drewN ?_ _ | refine blk_drew ?_ | refine blk_alloc ?_ _)); exact BK269.out)) (below_size (by repeat (first | (with_reducible first | exact HB.out | apply below_alloc | apply pw_below_drewN | apply below_drew1 | refine below_set ?_ GE262.out | refine below_set ?_ GE269.out) | exact HB.out)))); have n3_ := Aside0.mk (blk_below (g := gb262) (o := .cells #[.int .u8 t256, .int .u8 t257, .bool t258, .string t259] 30 (0, 0)) (by (with_reducible repeat (first | refine blk_drewN ?_ _ | refine blk_drew ?_ | refine blk_alloc ?_ _)); exact BK262.out) hb); have n4_ := Aside0.mk (blk_below (g := gb269) (o := .cells #[.int .u8 t263, .int .u8 t264, .bool t265, .string t266] 30 (0, 0)) (by (with_reducible repeat (first | refine blk_drewN ?_ _ | refine blk_drew ?_ | refine blk_alloc ?_ _)); exact BK269.out) hb); have n5_ := Aside0.mk (below_step (by repeat (first | (with_reducible first | exact HB.out | apply below_alloc | apply pw_below_drewN | apply below_drew1 | refine below_set ?_ GE262.out | refine below_set ?_ GE269.out) | exact HB.out)) hb); clear HO247; clear HO273; clear BK262; clear BK269; clear HB; have HO247 := n0_; have HO273 := n1_; have HO277 := n2_; have BK262 := n3_; have BK269 := n4_; have HB := n5_; clear n0_ n1_ n2_ n3_ n4_ n5_; (try clear hb); (try clear hb2); (try clear hk); (try clear hi); (try clear ho0); obtain ⟨Ao42, co42, eo42⟩ := Kd.R_slice HO273.out; subst eo42) | ((with_reducible refine gate_callee (f := 13) rfl ?_); refine goesL_ (some 92) rfl rfl Try.func13 (by kernel_rfl) rfl #[.slice Ao42 t270.length co42] rfl (by (try simp only [List.map_toArray, List.map_cons, List.map_nil]); first | done | rfl | (simp only [List.length_drop, List.length_take]; rfl)) ?_; (with_reducible refine (frame_Join.calls _ _ t270 t278 t279 _ ?side1 ?side2 A20.out).mono ?_); (case side1 => repeat (first | exact (Kd.R_reads' HO273.out).2.2 | (with_reducible refine Kd.C_alloc ?_ _) | (with_reducible refine Kd.C_drewN ?_ _) | (with_reducible refine Kd.C_drew ?_))); (case side2 => exact (Kd.R_reads' HO273.out).2.1); rintro e w43 ⟨rfl, hb⟩; refine ⟨_, rfl, ?_⟩; have n0_ := Aside0.mk (Kd.R_below (by (with_reducible repeat (first | apply Kd.R_alloc | apply Kd.R_drewN | apply Kd.R_drew)); exact HO247.out) hb); have n1_ := Aside0.mk (Kd.R_below (by (with_reducible repeat (first | apply Kd.R_alloc | apply Kd.R_drewN | apply Kd.R_drew)); exact HO273.out) hb); have n2_ := Aside0.mk (Kd.R_below (by (with_reducible repeat (first | apply Kd.R_alloc | apply Kd.R_drewN | apply Kd.R_drew)); exact HO277.out) hb); have n3_ := Aside0.mk (blk_below (g := gb262) (o := .cells #[.int .u8 t256, .int .u8 t257, .bool t258, .string t259] 30 (0, 0)) (by (with_reducible repeat (first | refine blk_drewN ?_ _ | refine blk_drew ?_ | refine blk_alloc ?_ _)); exact BK262.out) hb); have n4_ := Aside0.mk (blk_below (g := gb269) (o := .cells #[.int .u8 t263, .int .u8 t264, .bool t265, .string t266] 30 (0, 0)) (by (with_reducible repeat (first | refine blk_drewN ?_ _ | refine blk_drew ?_ | refine blk_alloc ?_ _)); exact BK269.out) hb); have n5_ := Aside0.mk (below_step (by repeat (first | (with_reducible first | exact HB.out | apply below_alloc | apply pw_below_drewN | apply below_drew1 | refine below_set ?_ GE262.out | refine below_set ?_ GE269.out) | exact HB.out)) hb); clear HO247; clear HO273; clear HO277; clear BK262; clear BK269; clear HB; have HO247 := n0_; have HO273 := n1_; have HO277 := n2_; have BK262 := n3_; have BK269 := n4_; have HB := n5_; clear n0_ n1_ n2_ n3_ n4_ n5_; (try clear hb); (try clear hb2); (try clear hk); (try clear hi)) | ((with_reducible refine gate_dst (N := 95) rfl ?_); (try (refine gate_guard (by rfl) ?_; dsimp only)); refine Kd.R_lit k30 _ 30 ?hg (N := 95) ?hd (xs := ([] : List (S30))) (inner := []) (ok := fun _ => True) (okp := fun _ => True) ?hr ?hp (fun _ hk => hk) trivial (Below.refl _ _) (Nat.le_refl _) (by simp) ?_; (case hd => rfl); (case hg => rfl); (case hr => first | (go_simp; done) | (go_simp; rfl)); (case hp => exact (Reps.none _ _)); intro v281 w44 ho45 hb hg_ hnew_; clear hg_ hnew_; (first | rw [← Ny280.out] at ho45 | (simp only [Int.reduceToNat] at ho45; rw [← Ny280.out] at ho45)); have n0_ := Aside0.mk (Kd.R_below (by (with_reducible repeat (first | apply Kd.R_alloc | apply Kd.R_drewN | apply Kd.R_drew)); exact HO247.out) hb); have n1_ := Aside0.mk (Kd.R_elder' (by (with_reducible repeat (first | apply Kd.R_alloc | apply Kd.R_drewN | apply Kd.R_drew)); exact HO273.out) (Kd.R_base ho45) hb); have n2_ := Aside0.mk (Kd.R_elder' (by (with_reducible repeat (first | apply Kd.R_alloc | apply Kd.R_drewN | apply Kd.R_drew)); exact HO277.out) (Kd.R_base ho45) hb); have n3_ := Aside0.mk (Kd.R_lower (Kd.R_newB (Kd.R_newB (Kd.R_new' (Kd.R_new' ho45 (Kd.R_lt (by (with_reducible repeat (first | apply Kd.R_alloc | apply Kd.R_drewN | apply Kd.R_drew)); exact HO273.out))) (Kd.R_lt (by (with_reducible repeat (first | apply Kd.R_alloc | apply Kd.R_drewN | apply Kd.R_drew)); exact HO277.out))) (g := gb262) (o := .cells #[.int .u8 t256, .int .u8 t257, .bool t258, .string t259] 30 (0, 0)) (by (with_reducible repeat (first | refine blk_drewN ?_ _ | refine blk_drew ?_ | refine blk_alloc ?_ _)); exact BK262.out)) (g := gb269) (o := .cells #[.int .u8 t263, .int .u8 t264, .bool t265, .string t266] 30 (0, 0)) (by (with_reducible repeat (first | refine blk_drewN ?_ _ | refine blk_drew ?_ | refine blk_alloc ?_ _)); exact BK269.out)) (below_size (by repeat (first | (with_reducible first | exact HB.out | apply below_alloc | apply pw_below_drewN | apply below_drew1 | refine below_set ?_ GE262.out | refine below_set ?_ GE269.out) | exact HB.out)))); have n4_ := Aside0.mk (blk_below (g := gb262) (o := .cells #[.int .u8 t256, .int .u8 t257, .bool t258, .string t259] 30 (0, 0)) (by (with_reducible repeat (first | refine blk_drewN ?_ _ | refine blk_drew ?_ | refine blk_alloc ?_ _)); exact BK262.out) hb); have n5_ := Aside0.mk (blk_below (g := gb269) (o := .cells #[.int .u8 t263, .int .u8 t264, .bool t265, .string t266] 30 (0, 0)) (by (with_reducible repeat (first | refine blk_drewN ?_ _ | refine blk_drew ?_ | refine blk_alloc ?_ _)); exact BK269.out) hb); have n6_ := Aside0.mk (below_step (by repeat (first | (with_reducible first | exact HB.out | apply below_alloc | apply pw_below_drewN | apply below_drew1 | refine below_set ?_ GE262.out | refine below_set ?_ GE269.out) | exact HB.out)) hb); clear HO247; clear HO273; clear HO277; clear BK262; clear BK269; clear HB; have HO247 := n0_; have HO273 := n1_; have HO277 := n2_; have HO282 := n3_; have BK262 := n4_; have BK269 := n5_; have HB := n6_; clear n0_ n1_ n2_ n3_ n4_ n5_ n6_; clear hb ho45; have q46 : ((ji21) : Int) ≤ ((t270.length : Int) : Int) := of_decide_eq_true (by first | (with_reducible assumption) | assumption); obtain ⟨i046, hi046, _, hsz46, _⟩ := info_parts info30; have hroom46 : t270.length ≤ co42 := (Kd.R_reads' HO273.out).2.1; have hC46 : Kd.C k30 _ Ao42 t270.length t270 := (Kd.R_reads' HO273.out).2.2; have hcut46 := cut_to (P := Try.prog) 22 30 .i64 Try.underlying22 hi046 Ao42 t270.length co42 (ji21) (of_decide_eq_true (by first | (with_reducible assumption) | assumption)) q46 hroom46; have hr46 := Kd.C_take (m := ((ji21) : Int).toNat) hC46 (by omega); have hy46 : y283.length = ((ji21) : Int).toNat := (by rw [Ny283.out, List.length_take]; omega); rw [← Ny283.out] at hr46; rw [← hy46] at hcut46; have HR286 := Aside0.mk hr46; have HC286 := Aside0.mk (show y283.length ≤ co42 from by omega); clear hr46 hC46 hroom46 hi046 hsz46; have KY46 := Aside0.mk hy46; clear hy46; have KL46 := Aside0.mk (show ((ji21) : Int).toNat ≤ t270.length from by omega); replace q46 := eq_true q46) | ((with_reducible refine gate_builtin (b := .append) (xs := #[.tmp 95, .tmp 100]) rfl ?_); (try (refine gate_guard (by rfl) ?_; dsimp only)); at_builtin; refine Kd.R_append_rows k30 (w0 := w) w.heap.size rfl (.tmp 95) (.tmp 100) 22 30 (.agg #[(.int .u8 0), (.int .u8 0), (.bool false), (.string ⟨#[]⟩)]) 24 rfl Try.underlying22 info30 rfl (by decide) (by omega) v281 y280 y283 _ _ _ (fun k_ => some k_ ≠ (.slice Ao42 t270.length co42 : Value).ownBlock ∧ some k_ ≠ (v276 : Value).ownBlock ∧ k_ ≠ gb262 ∧ k_ ≠ gb269) (fun _ => False) rfl rfl ?aO ?aR (fun _ _ h => h) (fun _ h => h.elim) ?aF ?aB ?aS ?aL ?_; (case aR => repeat (first | exact (by repeat (first | (with_reducible exact HR286.out) | (with_reducible refine Kd.C_alloc ?_ _) | (with_reducible refine Kd.C_drewN ?_ _) | (with_reducible refine Kd.C_drew ?_) | exact HR286.out)) | (with_reducible refine Kd.C_alloc ?_ _) | (with_reducible refine Kd.C_drewN ?_ _) | (with_reducible refine Kd.C_drew ?_))); (case aB => exact (by repeat (first | (with_reducible first | exact HB.out | apply below_alloc | apply pw_below_drewN | apply below_drew1 | refine below_set ?_ GE262.out | refine below_set ?_ GE269.out) | exact HB.out))); (case aF => exact (fun k_ hk => ⟨Kd.fresh' (Kd.R_lt (by (with_reducible repeat (first | apply Kd.R_alloc | apply Kd.R_drewN | apply Kd.R_drew)); exact HO273.out)) k_ hk, Kd.fresh' (Kd.R_lt (by (with_reducible repeat (first | apply Kd.R_alloc | apply Kd.R_drewN | apply Kd.R_drew)); exact HO277.out)) k_ hk, Kd.freshB (g := gb262) (o := .cells #[.int .u8 t256, .int .u8 t257, .bool t258, .string t259] 30 (0, 0)) (by (with_reducible repeat (first | refine blk_drewN ?_ _ | refine blk_drew ?_ | refine blk_alloc ?_ _)); exact BK262.out) k_ hk, Kd.freshB (g := gb269) (o := .cells #[.int .u8 t263, .int .u8 t264, .bool t265, .string t266] 30 (0, 0)) (by (with_reducible repeat (first | refine blk_drewN ?_ _ | refine blk_drew ?_ | refine blk_alloc ?_ _)); exact BK269.out) k_ hk⟩)); (case aO => exact (by (with_reducible repeat (first | apply Kd.R_alloc | apply Kd.R_drewN | apply Kd.R_drew)); exact Kd.R_mono HO282.out (fun _ hk => ⟨hk.1.1.1.2, ⟨hk.1.1.2, ⟨hk.1.2, hk.2⟩⟩⟩))); (case aS => exact (below_size (by repeat (first | (with_reducible first | exact HB.out | apply below_alloc | apply pw_below_drewN | apply below_drew1 | refine below_set ?_ GE262.out | refine below_set ?_ GE269.out) | exact HB.out)))); (case aL => have := LMc24.out; omega); intro v288 w47 ho hb hg hat; rw [← Ny287.out] at ho; have n0_ := Aside0.mk (Kd.R_over' (by (with_reducible repeat (first | apply Kd.R_alloc | apply Kd.R_drewN | apply Kd.R_drew)); exact HO247.out) (Kd.R_typed (by (with_reducible repeat (first | apply Kd.R_alloc | apply Kd.R_drewN | apply Kd.R_drew)); exact HO282.out)) (by decide) hg); have n1_ := Aside0.mk (blk_grown (g := gb262) (o := .cells #[.int .u8 t256, .int .u8 t257, .bool t258, .string t259] 30 (0, 0)) (by (with_reducible repeat (first | refine blk_drewN ?_ _ | refine blk_drew ?_ | refine blk_alloc ?_ _)); exact BK262.out) hg (Kd.R_away HO282.out (fun _ hk => hk.1.2))); have n2_ := Aside0.mk (blk_grown (g := gb269) (o := .cells #[.int .u8 t263, .int .u8 t264, .bool t265, .string t266] 30 (0, 0)) (by (with_reducible repeat (first | refine blk_drewN ?_ _ | refine blk_drew ?_ | refine blk_alloc ?_ _)); exact BK269.out) hg (Kd.R_away HO282.out (fun _ hk => hk.2))); have n3_ := Aside0.mk (Kd.R_after (ok := (fun k_ => some k_ ≠ (v276 : Value).ownBlock ∧ k_ ≠ gb262 ∧ k_ ≠ gb269)) (by (with_reducible repeat (first | apply Kd.R_alloc | apply Kd.R_drewN | apply Kd.R_drew)); exact Kd.R_mono HO273.out (fun _ hk => ⟨⟨hk.1.2, ⟨hk.1.1.1.2, hk.1.1.2⟩⟩, hk.2⟩)) hg hat); have n4_ := Aside0.mk (Kd.R_after (ok := (fun k_ => some k_ ≠ (.slice Ao42 t270.length co42 : Value).ownBlock ∧ k_ ≠ gb262 ∧ k_ ≠ gb269)) (by (with_reducible repeat (first | apply Kd.R_alloc | apply Kd.R_drewN | apply Kd.R_drew)); exact Kd.R_mono HO277.out (fun _ hk => ⟨⟨hk.1.1.1.2, ⟨hk.1.1.2, hk.1.2⟩⟩, hk.2⟩)) hg hat); have n5_ := Aside0.mk (hb); have n6_ := Aside0.mk ((show Kd.C k30 w47 Ao42 y283.length y283 from by rw [Ny283.out]; exact Kd.C_take (m := ((ji21) : Int).toNat) ((Kd.R_reads' (Kd.R_after (ok := (fun k_ => some k_ ≠ (v276 : Value).ownBlock ∧ k_ ≠ gb262 ∧ k_ ≠ gb269)) (by (with_reducible repeat (first | apply Kd.R_alloc | apply Kd.R_drewN | apply Kd.R_drew)); exact Kd.R_mono HO273.out (fun _ hk => ⟨⟨hk.1.2, ⟨hk.1.1.1.2, hk.1.1.2⟩⟩, hk.2⟩)) hg hat)).2.2) KL46.out)); have n7_ := Aside0.mk (ho); clear HO247; clear BK262; clear BK269; clear HO273; clear HO277; clear HB; clear HR286; clear HO282; have HO247 := n0_; have BK262 := n1_; have BK269 := n2_; have HO273 := n3_; have HO277 := n4_; have HB := n5_; have HR286 := n6_; have HO289 := n7_; clear n0_ n1_ n2_ n3_ n4_ n5_ n6_ n7_; clear ho hb hg hat))
                            go_loopg [23] k (fun kq v23 w' => ∃ (x22_1 : List (S30)) (x23_1 : Int) (x263000_1 : Int) (x263001_1 : Int) (x263002_1 : Bool) (x263003_1 : ByteArray) (x270000_1 : Int) (x270001_1 : Int) (x270002_1 : Bool) (x270003_1 : ByteArray), v23 = .int .i64 x23_1 ∧ Aside0 (foghornlaw25_FrameNames.l0 kq (strOfNums y245) t248 t249 t251 t253 t255 t260 t261 t268 t270 t271 t275 t278 t279 x22_1 x23_1 = some true) ∧ Aside0 (kq ≤ k) ∧ Aside0 (Kd.R k30 30 w' w.heap.size (fun k_ => some k_ ≠ (v288 : Value).ownBlock ∧ k_ ≠ gb262 ∧ k_ ≠ gb269) (.slice Ao42 t270.length co42) t270) ∧ Aside0 (Kd.R k30 30 w' w.heap.size (fun k_ => some k_ ≠ ((.slice Ao42 t270.length co42) : Value).ownBlock ∧ k_ ≠ gb262 ∧ k_ ≠ gb269) v288 x22_1) ∧ Aside0 (w'.heap[gb262]? = some (.cells #[.int .u8 x263000_1, .int .u8 x263001_1, .bool x263002_1, .string x263003_1] 30 (0, 0))) ∧ Aside0 (w'.heap[gb269]? = some (.cells #[.int .u8 x270000_1, .int .u8 x270001_1, .bool x270002_1, .string x270003_1] 30 (0, 0))) ∧ Aside0 (Below w.heap.size w w'))
                            case atStart => exact ⟨(y287), (0), (t256), (t257), (t258), (t259), (t263), (t264), (t265), (t266), (by first | rfl | (simp; done) | (simp [*]; done) | (simp; omega) | (congr 1; omega) | (rw [hR_]; done) | (simp only [hR_]; done) | (simp [hR_]; done)), H', ⟨Nat.le_refl _⟩, ⟨by (with_reducible repeat (first | apply Kd.R_alloc | apply Kd.R_drewN | apply Kd.R_drew)); exact Kd.R_mono HO273.out (fun _ hk => ⟨hk.2, ⟨hk.1.2.1, hk.1.2.2⟩⟩)⟩, ⟨by (with_reducible repeat (first | apply Kd.R_alloc | apply Kd.R_drewN | apply Kd.R_drew)); exact Kd.R_mono HO289.out (fun _ hk => ⟨hk.1, ⟨hk.2.2.1, hk.2.2.2⟩⟩)⟩, ⟨by (with_reducible repeat (first | refine blk_drewN ?_ _ | refine blk_drew ?_ | refine blk_alloc ?_ _)); exact BK262.out⟩, ⟨by (with_reducible repeat (first | refine blk_drewN ?_ _ | refine blk_drew ?_ | refine blk_alloc ?_ _)); exact BK269.out⟩, ⟨by repeat (first | (with_reducible first | exact HB.out | apply below_alloc | apply pw_below_drewN | apply below_drew1 | refine below_set ?_ GE262.out | refine below_set ?_ GE269.out) | exact HB.out)⟩⟩
                            case round =>
                              clear H'
                              try clear c1
                              try clear c2
                              try clear p2
                              try clear hcv2
                              try clear c3
                              try clear c3b0
                              try clear c3b1
                              try clear c4
                              try clear c4b0
                              try clear c4b1
                              try clear q4
                              try clear c5
                              try clear c5b0
                              try clear c5b1
                              try clear c6
                              try clear c7
                              try clear c7b0
                              try clear c7b1
                              try clear c8
                              try clear c8b0
                              try clear c8b1
                              try clear c10
                              try clear c13
                              try clear c13b0
                              try clear c13b1
                              try clear c14
                              try clear c14b0
                              try clear c14b1
                              try clear c15
                              try clear c16
                              try clear c16b0
                              try clear c16b1
                              try clear c17
                              try clear c17b0
                              try clear c17b1
                              try clear c22
                              try clear c22b0
                              try clear c22b1
                              try clear c23
                              try clear c23b0
                              try clear c23b1
                              try clear c24
                              try clear hcv28
                              try clear c38
                              try clear q46
                              try clear hcz35_0
                              try clear hcz35_1
                              try clear hcz35_2
                              try clear hcz35_3
                              try clear hcz39_0
                              try clear hcz39_1
                              try clear hcz39_2
                              try clear hcz39_3
                              try clear hfz35_0
                              try clear hfz35_1
                              try clear hfz35_2
                              try clear hfz35_3
                              try clear hfz39_0
                              try clear hfz39_1
                              try clear hfz39_2
                              try clear hfz39_3
                              try clear q46
                              obtain ⟨x22_1, x23_1, x263000_1, x263001_1, x263002_1, x263003_1, x270000_1, x270001_1, x270002_1, x270003_1, rfl, HA, HK1, HO_16, HO_22, BK262, BK269, HB⟩ := hrel
                              cases gk with
                              | zero => exact absurd HA.out (by simp [foghornlaw25_FrameNames.l0])
                              | succ k1 =>
                                have H := HA.out
                                clear HA
                                simp only [foghornlaw25_FrameNames.l0] at H
                                by_cases c48 : x23_1 < (x22_1.length : Int)
                                · rw [if_pos c48] at H
                                  have c48b0 : decide (x23_1 < (x22_1.length : Int)) = true := decide_eq_true c48
                                  clear c48
                                  by_cases c49 : 0 ≤ 164
                                  · rw [if_pos c49] at H
                                    have c49b0 := eq_true c49
                                    have c49b1 : decide (0 ≤ 164) = true := decide_eq_true c49
                                    clear c49
                                    by_cases c50 : 164 ≤ ((strOfNums y245).size : Int)
                                    · rw [if_pos c50] at H
                                      have c50b0 := eq_true c50
                                      have c50b1 : decide (164 ≤ ((strOfNums y245).size : Int)) = true := decide_eq_true c50
                                      clear c50
                                      by_cases c51 : 0 ≤ x23_1
                                      · rw [if_pos c51] at H
                                        have c51b0 : decide (0 ≤ x23_1) = true := decide_eq_true c51
                                        clear c51
                                        obtain ⟨y290, hy290⟩ : ∃ y_ : List (S30), y_ = (x22_1.set (x23_1 : Int).toNat (⟨1, (x23_1) % 256, decide (x23_1 < (wrap64 ((x22_1.length : Int) - 1))), (strOfNums y245).extract 0 164⟩ : S30)) := ⟨_, rfl⟩
                                        replace H : (foghornlaw25_FrameNames.l0 k1 (strOfNums y245) t248 t249 t251 t253 t255 t260 t261 t268 t270 t271 t275 t278 t279 y290 (wrap64 (x23_1 + 1))) = some true := by first | (rw [hy290]; with_reducible exact H) | (have H2_ := (Option.bind_some _ _).symm.trans H; rw [hy290]; with_reducible exact H2_) | (have H2_ := (Option.bind_some _ _).symm.trans H; with_reducible exact H2_) | with_reducible exact H | (rw [hy290]; exact H) | exact H
                                        have Ny290 := Aside0.mk hy290
                                        clear hy290
                                        have H' := Aside0.mk H
                                        clear H
                                        obtain ⟨Ao53, co53, eo53⟩ := Kd.R_slice HO_22.out
                                        subst eo53
                                        have p52 : 0 ≤ (x23_1 : Int) := of_decide_eq_true (by first | (with_reducible assumption) | assumption)
                                        have q52 : (x23_1 : Int) < ((x22_1.length : Int) : Int) := of_decide_eq_true (by first | (with_reducible assumption) | assumption)
                                        obtain ⟨go52, co52, eo52, gb52, gl52, cl52, HG52⟩ := Kd.R_form HO_22.out (by omega)
                                        (first | cases eo52 | (injection eo52 with ea_ en_ ec_; (first | subst ea_ | (injection ea_ with ea_; subst ea_)); subst ec_; clear en_))
                                        have GB52 := Aside0.mk gb52
                                        have GG52 := Aside0.mk HG52
                                        clear gb52 gl52 HG52
                                        obtain ⟨ce52, hcl52, hM52, hcc52, hfr52⟩ := Kd.R_elem HO_22.out z30 (x23_1 : Int) p52 q52
                                        obtain rfl := k30_openM hM52
                                        have hx52_0 : wr.cell? ⟨go52, (x23_1 : Int).toNat * 4, none⟩ = some (.int .u8 ((rd_T30 x22_1 x23_1).f0)) := hcc52 0 _ rfl
                                        have hx52_1 : wr.cell? ⟨go52, (x23_1 : Int).toNat * 4 + 1, none⟩ = some (.int .u8 ((rd_T30 x22_1 x23_1).f1)) := hcc52 1 _ rfl
                                        have hx52_2 : wr.cell? ⟨go52, (x23_1 : Int).toNat * 4 + 2, none⟩ = some (.bool ((rd_T30 x22_1 x23_1).f2)) := hcc52 2 _ rfl
                                        have hx52_3 : wr.cell? ⟨go52, (x23_1 : Int).toNat * 4 + 3, none⟩ = some (.string ((rd_T30 x22_1 x23_1).f3)) := hcc52 3 _ rfl
                                        have hf52_0 : wr.frozen? ⟨go52, (x23_1 : Int).toNat * 4, none⟩ = false := hfr52 0
                                        have hf52_1 : wr.frozen? ⟨go52, (x23_1 : Int).toNat * 4 + 1, none⟩ = false := hfr52 1
                                        have hf52_2 : wr.frozen? ⟨go52, (x23_1 : Int).toNat * 4 + 2, none⟩ = false := hfr52 2
                                        have hf52_3 : wr.frozen? ⟨go52, (x23_1 : Int).toNat * 4 + 3, none⟩ = false := hfr52 3
                                        clear hcl52 hcc52 hfr52 hM52
                                        replace p52 := eq_true p52
                                        replace q52 := eq_true q52
                                        have HX54 := Aside0.mk (show Kd.R k30 30 wr w.heap.size (fun k_ => some k_ ≠ (.slice Ao42 t270.length co42 : Value).ownBlock ∧ k_ ≠ gb262 ∧ k_ ≠ gb269) (.slice (some ⟨go52, 0, none⟩) x22_1.length co53) x22_1 from (by (with_reducible repeat (first | apply Kd.R_alloc | apply Kd.R_drewN | apply Kd.R_drew)); exact HO_22.out))
                                        obtain ⟨ce54, hcl54, hM54, hcc54, hfr54⟩ := Kd.R_elem HX54.out z30 (x23_1 : Int) (of_decide_eq_true (by first | (with_reducible assumption) | assumption)) (by have h_ : (x23_1 : Int) < ((x22_1.length : Int) : Int) := of_decide_eq_true (by first | (with_reducible assumption) | assumption); first | exact h_ | (have e_ := (Kd.R_reads' HO_22.out).1; omega) | simpa using h_)
                                        obtain rfl := k30_openM hM54
                                        have HP54 := Kd.R_seg HX54.out (x23_1 : Int) (of_decide_eq_true (by first | (with_reducible assumption) | assumption)) (by have h_ : (x23_1 : Int) < ((x22_1.length : Int) : Int) := of_decide_eq_true (by first | (with_reducible assumption) | assumption); first | exact h_ | (have e_ := (Kd.R_reads' HO_22.out).1; omega) | simpa using h_) (seg := [.int .u8 1, .int .u8 ((x23_1) % 256), .bool (decide (x23_1 < (wrap64 ((x22_1.length : Int) - 1)))), .string ((strOfNums y245).extract 0 164)]) (j := 0) hcl54 hcc54 (show 4 ≤ 4 from by decide) (x' := (⟨1, (x23_1) % 256, decide (x23_1 < (wrap64 ((x22_1.length : Int) - 1))), (strOfNums y245).extract 0 164⟩ : S30)) (k30_mkM _ _ _ (⟨1, (x23_1) % 256, decide (x23_1 < (wrap64 ((x22_1.length : Int) - 1))), (strOfNums y245).extract 0 164⟩ : S30) ) (fun _ hk => hk)
                                        have hx54_0 := hcc54 0 _ rfl
                                        (try simp only [show (k30).sz = 4 from rfl, Nat.mul_one, Nat.add_zero] at hx54_0)
                                        have hf54_0 := hfr54 0
                                        (try simp only [show (k30).sz = 4 from rfl, Nat.mul_one, Nat.add_zero] at hf54_0)
                                        have hx54_1 := hcc54 1 _ rfl
                                        (try simp only [show (k30).sz = 4 from rfl, Nat.mul_one, Nat.add_zero] at hx54_1)
                                        have hf54_1 := hfr54 1
                                        (try simp only [show (k30).sz = 4 from rfl, Nat.mul_one, Nat.add_zero] at hf54_1)
                                        have hx54_2 := hcc54 2 _ rfl
                                        (try simp only [show (k30).sz = 4 from rfl, Nat.mul_one, Nat.add_zero] at hx54_2)
                                        have hf54_2 := hfr54 2
                                        (try simp only [show (k30).sz = 4 from rfl, Nat.mul_one, Nat.add_zero] at hf54_2)
                                        have hx54_3 := hcc54 3 _ rfl
                                        (try simp only [show (k30).sz = 4 from rfl, Nat.mul_one, Nat.add_zero] at hx54_3)
                                        have hf54_3 := hfr54 3
                                        (try simp only [show (k30).sz = 4 from rfl, Nat.mul_one, Nat.add_zero] at hf54_3)
                                        clear hcl54 hcc54 hfr54 hM54
                                        go_wp2_with (first | ((with_reducible refine gate_store (t := 30) (p := 120) rfl ?_); refine store_event (t := 30) (p := 120) (v := ?vo_w55) (w1 := ((((wr.setCell ⟨go52, (x23_1 : Int).toNat * 4, none⟩ (.int .u8 1)).setCell ⟨go52, (x23_1 : Int).toNat * 4 + 1, none⟩ (.int .u8 ((x23_1) % 256))).setCell ⟨go52, (x23_1 : Int).toNat * 4 + 2, none⟩ (.bool (decide (x23_1 < (wrap64 ((x22_1.length : Int) - 1)))))).setCell ⟨go52, (x23_1 : Int).toNat * 4 + 3, none⟩ (.string ((strOfNums y245).extract 0 164)))) ?hg ?ho ?hn ?hr ?_; (case ho => rfl); (case hg => rfl); (case hn => rfl); (case hr => first | (go_simp; done) | (go_simp; rfl)); intro w55 hw; have hg : wr.grownBy w55 (some go52) := (by rw [hw]; exact HP54.2); have hp_ : Kd.R k30 30 w55 w.heap.size (fun k_ => some k_ ≠ (.slice Ao42 t270.length co42 : Value).ownBlock ∧ k_ ≠ gb262 ∧ k_ ≠ gb269) (.slice (some ⟨go52, 0, none⟩) x22_1.length co53) y290 := (by rw [hw, Ny290.out]; exact HP54.1); clear HP54; have n0_ := Aside0.mk (Kd.R_after (v := (.slice (some ⟨go52, 0, none⟩) x22_1.length co53)) (v1 := (.slice (some ⟨go52, 0, none⟩) x22_1.length co53)) (ok := (fun k_ => k_ ≠ gb262 ∧ k_ ≠ gb269)) (by (with_reducible repeat (first | apply Kd.R_alloc | apply Kd.R_drewN | apply Kd.R_drew)); exact Kd.R_mono HO_16.out (fun _ hk => ⟨⟨hk.2.1, hk.2.2⟩, hk.1⟩)) hg (.inl rfl)); have n1_ := Aside0.mk (hp_); have n2_ := Aside0.mk (blk_grown (g := gb262) (o := .cells #[.int .u8 x263000_1, .int .u8 x263001_1, .bool x263002_1, .string x263003_1] 30 (0, 0)) (by (with_reducible repeat (first | refine blk_drewN ?_ _ | refine blk_drew ?_ | refine blk_alloc ?_ _)); exact BK262.out) hg (Kd.R_away HO_22.out (fun _ hk => hk.2.1))); have n3_ := Aside0.mk (blk_grown (g := gb269) (o := .cells #[.int .u8 x270000_1, .int .u8 x270001_1, .bool x270002_1, .string x270003_1] 30 (0, 0)) (by (with_reducible repeat (first | refine blk_drewN ?_ _ | refine blk_drew ?_ | refine blk_alloc ?_ _)); exact BK269.out) hg (Kd.R_away HO_22.out (fun _ hk => hk.2.2))); have n4_ := Aside0.mk ((by rw [hw]; exact below_set (below_set (below_set (below_set (HB.out) GB52.out) GB52.out) GB52.out) GB52.out : Below w.heap.size w w55)); clear HO_16; clear HO_22; clear BK262; clear BK269; clear HB; have HO_16 := n0_; have HO_22 := n1_; have BK262 := n2_; have BK269 := n3_; have HB := n4_; clear n0_ n1_ n2_ n3_ n4_; clear hg hw hp_))
                                        (first | go_roundg k1 | (simp only [add_plain] at *; go_roundg k1))
                                        case measure => have := HK1.out; omega
                                        case rel => exact ⟨(y290), (wrap64 (x23_1 + 1)), (x263000_1), (x263001_1), (x263002_1), (x263003_1), (x270000_1), (x270001_1), (x270002_1), (x270003_1), (by first | rfl | (simp; done) | (simp [*]; done) | (simp; omega) | (congr 1; omega) | (rw [hR_]; done) | (simp only [hR_]; done) | (simp [hR_]; done)), H', ⟨by have := HK1.out; omega⟩, ⟨by (with_reducible repeat (first | apply Kd.R_alloc | apply Kd.R_drewN | apply Kd.R_drew)); exact Kd.R_mono HO_16.out (fun _ hk => ⟨hk.2, ⟨hk.1.1, hk.1.2⟩⟩)⟩, ⟨by (with_reducible repeat (first | apply Kd.R_alloc | apply Kd.R_drewN | apply Kd.R_drew)); exact HO_22.out⟩, ⟨by (with_reducible repeat (first | refine blk_drewN ?_ _ | refine blk_drew ?_ | refine blk_alloc ?_ _)); exact BK262.out⟩, ⟨by (with_reducible repeat (first | refine blk_drewN ?_ _ | refine blk_drew ?_ | refine blk_alloc ?_ _)); exact BK269.out⟩, ⟨by repeat (first | (with_reducible first | exact HB.out | apply below_alloc | apply pw_below_drewN | apply below_drew1 | refine below_set ?_ GE262.out | refine below_set ?_ GE269.out) | exact HB.out)⟩⟩
                                      · rw [if_neg c51] at H
                                        exact absurd H (by simp)
                                    · rw [if_neg c50] at H
                                      exact absurd H (by simp)
                                  · rw [if_neg c49] at H
                                    exact absurd H (by simp)
                                · rw [if_neg c48] at H
                                  have c48b0 : decide (x23_1 < (x22_1.length : Int)) = false := decide_eq_false c48
                                  clear c48
                                  replace H := Option.bind_eq_some_iff.mp H
                                  obtain ⟨⟨t291, t292⟩, A560, H⟩ := H
                                  replace H : (if t249 = 0 then (if t251 = 1 then (if t253 = 1 then (if t255 = 1 then (if t261 = 0 then (if t268 = 4 then (if t271 = 0 then (if t275 = 1 then (if t279 = 0 then (if t292 = 1 then (if (t248.size : Int) = 249 then (if t260 = 249 then (if (t270.length : Int) = 32768 then (if 0 ≤ 32768 then (if 32768 ≤ ((strOfNums y245).size : Int) then (some (t278.toList == ((strOfNums y245).extract 0 32768).toList)) else (none)) else (none)) else (some false)) else (some false)) else (some false)) else (some false)) else (some false)) else (some false)) else (some false)) else (some false)) else (some false)) else (some false)) else (some false)) else (some false)) else (some false)) = some true := H
                                  have A56 := Aside0.mk A560
                                  clear A560
                                  by_cases c57 : t249 = 0
                                  · rw [if_pos c57] at H
                                    have c57b0 : (t249 == 0) = true := beq_iff_eq.mpr c57
                                    have c57b1 : (t249 != 0) = false := bne_eq_false_iff_eq.mpr c57
                                    clear c57
                                    by_cases c58 : t251 = 1
                                    · rw [if_pos c58] at H
                                      have c58b0 : (t251 == 1) = true := beq_iff_eq.mpr c58
                                      have c58b1 : (t251 != 1) = false := bne_eq_false_iff_eq.mpr c58
                                      clear c58
                                      by_cases c59 : t253 = 1
                                      · rw [if_pos c59] at H
                                        have c59b0 : (t253 == 1) = true := beq_iff_eq.mpr c59
                                        have c59b1 : (t253 != 1) = false := bne_eq_false_iff_eq.mpr c59
                                        clear c59
                                        by_cases c60 : t255 = 1
                                        · rw [if_pos c60] at H
                                          have c60b0 : (t255 == 1) = true := beq_iff_eq.mpr c60
                                          have c60b1 : (t255 != 1) = false := bne_eq_false_iff_eq.mpr c60
                                          clear c60
                                          by_cases c61 : t261 = 0
                                          · rw [if_pos c61] at H
                                            have c61b0 : (t261 == 0) = true := beq_iff_eq.mpr c61
                                            have c61b1 : (t261 != 0) = false := bne_eq_false_iff_eq.mpr c61
                                            clear c61
                                            by_cases c62 : t268 = 4
                                            · rw [if_pos c62] at H
                                              have c62b0 : (t268 == 4) = true := beq_iff_eq.mpr c62
                                              have c62b1 : (t268 != 4) = false := bne_eq_false_iff_eq.mpr c62
                                              clear c62
                                              by_cases c63 : t271 = 0
                                              · rw [if_pos c63] at H
                                                have c63b0 : (t271 == 0) = true := beq_iff_eq.mpr c63
                                                have c63b1 : (t271 != 0) = false := bne_eq_false_iff_eq.mpr c63
                                                clear c63
                                                by_cases c64 : t275 = 1
                                                · rw [if_pos c64] at H
                                                  have c64b0 : (t275 == 1) = true := beq_iff_eq.mpr c64
                                                  have c64b1 : (t275 != 1) = false := bne_eq_false_iff_eq.mpr c64
                                                  clear c64
                                                  by_cases c65 : t279 = 0
                                                  · rw [if_pos c65] at H
                                                    have c65b0 : (t279 == 0) = true := beq_iff_eq.mpr c65
                                                    have c65b1 : (t279 != 0) = false := bne_eq_false_iff_eq.mpr c65
                                                    clear c65
                                                    by_cases c66 : t292 = 1
                                                    · rw [if_pos c66] at H
                                                      have c66b0 : (t292 == 1) = true := beq_iff_eq.mpr c66
                                                      have c66b1 : (t292 != 1) = false := bne_eq_false_iff_eq.mpr c66
                                                      clear c66
                                                      by_cases c67 : (t248.size : Int) = 249
                                                      · rw [if_pos c67] at H
                                                        have c67b0 : ((t248.size : Int) == 249) = true := beq_iff_eq.mpr c67
                                                        have c67b1 : ((t248.size : Int) != 249) = false := bne_eq_false_iff_eq.mpr c67
                                                        clear c67
                                                        by_cases c68 : t260 = 249
                                                        · rw [if_pos c68] at H
                                                          have c68b0 : (t260 == 249) = true := beq_iff_eq.mpr c68
                                                          have c68b1 : (t260 != 249) = false := bne_eq_false_iff_eq.mpr c68
                                                          clear c68
                                                          by_cases c69 : (t270.length : Int) = 32768
                                                          · rw [if_pos c69] at H
                                                            have c69b0 : ((t270.length : Int) == 32768) = true := beq_iff_eq.mpr c69
                                                            have c69b1 : ((t270.length : Int) != 32768) = false := bne_eq_false_iff_eq.mpr c69
                                                            clear c69
                                                            by_cases c70 : 0 ≤ 32768
                                                            · rw [if_pos c70] at H
                                                              have c70b0 := eq_true c70
                                                              have c70b1 : decide (0 ≤ 32768) = true := decide_eq_true c70
                                                              clear c70
                                                              by_cases c71 : 32768 ≤ ((strOfNums y245).size : Int)
                                                              · rw [if_pos c71] at H
                                                                have c71b0 := eq_true c71
                                                                have c71b1 : decide (32768 ≤ ((strOfNums y245).size : Int)) = true := decide_eq_true c71
                                                                clear c71
                                                                have hR_ := Option.some.inj H
                                                                clear H
                                                                obtain ⟨Ao72, co72, eo72⟩ := Kd.R_slice HO_22.out
                                                                subst eo72
                                                                go_wp2_with (first | ((with_reducible refine gate_callee (f := 13) rfl ?_); refine goesL_ (some 123) rfl rfl Try.func13 (by kernel_rfl) rfl #[.slice Ao72 x22_1.length co72] rfl (by (try simp only [List.map_toArray, List.map_cons, List.map_nil]); first | done | rfl | (simp only [List.length_drop, List.length_take]; rfl)) ?_; (with_reducible refine (frame_Join.calls _ _ x22_1 t291 t292 _ ?side1 ?side2 A56.out).mono ?_); (case side1 => repeat (first | exact (Kd.R_reads' HO_22.out).2.2 | (with_reducible refine Kd.C_alloc ?_ _) | (with_reducible refine Kd.C_drewN ?_ _) | (with_reducible refine Kd.C_drew ?_))); (case side2 => exact (Kd.R_reads' HO_22.out).2.1); rintro e w73 ⟨rfl, hb⟩; refine ⟨_, rfl, ?_⟩; have n0_ := Aside0.mk (Kd.R_below (by (with_reducible repeat (first | apply Kd.R_alloc | apply Kd.R_drewN | apply Kd.R_drew)); exact HO_16.out) hb); have n1_ := Aside0.mk (Kd.R_below (by (with_reducible repeat (first | apply Kd.R_alloc | apply Kd.R_drewN | apply Kd.R_drew)); exact HO_22.out) hb); have n2_ := Aside0.mk (blk_below (g := gb262) (o := .cells #[.int .u8 x263000_1, .int .u8 x263001_1, .bool x263002_1, .string x263003_1] 30 (0, 0)) (by (with_reducible repeat (first | refine blk_drewN ?_ _ | refine blk_drew ?_ | refine blk_alloc ?_ _)); exact BK262.out) hb); have n3_ := Aside0.mk (blk_below (g := gb269) (o := .cells #[.int .u8 x270000_1, .int .u8 x270001_1, .bool x270002_1, .string x270003_1] 30 (0, 0)) (by (with_reducible repeat (first | refine blk_drewN ?_ _ | refine blk_drew ?_ | refine blk_alloc ?_ _)); exact BK269.out) hb); have n4_ := Aside0.mk (below_step (by repeat (first | (with_reducible first | exact HB.out | apply below_alloc | apply pw_below_drewN | apply below_drew1 | refine below_set ?_ GE262.out | refine below_set ?_ GE269.out) | exact HB.out)) hb); clear HO_16; clear HO_22; clear BK262; clear BK269; clear HB; have HO_16 := n0_; have HO_22 := n1_; have BK262 := n2_; have BK269 := n3_; have HB := n4_; clear n0_ n1_ n2_ n3_ n4_; (try clear hb); (try clear hb2); (try clear hk); (try clear hi)))
                                                                go_ret
                                                                exact ⟨by first | rfl | (simp [errW_none, errW_some] <;> rfl) | (simp only [← hji21]; first | rfl | (simp [errW_none, errW_some] <;> rfl)) | (simp [*, errW_none, errW_some] <;> rfl), by repeat (first | (with_reducible first | exact HB.out | apply below_alloc | apply pw_below_drewN | apply below_drew1 | refine below_set ?_ GE262.out | refine below_set ?_ GE269.out) | exact HB.out)⟩
                                                              · rw [if_neg c71] at H
                                                                exact absurd H (by simp)
                                                            · rw [if_neg c70] at H
                                                              exact absurd H (by simp)
                                                          · rw [if_neg c69] at H
                                                            have c69b0 : ((t270.length : Int) == 32768) = false := beq_eq_false_iff_ne.mpr c69
                                                            have c69b1 : ((t270.length : Int) != 32768) = true := bne_iff_ne.mpr c69
                                                            exact absurd H (by simp)
                                                        · rw [if_neg c68] at H
                                                          have c68b0 : (t260 == 249) = false := beq_eq_false_iff_ne.mpr c68
                                                          have c68b1 : (t260 != 249) = true := bne_iff_ne.mpr c68
                                                          exact absurd H (by simp)
                                                      · rw [if_neg c67] at H
                                                        have c67b0 : ((t248.size : Int) == 249) = false := beq_eq_false_iff_ne.mpr c67
                                                        have c67b1 : ((t248.size : Int) != 249) = true := bne_iff_ne.mpr c67
                                                        exact absurd H (by simp)
                                                    · rw [if_neg c66] at H
                                                      have c66b0 : (t292 == 1) = false := beq_eq_false_iff_ne.mpr c66
                                                      have c66b1 : (t292 != 1) = true := bne_iff_ne.mpr c66
                                                      exact absurd H (by simp)
                                                  · rw [if_neg c65] at H
                                                    have c65b0 : (t279 == 0) = false := beq_eq_false_iff_ne.mpr c65
                                                    have c65b1 : (t279 != 0) = true := bne_iff_ne.mpr c65
                                                    exact absurd H (by simp)
                                                · rw [if_neg c64] at H
                                                  have c64b0 : (t275 == 1) = false := beq_eq_false_iff_ne.mpr c64
                                                  have c64b1 : (t275 != 1) = true := bne_iff_ne.mpr c64
                                                  exact absurd H (by simp)
                                              · rw [if_neg c63] at H
                                                have c63b0 : (t271 == 0) = false := beq_eq_false_iff_ne.mpr c63
                                                have c63b1 : (t271 != 0) = true := bne_iff_ne.mpr c63
                                                exact absurd H (by simp)
                                            · rw [if_neg c62] at H
                                              have c62b0 : (t268 == 4) = false := beq_eq_false_iff_ne.mpr c62
                                              have c62b1 : (t268 != 4) = true := bne_iff_ne.mpr c62
                                              exact absurd H (by simp)
                                          · rw [if_neg c61] at H
                                            have c61b0 : (t261 == 0) = false := beq_eq_false_iff_ne.mpr c61
                                            have c61b1 : (t261 != 0) = true := bne_iff_ne.mpr c61
                                            exact absurd H (by simp)
                                        · rw [if_neg c60] at H
                                          have c60b0 : (t255 == 1) = false := beq_eq_false_iff_ne.mpr c60
                                          have c60b1 : (t255 != 1) = true := bne_iff_ne.mpr c60
                                          exact absurd H (by simp)
                                      · rw [if_neg c59] at H
                                        have c59b0 : (t253 == 1) = false := beq_eq_false_iff_ne.mpr c59
                                        have c59b1 : (t253 != 1) = true := bne_iff_ne.mpr c59
                                        exact absurd H (by simp)
                                    · rw [if_neg c58] at H
                                      have c58b0 : (t251 == 1) = false := beq_eq_false_iff_ne.mpr c58
                                      have c58b1 : (t251 != 1) = true := bne_iff_ne.mpr c58
                                      exact absurd H (by simp)
                                  · rw [if_neg c57] at H
                                    have c57b0 : (t249 == 0) = false := beq_eq_false_iff_ne.mpr c57
                                    have c57b1 : (t249 != 0) = true := bne_iff_ne.mpr c57
                                    exact absurd H (by simp)
                          · rw [if_neg c24] at H
                            exact absurd H (by simp)
                        · rw [if_neg c23] at H
                          exact absurd H (by simp)
                      · rw [if_neg c22] at H
                        exact absurd H (by simp)
                    · rw [if_neg c17] at H
                      exact absurd H (by simp)
                  · rw [if_neg c16] at H
                    exact absurd H (by simp)
                · rw [if_neg c14] at H
                  exact absurd H (by simp)
              · rw [if_neg c13] at H
                exact absurd H (by simp)
            · rw [if_neg c8] at H
              exact absurd H (by simp)
          · rw [if_neg c7] at H
            exact absurd H (by simp)
        · rw [if_neg c5] at H
          exact absurd H (by simp)
      · rw [if_neg c4] at H
        exact absurd H (by simp)
    · rw [if_neg c3] at H
      exact absurd H (by simp)
  · replace c2 := Bool.eq_false_iff.mpr c2
    subst c2
    have H1 : (some false) = some true := by rw [if_neg (show ¬ (false = true) by decide)] at H; exact H
    clear H
    have H := H1
    clear H1
    exact absurd H (by simp)

/-- THE ONE PURE STATEMENT of foghornlaw25_FrameNames: yours. -/
def foghornlaw25_FrameNames.Pure : Prop := ∃ k, foghornlaw25_FrameNames.f k  = some true
theorem foghornlaw25_FrameNames.walk (P : foghornlaw25_FrameNames.Pure)  (w : World)  :
    Calls Try.prog 6 #[] w fun e w' => e = .returned (.bool true) ∧ Below w.heap.size w w' := by
  obtain ⟨k, h⟩ := P  
  refine (foghornlaw25_FrameNames.calls k  true w h).mono ?_
  rintro e w' ⟨rfl, hd⟩
  exact ⟨rfl, hd⟩

/-! ### foghornlaw25_fit: function 23 -/
def foghornlaw25_fit.f (a0_0 : Int) (a0_1 : Int) (a0_2 : Bool) (a0_3 : ByteArray) : Option (Int × Int × Bool × ByteArray) := if 0 ≤ (mn (a0_3.size : Int) 240) then (if (mn (a0_3.size : Int) 240) ≤ (a0_3.size : Int) then (some ((1 + (Int.tmod a0_0 15)) % 256, a0_1, a0_2, a0_3.extract 0 ((mn (a0_3.size : Int) 240) : Int).toNat)) else (none)) else (none)
set_option maxHeartbeats 8000000 in
set_option maxRecDepth 100000 in
theorem foghornlaw25_fit.calls (a0_0 : Int) (a0_1 : Int) (a0_2 : Bool) (a0_3 : ByteArray) (r1 : Int) (r2 : Int) (r3 : Bool) (r4 : ByteArray) (w : World) (h : foghornlaw25_fit.f a0_0 a0_1 a0_2 a0_3 = some (r1, r2, r3, r4)) :
    Calls Try.prog 23 #[.agg #[.int .u8 a0_0, .int .u8 a0_1, .bool a0_2, .string a0_3]] w fun e w' => e = .returned (.agg #[.int .u8 r1, .int .u8 r2, .bool r3, .string r4]) ∧ Below w.heap.size w w' := by
  have hu30 := Try.underlying30
  have HB := Aside0.mk (Below.refl w.heap.size w)
  have H : (if 0 ≤ (mn (a0_3.size : Int) 240) then (if (mn (a0_3.size : Int) 240) ≤ (a0_3.size : Int) then (some ((1 + (Int.tmod a0_0 15)) % 256, a0_1, a0_2, a0_3.extract 0 ((mn (a0_3.size : Int) 240) : Int).toNat)) else (none)) else (none)) = some (r1, r2, r3, r4) := h
  clear h
  obtain ⟨ji2, hji2⟩ : ∃ j_ : Int, (mn (a0_3.size : Int) 240) = j_ := ⟨_, rfl⟩
  replace H : (if 0 ≤ (ji2) then (if (ji2) ≤ (a0_3.size : Int) then (some ((1 + (Int.tmod a0_0 15)) % 256, a0_1, a0_2, a0_3.extract 0 ((ji2) : Int).toNat)) else (none)) else (none)) = some (r1, r2, r3, r4) := by first | (rw [hji2] at H; exact H) | (simp only [hji2] at H ⊢; exact H)
  (try (have hji2h : ji2 ≤ 240 := by (rw [← hji2]; unfold mn; (repeat' split) <;> omega)))
  (try (have hji2g : ji2 ≤ 64 := by omega))
  (try (have hji2l : 0 ≤ ji2 := by (rw [← hji2]; unfold mn; (repeat' split) <;> omega)))
  (try (have hji2m : 0 ≤ ji2 := by omega))
  have hji2_ : (if 240 < (a0_3.size : Int) then 240 else (a0_3.size : Int)) = ji2 := hji2
  by_cases c3 : 0 ≤ (ji2)
  · rw [if_pos c3] at H
    have c3b0 := eq_true c3
    have c3b1 : decide (0 ≤ (ji2)) = true := decide_eq_true c3
    clear c3
    by_cases c4 : (ji2) ≤ (a0_3.size : Int)
    · rw [if_pos c4] at H
      have c4b0 := eq_true c4
      have c4b1 : decide ((ji2) ≤ (a0_3.size : Int)) = true := decide_eq_true c4
      clear c4
      simp only [Option.some.injEq, Prod.mk.injEq] at H
      obtain ⟨rfl, rfl, rfl, rfl⟩ := H
      go_enter Try.func23, Try.ntmps23
      go_wp2_with (first | ((with_reducible refine gate_dst (N := 1) rfl ?_); refine box_event ?hg (N := 1) ?hd (cs := #[.int .u8 a0_0, .int .u8 a0_1, .bool a0_2, .string a0_3]) (t := 30) ?hr ?_; (case hd => rfl); (case hg => rfl); (case hr => first | (go_simp; done) | (go_simp; rfl)); intro gb293 hg w5 hbox hb; have n0_ := Aside0.mk (below_step (by repeat (first | (with_reducible first | exact HB.out | apply below_alloc | apply pw_below_drewN | apply below_drew1) | exact HB.out)) hb); have n1_ := Aside0.mk (hbox); have n2_ := Aside0.mk ((by rw [hg]; exact (below_size (by repeat (first | (with_reducible first | exact HB.out | apply below_alloc | apply pw_below_drewN | apply below_drew1) | exact HB.out))) : w.heap.size ≤ gb293)); have n3_ := Aside0.mk ((by rw [hg]; exact (below_size (by repeat (first | (with_reducible first | exact HB.out | apply below_alloc | apply pw_below_drewN | apply below_drew1) | exact HB.out))) : w.heap.size ≤ gb293)); clear HB; have HB := n0_; have BK293 := n1_; have GW293 := n2_; have GE293 := n3_; clear n0_ n1_ n2_ n3_; clear hb hbox hg) | ((with_reducible refine gate_dst (N := 2) rfl ?_); refine box_event ?hg (N := 2) ?hd (cs := #[.int .u8 0, .int .u8 0, .bool false, .string (⟨#[]⟩ : ByteArray)]) (t := 30) ?hr ?_; (case hd => rfl); (case hg => rfl); (case hr => first | (go_simp; done) | (go_simp; rfl)); intro gb294 hg w6 hbox hb; have n0_ := Aside0.mk (blk_below (g := gb293) (o := .cells #[.int .u8 a0_0, .int .u8 a0_1, .bool a0_2, .string a0_3] 30 (0, 0)) (by (with_reducible repeat (first | refine blk_drewN ?_ _ | refine blk_drew ?_ | refine blk_alloc ?_ _)); exact BK293.out) hb); have n1_ := Aside0.mk (below_step (by repeat (first | (with_reducible first | exact HB.out | apply below_alloc | apply pw_below_drewN | apply below_drew1 | refine below_set ?_ GE293.out) | exact HB.out)) hb); have n2_ := Aside0.mk (hbox); have n3_ := Aside0.mk ((by rw [hg]; exact (below_size (by repeat (first | (with_reducible first | exact HB.out | apply below_alloc | apply pw_below_drewN | apply below_drew1 | refine below_set ?_ GE293.out) | exact HB.out))) : w.heap.size ≤ gb294)); have n4_ := Aside0.mk ((by rw [hg]; exact (below_size (by repeat (first | (with_reducible first | exact HB.out | apply below_alloc | apply pw_below_drewN | apply below_drew1 | refine below_set ?_ GE293.out) | exact HB.out))) : w.heap.size ≤ gb294)); have n5_ := Aside0.mk ((by rw [hg]; exact Nat.ne_of_lt (blk_lt (g := gb293) (o := .cells #[.int .u8 a0_0, .int .u8 a0_1, .bool a0_2, .string a0_3] 30 (0, 0)) (by (with_reducible repeat (first | refine blk_drewN ?_ _ | refine blk_drew ?_ | refine blk_alloc ?_ _)); exact BK293.out)) : gb293 ≠ gb294)); have n6_ := Aside0.mk ((by rw [hg]; exact Nat.ne_of_gt (blk_lt (g := gb293) (o := .cells #[.int .u8 a0_0, .int .u8 a0_1, .bool a0_2, .string a0_3] 30 (0, 0)) (by (with_reducible repeat (first | refine blk_drewN ?_ _ | refine blk_drew ?_ | refine blk_alloc ?_ _)); exact BK293.out)) : gb294 ≠ gb293)); clear BK293; clear HB; have BK293 := n0_; have HB := n1_; have BK294 := n2_; have GW294 := n3_; have GE294 := n4_; have NB293_294 := n5_; have NB294_293 := n6_; clear n0_ n1_ n2_ n3_ n4_ n5_ n6_; clear hb hbox hg; have hnb7 := NB293_294.out; have hnc7 := NB294_293.out; have hcz8_0 : w6.cell? ⟨gb293, 0, none⟩ = some (.int .u8 a0_0) := (blk_cell BK293.out 0).trans rfl; have hcz8_1 : w6.cell? ⟨gb293, 1, none⟩ = some (.int .u8 a0_1) := (blk_cell BK293.out 1).trans rfl; have hcz8_2 : w6.cell? ⟨gb293, 2, none⟩ = some (.bool a0_2) := (blk_cell BK293.out 2).trans rfl; have hcz8_3 : w6.cell? ⟨gb293, 3, none⟩ = some (.string a0_3) := (blk_cell BK293.out 3).trans rfl; have hfz8_0 := blk_frozen BK293.out 0; have hfz8_1 := blk_frozen BK293.out 1; have hfz8_2 := blk_frozen BK293.out 2; have hfz8_3 := blk_frozen BK293.out 3; have hcz9_0 : w6.cell? ⟨gb294, 0, none⟩ = some (.int .u8 0) := (blk_cell BK294.out 0).trans rfl; have hcz9_1 : w6.cell? ⟨gb294, 1, none⟩ = some (.int .u8 0) := (blk_cell BK294.out 1).trans rfl; have hcz9_2 : w6.cell? ⟨gb294, 2, none⟩ = some (.bool false) := (blk_cell BK294.out 2).trans rfl; have hcz9_3 : w6.cell? ⟨gb294, 3, none⟩ = some (.string (⟨#[]⟩ : ByteArray)) := (blk_cell BK294.out 3).trans rfl; have hfz9_0 := blk_frozen BK294.out 0; have hfz9_1 := blk_frozen BK294.out 1; have hfz9_2 := blk_frozen BK294.out 2; have hfz9_3 := blk_frozen BK294.out 3))
      refine bodyPost_ret (results_cell_row rfl _ _ gb294 30 #[.int .u8 ((1 + (Int.tmod a0_0 15)) % 256), .int .u8 a0_1, .bool a0_2, .string (a0_3.extract 0 ((ji2) : Int).toNat)] (0, 0) _ rfl (by (with_reducible repeat (first | refine blk_drewN ?_ _ | refine blk_drew ?_ | refine blk_alloc ?_ _)); refine blk_put (cs := #[.int .u8 ((1 + (Int.tmod a0_0 15)) % 256), .int .u8 a0_1, .bool a0_2, .string (⟨#[]⟩ : ByteArray)]) ?_ 3 _ rfl; (with_reducible repeat (first | refine blk_drewN ?_ _ | refine blk_drew ?_ | refine blk_alloc ?_ _)); refine blk_put (cs := #[.int .u8 ((1 + (Int.tmod a0_0 15)) % 256), .int .u8 a0_1, .bool false, .string (⟨#[]⟩ : ByteArray)]) ?_ 2 _ rfl; (with_reducible repeat (first | refine blk_drewN ?_ _ | refine blk_drew ?_ | refine blk_alloc ?_ _)); refine blk_put (cs := #[.int .u8 ((1 + (Int.tmod a0_0 15)) % 256), .int .u8 0, .bool false, .string (⟨#[]⟩ : ByteArray)]) ?_ 1 _ rfl; (with_reducible repeat (first | refine blk_drewN ?_ _ | refine blk_drew ?_ | refine blk_alloc ?_ _)); refine blk_put (cs := #[.int .u8 0, .int .u8 0, .bool false, .string (⟨#[]⟩ : ByteArray)]) ?_ 0 _ rfl; (with_reducible repeat (first | refine blk_drewN ?_ _ | refine blk_drew ?_ | refine blk_alloc ?_ _)); refine blk_far ?_ NB294_293.out _; (with_reducible repeat (first | refine blk_drewN ?_ _ | refine blk_drew ?_ | refine blk_alloc ?_ _)); refine blk_far ?_ NB294_293.out _; (with_reducible repeat (first | refine blk_drewN ?_ _ | refine blk_drew ?_ | refine blk_alloc ?_ _)); exact BK294.out) Try.underlying30 rfl (by kernel_rfl)) rfl ?_
      exact ⟨by first | rfl | (simp [errW_none, errW_some] <;> rfl) | (simp only [← hji2]; first | rfl | (simp [errW_none, errW_some] <;> rfl)) | (simp [*, errW_none, errW_some] <;> rfl), by repeat (first | (with_reducible first | exact HB.out | apply below_alloc | apply pw_below_drewN | apply below_drew1 | refine below_set ?_ GE293.out | refine below_set ?_ GE294.out) | exact HB.out)⟩
    · rw [if_neg c4] at H
      exact absurd H (by simp)
  · rw [if_neg c3] at H
    exact absurd H (by simp)

/-! ### foghornlaw25_same: function 24 -/
def foghornlaw25_same.f (a0_0 : Int) (a0_1 : Int) (a0_2 : Bool) (a0_3 : ByteArray) (a1_0 : Int) (a1_1 : Int) (a1_2 : Bool) (a1_3 : ByteArray) : Option (Bool) := if a0_0 = a1_0 then (if a0_1 = a1_1 then (if (a0_2 == a1_2) = true then (some (a0_3.toList == a1_3.toList)) else (some false)) else (some false)) else (some false)
set_option maxHeartbeats 8000000 in
set_option maxRecDepth 100000 in
theorem foghornlaw25_same.calls (a0_0 : Int) (a0_1 : Int) (a0_2 : Bool) (a0_3 : ByteArray) (a1_0 : Int) (a1_1 : Int) (a1_2 : Bool) (a1_3 : ByteArray) (r : Bool) (w : World) (h : foghornlaw25_same.f a0_0 a0_1 a0_2 a0_3 a1_0 a1_1 a1_2 a1_3 = some r) :
    Calls Try.prog 24 #[.agg #[.int .u8 a0_0, .int .u8 a0_1, .bool a0_2, .string a0_3], .agg #[.int .u8 a1_0, .int .u8 a1_1, .bool a1_2, .string a1_3]] w fun e w' => e = .returned (.bool r) ∧ Below w.heap.size w w' := by
  have hu30 := Try.underlying30
  have HB := Aside0.mk (Below.refl w.heap.size w)
  have H : (if a0_0 = a1_0 then (if a0_1 = a1_1 then (if (a0_2 == a1_2) = true then (some (a0_3.toList == a1_3.toList)) else (some false)) else (some false)) else (some false)) = some r := h
  clear h
  by_cases c3 : a0_0 = a1_0
  · rw [if_pos c3] at H
    have c3b0 : (a0_0 == a1_0) = true := beq_iff_eq.mpr c3
    have c3b1 : (a0_0 != a1_0) = false := bne_eq_false_iff_eq.mpr c3
    clear c3
    by_cases c4 : a0_1 = a1_1
    · rw [if_pos c4] at H
      have c4b0 : (a0_1 == a1_1) = true := beq_iff_eq.mpr c4
      have c4b1 : (a0_1 != a1_1) = false := bne_eq_false_iff_eq.mpr c4
      clear c4
      by_cases c5 : (a0_2 == a1_2) = true
      · rw [if_pos c5] at H
        have c5b0 : (a0_2 == a1_2) = true := c5
        (try (have c5b1 : decide (a0_2 = a1_2) = true := by simpa using c5))
        (try (have c5b2 : (a0_2 == a1_2) = true := by simpa using c5))
        clear c5
        obtain rfl := Option.some.inj H
        go_enter Try.func24, Try.ntmps24
        go_wp2_with (first | ((with_reducible refine gate_dst (N := 2) rfl ?_); refine box_event ?hg (N := 2) ?hd (cs := #[.int .u8 a0_0, .int .u8 a0_1, .bool a0_2, .string a0_3]) (t := 30) ?hr ?_; (case hd => rfl); (case hg => rfl); (case hr => first | (go_simp; done) | (go_simp; rfl)); intro gb295 hg w6 hbox hb; have n0_ := Aside0.mk (below_step (by repeat (first | (with_reducible first | exact HB.out | apply below_alloc | apply pw_below_drewN | apply below_drew1) | exact HB.out)) hb); have n1_ := Aside0.mk (hbox); have n2_ := Aside0.mk ((by rw [hg]; exact (below_size (by repeat (first | (with_reducible first | exact HB.out | apply below_alloc | apply pw_below_drewN | apply below_drew1) | exact HB.out))) : w.heap.size ≤ gb295)); have n3_ := Aside0.mk ((by rw [hg]; exact (below_size (by repeat (first | (with_reducible first | exact HB.out | apply below_alloc | apply pw_below_drewN | apply below_drew1) | exact HB.out))) : w.heap.size ≤ gb295)); clear HB; have HB := n0_; have BK295 := n1_; have GW295 := n2_; have GE295 := n3_; clear n0_ n1_ n2_ n3_; clear hb hbox hg) | ((with_reducible refine gate_dst (N := 3) rfl ?_); refine box_event ?hg (N := 3) ?hd (cs := #[.int .u8 a1_0, .int .u8 a1_1, .bool a1_2, .string a1_3]) (t := 30) ?hr ?_; (case hd => rfl); (case hg => rfl); (case hr => first | (go_simp; done) | (go_simp; rfl)); intro gb296 hg w7 hbox hb; have n0_ := Aside0.mk (blk_below (g := gb295) (o := .cells #[.int .u8 a0_0, .int .u8 a0_1, .bool a0_2, .string a0_3] 30 (0, 0)) (by (with_reducible repeat (first | refine blk_drewN ?_ _ | refine blk_drew ?_ | refine blk_alloc ?_ _)); exact BK295.out) hb); have n1_ := Aside0.mk (below_step (by repeat (first | (with_reducible first | exact HB.out | apply below_alloc | apply pw_below_drewN | apply below_drew1 | refine below_set ?_ GE295.out) | exact HB.out)) hb); have n2_ := Aside0.mk (hbox); have n3_ := Aside0.mk ((by rw [hg]; exact (below_size (by repeat (first | (with_reducible first | exact HB.out | apply below_alloc | apply pw_below_drewN | apply below_drew1 | refine below_set ?_ GE295.out) | exact HB.out))) : w.heap.size ≤ gb296)); have n4_ := Aside0.mk ((by rw [hg]; exact (below_size (by repeat (first | (with_reducible first | exact HB.out | apply below_alloc | apply pw_below_drewN | apply below_drew1 | refine below_set ?_ GE295.out) | exact HB.out))) : w.heap.size ≤ gb296)); have n5_ := Aside0.mk ((by rw [hg]; exact Nat.ne_of_lt (blk_lt (g := gb295) (o := .cells #[.int .u8 a0_0, .int .u8 a0_1, .bool a0_2, .string a0_3] 30 (0, 0)) (by (with_reducible repeat (first | refine blk_drewN ?_ _ | refine blk_drew ?_ | refine blk_alloc ?_ _)); exact BK295.out)) : gb295 ≠ gb296)); have n6_ := Aside0.mk ((by rw [hg]; exact Nat.ne_of_gt (blk_lt (g := gb295) (o := .cells #[.int .u8 a0_0, .int .u8 a0_1, .bool a0_2, .string a0_3] 30 (0, 0)) (by (with_reducible repeat (first | refine blk_drewN ?_ _ | refine blk_drew ?_ | refine blk_alloc ?_ _)); exact BK295.out)) : gb296 ≠ gb295)); clear BK295; clear HB; have BK295 := n0_; have HB := n1_; have BK296 := n2_; have GW296 := n3_; have GE296 := n4_; have NB295_296 := n5_; have NB296_295 := n6_; clear n0_ n1_ n2_ n3_ n4_ n5_ n6_; clear hb hbox hg; have hnb8 := NB295_296.out; have hnc8 := NB296_295.out; have hcz9_0 : w7.cell? ⟨gb295, 0, none⟩ = some (.int .u8 a0_0) := (blk_cell BK295.out 0).trans rfl; have hcz9_1 : w7.cell? ⟨gb295, 1, none⟩ = some (.int .u8 a0_1) := (blk_cell BK295.out 1).trans rfl; have hcz9_2 : w7.cell? ⟨gb295, 2, none⟩ = some (.bool a0_2) := (blk_cell BK295.out 2).trans rfl; have hcz9_3 : w7.cell? ⟨gb295, 3, none⟩ = some (.string a0_3) := (blk_cell BK295.out 3).trans rfl; have hfz9_0 := blk_frozen BK295.out 0; have hfz9_1 := blk_frozen BK295.out 1; have hfz9_2 := blk_frozen BK295.out 2; have hfz9_3 := blk_frozen BK295.out 3; have hcz10_0 : w7.cell? ⟨gb296, 0, none⟩ = some (.int .u8 a1_0) := (blk_cell BK296.out 0).trans rfl; have hcz10_1 : w7.cell? ⟨gb296, 1, none⟩ = some (.int .u8 a1_1) := (blk_cell BK296.out 1).trans rfl; have hcz10_2 : w7.cell? ⟨gb296, 2, none⟩ = some (.bool a1_2) := (blk_cell BK296.out 2).trans rfl; have hcz10_3 : w7.cell? ⟨gb296, 3, none⟩ = some (.string a1_3) := (blk_cell BK296.out 3).trans rfl; have hfz10_0 := blk_frozen BK296.out 0; have hfz10_1 := blk_frozen BK296.out 1; have hfz10_2 := blk_frozen BK296.out 2; have hfz10_3 := blk_frozen BK296.out 3))
        go_ret
        exact ⟨by first | rfl | (simp [errW_none, errW_some] <;> rfl) | (simp [*, errW_none, errW_some] <;> rfl), by repeat (first | (with_reducible first | exact HB.out | apply below_alloc | apply pw_below_drewN | apply below_drew1 | refine below_set ?_ GE295.out | refine below_set ?_ GE296.out) | exact HB.out)⟩
      · rw [if_neg c5] at H
        have c5b0 : (a0_2 == a1_2) = false := by simpa using c5
        (try (have c5b1 : decide (a0_2 = a1_2) = false := by simpa using c5))
        (try (have c5b2 : (a0_2 == a1_2) = false := by simpa using c5))
        (try (have c5b3 : ¬ (a0_2 = a1_2) := by simpa using c5))
        clear c5
        obtain rfl := Option.some.inj H
        go_enter Try.func24, Try.ntmps24
        go_wp2_with (first | ((with_reducible refine gate_dst (N := 2) rfl ?_); refine box_event ?hg (N := 2) ?hd (cs := #[.int .u8 a0_0, .int .u8 a0_1, .bool a0_2, .string a0_3]) (t := 30) ?hr ?_; (case hd => rfl); (case hg => rfl); (case hr => first | (go_simp; done) | (go_simp; rfl)); intro gb295 hg w11 hbox hb; have n0_ := Aside0.mk (below_step (by repeat (first | (with_reducible first | exact HB.out | apply below_alloc | apply pw_below_drewN | apply below_drew1) | exact HB.out)) hb); have n1_ := Aside0.mk (hbox); have n2_ := Aside0.mk ((by rw [hg]; exact (below_size (by repeat (first | (with_reducible first | exact HB.out | apply below_alloc | apply pw_below_drewN | apply below_drew1) | exact HB.out))) : w.heap.size ≤ gb295)); have n3_ := Aside0.mk ((by rw [hg]; exact (below_size (by repeat (first | (with_reducible first | exact HB.out | apply below_alloc | apply pw_below_drewN | apply below_drew1) | exact HB.out))) : w.heap.size ≤ gb295)); clear HB; have HB := n0_; have BK295 := n1_; have GW295 := n2_; have GE295 := n3_; clear n0_ n1_ n2_ n3_; clear hb hbox hg) | ((with_reducible refine gate_dst (N := 3) rfl ?_); refine box_event ?hg (N := 3) ?hd (cs := #[.int .u8 a1_0, .int .u8 a1_1, .bool a1_2, .string a1_3]) (t := 30) ?hr ?_; (case hd => rfl); (case hg => rfl); (case hr => first | (go_simp; done) | (go_simp; rfl)); intro gb296 hg w12 hbox hb; have n0_ := Aside0.mk (blk_below (g := gb295) (o := .cells #[.int .u8 a0_0, .int .u8 a0_1, .bool a0_2, .string a0_3] 30 (0, 0)) (by (with_reducible repeat (first | refine blk_drewN ?_ _ | refine blk_drew ?_ | refine blk_alloc ?_ _)); exact BK295.out) hb); have n1_ := Aside0.mk (below_step (by repeat (first | (with_reducible first | exact HB.out | apply below_alloc | apply pw_below_drewN | apply below_drew1 | refine below_set ?_ GE295.out) | exact HB.out)) hb); have n2_ := Aside0.mk (hbox); have n3_ := Aside0.mk ((by rw [hg]; exact (below_size (by repeat (first | (with_reducible first | exact HB.out | apply below_alloc | apply pw_below_drewN | apply below_drew1 | refine below_set ?_ GE295.out) | exact HB.out))) : w.heap.size ≤ gb296)); have n4_ := Aside0.mk ((by rw [hg]; exact (below_size (by repeat (first | (with_reducible first | exact HB.out | apply below_alloc | apply pw_below_drewN | apply below_drew1 | refine below_set ?_ GE295.out) | exact HB.out))) : w.heap.size ≤ gb296)); have n5_ := Aside0.mk ((by rw [hg]; exact Nat.ne_of_lt (blk_lt (g := gb295) (o := .cells #[.int .u8 a0_0, .int .u8 a0_1, .bool a0_2, .string a0_3] 30 (0, 0)) (by (with_reducible repeat (first | refine blk_drewN ?_ _ | refine blk_drew ?_ | refine blk_alloc ?_ _)); exact BK295.out)) : gb295 ≠ gb296)); have n6_ := Aside0.mk ((by rw [hg]; exact Nat.ne_of_gt (blk_lt (g := gb295) (o := .cells #[.int .u8 a0_0, .int .u8 a0_1, .bool a0_2, .string a0_3] 30 (0, 0)) (by (with_reducible repeat (first | refine blk_drewN ?_ _ | refine blk_drew ?_ | refine blk_alloc ?_ _)); exact BK295.out)) : gb296 ≠ gb295)); clear BK295; clear HB; have BK295 := n0_; have HB := n1_; have BK296 := n2_; have GW296 := n3_; have GE296 := n4_; have NB295_296 := n5_; have NB296_295 := n6_; clear n0_ n1_ n2_ n3_ n4_ n5_ n6_; clear hb hbox hg; have hnb13 := NB295_296.out; have hnc13 := NB296_295.out; have hcz14_0 : w12.cell? ⟨gb295, 0, none⟩ = some (.int .u8 a0_0) := (blk_cell BK295.out 0).trans rfl; have hcz14_1 : w12.cell? ⟨gb295, 1, none⟩ = some (.int .u8 a0_1) := (blk_cell BK295.out 1).trans rfl; have hcz14_2 : w12.cell? ⟨gb295, 2, none⟩ = some (.bool a0_2) := (blk_cell BK295.out 2).trans rfl; have hcz14_3 : w12.cell? ⟨gb295, 3, none⟩ = some (.string a0_3) := (blk_cell BK295.out 3).trans rfl; have hfz14_0 := blk_frozen BK295.out 0; have hfz14_1 := blk_frozen BK295.out 1; have hfz14_2 := blk_frozen BK295.out 2; have hfz14_3 := blk_frozen BK295.out 3; have hcz15_0 : w12.cell? ⟨gb296, 0, none⟩ = some (.int .u8 a1_0) := (blk_cell BK296.out 0).trans rfl; have hcz15_1 : w12.cell? ⟨gb296, 1, none⟩ = some (.int .u8 a1_1) := (blk_cell BK296.out 1).trans rfl; have hcz15_2 : w12.cell? ⟨gb296, 2, none⟩ = some (.bool a1_2) := (blk_cell BK296.out 2).trans rfl; have hcz15_3 : w12.cell? ⟨gb296, 3, none⟩ = some (.string a1_3) := (blk_cell BK296.out 3).trans rfl; have hfz15_0 := blk_frozen BK296.out 0; have hfz15_1 := blk_frozen BK296.out 1; have hfz15_2 := blk_frozen BK296.out 2; have hfz15_3 := blk_frozen BK296.out 3))
        go_ret
        exact ⟨by first | rfl | (simp [errW_none, errW_some] <;> rfl) | (simp [*, errW_none, errW_some] <;> rfl), by repeat (first | (with_reducible first | exact HB.out | apply below_alloc | apply pw_below_drewN | apply below_drew1 | refine below_set ?_ GE295.out | refine below_set ?_ GE296.out) | exact HB.out)⟩
    · rw [if_neg c4] at H
      have c4b0 : (a0_1 == a1_1) = false := beq_eq_false_iff_ne.mpr c4
      have c4b1 : (a0_1 != a1_1) = true := bne_iff_ne.mpr c4
      obtain rfl := Option.some.inj H
      go_enter Try.func24, Try.ntmps24
      go_wp2_with (first | ((with_reducible refine gate_dst (N := 2) rfl ?_); refine box_event ?hg (N := 2) ?hd (cs := #[.int .u8 a0_0, .int .u8 a0_1, .bool a0_2, .string a0_3]) (t := 30) ?hr ?_; (case hd => rfl); (case hg => rfl); (case hr => first | (go_simp; done) | (go_simp; rfl)); intro gb295 hg w16 hbox hb; have n0_ := Aside0.mk (below_step (by repeat (first | (with_reducible first | exact HB.out | apply below_alloc | apply pw_below_drewN | apply below_drew1) | exact HB.out)) hb); have n1_ := Aside0.mk (hbox); have n2_ := Aside0.mk ((by rw [hg]; exact (below_size (by repeat (first | (with_reducible first | exact HB.out | apply below_alloc | apply pw_below_drewN | apply below_drew1) | exact HB.out))) : w.heap.size ≤ gb295)); have n3_ := Aside0.mk ((by rw [hg]; exact (below_size (by repeat (first | (with_reducible first | exact HB.out | apply below_alloc | apply pw_below_drewN | apply below_drew1) | exact HB.out))) : w.heap.size ≤ gb295)); clear HB; have HB := n0_; have BK295 := n1_; have GW295 := n2_; have GE295 := n3_; clear n0_ n1_ n2_ n3_; clear hb hbox hg) | ((with_reducible refine gate_dst (N := 3) rfl ?_); refine box_event ?hg (N := 3) ?hd (cs := #[.int .u8 a1_0, .int .u8 a1_1, .bool a1_2, .string a1_3]) (t := 30) ?hr ?_; (case hd => rfl); (case hg => rfl); (case hr => first | (go_simp; done) | (go_simp; rfl)); intro gb296 hg w17 hbox hb; have n0_ := Aside0.mk (blk_below (g := gb295) (o := .cells #[.int .u8 a0_0, .int .u8 a0_1, .bool a0_2, .string a0_3] 30 (0, 0)) (by (with_reducible repeat (first | refine blk_drewN ?_ _ | refine blk_drew ?_ | refine blk_alloc ?_ _)); exact BK295.out) hb); have n1_ := Aside0.mk (below_step (by repeat (first | (with_reducible first | exact HB.out | apply below_alloc | apply pw_below_drewN | apply below_drew1 | refine below_set ?_ GE295.out) | exact HB.out)) hb); have n2_ := Aside0.mk (hbox); have n3_ := Aside0.mk ((by rw [hg]; exact (below_size (by repeat (first | (with_reducible first | exact HB.out | apply below_alloc | apply pw_below_drewN | apply below_drew1 | refine below_set ?_ GE295.out) | exact HB.out))) : w.heap.size ≤ gb296)); have n4_ := Aside0.mk ((by rw [hg]; exact (below_size (by repeat (first | (with_reducible first | exact HB.out | apply below_alloc | apply pw_below_drewN | apply below_drew1 | refine below_set ?_ GE295.out) | exact HB.out))) : w.heap.size ≤ gb296)); have n5_ := Aside0.mk ((by rw [hg]; exact Nat.ne_of_lt (blk_lt (g := gb295) (o := .cells #[.int .u8 a0_0, .int .u8 a0_1, .bool a0_2, .string a0_3] 30 (0, 0)) (by (with_reducible repeat (first | refine blk_drewN ?_ _ | refine blk_drew ?_ | refine blk_alloc ?_ _)); exact BK295.out)) : gb295 ≠ gb296)); have n6_ := Aside0.mk ((by rw [hg]; exact Nat.ne_of_gt (blk_lt (g := gb295) (o := .cells #[.int .u8 a0_0, .int .u8 a0_1, .bool a0_2, .string a0_3] 30 (0, 0)) (by (with_reducible repeat (first | refine blk_drewN ?_ _ | refine blk_drew ?_ | refine blk_alloc ?_ _)); exact BK295.out)) : gb296 ≠ gb295)); clear BK295; clear HB; have BK295 := n0_; have HB := n1_; have BK296 := n2_; have GW296 := n3_; have GE296 := n4_; have NB295_296 := n5_; have NB296_295 := n6_; clear n0_ n1_ n2_ n3_ n4_ n5_ n6_; clear hb hbox hg; have hnb18 := NB295_296.out; have hnc18 := NB296_295.out; have hcz19_0 : w17.cell? ⟨gb295, 0, none⟩ = some (.int .u8 a0_0) := (blk_cell BK295.out 0).trans rfl; have hcz19_1 : w17.cell? ⟨gb295, 1, none⟩ = some (.int .u8 a0_1) := (blk_cell BK295.out 1).trans rfl; have hcz19_2 : w17.cell? ⟨gb295, 2, none⟩ = some (.bool a0_2) := (blk_cell BK295.out 2).trans rfl; have hcz19_3 : w17.cell? ⟨gb295, 3, none⟩ = some (.string a0_3) := (blk_cell BK295.out 3).trans rfl; have hfz19_0 := blk_frozen BK295.out 0; have hfz19_1 := blk_frozen BK295.out 1; have hfz19_2 := blk_frozen BK295.out 2; have hfz19_3 := blk_frozen BK295.out 3; have hcz20_0 : w17.cell? ⟨gb296, 0, none⟩ = some (.int .u8 a1_0) := (blk_cell BK296.out 0).trans rfl; have hcz20_1 : w17.cell? ⟨gb296, 1, none⟩ = some (.int .u8 a1_1) := (blk_cell BK296.out 1).trans rfl; have hcz20_2 : w17.cell? ⟨gb296, 2, none⟩ = some (.bool a1_2) := (blk_cell BK296.out 2).trans rfl; have hcz20_3 : w17.cell? ⟨gb296, 3, none⟩ = some (.string a1_3) := (blk_cell BK296.out 3).trans rfl; have hfz20_0 := blk_frozen BK296.out 0; have hfz20_1 := blk_frozen BK296.out 1; have hfz20_2 := blk_frozen BK296.out 2; have hfz20_3 := blk_frozen BK296.out 3))
      go_ret
      exact ⟨by first | rfl | (simp [errW_none, errW_some] <;> rfl) | (simp [*, errW_none, errW_some] <;> rfl), by repeat (first | (with_reducible first | exact HB.out | apply below_alloc | apply pw_below_drewN | apply below_drew1 | refine below_set ?_ GE295.out | refine below_set ?_ GE296.out) | exact HB.out)⟩
  · rw [if_neg c3] at H
    have c3b0 : (a0_0 == a1_0) = false := beq_eq_false_iff_ne.mpr c3
    have c3b1 : (a0_0 != a1_0) = true := bne_iff_ne.mpr c3
    obtain rfl := Option.some.inj H
    go_enter Try.func24, Try.ntmps24
    go_wp2_with (first | ((with_reducible refine gate_dst (N := 2) rfl ?_); refine box_event ?hg (N := 2) ?hd (cs := #[.int .u8 a0_0, .int .u8 a0_1, .bool a0_2, .string a0_3]) (t := 30) ?hr ?_; (case hd => rfl); (case hg => rfl); (case hr => first | (go_simp; done) | (go_simp; rfl)); intro gb295 hg w21 hbox hb; have n0_ := Aside0.mk (below_step (by repeat (first | (with_reducible first | exact HB.out | apply below_alloc | apply pw_below_drewN | apply below_drew1) | exact HB.out)) hb); have n1_ := Aside0.mk (hbox); have n2_ := Aside0.mk ((by rw [hg]; exact (below_size (by repeat (first | (with_reducible first | exact HB.out | apply below_alloc | apply pw_below_drewN | apply below_drew1) | exact HB.out))) : w.heap.size ≤ gb295)); have n3_ := Aside0.mk ((by rw [hg]; exact (below_size (by repeat (first | (with_reducible first | exact HB.out | apply below_alloc | apply pw_below_drewN | apply below_drew1) | exact HB.out))) : w.heap.size ≤ gb295)); clear HB; have HB := n0_; have BK295 := n1_; have GW295 := n2_; have GE295 := n3_; clear n0_ n1_ n2_ n3_; clear hb hbox hg) | ((with_reducible refine gate_dst (N := 3) rfl ?_); refine box_event ?hg (N := 3) ?hd (cs := #[.int .u8 a1_0, .int .u8 a1_1, .bool a1_2, .string a1_3]) (t := 30) ?hr ?_; (case hd => rfl); (case hg => rfl); (case hr => first | (go_simp; done) | (go_simp; rfl)); intro gb296 hg w22 hbox hb; have n0_ := Aside0.mk (blk_below (g := gb295) (o := .cells #[.int .u8 a0_0, .int .u8 a0_1, .bool a0_2, .string a0_3] 30 (0, 0)) (by (with_reducible repeat (first | refine blk_drewN ?_ _ | refine blk_drew ?_ | refine blk_alloc ?_ _)); exact BK295.out) hb); have n1_ := Aside0.mk (below_step (by repeat (first | (with_reducible first | exact HB.out | apply below_alloc | apply pw_below_drewN | apply below_drew1 | refine below_set ?_ GE295.out) | exact HB.out)) hb); have n2_ := Aside0.mk (hbox); have n3_ := Aside0.mk ((by rw [hg]; exact (below_size (by repeat (first | (with_reducible first | exact HB.out | apply below_alloc | apply pw_below_drewN | apply below_drew1 | refine below_set ?_ GE295.out) | exact HB.out))) : w.heap.size ≤ gb296)); have n4_ := Aside0.mk ((by rw [hg]; exact (below_size (by repeat (first | (with_reducible first | exact HB.out | apply below_alloc | apply pw_below_drewN | apply below_drew1 | refine below_set ?_ GE295.out) | exact HB.out))) : w.heap.size ≤ gb296)); have n5_ := Aside0.mk ((by rw [hg]; exact Nat.ne_of_lt (blk_lt (g := gb295) (o := .cells #[.int .u8 a0_0, .int .u8 a0_1, .bool a0_2, .string a0_3] 30 (0, 0)) (by (with_reducible repeat (first | refine blk_drewN ?_ _ | refine blk_drew ?_ | refine blk_alloc ?_ _)); exact BK295.out)) : gb295 ≠ gb296)); have n6_ := Aside0.mk ((by rw [hg]; exact Nat.ne_of_gt (blk_lt (g := gb295) (o := .cells #[.int .u8 a0_0, .int .u8 a0_1, .bool a0_2, .string a0_3] 30 (0, 0)) (by (with_reducible repeat (first | refine blk_drewN ?_ _ | refine blk_drew ?_ | refine blk_alloc ?_ _)); exact BK295.out)) : gb296 ≠ gb295)); clear BK295; clear HB; have BK295 := n0_; have HB := n1_; have BK296 := n2_; have GW296 := n3_; have GE296 := n4_; have NB295_296 := n5_; have NB296_295 := n6_; clear n0_ n1_ n2_ n3_ n4_ n5_ n6_; clear hb hbox hg; have hnb23 := NB295_296.out; have hnc23 := NB296_295.out; have hcz24_0 : w22.cell? ⟨gb295, 0, none⟩ = some (.int .u8 a0_0) := (blk_cell BK295.out 0).trans rfl; have hcz24_1 : w22.cell? ⟨gb295, 1, none⟩ = some (.int .u8 a0_1) := (blk_cell BK295.out 1).trans rfl; have hcz24_2 : w22.cell? ⟨gb295, 2, none⟩ = some (.bool a0_2) := (blk_cell BK295.out 2).trans rfl; have hcz24_3 : w22.cell? ⟨gb295, 3, none⟩ = some (.string a0_3) := (blk_cell BK295.out 3).trans rfl; have hfz24_0 := blk_frozen BK295.out 0; have hfz24_1 := blk_frozen BK295.out 1; have hfz24_2 := blk_frozen BK295.out 2; have hfz24_3 := blk_frozen BK295.out 3; have hcz25_0 : w22.cell? ⟨gb296, 0, none⟩ = some (.int .u8 a1_0) := (blk_cell BK296.out 0).trans rfl; have hcz25_1 : w22.cell? ⟨gb296, 1, none⟩ = some (.int .u8 a1_1) := (blk_cell BK296.out 1).trans rfl; have hcz25_2 : w22.cell? ⟨gb296, 2, none⟩ = some (.bool a1_2) := (blk_cell BK296.out 2).trans rfl; have hcz25_3 : w22.cell? ⟨gb296, 3, none⟩ = some (.string a1_3) := (blk_cell BK296.out 3).trans rfl; have hfz25_0 := blk_frozen BK296.out 0; have hfz25_1 := blk_frozen BK296.out 1; have hfz25_2 := blk_frozen BK296.out 2; have hfz25_3 := blk_frozen BK296.out 3))
    go_ret
    exact ⟨by first | rfl | (simp [errW_none, errW_some] <;> rfl) | (simp [*, errW_none, errW_some] <;> rfl), by repeat (first | (with_reducible first | exact HB.out | apply below_alloc | apply pw_below_drewN | apply below_drew1 | refine below_set ?_ GE295.out | refine below_set ?_ GE296.out) | exact HB.out)⟩

-- NOT PRINTED: function 7 (foghornlaw25_FrameBack)

end Go.Proofs.Ytclhkbjcemgmnaa.Fog
