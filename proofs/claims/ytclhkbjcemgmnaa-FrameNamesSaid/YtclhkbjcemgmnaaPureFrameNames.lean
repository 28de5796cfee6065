/- FrameNames: the limits. A closed statement. -/
import Derived.Test.YtclhkbjcemgmnaaFogx0
import Derived.Test.YtclhkbjcemgmnaaFogx1
import Derived.Test.YtclhkbjcemgmnaaFogx11
import Derived.Test.YtclhkbjcemgmnaaFogx4
import Derived.Test.YtclhkbjcemgmnaaHandJoin
import Derived.Test.YtclhkbjcemgmnaaPieces
import Derived.Test.YtclhkbjcemgmnaaBack
namespace Go.Proofs.Ytclhkbjcemgmnaa.Pure
open Go.RowKit Go.Proofs.Ytclhkbjcemgmnaa.Fog Go.Proofs.YtclhkbjcemgmnaaW.PrintWords Go.Proofs.YtclhkbjcemgmnaaW.PrintLast Go.Proofs.YtclhkbjcemgmnaaW.PrintMore Go.Proofs.Ytclhkbjcemgmnaa.Kit Go.Proofs.Ytclhkbjcemgmnaa.Crc
set_option linter.unusedSimpArgs false
set_option linter.unusedVariables false
def Z : ByteArray := strOfNums (List.replicate 32769 0)
theorem Z_size : Z.size = 32769 := by unfold Z; rw [strOfNums_size, List.length_replicate]
theorem ex_size (n : Nat) (h : n ≤ 32769) : (Z.extract 0 n).size = n := by rw [ByteArray.size_extract, Z_size]; omega
def over1 (j : Nat) : S30 := ⟨1, (j : Int) % 256, decide (j + 1 < 200), Z.extract 0 164⟩
theorem over_rd (j : Nat) (h : j < 200) : rd_T30 ((List.range 200).map over1) (j : Int) = over1 j := by
  simp [rd_T30, List.getD_eq_getElem?_getD, h]
theorem over_acc : ∀ j : Nat, (((List.range j).map over1).flatMap fun x => x.f3.data.toList).length = 164 * j
  | 0 => rfl
  | j + 1 => by
    rw [List.range_succ, List.map_append, List.flatMap_append, List.length_append, over_acc j]
    have h : (over1 j).f3.data.toList.length = 164 := by
      rw [Array.length_toList]
      exact ex_size 164 (by omega)
    simp only [List.map_cons, List.map_nil, List.flatMap_cons, List.flatMap_nil, List.append_nil]
    omega
theorem over_join : frame_Join.f ((List.range 200).map over1) = some (⟨#[]⟩, 1) := by
  have hl : ((List.range 200).map over1).length = 200 := by simp
  have hacc : (joinAcc ((List.range 200).map over1) 200).length = 32800 := by
    unfold joinAcc
    rw [List.take_of_length_le (by rw [hl]; exact Nat.le_refl _), over_acc]
  unfold frame_Join.f
  rw [hl, hacc, if_pos (by omega)]
  unfold joinR
  rw [hl, hacc, if_neg, if_neg, if_neg (by omega), if_pos (by omega)]
  · intro h
    obtain ⟨j, hj, hb⟩ := List.any_eq_true.1 h
    rw [List.mem_range] at hj
    have h0 := over_rd 0 (by omega)
    rw [show ((0 : Nat) : Int) = 0 from rfl] at h0
    unfold badAt bad1 bad2 bad3 at hb
    rw [over_rd j hj, h0, hl] at hb
    simp only [over1] at hb
    rw [show decide ((j : Int) + 1 < ((200 : Nat) : Int)) = decide (j + 1 < 200) from decide_eq_decide.2 (by omega), show (((0 : Nat) : Int) % 256 + (j : Int)) % 256 = (j : Int) % 256 by omega] at hb
    simp at hb
  · rw [Bool.not_eq_false]
    refine List.all_eq_true.2 fun j hj => ?_
    rw [List.mem_range] at hj
    rw [over_rd j hj]
    unfold mayOf frame_may.f over1
    rw [if_pos (show (1 : Int) ≥ 1 by omega), if_pos (show (1 : Int) ≤ 15 by omega), ex_size 164 (by omega)]
    rfl
theorem names_l0 (A : ByteArray) (L : List S30) (hA : A.size = 249) (hL : L.length = 32768) (R : List S30) (hR : R.length = 200) : ∀ d i : Nat, i + d = 200 →
    Ev (fun k => foghornlaw25_FrameNames.l0 k Z A 0 1 1 1 249 0 4 L 0 1 (Z.extract 0 32768) 0 ((List.range i).map over1 ++ R.drop i) (i : Int)) true
  | 0, i, h => by
    have hl : ((List.range i).map over1 ++ R.drop i).length = 200 := by simp; omega
    refine Ev.step (fun k => by simp only [foghornlaw25_FrameNames.l0]; rfl) (Ev.ifn (by rw [hl]; omega) ?_)
    have e : (List.range i).map over1 ++ R.drop i = (List.range 200).map over1 := by
      rw [show i = 200 by omega, List.drop_eq_nil_of_le (by omega), List.append_nil]
    rw [e]
    have hJ := over_join
    generalize (List.range 200).map over1 = J at hJ ⊢
    refine Ev.bindc hJ ?_
    refine Ev.ifp trivial (Ev.ifp trivial (Ev.ifp trivial (Ev.ifp trivial (Ev.ifp trivial (Ev.ifp trivial (Ev.ifp trivial (Ev.ifp trivial (Ev.ifp trivial ?_))))))))
    refine Ev.ifp rfl ?_
    rw [hA, hL, Z_size]
    refine Ev.ifp (by omega) ?_
    refine Ev.ifp trivial ?_
    refine Ev.ifp (by omega) ?_
    refine Ev.ifp (by omega) ?_
    refine Ev.ifp (by omega) ?_
    refine Ev.val ?_
    simp
  | d + 1, i, h => by
    have ih := names_l0 A L hA hL R hR d (i + 1) (by omega)
    have hl : ((List.range i).map over1 ++ R.drop i).length = 200 := by simp; omega
    refine Ev.step (fun k => by simp only [foghornlaw25_FrameNames.l0]; rfl) (Ev.ifp (by rw [hl]; omega) (Ev.ifp (by omega) (Ev.ifp (by rw [Z_size]; omega) (Ev.ifp (by omega) ?_))))
    rw [hl, Int.toNat_natCast, w64 (x := (i : Int) + 1) (by omega) (by omega), show (((200 : Nat) : Int) - 1) = 199 from rfl, w64 (x := 199) (by omega) (by omega)]
    have e : ((List.range i).map over1 ++ R.drop i).set i (⟨1, (i : Int) % 256, decide ((i : Int) < 199), Z.extract 0 164⟩ : S30) = (List.range (i + 1)).map over1 ++ R.drop (i + 1) := by
      have e1 : (⟨1, (i : Int) % 256, decide ((i : Int) < 199), Z.extract 0 164⟩ : S30) = over1 i := by
        unfold over1
        rw [show decide ((i : Int) < 199) = decide (i + 1 < 200) from decide_eq_decide.2 (by omega)]
      rw [e1, List.set_append_right i _ (by simp), List.length_map, List.length_range, Nat.sub_self, List.drop_eq_getElem_cons (by omega), List.set_cons_zero, List.range_succ, List.map_append, List.append_assoc, List.map_cons, List.map_nil, List.cons_append, List.nil_append]
    rw [e]
    exact ih
theorem pieces_one (s : ByteArray) (hs : s.size ≤ 32768) : Ev (fun k => frame_Pieces.f k 1 0 s 1) (pieces 1 0 s 1, 0) := by
  have h := pieces_ev 1 0 s 1 (by omega) (by omega) (by omega) (by omega) hs
  exact h
theorem pieces_long (kind num : Int) (s : ByteArray) (m : Int) (hk : 1 ≤ kind ∧ kind ≤ 15) (hs : 32768 < s.size) : Ev (fun k => frame_Pieces.f k kind num s m) ([], 1) := by
  simp only [frame_Pieces.f]
  exact Ev.ifn (by omega) (Ev.ifn (by omega) (Ev.ifp (by omega) (Ev.step (fun k => by simp only [frame_Pieces.j0]; rfl) (Ev.ifp trivial (Ev.now _)))))
theorem zero_bt : bt (Z.extract 0 9) 0 = 0 := by
  have h := bt_nats (Z.extract 0 9) 0 (by rw [ex_size 9 (by omega)]; omega)
  rw [show ((0 : Nat) : Int) = 0 from rfl] at h
  rw [h]
  have e : natsOf (Z.extract 0 9) = (natsOf Z).take 9 := by
    unfold natsOf
    rw [ByteArray.data_extract, Array.toList_extract, List.extract_eq_take_drop, List.drop_zero, List.map_take]
  rw [e]
  unfold Z
  rw [nats_str, List.map_replicate, List.take_replicate]
  rfl
theorem parsed_zeros : parsed (Z.extract 0 9) = (0, 0, false, (⟨#[]⟩ : ByteArray), 0, 4) := by
  have e : fitsB (Z.extract 0 9) = false := by
    have : mayB (kindOf (Z.extract 0 9)) (bodyOf (Z.extract 0 9)) = false := by
      unfold mayB kindOf
      rw [zero_bt]
      rfl
    unfold fitsB
    rw [this, Bool.false_and, Bool.and_false, Bool.and_false]
  unfold parsed
  rw [e, if_neg (by decide)]
theorem FrameNames_ev : Ev (fun k => foghornlaw25_FrameNames.f k) true := by
  simp only [foghornlaw25_FrameNames.f]
  refine Ev.bindc rfl (Ev.ifp rfl (Ev.ifp (by omega) (Ev.bindc rfl ?_)))
  rw [show strOfNums (List.replicate 32769 0) = Z from rfl]
  have p240 : mayB 15 (Z.extract 0 240) = true := by unfold mayB; rw [ex_size 240 (by omega)]; rfl
  have p241 : mayB 15 (Z.extract 0 241) = false := by unfold mayB; rw [ex_size 241 (by omega)]; rfl
  have hP := parsed_packed 15 0 false (Z.extract 0 240) ⟨#[]⟩ (by omega) (by omega) (by rw [ex_size 240 (by omega)]; omega)
  have hPs : (packed 15 0 false (Z.extract 0 240)).size = 249 := by rw [packed_size, ex_size 240 (by omega)]
  rw [show packed 15 0 false (Z.extract 0 240) ++ (⟨#[]⟩ : ByteArray) = packed 15 0 false (Z.extract 0 240) from by apply ByteArray.ext; simp [ByteArray.data_append], ex_size 240 (by omega)] at hP
  refine Ev.ifp (by omega) (Ev.ifp (by rw [Z_size]; omega) (Ev.bindc (pack_f 15 0 false (Z.extract 0 240)) ?_))
  rw [if_pos p240]
  refine Ev.ifp (by omega) (Ev.ifp (by rw [Z_size]; omega) (Ev.bindc (pack_f 15 0 false (Z.extract 0 241)) ?_))
  rw [p241, if_neg (by decide)]
  refine Ev.bindc (pack_f 16 0 false ⟨#[]⟩) (Ev.bindc (pack_f 0 0 false ⟨#[]⟩) ?_)
  rw [show mayB 16 ⟨#[]⟩ = false from rfl, show mayB 0 ⟨#[]⟩ = false from rfl, if_neg (by decide), if_neg (by decide)]
  refine Ev.bind (parse_ev _ (by rw [hPs]; omega)) ?_
  rw [hP]
  refine Ev.ifp (by omega) (Ev.ifp (by rw [Z_size]; omega) (Ev.bind (parse_ev _ (by rw [ex_size 9 (by omega)]; omega)) ?_))
  rw [parsed_zeros]
  obtain ⟨T, hT⟩ : ∃ T, Z.extract 0 32768 = T := ⟨_, rfl⟩
  have hTs : T.size = 32768 := by rw [← hT]; exact ex_size 32768 (by omega)
  have hj := join_pieces 1 0 T 1 (by omega) (by omega) (by omega) (by omega) (by omega)
  have hlen : (pieces 1 0 T 1).length = 32768 := by
    rw [pieces_length, hTs]
    rfl
  have hp1 := pieces_one T (by omega)
  generalize pieces 1 0 T 1 = L at hlen hj hp1
  refine Ev.ifp (by omega) (Ev.ifp (by rw [Z_size]; omega) ?_)
  rw [hT]
  refine Ev.bind hp1 (Ev.bind (pieces_long 1 0 Z 240 (by omega) (by rw [Z_size]; omega)) ?_)
  refine Ev.bindc hj (Ev.bindc rfl ?_)
  rw [← hT]
  rw [hlen, show mn ((32768 : Nat) : Int) 200 = ((200 : Nat) : Int) from by rw [show (200 : Int) = ((200 : Nat) : Int) from rfl, mn_nat]; rfl, Int.toNat_natCast]
  have hL : (L.take 200).length = 200 := by rw [List.length_take, hlen]; rfl
  refine Ev.ifp (by omega) (Ev.ifp (by omega) (Ev.bindc rfl (Ev.ifp (by rw [hL]; simp) ?_)))
  have h := names_l0 (packed 15 0 false (Z.extract 0 240)) L hPs hlen (L.take 200) hL 200 0 (by omega)
  exact h
theorem FrameNames : foghornlaw25_FrameNames.Pure := FrameNames_ev.rounds
end Go.Proofs.Ytclhkbjcemgmnaa.Pure
