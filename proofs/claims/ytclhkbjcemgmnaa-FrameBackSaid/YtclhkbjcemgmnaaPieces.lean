/- A message's pieces, and the pieces' message: plain. -/
import Derived.Test.YtclhkbjcemgmnaaFogx0
import Derived.Test.YtclhkbjcemgmnaaFogx1
import Derived.Test.YtclhkbjcemgmnaaFogx4
import Derived.Test.YtclhkbjcemgmnaaHandJoin
import Derived.Test.YtclhkbjcemgmnaaKit
import Derived.Test.YtclhkbjcemgmnaaPack
import Derived.Test.YtclhkbjcemgmnaaHandJoin
namespace Go.Proofs.Ytclhkbjcemgmnaa.Pure
open Go.RowKit Go.Proofs.Ytclhkbjcemgmnaa.Fog Go.Proofs.YtclhkbjcemgmnaaW.PrintWords Go.Proofs.YtclhkbjcemgmnaaW.PrintLast Go.Proofs.YtclhkbjcemgmnaaW.PrintMore Go.Proofs.Ytclhkbjcemgmnaa.Kit Go.Proofs.Ytclhkbjcemgmnaa.Crc
set_option linter.unusedSimpArgs false
set_option linter.unusedVariables false
/-- How many pieces. -/
def many (n m : Nat) : Nat := max 1 ((n + m - 1) / m)
theorem many_lt (n m j : Nat) (hm : 0 < m) : j + 1 < many n m ↔ (j + 1) * m < n := by
  unfold many
  have h := @Nat.le_div_iff_mul_le m (j + 2) (n + m - 1) hm
  have e : (j + 2) * m = (j + 1) * m + m := by rw [show j + 2 = (j + 1) + 1 by omega, Nat.succ_mul]
  rw [e] at h
  constructor
  · intro k
    have := h.1 (by omega)
    omega
  · intro k
    have := h.2 (by omega)
    omega
def piece (kind num : Int) (s : ByteArray) (m N : Nat) (j : Nat) : S30 := ⟨kind, (num + (j : Int)) % 256, decide (j + 1 < N), s.extract (j * m) (min ((j + 1) * m) s.size)⟩
def pieces (kind num : Int) (s : ByteArray) (m : Nat) : List S30 := (List.range (many s.size m)).map (piece kind num s m (many s.size m))
theorem pieces_length (kind num : Int) (s : ByteArray) (m : Nat) : (pieces kind num s m).length = many s.size m := by simp [pieces]
theorem pieces_rd (kind num : Int) (s : ByteArray) (m j : Nat) (h : j < many s.size m) : rd_T30 (pieces kind num s m) (j : Int) = piece kind num s m (many s.size m) j := by
  simp [rd_T30, pieces, List.getD_eq_getElem?_getD, h]
theorem mn_nat (a b : Nat) : mn (a : Int) (b : Int) = ((min a b : Nat) : Int) := by
  unfold mn
  split <;> omega
theorem mul_lt (n m j : Nat) (hm : 0 < m) (h : j < many n m) : j * m ≤ n ∧ (j ≠ 0 → j * m < n) := by
  rcases Nat.eq_zero_or_pos j with e | e
  · subst e; simp
  · have := (many_lt n m (j - 1) hm).1 (by omega)
    rw [show j - 1 + 1 = j by omega] at this
    exact ⟨by omega, fun _ => this⟩
theorem pieces_l0 (kind num : Int) (s : ByteArray) (m : Nat) (hn : 0 ≤ num ∧ num < 256) (hm : 0 < m) (hs : s.size ≤ 32768) : ∀ (d j : Nat), j + d + 1 = many s.size m →
    Ev (fun k => frame_Pieces.l0 k kind ((num + (j : Int)) % 256) (s.extract (j * m) s.size) (m : Int) ((List.range j).map (piece kind num s m (many s.size m)))) (pieces kind num s m, 0)
  | d, j, h => by
    obtain ⟨hj, hj2⟩ := mul_lt s.size m j hm (by omega)
    have hsz : (s.extract (j * m) s.size).size = s.size - j * m := by rw [ByteArray.size_extract]; omega
    have hN : many s.size m ≤ 32768 := by
      rcases Nat.eq_zero_or_pos (many s.size m - 1) with e | e
      · omega
      · have := (many_lt s.size m (many s.size m - 2) hm).1 (by omega)
        have h2 := Nat.le_mul_of_pos_right (many s.size m - 2 + 1) hm
        omega
    have ht := many_lt s.size m j hm
    have ejm : (j + 1) * m = j * m + m := Nat.succ_mul j m
    have hbody : (s.extract (j * m) s.size).extract 0 (min m (s.size - j * m)) = s.extract (j * m) (min ((j + 1) * m) s.size) := by
      rw [ByteArray.extract_extract]
      congr 1
      omega
    have hsucc : (List.range j).map (piece kind num s m (many s.size m)) ++ [(⟨kind, (num + (j : Int)) % 256, decide (((min m (s.size - j * m) : Nat) : Int) < ((s.size - j * m : Nat) : Int)), s.extract (j * m) (min ((j + 1) * m) s.size)⟩ : S30)] = (List.range (j + 1)).map (piece kind num s m (many s.size m)) := by
      rw [List.range_succ, List.map_append]
      congr 1
      simp only [List.map_cons, List.map_nil, piece]
      congr 2
      rw [decide_eq_decide, ht]
      omega
    refine Ev.step (fun k => by simp only [frame_Pieces.l0]; rfl) ?_
    rw [hsz, mn_nat, Int.toNat_natCast, hbody]
    refine Ev.ifp (by omega) (Ev.ifp (by omega) (Ev.ifp (by rw [List.length_map, List.length_range]; omega) ?_))
    rw [hsucc]
    refine Ev.bindc rfl ?_
    rcases Nat.eq_zero_or_pos d with e | e
    · subst e
      have hlast : ¬ (j + 1) * m < s.size := fun k => by have := ht.2 k; omega
      refine Ev.ifp ?_ (Ev.val ?_)
      · rw [ByteArray.toList_eq, ByteArray.data_extract, Array.toList_extract, List.extract_eq_take_drop]
        apply List.eq_nil_of_length_eq_zero
        rw [List.length_take]
        omega
      · rw [show j + 1 = many s.size m by omega]
        rfl
    · have hmore : (j + 1) * m < s.size := ht.1 (by omega)
      have hrest : (s.extract (j * m) s.size).extract (min m (s.size - j * m)) (s.size - j * m) = s.extract ((j + 1) * m) s.size := by
        rw [ByteArray.extract_extract]
        congr 1 <;> omega
      rw [hrest]
      have ih := pieces_l0 kind num s m hn hm hs (d - 1) (j + 1) (by omega)
      refine Ev.ifn ?_ ?_
      · rw [ByteArray.toList_eq, ByteArray.data_extract, Array.toList_extract, List.extract_eq_take_drop]
        intro e2
        have := congrArg List.length e2
        rw [List.length_take, List.length_drop, Array.length_toList] at this
        have hd : s.data.size = s.size := rfl
        simp at this
        omega
      · rw [show ((num + (j : Int)) % 256 + 1) % 256 = (num + ((j + 1 : Nat) : Int)) % 256 by omega]
        exact ih
theorem pieces_ev (kind num : Int) (s : ByteArray) (m : Nat) (hk : 1 ≤ kind ∧ kind ≤ 15) (hn : 0 ≤ num ∧ num < 256) (hm : 0 < m) (hm2 : m ≤ 240) (hs : s.size ≤ 32768) :
    Ev (fun k => frame_Pieces.f k kind num s (m : Int)) (pieces kind num s m, 0) := by
  simp only [frame_Pieces.f]
  refine Ev.ifn (by omega) (Ev.ifn (by omega) (Ev.ifn (by omega) (Ev.ifn (by omega) (Ev.step (fun k => by simp only [frame_Pieces.j0]; rfl) (Ev.ifn (by simp; omega) ?_)))))
  have hN : 1 ≤ many s.size m := by unfold many; omega
  have h := pieces_l0 kind num s m hn hm hs (many s.size m - 1) 0 (by omega)
  rw [show (num + ((0 : Nat) : Int)) % 256 = num by omega, Nat.zero_mul, ByteArray.extract_zero_size] at h
  exact h
theorem acc_pieces (kind num : Int) (s : ByteArray) (m N : Nat) (hm : 0 < m) : ∀ j : Nat, ((List.range j).map (piece kind num s m N)).flatMap (fun x => x.f3.data.toList) = s.data.toList.take (j * m)
  | 0 => by simp
  | j + 1 => by
    rw [List.range_succ, List.map_append, List.flatMap_append, acc_pieces kind num s m N hm j, Nat.succ_mul, List.take_add]
    congr 1
    simp only [List.map_cons, List.map_nil, List.flatMap_cons, List.flatMap_nil, List.append_nil, piece]
    rw [ByteArray.data_extract, Array.toList_extract, List.extract_eq_take_drop]
    have hl : s.data.toList.length = s.size := by rw [Array.length_toList]; rfl
    rcases Nat.lt_or_ge ((j + 1) * m) s.size with h | h
    · rw [Nat.min_eq_left (by omega), Nat.succ_mul, Nat.add_sub_cancel_left]
    · have ejm : (j + 1) * m = j * m + m := Nat.succ_mul j m
      rw [Nat.min_eq_right h, List.take_of_length_le (by rw [List.length_drop]; omega), List.take_of_length_le (by rw [List.length_drop]; omega)]
theorem joinAcc_pieces (kind num : Int) (s : ByteArray) (m : Nat) (hm : 0 < m) : joinAcc (pieces kind num s m) (pieces kind num s m).length = s.data.toList := by
  unfold joinAcc
  rw [List.take_length]
  unfold pieces
  rw [acc_pieces kind num s m _ hm, List.take_of_length_le]
  rw [Array.length_toList]
  show s.size ≤ _
  rcases Nat.lt_or_ge (many s.size m * m) s.size with h | h
  · exfalso
    have hN : 1 ≤ many s.size m := by unfold many; omega
    have := (many_lt s.size m (many s.size m - 1) hm).2 (by rw [show many s.size m - 1 + 1 = many s.size m by omega]; exact h)
    omega
  · exact h
theorem join_pieces (kind num : Int) (s : ByteArray) (m : Nat) (hk : 1 ≤ kind ∧ kind ≤ 15) (hn : 0 ≤ num ∧ num < 256) (hm : 0 < m) (hm2 : m ≤ 240) (hs : s.size ≤ 32768) :
    frame_Join.f (pieces kind num s m) = some (s, 0) := by
  have hacc := joinAcc_pieces kind num s m hm
  have hN : 1 ≤ many s.size m := by unfold many; omega
  have hl : s.data.toList.length = s.size := by rw [Array.length_toList]; rfl
  unfold frame_Join.f
  rw [hacc, if_pos (by omega)]
  unfold joinR
  rw [hacc, if_neg, if_neg, if_neg, if_neg]
  · omega
  · rw [pieces_length]; omega
  · intro h
    obtain ⟨j, hj, hb⟩ := List.any_eq_true.1 h
    rw [List.mem_range, pieces_length] at hj
    have hr := pieces_rd kind num s m j hj
    have h0 := pieces_rd kind num s m 0 (by omega)
    unfold badAt bad1 bad2 bad3 at hb
    rw [show ((0 : Nat) : Int) = 0 from rfl] at h0
    rw [hr, h0, pieces_length] at hb
    simp only [piece] at hb
    have e1 : (decide (j + 1 < many s.size m) != decide ((j : Int) + 1 < ((many s.size m : Nat) : Int))) = false := by
      rw [show decide ((j : Int) + 1 < ((many s.size m : Nat) : Int)) = decide (j + 1 < many s.size m) from decide_eq_decide.2 (by omega)]
      simp
    have e3 : ((num + (j : Int)) % 256 != ((num + ((0 : Nat) : Int)) % 256 + (j : Int)) % 256) = false := by
      rw [show ((num + ((0 : Nat) : Int)) % 256 + (j : Int)) % 256 = (num + (j : Int)) % 256 by omega]
      simp
    rw [e1, e3] at hb
    simp at hb
  · rw [Bool.not_eq_false]
    refine List.all_eq_true.2 fun j hj => ?_
    rw [List.mem_range, pieces_length] at hj
    rw [pieces_rd kind num s m j hj]
    obtain ⟨h1, h2⟩ := mul_lt s.size m j hm hj
    have ejm : (j + 1) * m = j * m + m := Nat.succ_mul j m
    unfold mayOf frame_may.f piece
    rw [if_pos (show kind ≥ 1 by omega), if_pos (show kind ≤ 15 by omega), ByteArray.size_extract]
    simp only [Option.getD_some, decide_eq_true_eq]
    omega
end Go.Proofs.Ytclhkbjcemgmnaa.Pure
