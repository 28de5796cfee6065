/- A frame's bytes, with anything behind them, are parsed as that frame. -/
import Derived.Test.YtclhkbjcemgmnaaFogx0
import Derived.Test.YtclhkbjcemgmnaaKit
import Derived.Test.YtclhkbjcemgmnaaPack
namespace Go.Proofs.Ytclhkbjcemgmnaa.Pure
open Go.RowKit Go.Proofs.Ytclhkbjcemgmnaa.Fog Go.Proofs.YtclhkbjcemgmnaaW.PrintWords Go.Proofs.YtclhkbjcemgmnaaW.PrintLast Go.Proofs.YtclhkbjcemgmnaaW.PrintMore Go.Proofs.Ytclhkbjcemgmnaa.Kit Go.Proofs.Ytclhkbjcemgmnaa.Crc
set_option linter.unusedSimpArgs false
set_option linter.unusedVariables false
theorem nats_append (a b : ByteArray) : natsOf (a ++ b) = natsOf a ++ natsOf b := by
  simp [natsOf, ByteArray.data_append]
theorem nats_str (xs : List Int) : natsOf (strOfNums xs) = xs.map fun n => n.toNat % 256 := by
  simp [natsOf, strOfNums, Function.comp_def]
theorem head0_val (a0 : Int) (m : Bool) (h : 1 ≤ a0 ∧ a0 ≤ 15) : head0 a0 m = 16 * a0 + (m.toNat : Int) := by
  obtain ⟨n, rfl⟩ := Int.eq_ofNat_of_zero_le (show 0 ≤ a0 by omega)
  exact (head0_ref n (by omega) m).2
theorem packed_size (a0 a1 : Int) (m : Bool) (s : ByteArray) : (packed a0 a1 m s).size = 9 + s.size := by
  unfold packed
  rw [ByteArray.size_append, ByteArray.size_append, strOfNums_size, strOfNums_size]
  simp [head3, two, four]
  omega
theorem packed_bt (a0 a1 : Int) (m : Bool) (s t : ByteArray) (h : 1 ≤ a0 ∧ a0 ≤ 15) (h1 : 0 ≤ a1 ∧ a1 < 256) (hs : s.size ≤ 240) :
    bt (packed a0 a1 m s ++ t) 0 = 16 * a0 + (m.toNat : Int) ∧ bt (packed a0 a1 m s ++ t) 1 = a1 ∧ bt (packed a0 a1 m s ++ t) 2 = (s.size : Int) := by
  have hsz : 9 ≤ (packed a0 a1 m s ++ t).size := by rw [ByteArray.size_append, packed_size]; omega
  have hb : m.toNat ≤ 1 := by cases m <;> decide
  have hv := head0_val a0 m h
  have key : ∃ r, natsOf (packed a0 a1 m s ++ t) = (head0 a0 m).toNat % 256 :: a1.toNat % 256 :: ((s.size : Int) % 256).toNat % 256 :: r := by
    rw [nats_append]
    unfold packed
    rw [nats_append, nats_append, nats_str]
    exact ⟨_, rfl⟩
  obtain ⟨r, hr⟩ := key
  have e0 := bt_nats (packed a0 a1 m s ++ t) 0 (by omega)
  have e1 := bt_nats (packed a0 a1 m s ++ t) 1 (by omega)
  have e2 := bt_nats (packed a0 a1 m s ++ t) 2 (by omega)
  rw [hr] at e0 e1 e2
  simp only [List.getD_cons_zero, List.getD_cons_succ] at e0 e1 e2
  rw [show ((0 : Nat) : Int) = 0 from rfl] at e0
  rw [show ((1 : Nat) : Int) = 1 from rfl] at e1
  rw [show ((2 : Nat) : Int) = 2 from rfl] at e2
  rw [e0, e1, e2, hv]
  omega
theorem parsed_packed (a0 a1 : Int) (m : Bool) (s t : ByteArray) (h : 1 ≤ a0 ∧ a0 ≤ 15) (h1 : 0 ≤ a1 ∧ a1 < 256) (hs : s.size ≤ 240) :
    parsed (packed a0 a1 m s ++ t) = (a0, a1, m, s, 9 + (s.size : Int), 0) := by
  obtain ⟨e0, e1, e2⟩ := packed_bt a0 a1 m s t h h1 hs
  have hb : m.toNat ≤ 1 := by cases m <;> decide
  have hsz : (packed a0 a1 m s ++ t).size = 9 + s.size + t.size := by rw [ByteArray.size_append, packed_size]
  have hl : lenOf (packed a0 a1 m s ++ t) = 9 + s.size := by unfold lenOf; rw [e2]; omega
  have hk : kindOf (packed a0 a1 m s ++ t) = a0 := by unfold kindOf; rw [e0]; omega
  have hm : moreOf (packed a0 a1 m s ++ t) = m := by
    unfold moreOf
    rw [e0]
    cases m
    · have : (16 * a0 + ((false.toNat : Nat) : Int)) % 2 = 0 := by simp; omega
      rw [this]; rfl
    · have : (16 * a0 + ((true.toNat : Nat) : Int)) % 2 = 1 := by simp; omega
      rw [this]; rfl
  have hbody : bodyOf (packed a0 a1 m s ++ t) = s := by
    unfold bodyOf
    rw [hl]
    apply ByteArray.ext
    apply Array.ext'
    rw [ByteArray.data_extract, Array.toList_extract, List.extract_eq_take_drop, ByteArray.data_append]
    unfold packed
    rw [ByteArray.data_append, ByteArray.data_append, Array.toList_append, Array.toList_append, Array.toList_append, List.append_assoc, List.append_assoc]
    have h5 : (strOfNums (head3 a0 a1 m s ++ two (B16 (strOfNums (head3 a0 a1 m s))).toNat)).data.toList.length = 5 := by simp [strOfNums, head3, two]
    rw [List.drop_append_of_le_length (by omega), List.drop_eq_nil_of_le (by omega), List.nil_append]
    have hsl : s.data.toList.length = s.size := by rw [Array.length_toList]; rfl
    rw [show 9 + s.size - 4 - 5 = s.data.toList.length by omega, List.take_left]
  have hfull : ((packed a0 a1 m s ++ t).extract 0 (9 + s.size)).toList = (packed a0 a1 m s).toList := by
    rw [ByteArray.toList_eq, ByteArray.toList_eq, ByteArray.data_extract, Array.toList_extract, List.extract_eq_take_drop, ByteArray.data_append, Array.toList_append, List.drop_zero]
    have hp : (packed a0 a1 m s).data.toList.length = 9 + s.size := by rw [Array.length_toList, ← packed_size a0 a1 m s]; rfl
    rw [show 9 + s.size - 0 = (packed a0 a1 m s).data.toList.length by omega, List.take_left]
  have hmay : mayB a0 s = true := by
    unfold mayB
    rw [decide_eq_true h.1, decide_eq_true h.2, decide_eq_true (by omega : (s.size : Int) ≤ 240)]
    rfl
  have hf : fitsB (packed a0 a1 m s ++ t) = true := by
    unfold fitsB
    rw [hk, hm, hbody, e1, hl, hsz, hmay, hfull, decide_eq_true (show 9 ≤ 9 + s.size + t.size by omega), decide_eq_true (show 9 + s.size ≤ 9 + s.size + t.size by omega)]
    simp
  unfold parsed
  rw [hf, if_pos rfl, hk, hm, hbody, e1, hl]
  congr 5
end Go.Proofs.Ytclhkbjcemgmnaa.Pure
