/- Words, rows of words, bytes: there and back. Plain Lean. -/
import Derived.Test.YtabjfehhibeeiaaFogx0
import Derived.Test.YtabjfehhibeeiaaFogx3
import Derived.Test.YtabjfehhibeeiaaHandWords
import Derived.Test.YtabjfehhibeeiaaKit
import Derived.Test.YtabjfehhibeeiaaRefTurn
import Derived.Test.YtabjfehhibeeiaaHandWords
import Derived.Test.YtabjfehhibeeiaaHandRow
import Derived.Test.YtabjfehhibeeiaaHandOf
import Derived.Test.YtabjfehhibeeiaaHandText
import Derived.Test.YtabjfehhibeeiaaHandParse
namespace Go.Proofs.Ytabjfehhibeeiaa.Pure
open Go.RowKit Go.Proofs.Ytabjfehhibeeiaa.Fog Go.Proofs.YtabjfehhibeeiaaW.PrintWords Go.Proofs.YtabjfehhibeeiaaW.PrintLast Go.Proofs.Ytabjfehhibeeiaa.Kit
set_option linter.unusedVariables false
theorem rowBit_gen (x n i : Nat) (h : x < 131072) : rowBit (x : Int) n i = (x / 2 ^ (n - 1 - i) % 2 == 1) := by
  unfold rowBit
  have e : ((x : Int) / 2 ^ (n - 1 - i)) = ((x / 2 ^ (n - 1 - i) : Nat) : Int) := by
    rw [Int.natCast_ediv, Int.natCast_pow]; rfl
  have hl : x / 2 ^ (n - 1 - i) ≤ x := Nat.div_le_self _ _
  rw [e, show (1 : Int) = ((1 : Nat) : Int) from rfl, and_i64 _ _ (by omega) (by omega), Nat.and_one_is_mod]
  rcases Nat.mod_two_eq_zero_or_one (x / 2 ^ (n - 1 - i)) with h1 | h1 <;> rw [h1] <;> rfl
theorem wordOf_nat (l : List Bool) : ∃ v : Nat, wordOf l = (v : Int) ∧ v < 2 ^ l.length := by
  have := wordOf_bound l.length l
  rwa [List.take_length] at this
theorem rowBits_word : ∀ (n : Nat) (c : List Bool), c.length = n → n ≤ 16 → rowBits n (wordOf c) = c
  | 0, c, h, _ => by
    rw [List.eq_nil_of_length_eq_zero h]
    rfl
  | n + 1, c, h, hn => by
    rcases List.eq_nil_or_concat c with rfl | ⟨L, b, rfl⟩
    · simp at h
    · simp only [List.concat_eq_append, List.length_append, List.length_cons, List.length_nil] at h ⊢
      have hL : L.length = n := by omega
      have ih := rowBits_word n L hL (by omega)
      obtain ⟨v, hv, hlt⟩ := wordOf_nat L
      have hp : 2 ^ L.length ≤ 2 ^ 15 := Nat.pow_le_pow_right (by decide) (by omega)
      rw [wordOf_snoc, hv]
      rw [hv] at ih
      obtain ⟨d, hd, hd2⟩ : ∃ d : Nat, (if b = true then (1 : Int) else 0) = (d : Int) ∧ d = if b = true then 1 else 0 := ⟨if b = true then 1 else 0, by split <;> rfl, rfl⟩
      have hd1 : d < 2 := by rw [hd2]; split <;> omega
      rw [hd, show (2 * (v : Int) + (d : Int)) = ((2 * v + d : Nat) : Int) by omega]
      unfold rowBits at ih ⊢
      rw [List.range_succ, List.map_append]
      congr 1
      · rw [← ih]
        refine List.map_congr_left fun i hi => ?_
        have hi' : i < n := by simpa using hi
        rw [rowBit_gen _ _ _ (by omega), rowBit_gen _ _ _ (by omega), show n + 1 - 1 - i = (n - 1 - i) + 1 by omega, Nat.pow_succ, Nat.mul_comm (2 ^ (n - 1 - i)) 2, ← Nat.div_div_eq_div_mul, show (2 * v + d) / 2 = v by omega]
      · rw [List.map_cons, List.map_nil, rowBit_gen _ _ _ (by omega), show n + 1 - 1 - n = 0 by omega, Nat.pow_zero, Nat.div_one, show (2 * v + d) % 2 = d by omega, hd2]
        cases b <;> rfl
theorem chunks (l : List Bool) (n : Nat) : ∀ m : Nat, (List.range m).flatMap (fun k => (l.drop (k * n)).take n) = l.take (m * n)
  | 0 => by simp
  | m + 1 => by
    rw [List.range_succ, List.flatMap_append, chunks l n m, Nat.succ_mul, List.take_add]
    simp
theorem row_words (l : List Bool) (n m : Nat) (hn1 : 1 ≤ n) (hn2 : n ≤ 16) (hl : l.length ≤ 32768) (hm : l.length = m * n) : rowV ((List.range m).map (wordK l n)) (n : Int) = (l, 0) := by
  have hd : (32768 : Int) / (n : Int) = ((32768 / n : Nat) : Int) := by rw [Int.natCast_ediv]; rfl
  have hq : m ≤ 32768 / n := (Nat.le_div_iff_mul_le (by omega)).2 (by omega)
  have hlen : ∀ k, k < m → ((l.drop (k * n)).take n).length = n := by
    intro k hk
    have : (k + 1) * n ≤ m * n := Nat.mul_le_mul_right _ hk
    rw [Nat.succ_mul] at this
    rw [List.length_take, List.length_drop]
    omega
  unfold rowV
  rw [if_pos (by rw [hd, List.length_map, List.length_range]; omega), Int.toNat_natCast, if_pos]
  · have e : ((List.range m).map (wordK l n)).flatMap (rowBits n) = l := by
      rw [List.flatMap_map]
      have e2 : (List.range m).flatMap (fun k => rowBits n (wordK l n k)) = (List.range m).flatMap (fun k => (l.drop (k * n)).take n) := by
        rw [List.flatMap_def, List.flatMap_def]
        congr 1
        refine List.map_congr_left fun k hk => ?_
        exact rowBits_word n _ (hlen k (by simpa using hk)) hn2
      rw [e2, chunks, ← hm, List.take_length]
    rw [e]
  · rw [List.all_eq_true]
    intro x hx
    obtain ⟨k, hk, rfl⟩ := List.mem_map.1 hx
    obtain ⟨v, hv, hlt⟩ := wordOf_nat ((l.drop (k * n)).take n)
    rw [hlen k (by simpa using hk)] at hlt
    unfold rowGood wordK
    rw [hv, decide_eq_true (by omega), show ((v : Int) / 2 ^ n) = ((v / 2 ^ n : Nat) : Int) by rw [Int.natCast_ediv, Int.natCast_pow]; rfl, Nat.div_eq_of_lt hlt]
    rfl
theorem ofB_cut (s : ByteArray) : ∀ (n k : Nat), k < n → ((ofB s n).drop (k * 8)).take 8 = ofByte (bt s (k : Int))
  | n + 1, k, h => by
    rw [ofB_succ]
    have hl := ofB_length s n
    by_cases hk : k < n
    · rw [List.drop_append_of_le_length (by omega), List.take_append_of_le_length (by rw [List.length_drop]; omega)]
      exact ofB_cut s n k hk
    · obtain rfl : k = n := by omega
      rw [List.drop_append, List.drop_of_length_le (by omega), hl, show k * 8 - 8 * k = 0 by omega, List.drop_zero, List.nil_append, List.take_of_length_le (by simp [ofByte])]
theorem word_byte : ∀ c : Nat, c < 256 → wordOf (ofByte (c : Int)) = (c : Int) := by decide +kernel
theorem word_bt (s : ByteArray) (i : Int) : wordOf (ofByte (bt s i)) = bt s i := by
  have h := bt_range s i
  obtain ⟨c, hc⟩ := Int.eq_ofNat_of_zero_le h.1
  rw [hc]
  exact word_byte c (by omega)
theorem of_words (s : ByteArray) (hs : s.size ≤ 4096) : wordsV (ofB s s.size) 8 = ((List.range s.size).map fun k : Nat => bt s (k : Int), 0) := by
  have hl := ofB_length s s.size
  unfold wordsV
  rw [if_pos (by rw [hl]; refine ⟨by omega, by omega, by omega, ?_⟩; show 8 * s.size % 8 = 0; omega), hl, show (8 : Int).toNat = 8 from rfl, show 8 * s.size / 8 = s.size by omega]
  congr 1
  refine List.map_congr_left fun k hk => ?_
  unfold wordK
  rw [ofB_cut s s.size k (by simpa using hk), word_bt]
def bytesV (l : List Bool) : ByteArray × Int := if (wordsV l 8).2 = 0 then (strOfNums ((wordsV l 8).1.map (· % 256)), 0) else (⟨#[]⟩, (wordsV l 8).2)
theorem wordsV_length (l : List Bool) (w : Int) : (wordsV l w).1.length ≤ 32768 := by
  unfold wordsV
  split
  · rename_i h
    rw [List.length_map, List.length_range]
    exact Nat.le_trans (Nat.div_le_self _ _) h.2.2.1
  · simp
theorem rdI_nat (l : List Int) (i : Nat) : rd l (i : Int) = l.getD i 0 := by simp [rd]
theorem bytes_l0 (ws : List Int) (hl : ws.length ≤ 32768) : ∀ (d i : Nat) (x : List Int), i + d = ws.length → x.length = ws.length → x.take i = (ws.map (· % 256)).take i →
    Ev (fun k => bits_Bytes.l0 k x ws (ws.length : Int) (i : Int)) (strOfNums (ws.map (· % 256)), 0)
  | 0, i, x, h, hx, ht => by
    refine Ev.step (fun k => by simp only [bits_Bytes.l0]; rfl) ?_
    refine Ev.ifn (by omega) (Ev.val ?_)
    rw [List.take_of_length_le (by omega), List.take_of_length_le (by rw [List.length_map]; omega)] at ht
    rw [ht]
  | d + 1, i, x, h, hx, ht => by
    have hi : i < ws.length := by omega
    refine Ev.step (fun k => by simp only [bits_Bytes.l0]; rfl) ?_
    refine Ev.ifp (by omega) (Ev.ifp (by omega) (Ev.ifp (by omega) (Ev.ifp (by omega) ?_)))
    rw [show ((i : Int) + 1) = ((i + 1 : Nat) : Int) by omega, w64n (by omega), Int.toNat_natCast, rdI_nat]
    refine bytes_l0 ws hl d (i + 1) _ (by omega) (by simpa using hx) ?_
    rw [List.take_succ_eq_append_getElem (by simpa using (by omega : i < x.length)), List.take_set_of_le (Nat.le_refl _), ht, List.getElem_set_self, List.take_succ_eq_append_getElem (l := ws.map (· % 256)) (by rw [List.length_map]; omega)]
    simp [List.getD_eq_getElem?_getD, hi]
theorem bytes_ev (l : List Bool) : Ev (fun k => bits_Bytes.f k l) (bytesV l) := by
  unfold bits_Bytes.f bytesV
  have hl := wordsV_length l 8
  have hf : bits_Words.f l 8 = some (wordsV l 8) := rfl
  refine Ev.bindc hf ?_
  by_cases h : (wordsV l 8).2 = 0
  · rw [if_pos h]
    refine Ev.ifp h (Ev.ifp (by omega) (Ev.ifp (by rw [Int.toNat_natCast]; omega) ?_))
    rw [Int.toNat_natCast]
    exact bytes_l0 _ hl (wordsV l 8).1.length 0 _ (by omega) (by simp) (by simp)
  · rw [if_neg h]
    exact Ev.ifn h (Ev.now _)
theorem bytes_of (s : ByteArray) (hs : s.size ≤ 4096) : bytesV (ofB s s.size) = (s, 0) := by
  unfold bytesV
  rw [of_words s hs, if_pos rfl]
  congr 1
  rw [List.map_map]
  apply ByteArray.ext
  apply Array.ext
  · show (strOfNums _).size = s.size
    rw [strOfNums_size, List.length_map, List.length_range]
  · intro i h1 h2
    have hi : i < s.size := h2
    have hb := bt_at s (i : Int)
    simp only [Int.toNat_natCast] at hb
    have hb' := hb hi
    have hr := bt_range s (i : Int)
    simp only [strOfNums, List.getElem_toArray, List.getElem_map, List.getElem_range, Function.comp_apply]
    rw [Int.emod_eq_of_lt hr.1 (by omega), ← hb', Int.toNat_natCast]
    exact UInt8.ofNat_toNat
theorem bt_text (l : List Bool) (k : Nat) (h : k < l.length) : bt (textOf l) (k : Int) = ((bitByte l[k]).toNat : Int) := by
  have hs : k < (textOf l).size := by simpa [textOf, ByteArray.size] using h
  have := bt_at (textOf l) (k : Int)
  simp only [Int.toNat_natCast] at this
  rw [← this hs]
  have e : (textOf l)[k]'hs = (l.map bitByte)[k]'(by simpa using h) := by
    show (l.map bitByte).toArray[k]'_ = _
    exact List.getElem_toArray _
  rw [e, List.getElem_map]
theorem textOf_size (l : List Bool) : (textOf l).size = l.length := by simp [textOf, ByteArray.size]
theorem text_good (l : List Bool) (k : Nat) (h : k < l.length) (h2 : k ≠ 32768) : badC (textOf l) k = false := by
  unfold badC
  rw [bt_text l k h, show (k == 32768) = false by simpa using h2]
  cases l[k] <;> rfl
theorem parse_text (l : List Bool) (hl : l.length ≤ 32768) : parseV (textOf l) = (l, 0, 0) := by
  rw [parse_good (textOf l) (fun j hj => text_good l j (by rw [textOf_size] at hj; exact hj) (by rw [textOf_size] at hj; omega)), textOf_size]
  congr 1
  apply List.ext_getElem
  · simp
  · intro i h1 h2
    simp only [List.getElem_map, List.getElem_range]
    rw [bt_text l i h2]
    cases l[i] <;> rfl
theorem parse_more (l : List Bool) (hl : 32768 < l.length) : parseV (textOf l) = ([], 32768, 4) := by
  rw [parse_bad (textOf l) 32768 (by rw [textOf_size]; exact hl) (by unfold badC; simp) (fun j hj => text_good l j (by omega) (by omega))]
  rfl
theorem xorB_self (l : List Bool) : xorB l l = List.replicate l.length false := by
  apply List.ext_getElem
  · simp [xorB]
  · intro i h1 h2
    simp [xorB]
theorem xorB_none (l : List Bool) : xorB (List.replicate l.length false) l = l := by
  apply List.ext_getElem
  · simp [xorB]
  · intro i h1 h2
    simp [xorB]
theorem wgt_none (n : Nat) : wgt (List.replicate n false) = 0 := by simp [wgt, List.count_replicate]
end Go.Proofs.Ytabjfehhibeeiaa.Pure
