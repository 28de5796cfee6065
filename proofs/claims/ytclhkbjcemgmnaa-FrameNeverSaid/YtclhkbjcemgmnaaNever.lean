/- A burst is refused: plain. -/
import Derived.Test.YtclhkbjcemgmnaaFogx0
import Derived.Test.YtclhkbjcemgmnaaBack
namespace Go.Proofs.Ytclhkbjcemgmnaa.Pure
open Go.RowKit Go.Proofs.Ytclhkbjcemgmnaa.Fog Go.Proofs.YtclhkbjcemgmnaaW.PrintWords Go.Proofs.YtclhkbjcemgmnaaW.PrintLast Go.Proofs.YtclhkbjcemgmnaaW.PrintMore Go.Proofs.Ytclhkbjcemgmnaa.Kit Go.Proofs.Ytclhkbjcemgmnaa.Crc
set_option linter.unusedSimpArgs false
set_option linter.unusedVariables false
theorem bitsOf_append (a b : List Nat) : bitsOf (a ++ b) = bitsOf a ++ bitsOf b := by simp [bitsOf]
theorem bitsOf_take (l : List Nat) (k : Nat) : bitsOf (l.take k) = (bitsOf l).take (8 * k) := by
  rcases Nat.lt_or_ge k l.length with h | h
  · have e : bitsOf l = bitsOf (l.take k) ++ bitsOf (l.drop k) := by rw [← bitsOf_append, List.take_append_drop]
    have hl : (bitsOf (l.take k)).length = 8 * k := by rw [bitsOf_length, List.length_take]; omega
    rw [e, ← hl, List.take_left]
  · rw [List.take_of_length_le h, List.take_of_length_le (by rw [bitsOf_length]; omega)]
theorem bitsOf_drop (l : List Nat) (k : Nat) : bitsOf (l.drop k) = (bitsOf l).drop (8 * k) := by
  rcases Nat.lt_or_ge k l.length with h | h
  · have e : bitsOf l = bitsOf (l.take k) ++ bitsOf (l.drop k) := by rw [← bitsOf_append, List.take_append_drop]
    have hl : (bitsOf (l.take k)).length = 8 * k := by rw [bitsOf_length, List.length_take]; omega
    rw [e, ← hl, List.drop_left]
  · rw [List.drop_eq_nil_of_le h, List.drop_eq_nil_of_le (by rw [bitsOf_length]; omega)]
    rfl
def nat8 (l : List Int) : List Nat := l.map fun n => n.toNat % 256
theorem two_bits (x : BitVec 16) : bitsOf (nat8 (two x.toNat)) = spelt x := by
  have hx := x.isLt
  have e : nat8 (two x.toNat) = [x.toNat / 256, x.toNat % 256] := by
    simp only [nat8, two, List.map_cons, List.map_nil]
    congr 1
    · omega
    · congr 1; omega
  rw [e]
  apply ext_getD (by rw [bitsOf_length, spelt_length]; rfl)
  intro i hi
  rw [bitsOf_length] at hi
  simp only [List.length_cons, List.length_nil] at hi
  rw [bitsOf_get _ i (by simp; omega), spelt_get _ i (by omega), BitVec.getMsbD_eq_getLsbD, ← BitVec.testBit_toNat]
  rcases Nat.lt_or_ge i 8 with h | h
  · rw [Nat.div_eq_of_lt h, Nat.mod_eq_of_lt h]
    simp only [List.getD_cons_zero]
    rw [show x.toNat / 256 = x.toNat / 2 ^ 8 from rfl, Nat.testBit_div_two_pow]
    simp only [show i < 16 by omega, decide_true, Bool.true_and]
    congr 1; omega
  · rw [show i / 8 = 0 + 1 by omega]
    simp only [List.getD_cons_succ, List.getD_cons_zero]
    rw [show x.toNat % 256 = x.toNat % 2 ^ 8 from rfl, Nat.testBit_mod_two_pow]
    simp only [show i < 16 by omega, decide_true, Bool.true_and, show 7 - i % 8 < 8 by omega]
    congr 1; omega
theorem four_bits (x : BitVec 32) : bitsOf (nat8 (four x.toNat)) = spelt x := by
  have hx := x.isLt
  have e : nat8 (four x.toNat) = [x.toNat / 2 ^ 24 % 2 ^ 8, x.toNat / 2 ^ 16 % 2 ^ 8, x.toNat / 2 ^ 8 % 2 ^ 8, x.toNat / 2 ^ 0 % 2 ^ 8] := by
    simp only [nat8, four, List.map_cons, List.map_nil]
    congr 1
    · omega
    · congr 1
      · omega
      · congr 1
        · omega
        · congr 1; omega
  rw [e]
  apply ext_getD (by rw [bitsOf_length, spelt_length]; rfl)
  intro i hi
  rw [bitsOf_length] at hi
  simp only [List.length_cons, List.length_nil] at hi
  rw [bitsOf_get _ i (by simp; omega), spelt_get _ i (by omega), BitVec.getMsbD_eq_getLsbD, ← BitVec.testBit_toNat]
  have key : ∀ q r : Nat, r < 8 → 8 * q + (7 - r) = 31 - i → (x.toNat / 2 ^ (8 * q) % 2 ^ 8).testBit (7 - r) = (decide (i < 32) && x.toNat.testBit (32 - 1 - i)) := by
    intro q r hr hq
    rw [Nat.testBit_mod_two_pow, Nat.testBit_div_two_pow]
    simp only [show i < 32 by omega, decide_true, Bool.true_and, show 7 - r < 8 by omega]
    congr 1; omega
  have h4 : i / 8 = 0 ∨ i / 8 = 1 ∨ i / 8 = 2 ∨ i / 8 = 3 := by omega
  rcases h4 with h | h | h | h
  · rw [h]; exact key 3 (i % 8) (by omega) (by omega)
  · rw [h]; exact key 2 (i % 8) (by omega) (by omega)
  · rw [h]; exact key 1 (i % 8) (by omega) (by omega)
  · rw [h]; exact key 0 (i % 8) (by omega) (by omega)
theorem nats_packed (a0 a1 : Int) (m : Bool) (s : ByteArray) : natsOf (packed a0 a1 m s) = nat8 (head3 a0 a1 m s ++ two (B16 (strOfNums (head3 a0 a1 m s))).toNat) ++ natsOf s ++ nat8 (four (B32 s).toNat) := by
  unfold packed
  rw [nats_append, nats_append, nats_str, nats_str]
  rfl
theorem nats_extract (b : ByteArray) (k : Nat) : natsOf (b.extract 0 k) = (natsOf b).take k := by
  unfold natsOf
  rw [ByteArray.data_extract, Array.toList_extract, List.extract_eq_take_drop, List.drop_zero, Nat.sub_zero, List.map_take]
theorem fits_nats (b : ByteArray) (h : fitsB b = true) : lenOf b ≤ b.size ∧ natsOf (packed (kindOf b) (bt b 1) (moreOf b) (bodyOf b)) = (natsOf b).take (lenOf b) := by
  unfold fitsB at h
  simp only [Bool.and_eq_true, decide_eq_true_eq] at h
  obtain ⟨h9, hl, hm, he⟩ := h
  refine ⟨hl, ?_⟩
  rw [← nats_extract]
  unfold natsOf
  rw [ByteArray.toList_eq, ByteArray.toList_eq] at he
  rw [he]
theorem fits16 (b : ByteArray) (h : fitsB b = true) : crc P16 0#16 (bitsOf ((natsOf b).take 5)) = 0#16 := by
  obtain ⟨hl, he⟩ := fits_nats b h
  have h9 := len_le b
  have e : (natsOf b).take 5 = ((natsOf b).take (lenOf b)).take 5 := by rw [List.take_take, Nat.min_eq_left (by omega)]
  rw [e, ← he, nats_packed, List.append_assoc, List.take_append_of_le_length (by simp [nat8, head3, two]), List.take_of_length_le (by simp [nat8, head3, two])]
  have e2 : nat8 (head3 (kindOf b) (bt b 1) (moreOf b) (bodyOf b) ++ two (B16 (strOfNums (head3 (kindOf b) (bt b 1) (moreOf b) (bodyOf b)))).toNat) = natsOf (strOfNums (head3 (kindOf b) (bt b 1) (moreOf b) (bodyOf b))) ++ nat8 (two (B16 (strOfNums (head3 (kindOf b) (bt b 1) (moreOf b) (bodyOf b)))).toNat) := by
    rw [nats_str]
    simp [nat8]
  rw [e2, bitsOf_append, two_bits, crc_append]
  exact crc_spelt _ _
theorem fits32 (b : ByteArray) (h : fitsB b = true) (hl : lenOf b = b.size) : crc P32 0#32 (bitsOf ((natsOf b).drop 5)) = 0#32 := by
  obtain ⟨_, he⟩ := fits_nats b h
  rw [hl, List.take_of_length_le (by rw [natsOf_length]; exact Nat.le_refl _)] at he
  rw [← he, nats_packed, List.append_assoc]
  have h5 : (nat8 (head3 (kindOf b) (bt b 1) (moreOf b) (bodyOf b) ++ two (B16 (strOfNums (head3 (kindOf b) (bt b 1) (moreOf b) (bodyOf b)))).toNat)).length = 5 := by simp [nat8, head3, two]
  rw [← h5, List.drop_left, bitsOf_append, four_bits, crc_append]
  exact crc_spelt _ _
theorem zeros_of (l : List Bool) (h : ∀ j, j < l.length → l.getD j false = false) : l = List.replicate l.length false := by
  apply ext_getD (by simp)
  intro i hi
  rw [h i hi]
  simp [List.getD_eq_getElem?_getD, hi]
/-- A burst anywhere in a row. -/
theorem detect_at {w : Nat} {p : BitVec w} (hw : 0 < w) (hp : p.getLsbD 0 = true) (l : List Bool) (at_ : Nat) (h : ∀ j, j < l.length → (j < at_ ∨ at_ + w ≤ j) → l.getD j false = false) (hc : crc p 0#w l = 0#w) : l = List.replicate l.length false := by
  have e1 : l = l.take at_ ++ ((l.drop at_).take w ++ (l.drop at_).drop w) := by rw [List.take_append_drop, List.take_append_drop]
  have z1 : l.take at_ = List.replicate (l.take at_).length false := zeros_of _ (fun j hj => by
    rw [List.length_take] at hj
    have := h j (by omega) (by omega)
    rw [List.getD_eq_getElem?_getD] at this ⊢
    rw [List.getElem?_take, if_pos (by omega)]
    exact this)
  have z3 : (l.drop at_).drop w = List.replicate ((l.drop at_).drop w).length false := zeros_of _ (fun j hj => by
    rw [List.length_drop, List.length_drop] at hj
    have := h (at_ + (w + j)) (by omega) (by omega)
    rw [List.getD_eq_getElem?_getD] at this ⊢
    rw [List.getElem?_drop, List.getElem?_drop]
    exact this)
  have z2 : (l.drop at_).take w = List.replicate ((l.drop at_).take w).length false := by
    refine detect hw hp _ (by rw [List.length_take]; omega) ?_
    rw [e1, crc_append, crc_append, z1, crc_zeros, z3] at hc
    exact zeros_inj hw hp _ _ hc
  refine zeros_of l fun j hj => ?_
  rcases Nat.lt_or_ge j at_ with hja | hja
  · exact h j hj (.inl hja)
  · rcases Nat.lt_or_ge j (at_ + w) with hjb | hjb
    · have hl2 : j - at_ < ((l.drop at_).take w).length := by rw [List.length_take, List.length_drop]; omega
      have : ((l.drop at_).take w).getD (j - at_) false = false := by
        rw [z2, List.getD_eq_getElem?_getD]
        exact replicate_false _ _
      rw [List.getD_eq_getElem?_getD, List.getElem?_take, if_pos (by omega), List.getElem?_drop] at this
      rw [List.getD_eq_getElem?_getD, ← this]
      congr 2
      omega
    · exact h j hj (.inr hjb)
theorem xl_getD2 (a b : List Bool) (h : a.length = b.length) (j : Nat) : (xl a b).getD j false = (a.getD j false != b.getD j false) := by
  rw [List.getD_eq_getElem?_getD, List.getD_eq_getElem?_getD, List.getD_eq_getElem?_getD]
  unfold xl
  rw [List.getElem?_zipWith]
  rcases Nat.lt_or_ge j a.length with hj | hj
  · rw [List.getElem?_eq_getElem hj, List.getElem?_eq_getElem (show j < b.length by omega)]
    rfl
  · rw [List.getElem?_eq_none hj, List.getElem?_eq_none (by omega)]
    rfl
theorem xl_zero_eq (a b : List Bool) (h : a.length = b.length) (k : xl a b = List.replicate (xl a b).length false) : a = b := by
  apply ext_getD h
  intro i hi
  have h1 := xl_getD2 a b h i
  rw [k] at h1
  have h2 : (List.replicate (xl a b).length false).getD i false = false := by
    rw [List.getD_eq_getElem?_getD]
    exact replicate_false _ _
  rw [h2] at h1
  revert h1
  cases a.getD i false <;> cases b.getD i false <;> simp
theorem bits_inj (a b : List Nat) (h : a.length = b.length) (ha : ∀ x ∈ a, x < 256) (hb : ∀ x ∈ b, x < 256) (k : bitsOf a = bitsOf b) : a = b := by
  apply List.ext_getElem h
  intro i h1 h2
  have hx := ha _ (List.getElem_mem h1)
  have hy := hb _ (List.getElem_mem h2)
  apply Nat.eq_of_testBit_eq
  intro q
  rcases Nat.lt_or_ge q 8 with hq | hq
  · have e1 := bitsOf_get a (8 * i + (7 - q)) (by omega)
    have e2 := bitsOf_get b (8 * i + (7 - q)) (by omega)
    rw [k, e2, show (8 * i + (7 - q)) / 8 = i by omega, show 7 - (8 * i + (7 - q)) % 8 = q by omega] at e1
    simp only [List.getD_eq_getElem?_getD, List.getElem?_eq_getElem h1, List.getElem?_eq_getElem h2, Option.getD_some] at e1
    exact e1.symm
  · rw [Nat.testBit_lt_two_pow (Nat.lt_of_lt_of_le hx (Nat.pow_le_pow_right (n := 2) (by omega) hq)), Nat.testBit_lt_two_pow (Nat.lt_of_lt_of_le hy (Nat.pow_le_pow_right (n := 2) (by omega) hq))]
theorem nats_small (s : ByteArray) : ∀ x ∈ natsOf s, x < 256 := by
  intro x hx
  unfold natsOf at hx
  obtain ⟨u, _, rfl⟩ := List.mem_map.1 hx
  exact u.toNat_lt
theorem nats_inj (a b : ByteArray) (h : natsOf a = natsOf b) : a = b := by
  apply ByteArray.ext
  apply Array.ext'
  unfold natsOf at h
  exact (List.map_inj_right (fun x y e => UInt8.toNat_inj.1 e)).1 h
/-- THE STAGE's THEOREM: turned within 16 bits in a row anywhere, or within 32 behind the head. -/
theorem never (s b : ByteArray) (hs : fitsB s = true) (hsl : lenOf s = s.size) (hb : b.size = s.size) (at_ : Nat) (h : ∀ j, j < 8 * s.size → (j < at_ ∨ at_ + (if at_ < 40 then 16 else 32) ≤ j) → (bitsOf (natsOf b)).getD j false = (bitsOf (natsOf s)).getD j false) (hne : b ≠ s) : fitsB b = false := by
  rw [Bool.eq_false_iff]
  intro hf
  apply hne
  have h9 := len_le s
  have lB : (bitsOf (natsOf b)).length = 8 * s.size := by rw [bitsOf_length, natsOf_length, hb]
  have lS : (bitsOf (natsOf s)).length = 8 * s.size := by rw [bitsOf_length, natsOf_length]
  have k1 : ∀ k, xl ((bitsOf (natsOf b)).take k) ((bitsOf (natsOf s)).take k) = (xl (bitsOf (natsOf b)) (bitsOf (natsOf s))).take k := fun k => List.take_zipWith.symm
  have k2 : ∀ k, xl ((bitsOf (natsOf b)).drop k) ((bitsOf (natsOf s)).drop k) = (xl (bitsOf (natsOf b)) (bitsOf (natsOf s))).drop k := fun k => List.drop_zipWith.symm
  have hD : ∀ j, j < 8 * s.size → (j < at_ ∨ at_ + (if at_ < 40 then 16 else 32) ≤ j) → (xl (bitsOf (natsOf b)) (bitsOf (natsOf s))).getD j false = false := by
    intro j hj ho
    rw [xl_getD2 _ _ (by rw [lB, lS]), h j hj ho]
    simp
  have c16 : crc P16 0#16 (xl ((bitsOf (natsOf b)).take 40) ((bitsOf (natsOf s)).take 40)) = 0#16 := by
    have := crc_xor P16 ((bitsOf (natsOf b)).take 40) ((bitsOf (natsOf s)).take 40) 0#16 0#16 (by rw [List.length_take, List.length_take, lB, lS])
    rw [BitVec.xor_zero] at this
    rw [this, show (40 : Nat) = 8 * 5 from rfl, ← bitsOf_take, ← bitsOf_take, fits16 b hf, fits16 s hs, BitVec.xor_zero]
  have z16 := detect_at (p := P16) (by omega) p16_low _ at_ (fun j hj ho => by
    rw [xl_length _ _ (by rw [List.length_take, List.length_take, lB, lS]), List.length_take, lB] at hj
    rw [k1, List.getD_eq_getElem?_getD, List.getElem?_take, if_pos (by omega), ← List.getD_eq_getElem?_getD]
    refine hD j (by omega) ?_
    split <;> omega) c16
  have e40 := xl_zero_eq _ _ (by rw [List.length_take, List.length_take, lB, lS]) z16
  rw [show (40 : Nat) = 8 * 5 from rfl, ← bitsOf_take, ← bitsOf_take] at e40
  have n5 := bits_inj _ _ (by rw [List.length_take, List.length_take, natsOf_length, natsOf_length, hb]) (fun x hx => nats_small b x (List.mem_of_mem_take hx)) (fun x hx => nats_small s x (List.mem_of_mem_take hx)) e40
  have b2 : bt b 2 = bt s 2 := by
    have q1 := bt_nats b 2 (by omega)
    have q2 := bt_nats s 2 (by omega)
    rw [show ((2 : Nat) : Int) = 2 from rfl] at q1 q2
    rw [q1, q2]
    have := congrArg (fun l : List Nat => l.getD 2 0) n5
    simp only [List.getD_eq_getElem?_getD, List.getElem?_take, show (2 : Nat) < 5 by omega, if_true] at this ⊢
    rw [this]
  have hbl : lenOf b = b.size := by rw [hb, ← hsl]; unfold lenOf; rw [b2]
  have c32 : crc P32 0#32 (xl ((bitsOf (natsOf b)).drop 40) ((bitsOf (natsOf s)).drop 40)) = 0#32 := by
    have := crc_xor P32 ((bitsOf (natsOf b)).drop 40) ((bitsOf (natsOf s)).drop 40) 0#32 0#32 (by rw [List.length_drop, List.length_drop, lB, lS])
    rw [BitVec.xor_zero] at this
    rw [this, show (40 : Nat) = 8 * 5 from rfl, ← bitsOf_drop, ← bitsOf_drop, fits32 b hf hbl, fits32 s hs hsl, BitVec.xor_zero]
  have z32 := detect_at (p := P32) (by omega) p32_low _ (at_ - 40) (fun j hj ho => by
    rw [xl_length _ _ (by rw [List.length_drop, List.length_drop, lB, lS]), List.length_drop, lB] at hj
    rw [k2, List.getD_eq_getElem?_getD, List.getElem?_drop, ← List.getD_eq_getElem?_getD]
    refine hD (40 + j) (by omega) ?_
    split <;> omega) c32
  have e32 := xl_zero_eq _ _ (by rw [List.length_drop, List.length_drop, lB, lS]) z32
  apply nats_inj
  refine bits_inj _ _ (by rw [natsOf_length, natsOf_length, hb]) (nats_small b) (nats_small s) ?_
  rw [show (40 : Nat) = 8 * 5 from rfl, ← bitsOf_take, ← bitsOf_take] at *
  rw [← List.take_append_drop 40 (bitsOf (natsOf b)), ← List.take_append_drop 40 (bitsOf (natsOf s)), e32]
  rw [bitsOf_take, bitsOf_take] at e40
  rw [show (8 * 5 : Nat) = 40 from rfl] at e40
  rw [e40]
/-! ### one byte turned -/
theorem turn_bit (c r : Nat) (hc : c < 256) (hr : r < 8) : ∃ d : Nat, Go.bits .xor .u8 (c : Int) ((2 ^ (7 - r) : Nat) : Int) = (d : Int) ∧ d < 256 ∧ ∀ q, d.testBit q = (c.testBit q != decide (q = 7 - r)) := by
  have hp : 2 ^ (7 - r) < 256 := Nat.pow_lt_pow_right (a := 2) (n := 8) (by omega) (by omega)
  refine ⟨c ^^^ 2 ^ (7 - r), u8_xor_nat c _ hc hp, Nat.xor_lt_two_pow (n := 8) hc hp, fun q => ?_⟩
  rw [Nat.testBit_xor, Nat.testBit_two_pow]
  simp only [eq_comm (a := 7 - r)]
  first | done | (cases c.testBit q <;> simp)
end Go.Proofs.Ytclhkbjcemgmnaa.Pure
