/- sums.step and sums.bytes, in the words of Crc. -/
import Derived.Test.YtclhkbjcemgmnaaFogx0
import Derived.Test.YtclhkbjcemgmnaaFogx1
import Derived.Test.YtclhkbjcemgmnaaFogx2
import Derived.Test.YtclhkbjcemgmnaaFogx3
import Derived.Test.YtclhkbjcemgmnaaHandBytes
import Derived.Test.YtclhkbjcemgmnaaKit
import Derived.Test.YtclhkbjcemgmnaaHandBytes
import Derived.Test.YtclhkbjcemgmnaaCrcLong

namespace Go.Proofs.Ytclhkbjcemgmnaa.Crc
open Go.RowKit Go.Proofs.Ytclhkbjcemgmnaa.Fog Go.Proofs.YtclhkbjcemgmnaaW.PrintWords Go.Proofs.YtclhkbjcemgmnaaW.PrintLast Go.Proofs.Ytclhkbjcemgmnaa.Kit
set_option linter.unusedSimpArgs false
set_option linter.unusedVariables false
def P16 : BitVec 16 := 4129#16
theorem p16_low : P16.getLsbD 0 = true := by decide
theorem c16a : Go.bits .xor .u16 65535 0 = 65535 := u16_xor_nat 65535 0 (by omega) (by omega)
theorem c16b : Go.bits .xor .u16 65535 32767 = 32768 := u16_xor_nat 65535 32767 (by omega) (by omega)
theorem c16c : (65535 : Int) / 2 = 32767 := by decide
theorem msb16 (x : BitVec 16) : ((Go.bits .andNot .u16 (x.toNat : Int) 32767) != 0) = x.msb := by
  have h : Go.bits .andNot .u16 (x.toNat : Int) 32767 = ((x.toNat &&& 32768 : Nat) : Int) := u16_andNot_nat x.toNat 32767 x.isLt (by omega)
  have hb := nat_bit 15 x.toNat
  have hlt := x.isLt
  simp only [Nat.reducePow] at hb
  rw [h, hb, BitVec.msb_eq_decide]
  simp only [Nat.reduceSub, Nat.reducePow]
  by_cases hm : 32768 ≤ x.toNat
  · rw [show x.toNat / 32768 % 2 = 1 by omega]; simp [hm]
  · rw [show x.toNat / 32768 % 2 = 0 by omega]; simp [hm]
theorem shl16 (x : BitVec 16) : (x <<< 1).toNat = x.toNat * 2 % 65536 := by
  rw [BitVec.toNat_shiftLeft, Nat.shiftLeft_eq]
theorem step16_f (x : BitVec 16) (b : Bool) : sums_step_uint16.f (x.toNat : Int) 4129 b = some ((Crc.step P16 x b).toNat : Int) := by
  unfold sums_step_uint16.f Crc.step
  rw [c16a, c16c, msb16]
  have hs := shl16 x
  have e : ((x.toNat : Int) * (2 : Int)) % (65536 : Int) = (((x <<< 1).toNat : Nat) : Int) := by rw [hs]; omega
  try simp only [IntKind.wrap_u16]
  rw [e]
  by_cases hc : (x.msb != b) = true
  · rw [if_pos hc, if_pos hc, BitVec.toNat_xor]
    congr 1
    exact u16_xor_nat (x <<< 1).toNat 4129 (x <<< 1).isLt (by omega)
  · rw [if_neg hc, if_neg hc, BitVec.xor_zero]
def P32 : BitVec 32 := 79764919#32
theorem p32_low : P32.getLsbD 0 = true := by decide
theorem c32a : Go.bits .xor .u32 4294967295 0 = 4294967295 := u32_xor_nat 4294967295 0 (by omega) (by omega)
theorem c32b : Go.bits .xor .u32 4294967295 2147483647 = 2147483648 := u32_xor_nat 4294967295 2147483647 (by omega) (by omega)
theorem c32c : (4294967295 : Int) / 2 = 2147483647 := by decide
theorem msb32 (x : BitVec 32) : ((Go.bits .andNot .u32 (x.toNat : Int) 2147483647) != 0) = x.msb := by
  have h : Go.bits .andNot .u32 (x.toNat : Int) 2147483647 = ((x.toNat &&& 2147483648 : Nat) : Int) := u32_andNot_nat x.toNat 2147483647 x.isLt (by omega)
  have hb := nat_bit 31 x.toNat
  have hlt := x.isLt
  simp only [Nat.reducePow] at hb
  rw [h, hb, BitVec.msb_eq_decide]
  simp only [Nat.reduceSub, Nat.reducePow]
  by_cases hm : 2147483648 ≤ x.toNat
  · rw [show x.toNat / 2147483648 % 2 = 1 by omega]; simp [hm]
  · rw [show x.toNat / 2147483648 % 2 = 0 by omega]; simp [hm]
theorem shl32 (x : BitVec 32) : (x <<< 1).toNat = x.toNat * 2 % 4294967296 := by
  rw [BitVec.toNat_shiftLeft, Nat.shiftLeft_eq]
theorem step32_f (x : BitVec 32) (b : Bool) : sums_step_uint32.f (x.toNat : Int) 79764919 b = some ((Crc.step P32 x b).toNat : Int) := by
  unfold sums_step_uint32.f Crc.step
  rw [c32a, c32c, msb32]
  have hs := shl32 x
  have e : ((x.toNat : Int) * (2 : Int)) % (4294967296 : Int) = (((x <<< 1).toNat : Nat) : Int) := by rw [hs]; omega
  try simp only [IntKind.wrap_u16]
  rw [e]
  by_cases hc : (x.msb != b) = true
  · rw [if_pos hc, if_pos hc, BitVec.toNat_xor]
    congr 1
    exact u32_xor_nat (x <<< 1).toNat 79764919 (x <<< 1).isLt (by omega)
  · rw [if_neg hc, if_neg hc, BitVec.xor_zero]

/-- The numbers of a string's bytes. -/
def natsOf (s : ByteArray) : List Nat := s.data.toList.map UInt8.toNat
theorem natsOf_length (s : ByteArray) : (natsOf s).length = s.size := by unfold natsOf; rw [List.length_map, Array.length_toList]; rfl
theorem bt_nats (s : ByteArray) (k : Nat) (hk : k < s.size) : bt s (k : Int) = ((natsOf s).getD k 0 : Nat) := by
  unfold bt
  rw [dif_pos (by simpa using hk)]
  have h1 : k < (natsOf s).length := by rw [natsOf_length]; exact hk
  rw [List.getD_eq_getElem?_getD, List.getElem?_eq_getElem h1, Option.getD_some]
  simp [natsOf]
  rfl
theorem nats_lt (s : ByteArray) (k : Nat) : (natsOf s).getD k 0 < 256 := by
  rw [List.getD_eq_getElem?_getD]
  rcases Nat.lt_or_ge k (natsOf s).length with h | h
  · rw [List.getElem?_eq_getElem h]
    simp only [natsOf, List.getElem_map, Option.getD_some]
    exact UInt8.toNat_lt _
  · rw [List.getElem?_eq_none h]
    decide
theorem u8bit (c j : Nat) (hc : c < 256) (hj : j < 8) : decide (0 < Go.bits .and .u8 (c : Int) ((2 ^ j : Nat) : Int)) = c.testBit j := by
  have hp : 2 ^ j < 2 ^ 8 := Nat.pow_lt_pow_right (a := 2) (by omega) hj
  rw [(bits_nat .u8 8 (by decide) wraps_u8 c (2 ^ j) (by omega) hp).1, nat_bit, Nat.testBit_eq_decide_div_mod_eq]
  have hpos := Nat.two_pow_pos j
  rcases Nat.mod_two_eq_zero_or_one (c / 2 ^ j) with e | e
  · rw [e]; simp
  · rw [e, Nat.one_mul]
    generalize 2 ^ j = P at hpos
    rw [decide_eq_true (by omega : (0 : Int) < ((P : Nat) : Int))]; rfl

theorem st16_step (x : BitVec 16) (b : Bool) : st16 (x.toNat : Int) 4129 b = ((Crc.step P16 x b).toNat : Int) := by
  unfold st16
  rw [step16_f]
  rfl
theorem inner16_crc (c : Nat) (hc : c < 256) : ∀ (j : Nat), j < 8 → ∀ (f : Nat), j < f → ∀ x : BitVec 16,
    inner16 4129 (c : Int) f (2 ^ j) (x.toNat : Int) = ((crc P16 x ((byteBits c).drop (7 - j))).toNat : Int)
  | 0, _, f + 1, _, x => by
    simp only [inner16]
    rw [if_neg (by decide), u8bit c 0 hc (by decide), st16_step]
    rw [show 2 ^ 0 / 2 = 0 from rfl, inner16_zero]
    rfl
  | j + 1, hj, f + 1, hf, x => by
    simp only [inner16]
    have hpos := Nat.two_pow_pos (j + 1)
    rw [if_neg (by omega), u8bit c (j + 1) hc hj, st16_step, show 2 ^ (j + 1) / 2 = 2 ^ j by rw [Nat.pow_succ]; omega, inner16_crc c hc j (by omega) f (by omega)]
    have hd : (byteBits c).drop (7 - (j + 1)) = c.testBit (j + 1) :: (byteBits c).drop (7 - j) := by
      rw [List.drop_eq_getElem_cons (show 7 - (j + 1) < (byteBits c).length by rw [byteBits_length]; omega), show 7 - (j + 1) + 1 = 7 - j by omega]
      congr 1
      simp [byteBits]
      congr 1
      omega
    rw [hd, crc_cons]
theorem outer16_crc (s : ByteArray) : ∀ k, k ≤ s.size → outer16 4129 s k = ((crc P16 0#16 (bitsOf ((natsOf s).take k))).toNat : Int)
  | 0, _ => rfl
  | k + 1, hk => by
    have hl : k < (natsOf s).length := by rw [natsOf_length]; omega
    simp only [outer16]
    rw [outer16_crc s k (by omega), bt_nats s k (by omega), show (128 : Nat) = 2 ^ 7 from rfl, inner16_crc _ (nats_lt s k) 7 (by decide) 8 (by decide)]
    rw [List.take_succ_eq_append_getElem hl, bitsOf, bitsOf, List.flatMap_append, crc_append]
    congr 2
    simp [List.getD_eq_getElem?_getD, hl]
def B16 (s : ByteArray) : BitVec 16 := crc P16 0#16 (bitsOf (natsOf s))
theorem bytes16_f (s : ByteArray) (hs : s.size ≤ 140737488355328) : sums_Bytes16.f s = some ((B16 s).toNat : Int) := by
  unfold sums_Bytes16.f sums_bytes_uint16.f
  rw [if_pos hs, outer16_crc s s.size (Nat.le_refl _), ← natsOf_length, List.take_length]
  rfl
theorem one16 : crc P16 1#16 (List.replicate 16 false) = P16 := by decide +kernel

theorem st32_step (x : BitVec 32) (b : Bool) : st32 (x.toNat : Int) 79764919 b = ((Crc.step P32 x b).toNat : Int) := by
  unfold st32
  rw [step32_f]
  rfl
theorem inner32_crc (c : Nat) (hc : c < 256) : ∀ (j : Nat), j < 8 → ∀ (f : Nat), j < f → ∀ x : BitVec 32,
    inner32 79764919 (c : Int) f (2 ^ j) (x.toNat : Int) = ((crc P32 x ((byteBits c).drop (7 - j))).toNat : Int)
  | 0, _, f + 1, _, x => by
    simp only [inner32]
    rw [if_neg (by decide), u8bit c 0 hc (by decide), st32_step]
    rw [show 2 ^ 0 / 2 = 0 from rfl, inner32_zero]
    rfl
  | j + 1, hj, f + 1, hf, x => by
    simp only [inner32]
    have hpos := Nat.two_pow_pos (j + 1)
    rw [if_neg (by omega), u8bit c (j + 1) hc hj, st32_step, show 2 ^ (j + 1) / 2 = 2 ^ j by rw [Nat.pow_succ]; omega, inner32_crc c hc j (by omega) f (by omega)]
    have hd : (byteBits c).drop (7 - (j + 1)) = c.testBit (j + 1) :: (byteBits c).drop (7 - j) := by
      rw [List.drop_eq_getElem_cons (show 7 - (j + 1) < (byteBits c).length by rw [byteBits_length]; omega), show 7 - (j + 1) + 1 = 7 - j by omega]
      congr 1
      simp [byteBits]
      congr 1
      omega
    rw [hd, crc_cons]
theorem outer32_crc (s : ByteArray) : ∀ k, k ≤ s.size → outer32 79764919 s k = ((crc P32 0#32 (bitsOf ((natsOf s).take k))).toNat : Int)
  | 0, _ => rfl
  | k + 1, hk => by
    have hl : k < (natsOf s).length := by rw [natsOf_length]; omega
    simp only [outer32]
    rw [outer32_crc s k (by omega), bt_nats s k (by omega), show (128 : Nat) = 2 ^ 7 from rfl, inner32_crc _ (nats_lt s k) 7 (by decide) 8 (by decide)]
    rw [List.take_succ_eq_append_getElem hl, bitsOf, bitsOf, List.flatMap_append, crc_append]
    congr 2
    simp [List.getD_eq_getElem?_getD, hl]
def B32 (s : ByteArray) : BitVec 32 := crc P32 0#32 (bitsOf (natsOf s))
theorem bytes32_f (s : ByteArray) (hs : s.size ≤ 140737488355328) : sums_Bytes32.f s = some ((B32 s).toNat : Int) := by
  unfold sums_Bytes32.f sums_bytes_uint32.f
  rw [if_pos hs, outer32_crc s s.size (Nat.le_refl _), ← natsOf_length, List.take_length]
  rfl
theorem one32 : crc P32 1#32 (List.replicate 32 false) = P32 := by decide +kernel
end Go.Proofs.Ytclhkbjcemgmnaa.Crc
