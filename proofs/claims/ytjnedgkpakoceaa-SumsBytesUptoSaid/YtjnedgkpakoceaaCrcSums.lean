/- What the functions of package sums answer, in the words of Crc. -/
import Derived.Test.YtjnedgkpakoceaaFogx0
import Derived.Test.YtjnedgkpakoceaaFogx1
import Derived.Test.YtjnedgkpakoceaaFogx10
import Derived.Test.YtjnedgkpakoceaaFogx9
import Derived.Test.YtjnedgkpakoceaaHandConcat
import Derived.Test.YtjnedgkpakoceaaKit
import Derived.Test.YtjnedgkpakoceaaCrc
namespace Go.Proofs.Ytjnedgkpakoceaa.Crc
open Go.RowKit Go.Proofs.Ytjnedgkpakoceaa.Fog Go.Proofs.YtjnedgkpakoceaaW.PrintWords Go.Proofs.YtjnedgkpakoceaaW.PrintLast Go.Proofs.Ytjnedgkpakoceaa.Kit
set_option linter.unusedSimpArgs false
set_option linter.unusedVariables false

def P16 : BitVec 16 := 4129#16
theorem p16_low : P16.getLsbD 0 = true := by decide
theorem c16a : Go.bits .xor .u16 65535 0 = 65535 := u16_xor_nat 65535 0 (by omega) (by omega)
theorem c16b : Go.bits .xor .u16 65535 32767 = 32768 := u16_xor_nat 65535 32767 (by omega) (by omega)
theorem c16c : (65535 : Int) / 2 = 32767 := by decide
theorem msb16 (x : BitVec 16) : ((Go.bits .andNot .u16 (x.toNat : Int) 32767) != 0) = x.msb := by
  have h : Go.bits .andNot .u16 (x.toNat : Int) 32767 = ((x.toNat &&& 32768 : Nat) : Int) := u16_andNot_nat x.toNat 32767 x.isLt (by omega)
  have hb := nat_bit 15 x.toNat
  have hlt := x.isLt
  simp only [Nat.reducePow] at hb
  rw [h, hb, BitVec.msb_eq_decide]
  simp only [Nat.reduceSub, Nat.reducePow]
  by_cases hm : 32768 ≤ x.toNat
  · rw [show x.toNat / 32768 % 2 = 1 by omega]; simp [hm]
  · rw [show x.toNat / 32768 % 2 = 0 by omega]; simp [hm]
theorem shl16 (x : BitVec 16) : (x <<< 1).toNat = x.toNat * 2 % 65536 := by
  rw [BitVec.toNat_shiftLeft, Nat.shiftLeft_eq]
theorem step16_f (x : BitVec 16) (b : Bool) : sums_step_uint16.f (x.toNat : Int) 4129 b = some ((Crc.step P16 x b).toNat : Int) := by
  unfold sums_step_uint16.f Crc.step
  rw [c16a, c16c, msb16]
  have hs := shl16 x
  have e : ((x.toNat : Int) * (2 : Int)) % (65536 : Int) = (((x <<< 1).toNat : Nat) : Int) := by rw [hs]; omega
  try simp only [IntKind.wrap_u16]
  rw [e]
  by_cases hc : (x.msb != b) = true
  · rw [if_pos hc, if_pos hc, BitVec.toNat_xor]
    congr 1
    exact u16_xor_nat (x <<< 1).toNat 4129 (x <<< 1).isLt (by omega)
  · rw [if_neg hc, if_neg hc, BitVec.xor_zero]
theorem on16_l0 (l : List Bool) (hl : l.length ≤ 32768) : ∀ (d i : Nat) (x : BitVec 16), i + d = l.length →
    Ev (fun k => sums_on_uint16.l0 k (x.toNat : Int) 4129 l (l.length : Int) (i : Int)) (((crc P16 x (l.drop i)).toNat : Int), 0)
  | 0, i, x, h => by
    refine Ev.step (fun k => by simp only [sums_on_uint16.l0]; rfl) ?_
    refine Ev.ifn (by omega) ?_
    rw [List.drop_eq_nil_of_le (by omega)]
    exact Ev.now _
  | d + 1, i, x, h => by
    have ih := on16_l0 l hl d (i + 1) (Crc.step P16 x (l.getD i false)) (by omega)
    have hi : i < l.length := by omega
    refine Ev.step (fun k => by simp only [sums_on_uint16.l0]; rfl) ?_
    refine Ev.ifp (by omega) (Ev.ifp (by omega) (Ev.ifp (by omega) ?_))
    rw [show rdOf false l (i : Int) = l.getD i false from rfl]
    refine Ev.bindc (step16_f x _) ?_
    rw [w64 (by omega) (by omega)]
    rw [List.drop_eq_getElem_cons hi, crc_cons, show l[i] = l.getD i false by simp [List.getD_eq_getElem?_getD, hi]]
    exact ih
theorem on16_ev (x : BitVec 16) (l : List Bool) (hl : l.length ≤ 32768) : Ev (fun k => sums_on_uint16.f k (x.toNat : Int) 4129 l) (((crc P16 x l).toNat : Int), 0) := by
  simp only [sums_on_uint16.f]
  exact Ev.ifn (by omega) (on16_l0 l hl l.length 0 x (by omega))
theorem on16_long (s : Int) (l : List Bool) (hl : 32768 < l.length) : Ev (fun k => sums_on_uint16.f k s 4129 l) (0, 1) := by
  simp only [sums_on_uint16.f]
  exact Ev.ifp (by omega) (Ev.now _)
theorem sum16_ev (l : List Bool) (hl : l.length ≤ 32768) : Ev (fun k => sums_Sum16.f k l) (((crc P16 0#16 l).toNat : Int), 0) := by
  simp only [sums_Sum16.f]
  exact Ev.bind (on16_ev 0#16 l hl) (Ev.now _)
theorem sum16_long (l : List Bool) (hl : 32768 < l.length) : Ev (fun k => sums_Sum16.f k l) (0, 1) := by
  simp only [sums_Sum16.f]
  exact Ev.bind (on16_long 0 l hl) (Ev.now _)
theorem andbit16 (x : BitVec 16) (j : Nat) (hj : j < 16) : decide (Go.bits .and .u16 (x.toNat : Int) ((2 ^ j : Nat) : Int) > 0) = x.getLsbD j := by
  have hp : 2 ^ j < 65536 := Nat.pow_lt_pow_right (a := 2) (by omega) hj
  rw [u16_and_nat x.toNat (2 ^ j) x.isLt hp, nat_bit, ← BitVec.testBit_toNat, Nat.testBit_eq_decide_div_mod_eq]
  have hpos := Nat.two_pow_pos j
  rcases Nat.mod_two_eq_zero_or_one (x.toNat / 2 ^ j) with e | e
  · rw [e]; simp
  · rw [e, Nat.one_mul]
    generalize 2 ^ j = P at hpos
    rw [decide_eq_true (by omega : ((P : Nat) : Int) > 0)]; rfl
theorem spelt16_l0 (x : BitVec 16) : ∀ j : Nat, j ≤ 16 → Ev (fun k => sums_spelt_uint16.l0 k (x.toNat : Int) (pref x (16 - j)) ((2 ^ j / 2 : Nat) : Int)) (spelt x)
  | 0, _ => by
    refine Ev.step (fun k => by simp only [sums_spelt_uint16.l0]; rfl) ?_
    refine Ev.ifn (by simp) ?_
    exact Ev.now _
  | j + 1, hj => by
    have ih := spelt16_l0 x j (by omega)
    have hpos := Nat.two_pow_pos j
    have e : 2 ^ (j + 1) / 2 = 2 ^ j := by rw [Nat.pow_succ]; omega
    refine Ev.step (fun k => by simp only [sums_spelt_uint16.l0]; rfl) ?_
    rw [e]
    refine Ev.ifp (by omega) (Ev.ifp (by rw [pref_length]; omega) ?_)
    rw [andbit16 x j (by omega), show ((2 ^ j : Nat) : Int) / 2 = ((2 ^ j / 2 : Nat) : Int) by omega]
    rw [show x.getLsbD j = x.getMsbD (16 - (j + 1)) by rw [BitVec.getMsbD_eq_getLsbD, show 16 - 1 - (16 - (j + 1)) = j by omega]; simp; omega, ← pref_succ, show 16 - (j + 1) + 1 = 16 - j by omega]
    exact ih
theorem spelt16_ev (x : BitVec 16) : Ev (fun k => sums_spelt_uint16.f k (x.toNat : Int)) (spelt x) := by
  simp only [sums_spelt_uint16.f]
  rw [c16a, c16c, c16b]
  exact spelt16_l0 x 16 (Nat.le_refl _)
theorem row16_ev (l : List Bool) (hl : l.length + 16 ≤ 32768) : Ev (fun k => sums_Row16.f k l) (l ++ spelt (crc P16 0#16 l), 0) := by
  simp only [sums_Row16.f, sums_row_uint16.f]
  refine Ev.bind (a := (l ++ spelt (crc P16 0#16 l), 0)) ?_ (Ev.now _)
  refine Ev.bind (on16_ev 0#16 l (by omega)) ?_
  refine Ev.bind (spelt16_ev _) ?_
  refine Ev.ifp rfl ?_
  rw [spelt_length, w64 (by omega) (by omega)]
  refine Ev.ifn (by omega) ?_
  refine Ev.bindc (a := l ++ spelt (crc P16 0#16 l)) ?_ (Ev.now _)
  unfold slices_Concat_bool_bool.f
  have e : ([l, spelt (crc P16 0#16 l)] : List (List Bool)).flatten = l ++ spelt (crc P16 0#16 l) := by simp
  rw [e, if_pos (by rw [List.length_append, spelt_length]; omega)]
theorem row16_long (l : List Bool) (hl : 32768 < l.length + 16) (hb : l.length ≤ 140737488351232) : Ev (fun k => sums_Row16.f k l) ([], 1) := by
  simp only [sums_Row16.f, sums_row_uint16.f]
  refine Ev.bind (a := (([] : List Bool), 1)) ?_ (Ev.now _)
  by_cases h : 32768 < l.length
  · refine Ev.bind (on16_long 0 l h) ?_
    refine Ev.bind (spelt16_ev 0#16) ?_
    exact Ev.ifn (by simp) (Ev.now _)
  · refine Ev.bind (on16_ev 0#16 l (by omega)) ?_
    refine Ev.bind (spelt16_ev _) ?_
    refine Ev.ifp rfl ?_
    rw [spelt_length, w64 (by omega) (by omega)]
    exact Ev.ifp (by omega) (Ev.now _)
theorem toNat_beq16 (x : BitVec 16) : ((x.toNat : Int) == 0) = decide (x = 0#16) := by
  by_cases h : x = 0#16
  · subst h; rfl
  · have : x.toNat ≠ 0 := fun e => h (BitVec.eq_of_toNat_eq (by simpa using e))
    simp [h]; omega
theorem fits16_ev (l : List Bool) : Ev (fun k => sums_Fits16.f k l) (decide (l.length ≤ 32768 ∧ 16 ≤ l.length ∧ crc P16 0#16 l = 0#16)) := by
  simp only [sums_Fits16.f, sums_fits_uint16.f]
  refine Ev.bind (a := decide (l.length ≤ 32768 ∧ 16 ≤ l.length ∧ crc P16 0#16 l = 0#16)) ?_ (Ev.now _)
  by_cases h : 32768 < l.length
  · refine Ev.bind (on16_long 0 l h) ?_
    refine Ev.ifn (by simp) ?_
    exact Ev.val (by simp; omega)
  · refine Ev.bind (on16_ev 0#16 l (by omega)) ?_
    refine Ev.ifp rfl ?_
    refine Ev.bind (spelt16_ev P16) ?_
    rw [spelt_length]
    by_cases h2 : 16 ≤ l.length
    · refine Ev.ifp (by omega) ?_
      simp only [toNat_beq16]
      exact Ev.val (by simp [h2]; omega)
    · refine Ev.ifn (by omega) ?_
      exact Ev.val (by simp; omega)

def P32 : BitVec 32 := 79764919#32
theorem p32_low : P32.getLsbD 0 = true := by decide
theorem c32a : Go.bits .xor .u32 4294967295 0 = 4294967295 := u32_xor_nat 4294967295 0 (by omega) (by omega)
theorem c32b : Go.bits .xor .u32 4294967295 2147483647 = 2147483648 := u32_xor_nat 4294967295 2147483647 (by omega) (by omega)
theorem c32c : (4294967295 : Int) / 2 = 2147483647 := by decide
theorem msb32 (x : BitVec 32) : ((Go.bits .andNot .u32 (x.toNat : Int) 2147483647) != 0) = x.msb := by
  have h : Go.bits .andNot .u32 (x.toNat : Int) 2147483647 = ((x.toNat &&& 2147483648 : Nat) : Int) := u32_andNot_nat x.toNat 2147483647 x.isLt (by omega)
  have hb := nat_bit 31 x.toNat
  have hlt := x.isLt
  simp only [Nat.reducePow] at hb
  rw [h, hb, BitVec.msb_eq_decide]
  simp only [Nat.reduceSub, Nat.reducePow]
  by_cases hm : 2147483648 ≤ x.toNat
  · rw [show x.toNat / 2147483648 % 2 = 1 by omega]; simp [hm]
  · rw [show x.toNat / 2147483648 % 2 = 0 by omega]; simp [hm]
theorem shl32 (x : BitVec 32) : (x <<< 1).toNat = x.toNat * 2 % 4294967296 := by
  rw [BitVec.toNat_shiftLeft, Nat.shiftLeft_eq]
theorem step32_f (x : BitVec 32) (b : Bool) : sums_step_uint32.f (x.toNat : Int) 79764919 b = some ((Crc.step P32 x b).toNat : Int) := by
  unfold sums_step_uint32.f Crc.step
  rw [c32a, c32c, msb32]
  have hs := shl32 x
  have e : ((x.toNat : Int) * (2 : Int)) % (4294967296 : Int) = (((x <<< 1).toNat : Nat) : Int) := by rw [hs]; omega
  try simp only [IntKind.wrap_u16]
  rw [e]
  by_cases hc : (x.msb != b) = true
  · rw [if_pos hc, if_pos hc, BitVec.toNat_xor]
    congr 1
    exact u32_xor_nat (x <<< 1).toNat 79764919 (x <<< 1).isLt (by omega)
  · rw [if_neg hc, if_neg hc, BitVec.xor_zero]
theorem on32_l0 (l : List Bool) (hl : l.length ≤ 32768) : ∀ (d i : Nat) (x : BitVec 32), i + d = l.length →
    Ev (fun k => sums_on_uint32.l0 k (x.toNat : Int) 79764919 l (l.length : Int) (i : Int)) (((crc P32 x (l.drop i)).toNat : Int), 0)
  | 0, i, x, h => by
    refine Ev.step (fun k => by simp only [sums_on_uint32.l0]; rfl) ?_
    refine Ev.ifn (by omega) ?_
    rw [List.drop_eq_nil_of_le (by omega)]
    exact Ev.now _
  | d + 1, i, x, h => by
    have ih := on32_l0 l hl d (i + 1) (Crc.step P32 x (l.getD i false)) (by omega)
    have hi : i < l.length := by omega
    refine Ev.step (fun k => by simp only [sums_on_uint32.l0]; rfl) ?_
    refine Ev.ifp (by omega) (Ev.ifp (by omega) (Ev.ifp (by omega) ?_))
    rw [show rdOf false l (i : Int) = l.getD i false from rfl]
    refine Ev.bindc (step32_f x _) ?_
    rw [w64 (by omega) (by omega)]
    rw [List.drop_eq_getElem_cons hi, crc_cons, show l[i] = l.getD i false by simp [List.getD_eq_getElem?_getD, hi]]
    exact ih
theorem on32_ev (x : BitVec 32) (l : List Bool) (hl : l.length ≤ 32768) : Ev (fun k => sums_on_uint32.f k (x.toNat : Int) 79764919 l) (((crc P32 x l).toNat : Int), 0) := by
  simp only [sums_on_uint32.f]
  exact Ev.ifn (by omega) (on32_l0 l hl l.length 0 x (by omega))
theorem on32_long (s : Int) (l : List Bool) (hl : 32768 < l.length) : Ev (fun k => sums_on_uint32.f k s 79764919 l) (0, 1) := by
  simp only [sums_on_uint32.f]
  exact Ev.ifp (by omega) (Ev.now _)
theorem sum32_ev (l : List Bool) (hl : l.length ≤ 32768) : Ev (fun k => sums_Sum32.f k l) (((crc P32 0#32 l).toNat : Int), 0) := by
  simp only [sums_Sum32.f]
  exact Ev.bind (on32_ev 0#32 l hl) (Ev.now _)
theorem sum32_long (l : List Bool) (hl : 32768 < l.length) : Ev (fun k => sums_Sum32.f k l) (0, 1) := by
  simp only [sums_Sum32.f]
  exact Ev.bind (on32_long 0 l hl) (Ev.now _)
theorem andbit32 (x : BitVec 32) (j : Nat) (hj : j < 32) : decide (Go.bits .and .u32 (x.toNat : Int) ((2 ^ j : Nat) : Int) > 0) = x.getLsbD j := by
  have hp : 2 ^ j < 4294967296 := Nat.pow_lt_pow_right (a := 2) (by omega) hj
  rw [u32_and_nat x.toNat (2 ^ j) x.isLt hp, nat_bit, ← BitVec.testBit_toNat, Nat.testBit_eq_decide_div_mod_eq]
  have hpos := Nat.two_pow_pos j
  rcases Nat.mod_two_eq_zero_or_one (x.toNat / 2 ^ j) with e | e
  · rw [e]; simp
  · rw [e, Nat.one_mul]
    generalize 2 ^ j = P at hpos
    rw [decide_eq_true (by omega : ((P : Nat) : Int) > 0)]; rfl
theorem spelt32_l0 (x : BitVec 32) : ∀ j : Nat, j ≤ 32 → Ev (fun k => sums_spelt_uint32.l0 k (x.toNat : Int) (pref x (32 - j)) ((2 ^ j / 2 : Nat) : Int)) (spelt x)
  | 0, _ => by
    refine Ev.step (fun k => by simp only [sums_spelt_uint32.l0]; rfl) ?_
    refine Ev.ifn (by simp) ?_
    exact Ev.now _
  | j + 1, hj => by
    have ih := spelt32_l0 x j (by omega)
    have hpos := Nat.two_pow_pos j
    have e : 2 ^ (j + 1) / 2 = 2 ^ j := by rw [Nat.pow_succ]; omega
    refine Ev.step (fun k => by simp only [sums_spelt_uint32.l0]; rfl) ?_
    rw [e]
    refine Ev.ifp (by omega) (Ev.ifp (by rw [pref_length]; omega) ?_)
    rw [andbit32 x j (by omega), show ((2 ^ j : Nat) : Int) / 2 = ((2 ^ j / 2 : Nat) : Int) by omega]
    rw [show x.getLsbD j = x.getMsbD (32 - (j + 1)) by rw [BitVec.getMsbD_eq_getLsbD, show 32 - 1 - (32 - (j + 1)) = j by omega]; simp; omega, ← pref_succ, show 32 - (j + 1) + 1 = 32 - j by omega]
    exact ih
theorem spelt32_ev (x : BitVec 32) : Ev (fun k => sums_spelt_uint32.f k (x.toNat : Int)) (spelt x) := by
  simp only [sums_spelt_uint32.f]
  rw [c32a, c32c, c32b]
  exact spelt32_l0 x 32 (Nat.le_refl _)
theorem row32_ev (l : List Bool) (hl : l.length + 32 ≤ 32768) : Ev (fun k => sums_Row32.f k l) (l ++ spelt (crc P32 0#32 l), 0) := by
  simp only [sums_Row32.f, sums_row_uint32.f]
  refine Ev.bind (a := (l ++ spelt (crc P32 0#32 l), 0)) ?_ (Ev.now _)
  refine Ev.bind (on32_ev 0#32 l (by omega)) ?_
  refine Ev.bind (spelt32_ev _) ?_
  refine Ev.ifp rfl ?_
  rw [spelt_length, w64 (by omega) (by omega)]
  refine Ev.ifn (by omega) ?_
  refine Ev.bindc (a := l ++ spelt (crc P32 0#32 l)) ?_ (Ev.now _)
  unfold slices_Concat_bool_bool.f
  have e : ([l, spelt (crc P32 0#32 l)] : List (List Bool)).flatten = l ++ spelt (crc P32 0#32 l) := by simp
  rw [e, if_pos (by rw [List.length_append, spelt_length]; omega)]
theorem row32_long (l : List Bool) (hl : 32768 < l.length + 32) (hb : l.length ≤ 140737488351232) : Ev (fun k => sums_Row32.f k l) ([], 1) := by
  simp only [sums_Row32.f, sums_row_uint32.f]
  refine Ev.bind (a := (([] : List Bool), 1)) ?_ (Ev.now _)
  by_cases h : 32768 < l.length
  · refine Ev.bind (on32_long 0 l h) ?_
    refine Ev.bind (spelt32_ev 0#32) ?_
    exact Ev.ifn (by simp) (Ev.now _)
  · refine Ev.bind (on32_ev 0#32 l (by omega)) ?_
    refine Ev.bind (spelt32_ev _) ?_
    refine Ev.ifp rfl ?_
    rw [spelt_length, w64 (by omega) (by omega)]
    exact Ev.ifp (by omega) (Ev.now _)
theorem toNat_beq32 (x : BitVec 32) : ((x.toNat : Int) == 0) = decide (x = 0#32) := by
  by_cases h : x = 0#32
  · subst h; rfl
  · have : x.toNat ≠ 0 := fun e => h (BitVec.eq_of_toNat_eq (by simpa using e))
    simp [h]; omega
theorem fits32_ev (l : List Bool) : Ev (fun k => sums_Fits32.f k l) (decide (l.length ≤ 32768 ∧ 32 ≤ l.length ∧ crc P32 0#32 l = 0#32)) := by
  simp only [sums_Fits32.f, sums_fits_uint32.f]
  refine Ev.bind (a := decide (l.length ≤ 32768 ∧ 32 ≤ l.length ∧ crc P32 0#32 l = 0#32)) ?_ (Ev.now _)
  by_cases h : 32768 < l.length
  · refine Ev.bind (on32_long 0 l h) ?_
    refine Ev.ifn (by simp) ?_
    exact Ev.val (by simp; omega)
  · refine Ev.bind (on32_ev 0#32 l (by omega)) ?_
    refine Ev.ifp rfl ?_
    refine Ev.bind (spelt32_ev P32) ?_
    rw [spelt_length]
    by_cases h2 : 32 ≤ l.length
    · refine Ev.ifp (by omega) ?_
      simp only [toNat_beq32]
      exact Ev.val (by simp [h2]; omega)
    · refine Ev.ifn (by omega) ?_
      exact Ev.val (by simp; omega)

end Go.Proofs.Ytjnedgkpakoceaa.Crc
