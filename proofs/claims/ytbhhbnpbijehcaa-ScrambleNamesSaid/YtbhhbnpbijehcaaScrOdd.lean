/- Bits in a word; odd. -/
-- SKIP math/bits.OnesCount32
-- SKIP foghorn/scramble.odd
import Derived.Test.YtbhhbnpbijehcaaFogx0
import Derived.Test.YtbhhbnpbijehcaaKit
import Derived.Test.YtbhhbnpbijehcaaScrMath
import Derived.Lib.Strings
import Derived.Lib.Slices
import Derived.Lib.Small
import Derived.Lib.Walk
import Derived.Lib.BitFns
namespace Go.Proofs.Ytbhhbnpbijehcaa.Pure
open Go.RowKit Go.Proofs.Ytbhhbnpbijehcaa.Fog Go.Proofs.YtbhhbnpbijehcaaW.PrintWords Go.Proofs.YtbhhbnpbijehcaaW.PrintLast Go.Proofs.YtbhhbnpbijehcaaW.PrintMore
set_option linter.unusedVariables false
set_option linter.unusedSimpArgs false
theorem and1 (x : Nat) : Go.bits .and .i64 (x : Int) 1 = ((x % 2 : Nat) : Int) := by
  show IntKind.i64.wrap (((BitVec.ofInt 64 (x : Int) &&& BitVec.ofInt 64 1).toNat : Nat) : Int) = _
  have h : (BitVec.ofInt 64 (x : Int) &&& BitVec.ofInt 64 1).toNat = x % 2 := by
    rw [BitVec.toNat_and, show (BitVec.ofInt 64 1).toNat = 2 ^ 1 - 1 by decide, Nat.and_two_pow_sub_one_eq_mod, BitVec.ofInt_natCast, BitVec.toNat_ofNat, Nat.mod_mod_of_dvd _ (by decide)]
  rw [h, IntKind.wrap_i64]
  omega
theorem and255 (x : Nat) : Go.bits .and .u32 (x : Int) 255 = ((x % 256 : Nat) : Int) := by
  show IntKind.u32.wrap (((BitVec.ofInt 32 (x : Int) &&& BitVec.ofInt 32 255).toNat : Nat) : Int) = _
  have h : (BitVec.ofInt 32 (x : Int) &&& BitVec.ofInt 32 255).toNat = x % 256 := by
    rw [BitVec.toNat_and, show (BitVec.ofInt 32 255).toNat = 2 ^ 8 - 1 by decide, Nat.and_two_pow_sub_one_eq_mod, BitVec.ofInt_natCast, BitVec.toNat_ofNat, Nat.mod_mod_of_dvd _ (by decide)]
  rw [h]
  simp [IntKind.wrap, IntKind.signed, IntKind.bits]
  omega
def ones4 (x : Nat) : Nat := Lib.onesCount (x / 16777216) + Lib.onesCount (x / 65536 % 256) + Lib.onesCount (x / 256 % 256) + Lib.onesCount (x % 256)
theorem tab_size : Lib.pop8tab.size = 256 := by kernel_rfl
theorem tab_at0 : ∀ n : Fin 256, (Lib.pop8tab.data.getD n.val 0).toNat = Lib.onesCount n.val := by decide +kernel
theorem tab_at (p : Nat) (h : p < Lib.pop8tab.size) : Lib.pop8tab[p].toNat = Lib.onesCount p := by
  have h1 : p < 256 := by rw [← tab_size]; exact h
  rw [← tab_at0 ⟨p, h1⟩]
  have h2 : p < Lib.pop8tab.data.size := h
  show (Lib.pop8tab.data[p]).toNat = _
  rw [Array.getD, dif_pos h2]
  rfl
set_option maxHeartbeats 400000 in
theorem ones_calls (x : Nat) (w : World) (h : x < 4294967296) :
    Calls Try.prog 40 #[.int .u32 (x : Int)] w fun e w' => e = .returned (.int .i64 (ones4 x : Int)) ∧ ∃ n, w' = w.drewN n := by
  have i1 : (x : Int) / 16777216 = ((x / 16777216 : Nat) : Int) := by omega
  have i2 : Go.bits .and .u32 ((x : Int) / 65536) 255 = ((x / 65536 % 256 : Nat) : Int) := by rw [show (x : Int) / 65536 = ((x / 65536 : Nat) : Int) by omega, and255]
  have i3 : Go.bits .and .u32 ((x : Int) / 256) 255 = ((x / 256 % 256 : Nat) : Int) := by rw [show (x : Int) / 256 = ((x / 256 : Nat) : Int) by omega, and255]
  have i4 : Go.bits .and .u32 (x : Int) 255 = ((x % 256 : Nat) : Int) := and255 x
  obtain ⟨p1, hp1⟩ : ∃ p, x / 16777216 = p := ⟨_, rfl⟩
  obtain ⟨p2, hp2⟩ : ∃ p, x / 65536 % 256 = p := ⟨_, rfl⟩
  obtain ⟨p3, hp3⟩ : ∃ p, x / 256 % 256 = p := ⟨_, rfl⟩
  obtain ⟨p4, hp4⟩ : ∃ p, x % 256 = p := ⟨_, rfl⟩
  have ht := tab_at
  have b1 : p1 < 256 := by omega
  have e1 : p1 < Lib.pop8tab.size := by rw [tab_size]; omega
  have b2 : p2 < 256 := by omega
  have e2 : p2 < Lib.pop8tab.size := by rw [tab_size]; omega
  have b3 : p3 < 256 := by omega
  have e3 : p3 < Lib.pop8tab.size := by rw [tab_size]; omega
  have b4 : p4 < 256 := by omega
  have e4 : p4 < Lib.pop8tab.size := by rw [tab_size]; omega
  unfold ones4
  rw [hp1] at i1 ⊢
  rw [hp2] at i2 ⊢
  rw [hp3] at i3 ⊢
  rw [hp4] at i4 ⊢
  clear hp1 hp2 hp3 hp4
  go_enter Try.func40, Try.ntmps40
  go_wp2
  repeat (go_quiet (fail); try go_wp2)
  go_ret
  have l1 := Lib.onesCount_le8 ⟨p1, b1⟩
  have l2 := Lib.onesCount_le8 ⟨p2, b2⟩
  have l3 := Lib.onesCount_le8 ⟨p3, b3⟩
  have l4 := Lib.onesCount_le8 ⟨p4, b4⟩
  simp only at l1 l2 l3 l4
  clear ht i1 i2 i3 i4 e1 e2 e3 e4 h
  generalize Lib.onesCount p1 = q1 at *
  generalize Lib.onesCount p2 = q2 at *
  generalize Lib.onesCount p3 = q3 at *
  generalize Lib.onesCount p4 = q4 at *
  refine ⟨?_, _, rfl⟩
  have e : ((q1 : Int) + (q2 : Int) + (q3 : Int) + (q4 : Int)) % 256 = ((q1 + q2 + q3 + q4 : Nat) : Int) := by omega
  rw [e]
  rfl
theorem par_ones : ∀ n : Fin 256, Go.Scr.parN 8 n.val = decide (Lib.onesCount n.val % 2 = 1) := by decide +kernel
theorem parN_add (j : Nat) : ∀ k x, Go.Scr.parN (j + k) x = (Go.Scr.parN j x).xor (Go.Scr.parN k (x / 2 ^ j))
  | 0, x => by simp [Go.Scr.parN]
  | k + 1, x => by
    show (Go.Scr.parN (j + k) x).xor (x.testBit (j + k)) = _
    rw [parN_add j k x, Go.Scr.parN, Nat.testBit_div_two_pow, Nat.add_comm k j, Bool.xor_assoc]
theorem parN_mod (k x : Nat) : Go.Scr.parN k (x % 2 ^ k) = Go.Scr.parN k x := by
  refine Go.Scr.parN_congr k _ _ fun i hi => ?_
  rw [Nat.testBit_mod_two_pow, decide_eq_true hi, Bool.true_and]
theorem par_byte (x : Nat) : Go.Scr.parN 8 x = decide (Lib.onesCount (x % 256) % 2 = 1) := by
  rw [← parN_mod 8 x]
  exact par_ones ⟨x % 256, by omega⟩
theorem ones4_par (x : Nat) (h : x < 4294967296) : ones4 x % 2 = Go.Scr.b2n (Go.Scr.par x) := by
  have e : Go.Scr.par x = (((Go.Scr.parN 8 x).xor (Go.Scr.parN 8 (x / 256))).xor (Go.Scr.parN 8 (x / 65536))).xor (Go.Scr.parN 8 (x / 16777216)) := by
    show Go.Scr.parN (8 + 8 + 8 + 8) x = _
    rw [parN_add (8 + 8 + 8) 8, parN_add (8 + 8) 8, parN_add 8 8]
  rw [e, par_byte, par_byte, par_byte, par_byte, Nat.mod_eq_of_lt (show x / 16777216 < 256 by omega)]
  unfold ones4 Go.Scr.b2n
  obtain ⟨a, ha⟩ : ∃ a, Lib.onesCount (x / 16777216) = a := ⟨_, rfl⟩
  obtain ⟨b, hb⟩ : ∃ b, Lib.onesCount (x / 65536 % 256) = b := ⟨_, rfl⟩
  obtain ⟨c, hc⟩ : ∃ c, Lib.onesCount (x / 256 % 256) = c := ⟨_, rfl⟩
  obtain ⟨d, hd⟩ : ∃ d, Lib.onesCount (x % 256) = d := ⟨_, rfl⟩
  rw [ha, hb, hc, hd]
  rcases Nat.mod_two_eq_zero_or_one a with h1 | h1 <;> rcases Nat.mod_two_eq_zero_or_one b with h2 | h2 <;> rcases Nat.mod_two_eq_zero_or_one c with h3 | h3 <;> rcases Nat.mod_two_eq_zero_or_one d with h4 | h4 <;> simp [h1, h2, h3, h4] <;> omega
theorem ones_callsO (x o : Nat) (w : World) (h : x < 4294967296) (ho : ones4 x = o) :
    Calls Try.prog 40 #[.int .u32 (x : Int)] w fun e w' => e = .returned (.int .i64 (o : Int)) ∧ ∃ n, w' = w.drewN n := ho ▸ ones_calls x w h
theorem odd_calls (x : Nat) (w : World) (h : x < 4294967296) :
    Calls Try.prog 29 #[.int .u32 (x : Int)] w fun e w' => e = .returned (.int .u32 (Go.Scr.b2n (Go.Scr.par x) : Int)) ∧ ∃ n, w' = w.drewN n := by
  have hp : Go.bits .and .i64 (ones4 x : Int) 1 = ((ones4 x % 2 : Nat) : Int) := and1 _
  rw [ones4_par x h] at hp
  have hb : Go.Scr.b2n (Go.Scr.par x) ≤ 1 := by unfold Go.Scr.b2n; split <;> omega
  obtain ⟨o, ho⟩ : ∃ o, ones4 x = o := ⟨_, rfl⟩
  obtain ⟨r, hr⟩ : ∃ r, Go.Scr.b2n (Go.Scr.par x) = r := ⟨_, rfl⟩
  rw [ho, hr] at hp
  rw [hr] at hb ⊢
  go_enter Try.func29, Try.ntmps29
  go_wp2_with (go_at_call 40; (with_reducible refine (ones_callsO x o w h ho).mono ?_); rintro e w1 ⟨rfl, n, rfl⟩)
  go_ret
  exact ⟨by congr 2 <;> omega, _, rfl⟩
end Go.Proofs.Ytbhhbnpbijehcaa.Pure
