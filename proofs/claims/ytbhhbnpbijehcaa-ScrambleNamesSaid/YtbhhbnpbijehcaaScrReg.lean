/- Registers in memory: a step, a step back, the state. -/
import Derived.Test.YtbhhbnpbijehcaaFogx0
import Derived.Test.YtbhhbnpbijehcaaKit
import Derived.Test.YtbhhbnpbijehcaaScrMath
import Derived.Test.YtbhhbnpbijehcaaScrOdd
import Derived.Test.YtbhhbnpbijehcaaQuietTail
namespace Go.Proofs.Ytbhhbnpbijehcaa.Pure
open Go.RowKit Go.Proofs.Ytbhhbnpbijehcaa.Fog Go.Proofs.YtbhhbnpbijehcaaW.PrintWords Go.Proofs.YtbhhbnpbijehcaaW.PrintLast Go.Proofs.YtbhhbnpbijehcaaW.PrintMore
set_option linter.unusedVariables false
set_option linter.unusedSimpArgs false
theorem and_nat (a b : Nat) (ha : a < 4294967296) (hb : b < 4294967296) : Go.bits .and .u32 (a : Int) (b : Int) = ((a &&& b : Nat) : Int) := by
  show IntKind.u32.wrap (((BitVec.ofInt 32 (a : Int) &&& BitVec.ofInt 32 (b : Int)).toNat : Nat) : Int) = _
  have h : (BitVec.ofInt 32 (a : Int) &&& BitVec.ofInt 32 (b : Int)).toNat = a &&& b := by
    rw [BitVec.toNat_and, BitVec.ofInt_natCast, BitVec.ofInt_natCast, BitVec.toNat_ofNat, BitVec.toNat_ofNat, Nat.mod_eq_of_lt ha, Nat.mod_eq_of_lt hb]
  have h2 : a &&& b < 4294967296 := Nat.lt_of_le_of_lt Nat.and_le_left ha
  rw [h]
  simp [IntKind.wrap, IntKind.signed, IntKind.bits]
  omega
/-- A register at block b. -/
def Reg (X : World) (b W t s : Nat) : Prop := X.heap[b]? = some (.cells #[.int .i64 (W : Int), .int .u32 (t : Int), .int .u32 (s : Int)] 60)
theorem Reg.c0 {X : World} {b W t s : Nat} (h : Reg X b W t s) : X.cell? ⟨b, 0, none⟩ = some (.int .i64 (W : Int)) := by simp [World.cell?, show X.heap[b]? = _ from h]
theorem Reg.c1 {X : World} {b W t s : Nat} (h : Reg X b W t s) : X.cell? ⟨b, 1, none⟩ = some (.int .u32 (t : Int)) := by simp [World.cell?, show X.heap[b]? = _ from h]
theorem Reg.c2 {X : World} {b W t s : Nat} (h : Reg X b W t s) : X.cell? ⟨b, 2, none⟩ = some (.int .u32 (s : Int)) := by simp [World.cell?, show X.heap[b]? = _ from h]
theorem Reg.frozen {X : World} {b W t s : Nat} (h : Reg X b W t s) : X.frozen? ⟨b, 2, none⟩ = false := by simp [World.frozen?, show X.heap[b]? = _ from h]
theorem Reg.drew {X : World} {b W t s n : Nat} (h : Reg X b W t s) : Reg (X.drewN n) b W t s := h
structure Moved (b : Nat) (w w' : World) : Prop where
  os : w'.os = w.os
  tape : w'.tape = w.tape
  output : w'.output = w.output
  size : w.heap.size ≤ w'.heap.size
  block : ∀ k, k < w.heap.size → k ≠ b → w'.heap[k]? = w.heap[k]?
theorem or_nat (a b : Nat) (ha : a < 4294967296) (hb : b < 4294967296) : Go.bits .or .u32 (a : Int) (b : Int) = ((a ||| b : Nat) : Int) := by
  show IntKind.u32.wrap (((BitVec.ofInt 32 (a : Int) ||| BitVec.ofInt 32 (b : Int)).toNat : Nat) : Int) = _
  have h : (BitVec.ofInt 32 (a : Int) ||| BitVec.ofInt 32 (b : Int)).toNat = a ||| b := by
    rw [BitVec.toNat_or, BitVec.ofInt_natCast, BitVec.ofInt_natCast, BitVec.toNat_ofNat, BitVec.toNat_ofNat, Nat.mod_eq_of_lt ha, Nat.mod_eq_of_lt hb]
  have h2 : a ||| b < 2 ^ 32 := Nat.or_lt_two_pow ha hb
  rw [h]
  simp [IntKind.wrap, IntKind.signed, IntKind.bits]
  omega
theorem Reg.bit0 {X : World} {b W t s : Nat} (h : Reg X b W t s) : s.testBit 0 = (Go.bits .and .u32 (s : Int) 1 == 1) := by
  have e : Go.bits .and .u32 (s : Int) 1 = ((s % 2 : Nat) : Int) := by
    show IntKind.u32.wrap (((BitVec.ofInt 32 (s : Int) &&& BitVec.ofInt 32 1).toNat : Nat) : Int) = _
    have h : (BitVec.ofInt 32 (s : Int) &&& BitVec.ofInt 32 1).toNat = s % 2 := by
      rw [BitVec.toNat_and, show (BitVec.ofInt 32 1).toNat = 2 ^ 1 - 1 by decide, Nat.and_two_pow_sub_one_eq_mod, BitVec.ofInt_natCast, BitVec.toNat_ofNat, Nat.mod_mod_of_dvd _ (by decide)]
    rw [h]
    simp [IntKind.wrap, IntKind.signed, IntKind.bits]
    omega
  rw [e, Nat.testBit_zero]
  rcases Nat.mod_two_eq_zero_or_one s with h | h <;> simp [h]
theorem Reg.store {X : World} {b W t s : Nat} (h : Reg X b W t s) (s' : Nat) : Reg (X.setCell ⟨b, 2, none⟩ (.int .u32 (s' : Int))) b W t s' := by
  unfold Reg at *
  simp only [World.setCell, Array.getElem?_modify]
  rw [if_pos trivial, h]
  rfl
theorem moved_store {X : World} {b W t s : Nat} (h : Reg X b W t s) (n : Nat) (v : Value) : Moved b X ((X.drewN n).setCell ⟨b, 2, none⟩ v) :=
  ⟨rfl, rfl, rfl, by simp, fun k _ hk => Below.heap_setCell _ _ _ k hk⟩
theorem state_calls (b W t s : Nat) (w : World) (h : Reg w b W t s) :
    Calls Try.prog 12 #[.pointer (some ⟨b, 0, none⟩)] w fun e w' => e = .returned (.int .u32 (s : Int)) ∧ w' = w := by
  have c2 := h.c2
  go_enter Try.func12, Try.ntmps12
  go_wp2
  go_ret
  exact ⟨rfl, rfl⟩
set_option maxHeartbeats 1000000 in
theorem next_calls (b W t s : Nat) (w : World) (h : Reg w b W t s) (hW : 2 ≤ W ∧ W ≤ 32) (hs : s < 4294967296) (ht : t < 4294967296) :
    Calls Try.prog 13 #[.pointer (some ⟨b, 0, none⟩)] w fun e w' => e = .returned (.tuple #[.bool (s.testBit 0), .int .i64 0]) ∧ Reg w' b W t (Go.Scr.step W t s) ∧ Moved b w w' := by
  have c0 := h.c0
  have c1 := h.c1
  have c2 := h.c2
  have fr := h.frozen
  go_enter Try.func13, Try.ntmps13
  have ha : Go.bits .and .u32 (s : Int) (t : Int) = ((s &&& t : Nat) : Int) := and_nat s t hs ht
  have hlt : s &&& t < 4294967296 := Nat.lt_of_le_of_lt Nat.and_le_left hs
  obtain ⟨r, hr⟩ : ∃ r, Go.Scr.b2n (Go.Scr.par (s &&& t)) = r := ⟨_, rfl⟩
  have hodd : ∀ w, Calls Try.prog 29 #[.int .u32 ((s &&& t : Nat) : Int)] w fun e w' => e = .returned (.int .u32 (r : Int)) ∧ ∃ n, w' = w.drewN n := fun w => hr ▸ odd_calls (s &&& t) w hlt
  obtain ⟨u, hu⟩ : ∃ u, s &&& t = u := ⟨_, rfl⟩
  rw [hu] at ha hodd
  have HODD := Aside0.mk hodd
  have HU := Aside0.mk hu
  have HR := Aside0.mk hr
  clear hu hr hodd hlt
  obtain ⟨m, hm⟩ : ∃ m, W - 1 = m := ⟨_, rfl⟩
  have hm1 : IntKind.i64.wrap ((W : Int) - 1) = (m : Int) := by rw [IntKind.wrap_i64]; omega
  have HM := Aside0.mk hm
  clear hm
  go_wp2
  refine QTail.wp_region_quiet_tail 25 (by kernel_rfl) (by kernel_rfl) ?_
  simp only [List.take_succ_cons, List.take_zero, List.drop_succ_cons, List.drop_zero]
  repeat (quiet_step ((go_at_call 29; exact Calls.quiet_of (HODD.out _))))
  refine wpQuiet_nil ?_
  intro nq
  go_wp2
  refine bodyPost_ret (results_tmp2 rfl _ _ _) rfl ?_
  have hb := h.bit0
  refine ⟨?_, ?_, ?_⟩
  · rw [hb]
    rfl
  · have hst : Go.bits .or .u32 ((s : Int) / 2) ((r : Int) * 2 ^ min m 32 % 4294967296) = ((Go.Scr.step W t s : Nat) : Int) := by
      have h2 : r ≤ 1 := by rw [← HR.out]; unfold Go.Scr.b2n; split <;> omega
      have hm : m = W - 1 := HM.out.symm
      have hmin : min m 32 = m := by omega
      have hp : (r : Int) * 2 ^ m % 4294967296 = ((r * 2 ^ m : Nat) : Int) := by
        have h3 : 2 ^ m ≤ 2 ^ 31 := Nat.pow_le_pow_right (by decide) (by omega)
        have h4 : r * 2 ^ m ≤ 1 * 2 ^ 31 := Nat.mul_le_mul h2 h3
        have h5 : ((r * 2 ^ m : Nat) : Int) = (r : Int) * 2 ^ m := by rw [Int.natCast_mul, Int.natCast_pow]; rfl
        omega
      have h3 : 2 ^ m ≤ 2 ^ 31 := Nat.pow_le_pow_right (by decide) (by omega)
      have h4 : r * 2 ^ m ≤ 1 * 2 ^ 31 := Nat.mul_le_mul h2 h3
      rw [hmin, hp, show (s : Int) / 2 = ((s / 2 : Nat) : Int) by omega, or_nat _ _ (by omega) (by omega)]
      unfold Go.Scr.step
      rw [HR.out, Nat.shiftRight_eq_div_pow, Nat.shiftLeft_eq, ← hm, Nat.pow_one]
    rw [hst]
    exact h.drew.store _
  · exact moved_store h nq _
end Go.Proofs.Ytbhhbnpbijehcaa.Pure
