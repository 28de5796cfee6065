/- Registers in memory: New, Copy, nil registers. -/
import Derived.Test.YtbhhbnpbijehcaaFogx0
import Derived.Test.YtbhhbnpbijehcaaScrBack
import Derived.Test.YtbhhbnpbijehcaaScrLaw
namespace Go.Proofs.Ytbhhbnpbijehcaa.Pure
open Go.RowKit Go.Proofs.Ytbhhbnpbijehcaa.Fog Go.Proofs.YtbhhbnpbijehcaaW.PrintWords Go.Proofs.YtbhhbnpbijehcaaW.PrintLast Go.Proofs.YtbhhbnpbijehcaaW.PrintMore
set_option linter.unusedVariables false
set_option linter.unusedSimpArgs false
/-- What New lets in. -/
structure Takes (W : Int) (t s : Nat) : Prop where
  lo : 2 ≤ W
  hi : W ≤ 32
  tap : t % 2 = 1
  tl : t < 2 ^ W.toNat
  ne : s ≠ 0
  sl : s < 2 ^ W.toNat
instance (W : Int) (t s : Nat) : Decidable (Takes W t s) :=
  decidable_of_iff (2 ≤ W ∧ W ≤ 32 ∧ t % 2 = 1 ∧ t < 2 ^ W.toNat ∧ s ≠ 0 ∧ s < 2 ^ W.toNat) ⟨fun ⟨a, b, c, d, e, f⟩ => ⟨a, b, c, d, e, f⟩, fun ⟨a, b, c, d, e, f⟩ => ⟨a, b, c, d, e, f⟩⟩
theorem Takes.fit {W t s : Nat} (h : Takes (W : Int) t s) : Go.Scr.Fit W t := ⟨by have := h.lo; omega, by have := h.hi; omega, by rw [Nat.testBit_zero]; exact decide_eq_true h.tap⟩
theorem and1_nat (s : Nat) : Go.bits .and .u32 (s : Int) 1 = ((s % 2 : Nat) : Int) := by
  show IntKind.u32.wrap (((BitVec.ofInt 32 (s : Int) &&& BitVec.ofInt 32 1).toNat : Nat) : Int) = _
  have h : (BitVec.ofInt 32 (s : Int) &&& BitVec.ofInt 32 1).toNat = s % 2 := by
    rw [BitVec.toNat_and, show (BitVec.ofInt 32 1).toNat = 2 ^ 1 - 1 by decide, Nat.and_two_pow_sub_one_eq_mod, BitVec.ofInt_natCast, BitVec.toNat_ofNat, Nat.mod_mod_of_dvd _ (by decide)]
  rw [h]
  simp [IntKind.wrap, IntKind.signed, IntKind.bits]
  omega
def TakesN (W : Nat) (t s : Nat) : Prop := Takes (W : Int) t s
theorem shr_zero (t W : Nat) (h : t < 2 ^ W) : (t : Int) / 2 ^ W = 0 := by
  have e : (t : Int) / 2 ^ W = ((t / 2 ^ W : Nat) : Int) := by rw [Int.natCast_ediv, Int.natCast_pow]; rfl
  rw [e, Nat.div_eq_of_lt h]; rfl
set_option maxHeartbeats 1000000 in
theorem new_calls (W t s : Nat) (w : World) (h : TakesN W t s) :
    Calls Try.prog 17 #[.int .i64 (W : Int), .int .u32 (t : Int), .int .u32 (s : Int)] w fun e w' => ∃ b, e = .returned (.tuple #[.pointer (some ⟨b, 0, none⟩), .int .i64 0]) ∧ w.heap.size ≤ b ∧ b < w'.heap.size ∧ Reg w' b W t s ∧ Below w.heap.size w w' := by
  have h' : Takes (W : Int) t s := h
  have hlo := h'.lo
  have hhi := h'.hi
  have hW : W ≤ 32 := by omega
  have htl : t < 2 ^ W := by have := h'.tl; rwa [Int.toNat_natCast] at this
  have hsl : s < 2 ^ W := by have := h'.sl; rwa [Int.toNat_natCast] at this
  have h32 : 2 ^ W ≤ 2 ^ 32 := Nat.pow_le_pow_right (by decide) hW
  have e1 : Go.bits .and .u32 (t : Int) 1 = 1 := by rw [and1_nat, h'.tap]; rfl
  have e2 : IntKind.u64.wrap (t : Int) = (t : Int) := by simp [IntKind.wrap, IntKind.signed, IntKind.bits]; omega
  have e3 : IntKind.u64.wrap (s : Int) = (s : Int) := by simp [IntKind.wrap, IntKind.signed, IntKind.bits]; omega
  have hmin : min W 64 = W := by omega
  have e4 : (t : Int) / 2 ^ W = 0 := shr_zero t W htl
  have e5 : (s : Int) / 2 ^ W = 0 := shr_zero s W hsl
  have e6 : ((s : Int) == 0) = false := by have := h'.ne; simp; omega
  have e7 : ¬ (s : Int) = 0 := by have := h'.ne; omega
  clear h' htl hsl h32
  go_enter Try.func17, Try.ntmps17
  go_wp2
  go_ret2
  exact ⟨_, rfl, Nat.le_refl _, by simp [World.size_alloc], blk_new w _, (Below.refl _ w).alloc (Nat.le_refl _) _⟩
set_option maxHeartbeats 2000000 in
theorem new_bad (W : Int) (t s : Nat) (w : World) (ht : t < 4294967296) (hs : s < 4294967296) (h : ¬ Takes W t s) :
    Calls Try.prog 17 #[.int .i64 W, .int .u32 (t : Int), .int .u32 (s : Int)] w fun e w' => e = .returned (.tuple #[.pointer none, .int .i64 1]) ∧ w' = w := by
  by_cases h1 : W < 2
  · clear h
    go_enter Try.func17, Try.ntmps17
    go_wp2
    go_ret2
    exact ⟨rfl, rfl⟩
  by_cases h2 : 32 < W
  · clear h
    go_enter Try.func17, Try.ntmps17
    go_wp2
    go_ret2
    exact ⟨rfl, rfl⟩
  obtain ⟨n, rfl⟩ := Int.eq_ofNat_of_zero_le (show 0 ≤ W by omega)
  have hW : n ≤ 32 := by omega
  have e2 : IntKind.u64.wrap (t : Int) = (t : Int) := by simp [IntKind.wrap, IntKind.signed, IntKind.bits]; omega
  have e3 : IntKind.u64.wrap (s : Int) = (s : Int) := by simp [IntKind.wrap, IntKind.signed, IntKind.bits]; omega
  have hmin : min n 64 = n := by omega
  by_cases h3 : t % 2 = 1
  case neg =>
    have e1 : Go.bits .and .u32 (t : Int) 1 = 0 := by rw [and1_nat, show t % 2 = 0 by omega]; rfl
    clear h
    go_enter Try.func17, Try.ntmps17
    go_wp2
    go_ret2
    exact ⟨rfl, rfl⟩
  have e1 : Go.bits .and .u32 (t : Int) 1 = 1 := by rw [and1_nat, h3]; rfl
  by_cases h4 : t < 2 ^ n
  case neg =>
    obtain ⟨q, hq⟩ : ∃ q : Nat, t / 2 ^ n = q := ⟨_, rfl⟩
    have e4 : (t : Int) / 2 ^ n = (q : Int) := by rw [← hq, Int.natCast_ediv, Int.natCast_pow]; rfl
    have hq0 : 0 < q := by rw [← hq]; exact Nat.div_pos (by omega) (Nat.two_pow_pos n)
    have e5 : ((q : Int) == 0) = false := by simp; omega
    have e6 : ¬ (q : Int) = 0 := by omega
    have e7 : ¬ q = 0 := by omega
    clear h hq hq0
    go_enter Try.func17, Try.ntmps17
    go_wp2
    go_ret2
    exact ⟨rfl, rfl⟩
  have e4 : (t : Int) / 2 ^ n = 0 := shr_zero t n h4
  by_cases h5 : s = 0
  · subst h5
    clear h
    go_enter Try.func17, Try.ntmps17
    go_wp2
    go_ret2
    exact ⟨rfl, rfl⟩
  have h6 : ¬ s < 2 ^ n := fun h6 => h ⟨by omega, by omega, h3, by rwa [Int.toNat_natCast], h5, by rwa [Int.toNat_natCast]⟩
  obtain ⟨q, hq⟩ : ∃ q : Nat, s / 2 ^ n = q := ⟨_, rfl⟩
  have e5 : (s : Int) / 2 ^ n = (q : Int) := by rw [← hq, Int.natCast_ediv, Int.natCast_pow]; rfl
  have hq0 : 0 < q := by rw [← hq]; exact Nat.div_pos (by omega) (Nat.two_pow_pos n)
  have e6 : ((q : Int) == 0) = false := by simp; omega
  have e7 : ¬ (q : Int) = 0 := by omega
  have e8 : ¬ q = 0 := by omega
  have e9 : ((s : Int) == 0) = false := by simp; omega
  have e10 : ¬ (s : Int) = 0 := by omega
  clear h hq hq0
  go_enter Try.func17, Try.ntmps17
  go_wp2
  go_ret2
  exact ⟨rfl, rfl⟩
theorem copy_calls (b W t s : Nat) (w : World) (h : Reg w b W t s) :
    Calls Try.prog 19 #[.pointer (some ⟨b, 0, none⟩)] w fun e w' => ∃ b', e = .returned (.pointer (some ⟨b', 0, none⟩)) ∧ w.heap.size ≤ b' ∧ b' < w'.heap.size ∧ Reg w' b' W t s ∧ Below w.heap.size w w' := by
  have c0 := h.c0
  have c1 := h.c1
  have c2 := h.c2
  have hb : w.heap[b]? = some (.cells #[.int .i64 (W : Int), .int .u32 (t : Int), .int .u32 (s : Int)] 60) := h
  go_enter Try.func19, Try.ntmps19
  go_wp2
  go_ret
  exact ⟨_, rfl, Nat.le_refl _, by simp [World.size_alloc], blk_new w _, (Below.refl _ w).alloc (Nat.le_refl _) _⟩
theorem state_nil (w : World) : Calls Try.prog 12 #[.pointer none] w fun e w' => e = .returned (.int .u32 0) ∧ w' = w := by
  go_enter Try.func12, Try.ntmps12
  go_wp2
  go_ret
  exact ⟨rfl, rfl⟩
theorem copy_nil (w : World) : Calls Try.prog 19 #[.pointer none] w fun e w' => e = .returned (.pointer none) ∧ w' = w := by
  go_enter Try.func19, Try.ntmps19
  go_wp2
  go_ret
  exact ⟨rfl, rfl⟩
theorem next_nil (w : World) : Calls Try.prog 13 #[.pointer none] w fun e w' => e = .returned (.tuple #[.bool false, .int .i64 2]) ∧ w' = w := by
  go_enter Try.func13, Try.ntmps13
  go_wp2
  go_ret2
  exact ⟨rfl, rfl⟩
theorem back_nil (w : World) : Calls Try.prog 15 #[.pointer none] w fun e w' => e = .returned (.tuple #[.bool false, .int .i64 2]) ∧ w' = w := by
  go_enter Try.func15, Try.ntmps15
  go_wp2
  go_ret2
  exact ⟨rfl, rfl⟩
theorem row_nil (n : Int) (w : World) : Calls Try.prog 18 #[.pointer none, .int .i64 n] w fun e w' => e = .returned (.tuple #[.slice none 0 0, .int .i64 2]) ∧ w' = w := by
  go_enter Try.func18, Try.ntmps18
  go_wp2
  go_ret2
  exact ⟨rfl, rfl⟩
theorem jump_nil (n : Int) (w : World) : Calls Try.prog 14 #[.pointer none, .int .i64 n] w fun e w' => e = .returned (.int .i64 2) ∧ w' = w := by
  go_enter Try.func14, Try.ntmps14
  go_wp2
  go_ret
  exact ⟨rfl, rfl⟩
theorem period_nil (n : Int) (w : World) : Calls Try.prog 20 #[.pointer none, .int .i64 n] w fun e w' => e = .returned (.tuple #[.int .i64 0, .int .i64 2]) ∧ w' = w := by
  go_enter Try.func20, Try.ntmps20
  go_wp2
  go_ret2
  exact ⟨rfl, rfl⟩
theorem apply_nil (A : Option Addr) (n c : Nat) (w : World) : Calls Try.prog 21 #[.pointer none, .slice A n c] w fun e w' => e = .returned (.tuple #[.slice none 0 0, .int .i64 2]) ∧ w' = w := by
  go_enter Try.func21, Try.ntmps21
  go_wp2_with (go_at_call 18; (with_reducible refine (row_nil _ _).mono ?_); rintro e w1 ⟨rfl, rfl⟩)
  go_ret2
  exact ⟨rfl, rfl⟩
end Go.Proofs.Ytbhhbnpbijehcaa.Pure
