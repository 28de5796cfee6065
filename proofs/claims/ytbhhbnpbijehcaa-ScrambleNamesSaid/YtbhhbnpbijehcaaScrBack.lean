/- Registers in memory: a step back. -/
import Derived.Test.YtbhhbnpbijehcaaFogx0
import Derived.Test.YtbhhbnpbijehcaaScrReg
namespace Go.Proofs.Ytbhhbnpbijehcaa.Pure
open Go.RowKit Go.Proofs.Ytbhhbnpbijehcaa.Fog Go.Proofs.YtbhhbnpbijehcaaW.PrintWords Go.Proofs.YtbhhbnpbijehcaaW.PrintLast Go.Proofs.YtbhhbnpbijehcaaW.PrintMore
set_option linter.unusedVariables false
set_option linter.unusedSimpArgs false
theorem xor_nat (a b : Nat) (ha : a < 4294967296) (hb : b < 4294967296) : Go.bits .xor .u32 (a : Int) (b : Int) = ((a ^^^ b : Nat) : Int) := by
  show IntKind.u32.wrap (((BitVec.ofInt 32 (a : Int) ^^^ BitVec.ofInt 32 (b : Int)).toNat : Nat) : Int) = _
  have h : (BitVec.ofInt 32 (a : Int) ^^^ BitVec.ofInt 32 (b : Int)).toNat = a ^^^ b := by
    rw [BitVec.toNat_xor, BitVec.ofInt_natCast, BitVec.ofInt_natCast, BitVec.toNat_ofNat, BitVec.toNat_ofNat, Nat.mod_eq_of_lt ha, Nat.mod_eq_of_lt hb]
  have h2 : a ^^^ b < 2 ^ 32 := Nat.xor_lt_two_pow ha hb
  rw [h]
  simp [IntKind.wrap, IntKind.signed, IntKind.bits]
  omega
theorem cut_nat (s m : Nat) (hm : m < 32) (hs : s < 2 ^ (m + 1)) : Go.bits .andNot .u32 (s : Int) ((2 : Int) ^ m % 4294967296) = ((s &&& (2 ^ m - 1) : Nat) : Int) := by
  have h2m : 2 ^ m ≤ 2 ^ 31 := Nat.pow_le_pow_right (by decide) (by omega)
  have hs2 : s < 2 ^ 32 := Nat.lt_of_lt_of_le hs (Nat.pow_le_pow_right (by decide) (by omega))
  have e : ((2 : Int) ^ m % 4294967296) = ((2 ^ m : Nat) : Int) := by
    have h5 : ((2 ^ m : Nat) : Int) = (2 : Int) ^ m := by rw [Int.natCast_pow]; rfl
    omega
  rw [e]
  show IntKind.u32.wrap (((BitVec.ofInt 32 (s : Int) &&& ~~~ BitVec.ofInt 32 ((2 ^ m : Nat) : Int)).toNat : Nat) : Int) = _
  have h : (BitVec.ofInt 32 (s : Int) &&& ~~~ BitVec.ofInt 32 ((2 ^ m : Nat) : Int)).toNat = s &&& (2 ^ m - 1) := by
    refine Nat.eq_of_testBit_eq fun i => ?_
    rw [BitVec.testBit_toNat, BitVec.getLsbD_and, BitVec.getLsbD_not, BitVec.ofInt_natCast, BitVec.ofInt_natCast, BitVec.getLsbD_ofNat, BitVec.getLsbD_ofNat, Nat.testBit_and, Nat.testBit_two_pow_sub_one, Nat.testBit_two_pow]
    rcases Nat.lt_or_ge i 32 with hi | hi
    · by_cases hmi : m = i
      · subst hmi; simp [hi]
      · rcases Nat.lt_or_ge i m with h1 | h1
        · simp [hi, h1, hmi]
        · rw [Nat.testBit_lt_two_pow (Nat.lt_of_lt_of_le hs (Nat.pow_le_pow_right (by decide) (by omega)))]
          simp
    · rw [Nat.testBit_lt_two_pow (Nat.lt_of_lt_of_le hs2 (Nat.pow_le_pow_right (by decide) hi))]
      simp
  have h2 : s &&& (2 ^ m - 1) ≤ s := Nat.and_le_left
  rw [h]
  generalize s &&& (2 ^ m - 1) = q at h2 ⊢
  simp [IntKind.wrap, IntKind.signed, IntKind.bits]
  omega
theorem bit0_nat (s : Nat) : s.testBit 0 = (Go.bits .and .u32 (s : Int) 1 == 1) := by
  have h : Reg ⟨#[.cells #[.int .i64 0, .int .u32 0, .int .u32 (s : Int)] 60], default, default, default, default⟩ 0 0 0 s := rfl
  exact h.bit0
set_option maxHeartbeats 1000000 in
theorem back_calls (b W t s : Nat) (w : World) (h : Reg w b W t s) (hW : 2 ≤ W ∧ W ≤ 32) (hs : s < 2 ^ W) (ht : t < 4294967296) :
    Calls Try.prog 15 #[.pointer (some ⟨b, 0, none⟩)] w fun e w' => e = .returned (.tuple #[.bool ((Go.Scr.back W t s).testBit 0), .int .i64 0]) ∧ Reg w' b W t (Go.Scr.back W t s) ∧ Moved b w w' := by
  have c0 := h.c0
  have c1 := h.c1
  have c2 := h.c2
  have fr := h.frozen
  obtain ⟨m, hm⟩ : ∃ m, W - 1 = m := ⟨_, rfl⟩
  have hm1 : IntKind.i64.wrap ((W : Int) - 1) = (m : Int) := by rw [IntKind.wrap_i64]; omega
  have hs2 : s < 2 ^ 32 := Nat.lt_of_lt_of_le hs (Nat.pow_le_pow_right (by decide) (by omega))
  have hcl : Go.Scr.cut W s < 2 ^ 32 := by
    refine Nat.lt_of_lt_of_le (Go.Scr.lt_of_bits (w := W) fun i hi => ?_) (Nat.pow_le_pow_right (by decide) hW.2)
    rw [Go.Scr.cut_bit, decide_eq_false (by omega : ¬ i < W)]
    simp
  obtain ⟨T, hTd⟩ : ∃ T, s >>> m = T := ⟨_, rfl⟩
  have hTs : T < 2 ^ 32 := by rw [← hTd, Nat.shiftRight_eq_div_pow]; exact Nat.lt_of_le_of_lt (Nat.div_le_self _ _) hs2
  have hT : (s : Int) / 2 ^ m = (T : Int) := by rw [← hTd, Nat.shiftRight_eq_div_pow, Int.natCast_ediv, Int.natCast_pow]; rfl
  obtain ⟨C, hCd⟩ : ∃ C, Go.Scr.cut W s = C := ⟨_, rfl⟩
  have hC : Go.bits .andNot .u32 (s : Int) ((2 : Int) ^ m % 4294967296) * 2 % 4294967296 = (C : Int) := by
    rw [cut_nat s m (by omega) (by rw [show m + 1 = W by omega]; exact hs), ← hCd]
    rw [Go.Scr.cut, Nat.shiftLeft_eq, hm] at hcl ⊢
    omega
  rw [hCd] at hcl
  have hmin : min m 32 = m := by omega
  have hT2 : (s : Int) / 2 ^ min m 32 = (T : Int) := by rw [hmin]; exact hT
  have hC2 : Go.bits .andNot .u32 (s : Int) ((2 : Int) ^ min m 32 % 4294967296) * 2 % 4294967296 = (C : Int) := by rw [hmin]; exact hC
  clear hmin
  obtain ⟨u, hud⟩ : ∃ u, C &&& t = u := ⟨_, rfl⟩
  have hu : Go.bits .and .u32 (C : Int) (t : Int) = (u : Int) := by rw [← hud]; exact and_nat C t hcl ht
  have hul : u < 4294967296 := by rw [← hud]; exact Nat.lt_of_le_of_lt Nat.and_le_left hcl
  obtain ⟨r, hr⟩ : ∃ r, Go.Scr.b2n (Go.Scr.par u) = r := ⟨_, rfl⟩
  have hr2 : r < 2 ^ 32 := by rw [← hr]; unfold Go.Scr.b2n; split <;> decide
  have HODD := Aside0.mk (show ∀ w, Calls Try.prog 29 #[.int .u32 (u : Int)] w fun e w' => e = .returned (.int .u32 (r : Int)) ∧ ∃ n, w' = w.drewN n from fun w => hr ▸ odd_calls u w hul)
  obtain ⟨X, hXd⟩ : ∃ X, T ^^^ r = X := ⟨_, rfl⟩
  have hX : Go.bits .xor .u32 (T : Int) (r : Int) = (X : Int) := by rw [← hXd]; exact xor_nat T r hTs hr2
  have hXl : X < 2 ^ 32 := by rw [← hXd]; exact Nat.xor_lt_two_pow hTs hr2
  obtain ⟨B, hBd⟩ : ∃ B, C ||| X = B := ⟨_, rfl⟩
  have hB : Go.bits .or .u32 (C : Int) (X : Int) = (B : Int) := by rw [← hBd]; exact or_nat C X hcl hXl
  have HE := Aside0.mk (show Go.Scr.back W t s = B by
    unfold Go.Scr.back
    rw [hCd, hm, hTd, hud, hr, hXd, hBd])
  clear hTd hCd hud hr hXd hBd hcl hTs hul hr2 hXl hm
  rw [HE.out]
  go_enter Try.func15, Try.ntmps15
  go_wp2
  go_quiet (fail)
  go_wp2
  go_quiet (fail)
  go_wp2_with ((go_at_call 29; (with_reducible refine (HODD.out _).mono ?_); rintro e w1 ⟨rfl, n, rfl⟩))
  go_ret2
  have hb : B.testBit 0 = _ := bit0_nat B
  exact ⟨by rw [hb]; rfl, (h.drew (n := n)).store _, moved_store h _ _⟩
end Go.Proofs.Ytbhhbnpbijehcaa.Pure
