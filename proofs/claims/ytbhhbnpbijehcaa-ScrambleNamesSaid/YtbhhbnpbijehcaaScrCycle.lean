/- The register of 15 bits: its cycle of 32767 states, reckoned. -/
import Derived.Test.YtbhhbnpbijehcaaScrLaw
namespace Go.Scr
set_option linter.unusedVariables false
/-- One step of the register of 15 bits with the taps 0 and 1. -/
def stepF (s : Nat) : Nat := (s >>> 1) ||| ((s % 2 + s / 2 % 2) % 2) <<< 14
theorem stepF_eq (s : Nat) : step 15 3 s = stepF s := by
  have h3 : s &&& 3 = s % 4 := Nat.and_two_pow_sub_one_eq_mod s 2
  have h : ∀ r, r < 4 → b2n (par r) = (r % 2 + r / 2 % 2) % 2 := by decide +kernel
  unfold step stepF
  rw [h3, h _ (Nat.mod_lt _ (by decide))]
  congr 2
  omega
/-- No state of the first n to come is t. (The state is forced at each step.) -/
def noBack (t : Nat) : Nat → Nat → Bool
  | 0, _ => true
  | n + 1, s => match stepF s with
    | 0 => false
    | k + 1 => (k + 1 != t) && noBack t n (k + 1)
theorem noBack_spec (t : Nat) : ∀ n s, noBack t n s = true → ∀ k, 1 ≤ k → k ≤ n → iter (step 15 3) k s ≠ t
  | 0, s, _, k, h1, h2 => by omega
  | n + 1, s, h, k, h1, h2 => by
    unfold noBack at h
    cases hs : stepF s with
    | zero => rw [hs] at h; cases h
    | succ m =>
      rw [hs] at h
      simp only [Bool.and_eq_true, bne_iff_ne, ne_eq] at h
      obtain ⟨j, rfl⟩ : ∃ j, k = j + 1 := ⟨k - 1, by omega⟩
      show iter (step 15 3) j (step 15 3 s) ≠ t
      rw [stepF_eq, hs]
      rcases Nat.eq_zero_or_pos j with h0 | h0
      · subst h0; exact h.1
      · exact noBack_spec t n (m + 1) h.2 j h0 (by omega)
/-- The state behind n steps, and how many set bits were told. -/
def runF : Nat → Nat → Nat → Nat × Nat
  | 0, s, c => (s, c)
  | n + 1, s, c => match stepF s, c + s % 2 with
    | k, 0 => runF n k 0
    | 0, d + 1 => runF n 0 (d + 1)
    | k + 1, d + 1 => runF n (k + 1) (d + 1)
theorem runF_spec : ∀ n s c, runF n s c = (iter (step 15 3) n s, c + (rowV 15 3 s n).count true)
  | 0, s, c => by simp [runF, iter, rowV]
  | n + 1, s, c => by
    have hr : rowV 15 3 s (n + 1) = low s :: rowV 15 3 (step 15 3 s) n := by
      have h := rowV_add 15 3 s 1 n
      rw [Nat.add_comm 1 n] at h
      rw [h]
      rfl
    have hl : (if low s = true then 1 else 0) = s % 2 := by
      unfold low
      rw [Nat.testBit_zero]
      rcases Nat.mod_two_eq_zero_or_one s with h | h <;> simp [h]
    have hc : c + (rowV 15 3 s (n + 1)).count true = (c + s % 2) + (rowV 15 3 (stepF s) n).count true := by
      rw [hr, List.count_cons, stepF_eq, ← hl]
      cases low s <;> simp <;> omega
    have hi : iter (step 15 3) (n + 1) s = iter (step 15 3) n (stepF s) := by rw [← stepF_eq]; rfl
    rw [hc, hi]
    unfold runF
    cases hd : c + s % 2 with
    | zero => exact runF_spec n _ 0
    | succ d =>
      cases hk : stepF s with
      | zero => exact runF_spec n 0 (d + 1)
      | succ k => exact runF_spec n (k + 1) (d + 1)
/-- n steps of the register of number 12345 lead to s; c bits were set on the way. -/
def Reach (n s c : Nat) : Prop := iter (step 15 3) n 12346 = s ∧ (rowV 15 3 12346 n).count true = c
def Never (n : Nat) : Prop := ∀ k, 1 ≤ k → k ≤ n → iter (step 15 3) k 12346 ≠ 12346
theorem reach_zero : Reach 0 12346 0 := ⟨rfl, rfl⟩
theorem never_zero : Never 0 := fun k h1 h2 => by omega
theorem chunk_add {a s c n s2 c2 : Nat} (b : Nat) (h : Reach a s c) (hr : runF b s c = (s2, c2)) (hn : a + b = n) : Reach n s2 c2 := by
  subst hn
  have h2 := runF_spec b s c
  rw [hr] at h2
  obtain ⟨h3, h4⟩ := h
  refine ⟨by rw [iter_add, h3]; exact (congrArg Prod.fst h2).symm, ?_⟩
  rw [rowV_add, List.count_append, h3, h4]
  exact (congrArg Prod.snd h2).symm
theorem no_add {a s c n : Nat} (b : Nat) (h : Never a) (hs : Reach a s c) (hb : noBack 12346 b s = true) (hn : a + b = n) : Never n := by
  subst hn
  intro k hk1 hk2
  rcases Nat.lt_or_ge a k with h1 | h1
  · rw [show k = a + (k - a) by omega, iter_add, hs.1]
    exact noBack_spec 12346 b s hb _ (by omega) (by omega)
  · exact h k hk1 h1
theorem run_0 : runF 512 12346 0 = (32702, 263) := by decide +kernel
theorem no_0 : noBack 12346 512 12346 = true := by decide +kernel
theorem run_1 : runF 512 32702 263 = (3856, 515) := by decide +kernel
theorem no_1 : noBack 12346 512 32702 = true := by decide +kernel
theorem run_2 : runF 512 3856 515 = (20427, 765) := by decide +kernel
theorem no_2 : noBack 12346 512 3856 = true := by decide +kernel
theorem run_3 : runF 512 20427 765 = (17597, 1025) := by decide +kernel
theorem no_3 : noBack 12346 512 20427 = true := by decide +kernel
theorem run_4 : runF 512 17597 1025 = (235, 1285) := by decide +kernel
theorem no_4 : noBack 12346 512 17597 = true := by decide +kernel
theorem run_5 : runF 512 235 1285 = (3898, 1532) := by decide +kernel
theorem no_5 : noBack 12346 512 235 = true := by decide +kernel
theorem run_6 : runF 512 3898 1532 = (12353, 1795) := by decide +kernel
theorem no_6 : noBack 12346 512 3898 = true := by decide +kernel
theorem run_7 : runF 512 12353 1795 = (7328, 2045) := by decide +kernel
theorem no_7 : noBack 12346 512 12353 = true := by decide +kernel
theorem run_8 : runF 512 7328 2045 = (32564, 2306) := by decide +kernel
theorem no_8 : noBack 12346 512 7328 = true := by decide +kernel
theorem run_9 : runF 512 32564 2306 = (2226, 2571) := by decide +kernel
theorem no_9 : noBack 12346 512 32564 = true := by decide +kernel
theorem run_10 : runF 512 2226 2571 = (6052, 2829) := by decide +kernel
theorem no_10 : noBack 12346 512 2226 = true := by decide +kernel
theorem run_11 : runF 512 6052 2829 = (32510, 3097) := by decide +kernel
theorem no_11 : noBack 12346 512 6052 = true := by decide +kernel
theorem run_12 : runF 512 32510 3097 = (32577, 3336) := by decide +kernel
theorem no_12 : noBack 12346 512 32510 = true := by decide +kernel
theorem run_13 : runF 512 32577 3336 = (20271, 3587) := by decide +kernel
theorem no_13 : noBack 12346 512 32577 = true := by decide +kernel
theorem run_14 : runF 512 20271 3587 = (20356, 3841) := by decide +kernel
theorem no_14 : noBack 12346 512 20271 = true := by decide +kernel
theorem run_15 : runF 512 20356 3841 = (28846, 4094) := by decide +kernel
theorem no_15 : noBack 12346 512 20356 = true := by decide +kernel
theorem run_16 : runF 512 28846 4094 = (16603, 4348) := by decide +kernel
theorem no_16 : noBack 12346 512 28846 = true := by decide +kernel
theorem run_17 : runF 512 16603 4348 = (2934, 4598) := by decide +kernel
theorem no_17 : noBack 12346 512 16603 = true := by decide +kernel
theorem run_18 : runF 512 2934 4598 = (17494, 4852) := by decide +kernel
theorem no_18 : noBack 12346 512 2934 = true := by decide +kernel
theorem run_19 : runF 512 17494 4852 = (4049, 5109) := by decide +kernel
theorem no_19 : noBack 12346 512 17494 = true := by decide +kernel
theorem run_20 : runF 512 4049 5109 = (16251, 5375) := by decide +kernel
theorem no_20 : noBack 12346 512 4049 = true := by decide +kernel
theorem run_21 : runF 512 16251 5375 = (11489, 5636) := by decide +kernel
theorem no_21 : noBack 12346 512 16251 = true := by decide +kernel
theorem run_22 : runF 512 11489 5636 = (25492, 5903) := by decide +kernel
theorem no_22 : noBack 12346 512 11489 = true := by decide +kernel
theorem run_23 : runF 512 25492 5903 = (30598, 6165) := by decide +kernel
theorem no_23 : noBack 12346 512 25492 = true := by decide +kernel
theorem run_24 : runF 512 30598 6165 = (7958, 6416) := by decide +kernel
theorem no_24 : noBack 12346 512 30598 = true := by decide +kernel
theorem run_25 : runF 512 7958 6416 = (26970, 6684) := by decide +kernel
theorem no_25 : noBack 12346 512 7958 = true := by decide +kernel
theorem run_26 : runF 512 26970 6684 = (447, 6955) := by decide +kernel
theorem no_26 : noBack 12346 512 26970 = true := by decide +kernel
theorem run_27 : runF 512 447 6955 = (12398, 7181) := by decide +kernel
theorem no_27 : noBack 12346 512 447 = true := by decide +kernel
theorem run_28 : runF 512 12398 7181 = (171, 7450) := by decide +kernel
theorem no_28 : noBack 12346 512 12398 = true := by decide +kernel
theorem run_29 : runF 512 171 7450 = (16170, 7687) := by decide +kernel
theorem no_29 : noBack 12346 512 171 = true := by decide +kernel
theorem run_30 : runF 512 16170 7687 = (12405, 7946) := by decide +kernel
theorem no_30 : noBack 12346 512 16170 = true := by decide +kernel
theorem run_31 : runF 512 12405 7946 = (19373, 8216) := by decide +kernel
theorem no_31 : noBack 12346 512 12405 = true := by decide +kernel
theorem run_32 : runF 512 19373 8216 = (20256, 8470) := by decide +kernel
theorem no_32 : noBack 12346 512 19373 = true := by decide +kernel
theorem run_33 : runF 512 20256 8470 = (19335, 8731) := by decide +kernel
theorem no_33 : noBack 12346 512 20256 = true := by decide +kernel
theorem run_34 : runF 512 19335 8731 = (12458, 8990) := by decide +kernel
theorem no_34 : noBack 12346 512 19335 = true := by decide +kernel
theorem run_35 : runF 512 12458 8990 = (5018, 9253) := by decide +kernel
theorem no_35 : noBack 12346 512 12458 = true := by decide +kernel
theorem run_36 : runF 512 5018 9253 = (20341, 9499) := by decide +kernel
theorem no_36 : noBack 12346 512 5018 = true := by decide +kernel
theorem run_37 : runF 512 20341 9499 = (5138, 9760) := by decide +kernel
theorem no_37 : noBack 12346 512 20341 = true := by decide +kernel
theorem run_38 : runF 512 5138 9760 = (26768, 10011) := by decide +kernel
theorem no_38 : noBack 12346 512 5138 = true := by decide +kernel
theorem run_39 : runF 512 26768 10011 = (30284, 10260) := by decide +kernel
theorem no_39 : noBack 12346 512 26768 = true := by decide +kernel
theorem run_40 : runF 512 30284 10260 = (26853, 10519) := by decide +kernel
theorem no_40 : noBack 12346 512 30284 = true := by decide +kernel
theorem run_41 : runF 512 26853 10519 = (12753, 10784) := by decide +kernel
theorem no_41 : noBack 12346 512 26853 = true := by decide +kernel
theorem run_42 : runF 512 12753 10784 = (12485, 11039) := by decide +kernel
theorem no_42 : noBack 12346 512 12753 = true := by decide +kernel
theorem run_43 : runF 512 12485 11039 = (16257, 11305) := by decide +kernel
theorem no_43 : noBack 12346 512 12485 = true := by decide +kernel
theorem run_44 : runF 512 16257 11305 = (3935, 11561) := by decide +kernel
theorem no_44 : noBack 12346 512 16257 = true := by decide +kernel
theorem run_45 : runF 512 3935 11561 = (31704, 11806) := by decide +kernel
theorem no_45 : noBack 12346 512 3935 = true := by decide +kernel
theorem run_46 : runF 512 31704 11806 = (1165, 12080) := by decide +kernel
theorem no_46 : noBack 12346 512 31704 = true := by decide +kernel
theorem run_47 : runF 512 1165 12080 = (1191, 12347) := by decide +kernel
theorem no_47 : noBack 12346 512 1165 = true := by decide +kernel
theorem run_48 : runF 512 1191 12347 = (31533, 12601) := by decide +kernel
theorem no_48 : noBack 12346 512 1191 = true := by decide +kernel
theorem run_49 : runF 512 31533 12601 = (9008, 12863) := by decide +kernel
theorem no_49 : noBack 12346 512 31533 = true := by decide +kernel
theorem run_50 : runF 512 9008 12863 = (23791, 13116) := by decide +kernel
theorem no_50 : noBack 12346 512 9008 = true := by decide +kernel
theorem run_51 : runF 512 23791 13116 = (23399, 13377) := by decide +kernel
theorem no_51 : noBack 12346 512 23791 = true := by decide +kernel
theorem run_52 : runF 512 23399 13377 = (31874, 13635) := by decide +kernel
theorem no_52 : noBack 12346 512 23399 = true := by decide +kernel
theorem run_53 : runF 512 31874 13635 = (7900, 13893) := by decide +kernel
theorem no_53 : noBack 12346 512 31874 = true := by decide +kernel
theorem run_54 : runF 512 7900 13893 = (7849, 14149) := by decide +kernel
theorem no_54 : noBack 12346 512 7900 = true := by decide +kernel
theorem run_55 : runF 512 7849 14149 = (22836, 14403) := by decide +kernel
theorem no_55 : noBack 12346 512 7849 = true := by decide +kernel
theorem run_56 : runF 512 22836 14403 = (276, 14671) := by decide +kernel
theorem no_56 : noBack 12346 512 22836 = true := by decide +kernel
theorem run_57 : runF 512 276 14671 = (3908, 14916) := by decide +kernel
theorem no_57 : noBack 12346 512 276 = true := by decide +kernel
theorem run_58 : runF 512 3908 14916 = (12510, 15164) := by decide +kernel
theorem no_58 : noBack 12346 512 3908 = true := by decide +kernel
theorem run_59 : runF 512 12510 15164 = (29831, 15435) := by decide +kernel
theorem no_59 : noBack 12346 512 12510 = true := by decide +kernel
theorem run_60 : runF 512 29831 15435 = (32597, 15718) := by decide +kernel
theorem no_60 : noBack 12346 512 29831 = true := by decide +kernel
theorem run_61 : runF 512 32597 15718 = (42, 15917) := by decide +kernel
theorem no_61 : noBack 12346 512 32597 = true := by decide +kernel
theorem run_62 : runF 512 42 15917 = (32650, 16152) := by decide +kernel
theorem no_62 : noBack 12346 512 42 = true := by decide +kernel
theorem run_63 : runF 510 32650 16152 = (24692, 16384) := by decide +kernel
theorem no_63 : noBack 12346 510 32650 = true := by decide +kernel
theorem all_0 : Reach 512 32702 263 := chunk_add 512 reach_zero run_0 rfl
theorem nos_0 : Never 512 := no_add 512 never_zero reach_zero no_0 rfl
theorem all_1 : Reach 1024 3856 515 := chunk_add 512 all_0 run_1 rfl
theorem nos_1 : Never 1024 := no_add 512 nos_0 all_0 no_1 rfl
theorem all_2 : Reach 1536 20427 765 := chunk_add 512 all_1 run_2 rfl
theorem nos_2 : Never 1536 := no_add 512 nos_1 all_1 no_2 rfl
theorem all_3 : Reach 2048 17597 1025 := chunk_add 512 all_2 run_3 rfl
theorem nos_3 : Never 2048 := no_add 512 nos_2 all_2 no_3 rfl
theorem all_4 : Reach 2560 235 1285 := chunk_add 512 all_3 run_4 rfl
theorem nos_4 : Never 2560 := no_add 512 nos_3 all_3 no_4 rfl
theorem all_5 : Reach 3072 3898 1532 := chunk_add 512 all_4 run_5 rfl
theorem nos_5 : Never 3072 := no_add 512 nos_4 all_4 no_5 rfl
theorem all_6 : Reach 3584 12353 1795 := chunk_add 512 all_5 run_6 rfl
theorem nos_6 : Never 3584 := no_add 512 nos_5 all_5 no_6 rfl
theorem all_7 : Reach 4096 7328 2045 := chunk_add 512 all_6 run_7 rfl
theorem nos_7 : Never 4096 := no_add 512 nos_6 all_6 no_7 rfl
theorem all_8 : Reach 4608 32564 2306 := chunk_add 512 all_7 run_8 rfl
theorem nos_8 : Never 4608 := no_add 512 nos_7 all_7 no_8 rfl
theorem all_9 : Reach 5120 2226 2571 := chunk_add 512 all_8 run_9 rfl
theorem nos_9 : Never 5120 := no_add 512 nos_8 all_8 no_9 rfl
theorem all_10 : Reach 5632 6052 2829 := chunk_add 512 all_9 run_10 rfl
theorem nos_10 : Never 5632 := no_add 512 nos_9 all_9 no_10 rfl
theorem all_11 : Reach 6144 32510 3097 := chunk_add 512 all_10 run_11 rfl
theorem nos_11 : Never 6144 := no_add 512 nos_10 all_10 no_11 rfl
theorem all_12 : Reach 6656 32577 3336 := chunk_add 512 all_11 run_12 rfl
theorem nos_12 : Never 6656 := no_add 512 nos_11 all_11 no_12 rfl
theorem all_13 : Reach 7168 20271 3587 := chunk_add 512 all_12 run_13 rfl
theorem nos_13 : Never 7168 := no_add 512 nos_12 all_12 no_13 rfl
theorem all_14 : Reach 7680 20356 3841 := chunk_add 512 all_13 run_14 rfl
theorem nos_14 : Never 7680 := no_add 512 nos_13 all_13 no_14 rfl
theorem all_15 : Reach 8192 28846 4094 := chunk_add 512 all_14 run_15 rfl
theorem nos_15 : Never 8192 := no_add 512 nos_14 all_14 no_15 rfl
theorem all_16 : Reach 8704 16603 4348 := chunk_add 512 all_15 run_16 rfl
theorem nos_16 : Never 8704 := no_add 512 nos_15 all_15 no_16 rfl
theorem all_17 : Reach 9216 2934 4598 := chunk_add 512 all_16 run_17 rfl
theorem nos_17 : Never 9216 := no_add 512 nos_16 all_16 no_17 rfl
theorem all_18 : Reach 9728 17494 4852 := chunk_add 512 all_17 run_18 rfl
theorem nos_18 : Never 9728 := no_add 512 nos_17 all_17 no_18 rfl
theorem all_19 : Reach 10240 4049 5109 := chunk_add 512 all_18 run_19 rfl
theorem nos_19 : Never 10240 := no_add 512 nos_18 all_18 no_19 rfl
theorem all_20 : Reach 10752 16251 5375 := chunk_add 512 all_19 run_20 rfl
theorem nos_20 : Never 10752 := no_add 512 nos_19 all_19 no_20 rfl
theorem all_21 : Reach 11264 11489 5636 := chunk_add 512 all_20 run_21 rfl
theorem nos_21 : Never 11264 := no_add 512 nos_20 all_20 no_21 rfl
theorem all_22 : Reach 11776 25492 5903 := chunk_add 512 all_21 run_22 rfl
theorem nos_22 : Never 11776 := no_add 512 nos_21 all_21 no_22 rfl
theorem all_23 : Reach 12288 30598 6165 := chunk_add 512 all_22 run_23 rfl
theorem nos_23 : Never 12288 := no_add 512 nos_22 all_22 no_23 rfl
theorem all_24 : Reach 12800 7958 6416 := chunk_add 512 all_23 run_24 rfl
theorem nos_24 : Never 12800 := no_add 512 nos_23 all_23 no_24 rfl
theorem all_25 : Reach 13312 26970 6684 := chunk_add 512 all_24 run_25 rfl
theorem nos_25 : Never 13312 := no_add 512 nos_24 all_24 no_25 rfl
theorem all_26 : Reach 13824 447 6955 := chunk_add 512 all_25 run_26 rfl
theorem nos_26 : Never 13824 := no_add 512 nos_25 all_25 no_26 rfl
theorem all_27 : Reach 14336 12398 7181 := chunk_add 512 all_26 run_27 rfl
theorem nos_27 : Never 14336 := no_add 512 nos_26 all_26 no_27 rfl
theorem all_28 : Reach 14848 171 7450 := chunk_add 512 all_27 run_28 rfl
theorem nos_28 : Never 14848 := no_add 512 nos_27 all_27 no_28 rfl
theorem all_29 : Reach 15360 16170 7687 := chunk_add 512 all_28 run_29 rfl
theorem nos_29 : Never 15360 := no_add 512 nos_28 all_28 no_29 rfl
theorem all_30 : Reach 15872 12405 7946 := chunk_add 512 all_29 run_30 rfl
theorem nos_30 : Never 15872 := no_add 512 nos_29 all_29 no_30 rfl
theorem all_31 : Reach 16384 19373 8216 := chunk_add 512 all_30 run_31 rfl
theorem nos_31 : Never 16384 := no_add 512 nos_30 all_30 no_31 rfl
theorem all_32 : Reach 16896 20256 8470 := chunk_add 512 all_31 run_32 rfl
theorem nos_32 : Never 16896 := no_add 512 nos_31 all_31 no_32 rfl
theorem all_33 : Reach 17408 19335 8731 := chunk_add 512 all_32 run_33 rfl
theorem nos_33 : Never 17408 := no_add 512 nos_32 all_32 no_33 rfl
theorem all_34 : Reach 17920 12458 8990 := chunk_add 512 all_33 run_34 rfl
theorem nos_34 : Never 17920 := no_add 512 nos_33 all_33 no_34 rfl
theorem all_35 : Reach 18432 5018 9253 := chunk_add 512 all_34 run_35 rfl
theorem nos_35 : Never 18432 := no_add 512 nos_34 all_34 no_35 rfl
theorem all_36 : Reach 18944 20341 9499 := chunk_add 512 all_35 run_36 rfl
theorem nos_36 : Never 18944 := no_add 512 nos_35 all_35 no_36 rfl
theorem all_37 : Reach 19456 5138 9760 := chunk_add 512 all_36 run_37 rfl
theorem nos_37 : Never 19456 := no_add 512 nos_36 all_36 no_37 rfl
theorem all_38 : Reach 19968 26768 10011 := chunk_add 512 all_37 run_38 rfl
theorem nos_38 : Never 19968 := no_add 512 nos_37 all_37 no_38 rfl
theorem all_39 : Reach 20480 30284 10260 := chunk_add 512 all_38 run_39 rfl
theorem nos_39 : Never 20480 := no_add 512 nos_38 all_38 no_39 rfl
theorem all_40 : Reach 20992 26853 10519 := chunk_add 512 all_39 run_40 rfl
theorem nos_40 : Never 20992 := no_add 512 nos_39 all_39 no_40 rfl
theorem all_41 : Reach 21504 12753 10784 := chunk_add 512 all_40 run_41 rfl
theorem nos_41 : Never 21504 := no_add 512 nos_40 all_40 no_41 rfl
theorem all_42 : Reach 22016 12485 11039 := chunk_add 512 all_41 run_42 rfl
theorem nos_42 : Never 22016 := no_add 512 nos_41 all_41 no_42 rfl
theorem all_43 : Reach 22528 16257 11305 := chunk_add 512 all_42 run_43 rfl
theorem nos_43 : Never 22528 := no_add 512 nos_42 all_42 no_43 rfl
theorem all_44 : Reach 23040 3935 11561 := chunk_add 512 all_43 run_44 rfl
theorem nos_44 : Never 23040 := no_add 512 nos_43 all_43 no_44 rfl
theorem all_45 : Reach 23552 31704 11806 := chunk_add 512 all_44 run_45 rfl
theorem nos_45 : Never 23552 := no_add 512 nos_44 all_44 no_45 rfl
theorem all_46 : Reach 24064 1165 12080 := chunk_add 512 all_45 run_46 rfl
theorem nos_46 : Never 24064 := no_add 512 nos_45 all_45 no_46 rfl
theorem all_47 : Reach 24576 1191 12347 := chunk_add 512 all_46 run_47 rfl
theorem nos_47 : Never 24576 := no_add 512 nos_46 all_46 no_47 rfl
theorem all_48 : Reach 25088 31533 12601 := chunk_add 512 all_47 run_48 rfl
theorem nos_48 : Never 25088 := no_add 512 nos_47 all_47 no_48 rfl
theorem all_49 : Reach 25600 9008 12863 := chunk_add 512 all_48 run_49 rfl
theorem nos_49 : Never 25600 := no_add 512 nos_48 all_48 no_49 rfl
theorem all_50 : Reach 26112 23791 13116 := chunk_add 512 all_49 run_50 rfl
theorem nos_50 : Never 26112 := no_add 512 nos_49 all_49 no_50 rfl
theorem all_51 : Reach 26624 23399 13377 := chunk_add 512 all_50 run_51 rfl
theorem nos_51 : Never 26624 := no_add 512 nos_50 all_50 no_51 rfl
theorem all_52 : Reach 27136 31874 13635 := chunk_add 512 all_51 run_52 rfl
theorem nos_52 : Never 27136 := no_add 512 nos_51 all_51 no_52 rfl
theorem all_53 : Reach 27648 7900 13893 := chunk_add 512 all_52 run_53 rfl
theorem nos_53 : Never 27648 := no_add 512 nos_52 all_52 no_53 rfl
theorem all_54 : Reach 28160 7849 14149 := chunk_add 512 all_53 run_54 rfl
theorem nos_54 : Never 28160 := no_add 512 nos_53 all_53 no_54 rfl
theorem all_55 : Reach 28672 22836 14403 := chunk_add 512 all_54 run_55 rfl
theorem nos_55 : Never 28672 := no_add 512 nos_54 all_54 no_55 rfl
theorem all_56 : Reach 29184 276 14671 := chunk_add 512 all_55 run_56 rfl
theorem nos_56 : Never 29184 := no_add 512 nos_55 all_55 no_56 rfl
theorem all_57 : Reach 29696 3908 14916 := chunk_add 512 all_56 run_57 rfl
theorem nos_57 : Never 29696 := no_add 512 nos_56 all_56 no_57 rfl
theorem all_58 : Reach 30208 12510 15164 := chunk_add 512 all_57 run_58 rfl
theorem nos_58 : Never 30208 := no_add 512 nos_57 all_57 no_58 rfl
theorem all_59 : Reach 30720 29831 15435 := chunk_add 512 all_58 run_59 rfl
theorem nos_59 : Never 30720 := no_add 512 nos_58 all_58 no_59 rfl
theorem all_60 : Reach 31232 32597 15718 := chunk_add 512 all_59 run_60 rfl
theorem nos_60 : Never 31232 := no_add 512 nos_59 all_59 no_60 rfl
theorem all_61 : Reach 31744 42 15917 := chunk_add 512 all_60 run_61 rfl
theorem nos_61 : Never 31744 := no_add 512 nos_60 all_60 no_61 rfl
theorem all_62 : Reach 32256 32650 16152 := chunk_add 512 all_61 run_62 rfl
theorem nos_62 : Never 32256 := no_add 512 nos_61 all_61 no_62 rfl
theorem all_63 : Reach 32766 24692 16384 := chunk_add 510 all_62 run_63 rfl
theorem nos_63 : Never 32766 := no_add 510 nos_62 all_62 no_63 rfl
theorem run_last : runF 1 24692 16384 = (12346, 16384) := by decide +kernel
theorem all_last : Reach 32767 12346 16384 := chunk_add 1 all_63 run_last rfl
theorem cycle_back : iter (step 15 3) 32767 12346 = 12346 := all_last.1
theorem cycle_count : (rowV 15 3 12346 32767).count true = 16384 := all_last.2
theorem cycle_none : firstBack 15 3 12346 32766 = none := (firstBack_none 15 3 12346 32766).2 nos_63
theorem cycle_row : rowV 15 3 12346 32768 = rowV 15 3 12346 32767 ++ [low 12346] := by
  rw [rowV_succ, cycle_back]
end Go.Scr
