/- TempoInstants: instants rise, by steps of two lengths at most. -/
import Derived.Test.YtjhapibelhakdaaFogx0
import Derived.Test.YtjhapibelhakdaaFogx1
import Derived.Test.YtjhapibelhakdaaAwake
namespace Go.Proofs.Ytjhapibelhakdaa.Pure
open Go.RowKit Go.Proofs.Ytjhapibelhakdaa.Fog Go.Proofs.YtjhapibelhakdaaW.PrintWords Go.Proofs.YtjhapibelhakdaaW.PrintLast Go.Proofs.YtjhapibelhakdaaW.PrintMore Go.Proofs.Ytjhapibelhakdaa.Kit
set_option linter.unusedVariables false
set_option linter.unusedSimpArgs false
def atN (F Q D k : Nat) : Nat := F + k * Q / D
def longN (Q D k : Nat) : Nat := k * (Q % D) / D
theorem at_split (F Q D k : Nat) (hD : 1 ≤ D) : atN F Q D k = F + k * (Q / D) + longN Q D k := by
  unfold atN longN
  have h : k * Q = k * (Q % D) + D * (k * (Q / D)) := by
    conv => lhs; rw [← Nat.mod_add_div Q D]
    rw [Nat.mul_add, Nat.mul_left_comm]
  rw [h, Nat.add_mul_div_left _ _ (by omega)]
  omega
theorem long_step (Q D k : Nat) (hD : 1 ≤ D) : longN Q D (k + 1) = longN Q D k ∨ longN Q D (k + 1) = longN Q D k + 1 := by
  unfold longN
  have h1 : Q % D < D := Nat.mod_lt _ (by omega)
  have h2 : (k + 1) * (Q % D) = k * (Q % D) + Q % D := Nat.succ_mul _ _
  have h3 := Nat.div_add_mod (k * (Q % D)) D
  have h4 := Nat.mod_lt (k * (Q % D)) (show 0 < D by omega)
  rw [h2]
  generalize k * (Q % D) = p at *
  generalize Q % D = r at *
  have h5 : (p + r) / D = p / D ∨ (p + r) / D = p / D + 1 := by
    rcases Nat.lt_or_ge (p % D + r) D with h | h
    · left
      rw [show p + r = (p % D + r) + D * (p / D) by omega, Nat.add_mul_div_left _ _ (by omega), Nat.div_eq_of_lt h]; omega
    · right
      rw [show p + r = (p % D + r - D) + D * (p / D + 1) by rw [Nat.mul_succ]; omega, Nat.add_mul_div_left _ _ (by omega), Nat.div_eq_of_lt (by omega)]; omega
  exact h5
theorem at_D (F Q D : Nat) (hD : 1 ≤ D) : atN F Q D D = F + Q := by
  unfold atN
  rw [Nat.mul_comm, Nat.mul_div_cancel _ (by omega)]
theorem may_f (F Q D k : Nat) (hF : F ≤ 65536) (hD : 1 ≤ D) (hQ : D ≤ Q) (hQ2 : Q ≤ 65536) (hk : k ≤ 65536) : tempo_Clock_may.f F Q D k = some true := by
  unfold tempo_Clock_may.f
  rw [if_pos (by omega), if_pos (by omega), if_pos (by omega), if_pos (by omega), if_pos (by omega), if_pos (by omega), decide_eq_true (by omega)]
theorem at_f (F Q D k : Nat) (hF : F ≤ 65536) (hD : 1 ≤ D) (hQ : D ≤ Q) (hQ2 : Q ≤ 65536) (hk : k ≤ 65536) : tempo_At.f F Q D k = some ((atN F Q D k : Int), 0) := by
  unfold tempo_At.f
  rw [may_f F Q D k hF hD hQ hQ2 hk]
  have h1 : k * Q ≤ 65536 * 65536 := Nat.mul_le_mul hk hQ2
  have h2 : k * Q / D ≤ k * Q := Nat.div_le_self _ _
  have e1 : (k : Int) * (Q : Int) = ((k * Q : Nat) : Int) := by rw [Int.natCast_mul]
  simp only [Option.bind_some, if_true]
  rw [if_neg (by omega), e1, w64n (by omega), tdiv_nat, w64n (by omega), show (F : Int) + ((k * Q / D : Nat) : Int) = ((atN F Q D k : Nat) : Int) by unfold atN; omega, w64n (by unfold atN; omega)]
theorem long_f (F Q D k : Nat) (hF : F ≤ 65536) (hD : 1 ≤ D) (hQ : D ≤ Q) (hQ2 : Q ≤ 65536) (hk : k ≤ 65536) : tempo_Long.f F Q D k = some ((longN Q D k : Int), 0) := by
  unfold tempo_Long.f
  rw [may_f F Q D k hF hD hQ hQ2 hk]
  have h0 : Q % D ≤ Q := Nat.mod_le _ _
  have h1 : k * (Q % D) ≤ 65536 * 65536 := Nat.mul_le_mul hk (by omega)
  have h2 : k * (Q % D) / D ≤ k * (Q % D) := Nat.div_le_self _ _
  have e1 : (k : Int) * ((Q % D : Nat) : Int) = ((k * (Q % D) : Nat) : Int) := by rw [Int.natCast_mul]
  simp only [Option.bind_some, if_true]
  rw [if_neg (by omega), tmod_nat, e1, w64n (by omega), tdiv_nat, w64n (by omega)]
  rfl
set_option maxHeartbeats 8000000 in
set_option maxRecDepth 100000 in
theorem instants_walk (x0 x1 x2 x3 : Nat) (w : World) (h0 : x0 < 256) (h1 : x1 < 256) (h2 : x2 < 256) (h3 : x3 < 65536) :
    Calls Try.prog 3 #[.agg #[.int .u8 (x0 : Int), .int .u8 (x1 : Int), .int .u8 (x2 : Int), .int .u16 (x3 : Int)]] w fun e w' => e = .returned (.bool true) ∧ Below w.heap.size w w' := by
  obtain ⟨D, hD⟩ : ∃ D, x2 % 40 + 1 = D := ⟨_, rfl⟩
  obtain ⟨Q, hQ⟩ : ∃ Q, D + x1 = Q := ⟨_, rfl⟩
  obtain ⟨M, hM⟩ : ∃ M, x3 % 300 = M := ⟨_, rfl⟩
  obtain ⟨P, hP⟩ : ∃ P, Q / D = P := ⟨_, rfl⟩
  have hPl : P ≤ 400 := by have := Nat.div_le_self Q D; omega
  have i0 : IntKind.i64.wrap (x0 : Int) = (x0 : Int) := by rw [IntKind.wrap_i64]; omega
  have i1 : IntKind.i64.wrap (x1 : Int) = (x1 : Int) := by rw [IntKind.wrap_i64]; omega
  have i2 : IntKind.i64.wrap (x2 : Int) = (x2 : Int) := by rw [IntKind.wrap_i64]; omega
  have i3 : IntKind.i64.wrap (x3 : Int) = (x3 : Int) := by rw [IntKind.wrap_i64]; omega
  have e1 : (x2 : Int) % 40 + 1 = (D : Int) := by omega
  have e2 : (D : Int) + (x1 : Int) = (Q : Int) := by omega
  have e3 : (x3 : Int) % 300 = (M : Int) := by omega
  have e4 : Int.tdiv (Q : Int) (D : Int) = (P : Int) := by rw [tdiv_nat, hP]
  have e4' : (Q : Int) / (D : Int) = (P : Int) := by rw [← hP]; simp
  have HD1 := Aside0.mk (show 1 ≤ D ∧ D ≤ 40 by omega)
  have HQ := Aside0.mk (show D ≤ Q ∧ Q ≤ 400 by omega)
  have HPQ := Aside0.mk hP
  have HM := Aside0.mk (show M < 300 by omega)
  have hD0 : ¬ (D : Int) = 0 := by omega
  have hD0' : ((D : Int) == 0) = false := by simp; omega
  have HX0 := Aside0.mk (show x0 ≤ 65536 by omega)
  have HP4 := Aside0.mk hPl
  clear hD hQ hM hP
  go_enter Try.func3, Try.ntmps3
  go_wp2
  rw [e3]
  obtain ⟨X0, hX0⟩ : ∃ X0, (w.alloc (.cells #[.int .u8 (x0 : Int), .int .u8 (x1 : Int), .int .u8 (x2 : Int), .int .u16 (x3 : Int)] 24)).alloc (.cells #[.int .i64 (x0 : Int), .int .i64 (Q : Int), .int .i64 (D : Int)] 26) = X0 := ⟨_, rfl⟩
  have HB0 := Aside0.mk (show Below w.heap.size w X0 from hX0 ▸ (((Below.refl w.heap.size w).alloc (Nat.le_refl _) _).alloc (by simp) _))
  have HC0 := Aside0.mk (show X0.heap[w.heap.size + 1]? = some (.cells #[.int .i64 (x0 : Int), .int .i64 (Q : Int), .int .i64 (D : Int)] 26) from by
    rw [← hX0]
    have h := blk_new (w.alloc (.cells #[.int .u8 (x0 : Int), .int .u8 (x1 : Int), .int .u8 (x2 : Int), .int .u16 (x3 : Int)] 24)) (.cells #[.int .i64 (x0 : Int), .int .i64 (Q : Int), .int .i64 (D : Int)] 26)
    rwa [World.size_alloc] at h)
  rw [hX0]
  clear hX0 i0 i1 i2 i3 e1 e2 e3 e4 e4'
  obtain ⟨g, hg⟩ : ∃ g, w.heap.size + 1 = g := ⟨_, rfl⟩
  rw [hg] at HC0 ⊢
  clear hg
  have HL0 := Aside0.mk (show longN Q D 0 = 0 by unfold longN; simp)
  go_loopw [7, 8, 9] (fun la lo i wr => ∃ k : Nat, k ≤ M ∧ i = .int .i64 ((k : Int) + 1) ∧ la = .int .i64 (atN x0 Q D k : Int) ∧ lo = .int .i64 (longN Q D k : Int) ∧ Aside0 (wr.heap[g]? = some (.cells #[.int .i64 (x0 : Int), .int .i64 (Q : Int), .int .i64 (D : Int)] 26)) ∧ Aside0 (Below w.heap.size w wr)) (fun _ _ i _ => M + 1 - (intOf i).toNat)
  case atStart => exact ⟨0, Nat.zero_le _, rfl, by unfold atN; simp, by rw [HL0.out]; rfl, HC0, HB0⟩
  case round =>
    obtain ⟨k, hk, rfl, rfl, rfl, HC, HB⟩ := hrel
    have c0 := (blk_cell HC.out 0).trans rfl
    have c1 := (blk_cell HC.out 1).trans rfl
    have c2 := (blk_cell HC.out 2).trans rfl
    have hsp := at_split x0 Q D k HD1.out.1
    have hL := Nat.le_trans (show longN Q D k ≤ k * (Q % D) from Nat.div_le_self _ _) (Nat.mul_le_mul (show k ≤ 300 by have := HM.out; omega) (Nat.le_trans (Nat.mod_le _ _) HQ.out.2))
    have hkp : k * P ≤ 300 * 400 := Nat.mul_le_mul (by have := HM.out; omega) HP4.out
    by_cases hlt : k < M
    · have q1 : (k : Int) + 1 ≤ (M : Int) := by omega
      have HKM := Aside0.mk (show k + 1 ≤ M by omega)
      have hk300 : k ≤ 300 := by have := HM.out; omega
      have hst := long_step Q D k HD1.out.1
      have hsp1 := at_split x0 Q D (k + 1) HD1.out.1
      have hke : ((k : Int) + 1) = ((k + 1 : Nat) : Int) := by omega
      have hf1 := at_f x0 Q D (k + 1) HX0.out HD1.out.1 HQ.out.1 (by have := HQ.out; omega) (by have := HM.out; omega)
      have hf2 := long_f x0 Q D (k + 1) HX0.out HD1.out.1 HQ.out.1 (by have := HQ.out; omega) (by have := HM.out; omega)
      have hatd : k + 1 = D → atN x0 Q D (k + 1) = x0 + Q := fun e => by rw [e]; exact at_D x0 Q D HD1.out.1
      rw [← hke] at hf1 hf2
      have hmul : ((k : Int) + 1) * (P : Int) = (((k + 1) * P : Nat) : Int) := by rw [hke, Int.natCast_mul]
      have hmul2 : (k + 1) * P = k * P + P := Nat.succ_mul _ _
      rw [HPQ.out] at hsp hsp1
      have HF1 := Aside0.mk hf1
      have HF2 := Aside0.mk hf2
      obtain ⟨A0, hA0⟩ : ∃ A, atN x0 Q D k = A := ⟨_, rfl⟩
      obtain ⟨A1, hA1⟩ : ∃ A, atN x0 Q D (k + 1) = A := ⟨_, rfl⟩
      obtain ⟨L0, hL0⟩ : ∃ A, longN Q D k = A := ⟨_, rfl⟩
      obtain ⟨L1, hL1⟩ : ∃ A, longN Q D (k + 1) = A := ⟨_, rfl⟩
      obtain ⟨KP, hKP⟩ : ∃ A, (k + 1) * P = A := ⟨_, rfl⟩
      rw [hA0, hL0] at hsp
      rw [hA1, hL1] at hsp1
      rw [hL0, hL1] at hst
      rw [hL0] at hL
      rw [hA1] at HF1 hatd
      rw [hL1] at HF2
      rw [hKP] at hmul hmul2 hsp1
      rw [hA0, hL0]
      have HA1 := Aside0.mk hA1
      have HL1 := Aside0.mk hL1
      have hPl := HP4.out
      have hxl := HX0.out
      clear hA0 hA1 hL0 hL1 hKP hf1 hf2 hke
      obtain ⟨KP0, hKP0⟩ : ∃ A, k * P = A := ⟨_, rfl⟩
      rw [hKP0] at hkp hmul2 hsp
      have hb0 : A0 ≤ 1000000 ∧ A1 ≤ 1000000 ∧ KP ≤ 1000000 ∧ L0 ≤ 1000000 ∧ L1 ≤ 1000000 := by omega
      obtain ⟨hb1, hb2, hb3, hb4, hb5⟩ := hb0
      have hz4 : (x0 : Int) + (KP : Int) + (L1 : Int) = (A1 : Int) := by omega
      have hst' : (L1 = L0 ∧ (A0 : Int) + (P : Int) = (A1 : Int)) ∨ ((L0 : Int) + 1 = (L1 : Int) ∧ (A0 : Int) + (P : Int) + 1 = (A1 : Int) ∧ ((A1 : Int) == (A0 : Int) + (P : Int)) = false) := by
        rcases hst with h | h
        · exact .inl ⟨h, by omega⟩
        · exact .inr ⟨by omega, by omega, by simp; omega⟩
      have HQ2 := HQ.out.2
      clear hKP0 hL hsp hsp1 hmul2 hst hkp
      rcases hst' with ⟨hst, hx2⟩ | ⟨hst, hx2, hx3⟩
      · subst hst
        by_cases hkd : k + 1 = D
        · have hkd1 : ((k : Int) + 1 == (D : Int)) = true := by simp; omega
          have hxq : (x0 : Int) + (Q : Int) = (A1 : Int) := by have := hatd hkd; omega
          clear hatd hkd
          go_wp2_with (first
            | (go_at_call 10; (with_reducible refine (tempo_At.calls _ _ _ _ _ _ _ HF1.out).mono ?_); rintro e w1 ⟨rfl, hb⟩; have HB1 := Aside0.mk (below_step HB.out hb); have HC1 := Aside0.mk (blk_below HC.out hb); have d0 := (blk_cell HC1.out 0).trans rfl; have d1 := (blk_cell HC1.out 1).trans rfl; have d2 := (blk_cell HC1.out 2).trans rfl; clear hb)
            | (go_at_call 11; (with_reducible refine (tempo_Long.calls _ _ _ _ _ _ _ HF2.out).mono ?_); rintro e w2 ⟨rfl, hb⟩; have HB2 := Aside0.mk (below_step HB1.out hb); have HC2 := Aside0.mk (blk_below HC1.out hb); have b0 := (blk_cell HC2.out 0).trans rfl; have b1 := (blk_cell HC2.out 1).trans rfl; have b2 := (blk_cell HC2.out 2).trans rfl; clear hb))
          try go_quiet (fail)
          try go_wp2
          go_roundw
          case rel => exact ⟨k + 1, HKM.out, by go_num, by (rw [HA1.out]; try go_num), by (rw [HL1.out]; try go_num), HC2, by first | exact HB2 | exact ⟨pw_below_drewN HB2.out _⟩⟩
          case measure => have := HKM.out; simp [intOf]; omega
        · have hkd1 : ((k : Int) + 1 == (D : Int)) = false := by simp; omega
          have hkd2 : ¬ (k : Int) + 1 = (D : Int) := by omega
          clear hatd hkd
          go_wp2_with (first
            | (go_at_call 10; (with_reducible refine (tempo_At.calls _ _ _ _ _ _ _ HF1.out).mono ?_); rintro e w1 ⟨rfl, hb⟩; have HB1 := Aside0.mk (below_step HB.out hb); have HC1 := Aside0.mk (blk_below HC.out hb); have d0 := (blk_cell HC1.out 0).trans rfl; have d1 := (blk_cell HC1.out 1).trans rfl; have d2 := (blk_cell HC1.out 2).trans rfl; clear hb)
            | (go_at_call 11; (with_reducible refine (tempo_Long.calls _ _ _ _ _ _ _ HF2.out).mono ?_); rintro e w2 ⟨rfl, hb⟩; have HB2 := Aside0.mk (below_step HB1.out hb); have HC2 := Aside0.mk (blk_below HC1.out hb); have b0 := (blk_cell HC2.out 0).trans rfl; have b1 := (blk_cell HC2.out 1).trans rfl; have b2 := (blk_cell HC2.out 2).trans rfl; clear hb))
          try go_quiet (fail)
          try go_wp2
          go_roundw
          case rel => exact ⟨k + 1, HKM.out, by go_num, by (rw [HA1.out]; try go_num), by (rw [HL1.out]; try go_num), HC2, by first | exact HB2 | exact ⟨pw_below_drewN HB2.out _⟩⟩
          case measure => have := HKM.out; simp [intOf]; omega
      · by_cases hkd : k + 1 = D
        · have hkd1 : ((k : Int) + 1 == (D : Int)) = true := by simp; omega
          have hxq : (x0 : Int) + (Q : Int) = (A1 : Int) := by have := hatd hkd; omega
          clear hatd hkd
          go_wp2_with (first
            | (go_at_call 10; (with_reducible refine (tempo_At.calls _ _ _ _ _ _ _ HF1.out).mono ?_); rintro e w1 ⟨rfl, hb⟩; have HB1 := Aside0.mk (below_step HB.out hb); have HC1 := Aside0.mk (blk_below HC.out hb); have d0 := (blk_cell HC1.out 0).trans rfl; have d1 := (blk_cell HC1.out 1).trans rfl; have d2 := (blk_cell HC1.out 2).trans rfl; clear hb)
            | (go_at_call 11; (with_reducible refine (tempo_Long.calls _ _ _ _ _ _ _ HF2.out).mono ?_); rintro e w2 ⟨rfl, hb⟩; have HB2 := Aside0.mk (below_step HB1.out hb); have HC2 := Aside0.mk (blk_below HC1.out hb); have b0 := (blk_cell HC2.out 0).trans rfl; have b1 := (blk_cell HC2.out 1).trans rfl; have b2 := (blk_cell HC2.out 2).trans rfl; clear hb))
          try go_quiet (fail)
          try go_wp2
          go_roundw
          case rel => exact ⟨k + 1, HKM.out, by go_num, by (rw [HA1.out]; try go_num), by (rw [HL1.out]; try go_num), HC2, by first | exact HB2 | exact ⟨pw_below_drewN HB2.out _⟩⟩
          case measure => have := HKM.out; simp [intOf]; omega
        · have hkd1 : ((k : Int) + 1 == (D : Int)) = false := by simp; omega
          have hkd2 : ¬ (k : Int) + 1 = (D : Int) := by omega
          clear hatd hkd
          go_wp2_with (first
            | (go_at_call 10; (with_reducible refine (tempo_At.calls _ _ _ _ _ _ _ HF1.out).mono ?_); rintro e w1 ⟨rfl, hb⟩; have HB1 := Aside0.mk (below_step HB.out hb); have HC1 := Aside0.mk (blk_below HC.out hb); have d0 := (blk_cell HC1.out 0).trans rfl; have d1 := (blk_cell HC1.out 1).trans rfl; have d2 := (blk_cell HC1.out 2).trans rfl; clear hb)
            | (go_at_call 11; (with_reducible refine (tempo_Long.calls _ _ _ _ _ _ _ HF2.out).mono ?_); rintro e w2 ⟨rfl, hb⟩; have HB2 := Aside0.mk (below_step HB1.out hb); have HC2 := Aside0.mk (blk_below HC1.out hb); have b0 := (blk_cell HC2.out 0).trans rfl; have b1 := (blk_cell HC2.out 1).trans rfl; have b2 := (blk_cell HC2.out 2).trans rfl; clear hb))
          try go_quiet (fail)
          try go_wp2
          go_roundw
          case rel => exact ⟨k + 1, HKM.out, by go_num, by (rw [HA1.out]; try go_num), by (rw [HL1.out]; try go_num), HC2, by first | exact HB2 | exact ⟨pw_below_drewN HB2.out _⟩⟩
          case measure => have := HKM.out; simp [intOf]; omega
    · have hkM : k = M := by omega
      have q1 : ¬ (k : Int) + 1 ≤ (M : Int) := by omega
      have q2 : (M : Int) < (k : Int) + 1 := by omega
      obtain ⟨R, hR⟩ : ∃ R, Q % D = R := ⟨_, rfl⟩
      obtain ⟨L0, hL0⟩ : ∃ A, longN Q D k = A := ⟨_, rfl⟩
      have hr1 : Int.tmod (Q : Int) (D : Int) = (R : Int) := by rw [tmod_nat, hR]
      have hr2 : (Q : Int) % (D : Int) = (R : Int) := by rw [← hR]; simp
      have hrl : R = 0 → L0 = 0 := fun e => by rw [← hL0]; unfold longN; rw [hR, e]; simp
      rw [hL0]
      clear hL0 hR hsp hL hkp hkM
      by_cases hR0 : R = 0
      · have hL00 := hrl hR0
        subst hR0 hL00
        clear hrl
        go_wp2_with (go_at_call 12; (with_reducible refine (awake_calls _).mono ?_); rintro e w3 ⟨rfl, hb⟩; have HB3 := Aside0.mk (below_step HB.out hb); clear hb)
        go_ret
        exact ⟨rfl, HB3.out⟩
      · have hR1 : ((R : Int) == 0) = false := by simp; omega
        have hR2 : ¬ (R : Int) = 0 := by omega
        clear hrl hR0
        go_wp2_with (go_at_call 12; (with_reducible refine (awake_calls _).mono ?_); rintro e w3 ⟨rfl, hb⟩; have HB3 := Aside0.mk (below_step HB.out hb); clear hb)
        go_ret
        exact ⟨rfl, HB3.out⟩
theorem wf_u8 {a : Int} (h : (Lit.int .u8 a).wf = true) : ∃ n : Nat, a = (n : Int) ∧ n < 256 := by
  have h2 : 0 ≤ a ∧ a ≤ 255 := by simpa [Lit.wf, IntKind.has, IntKind.min, IntKind.max, IntKind.signed, IntKind.bits] using h
  exact ⟨a.toNat, by omega, by omega⟩
theorem wf_u16 {a : Int} (h : (Lit.int .u16 a).wf = true) : ∃ n : Nat, a = (n : Int) ∧ n < 65536 := by
  have h2 : 0 ≤ a ∧ a ≤ 65535 := by simpa [Lit.wf, IntKind.has, IntKind.min, IntKind.max, IntKind.signed, IntKind.bits] using h
  exact ⟨a.toNat, by omega, by omega⟩
theorem TempoInstants_walk (a0_0 a0_1 a0_2 a0_3 : Int) (w : World) (w0 : (Lit.int .u8 a0_0).wf = true) (w1 : (Lit.int .u8 a0_1).wf = true) (w2 : (Lit.int .u8 a0_2).wf = true) (w3 : (Lit.int .u16 a0_3).wf = true) :
    Calls Try.prog 3 #[.agg #[.int .u8 a0_0, .int .u8 a0_1, .int .u8 a0_2, .int .u16 a0_3]] w fun e w' => e = .returned (.bool true) ∧ Below w.heap.size w w' := by
  obtain ⟨n0, rfl, h0⟩ := wf_u8 w0
  obtain ⟨n1, rfl, h1⟩ := wf_u8 w1
  obtain ⟨n2, rfl, h2⟩ := wf_u8 w2
  obtain ⟨n3, rfl, h3⟩ := wf_u16 w3
  exact instants_walk n0 n1 n2 n3 w h0 h1 h2 h3
end Go.Proofs.Ytjhapibelhakdaa.Pure
