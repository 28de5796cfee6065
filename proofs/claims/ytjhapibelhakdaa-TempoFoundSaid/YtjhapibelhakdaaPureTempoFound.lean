/- TempoFound. -/
import Derived.Test.YtjhapibelhakdaaFogx0
import Derived.Test.YtjhapibelhakdaaFoundLaw
namespace Go.Proofs.Ytjhapibelhakdaa.Pure
open Go.RowKit Go.Proofs.Ytjhapibelhakdaa.Fog Go.Proofs.YtjhapibelhakdaaW.PrintWords Go.Proofs.YtjhapibelhakdaaW.PrintLast Go.Proofs.YtjhapibelhakdaaW.PrintMore Go.Proofs.Ytjhapibelhakdaa.Kit
set_option linter.unusedVariables false
set_option linter.unusedSimpArgs false
theorem slide_res {w w' : World} {v : Value} {base : Nat} {l : List Smp} {L : Nat} (hL : l.length = L) (h : Kd.R KS 43 w' base (fun _ => True) v l) : ∃ A' c', v = .slice A' L c' ∧ L ≤ c' ∧ Kd.C KS w' A' L l := by
  obtain ⟨A', c', rfl⟩ := Kd.R_slice h
  have g := Kd.R_reads' h
  rw [hL] at g ⊢
  exact ⟨A', c', rfl, g.2.1, g.2.2⟩
theorem slide_p (A : Option Addr) (k c p B M : Nat) (w : World) (h : Kd.C KS w A k (rowF k)) (hc : k ≤ c) (hk : k ≤ 100) (hB : B < 90) (hp : p ≤ k) (hM : k + B = M) :
    Calls Try.prog 19 #[.slice A k c, .int .i64 (p : Int), .int .i64 (B : Int)] w fun e w' => ∃ A' c', e = .returned (.tuple #[.slice A' M c', .int .i64 0]) ∧ M ≤ c' ∧ Kd.C KS w' A' M (slidF B k p) ∧ Below w.heap.size w w' := by
  refine (slide_in A k c p B (rowF k) w (rowF_length k) h hc (by omega) hp (by omega)).mono ?_
  rintro e w' ⟨v, rfl, hR, hb⟩
  obtain ⟨A', c', rfl, h1, h2⟩ := slide_res (w := w) (L := M) (by rw [← hM]; exact slidF_length B k p hp) hR
  exact ⟨A', c', rfl, h1, h2, hb⟩
theorem slide_0 (A : Option Addr) (k c B M : Nat) (w : World) (h : Kd.C KS w A k (rowF k)) (hc : k ≤ c) (hk : k ≤ 100) (hB : B < 90) (hM : k + B = M) :
    Calls Try.prog 19 #[.slice A k c, .int .i64 0, .int .i64 (B : Int)] w fun e w' => ∃ A' c', e = .returned (.tuple #[.slice A' M c', .int .i64 0]) ∧ M ≤ c' ∧ Kd.C KS w' A' M (lateF B k) ∧ Below w.heap.size w w' := by
  have g := slide_p A k c 0 B M w h hc hk hB (Nat.zero_le _) hM
  rw [slidF_zero] at g
  exact g
theorem slide_b (A : Option Addr) (k c p B M : Nat) (w : World) (h : Kd.C KS w A M (slidF B k p)) (hc : M ≤ c) (hk : k ≤ 100) (hB : B < 90) (hp : p ≤ k) (hM : k + B = M) :
    Calls Try.prog 19 #[.slice A M c, .int .i64 (p : Int), .int .i64 (-(B : Int))] w fun e w' => ∃ A' c', e = .returned (.tuple #[.slice A' k c', .int .i64 0]) ∧ k ≤ c' ∧ Kd.C KS w' A' k (rowF k) ∧ Below w.heap.size w w' := by
  have hl : (slidF B k p).length = M := by rw [← hM]; exact slidF_length B k p hp
  by_cases h0 : B = 0
  · subst h0
    refine (slide_in A M c p 0 _ w hl h hc (by omega) (by omega) (by omega)).mono ?_
    rintro e w' ⟨v, rfl, hR, hb⟩
    rw [slidF_back0] at hR
    obtain ⟨A', c', rfl, h1, h2⟩ := slide_res (w := w) (rowF_length k) hR
    exact ⟨A', c', rfl, h1, h2, hb⟩
  · refine (slide_out A M c p B _ w hl h hc (by omega) (by omega) (by omega) (by omega) (by omega)).mono ?_
    rintro e w' ⟨v, rfl, hR, hb⟩
    rw [slidF_back B k p hp] at hR
    obtain ⟨A', c', rfl, h1, h2⟩ := slide_res (w := w) (rowF_length k) hR
    exact ⟨A', c', rfl, h1, h2, hb⟩
theorem slip_1 (A A' : Option Addr) (k c c' B M F : Nat) (r1 : Int) (r2 : Nat) (w : World) (hR : slipTo (rowF k) (lateF B k) F = (r1, r2)) (h : Kd.C KS w A k (rowF k)) (h' : Kd.C KS w A' M (lateF B k)) (hk : k ≤ 100) (hB : B < 90) (hF : F < 200) (hM : k + B = M) :
    Calls Try.prog 20 #[.slice A k c, .slice A' M c', .int .i64 (F : Int)] w fun e w' => e = .returned (.tuple #[.int .i64 r1, .int .i64 (r2 : Int), .int .i64 0]) ∧ Below w.heap.size w w' := by
  have g := slip_calls (rowF k) (lateF B k) A A' c c' k M F w (rowF_length k) (by rw [lateF_length]; omega) h h' (by omega) (by omega) (by omega)
  rw [hR] at g
  exact g
theorem slip_2 (A A' : Option Addr) (k c c' B M F : Nat) (r1 : Int) (r2 : Nat) (w : World) (hR : slipTo (lateF B k) (rowF k) F = (r1, r2)) (h : Kd.C KS w A k (rowF k)) (h' : Kd.C KS w A' M (lateF B k)) (hk : k ≤ 100) (hB : B < 90) (hF : F < 200) (hM : k + B = M) :
    Calls Try.prog 20 #[.slice A' M c', .slice A k c, .int .i64 (F : Int)] w fun e w' => e = .returned (.tuple #[.int .i64 r1, .int .i64 (r2 : Int), .int .i64 0]) ∧ Below w.heap.size w w' := by
  have g := slip_calls (lateF B k) (rowF k) A' A c' c M k F w (by rw [lateF_length]; omega) (rowF_length k) h' h (by omega) (by omega) (by omega)
  rw [hR] at g
  exact g
set_option maxHeartbeats 4000000 in
set_option maxRecDepth 100000 in
theorem found_walk (x0 x1 x2 x3 : Nat) (w : World) (h0 : x0 < 256) (h1 : x1 < 256) (h2 : x2 < 256) (h3 : x3 < 65536) :
    Calls Try.prog 5 #[.agg #[.int .u8 (x0 : Int), .int .u8 (x1 : Int), .int .u8 (x2 : Int), .int .u16 (x3 : Int)]] w fun e w' => e = .returned (.bool true) ∧ Below w.heap.size w w' := by
  obtain ⟨N, hN⟩ : ∃ N, x0 % 100 + 1 = N := ⟨_, rfl⟩
  obtain ⟨B, hB⟩ : ∃ B, x1 % 90 = B := ⟨_, rfl⟩
  obtain ⟨F, hF⟩ : ∃ F, x3 % 200 = F := ⟨_, rfl⟩
  have i0 : IntKind.i64.wrap (x0 : Int) = (x0 : Int) := by rw [IntKind.wrap_i64]; omega
  have i1 : IntKind.i64.wrap (x1 : Int) = (x1 : Int) := by rw [IntKind.wrap_i64]; omega
  have i2 : IntKind.i64.wrap (x2 : Int) = (x2 : Int) := by rw [IntKind.wrap_i64]; omega
  have i3 : IntKind.i64.wrap (x3 : Int) = (x3 : Int) := by rw [IntKind.wrap_i64]; omega
  have e1 : (x0 : Int) % 100 + 1 = (N : Int) := by omega
  have e2 : (x1 : Int) % 90 = (B : Int) := by omega
  have e3 : (x3 : Int) % 200 = (F : Int) := by omega
  go_enter Try.func5, Try.ntmps5
  go_wp2
  obtain ⟨X0, hX0⟩ : ∃ X0, w.alloc (.cells #[.int .u8 (x0 : Int), .int .u8 (x1 : Int), .int .u8 (x2 : Int), .int .u16 (x3 : Int)] 46) = X0 := ⟨_, rfl⟩
  have HB0 := Aside0.mk (show Below w.heap.size w X0 from hX0 ▸ ((Below.refl w.heap.size w).alloc (Nat.le_refl _) _))
  have HX0 := Aside0.mk (show X0.heap[w.heap.size]? = some (.cells #[.int .u8 (x0 : Int), .int .u8 (x1 : Int), .int .u8 (x2 : Int), .int .u16 (x3 : Int)] 46) from hX0 ▸ blk_new w _)
  rw [hX0]
  have HG := Aside0.mk (show w.heap.size < X0.heap.size from blk_lt HX0.out)
  clear hX0
  obtain ⟨g, hg⟩ : ∃ g, w.heap.size = g := ⟨_, rfl⟩
  rw [hg] at HX0 HG ⊢
  have HN1 := Aside0.mk (show N ≤ 100 by omega)
  have HK1 := Aside0.mk (show 1 ≤ N by omega)
  have HB1 := Aside0.mk (show B < 90 by omega)
  have HF1 := Aside0.mk (show F < 200 by omega)
  clear hN hB hF
  go_loopw [3, 4] (fun v i wr => ∃ k : Nat, k ≤ N ∧ i = .int .i64 (k : Int) ∧ Aside0 (wr.heap[g]? = some (.cells #[.int .u8 (x0 : Int), .int .u8 (x1 : Int), .int .u8 (x2 : Int), .int .u16 (x3 : Int)] 46)) ∧ Aside0 (Kd.R KS 43 wr X0.heap.size (fun _ => True) v (rowF k)) ∧ Aside0 (Below X0.heap.size X0 wr)) (fun _ i _ => N - (intOf i).toNat)
  case atStart => exact ⟨0, Nat.zero_le _, rfl, HX0, ⟨Kd.R_nil _ _ _ _ _⟩, ⟨Below.refl _ _⟩⟩
  case round =>
    obtain ⟨k, hk, rfl, HC, HO, HB⟩ := hrel
    have hkn := HN1.out
    have c0 := (blk_cell HC.out 0).trans rfl
    have c1 := (blk_cell HC.out 1).trans rfl
    have c2 := (blk_cell HC.out 2).trans rfl
    have c3 := (blk_cell HC.out 3).trans rfl
    by_cases hlt : k < N
    · have q1 : (k : Int) < (N : Int) := by omega
      have hks : IntKind.i64.wrap ((k : Int) + 1) = (k : Int) + 1 := by rw [IntKind.wrap_i64]; omega
      obtain ⟨A0, cA, hv⟩ := Kd.R_slice HO.out
      go_wp2_with ((with_reducible refine gate_builtin (b := .append) (xs := #[.tmp 31, .tmp 36]) rfl ?_); at_builtin; refine Kd.R_append KS (w0 := X0) X0.heap.size rfl (.tmp 31) (.tmp 36) 35 43 (.agg #[.complex .f64 0 0, .bool false]) 24 rfl Try.underlying35 sampleInfo rfl (by decide) (by omega) u3 (rowF k) (fsm k) [.complex .f64 (floatOfInt .f64 (k : Int)) 4607182418800017408, .bool false] (fun _ => True) (fun _ => False) rfl rfl ?aP (fun _ hk => hk.elim) ?aF ?aO ?aB ?aS ?aL ?_; (case aP => exact ⟨[.complex .f64 (floatOfInt .f64 (k : Int)) 4607182418800017408], [.bool false], rfl, rfl, rfl⟩); (case aB => exact HB.out); (case aF => exact (fun _ _ => trivial)); (case aO => exact HO.out); (case aS => exact HB.out.size); (case aL => rw [rowF_length]; omega); intro v3 w3 ho hb_ hg_ hat; clear hg_ hat; (rw [← rowF_succ] at ho); (have HO4 := Aside0.mk ho); (have HB4 := Aside0.mk hb_); clear ho hb_)
      go_roundw
      case rel => exact ⟨k + 1, hlt, by go_num, ⟨blk_below HX0.out HB4.out⟩, HO4, HB4⟩
      case measure => show N - ((k : Int) + 1).toNat < N - (k : Int).toNat; omega
    · have hkN : k = N := by omega
      subst hkN
      obtain ⟨A0, cA, hv⟩ := Kd.R_slice HO.out
      rw [rowF_length] at hv
      subst hv
      have hrd := Kd.R_reads' HO.out
      rw [rowF_length] at hrd
      have HCR := Aside0.mk hrd.2.2
      have hcA := hrd.2.1
      clear hrd HO
      obtain ⟨M, hM⟩ : ∃ M, k + B = M := ⟨_, rfl⟩
      obtain ⟨P, hP⟩ : ∃ P, x2 % (k + 1) = P := ⟨_, rfl⟩
      have hPk : P ≤ k := by have := Nat.mod_lt x2 (show 0 < k + 1 by omega); omega
      have m1 : (k : Int) + (B : Int) = (M : Int) := by omega
      have m2 : IntKind.i64.wrap (M : Int) = (M : Int) := by rw [IntKind.wrap_i64]; have := HB1.out; omega
      have p1 : (x2 : Int) % ((k : Int) + 1) = (P : Int) := by rw [← hP]; simp
      have p2 : Int.tmod (x2 : Int) ((k : Int) + 1) = (P : Int) := by rw [show (k : Int) + 1 = ((k + 1 : Nat) : Int) by omega, tmod_nat, hP]
      have p3 : ¬ (k : Int) + 1 = 0 := by omega
      have p3' : ((k : Int) + 1 == 0) = false := by simp; omega
      have p4 : IntKind.i64.wrap ((k : Int) + 1) = (k : Int) + 1 := by rw [IntKind.wrap_i64]; omega
      have b1 : IntKind.i64.wrap (-(B : Int)) = -(B : Int) := by rw [IntKind.wrap_i64]; have := HB1.out; omega
      have HMM := Aside0.mk hM
      have HPK := Aside0.mk hPk
      have HRL := Aside0.mk (slip_rl B k hkn HK1.out F)
      have HLR := Aside0.mk (slip_lr B k hkn HK1.out F)
      clear hM hP hPk
      by_cases hBF : B ≤ F
      · rw [if_pos hBF] at HRL HLR
        have f1 : (B : Int) ≤ (F : Int) := by omega
        have f2 : ¬ (F : Int) < (B : Int) := by omega
        go_wp2_with (first
          | (go_at_call 19; (with_reducible refine (slide_0 A0 k cA B M _ HCR.out hcA hkn HB1.out HMM.out).mono ?_); rintro e w1 ⟨A1, c1, rfl, hc1, hC, hb⟩; (have HB2 := Aside0.mk (below_step HB.out hb)); (have HCR1 := Aside0.mk (Kd.C_below HCR.out hb)); (have HCL1 := Aside0.mk hC); clear hb hC)
          | (go_at_call 20; (with_reducible refine (slip_1 A0 A1 k cA c1 B M F _ _ _ HRL.out HCR1.out HCL1.out hkn HB1.out HF1.out HMM.out).mono ?_); rintro e w2 ⟨rfl, hb⟩; (have HB3 := Aside0.mk (below_step HB2.out hb)); (have HCR2 := Aside0.mk (Kd.C_below HCR1.out hb)); (have HCL2 := Aside0.mk (Kd.C_below HCL1.out hb)); clear hb)
          | (go_at_call 20; (with_reducible refine (slip_2 A0 A1 k cA c1 B M F _ _ _ HLR.out HCR2.out HCL2.out hkn HB1.out HF1.out HMM.out).mono ?_); rintro e w3 ⟨rfl, hb⟩; (have HB4 := Aside0.mk (below_step HB3.out hb)); (have HCR3 := Aside0.mk (Kd.C_below HCR2.out hb)); clear hb; (have HXX := Aside0.mk (blk_below HX0.out HB4.out)); (have a2 := (blk_cell HXX.out 2).trans rfl); clear HXX)
          | (go_at_call 19; (with_reducible refine (slide_p A0 k cA P B M _ HCR3.out hcA hkn HB1.out HPK.out HMM.out).mono ?_); rintro e w4 ⟨A2, c2, rfl, hc2, hC, hb⟩; (have HB5 := Aside0.mk (below_step HB4.out hb)); (have HCR4 := Aside0.mk (Kd.C_below HCR3.out hb)); (have HCS4 := Aside0.mk hC); clear hb hC)
          | (go_at_call 19; (with_reducible refine (slide_b A2 k c2 P B M _ HCS4.out hc2 hkn HB1.out HPK.out HMM.out).mono ?_); rintro e w5 ⟨A3, c3, rfl, hc3, hC, hb⟩; (have HB6 := Aside0.mk (below_step HB5.out hb)); (have HCR5 := Aside0.mk (Kd.C_below HCR4.out hb)); (have HCS5 := Aside0.mk (Kd.C_below HCS4.out hb)); (have HCK5 := Aside0.mk hC); clear hb hC))
        go_loopw [20] (fun i wr => ∃ j : Nat, j ≤ k ∧ i = .int .i64 (j : Int) ∧ Aside0 (∃ m, wr = w5.drewN m)) (fun i _ => k - (intOf i).toNat)
        case atStart => exact ⟨0, Nat.zero_le _, rfl, ⟨0, rfl⟩⟩
        case round =>
          obtain ⟨j, hj, rfl, ⟨m, rfl⟩⟩ := hrel
          by_cases hlt2 : j < k
          · have q3 : (j : Int) < (k : Int) := by omega
            have hj1 : IntKind.i64.wrap ((j : Int) + 1) = (j : Int) + 1 := by rw [IntKind.wrap_i64]; omega
            obtain ⟨ad, rfl, x1, x2⟩ := smp_at HCR5.out j hlt2
            obtain ⟨bd, rfl, y1, y2⟩ := smp_at HCK5.out j hlt2
            rw [rowF_getD k j hlt2] at x1 x2 y1 y2
            have he := fl_eq j (by omega) j (by omega)
            rw [decide_eq_true rfl] at he
            unfold eqC at he
            simp only [fsm] at x1 x2 y1 y2 he
            obtain ⟨fj, hfj⟩ : ∃ f, flN j = f := ⟨_, rfl⟩
            obtain ⟨o1, ho1⟩ : ∃ o1, one64 = o1 := ⟨_, rfl⟩
            rw [hfj, ho1] at x1 y1 he
            clear hfj ho1
            go_wp2
            go_quiet (fail)
            go_wp2
            go_roundw
            case rel => exact ⟨j + 1, hlt2, by go_num, ⟨_, rfl⟩⟩
            case measure => show k - ((j : Int) + 1).toNat < k - (j : Int).toNat; omega
          · have q3 : ¬ (j : Int) < (k : Int) := by omega
            go_wp2
            obtain ⟨W6, hW6⟩ : ∃ W6 : World, w5.drewN m = W6 := ⟨_, rfl⟩
            go_loopw [21] (fun i wr => ∃ j2 : Nat, j2 ≤ B ∧ i = .int .i64 (j2 : Int) ∧ Aside0 (∃ m, wr = w5.drewN m)) (fun i _ => B - (intOf i).toNat)
            case atStart => exact ⟨0, Nat.zero_le _, rfl, ⟨m, rfl⟩⟩
            case round =>
              obtain ⟨j2, hj2, rfl, ⟨m2, rfl⟩⟩ := hrel
              have hBB := HB1.out
              by_cases hlt3 : j2 < B
              · have q4 : (j2 : Int) < (B : Int) := by omega
                have hMM := HMM.out
                have hPK := HPK.out
                have hj3 : IntKind.i64.wrap ((j2 : Int) + 1) = (j2 : Int) + 1 := by rw [IntKind.wrap_i64]; omega
                obtain ⟨Q, hQ⟩ : ∃ Q, P + j2 = Q := ⟨_, rfl⟩
                have r1 : (P : Int) + (j2 : Int) = (Q : Int) := by omega
                have r2 : IntKind.i64.wrap (Q : Int) = (Q : Int) := by rw [IntKind.wrap_i64]; omega
                have r3 : (Q : Int) < (M : Int) := by omega
                obtain ⟨bd, rfl, y1, y2⟩ := smp_at HCS5.out Q (by omega)
                rw [← hQ, slidF_lost B k P j2 hPK hlt3, hQ] at y1 y2
                simp only [lostS] at y1 y2
                have hz : FloatKind.f64.format.order 0 0 = some .eq := by decide +kernel
                clear hQ hMM hPK
                go_wp2
                exact ⟨⟨j2 + 1, hlt3, by go_num, ⟨m2, rfl⟩⟩, by show B - ((j2 : Int) + 1).toNat < B - (j2 : Int).toNat; omega⟩
              · have q4 : ¬ (j2 : Int) < (B : Int) := by omega
                go_wp2_with (go_at_call 12; (with_reducible refine (awake_calls _).mono ?_); rintro e w7 ⟨rfl, hb⟩; have HB7 := Aside0.mk (below_step (pw_below_drewN HB6.out m2) hb); clear hb)
                go_ret
                exact ⟨rfl, below_then HB0.out HB0.out.size HB7.out⟩
      · rw [if_neg hBF] at HRL HLR
        have f1 : ¬ (B : Int) ≤ (F : Int) := by omega
        have f2 : (F : Int) < (B : Int) := by omega
        go_wp2_with (first
          | (go_at_call 19; (with_reducible refine (slide_0 A0 k cA B M _ HCR.out hcA hkn HB1.out HMM.out).mono ?_); rintro e w1 ⟨A1, c1, rfl, hc1, hC, hb⟩; (have HB2 := Aside0.mk (below_step HB.out hb)); (have HCR1 := Aside0.mk (Kd.C_below HCR.out hb)); (have HCL1 := Aside0.mk hC); clear hb hC)
          | (go_at_call 20; (with_reducible refine (slip_1 A0 A1 k cA c1 B M F _ _ _ HRL.out HCR1.out HCL1.out hkn HB1.out HF1.out HMM.out).mono ?_); rintro e w2 ⟨rfl, hb⟩; (have HB3 := Aside0.mk (below_step HB2.out hb)); (have HCR2 := Aside0.mk (Kd.C_below HCR1.out hb)); (have HCL2 := Aside0.mk (Kd.C_below HCL1.out hb)); clear hb)
          | (go_at_call 20; (with_reducible refine (slip_2 A0 A1 k cA c1 B M F _ _ _ HLR.out HCR2.out HCL2.out hkn HB1.out HF1.out HMM.out).mono ?_); rintro e w3 ⟨rfl, hb⟩; (have HB4 := Aside0.mk (below_step HB3.out hb)); (have HCR3 := Aside0.mk (Kd.C_below HCR2.out hb)); clear hb; (have HXX := Aside0.mk (blk_below HX0.out HB4.out)); (have a2 := (blk_cell HXX.out 2).trans rfl); clear HXX)
          | (go_at_call 19; (with_reducible refine (slide_p A0 k cA P B M _ HCR3.out hcA hkn HB1.out HPK.out HMM.out).mono ?_); rintro e w4 ⟨A2, c2, rfl, hc2, hC, hb⟩; (have HB5 := Aside0.mk (below_step HB4.out hb)); (have HCR4 := Aside0.mk (Kd.C_below HCR3.out hb)); (have HCS4 := Aside0.mk hC); clear hb hC)
          | (go_at_call 19; (with_reducible refine (slide_b A2 k c2 P B M _ HCS4.out hc2 hkn HB1.out HPK.out HMM.out).mono ?_); rintro e w5 ⟨A3, c3, rfl, hc3, hC, hb⟩; (have HB6 := Aside0.mk (below_step HB5.out hb)); (have HCR5 := Aside0.mk (Kd.C_below HCR4.out hb)); (have HCS5 := Aside0.mk (Kd.C_below HCS4.out hb)); (have HCK5 := Aside0.mk hC); clear hb hC))
        go_loopw [20] (fun i wr => ∃ j : Nat, j ≤ k ∧ i = .int .i64 (j : Int) ∧ Aside0 (∃ m, wr = w5.drewN m)) (fun i _ => k - (intOf i).toNat)
        case atStart => exact ⟨0, Nat.zero_le _, rfl, ⟨0, rfl⟩⟩
        case round =>
          obtain ⟨j, hj, rfl, ⟨m, rfl⟩⟩ := hrel
          by_cases hlt2 : j < k
          · have q3 : (j : Int) < (k : Int) := by omega
            have hj1 : IntKind.i64.wrap ((j : Int) + 1) = (j : Int) + 1 := by rw [IntKind.wrap_i64]; omega
            obtain ⟨ad, rfl, x1, x2⟩ := smp_at HCR5.out j hlt2
            obtain ⟨bd, rfl, y1, y2⟩ := smp_at HCK5.out j hlt2
            rw [rowF_getD k j hlt2] at x1 x2 y1 y2
            have he := fl_eq j (by omega) j (by omega)
            rw [decide_eq_true rfl] at he
            unfold eqC at he
            simp only [fsm] at x1 x2 y1 y2 he
            obtain ⟨fj, hfj⟩ : ∃ f, flN j = f := ⟨_, rfl⟩
            obtain ⟨o1, ho1⟩ : ∃ o1, one64 = o1 := ⟨_, rfl⟩
            rw [hfj, ho1] at x1 y1 he
            clear hfj ho1
            go_wp2
            go_quiet (fail)
            go_wp2
            go_roundw
            case rel => exact ⟨j + 1, hlt2, by go_num, ⟨_, rfl⟩⟩
            case measure => show k - ((j : Int) + 1).toNat < k - (j : Int).toNat; omega
          · have q3 : ¬ (j : Int) < (k : Int) := by omega
            go_wp2
            obtain ⟨W6, hW6⟩ : ∃ W6 : World, w5.drewN m = W6 := ⟨_, rfl⟩
            go_loopw [21] (fun i wr => ∃ j2 : Nat, j2 ≤ B ∧ i = .int .i64 (j2 : Int) ∧ Aside0 (∃ m, wr = w5.drewN m)) (fun i _ => B - (intOf i).toNat)
            case atStart => exact ⟨0, Nat.zero_le _, rfl, ⟨m, rfl⟩⟩
            case round =>
              obtain ⟨j2, hj2, rfl, ⟨m2, rfl⟩⟩ := hrel
              have hBB := HB1.out
              by_cases hlt3 : j2 < B
              · have q4 : (j2 : Int) < (B : Int) := by omega
                have hMM := HMM.out
                have hPK := HPK.out
                have hj3 : IntKind.i64.wrap ((j2 : Int) + 1) = (j2 : Int) + 1 := by rw [IntKind.wrap_i64]; omega
                obtain ⟨Q, hQ⟩ : ∃ Q, P + j2 = Q := ⟨_, rfl⟩
                have r1 : (P : Int) + (j2 : Int) = (Q : Int) := by omega
                have r2 : IntKind.i64.wrap (Q : Int) = (Q : Int) := by rw [IntKind.wrap_i64]; omega
                have r3 : (Q : Int) < (M : Int) := by omega
                obtain ⟨bd, rfl, y1, y2⟩ := smp_at HCS5.out Q (by omega)
                rw [← hQ, slidF_lost B k P j2 hPK hlt3, hQ] at y1 y2
                simp only [lostS] at y1 y2
                have hz : FloatKind.f64.format.order 0 0 = some .eq := by decide +kernel
                clear hQ hMM hPK
                go_wp2
                exact ⟨⟨j2 + 1, hlt3, by go_num, ⟨m2, rfl⟩⟩, by show B - ((j2 : Int) + 1).toNat < B - (j2 : Int).toNat; omega⟩
              · have q4 : ¬ (j2 : Int) < (B : Int) := by omega
                go_wp2_with (go_at_call 12; (with_reducible refine (awake_calls _).mono ?_); rintro e w7 ⟨rfl, hb⟩; have HB7 := Aside0.mk (below_step (pw_below_drewN HB6.out m2) hb); clear hb)
                go_ret
                exact ⟨rfl, below_then HB0.out HB0.out.size HB7.out⟩
theorem wf_u8f {a : Int} (h : (Lit.int .u8 a).wf = true) : ∃ n : Nat, a = (n : Int) ∧ n < 256 := by
  have h2 : 0 ≤ a ∧ a ≤ 255 := by simpa [Lit.wf, IntKind.has, IntKind.min, IntKind.max, IntKind.signed, IntKind.bits] using h
  exact ⟨a.toNat, by omega, by omega⟩
theorem wf_u16f {a : Int} (h : (Lit.int .u16 a).wf = true) : ∃ n : Nat, a = (n : Int) ∧ n < 65536 := by
  have h2 : 0 ≤ a ∧ a ≤ 65535 := by simpa [Lit.wf, IntKind.has, IntKind.min, IntKind.max, IntKind.signed, IntKind.bits] using h
  exact ⟨a.toNat, by omega, by omega⟩
theorem TempoFound_walk (a0_0 a0_1 a0_2 a0_3 : Int) (w : World) (w0 : (Lit.int .u8 a0_0).wf = true) (w1 : (Lit.int .u8 a0_1).wf = true) (w2 : (Lit.int .u8 a0_2).wf = true) (w3 : (Lit.int .u16 a0_3).wf = true) :
    Calls Try.prog 5 #[.agg #[.int .u8 a0_0, .int .u8 a0_1, .int .u8 a0_2, .int .u16 a0_3]] w fun e w' => e = .returned (.bool true) ∧ Below w.heap.size w w' := by
  obtain ⟨n0, rfl, h0⟩ := wf_u8f w0
  obtain ⟨n1, rfl, h1⟩ := wf_u8f w1
  obtain ⟨n2, rfl, h2⟩ := wf_u8f w2
  obtain ⟨n3, rfl, h3⟩ := wf_u16f w3
  exact found_walk n0 n1 n2 n3 w h0 h1 h2 h3
end Go.Proofs.Ytjhapibelhakdaa.Pure
