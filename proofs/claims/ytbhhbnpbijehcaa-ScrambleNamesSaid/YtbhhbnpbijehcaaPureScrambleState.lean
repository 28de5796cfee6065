/- ScrambleState: the next bits are the state's; no state but the first comes twice on the way round. -/
import Derived.Test.YtbhhbnpbijehcaaFogx0
import Derived.Test.YtbhhbnpbijehcaaFogx1
import Derived.Test.YtbhhbnpbijehcaaPureScrambleLinear
namespace Go.Proofs.Ytbhhbnpbijehcaa.Pure
open Go.RowKit Go.Proofs.Ytbhhbnpbijehcaa.Fog Go.Proofs.YtbhhbnpbijehcaaW.PrintWords Go.Proofs.YtbhhbnpbijehcaaW.PrintLast Go.Proofs.YtbhhbnpbijehcaaW.PrintMore Go.Proofs.Ytbhhbnpbijehcaa.Kit
set_option linter.unusedVariables false
set_option linter.unusedSimpArgs false
theorem row_bit (W t s i : Nat) (hW : 2 ≤ W) (hs : s < 2 ^ W) (hi : i < W) : rdb (Go.Scr.rowV W t s W) i = s.testBit i := by
  unfold rdb
  rw [List.getD_eq_getElem?_getD, Go.Scr.rowV_get _ _ _ _ _ hi, Option.getD_some]
  unfold Go.Scr.low
  rw [Go.Scr.iter_bit W t hW i s 0 hs (by omega), Nat.add_zero]
theorem per_cases (W t s : Nat) (P1 P2 : Int) (h : perV W t s 3000 = (P1, P2)) :
    (P1 = 0 ∧ P2 = 6 ∧ ∀ k, 1 ≤ k → k ≤ 3000 → Go.Scr.iter (Go.Scr.step W t) k s ≠ s) ∨ (∃ p : Nat, 1 ≤ p ∧ p ≤ 3000 ∧ P1 = (p : Int) ∧ P2 = 0 ∧ ∀ k, 1 ≤ k → (Go.Scr.iter (Go.Scr.step W t) k s = s ↔ k % p = 0)) := by
  unfold perV at h
  cases hf : Go.Scr.firstBack W t s 3000 with
  | none =>
    rw [hf] at h
    simp only [Prod.mk.injEq] at h
    exact .inl ⟨h.1.symm, h.2.symm, (Go.Scr.firstBack_none W t s 3000).1 hf⟩
  | some p =>
    rw [hf] at h
    simp only [Prod.mk.injEq] at h
    obtain ⟨h1, h2, _⟩ := Go.Scr.firstBack_some W t s 3000 p hf
    exact .inr ⟨p, h1, h2, h.1.symm, h.2.symm, fun k hk => Go.Scr.period_iff W t s p k hf hk⟩
theorem iter_ne (W t s k : Nat) (h : TakesN W t s) : Go.Scr.iter (Go.Scr.step W t) k s ≠ 0 := by
  have := Go.Scr.jump_ne W t s (k : Int) (Takes.fit h) (by have := h.sl; rwa [Int.toNat_natCast] at this) h.ne
  rwa [Go.Scr.jump_nat] at this
set_option maxHeartbeats 8000000 in
set_option maxRecDepth 100000 in
theorem state_walk (a0 : Int) (t0 s0 : Nat) (w : World) (ht0 : t0 < 4294967296) (hs0 : s0 < 4294967296) :
    Calls Try.prog 5 #[.int .i64 a0, .int .u32 (t0 : Int), .int .u32 (s0 : Int)] w fun e w' => e = .returned (.bool true) ∧ Below w.heap.size w w' := by
  have HF1 := Aside0.mk (fit_f a0 t0 s0 ht0 hs0)
  have HONE := Aside0.mk (show ∀ w, Calls Try.prog 11 #[.int .i64 a0, .int .u32 (t0 : Int), .int .u32 (s0 : Int)] w fun e w' => ∃ b, e = .returned (.pointer (some ⟨b, 0, none⟩)) ∧ w.heap.size ≤ b ∧ b < w'.heap.size ∧ Reg w' b (fitW a0) (fitT a0 t0) (fitS a0 s0) ∧ Below w.heap.size w w' from fun w => one_calls a0 t0 s0 w ht0 hs0)
  have hk1 := fit_takes a0 t0 s0
  obtain ⟨W, hW⟩ : ∃ W, fitW a0 = W := ⟨_, rfl⟩
  obtain ⟨T, hT⟩ : ∃ T, fitT a0 t0 = T := ⟨_, rfl⟩
  obtain ⟨S, hS⟩ : ∃ S, fitS a0 s0 = S := ⟨_, rfl⟩
  rw [hW, hT, hS] at HF1 hk1 HONE
  have HK1 := Aside0.mk hk1
  have hWr : 2 ≤ W ∧ W ≤ 32 := ⟨by have := hk1.lo; omega, by have := hk1.hi; omega⟩
  have hSl : S < 2 ^ W := by have := hk1.sl; rwa [Int.toNat_natCast] at this
  have hTl : T < 2 ^ W := by have := hk1.tl; rwa [Int.toNat_natCast] at this
  have h32 : 2 ^ W ≤ 2 ^ 32 := Nat.pow_le_pow_right (by decide) hWr.2
  have HROW := Aside0.mk (show ∀ b w, Reg w b W T S → Calls Try.prog 18 #[.pointer (some ⟨b, 0, none⟩), .int .i64 (W : Int)] w fun e w' => ∃ v, e = .returned (.tuple #[v, .int .i64 0]) ∧ Kd.R Kd.bool 4 w' w.heap.size (fun _ => True) v (Go.Scr.rowV W T S W) ∧ Reg w' b W T (Go.Scr.iter (Go.Scr.step W T) W S) ∧ Moved b w w' from fun b w h => row_calls b W T S W w h hWr hSl (by omega) (by omega))
  have HPC := Aside0.mk (show ∀ b w, Reg w b W T S → Calls Try.prog 20 #[.pointer (some ⟨b, 0, none⟩), .int .i64 3000] w fun e w' => e = .returned (.tuple #[.int .i64 (perV W T S 3000).1, .int .i64 (perV W T S 3000).2]) ∧ Below w.heap.size w w' from fun b w h => period_calls b W T S 3000 w h hWr hSl (by omega) (by decide) (by decide))
  have HBIT := Aside0.mk (show ∀ i, i < W → rdb (Go.Scr.rowV W T S W) i = S.testBit i from fun i hi => row_bit W T S i hWr.1 hSl hi)
  have HL := Aside0.mk (Go.Scr.rowV_length W T S W)
  obtain ⟨P1, P2, hP⟩ : ∃ P1 P2, perV W T S 3000 = (P1, P2) := ⟨_, _, rfl⟩
  have HPER := Aside0.mk (per_cases W T S P1 P2 hP)
  rw [hP] at HPC
  have HNE := Aside0.mk (fun k => iter_ne W T S k hk1)
  have HLT := Aside0.mk (fun n => step_lt32 (t := T) hWr hSl n)
  have HWR := Aside0.mk hWr
  have HT32 := Aside0.mk (show T < 4294967296 by omega)
  obtain ⟨L, hL⟩ : ∃ l, Go.Scr.rowV W T S W = l := ⟨_, rfl⟩
  rw [hL] at HBIT HL HROW
  clear hk1 hW hT hS hP hL hSl hTl h32 ht0 hs0
  go_enter Try.func5, Try.ntmps5
  go_wp2_with (first
    | (go_at_call 10; (with_reducible refine (works_calls _).mono ?_); rintro e w1 ⟨rfl, hb⟩; have HB1 := Aside0.mk hb; clear hb)
    | (go_at_call 16; (with_reducible refine (foghornlaw16_fit.calls _ _ _ _ _ _ _ HF1.out).mono ?_); rintro e w2 ⟨rfl, ⟨nd, rfl⟩⟩; obtain ⟨w2, hw2⟩ : ∃ w2, w1.drewN nd = w2 := ⟨_, rfl⟩; have HB2 := Aside0.mk (show Below w.heap.size w w2 from hw2 ▸ pw_below_drewN HB1.out nd); rw [hw2]; clear hw2)
    | (go_at_call 11; (with_reducible refine (HONE.out _).mono ?_); rintro e w3 ⟨x, rfl, hxb, hxl, hx, hb⟩; have HX3 := Aside0.mk hx; have HXB := Aside0.mk (Nat.le_trans HB2.out.size hxb); have HB3 := Aside0.mk (below_step HB2.out hb); clear hx hb hxb hxl)
    | (go_at_call 12; (with_reducible refine (state_calls x W T S _ HX3.out).mono ?_); rintro e w' ⟨rfl, hw⟩; subst w')
    | (go_at_call 19; (with_reducible refine (copy_calls x W T S _ HX3.out).mono ?_); rintro e w4 ⟨y, rfl, hyb, hyl, hy, hb⟩; have HY4 := Aside0.mk hy; have HX4 := Aside0.mk (HX3.out.at_below hb); have HXY := Aside0.mk (Nat.ne_of_lt (Nat.lt_of_lt_of_le HX3.out.lt hyb)); have HYB := Aside0.mk (Nat.le_trans HB3.out.size hyb); have HB4 := Aside0.mk (below_step HB3.out hb); clear hy hb hyb hyl)
    | (go_at_call 18; (with_reducible refine (HROW.out x _ HX4.out).mono ?_); rintro e w5 ⟨v5, rfl, hR, hx, hm⟩; obtain ⟨A_L, c_L, rfl⟩ := Kd.R_slice hR; rw [HL.out] at hR; have HR5 := Aside0.mk hR; have HY5 := Aside0.mk (HY4.out.at_moved hm (Ne.symm HXY.out)); have HB5 := Aside0.mk (HB4.out.trans (hm.below HXB.out HB4.out.size)); rw [HL.out]; clear hR hx hm))
  go_loopw [14] (fun i wr => ∃ k : Nat, k ≤ W ∧ i = .int .i64 (k : Int) ∧ Aside0 (∃ m, wr = w5.drewN m)) (fun i _ => W - (intOf i).toNat)
  case atStart => exact ⟨0, Nat.zero_le _, rfl, ⟨0, rfl⟩⟩
  case round =>
    obtain ⟨k, hk, rfl, ⟨m, rfl⟩⟩ := hrel
    by_cases hlt : k < W
    · have q1 : (k : Int) < (W : Int) := by omega
      obtain ⟨gs, hAS, hcs⟩ := row_at HR5.out k hlt
      have hb : rdb L k = S.testBit k := HBIT.out k hlt
      have hbit := bitk_nat S k
      rw [hb] at hcs
      obtain ⟨p, hp⟩ : ∃ p, S.testBit k = p := ⟨_, rfl⟩
      rw [hp] at hcs hbit
      have hmin : min k 32 = k := by have := HWR.out; omega
      subst hAS
      clear hp hb
      cases p
      all_goals
        go_wp2
        go_quiet (fail)
        go_wp2
        go_roundw
        case rel => exact ⟨k + 1, by omega, by go_num, ⟨m + nq, rfl⟩⟩
        case measure => simp [intOf]; omega
    · have hkW : k = W := by omega
      subst k
      have HYD := Aside0.mk (HY5.out.drew (n := m))
      have HBD := Aside0.mk (pw_below_drewN HB5.out m)
      obtain ⟨wd, hwd⟩ : ∃ wd, w5.drewN m = wd := ⟨_, rfl⟩
      rw [hwd] at HYD HBD ⊢
      clear hwd
      go_wp2_with (go_at_call 20; (with_reducible refine (HPC.out y _ HYD.out).mono ?_); rintro e w6 ⟨rfl, hb⟩; have HY6 := Aside0.mk (HYD.out.at_below hb); have HB6 := Aside0.mk (below_step HBD.out hb); clear hb)
      rcases HPER.out with ⟨rfl, rfl, hno⟩ | ⟨p, hp1, hp2, rfl, rfl, hiff⟩
      · clear HPER
        go_loopw [16] (fun i wr => ∃ k : Nat, k ≤ 2999 ∧ i = .int .i64 ((k : Int) + 1) ∧ Aside0 (Reg wr y W T (Go.Scr.iter (Go.Scr.step W T) k S)) ∧ Aside0 (Below w.heap.size w wr)) (fun i _ => 3000 - (intOf i).toNat)
        case atStart => exact ⟨0, by omega, rfl, HY6, HB6⟩
        case round =>
          obtain ⟨k, hk, rfl, HYK, HBK⟩ := hrel
          by_cases hlt : k < 2999
          · have q1 : (k : Int) + 1 < 3000 := by omega
            have hlk := HLT.out k
            have hsu : Go.Scr.iter (Go.Scr.step W T) (k + 1) S = Go.Scr.step W T (Go.Scr.iter (Go.Scr.step W T) k S) := Go.Scr.iter_succ _ _ _
            have hn0 := HNE.out (k + 1)
            have hfact : Go.Scr.iter (Go.Scr.step W T) (k + 1) S ≠ S := hno (k + 1) (by omega) (by omega)
            obtain ⟨C, hC⟩ : ∃ C, Go.Scr.iter (Go.Scr.step W T) k S = C := ⟨_, rfl⟩
            obtain ⟨D, hD⟩ : ∃ D, Go.Scr.iter (Go.Scr.step W T) (k + 1) S = D := ⟨_, rfl⟩
            rw [hC] at HYK hlk hsu
            rw [hD] at hsu hn0 hfact
            have HD := Aside0.mk hD
            have HSU := Aside0.mk hsu.symm
            have HLK := Aside0.mk hlk
            have hD0 : ((D : Int) == 0) = false := by simp; omega
            have hD1 : ¬ (D : Int) = 0 := by omega
            clear hC hD hsu hlk
            have hDS : ((D : Int) == (S : Int)) = false := by simp; omega
            have hDS2 : ¬ (D : Int) = (S : Int) := by omega
            clear hfact hn0
            go_wp2_with (first
              | (go_at_call 13; (with_reducible refine (next_low y W T C _ HYK.out HWR.out HLK.out HT32.out).mono ?_); rintro e w7 ⟨rfl, hr, hm⟩; rw [HSU.out] at hr; have HY7 := Aside0.mk hr; have HB7 := Aside0.mk (HBK.out.trans (hm.below HYB.out HBK.out.size)); clear hr hm)
              | (go_at_call 12; (with_reducible refine (state_calls y W T D _ HY7.out).mono ?_); rintro e w' ⟨rfl, hw⟩; subst w'))
            go_roundw
            case rel => exact ⟨k + 1, by omega, by go_num, ⟨by rw [HD.out]; exact HY7.out⟩, HB7⟩
            case measure => simp [intOf]; omega
          · have hk9 : k = 2999 := by omega
            subst k
            go_wp2
            go_ret
            exact ⟨rfl, HBK.out⟩
      · clear HPER
        go_loopw [16] (fun i wr => ∃ k : Nat, k ≤ 2999 ∧ i = .int .i64 ((k : Int) + 1) ∧ Aside0 (Reg wr y W T (Go.Scr.iter (Go.Scr.step W T) k S)) ∧ Aside0 (Below w.heap.size w wr)) (fun i _ => 3000 - (intOf i).toNat)
        case atStart => exact ⟨0, by omega, rfl, HY6, HB6⟩
        case round =>
          obtain ⟨k, hk, rfl, HYK, HBK⟩ := hrel
          by_cases hlt : k < 2999
          · have q1 : (k : Int) + 1 < 3000 := by omega
            have hlk := HLT.out k
            have hsu : Go.Scr.iter (Go.Scr.step W T) (k + 1) S = Go.Scr.step W T (Go.Scr.iter (Go.Scr.step W T) k S) := Go.Scr.iter_succ _ _ _
            have hn0 := HNE.out (k + 1)
            have hfact : Go.Scr.iter (Go.Scr.step W T) (k + 1) S = S ↔ (k + 1) % p = 0 := hiff (k + 1) (by omega)
            have hrem : Int.tmod ((k : Int) + 1) (p : Int) = (((k + 1) % p : Nat) : Int) := by
              rw [show (k : Int) + 1 = ((k + 1 : Nat) : Int) by omega, Int.tmod_eq_emod_of_nonneg (by omega)]
              simp
            have hrem2 : ((k : Int) + 1) % (p : Int) = (((k + 1) % p : Nat) : Int) := by
              rw [show (k : Int) + 1 = ((k + 1 : Nat) : Int) by omega]
              simp
            obtain ⟨C, hC⟩ : ∃ C, Go.Scr.iter (Go.Scr.step W T) k S = C := ⟨_, rfl⟩
            obtain ⟨D, hD⟩ : ∃ D, Go.Scr.iter (Go.Scr.step W T) (k + 1) S = D := ⟨_, rfl⟩
            rw [hC] at HYK hlk hsu
            rw [hD] at hsu hn0 hfact
            have HD := Aside0.mk hD
            have HSU := Aside0.mk hsu.symm
            have HLK := Aside0.mk hlk
            have hD0 : ((D : Int) == 0) = false := by simp; omega
            have hD1 : ¬ (D : Int) = 0 := by omega
            clear hC hD hsu hlk
            obtain ⟨r, hr⟩ : ∃ r, (k + 1) % p = r := ⟨_, rfl⟩
            rw [hr] at hfact hrem hrem2
            have hpp : ¬ (p : Int) = 0 := by omega
            have hpp2 : ((p : Int) == 0) = false := by simp; omega
            clear hr
            by_cases hr0 : r = 0
            · subst hr0
              have hDS0 : D = S := hfact.2 rfl
              have HDS := Aside0.mk hDS0
              have hDS : ((D : Int) == (S : Int)) = true := by simp [hDS0]
              have hDS2 : (D : Int) = (S : Int) := by omega
              clear hfact hn0 hDS0
              go_wp2_with (first
                | (go_at_call 13; (with_reducible refine (next_low y W T C _ HYK.out HWR.out HLK.out HT32.out).mono ?_); rintro e w7 ⟨rfl, hr, hm⟩; rw [HSU.out] at hr; have HY7 := Aside0.mk hr; have HB7 := Aside0.mk (HBK.out.trans (hm.below HYB.out HBK.out.size)); clear hr hm)
                | (go_at_call 12; (with_reducible refine (state_calls y W T D _ HY7.out).mono ?_); rintro e w' ⟨rfl, hw⟩; subst w'))
              go_roundw
              case rel => exact ⟨k + 1, by omega, by go_num, ⟨by rw [HD.out]; exact HY7.out⟩, HB7⟩
              case measure => simp [intOf]; omega
            · have hDS0 : ¬ D = S := fun e => hr0 (hfact.1 e)
              have hDS : ((D : Int) == (S : Int)) = false := by simp; omega
              have hDS2 : ¬ (D : Int) = (S : Int) := by omega
              have hr1 : ((r : Int) == 0) = false := by simp; omega
              have hr2 : ¬ (r : Int) = 0 := by omega
              clear hfact hn0 hDS0
              go_wp2_with (first
                | (go_at_call 13; (with_reducible refine (next_low y W T C _ HYK.out HWR.out HLK.out HT32.out).mono ?_); rintro e w7 ⟨rfl, hr, hm⟩; rw [HSU.out] at hr; have HY7 := Aside0.mk hr; have HB7 := Aside0.mk (HBK.out.trans (hm.below HYB.out HBK.out.size)); clear hr hm)
                | (go_at_call 12; (with_reducible refine (state_calls y W T D _ HY7.out).mono ?_); rintro e w' ⟨rfl, hw⟩; subst w'))
              go_roundw
              case rel => exact ⟨k + 1, by omega, by go_num, ⟨by rw [HD.out]; exact HY7.out⟩, HB7⟩
              case measure => simp [intOf]; omega
          · have hk9 : k = 2999 := by omega
            subst k
            go_wp2
            go_ret
            exact ⟨rfl, HBK.out⟩
theorem ScrambleState_walk (a0 a1 a2 : Int) (w : World) (w0 : (Lit.int .i64 a0).wf = true) (w1 : (Lit.int .u32 a1).wf = true) (w2 : (Lit.int .u32 a2).wf = true) :
    Calls Try.prog 5 #[.int .i64 a0, .int .u32 a1, .int .u32 a2] w fun e w' => e = .returned (.bool true) ∧ Below w.heap.size w w' := by
  obtain ⟨n1, rfl, h1⟩ := wf_u32 w1
  obtain ⟨n2, rfl, h2⟩ := wf_u32 w2
  exact state_walk a0 n1 n2 w h1 h2
end Go.Proofs.Ytbhhbnpbijehcaa.Pure
