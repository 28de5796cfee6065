/- ScrambleJumps: jumps are steps, add up, and lead back. -/
import Derived.Test.YtbhhbnpbijehcaaFogx0
import Derived.Test.YtbhhbnpbijehcaaPureScrambleState
namespace Go.Proofs.Ytbhhbnpbijehcaa.Pure
open Go.RowKit Go.Proofs.Ytbhhbnpbijehcaa.Fog Go.Proofs.YtbhhbnpbijehcaaW.PrintWords Go.Proofs.YtbhhbnpbijehcaaW.PrintLast Go.Proofs.YtbhhbnpbijehcaaW.PrintMore Go.Proofs.Ytbhhbnpbijehcaa.Kit
set_option linter.unusedVariables false
set_option linter.unusedSimpArgs false
def JumpC (W T : Nat) (n : Int) (s s' : Nat) : Prop := ∀ b w, Reg w b W T s → Calls Try.prog 14 #[.pointer (some ⟨b, 0, none⟩), .int .i64 n] w fun e w' => e = .returned (.int .i64 0) ∧ Reg w' b W T s' ∧ Moved b w w'
theorem JumpC.at {W T s s' : Nat} {n : Int} (h : JumpC W T n s s') (b : Nat) (w : World) (hr : Reg w b W T s) : Calls Try.prog 14 #[.pointer (some ⟨b, 0, none⟩), .int .i64 n] w fun e w' => e = .returned (.int .i64 0) ∧ Reg w' b W T s' ∧ Moved b w w' := h b w hr
theorem jumpC {W T s : Nat} (n : Int) (hW : 2 ≤ W ∧ W ≤ 32) (hs : s < 2 ^ W) (ht : T < 4294967296) (hn0 : -9223372036854775808 ≤ n) (hn1 : n ≤ 9223372036854775807) : JumpC W T n s (Go.Scr.jump W T n s) :=
  fun b w h => jump_calls b W T s n w h hW hs ht hn0 hn1
theorem quo4 (a : Int) (h0 : -9223372036854775808 ≤ a) (h1 : a ≤ 9223372036854775807) : -2305843009213693952 ≤ Int.tdiv a 4 ∧ Int.tdiv a 4 ≤ 2305843009213693951 := by
  rcases Int.le_total 0 a with h | h
  · rw [Int.tdiv_eq_ediv_of_nonneg h]; omega
  · have e : Int.tdiv a 4 = -(Int.tdiv (-a) 4) := by rw [Int.neg_tdiv, Int.neg_neg]
    rw [e, Int.tdiv_eq_ediv_of_nonneg (by omega)]; omega
set_option maxHeartbeats 16000000 in
set_option maxRecDepth 100000 in
theorem jumps_walk (a0 : Int) (t0 s0 n : Nat) (a b : Int) (w : World) (ht0 : t0 < 4294967296) (hs0 : s0 < 4294967296) (hn : n < 256) (ha0 : -9223372036854775808 ≤ a) (ha1 : a ≤ 9223372036854775807) (hb0 : -9223372036854775808 ≤ b) (hb1 : b ≤ 9223372036854775807) :
    Calls Try.prog 3 #[.int .i64 a0, .int .u32 (t0 : Int), .int .u32 (s0 : Int), .int .u8 (n : Int), .int .i64 a, .int .i64 b] w fun e w' => e = .returned (.bool true) ∧ Below w.heap.size w w' := by
  have HONE := Aside0.mk (show ∀ w, Calls Try.prog 11 #[.int .i64 a0, .int .u32 (t0 : Int), .int .u32 (s0 : Int)] w fun e w' => ∃ b, e = .returned (.pointer (some ⟨b, 0, none⟩)) ∧ w.heap.size ≤ b ∧ b < w'.heap.size ∧ Reg w' b (fitW a0) (fitT a0 t0) (fitS a0 s0) ∧ Below w.heap.size w w' from fun w => one_calls a0 t0 s0 w ht0 hs0)
  have hk1 := fit_takes a0 t0 s0
  obtain ⟨W, hW⟩ : ∃ W, fitW a0 = W := ⟨_, rfl⟩
  obtain ⟨T, hT⟩ : ∃ T, fitT a0 t0 = T := ⟨_, rfl⟩
  obtain ⟨S, hS⟩ : ∃ S, fitS a0 s0 = S := ⟨_, rfl⟩
  rw [hW, hT, hS] at hk1 HONE
  have hF : Go.Scr.Fit W T := Takes.fit hk1
  have hWr : 2 ≤ W ∧ W ≤ 32 := ⟨hF.lo, hF.hi⟩
  have hSl : S < 2 ^ W := by have := hk1.sl; rwa [Int.toNat_natCast] at this
  have hTl : T < 2 ^ W := by have := hk1.tl; rwa [Int.toNat_natCast] at this
  have h32 : 2 ^ W ≤ 2 ^ 32 := Nat.pow_le_pow_right (by decide) hWr.2
  have hT32 : T < 4294967296 := by omega
  obtain ⟨A, hA⟩ : ∃ A, Int.tdiv a 4 = A := ⟨_, rfl⟩
  obtain ⟨B, hB⟩ : ∃ B, Int.tdiv b 4 = B := ⟨_, rfl⟩
  have hAr : -2305843009213693952 ≤ A ∧ A ≤ 2305843009213693951 := hA ▸ quo4 a ha0 ha1
  have hBr : -2305843009213693952 ≤ B ∧ B ≤ 2305843009213693951 := hB ▸ quo4 b hb0 hb1
  have hAw : IntKind.i64.wrap A = A := by rw [IntKind.wrap_i64]; omega
  have hBw : IntKind.i64.wrap B = B := by rw [IntKind.wrap_i64]; omega
  have hABw : IntKind.i64.wrap (A + B) = A + B := by rw [IntKind.wrap_i64]; omega
  have hNw : IntKind.i64.wrap (-(A + B)) = -(A + B) := by rw [IntKind.wrap_i64]; omega
  have hn8 : IntKind.i64.wrap (n : Int) = (n : Int) := by rw [IntKind.wrap_i64]; omega
  have hnn : IntKind.i64.wrap (-(n : Int)) = -(n : Int) := by rw [IntKind.wrap_i64]; omega
  have lt := fun k => Go.Scr.jump_lt W T S k hF hSl
  have JN := Aside0.mk (show JumpC W T (n : Int) S (Go.Scr.iter (Go.Scr.step W T) n S) from Go.Scr.jump_nat W T S n ▸ jumpC (n : Int) hWr hSl hT32 (by omega) (by omega))
  have JM := Aside0.mk (show JumpC W T (-(n : Int)) (Go.Scr.iter (Go.Scr.step W T) n S) S from by
    have h := jumpC (-(n : Int)) hWr (lt (n : Int)) hT32 (by omega) (by omega)
    rwa [Go.Scr.jump_neg W T S _ hF hSl, Go.Scr.jump_nat] at h)
  have JA := Aside0.mk (show JumpC W T A S (Go.Scr.jump W T A S) from jumpC A hWr hSl hT32 (by omega) (by omega))
  have JB := Aside0.mk (show JumpC W T B (Go.Scr.jump W T A S) (Go.Scr.jump W T (A + B) S) from Go.Scr.jump_add W T S A B hF hSl ▸ jumpC B hWr (lt A) hT32 (by omega) (by omega))
  have JX := Aside0.mk (show JumpC W T (A + B) S (Go.Scr.jump W T (A + B) S) from jumpC (A + B) hWr hSl hT32 (by omega) (by omega))
  have JZ := Aside0.mk (show JumpC W T (-(A + B)) (Go.Scr.jump W T (A + B) S) S from by
    have h := jumpC (-(A + B)) hWr (lt (A + B)) hT32 (by omega) (by omega)
    rwa [Go.Scr.jump_neg W T S _ hF hSl] at h)
  have HBACK := Aside0.mk (show ∀ j, Go.Scr.back W T (Go.Scr.iter (Go.Scr.step W T) (j + 1) S) = Go.Scr.iter (Go.Scr.step W T) j S from fun j => by
    rw [Go.Scr.iter_succ, Go.Scr.back_step W T _ hF (Go.Scr.iter_lt (fun a ha => Go.Scr.step_lt W T a hWr.1 ha) j S hSl)])
  have HLW := Aside0.mk (fun j => Go.Scr.iter_lt (fun a ha => Go.Scr.step_lt W T a hWr.1 ha) j S hSl)
  have HNE := Aside0.mk (fun k => iter_ne W T S k hk1)
  have HLT := Aside0.mk (fun n => step_lt32 (t := T) hWr hSl n)
  have HWR := Aside0.mk hWr
  have HT32 := Aside0.mk hT32
  obtain ⟨SA, hSA⟩ : ∃ l, Go.Scr.jump W T A S = l := ⟨_, rfl⟩
  obtain ⟨SAB, hSAB⟩ : ∃ l, Go.Scr.jump W T (A + B) S = l := ⟨_, rfl⟩
  rw [hSA] at JA JB
  rw [hSAB] at JB JX JZ
  have HA := Aside0.mk hA
  have HAR := Aside0.mk hAr
  have HBR := Aside0.mk hBr
  clear hk1 hW hT hS hF hSl hTl h32 ht0 hs0 lt hSA hSAB hAr hBr hT32
  go_enter Try.func3, Try.ntmps3
  go_wp2_with (first
    | (go_at_call 10; (with_reducible refine (works_calls _).mono ?_); rintro e w1 ⟨rfl, hb⟩; have HB1 := Aside0.mk hb; clear hb)
    | (guard_hyp HB1; go_at_call 11; (with_reducible refine (HONE.out w1).mono ?_); rintro e w2 ⟨x, rfl, hxb, hxl, hx, hb⟩; have HX2 := Aside0.mk hx; have HXB := Aside0.mk (Nat.le_trans HB1.out.size hxb); have HB2 := Aside0.mk (below_step HB1.out hb); clear hx hb hxb hxl)
    | (go_at_call 11; (with_reducible refine (HONE.out w2).mono ?_); rintro e w3 ⟨y, rfl, hyb, hyl, hy, hb⟩; have HY3 := Aside0.mk hy; have HX3 := Aside0.mk (HX2.out.at_below hb); have HXY := Aside0.mk (Nat.ne_of_lt (Nat.lt_of_lt_of_le HX2.out.lt hyb)); have HYB := Aside0.mk (Nat.le_trans HB2.out.size hyb); have HB3 := Aside0.mk (below_step HB2.out hb); clear hy hb hyb hyl)
    | (go_at_call 12; (with_reducible refine (state_calls x W T S _ HX3.out).mono ?_); rintro e w' ⟨rfl, hw⟩; subst w'))
  obtain ⟨bs, hbs⟩ : ∃ bs, w3.heap.size = bs := ⟨_, rfl⟩
  have HXS := Aside0.mk (show x < bs from hbs ▸ HX3.out.lt)
  have HYS := Aside0.mk (show y < bs from hbs ▸ HY3.out.lt)
  have HBS := Aside0.mk (show bs ≤ w3.heap.size from Nat.le_of_eq hbs.symm)
  have HWB := Aside0.mk (show w.heap.size ≤ bs from hbs ▸ HB3.out.size)
  clear hbs
  go_loopw [16, 17] (fun v i wr => ∃ k : Nat, k ≤ n ∧ i = .int .i64 (k : Int) ∧ Aside0 (Kd.R Kd.bool 4 wr bs (fun _ => True) v (Go.Scr.rowV W T S k)) ∧ Aside0 (Reg wr x W T (Go.Scr.iter (Go.Scr.step W T) k S)) ∧ Aside0 (Reg wr y W T S) ∧ Aside0 (bs ≤ wr.heap.size) ∧ Aside0 (Below w.heap.size w wr)) (fun _ i _ => n - (intOf i).toNat)
  case atStart => exact ⟨0, Nat.zero_le _, rfl, ⟨Kd.R_nil _ _ _ _ _⟩, HX3, HY3, HBS, HB3⟩
  case round =>
    obtain ⟨k, hk, rfl, HR, HXK, HYK, HSZ, HBK⟩ := hrel
    by_cases hlt : k < n
    · have q1 : (k : Int) < (n : Int) := by omega
      have hlk := HLT.out k
      have hsu : Go.Scr.iter (Go.Scr.step W T) (k + 1) S = Go.Scr.step W T (Go.Scr.iter (Go.Scr.step W T) k S) := Go.Scr.iter_succ _ _ _
      have hn0 := HNE.out (k + 1)
      have hrs := Go.Scr.rowV_succ W T S k
      obtain ⟨C, hC⟩ : ∃ C, Go.Scr.iter (Go.Scr.step W T) k S = C := ⟨_, rfl⟩
      obtain ⟨D, hD⟩ : ∃ D, Go.Scr.iter (Go.Scr.step W T) (k + 1) S = D := ⟨_, rfl⟩
      have hll := Go.Scr.rowV_length W T S k
      obtain ⟨R, hR⟩ : ∃ R, Go.Scr.rowV W T S k = R := ⟨_, rfl⟩
      rw [hC] at HXK hlk hsu hrs
      rw [hR] at HR hrs hll
      rw [hD] at hsu hn0
      have HD := Aside0.mk hD
      have HSU := Aside0.mk hsu.symm
      have HLK := Aside0.mk hlk
      have HRS := Aside0.mk hrs
      have HLL := Aside0.mk hll
      have hD0 : ((D : Int) == 0) = false := by simp; omega
      have hD1 : ¬ (D : Int) = 0 := by omega
      clear hC hD hsu hlk hR hrs hn0 hll
      go_wp2_with (first
        | (go_at_call 13; (with_reducible refine (next_low x W T C _ HXK.out HWR.out HLK.out HT32.out).mono ?_); rintro e w7 ⟨rfl, hr, hm⟩; rw [HSU.out] at hr; have HX7 := Aside0.mk hr; have HR7 := Aside0.mk (row_moved' HR.out hm HXS.out); have HY7 := Aside0.mk (HYK.out.at_moved hm (Ne.symm HXY.out)); have HSZ7 := Aside0.mk (Nat.le_trans HSZ.out hm.size); have HB7 := Aside0.mk (HBK.out.trans (hm.below HXB.out HBK.out.size)); clear hr hm)
        | (go_at_call 12; (with_reducible refine (state_calls x W T D _ HX7.out).mono ?_); rintro e w' ⟨rfl, hw⟩; subst w')
        | ((with_reducible refine gate_builtin (b := .append) (xs := #[.tmp 59, .tmp 61]) rfl ?_); (at_builtin; refine Kd.R_append Kd.bool (w0 := w7) bs rfl (.tmp 59) (.tmp 61) 27 4 (.bool false) 1 rfl Try.underlying27 info4 rfl (by decide) (by omega) u16 R (Go.Scr.low C) [.bool (Go.Scr.low C)] (fun _ => True) (fun _ => False) rfl rfl ?aP (fun _ hk => hk.elim) ?aF ?aO ?aB ?aS ?aL ?_; (case aP => exact rfl); (case aB => exact Below.refl _ _); (case aF => exact (fun _ _ => trivial)); (case aO => exact HR7.out); (case aS => exact HSZ7.out); (case aL => have := HLL.out; omega); intro v8 w8 ho hb_ hg hat; have HO8 := Aside0.mk ho; have HX8 := Aside0.mk (show Reg w8 x W T D from (hb_.block x HXS.out).trans HX7.out); have HY8 := Aside0.mk (show Reg w8 y W T S from (hb_.block y HYS.out).trans HY7.out); have HSZ8 := Aside0.mk (Nat.le_trans HSZ7.out hb_.size); have HB8 := Aside0.mk (HB7.out.trans (hb_.mono HWB.out)); clear ho hb_ hg hat)))
      go_roundw
      case rel => exact ⟨k + 1, by omega, by go_num, ⟨by rw [HRS.out]; exact HO8.out⟩, ⟨by rw [HD.out]; exact HX8.out⟩, HY8, HSZ8, HB8⟩
      case measure => simp [intOf]; omega
    · have hkn : k = n := by omega
      subst k
      obtain ⟨A_R, c_R, hv⟩ := Kd.R_slice HR.out
      subst hv
      have HRL := Aside0.mk (Go.Scr.rowV_length W T S n)
      rw [HRL.out] at HR ⊢
      obtain ⟨wo, rfl⟩ : ∃ wo : World, wo = wr := ⟨_, rfl⟩
      obtain ⟨FN, hFN⟩ : ∃ l, Go.Scr.iter (Go.Scr.step W T) n S = l := ⟨_, rfl⟩
      have HFN := Aside0.mk hFN
      rw [hFN] at JN JM HXK
      clear hFN
      go_wp2_with (first
        | (go_at_call 14; (with_reducible refine (JN.out.at y _ HYK.out).mono ?_); rintro e w9 ⟨rfl, hr, hm⟩; have HY9 := Aside0.mk hr; have HX9 := Aside0.mk (HXK.out.at_moved hm HXY.out); have HR9 := Aside0.mk (row_moved' HR.out hm HYS.out); have HB9 := Aside0.mk (HBK.out.trans (hm.below HYB.out HBK.out.size)); clear hr hm)
        | (go_at_call 12; (with_reducible refine (state_calls y W T FN _ HY9.out).mono ?_); rintro e w' ⟨rfl, hw⟩; subst w')
        | (go_at_call 12; (with_reducible refine (state_calls x W T FN _ HX9.out).mono ?_); rintro e w' ⟨rfl, hw⟩; subst w'))
      rw [← HFN.out] at HX9
      go_loopw [20] (fun i wr => ∃ k : Nat, k ≤ n ∧ i = .int .i64 ((k : Int) - 1) ∧ Aside0 (Kd.R Kd.bool 4 wr bs (fun _ => True) (.slice A_R n c_R) (Go.Scr.rowV W T S n)) ∧ Aside0 (Reg wr x W T (Go.Scr.iter (Go.Scr.step W T) k S)) ∧ Aside0 (Reg wr y W T FN) ∧ Aside0 (Below w.heap.size w wr)) (fun i _ => ((intOf i) + 1).toNat)
      case atStart => exact ⟨n, Nat.le_refl _, by go_num, HR9, HX9, HY9, HB9⟩
      case round =>
        obtain ⟨k, hk, rfl, HRK, HXK2, HYK2, HBK2⟩ := hrel
        by_cases h0 : k = 0
        · subst h0
          have HX0 := Aside0.mk (show Reg wr x W T S from HXK2.out)
          clear HXK2
          go_wp2_with (first
            | (go_at_call 14; (with_reducible refine (JM.out.at y _ HYK2.out).mono ?_); rintro e w10 ⟨rfl, hr, hm⟩; have HY10 := Aside0.mk hr; have HX10 := Aside0.mk (HX0.out.at_moved hm HXY.out); have HB10 := Aside0.mk (HBK2.out.trans (hm.below HYB.out HBK2.out.size)); clear hr hm)
            | (go_at_call 14; (with_reducible refine (JA.out.at y _ HY10.out).mono ?_); rintro e w11 ⟨rfl, hr, hm⟩; have HY11 := Aside0.mk hr; have HX11 := Aside0.mk (HX10.out.at_moved hm HXY.out); have HB11 := Aside0.mk (HB10.out.trans (hm.below HYB.out HB10.out.size)); clear hr hm)
            | (go_at_call 14; (with_reducible refine (JB.out.at y _ HY11.out).mono ?_); rintro e w12 ⟨rfl, hr, hm⟩; have HY12 := Aside0.mk hr; have HX12 := Aside0.mk (HX11.out.at_moved hm HXY.out); have HB12 := Aside0.mk (HB11.out.trans (hm.below HYB.out HB11.out.size)); clear hr hm)
            | (go_at_call 12; (with_reducible refine (state_calls x W T S _ HX12.out).mono ?_); rintro e w' ⟨rfl, hw⟩; subst w')
            | (go_at_call 14; (with_reducible refine (JX.out.at x _ HX12.out).mono ?_); rintro e w13 ⟨rfl, hr, hm⟩; have HX13 := Aside0.mk hr; have HY13 := Aside0.mk (HY12.out.at_moved hm (Ne.symm HXY.out)); have HB13 := Aside0.mk (HB12.out.trans (hm.below HXB.out HB12.out.size)); clear hr hm)
            | (go_at_call 12; (with_reducible refine (state_calls x W T SAB _ HX13.out).mono ?_); rintro e w' ⟨rfl, hw⟩; subst w')
            | (go_at_call 12; (with_reducible refine (state_calls y W T SAB _ HY13.out).mono ?_); rintro e w' ⟨rfl, hw⟩; subst w')
            | (go_at_call 14; (with_reducible refine (JZ.out.at y _ HY13.out).mono ?_); rintro e w14 ⟨rfl, hr, hm⟩; have HY14 := Aside0.mk hr; have HB14 := Aside0.mk (HB13.out.trans (hm.below HYB.out HB13.out.size)); clear hr hm)
            | (go_at_call 12; (with_reducible refine (state_calls y W T S _ HY14.out).mono ?_); rintro e w' ⟨rfl, hw⟩; subst w'))
          go_ret
          exact ⟨rfl, HB14.out⟩
        · obtain ⟨j, rfl⟩ : ∃ j, k = j + 1 := ⟨k - 1, by omega⟩
          have hjl : j < n := by omega
          have hjj : ((j + 1 : Nat) : Int) - 1 = (j : Int) := by omega
          have hbk := HBACK.out j
          have hlw := HLW.out (j + 1)
          obtain ⟨C, hC⟩ : ∃ C, Go.Scr.iter (Go.Scr.step W T) (j + 1) S = C := ⟨_, rfl⟩
          obtain ⟨D, hD⟩ : ∃ D, Go.Scr.iter (Go.Scr.step W T) j S = D := ⟨_, rfl⟩
          rw [hC] at HXK2 hbk hlw
          rw [hD] at hbk
          have HBK3 := Aside0.mk hbk
          have HLWC := Aside0.mk hlw
          have HDD := Aside0.mk hD
          have hrb : rdb (Go.Scr.rowV W T S n) j = Go.Scr.low D := by
            unfold rdb
            rw [List.getD_eq_getElem?_getD, Go.Scr.rowV_get _ _ _ _ _ hjl, Option.getD_some, hD]
          have HRB := Aside0.mk hrb
          clear hbk hlw hC hD hrb
          rw [hjj]
          go_wp2_with (go_at_call 15; (with_reducible refine (back_low x W T C _ HXK2.out HWR.out HLWC.out HT32.out).mono ?_); rintro e w9b ⟨rfl, hr, hm⟩; rw [HBK3.out] at hr ⊢; have HXb := Aside0.mk hr; have HYb := Aside0.mk (HYK2.out.at_moved hm (Ne.symm HXY.out)); have HRb := Aside0.mk (row_moved' HRK.out hm HXS.out); have HBb := Aside0.mk (HBK2.out.trans (hm.below HXB.out HBK2.out.size)); obtain ⟨gs, hAS, hcs⟩ := row_at HRb.out j hjl; rw [HRB.out] at hcs; subst hAS; clear hr hm)
          go_roundw
          case rel => exact ⟨j, by omega, by go_num, HRb, ⟨by rw [HDD.out]; exact HXb.out⟩, HYb, HBb⟩
          case measure => simp [intOf]
theorem ScrambleJumps_walk (a0 a1 a2 a3 a4 a5 : Int) (w : World) (w0 : (Lit.int .i64 a0).wf = true) (w1 : (Lit.int .u32 a1).wf = true) (w2 : (Lit.int .u32 a2).wf = true) (w3 : (Lit.int .u8 a3).wf = true) (w4 : (Lit.int .i64 a4).wf = true) (w5 : (Lit.int .i64 a5).wf = true) :
    Calls Try.prog 3 #[.int .i64 a0, .int .u32 a1, .int .u32 a2, .int .u8 a3, .int .i64 a4, .int .i64 a5] w fun e w' => e = .returned (.bool true) ∧ Below w.heap.size w w' := by
  obtain ⟨n1, rfl, h1⟩ := wf_u32 w1
  obtain ⟨n2, rfl, h2⟩ := wf_u32 w2
  obtain ⟨n3, rfl, h3⟩ := wf_u8 w3
  obtain ⟨h4, h4'⟩ := wf_i64 w4
  obtain ⟨h5, h5'⟩ := wf_i64 w5
  exact jumps_walk a0 n1 n2 n3 a4 a5 w h1 h2 h3 h4 h4' h5 h5'
end Go.Proofs.Ytbhhbnpbijehcaa.Pure
