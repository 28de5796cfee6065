/- ScrambleLinear: rows laid over one another are the row of the states laid over one another. -/
import Derived.Test.YtbhhbnpbijehcaaFogx0
import Derived.Test.YtbhhbnpbijehcaaFogx1
import Derived.Test.YtbhhbnpbijehcaaScrFit
namespace Go.Proofs.Ytbhhbnpbijehcaa.Pure
open Go.RowKit Go.Proofs.Ytbhhbnpbijehcaa.Fog Go.Proofs.YtbhhbnpbijehcaaW.PrintWords Go.Proofs.YtbhhbnpbijehcaaW.PrintLast Go.Proofs.YtbhhbnpbijehcaaW.PrintMore Go.Proofs.Ytbhhbnpbijehcaa.Kit
set_option linter.unusedVariables false
set_option linter.unusedSimpArgs false
theorem lin_bit (W t s u n i : Nat) (hW : 2 ≤ W) (hs : s < 2 ^ W) (hu : u < 2 ^ W) (hi : i < n) : (Go.Scr.rowV W t (s ^^^ u) n).getD i false = ((Go.Scr.rowV W t s n).getD i false != (Go.Scr.rowV W t u n).getD i false) := by
  simp only [List.getD_eq_getElem?_getD, Go.Scr.rowV_get _ _ _ _ _ hi, Option.getD_some]
  rw [(Go.Scr.iter_lin W t hW i).add s u hs hu]
  unfold Go.Scr.low
  rw [Nat.testBit_xor]
def rdb (l : List Bool) (i : Nat) : Bool := l.getD i false
/-- An element of a row of one's own, as a cell. -/
theorem row_at {w : World} {base : Nat} {A : Option Addr} {n c : Nat} {l : List Bool} (h : Kd.R Kd.bool 4 w base (fun _ => True) (.slice A n c) l) (i : Nat) (hi : i < n) : ∃ g, A = some ⟨g, 0, none⟩ ∧ w.cell? ⟨g, i, none⟩ = some (.bool (rdb l i)) := by
  obtain ⟨rfl, _⟩ := Kd.R_reads' h
  obtain ⟨g, cc, hv, _⟩ := Kd.R_form h (by omega)
  simp only [Value.slice.injEq] at hv
  obtain ⟨rfl, _, rfl⟩ := hv
  obtain ⟨hc, _⟩ := Kd.R_celln false h (i : Int) (by omega) (by omega)
  refine ⟨g, rfl, ?_⟩
  rw [Int.toNat_natCast] at hc
  rw [hc]
  simp [rdOf, rdb]
theorem row_moved' {b base : Nat} {v w : World} {x : Value} {l : List Bool} (h : Kd.R Kd.bool 4 v base (fun _ => True) x l) (k : Moved b v w) (hb : b < base) : Kd.R Kd.bool 4 w base (fun _ => True) x l :=
  row_moved h k fun i hi => by have := ((Kd.R_bound h).1 i hi).2.1; omega
set_option maxHeartbeats 8000000 in
set_option maxRecDepth 100000 in
theorem linear_walk (a0 : Int) (t0 s0 u0 n : Nat) (w : World) (ht0 : t0 < 4294967296) (hs0 : s0 < 4294967296) (hu0 : u0 < 4294967296) (hn : n < 256) :
    Calls Try.prog 4 #[.int .i64 a0, .int .u32 (t0 : Int), .int .u32 (s0 : Int), .int .u32 (u0 : Int), .int .u8 (n : Int)] w fun e w' => e = .returned (.bool true) ∧ Below w.heap.size w w' := by
  have HF1 := Aside0.mk (fit_f a0 t0 s0 ht0 hs0)
  have HF2 := Aside0.mk (fit_f a0 t0 u0 ht0 hu0)
  have hk1 := fit_takes a0 t0 s0
  have hk2 := fit_takes a0 t0 u0
  obtain ⟨W, hW⟩ : ∃ W, fitW a0 = W := ⟨_, rfl⟩
  obtain ⟨T, hT⟩ : ∃ T, fitT a0 t0 = T := ⟨_, rfl⟩
  obtain ⟨S, hS⟩ : ∃ S, fitS a0 s0 = S := ⟨_, rfl⟩
  obtain ⟨U, hU⟩ : ∃ U, fitS a0 u0 = U := ⟨_, rfl⟩
  rw [hW, hT, hS] at HF1 hk1
  rw [hW, hT, hU] at HF2 hk2
  have HK1 := Aside0.mk hk1
  have HK2 := Aside0.mk hk2
  have hWr : 2 ≤ W ∧ W ≤ 32 := ⟨by have := hk1.lo; omega, by have := hk1.hi; omega⟩
  have hSl : S < 2 ^ W := by have := hk1.sl; rwa [Int.toNat_natCast] at this
  have hUl : U < 2 ^ W := by have := hk2.sl; rwa [Int.toNat_natCast] at this
  have hTl : T < 2 ^ W := by have := hk1.tl; rwa [Int.toNat_natCast] at this
  have h32 : 2 ^ W ≤ 2 ^ 32 := Nat.pow_le_pow_right (by decide) hWr.2
  clear hW hT hS hU
  by_cases hSU : S = U
  · have hq : ((S : Int) == (U : Int)) = true := by simp [hSU]
    have hq2 : (S : Int) = (U : Int) := by omega
    have HQ := Aside0.mk hSU
    clear hSU hk1 hk2
    go_enter Try.func4, Try.ntmps4
    go_wp2_with (first
      | (go_at_call 10; (with_reducible refine (works_calls _).mono ?_); rintro e w1 ⟨rfl, hb⟩; have HB1 := Aside0.mk hb; clear hb)
      | (go_at_call 16; (with_reducible refine (foghornlaw16_fit.calls _ _ _ _ _ _ _ HF1.out).mono ?_); rintro e w2 ⟨rfl, ⟨nd, rfl⟩⟩)
      | (go_at_call 16; (with_reducible refine (foghornlaw16_fit.calls _ _ _ _ _ _ _ HF2.out).mono ?_); rintro e w3 ⟨rfl, ⟨nd2, rfl⟩⟩))
    go_ret
    exact ⟨rfl, pw_below_drewN HB1.out _⟩
  have hX0 := xor_nat S U (by omega) (by omega)
  obtain ⟨X, hX⟩ : ∃ X, S ^^^ U = X := ⟨_, rfl⟩
  have hXl : X < 2 ^ W := hX ▸ Nat.xor_lt_two_pow hSl hUl
  have hXn : X ≠ 0 := fun h0 => hSU (by
    have e : (S ^^^ U) ^^^ U = 0 ^^^ U := by rw [hX, h0]
    rwa [Nat.xor_assoc, Nat.xor_self, Nat.xor_zero, Nat.zero_xor] at e)
  rw [hX] at hX0
  have HK3 := Aside0.mk (show TakesN W T X from ⟨hk1.lo, hk1.hi, hk1.tap, hk1.tl, hXn, by rwa [Int.toNat_natCast]⟩)
  have HBIT := Aside0.mk (show ∀ i, i < n → (Go.Scr.rowV W T X n).getD i false = ((Go.Scr.rowV W T S n).getD i false != (Go.Scr.rowV W T U n).getD i false) from fun i hi => hX ▸ lin_bit W T S U n i hWr.1 hSl hUl hi)
  have hfin := xor_nat (Go.Scr.iter (Go.Scr.step W T) n S) (Go.Scr.iter (Go.Scr.step W T) n U) (step_lt32 hWr hSl n) (step_lt32 hWr hUl n)
  rw [← (Go.Scr.iter_lin W T hWr.1 n).add S U hSl hUl, hX] at hfin
  have HRS := Aside0.mk (show ∀ b w, Reg w b W T S → Calls Try.prog 18 #[.pointer (some ⟨b, 0, none⟩), .int .i64 (n : Int)] w fun e w' => ∃ v, e = .returned (.tuple #[v, .int .i64 0]) ∧ Kd.R Kd.bool 4 w' w.heap.size (fun _ => True) v (Go.Scr.rowV W T S n) ∧ Reg w' b W T (Go.Scr.iter (Go.Scr.step W T) n S) ∧ Moved b w w' from fun b w h => row_calls b W T S n w h hWr hSl (by omega) (by omega))
  have HRU := Aside0.mk (show ∀ b w, Reg w b W T U → Calls Try.prog 18 #[.pointer (some ⟨b, 0, none⟩), .int .i64 (n : Int)] w fun e w' => ∃ v, e = .returned (.tuple #[v, .int .i64 0]) ∧ Kd.R Kd.bool 4 w' w.heap.size (fun _ => True) v (Go.Scr.rowV W T U n) ∧ Reg w' b W T (Go.Scr.iter (Go.Scr.step W T) n U) ∧ Moved b w w' from fun b w h => row_calls b W T U n w h hWr hUl (by omega) (by omega))
  have HRX := Aside0.mk (show ∀ b w, Reg w b W T X → Calls Try.prog 18 #[.pointer (some ⟨b, 0, none⟩), .int .i64 (n : Int)] w fun e w' => ∃ v, e = .returned (.tuple #[v, .int .i64 0]) ∧ Kd.R Kd.bool 4 w' w.heap.size (fun _ => True) v (Go.Scr.rowV W T X n) ∧ Reg w' b W T (Go.Scr.iter (Go.Scr.step W T) n X) ∧ Moved b w w' from fun b w h => row_calls b W T X n w h hWr hXl (by omega) (by omega))
  have HL := Aside0.mk (show (Go.Scr.rowV W T S n).length = n ∧ (Go.Scr.rowV W T U n).length = n ∧ (Go.Scr.rowV W T X n).length = n from ⟨Go.Scr.rowV_length _ _ _ _, Go.Scr.rowV_length _ _ _ _, Go.Scr.rowV_length _ _ _ _⟩)
  obtain ⟨LS, hLS⟩ : ∃ l, Go.Scr.rowV W T S n = l := ⟨_, rfl⟩
  obtain ⟨LU, hLU⟩ : ∃ l, Go.Scr.rowV W T U n = l := ⟨_, rfl⟩
  obtain ⟨LX, hLX⟩ : ∃ l, Go.Scr.rowV W T X n = l := ⟨_, rfl⟩
  obtain ⟨FS, hFS⟩ : ∃ l, Go.Scr.iter (Go.Scr.step W T) n S = l := ⟨_, rfl⟩
  obtain ⟨FU, hFU⟩ : ∃ l, Go.Scr.iter (Go.Scr.step W T) n U = l := ⟨_, rfl⟩
  obtain ⟨FX, hFX⟩ : ∃ l, Go.Scr.iter (Go.Scr.step W T) n X = l := ⟨_, rfl⟩
  rw [hLS, hLU, hLX] at HBIT HL
  rw [hFS, hFU, hFX] at hfin
  rw [hLS, hFS] at HRS
  rw [hLU, hFU] at HRU
  rw [hLX, hFX] at HRX
  have hq : ((S : Int) == (U : Int)) = false := by simp; omega
  have hq2 : ¬ (S : Int) = (U : Int) := by omega
  have hn8 : IntKind.i64.wrap (n : Int) = (n : Int) := by rw [IntKind.wrap_i64]; omega
  clear hSU hk1 hk2 hX hXn hLS hLU hLX hFS hFU hFX hXl hUl hSl hTl h32 ht0 hs0 hu0
  go_enter Try.func4, Try.ntmps4
  go_wp2_with (first
    | (go_at_call 10; (with_reducible refine (works_calls _).mono ?_); rintro e w1 ⟨rfl, hb⟩; have HB1 := Aside0.mk hb; clear hb)
    | (go_at_call 16; (with_reducible refine (foghornlaw16_fit.calls _ _ _ _ _ _ _ HF1.out).mono ?_); rintro e w2 ⟨rfl, ⟨nd, rfl⟩⟩; have HB2 := Aside0.mk (pw_below_drewN HB1.out nd))
    | (go_at_call 16; (with_reducible refine (foghornlaw16_fit.calls _ _ _ _ _ _ _ HF2.out).mono ?_); rintro e w3 ⟨rfl, ⟨nd2, rfl⟩⟩; obtain ⟨w3, hw3⟩ : ∃ w3, (w1.drewN nd).drewN nd2 = w3 := ⟨_, rfl⟩; have HB3 := Aside0.mk (show Below w.heap.size w w3 from hw3 ▸ pw_below_drewN HB2.out nd2); rw [hw3]; clear hw3)
    | (go_at_call 17; (with_reducible refine (new_calls W T S _ HK1.out).mono ?_); rintro e w4 ⟨x, rfl, hxb, hxl, hx, hb⟩; have HX4 := Aside0.mk hx; have HXB := Aside0.mk (Nat.le_trans HB3.out.size hxb); have HB4 := Aside0.mk (below_step HB3.out hb); clear hx hb hxb hxl)
    | (go_at_call 17; (with_reducible refine (new_calls W T U _ HK2.out).mono ?_); rintro e w5 ⟨y, rfl, hyb, hyl, hy, hb⟩; have HY5 := Aside0.mk hy; have HX5 := Aside0.mk (HX4.out.at_below hb); have HXY := Aside0.mk (Nat.ne_of_lt (Nat.lt_of_lt_of_le HX4.out.lt hyb)); have HYB := Aside0.mk (Nat.le_trans HB4.out.size hyb); have HB5 := Aside0.mk (below_step HB4.out hb); clear hy hb hyb hyl)
    | (go_at_call 17; (with_reducible refine (new_calls W T X _ HK3.out).mono ?_); rintro e w6 ⟨z, rfl, hzb, hzl, hz, hb⟩; have HZ6 := Aside0.mk hz; have HX6 := Aside0.mk (HX5.out.at_below hb); have HY6 := Aside0.mk (HY5.out.at_below hb); have HXZ := Aside0.mk (Nat.ne_of_lt (Nat.lt_of_lt_of_le HX5.out.lt hzb)); have HYZ := Aside0.mk (Nat.ne_of_lt (Nat.lt_of_lt_of_le HY5.out.lt hzb)); have HZB := Aside0.mk (Nat.le_trans HB5.out.size hzb); have HB6 := Aside0.mk (below_step HB5.out hb); clear hz hb hzb hzl)
    | (go_at_call 18; (with_reducible refine (HRS.out x _ HX6.out).mono ?_); rintro e w7 ⟨v7, rfl, hR, hx, hm⟩; obtain ⟨A_S, c_S, rfl⟩ := Kd.R_slice hR; rw [HL.out.1] at hR; have HS7 := Aside0.mk hR; have HX7 := Aside0.mk hx; have HY7 := Aside0.mk (HY6.out.at_moved hm (Ne.symm HXY.out)); have HZ7 := Aside0.mk (HZ6.out.at_moved hm (Ne.symm HXZ.out)); have HB7 := Aside0.mk (HB6.out.trans (hm.below HXB.out HB6.out.size)); have HYL := Aside0.mk HY6.out.lt; have HZL := Aside0.mk HZ6.out.lt; rw [HL.out.1]; clear hR hx hm)
    | (go_at_call 18; (with_reducible refine (HRU.out y _ HY7.out).mono ?_); rintro e w8 ⟨v8, rfl, hR, hx, hm⟩; obtain ⟨A_U, c_U, rfl⟩ := Kd.R_slice hR; rw [HL.out.2.1] at hR; have HU8 := Aside0.mk hR; have HS8 := Aside0.mk (row_moved' HS7.out hm HYL.out); have HY8 := Aside0.mk hx; have HX8 := Aside0.mk (HX7.out.at_moved hm HXY.out); have HZ8 := Aside0.mk (HZ7.out.at_moved hm (Ne.symm HYZ.out)); have HB8 := Aside0.mk (HB7.out.trans (hm.below HYB.out HB7.out.size)); have HZL7 := Aside0.mk HZ7.out.lt; rw [HL.out.2.1]; clear hR hx hm)
    | (go_at_call 18; (with_reducible refine (HRX.out z _ HZ8.out).mono ?_); rintro e w9 ⟨v9, rfl, hR, hx, hm⟩; obtain ⟨A_X, c_X, rfl⟩ := Kd.R_slice hR; rw [HL.out.2.2] at hR; have HXX9 := Aside0.mk hR; have HS9 := Aside0.mk (row_moved' HS8.out hm HZL.out); have HU9 := Aside0.mk (row_moved' HU8.out hm HZL7.out); have HZ9 := Aside0.mk hx; have HX9 := Aside0.mk (HX8.out.at_moved hm HXZ.out); have HY9 := Aside0.mk (HY8.out.at_moved hm HYZ.out); have HB9 := Aside0.mk (HB8.out.trans (hm.below HZB.out HB8.out.size)); rw [HL.out.2.2]; clear hR hx hm))
  go_loopw [26] (fun i wr => ∃ k : Nat, k ≤ n ∧ i = .int .i64 (k : Int) ∧ Aside0 (∃ m, wr = w9.drewN m)) (fun i _ => n - (intOf i).toNat)
  case atStart => exact ⟨0, Nat.zero_le _, rfl, ⟨0, rfl⟩⟩
  case round =>
    obtain ⟨k, hk, rfl, ⟨m, rfl⟩⟩ := hrel
    by_cases hlt : k < n
    · have q1 : (k : Int) < (n : Int) := by omega
      obtain ⟨gs, hAS, hcs⟩ := row_at HS9.out k hlt
      obtain ⟨gu, hAU, hcu⟩ := row_at HU9.out k hlt
      obtain ⟨gx, hAX, hcx⟩ := row_at HXX9.out k hlt
      have hb : rdb LX k = (rdb LS k != rdb LU k) := HBIT.out k hlt
      rw [hb] at hcx
      obtain ⟨p, hp⟩ : ∃ p, rdb LS k = p := ⟨_, rfl⟩
      obtain ⟨q, hq'⟩ : ∃ q, rdb LU k = q := ⟨_, rfl⟩
      rw [hp, hq'] at hcx
      rw [hp] at hcs
      rw [hq'] at hcu
      subst hAS hAU hAX
      clear hp hq' hb
      cases p <;> cases q
      all_goals
        simp only [bne_self_eq_false, Bool.true_bne, Bool.false_bne, Bool.not_true, Bool.not_false] at hcx
        go_wp2
        go_quiet (fail)
        go_wp2
        go_roundw
        case rel => exact ⟨k + 1, by omega, by go_num, ⟨m + nq, rfl⟩⟩
        case measure => simp [intOf]; omega
    · obtain rfl : k = n := by omega
      have HXD := Aside0.mk (HX9.out.drew (n := m))
      have HYD := Aside0.mk (HY9.out.drew (n := m))
      have HZD := Aside0.mk (HZ9.out.drew (n := m))
      have HBD := Aside0.mk (pw_below_drewN HB9.out m)
      obtain ⟨wd, hwd⟩ : ∃ wd, w9.drewN m = wd := ⟨_, rfl⟩
      rw [hwd] at HXD HYD HZD HBD ⊢
      clear hwd
      go_wp2_with (first
        | (go_at_call 12; (with_reducible refine (state_calls z W T FX _ HZD.out).mono ?_); rintro e w' ⟨rfl, hw⟩; subst w')
        | (go_at_call 12; (with_reducible refine (state_calls x W T FS _ HXD.out).mono ?_); rintro e w' ⟨rfl, hw⟩; subst w')
        | (go_at_call 12; (with_reducible refine (state_calls y W T FU _ HYD.out).mono ?_); rintro e w' ⟨rfl, hw⟩; subst w'))
      go_ret
      exact ⟨rfl, HBD.out⟩
theorem ScrambleLinear_walk (a0 a1 a2 a3 a4 : Int) (w : World) (w0 : (Lit.int .i64 a0).wf = true) (w1 : (Lit.int .u32 a1).wf = true) (w2 : (Lit.int .u32 a2).wf = true) (w3 : (Lit.int .u32 a3).wf = true) (w4 : (Lit.int .u8 a4).wf = true) :
    Calls Try.prog 4 #[.int .i64 a0, .int .u32 a1, .int .u32 a2, .int .u32 a3, .int .u8 a4] w fun e w' => e = .returned (.bool true) ∧ Below w.heap.size w w' := by
  obtain ⟨n1, rfl, h1⟩ := wf_u32 w1
  obtain ⟨n2, rfl, h2⟩ := wf_u32 w2
  obtain ⟨n3, rfl, h3⟩ := wf_u32 w3
  obtain ⟨n4, rfl, h4⟩ := wf_u8 w4
  exact linear_walk a0 n1 n2 n3 n4 w h1 h2 h3 h4
end Go.Proofs.Ytbhhbnpbijehcaa.Pure
