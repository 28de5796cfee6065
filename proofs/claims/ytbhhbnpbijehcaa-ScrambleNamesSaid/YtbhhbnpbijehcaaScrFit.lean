/- A register out of any numbers. -/
import Derived.Test.YtbhhbnpbijehcaaFogx0
import Derived.Test.YtbhhbnpbijehcaaFogx1
import Derived.Test.YtbhhbnpbijehcaaScrPer
import Derived.Test.YtbhhbnpbijehcaaScrBits
import Derived.Test.YtbhhbnpbijehcaaScrJump
namespace Go.Proofs.Ytbhhbnpbijehcaa.Pure
open Go.RowKit Go.Proofs.Ytbhhbnpbijehcaa.Fog Go.Proofs.YtbhhbnpbijehcaaW.PrintWords Go.Proofs.YtbhhbnpbijehcaaW.PrintLast Go.Proofs.YtbhhbnpbijehcaaW.PrintMore Go.Proofs.Ytbhhbnpbijehcaa.Kit
set_option linter.unusedVariables false
set_option linter.unusedSimpArgs false
def fitW (a0 : Int) : Nat := 2 + (IntKind.u64.wrap a0).toNat % 31
def fitT (a0 : Int) (t0 : Nat) : Nat := t0 % 2 ^ fitW a0 ||| 1
def fitS (a0 : Int) (s0 : Nat) : Nat := if s0 % 2 ^ fitW a0 = 0 then 2 ^ fitW a0 - 1 else s0 % 2 ^ fitW a0
theorem u64_range (x : Int) : 0 ≤ IntKind.u64.wrap x ∧ IntKind.u64.wrap x < 18446744073709551616 := by simp [IntKind.wrap, IntKind.signed, IntKind.bits]; omega
theorem fit_f (a0 : Int) (t0 s0 : Nat) (ht : t0 < 4294967296) (hs : s0 < 4294967296) : foghornlaw16_fit.f a0 (t0 : Int) (s0 : Int) = some ((fitW a0 : Int), (fitT a0 t0 : Int), (fitS a0 s0 : Int)) := by
  have hr := u64_range a0
  obtain ⟨W, hW⟩ : ∃ W, fitW a0 = W := ⟨_, rfl⟩
  have hW2 : W ≤ 32 ∧ 2 ≤ W := by rw [← hW]; unfold fitW; omega
  have e1 : wrap64 (2 + wrap64 (Int.tmod (IntKind.u64.wrap a0) 31)) = (W : Int) := by
    rw [← hW]
    unfold fitW
    rw [Int.tmod_eq_emod_of_nonneg hr.1]
    generalize IntKind.u64.wrap a0 = q at hr ⊢
    unfold wrap64
    omega
  obtain ⟨Q, hQ⟩ : ∃ Q, 2 ^ W = Q := ⟨_, rfl⟩
  have hQ0 : 4 ≤ Q := by rw [← hQ]; exact Nat.pow_le_pow_right (n := 2) (i := 2) (by decide) hW2.2
  have hQ1 : Q ≤ 4294967296 := by rw [← hQ]; exact Nat.pow_le_pow_right (n := 2) (j := 32) (by decide) hW2.1
  have e2 : (shl .u32 1 (W : Int) - 1) % 4294967296 = ((Q - 1 : Nat) : Int) := by
    have e5 : (2 : Int) ^ W = (Q : Int) := by rw [← hQ, Int.natCast_pow]; rfl
    show (IntKind.u32.wrap (1 * 2 ^ min (W : Int).toNat 32) - 1) % 4294967296 = _
    rw [Int.toNat_natCast, show min W 32 = W by omega, e5]
    simp [IntKind.wrap, IntKind.signed, IntKind.bits]
    omega
  have e3 : ∀ x : Nat, x < 4294967296 → Go.bits .and .u32 (x : Int) ((Q - 1 : Nat) : Int) = ((x % Q : Nat) : Int) := by
    intro x hx
    rw [and_nat x (Q - 1) hx (by omega), ← hQ, Nat.and_two_pow_sub_one_eq_mod]
  unfold foghornlaw16_fit.f fitT fitS
  rw [e1, e2, e3 _ hs, e3 _ ht, hW, hQ, if_pos (by omega)]
  have e4 : Go.bits .or .u32 ((t0 % Q : Nat) : Int) 1 = ((t0 % Q ||| 1 : Nat) : Int) := or_nat (t0 % Q) 1 (Nat.lt_of_le_of_lt (Nat.mod_le _ _) ht) (by decide)
  rw [e4]
  by_cases h0 : s0 % Q = 0
  · rw [if_pos h0, if_pos (by omega)]
  · rw [if_neg h0, if_neg (by omega)]
theorem fit_takes (a0 : Int) (t0 s0 : Nat) : TakesN (fitW a0) (fitT a0 t0) (fitS a0 s0) := by
  have hr := u64_range a0
  have hW2 : fitW a0 ≤ 32 ∧ 2 ≤ fitW a0 := by unfold fitW; omega
  have h4 : 2 ^ 2 ≤ 2 ^ fitW a0 := Nat.pow_le_pow_right (by decide) hW2.2
  refine ⟨by omega, by omega, ?_, ?_, ?_, ?_⟩
  · have : (fitT a0 t0).testBit 0 = true := by unfold fitT; rw [Nat.testBit_or]; simp
    rw [Nat.testBit_zero] at this
    exact of_decide_eq_true this
  · rw [Int.toNat_natCast]
    exact Nat.or_lt_two_pow (Nat.mod_lt _ (by omega)) (by omega)
  · unfold fitS; split <;> omega
  · rw [Int.toNat_natCast]
    unfold fitS
    have := Nat.mod_lt s0 (show 0 < 2 ^ fitW a0 by omega)
    split <;> omega
set_option maxHeartbeats 1000000 in
theorem one_calls (a0 : Int) (t0 s0 : Nat) (w : World) (ht : t0 < 4294967296) (hs : s0 < 4294967296) :
    Calls Try.prog 11 #[.int .i64 a0, .int .u32 (t0 : Int), .int .u32 (s0 : Int)] w fun e w' => ∃ b, e = .returned (.pointer (some ⟨b, 0, none⟩)) ∧ w.heap.size ≤ b ∧ b < w'.heap.size ∧ Reg w' b (fitW a0) (fitT a0 t0) (fitS a0 s0) ∧ Below w.heap.size w w' := by
  have HF := Aside0.mk (fit_f a0 t0 s0 ht hs)
  have HK := Aside0.mk (fit_takes a0 t0 s0)
  obtain ⟨W, hW⟩ : ∃ W, fitW a0 = W := ⟨_, rfl⟩
  obtain ⟨T, hT⟩ : ∃ T, fitT a0 t0 = T := ⟨_, rfl⟩
  obtain ⟨S, hS⟩ : ∃ S, fitS a0 s0 = S := ⟨_, rfl⟩
  rw [hW, hT, hS] at HF HK ⊢
  clear hW hT hS ht hs
  go_enter Try.func11, Try.ntmps11
  go_wp2_with (first
    | (go_at_call 16; (with_reducible refine (foghornlaw16_fit.calls _ _ _ _ _ _ _ HF.out).mono ?_); rintro e w1 ⟨rfl, ⟨nd, rfl⟩⟩; obtain ⟨w1, hw1⟩ : ∃ w1, w.drewN nd = w1 := ⟨_, rfl⟩; have HB1 := Aside0.mk (show Below w.heap.size w w1 from hw1 ▸ pw_below_drewN (Below.refl _ _) _); rw [hw1]; clear hw1)
    | (go_at_call 17; (with_reducible refine (new_calls W T S _ HK.out).mono ?_); rintro e w2 ⟨g, rfl, hgb, hgl, hg, hb⟩; have HB2 := Aside0.mk (below_step HB1.out hb); have HG := Aside0.mk hg; have HGB := Aside0.mk (Nat.le_trans HB1.out.size hgb); have HGL := Aside0.mk hgl; clear hg hb hgb hgl))
  go_ret
  exact ⟨_, rfl, HGB.out, HGL.out, HG.out, HB2.out⟩
/-! What works asks. -/
theorem w_row : Go.Scr.rowV 4 3 1 5 = [true, false, false, false, true] := by decide +kernel
def wS : Nat := Go.Scr.iter (Go.Scr.step 4 3) 5 1
theorem w_back : Go.Scr.jump 4 3 (-5) wS = 1 := by decide +kernel
theorem w_takes : TakesN 4 3 1 := ⟨by decide, by decide, by decide, by decide, by decide, by decide⟩
theorem w_lt : wS < 2 ^ 4 := by decide +kernel
def row5 : List Bool := [true, false, false, false, true]
theorem lit5 (w : World) (base : Nat) (hb : base ≤ w.heap.size) : Kd.R Kd.bool 4 (w.alloc (.cells #[.bool true, .bool false, .bool false, .bool false, .bool true] 4)) base (fun _ => True) (.slice (some ⟨w.heap.size, 0, none⟩) 5 5) row5 :=
  Kd.R_of_own ⟨rfl, .inr ⟨w.heap.size, 5, #[.bool true, .bool false, .bool false, .bool false, .bool true], rfl, hb, blk_new _ _, Nat.le_refl _, by decide, rfl, rfl⟩⟩ (fun _ _ => trivial)
theorem same5 (A : Option Addr) (c : Nat) (B : Option Addr) (w : World) (h1 : Kd.C Kd.bool w A 5 row5) (hc : 5 ≤ c) (h2 : Kd.C Kd.bool w B 5 row5) :
    Calls Try.prog 22 #[.slice A 5 c, .slice B 5 5] w fun e w' => e = .returned (.bool true) ∧ Below w.heap.size w w' := same_in A c B 5 row5 w h1 hc h2 (Nat.le_refl _) (by decide)
set_option maxHeartbeats 4000000 in
set_option maxRecDepth 100000 in
theorem works_calls (w : World) : Calls Try.prog 10 #[] w fun e w' => e = .returned (.bool true) ∧ Below w.heap.size w w' := by
  have HNEW := Aside0.mk (show ∀ w, Calls Try.prog 17 #[.int .i64 4, .int .u32 3, .int .u32 1] w fun e w' => ∃ b, e = .returned (.tuple #[.pointer (some ⟨b, 0, none⟩), .int .i64 0]) ∧ w.heap.size ≤ b ∧ b < w'.heap.size ∧ Reg w' b 4 3 1 ∧ Below w.heap.size w w' from fun w => new_calls 4 3 1 w w_takes)
  have HROW := Aside0.mk (show ∀ b w, Reg w b 4 3 1 → Calls Try.prog 18 #[.pointer (some ⟨b, 0, none⟩), .int .i64 5] w fun e w' => ∃ v, e = .returned (.tuple #[v, .int .i64 0]) ∧ Kd.R Kd.bool 4 w' w.heap.size (fun _ => True) v [true, false, false, false, true] ∧ Reg w' b 4 3 wS ∧ Moved b w w' from fun b w h => w_row ▸ row_calls b 4 3 1 5 w h (by decide) (by decide) (by decide) (by decide))
  have HFOR := Aside0.mk (show ∀ w, Calls Try.prog 23 #[.int .i64 5] w fun e w' => ∃ b, e = .returned (.tuple #[.pointer (some ⟨b, 0, none⟩), .int .i64 0]) ∧ w.heap.size ≤ b ∧ b < w'.heap.size ∧ Reg w' b 15 3 6 ∧ Below w.heap.size w w' from fun w => for_calls 5 w (by decide))
  have HJMP := Aside0.mk (show ∀ b w, Reg w b 4 3 wS → Calls Try.prog 14 #[.pointer (some ⟨b, 0, none⟩), .int .i64 (-5)] w fun e w' => e = .returned (.int .i64 0) ∧ Reg w' b 4 3 1 ∧ Moved b w w' from fun b w h => w_back ▸ jump_calls b 4 3 wS (-5) w h (by decide) w_lt (by decide) (by decide) (by decide))
  have HST1 := Aside0.mk (show ∀ b w, Reg w b 4 3 1 → Calls Try.prog 12 #[.pointer (some ⟨b, 0, none⟩)] w fun e w' => e = .returned (.int .u32 1) ∧ w' = w from fun b w h => state_calls b 4 3 1 w h)
  have HST6 := Aside0.mk (show ∀ b w, Reg w b 15 3 6 → Calls Try.prog 12 #[.pointer (some ⟨b, 0, none⟩)] w fun e w' => e = .returned (.int .u32 6) ∧ w' = w from fun b w h => state_calls b 15 3 6 w h)
  go_enter Try.func10, Try.ntmps10
  go_wp2_with (first
    | (go_at_call 17; (with_reducible refine (HNEW.out _).mono ?_); rintro e w1 ⟨x, rfl, hxb, hxl, hx, hb⟩; have HX1 := Aside0.mk hx; have HXB := Aside0.mk hxb; have HB1 := Aside0.mk hb; clear hx hb hxb hxl)
    | (go_at_call 18; (with_reducible refine (HROW.out x _ HX1.out).mono ?_); rintro e w2 ⟨v, rfl, hR, hx, hm⟩; obtain ⟨A_L, c_L, rfl⟩ := Kd.R_slice hR; have HL2 := Aside0.mk (show Kd.R Kd.bool 4 w2 w1.heap.size (fun _ => True) (.slice A_L 5 c_L) row5 from hR); have hc5 : 5 ≤ c_L := (Kd.R_reads' HL2.out).2.1; have HX2 := Aside0.mk hx; have HB2 := Aside0.mk (HB1.out.trans (hm.below HXB.out HB1.out.size)); have HX1L := Aside0.mk HX1.out.lt; clear hR hx hm)
    | (go_at_call 19; (with_reducible refine (copy_calls x 4 3 wS _ HX2.out).mono ?_); rintro e w3 ⟨y, rfl, hyb, hyl, hy, hb⟩; have HY3 := Aside0.mk hy; have HX3 := Aside0.mk (HX2.out.at_below hb); have HL3 := Aside0.mk (Kd.R_below HL2.out hb); have HB3 := Aside0.mk (below_step HB2.out hb); have HXY := Aside0.mk (Nat.ne_of_lt (Nat.lt_of_lt_of_le HX2.out.lt hyb)); clear hy hb hyb hyl)
    | (go_at_call 23; (with_reducible refine (HFOR.out _).mono ?_); rintro e w4 ⟨z, rfl, hzb, hzl, hz, hb⟩; have HZ4 := Aside0.mk hz; have HY4 := Aside0.mk (HY3.out.at_below hb); have HX4 := Aside0.mk (HX3.out.at_below hb); have HL4 := Aside0.mk (Kd.R_below HL3.out hb); have HB4 := Aside0.mk (below_step HB3.out hb); have HXZ := Aside0.mk (Nat.ne_of_lt (Nat.lt_of_lt_of_le HX3.out.lt hzb)); clear hz hb hzb hzl)
    | (go_at_call 22; have HR5 := Aside0.mk (lit5 w4 w.heap.size HB4.out.size); have HBa := Aside0.mk (below_alloc (Below.refl w4.heap.size w4) (.cells #[.bool true, .bool false, .bool false, .bool false, .bool true] 4)); have HCa := Aside0.mk (show Kd.C Kd.bool _ A_L 5 row5 from (Kd.R_reads' (Kd.R_below HL4.out HBa.out)).2.2); have HCb := Aside0.mk (show Kd.C Kd.bool _ (some ⟨w4.heap.size, 0, none⟩) 5 row5 from (Kd.R_reads' HR5.out).2.2); (with_reducible refine (same5 A_L c_L (some ⟨w4.heap.size, 0, none⟩) _ HCa.out hc5 HCb.out).mono ?_); rintro e w5 ⟨rfl, hb⟩; have HBB := Aside0.mk (below_step HBa.out hb); have HX5 := Aside0.mk (HX4.out.at_below HBB.out); have HY5 := Aside0.mk (HY4.out.at_below HBB.out); have HZ5 := Aside0.mk (HZ4.out.at_below HBB.out); have HB5 := Aside0.mk (below_step HB4.out HBB.out); clear hb)
    | (go_at_call 12; (with_reducible refine (state_calls y 4 3 wS _ HY5.out).mono ?_); rintro e w' ⟨rfl, rfl⟩)
    | (go_at_call 12; (with_reducible refine (state_calls x 4 3 wS _ HX5.out).mono ?_); rintro e w' ⟨rfl, rfl⟩)
    | (go_at_call 14; (with_reducible refine (HJMP.out x _ HX5.out).mono ?_); rintro e w6 ⟨rfl, hx, hm⟩; have HX6 := Aside0.mk hx; have HZ6 := Aside0.mk (HZ5.out.at_moved hm (Ne.symm HXZ.out)); have HB6 := Aside0.mk (HB5.out.trans (hm.below HXB.out HB5.out.size)); clear hx hm)
    | (go_at_call 12; (with_reducible refine (HST1.out x _ HX6.out).mono ?_); rintro e w' ⟨rfl, rfl⟩)
    | (go_at_call 12; (with_reducible refine (HST6.out z _ HZ6.out).mono ?_); rintro e w' ⟨rfl, rfl⟩))
  go_ret
  exact ⟨rfl, HB6.out⟩
theorem wf_u32 {a : Int} (h : (Lit.int .u32 a).wf = true) : ∃ n : Nat, a = (n : Int) ∧ n < 4294967296 := by
  have h2 : 0 ≤ a ∧ a ≤ 4294967295 := by simpa [Lit.wf, IntKind.has, IntKind.min, IntKind.max, IntKind.signed, IntKind.bits] using h
  exact ⟨a.toNat, by omega, by omega⟩
theorem wf_u8 {a : Int} (h : (Lit.int .u8 a).wf = true) : ∃ n : Nat, a = (n : Int) ∧ n < 256 := by
  have h2 : 0 ≤ a ∧ a ≤ 255 := by simpa [Lit.wf, IntKind.has, IntKind.min, IntKind.max, IntKind.signed, IntKind.bits] using h
  exact ⟨a.toNat, by omega, by omega⟩
theorem wf_i64 {a : Int} (h : (Lit.int .i64 a).wf = true) : -9223372036854775808 ≤ a ∧ a ≤ 9223372036854775807 := by
  simpa [Lit.wf, IntKind.has, IntKind.min, IntKind.max, IntKind.signed, IntKind.bits] using h
end Go.Proofs.Ytbhhbnpbijehcaa.Pure
