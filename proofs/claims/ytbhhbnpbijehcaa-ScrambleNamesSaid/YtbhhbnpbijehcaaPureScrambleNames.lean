/- ScrambleNames: the limits; a number's register goes through all 32767 states. Closed. -/
import Derived.Test.YtbhhbnpbijehcaaFogx0
import Derived.Test.YtbhhbnpbijehcaaFogx1
import Derived.Test.YtbhhbnpbijehcaaPureScrambleState
import Derived.Test.YtbhhbnpbijehcaaScrCycle
namespace Go.Proofs.Ytbhhbnpbijehcaa.Pure
open Go.RowKit Go.Proofs.Ytbhhbnpbijehcaa.Fog Go.Proofs.YtbhhbnpbijehcaaW.PrintWords Go.Proofs.YtbhhbnpbijehcaaW.PrintLast Go.Proofs.YtbhhbnpbijehcaaW.PrintMore Go.Proofs.Ytbhhbnpbijehcaa.Kit
set_option linter.unusedVariables false
set_option linter.unusedSimpArgs false
theorem back_succ (n m : Nat) (h : n + 1 = m) (hb : Go.Scr.iter (Go.Scr.step 15 3) m 12346 = 12346) : Go.Scr.iter (Go.Scr.step 15 3) (n + 1) 12346 = 12346 := by
  subst h
  exact hb
theorem per_yes : perV 15 3 12346 40000 = (32767, 0) := by
  rw [perV_found Go.Scr.cycle_none (back_succ 32766 32767 rfl Go.Scr.cycle_back) 40000 (by decide)]
  rfl
theorem perV_none {W t s n : Nat} (h : Go.Scr.firstBack W t s n = none) : perV W t s n = (0, 6) := by
  unfold perV
  rw [h]
theorem per_no : perV 15 3 12346 32766 = (0, 6) := perV_none Go.Scr.cycle_none
theorem apply_far (b W t s n : Nat) (A : Option Addr) (c : Nat) (w : World) (hn : 32768 < n) :
    Calls Try.prog 21 #[.pointer (some ⟨b, 0, none⟩), .slice A n c] w fun e w' => e = .returned (.tuple #[.slice none 0 0, .int .i64 1]) ∧ w' = w := by
  have HB := Aside0.mk (row_bad b W t s (n : Int) w (.inr (by omega)))
  go_enter Try.func21, Try.ntmps21
  go_wp2_with (go_at_call 18; (with_reducible refine (HB.out).mono ?_); rintro e w' ⟨rfl, hw⟩; subst w')
  go_ret2
  exact ⟨rfl, rfl⟩
theorem row_same {w : World} {base n c : Nat} {A : Option Addr} {l : List Bool} (h : Kd.R Kd.bool 4 w base (fun _ => True) (.slice A n c) l) : Kd.C Kd.bool w A n l := by
  obtain ⟨e, _, h3⟩ := Kd.R_reads' h
  subst e
  exact h3
theorem cell_of_row2 {w : World} {base g n c : Nat} {l : List Bool} (h : Kd.R Kd.bool 4 w base (fun _ => True) (.slice (some ⟨g, 0, none⟩) n c) l) (i : Nat) (hi : i < n) : w.cell? ⟨g, i, none⟩ = some (.bool (rdb l i)) := by
  obtain ⟨g', e, hc⟩ := row_at h i hi
  simp only [Option.some.injEq, Addr.mk.injEq] at e
  obtain ⟨rfl, _⟩ := e
  exact hc
def NamesC (L M : List Bool) : Prop := L.length = 32767 ∧ M.length = 32768 ∧ M.take 32767 = L ∧ L.count true = 16384 ∧ rdb M 32767 = rdb L 0
def RowC (s n : Nat) (l : List Bool) (s' : Nat) : Prop := ∀ b w, Reg w b 15 3 s → Calls Try.prog 18 #[.pointer (some ⟨b, 0, none⟩), .int .i64 (n : Int)] w fun e w' => ∃ v, e = .returned (.tuple #[v, .int .i64 0]) ∧ Kd.R Kd.bool 4 w' w.heap.size (fun _ => True) v l ∧ Reg w' b 15 3 s' ∧ Moved b w w'
theorem count_take (l : List Bool) (k : Nat) (h : k < l.length) : (l.take (k + 1)).count true = (l.take k).count true + (if rdb l k = true then 1 else 0) := by
  rw [List.take_succ_eq_append_getElem h, List.count_append]
  unfold rdb
  rw [List.getD_eq_getElem?_getD, List.getElem?_eq_getElem h, Option.getD_some]
  cases l[k] <;> simp
set_option maxHeartbeats 8000000 in
set_option maxRecDepth 100000 in
theorem names_walk (L M : List Bool) (s2 : Nat) (w : World) (h : NamesC L M) (hr1 : RowC 12346 32767 L 12346) (hr2 : RowC 12346 32768 M s2) :
    Calls Try.prog 8 #[] w fun e w' => e = .returned (.bool true) ∧ Below w.heap.size w w' := by
  obtain ⟨hL, hM, hML, hcnt, hlast⟩ := h
  have HL := Aside0.mk hL
  have HM := Aside0.mk hM
  have HML := Aside0.mk hML
  have HCNT := Aside0.mk hcnt
  have HLAST := Aside0.mk hlast
  have HR1 := Aside0.mk (show ∀ b w, Reg w b 15 3 12346 → Calls Try.prog 18 #[.pointer (some ⟨b, 0, none⟩), .int .i64 32767] w fun e w' => ∃ v, e = .returned (.tuple #[v, .int .i64 0]) ∧ Kd.R Kd.bool 4 w' w.heap.size (fun _ => True) v L ∧ Reg w' b 15 3 12346 ∧ Moved b w w' from hr1)
  have HR2 := Aside0.mk (show ∀ b w, Reg w b 15 3 12346 → Calls Try.prog 18 #[.pointer (some ⟨b, 0, none⟩), .int .i64 32768] w fun e w' => ∃ v, e = .returned (.tuple #[v, .int .i64 0]) ∧ Kd.R Kd.bool 4 w' w.heap.size (fun _ => True) v M ∧ Reg w' b 15 3 s2 ∧ Moved b w w' from hr2)
  have HFOR := Aside0.mk (show ∀ w, Calls Try.prog 23 #[.int .i64 12345] w fun e w' => ∃ b, e = .returned (.tuple #[.pointer (some ⟨b, 0, none⟩), .int .i64 0]) ∧ w.heap.size ≤ b ∧ b < w'.heap.size ∧ Reg w' b 15 3 12346 ∧ Below w.heap.size w w' from fun w => for_calls 12345 w (by decide))
  have HP1 := Aside0.mk (show ∀ b w, Reg w b 15 3 12346 → Calls Try.prog 20 #[.pointer (some ⟨b, 0, none⟩), .int .i64 40000] w fun e w' => e = .returned (.tuple #[.int .i64 32767, .int .i64 0]) ∧ Below w.heap.size w w' from fun b w h => by
    have g := period_calls b 15 3 12346 40000 w h (by decide) (by decide) (by decide) (by decide) (by decide)
    rw [per_yes] at g
    exact g)
  have HP2 := Aside0.mk (show ∀ b w, Reg w b 15 3 12346 → Calls Try.prog 20 #[.pointer (some ⟨b, 0, none⟩), .int .i64 32766] w fun e w' => e = .returned (.tuple #[.int .i64 0, .int .i64 6]) ∧ Below w.heap.size w w' from fun b w h => by
    have g := period_calls b 15 3 12346 32766 w h (by decide) (by decide) (by decide) (by decide) (by decide)
    rw [per_no] at g
    exact g)
  have HW := Aside0.mk (show ∀ w, Calls Try.prog 17 #[.int .i64 32, .int .u32 2147483649, .int .u32 2147483648] w fun e w' => ∃ b, e = .returned (.tuple #[.pointer (some ⟨b, 0, none⟩), .int .i64 0]) ∧ w.heap.size ≤ b ∧ b < w'.heap.size ∧ Reg w' b 32 2147483649 2147483648 ∧ Below w.heap.size w w' from fun w => new_calls 32 2147483649 2147483648 w ⟨by decide, by decide, by decide, by decide, by decide, by decide⟩)
  have B1 := Aside0.mk (show ∀ w, Calls Try.prog 17 #[.int .i64 31, .int .u32 2147483649, .int .u32 1] w fun e w' => e = .returned (.tuple #[.pointer none, .int .i64 1]) ∧ w' = w from fun w => new_bad 31 2147483649 1 w (by decide) (by decide) (by decide +kernel))
  have B2 := Aside0.mk (show ∀ w, Calls Try.prog 17 #[.int .i64 31, .int .u32 1, .int .u32 2147483648] w fun e w' => e = .returned (.tuple #[.pointer none, .int .i64 1]) ∧ w' = w from fun w => new_bad 31 1 2147483648 w (by decide) (by decide) (by decide +kernel))
  have B3 := Aside0.mk (show ∀ w, Calls Try.prog 17 #[.int .i64 4, .int .u32 3, .int .u32 0] w fun e w' => e = .returned (.tuple #[.pointer none, .int .i64 1]) ∧ w' = w from fun w => new_bad 4 3 0 w (by decide) (by decide) (by decide +kernel))
  have B4 := Aside0.mk (show ∀ w, Calls Try.prog 17 #[.int .i64 4, .int .u32 3, .int .u32 16] w fun e w' => e = .returned (.tuple #[.pointer none, .int .i64 1]) ∧ w' = w from fun w => new_bad 4 3 16 w (by decide) (by decide) (by decide +kernel))
  have B5 := Aside0.mk (show ∀ w, Calls Try.prog 17 #[.int .i64 1, .int .u32 1, .int .u32 1] w fun e w' => e = .returned (.tuple #[.pointer none, .int .i64 1]) ∧ w' = w from fun w => new_bad 1 1 1 w (by decide) (by decide) (by decide +kernel))
  clear hL hM hML hcnt hlast hr1 hr2
  go_enter Try.func8, Try.ntmps8
  go_wp2_with (first
    | (go_at_call 10; (with_reducible refine (works_calls _).mono ?_); rintro e w1 ⟨rfl, hb⟩; have HB1 := Aside0.mk hb; clear hb)
    | (go_at_call 23; (with_reducible refine (HFOR.out w1).mono ?_); rintro e w2 ⟨x, rfl, hxb, hxl, hx, hb⟩; have HX2 := Aside0.mk hx; have HXB := Aside0.mk (Nat.le_trans HB1.out.size hxb); have HB2 := Aside0.mk (below_step HB1.out hb); clear hx hb hxb hxl)
    | (go_at_call 20; (with_reducible refine (HP1.out x w2 HX2.out).mono ?_); rintro e w3 ⟨rfl, hb⟩; have HX3 := Aside0.mk (HX2.out.at_below hb); have HB3 := Aside0.mk (below_step HB2.out hb); clear hb)
    | (go_at_call 20; (with_reducible refine (HP2.out x w3 HX3.out).mono ?_); rintro e w4 ⟨rfl, hb⟩; have HX4 := Aside0.mk (HX3.out.at_below hb); have HB4 := Aside0.mk (below_step HB3.out hb); clear hb)
    | (go_at_call 20; (with_reducible refine (period_bad x 15 3 12346 1048577 w4 (.inr (by decide))).mono ?_); rintro e w' ⟨rfl, hw⟩; subst w')
    | (go_at_call 18; (with_reducible refine (HR1.out x w4 HX4.out).mono ?_); rintro e w5 ⟨v5, rfl, hR, hx, hm⟩; obtain ⟨A_L, c_L, rfl⟩ := Kd.R_slice hR; have hcL := (Kd.R_reads' hR).2.1; rw [HL.out] at hR hcL ⊢; obtain ⟨gL, hAL, _⟩ := row_at hR 0 (by decide); subst hAL; have HL5 := Aside0.mk hR; have HX5 := Aside0.mk hx; have HB5 := Aside0.mk (HB4.out.trans (hm.below HXB.out HB4.out.size)); have HX4L := Aside0.mk HX4.out.lt; clear hR hx hm)
    | (go_at_call 18; (with_reducible refine (HR2.out x w5 HX5.out).mono ?_); rintro e w6 ⟨v6, rfl, hR, hx, hm⟩; obtain ⟨A_M, c_M, rfl⟩ := Kd.R_slice hR; have hcM := (Kd.R_reads' hR).2.1; rw [HM.out] at hR hcM ⊢; obtain ⟨gM, hAM, _⟩ := row_at hR 0 (by decide); subst hAM; have HM6 := Aside0.mk hR; have HL6 := Aside0.mk (row_moved' HL5.out hm HX4L.out); have HX6 := Aside0.mk hx; have HB6 := Aside0.mk (HB5.out.trans (hm.below HXB.out HB5.out.size)); clear hR hx hm)
    | (go_at_call 18; (with_reducible refine (row_bad x 15 3 s2 32769 w6 (.inr (by decide))).mono ?_); rintro e w' ⟨rfl, hw⟩; subst w'))
  go_loop [15, 16] (fun c i => ∃ k : Nat, k ≤ 32767 ∧ c = .int .i64 (((L.take k).count true : Nat) : Int) ∧ i = .int .i64 (k : Int)) (fun _ i => 32767 - (intOf i).toNat)
  case atStart => exact ⟨0, Nat.zero_le _, rfl, rfl⟩
  case round =>
    obtain ⟨k, hk, rfl, rfl⟩ := hrel
    by_cases hlt : k < 32767
    · have q1 : (k : Int) < 32767 := by omega
      have hc := cell_of_row2 HL6.out k hlt
      have hcn := count_take L k (by have := HL.out; omega)
      have hcl : (L.take k).count true ≤ 32767 := Nat.le_trans List.count_le_length (by rw [List.length_take]; omega)
      obtain ⟨C, hC⟩ : ∃ C, (L.take k).count true = C := ⟨_, rfl⟩
      obtain ⟨q, hq⟩ : ∃ q, rdb L k = q := ⟨_, rfl⟩
      rw [hC] at hcn hcl ⊢
      rw [hq] at hcn hc
      have HCN := Aside0.mk hcn
      clear hC hq hcn
      cases q
      · go_wp2
        go_round
        case rel => exact ⟨k + 1, by omega, by (rw [HCN.out]; rfl), by go_num⟩
        case measure => simp [intOf]; omega
      · go_wp2
        go_round
        case rel => exact ⟨k + 1, by omega, by (rw [HCN.out]; go_num), by go_num⟩
        case measure => simp [intOf]; omega
    · have hk7 : k = 32767 := by omega
      subst k
      have HC9 := Aside0.mk (show (L.take 32767).count true = 16384 by rw [List.take_of_length_le (by rw [HL.out]; exact Nat.le_refl _)]; exact HCNT.out)
      rw [HC9.out]
      have HCM := Aside0.mk (show Kd.C Kd.bool w6 (some ⟨gM, 0, none⟩) 32767 L from by
        have h := Kd.C_take (m := 32767) (HM.out.symm ▸ row_same HM6.out : Kd.C Kd.bool w6 (some ⟨gM, 0, none⟩) M.length M) (by rw [HM.out]; decide)
        rw [HML.out, HL.out] at h
        exact h)
      have HCL := Aside0.mk (row_same HL6.out)
      have HSAME := Aside0.mk (show ∀ n, Calls Try.prog 22 #[.slice (some ⟨gM, 0, none⟩) 32767 c_M, .slice (some ⟨gL, 0, none⟩) 32767 c_L] (w6.drewN n) fun e w' => e = .returned (.bool true) ∧ ∃ m, w' = (w6.drewN n).drewN m from fun n => by
        obtain ⟨k, hk⟩ := (same_ev L (by rw [HL.out]; decide)).rounds
        have h := foghornlaw16_sameBits.calls k (some ⟨gM, 0, none⟩) c_M L (some ⟨gL, 0, none⟩) c_L L true (w6.drewN n) (by rw [HL.out]; exact Kd.C_drewN HCM.out n) (by rw [HL.out]; omega) (by rw [HL.out]; exact Kd.C_drewN HCL.out n) (by rw [HL.out]; exact hcL) hk
        rw [HL.out] at h
        exact h.mono fun e w' ⟨he, nd, hd⟩ => ⟨he, nd, hd⟩)
      have x1 := cell_of_row2 HM6.out 32767 (by decide)
      have x2 := cell_of_row2 HL6.out 0 (by decide)
      rw [HLAST.out] at x1
      obtain ⟨q, hq⟩ : ∃ q, rdb L 0 = q := ⟨_, rfl⟩
      rw [hq] at x1 x2
      clear hq
      go_wp2
      go_quiet (first | (go_at_call 22; exact Calls.quiet_of (HSAME.out _)))
      clear x1 x2
      obtain ⟨w7, hw7⟩ : ∃ w7, w6.drewN nq = w7 := ⟨_, rfl⟩
      have HX7 := Aside0.mk (show Reg w7 x 15 3 s2 from hw7 ▸ HX6.out.drew (n := nq))
      have HB7 := Aside0.mk (show Below w.heap.size w w7 from hw7 ▸ pw_below_drewN HB6.out nq)
      rw [hw7]
      clear hw7
      go_wp2_with (first
        | (go_at_call 17; (with_reducible refine (HW.out w7).mono ?_); rintro e w8 ⟨z, rfl, hzb, hzl, hz, hb⟩; have HZ8 := Aside0.mk hz; have HX8 := Aside0.mk (HX7.out.at_below hb); have HB8 := Aside0.mk (below_step HB7.out hb); clear hz hb hzb hzl)
        | (go_at_call 17; (with_reducible refine (B1.out _).mono ?_); rintro e w' ⟨rfl, hw⟩; subst w')
        | (go_at_call 17; (with_reducible refine (B2.out _).mono ?_); rintro e w' ⟨rfl, hw⟩; subst w')
        | (go_at_call 17; (with_reducible refine (B3.out _).mono ?_); rintro e w' ⟨rfl, hw⟩; subst w')
        | (go_at_call 17; (with_reducible refine (B4.out _).mono ?_); rintro e w' ⟨rfl, hw⟩; subst w')
        | (go_at_call 17; (with_reducible refine (B5.out _).mono ?_); rintro e w' ⟨rfl, hw⟩; subst w')
        | ((with_reducible refine gate_dst (N := 147) rfl ?_); refine Kd.R_make Kd.bool (w0 := w8) w8.heap.size 4 rfl (N := 147) rfl 27 _ _ rfl 32769 rfl rfl Try.underlying27 (.bool false) 1 info4 rfl (by decide) (by omega) false (ok := fun _ => True) (okp := fun _ => True) rfl (fun _ hk => hk) trivial (by decide) (by decide) (Below.refl _ _) (Nat.le_refl _) ?_; intro v9 w9 ho hb hg_ hnew_; clear hg_ hnew_; obtain ⟨A9, c9, rfl⟩ := Kd.R_slice ho; rw [List.length_replicate]; have HZ9 := Aside0.mk (HZ8.out.at_below hb); have HB9 := Aside0.mk (below_step HB8.out hb); clear ho hb)
        | (go_at_call 21; (with_reducible refine (apply_far x 15 3 s2 32769 A9 c9 w9 (by decide)).mono ?_); rintro e w' ⟨rfl, hw⟩; subst w')
        | (go_at_call 12; (with_reducible refine (state_calls z 32 2147483649 2147483648 w9 HZ9.out).mono ?_); rintro e w' ⟨rfl, hw⟩; subst w'))
      go_ret
      exact ⟨rfl, HB9.out⟩
theorem ScrambleNames_walk (w : World) : Calls Try.prog 8 #[] w fun e w' => e = .returned (.bool true) ∧ Below w.heap.size w w' := by
  refine names_walk (Go.Scr.rowV 15 3 12346 32767) (Go.Scr.rowV 15 3 12346 32768) (Go.Scr.iter (Go.Scr.step 15 3) 32768 12346) w ?_ ?_ ?_
  · have h0 := Go.Scr.rowV_length 15 3 12346 32767
    refine ⟨h0, Go.Scr.rowV_length _ _ _ _, ?_, Go.Scr.cycle_count, ?_⟩
    · rw [Go.Scr.cycle_row, List.take_left' h0]
    · rw [Go.Scr.cycle_row]
      unfold rdb
      rw [List.getD_eq_getElem?_getD, List.getElem?_append_right (by rw [h0]; exact Nat.le_refl _), h0, List.getD_eq_getElem?_getD, Go.Scr.rowV_get _ _ _ _ _ (by decide)]
      rfl
  · intro b w h
    have g := row_calls b 15 3 12346 32767 w h (by decide) (by decide) (by decide) (by decide)
    rw [Go.Scr.cycle_back] at g
    exact g
  · intro b w h
    exact row_calls b 15 3 12346 32768 w h (by decide) (by decide) (by decide) (by decide)
end Go.Proofs.Ytbhhbnpbijehcaa.Pure
