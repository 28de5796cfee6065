/- The reference's agree and Slip. -/
import Derived.Test.YtjhapibelhakdaaFogx0
import Derived.Test.YtjhapibelhakdaaSlipAll
namespace Go.Proofs.Ytjhapibelhakdaa.Pure
open Go.RowKit Go.Proofs.Ytjhapibelhakdaa.Fog Go.Proofs.YtjhapibelhakdaaW.PrintWords Go.Proofs.YtjhapibelhakdaaW.PrintLast Go.Proofs.YtjhapibelhakdaaW.PrintMore Go.Proofs.Ytjhapibelhakdaa.Kit
set_option linter.unusedVariables false
set_option linter.unusedSimpArgs false
set_option maxHeartbeats 4000000 in
set_option maxRecDepth 100000 in
theorem agree_calls (a b : List Smp) (A B : Option Addr) (ca cb na nb : Nat) (s : Int) (w : World) (hna : a.length = na) (hnb : b.length = nb) (ha : Kd.C KS w A na a) (hb : Kd.C KS w B nb b) (hla : na ≤ 4096) (hlb : nb ≤ 4096) (hs0 : -1024 ≤ s) (hs1 : s ≤ 1024) :
    Calls Try.prog 37 #[.slice A na ca, .slice B nb cb, .int .i64 s] w fun e w' => e = .returned (.int .i64 (agreeTo a b s na : Int)) ∧ ∃ d, w' = w.drewN d := by
  have Ha := Aside0.mk ha
  have Hb := Aside0.mk hb
  have HNB := Aside0.mk hnb
  clear ha hb hna hnb
  go_enter Try.func37, Try.ntmps37
  go_wp2
  go_loopw [7, 8] (fun c i wr => ∃ k : Nat, k ≤ na ∧ c = .int .i64 (agreeTo a b s k : Int) ∧ i = .int .i64 (k : Int) ∧ Aside0 (∃ m, wr = w.drewN m)) (fun _ i _ => na - (intOf i).toNat)
  case atStart => exact ⟨0, Nat.zero_le _, rfl, rfl, ⟨0, rfl⟩⟩
  case round =>
    obtain ⟨k, hk, rfl, rfl, HW⟩ := hrel
    by_cases hlt : k < na
    · have q1 : (k : Int) < (na : Int) := by omega
      obtain ⟨m, hm⟩ := HW.out
      have HM := Aside0.mk hm
      have hbw : Below w.heap.size w wr := hm ▸ pw_below_drewN (Below.refl _ _) m
      obtain ⟨C, hC⟩ : ∃ C, agreeTo a b s k = C := ⟨_, rfl⟩
      have hCk := agreeTo_le a b s k
      have hks : IntKind.i64.wrap ((k : Int) + 1) = (k : Int) + 1 := by rw [IntKind.wrap_i64]; omega
      have hcs : IntKind.i64.wrap ((C : Int) + 1) = (C : Int) + 1 := by rw [IntKind.wrap_i64]; omega
      by_cases hin : 0 ≤ (k : Int) + s ∧ (k : Int) + s < (nb : Int)
      · obtain ⟨j, hj⟩ : ∃ j : Nat, (k : Int) + s = (j : Int) := ⟨((k : Int) + s).toNat, by omega⟩
        have hj1 : (j : Int) < (nb : Int) := by omega
        have hj0 : (0 : Int) ≤ (j : Int) := by omega
        have hwj : IntKind.i64.wrap ((k : Int) + s) = (j : Int) := by rw [IntKind.wrap_i64]; omega
        obtain ⟨ad, hA, x1, x2⟩ := smp_at (Kd.C_below Ha.out hbw) k hlt
        subst hA
        obtain ⟨bd, hB, y1, y2⟩ := smp_at (Kd.C_below Hb.out hbw) j (by omega)
        subst hB
        have hsu : agreeTo a b s (k + 1) = agreeTo a b s k + (if agr (a.getD k s0) (b.getD j s0) = true then 1 else 0) := by
          rw [agreeTo_succ]
          unfold inA
          rw [decide_eq_true (show 0 ≤ (k : Int) + s ∧ (k : Int) + s < (b.length : Int) by have := HNB.out; omega), hj, Int.toNat_natCast, Bool.true_and]
        obtain ⟨⟨⟨p1, p2⟩, l1⟩, hX⟩ : ∃ X : Smp, a.getD k s0 = X := ⟨_, rfl⟩
        obtain ⟨⟨⟨r1, r2⟩, l2⟩, hY⟩ : ∃ Y : Smp, b.getD j s0 = Y := ⟨_, rfl⟩
        rw [hX] at x1 x2
        rw [hY] at y1 y2
        rw [hX, hY] at hsu
        unfold agr eqC at hsu
        simp only at x1 x2 y1 y2 hsu
        obtain ⟨e, he⟩ : ∃ e, ((FloatKind.f64.format.order p1 r1 == some .eq) && (FloatKind.f64.format.order p2 r2 == some .eq)) = e := ⟨_, rfl⟩
        rw [he] at hsu
        rw [hC] at hsu hCk ⊢
        have HSU := Aside0.mk hsu
        clear hX hY hC hsu hin hj hm hbw HW
        cases l1 <;> cases l2 <;> cases e
        all_goals
          simp only [Bool.not_true, Bool.not_false, Bool.true_and, Bool.false_and, Bool.and_true, Bool.and_false, if_true, if_false, Bool.false_eq_true, Nat.add_zero] at HSU
          go_wp2
          go_quiet (fail)
          go_wp2
          go_roundw
          case rel => exact ⟨k + 1, hlt, by (rw [HSU.out]; try go_num), by go_num, ⟨m + nq, by rw [HM.out, World.drewN_drewN]⟩⟩
          case measure => show na - ((k : Int) + 1).toNat < na - (k : Int).toNat; omega
      · have hsu : agreeTo a b s (k + 1) = C := by
          rw [agreeTo_succ, inA_out a b s k (by have := HNB.out; omega), hC]; rfl
        obtain ⟨t, ht⟩ : ∃ t, (k : Int) + s = t := ⟨_, rfl⟩
        have hwt : IntKind.i64.wrap ((k : Int) + s) = t := by rw [IntKind.wrap_i64]; omega
        have hr : 0 ≤ t → ¬ t < (nb : Int) := by omega
        rw [hC] at hCk ⊢
        have HSU := Aside0.mk hsu
        clear hC hsu hin ht hm hbw HW
        by_cases h0 : 0 ≤ t
        all_goals
          first | (have hr2 := decide_eq_false (hr h0)) | (have d0 := decide_eq_false h0)
          clear hr
          go_wp2
          go_quiet (fail)
          go_wp2
          go_roundw
          case rel => exact ⟨k + 1, hlt, by rw [HSU.out], by go_num, ⟨m + nq, by rw [HM.out, World.drewN_drewN]⟩⟩
          case measure => show na - ((k : Int) + 1).toNat < na - (k : Int).toNat; omega
    · have hkN : k = na := by omega
      subst hkN
      go_wp2
      go_ret
      exact ⟨rfl, HW.out⟩
theorem slipTo_step (a b : List Smp) (k : Nat) : slipTo a b (k + 1) = tryV a b (-((k : Int) + 1)) (tryV a b ((k : Int) + 1) (slipTo a b k)) := by
  rw [show -((k : Int) + 1) = -(k : Int) - 1 by omega]
  rfl
set_option maxHeartbeats 4000000 in
set_option maxRecDepth 100000 in
theorem refslip_calls (a b : List Smp) (A B : Option Addr) (ca cb na nb most : Nat) (w : World) (hna : a.length = na) (hnb : b.length = nb) (ha : Kd.C KS w A na a) (hb : Kd.C KS w B nb b) (hla : na ≤ 4096) (hlb : nb ≤ 4096) (hm : most ≤ 1024) :
    Calls Try.prog 21 #[.slice A na ca, .slice B nb cb, .int .i64 (most : Int)] w fun e w' => e = .returned (.tuple #[.int .i64 (slipTo a b most).1, .int .i64 ((slipTo a b most).2 : Int), .int .i64 0]) ∧ ∃ d, w' = w.drewN d := by
  have HAG := Aside0.mk (show ∀ (s : Int) (W : World), -1024 ≤ s → s ≤ 1024 → (∃ d, W = w.drewN d) → Calls Try.prog 37 #[.slice A na ca, .slice B nb cb, .int .i64 s] W fun e w' => e = .returned (.int .i64 (agreeTo a b s na : Int)) ∧ ∃ d, w' = w.drewN d from fun s W h0 h1 ⟨d, hd⟩ => by
    subst hd
    refine (agree_calls a b A B ca cb na nb s _ hna hnb (Kd.C_below ha (pw_below_drewN (Below.refl _ _) d)) (Kd.C_below hb (pw_below_drewN (Below.refl _ _) d)) hla hlb h0 h1).mono ?_
    rintro e w' ⟨rfl, d2, rfl⟩
    exact ⟨rfl, d + d2, by rw [World.drewN_drewN]⟩)
  have HL := Aside0.mk hna
  clear ha hb hna hnb
  have q1 : ¬ (4096 : Int) < (na : Int) := by omega
  have q2 : ¬ (4096 : Int) < (nb : Int) := by omega
  have q3 : ¬ (most : Int) < 0 := by omega
  have q4 : ¬ (1024 : Int) < (most : Int) := by omega
  go_enter Try.func21, Try.ntmps21
  obtain ⟨g0, hg0⟩ : ∃ g, agreeTo a b 0 na = g := ⟨_, rfl⟩
  have HG0 := Aside0.mk hg0
  clear hg0
  go_wp2_with (go_at_call 37; refine (HAG.out 0 _ (by decide) (by decide) ⟨0, rfl⟩).mono ?_; rintro e w1 ⟨rfl, hd⟩; rw [HG0.out]; (have HD := Aside0.mk hd); clear hd)
  go_loopw [9, 10, 11, 12] (fun sl sm i t wr => ∃ k : Nat, k ≤ most ∧ sl = .int .i64 (slipTo a b k).1 ∧ sm = .int .i64 ((slipTo a b k).2 : Int) ∧ i = .int .i64 ((k : Int) + 1) ∧ Aside0 (∃ m, wr = w.drewN m)) (fun _ _ i _ _ => most + 2 - (intOf i).toNat)
  case atStart =>
    refine ⟨0, Nat.zero_le _, ?_, ?_, rfl, HD⟩
    · show _ = Value.int .i64 (tryV a b 0 (0, 0)).1
      unfold tryV
      split <;> rfl
    · show _ = Value.int .i64 ((tryV a b 0 (0, 0)).2 : Int)
      unfold tryV
      rw [HL.out, HG0.out]
      split
      · rfl
      · rw [show g0 = 0 by omega]
  case round =>
    obtain ⟨k, hk, rfl, rfl, rfl, HW⟩ := hrel
    by_cases hlt : k < most
    · have q5 : (k : Int) + 1 ≤ (most : Int) := by omega
      have hks : IntKind.i64.wrap ((k : Int) + 1 + 1) = (k : Int) + 1 + 1 := by rw [IntKind.wrap_i64]; omega
      have hkn : IntKind.i64.wrap (-((k : Int) + 1)) = -((k : Int) + 1) := by rw [IntKind.wrap_i64]; omega
      have HBD := Aside0.mk (show -1024 ≤ (k : Int) + 1 ∧ (k : Int) + 1 ≤ 1024 ∧ -1024 ≤ -((k : Int) + 1) ∧ -((k : Int) + 1) ≤ 1024 by omega)
      have hst := slipTo_step a b k
      obtain ⟨⟨sl, sm⟩, hS⟩ : ∃ S, slipTo a b k = S := ⟨_, rfl⟩
      rw [hS] at hst ⊢
      obtain ⟨g1, hg1⟩ : ∃ g, agreeTo a b ((k : Int) + 1) na = g := ⟨_, rfl⟩
      obtain ⟨g2, hg2⟩ : ∃ g, agreeTo a b (-((k : Int) + 1)) na = g := ⟨_, rfl⟩
      unfold tryV at hst
      rw [HL.out, hg1, hg2] at hst
      have HG1 := Aside0.mk hg1
      have HG2 := Aside0.mk hg2
      have HST := Aside0.mk hst
      clear hg1 hg2 hst hS
      by_cases c1 : sm < g1
      · have c1' : (sm : Int) < (g1 : Int) := by omega
        by_cases c2 : g1 < g2
        · have c2' : (g1 : Int) < (g2 : Int) := by omega
          have HX := Aside0.mk (show slipTo a b (k + 1) = (-((k : Int) + 1), g2) by rw [HST.out, if_pos c1, if_pos c2])
          go_wp2_with (go_at_call 37; first | (with_reducible refine (HAG.out ((k : Int) + 1) _ HBD.out.1 HBD.out.2.1 HW.out).mono ?_; rintro e w1 ⟨rfl, hd⟩; rw [HG1.out]; (have HD1 := Aside0.mk hd); clear hd) | (with_reducible refine (HAG.out (-((k : Int) + 1)) _ HBD.out.2.2.1 HBD.out.2.2.2 HD1.out).mono ?_; rintro e w2 ⟨rfl, hd⟩; rw [HG2.out]; (have HD2 := Aside0.mk hd); clear hd))
          exact ⟨⟨k + 1, hlt, by rw [HX.out], by rw [HX.out], by go_num, HD2⟩, by show most + 2 - ((k : Int) + 1 + 1).toNat < most + 2 - ((k : Int) + 1).toNat; omega⟩
        · have c2' : ¬ (g1 : Int) < (g2 : Int) := by omega
          have HX := Aside0.mk (show slipTo a b (k + 1) = ((k : Int) + 1, g1) by rw [HST.out, if_pos c1, if_neg c2])
          go_wp2_with (go_at_call 37; first | (with_reducible refine (HAG.out ((k : Int) + 1) _ HBD.out.1 HBD.out.2.1 HW.out).mono ?_; rintro e w1 ⟨rfl, hd⟩; rw [HG1.out]; (have HD1 := Aside0.mk hd); clear hd) | (with_reducible refine (HAG.out (-((k : Int) + 1)) _ HBD.out.2.2.1 HBD.out.2.2.2 HD1.out).mono ?_; rintro e w2 ⟨rfl, hd⟩; rw [HG2.out]; (have HD2 := Aside0.mk hd); clear hd))
          exact ⟨⟨k + 1, hlt, by rw [HX.out], by rw [HX.out], by go_num, HD2⟩, by show most + 2 - ((k : Int) + 1 + 1).toNat < most + 2 - ((k : Int) + 1).toNat; omega⟩
      · have c1' : ¬ (sm : Int) < (g1 : Int) := by omega
        by_cases c2 : sm < g2
        · have c2' : (sm : Int) < (g2 : Int) := by omega
          have HX := Aside0.mk (show slipTo a b (k + 1) = (-((k : Int) + 1), g2) by rw [HST.out, if_neg c1, if_pos c2])
          go_wp2_with (go_at_call 37; first | (with_reducible refine (HAG.out ((k : Int) + 1) _ HBD.out.1 HBD.out.2.1 HW.out).mono ?_; rintro e w1 ⟨rfl, hd⟩; rw [HG1.out]; (have HD1 := Aside0.mk hd); clear hd) | (with_reducible refine (HAG.out (-((k : Int) + 1)) _ HBD.out.2.2.1 HBD.out.2.2.2 HD1.out).mono ?_; rintro e w2 ⟨rfl, hd⟩; rw [HG2.out]; (have HD2 := Aside0.mk hd); clear hd))
          exact ⟨⟨k + 1, hlt, by rw [HX.out], by rw [HX.out], by go_num, HD2⟩, by show most + 2 - ((k : Int) + 1 + 1).toNat < most + 2 - ((k : Int) + 1).toNat; omega⟩
        · have c2' : ¬ (sm : Int) < (g2 : Int) := by omega
          have HX := Aside0.mk (show slipTo a b (k + 1) = (sl, sm) by rw [HST.out, if_neg c1, if_neg c2])
          go_wp2_with (go_at_call 37; first | (with_reducible refine (HAG.out ((k : Int) + 1) _ HBD.out.1 HBD.out.2.1 HW.out).mono ?_; rintro e w1 ⟨rfl, hd⟩; rw [HG1.out]; (have HD1 := Aside0.mk hd); clear hd) | (with_reducible refine (HAG.out (-((k : Int) + 1)) _ HBD.out.2.2.1 HBD.out.2.2.2 HD1.out).mono ?_; rintro e w2 ⟨rfl, hd⟩; rw [HG2.out]; (have HD2 := Aside0.mk hd); clear hd))
          exact ⟨⟨k + 1, hlt, by rw [HX.out], by rw [HX.out], by go_num, HD2⟩, by show most + 2 - ((k : Int) + 1 + 1).toNat < most + 2 - ((k : Int) + 1).toNat; omega⟩
    · have hkN : k = most := by omega
      subst hkN
      have q5 : ¬ (k : Int) + 1 ≤ (k : Int) := by omega
      go_wp2
      refine bodyPost_ret (results_tmp3 rfl _ _ _) rfl ?_
      exact ⟨rfl, HW.out⟩
/-- May a slip be sought? -/
def maySlip (na nb m : Int) : Prop := na ≤ 4096 ∧ nb ≤ 4096 ∧ 0 ≤ m ∧ m ≤ 1024
set_option maxHeartbeats 4000000 in
set_option maxRecDepth 100000 in
theorem slip_err (A B : Option Addr) (na nb ca cb : Nat) (m : Int) (w : World) (h : ¬ maySlip na nb m) :
    Calls Try.prog 20 #[.slice A na ca, .slice B nb cb, .int .i64 m] w fun e w' => e = .returned (.tuple #[.int .i64 0, .int .i64 0, .int .i64 1]) ∧ Below w.heap.size w w' := by
  unfold maySlip at h
  have hb := (((((Below.refl w.heap.size w).alloc (Nat.le_refl _) (.cells #[.slice A na ca] 35)).alloc (by simp) (.cells #[.slice B nb cb] 35)).alloc (by simp; omega) (.cells #[.int .i64 0] 3)).alloc (by simp; omega) (.cells #[.int .i64 0] 3))
  have n1 := blk_new ((w.alloc (.cells #[.slice A na ca] 35)).alloc (.cells #[.slice B nb cb] 35)) (.cells #[.int .i64 0] 3)
  have n2 := blk_new (((w.alloc (.cells #[.slice A na ca] 35)).alloc (.cells #[.slice B nb cb] 35)).alloc (.cells #[.int .i64 0] 3)) (.cells #[.int .i64 0] 3)
  have n1' := blk_below n1 ((Below.refl _ _).alloc (Nat.le_refl _) (.cells #[.int .i64 0] 3))
  simp only [World.size_alloc] at n1' n2
  have HB := Aside0.mk hb
  have S1 := Aside0.mk ((blk_cell n1' 0).trans rfl)
  have M1 := Aside0.mk ((blk_cell n2 0).trans rfl)
  clear hb n1 n2 n1'
  by_cases c1 : (4096 : Int) < (na : Int)
  · clear h
    go_enter Try.func20, Try.ntmps20
    go_wp2
    refine bodyPost_ret (results_iit rfl Try.underlying3 _ _ (w.heap.size + 1 + 1) (w.heap.size + 1 + 1 + 1) 0 0 rfl rfl S1.out M1.out) rfl ?_
    exact ⟨rfl, HB.out⟩
  by_cases c2 : (4096 : Int) < (nb : Int)
  · clear h
    go_enter Try.func20, Try.ntmps20
    go_wp2
    refine bodyPost_ret (results_iit rfl Try.underlying3 _ _ (w.heap.size + 1 + 1) (w.heap.size + 1 + 1 + 1) 0 0 rfl rfl S1.out M1.out) rfl ?_
    exact ⟨rfl, HB.out⟩
  by_cases c3 : m < 0
  · clear h
    go_enter Try.func20, Try.ntmps20
    go_wp2
    refine bodyPost_ret (results_iit rfl Try.underlying3 _ _ (w.heap.size + 1 + 1) (w.heap.size + 1 + 1 + 1) 0 0 rfl rfl S1.out M1.out) rfl ?_
    exact ⟨rfl, HB.out⟩
  have c4 : (1024 : Int) < m := by omega
  clear h
  go_enter Try.func20, Try.ntmps20
  go_wp2
  refine bodyPost_ret (results_iit rfl Try.underlying3 _ _ (w.heap.size + 1 + 1) (w.heap.size + 1 + 1 + 1) 0 0 rfl rfl S1.out M1.out) rfl ?_
  exact ⟨rfl, HB.out⟩
set_option maxHeartbeats 4000000 in
set_option maxRecDepth 100000 in
theorem refslip_err (A B : Option Addr) (na nb ca cb : Nat) (m : Int) (w : World) (h : ¬ maySlip na nb m) :
    Calls Try.prog 21 #[.slice A na ca, .slice B nb cb, .int .i64 m] w fun e w' => e = .returned (.tuple #[.int .i64 0, .int .i64 0, .int .i64 1]) ∧ Below w.heap.size w w' := by
  unfold maySlip at h
  by_cases c1 : (4096 : Int) < (na : Int)
  · clear h
    go_enter Try.func21, Try.ntmps21
    go_wp2
    refine bodyPost_ret (results_tmp3 rfl _ _ _) rfl ?_
    exact ⟨rfl, Below.refl _ _⟩
  by_cases c2 : (4096 : Int) < (nb : Int)
  · clear h
    go_enter Try.func21, Try.ntmps21
    go_wp2
    refine bodyPost_ret (results_tmp3 rfl _ _ _) rfl ?_
    exact ⟨rfl, Below.refl _ _⟩
  by_cases c3 : m < 0
  · clear h
    go_enter Try.func21, Try.ntmps21
    go_wp2
    refine bodyPost_ret (results_tmp3 rfl _ _ _) rfl ?_
    exact ⟨rfl, Below.refl _ _⟩
  have c4 : (1024 : Int) < m := by omega
  clear h
  go_enter Try.func21, Try.ntmps21
  go_wp2
  refine bodyPost_ret (results_tmp3 rfl _ _ _) rfl ?_
  exact ⟨rfl, Below.refl _ _⟩
end Go.Proofs.Ytjhapibelhakdaa.Pure
