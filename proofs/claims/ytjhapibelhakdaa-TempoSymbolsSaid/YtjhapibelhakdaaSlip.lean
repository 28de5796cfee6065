/- Slip: its closure, its loop. -/
import Derived.Test.YtjhapibelhakdaaFogx0
import Derived.Test.YtjhapibelhakdaaSmp
namespace Go.Proofs.Ytjhapibelhakdaa.Pure
open Go.RowKit Go.Proofs.Ytjhapibelhakdaa.Fog Go.Proofs.YtjhapibelhakdaaW.PrintWords Go.Proofs.YtjhapibelhakdaaW.PrintLast Go.Proofs.YtjhapibelhakdaaW.PrintMore Go.Proofs.Ytjhapibelhakdaa.Kit
set_option linter.unusedVariables false
set_option linter.unusedSimpArgs false
/-- What the closure leaves: the greater count, and its slip. -/
def tryV (a b : List Smp) (s : Int) (st : Int × Nat) : Int × Nat := if st.2 < agreeTo a b s a.length then (s, agreeTo a b s a.length) else st
/-- Two boxes turned, all else as it was. -/
structure Two (B1 B2 : Nat) (w w' : World) : Prop where
  os : w'.os = w.os
  tape : w'.tape = w.tape
  output : w'.output = w.output
  size : w'.heap.size = w.heap.size
  block : ∀ k, k ≠ B1 → k ≠ B2 → w'.heap[k]? = w.heap[k]?
theorem Two.refl (B1 B2 : Nat) (w : World) : Two B1 B2 w w := ⟨rfl, rfl, rfl, rfl, fun _ _ _ => rfl⟩
theorem Two.trans {B1 B2 : Nat} {u v w : World} (h : Two B1 B2 u v) (k : Two B1 B2 v w) : Two B1 B2 u w :=
  ⟨k.os.trans h.os, k.tape.trans h.tape, k.output.trans h.output, k.size.trans h.size, fun i h1 h2 => (k.block i h1 h2).trans (h.block i h1 h2)⟩
theorem Two.drewN {B1 B2 : Nat} {u v : World} (h : Two B1 B2 u v) (m : Nat) : Two B1 B2 u (v.drewN m) := ⟨h.os, h.tape, h.output, h.size, h.block⟩
theorem Two.set1 {B1 B2 : Nat} {u v : World} (h : Two B1 B2 u v) (x : Value) : Two B1 B2 u (v.setCell ⟨B1, 0, none⟩ x) :=
  ⟨h.os, h.tape, h.output, by simpa using h.size, fun i h1 h2 => (Below.heap_setCell _ _ _ i h1).trans (h.block i h1 h2)⟩
theorem Two.set2 {B1 B2 : Nat} {u v : World} (h : Two B1 B2 u v) (x : Value) : Two B1 B2 u (v.setCell ⟨B2, 0, none⟩ x) :=
  ⟨h.os, h.tape, h.output, by simpa using h.size, fun i h1 h2 => (Below.heap_setCell _ _ _ i h2).trans (h.block i h1 h2)⟩
theorem Two.below {B1 B2 n : Nat} {u v : World} (h : Two B1 B2 u v) (h1 : n ≤ B1) (h2 : n ≤ B2) : Below n u v := ⟨h.os, h.tape, h.output, Nat.le_of_eq h.size.symm, fun k hk => h.block k (by omega) (by omega)⟩
set_option maxHeartbeats 4000000 in
set_option maxRecDepth 100000 in
theorem try_calls (a b : List Smp) (A B : Option Addr) (ca cb Ba Bb Bm Bs : Nat) (s sl : Int) (sm : Nat) (w : World) (hA : Boxed w Ba 35 (.slice A a.length ca)) (hB : Boxed w Bb 35 (.slice B b.length cb)) (hM : Boxed w Bm 3 (.int .i64 (sm : Int))) (hS : Boxed w Bs 3 (.int .i64 sl))
    (ha : Kd.C KS w A a.length a) (hb : Kd.C KS w B b.length b) (hla : a.length ≤ 4096) (hlb : b.length ≤ 4096) (hs0 : -1024 ≤ s) (hs1 : s ≤ 1024) (hne : Bm ≠ Bs) :
    Calls Try.prog 36 #[.int .i64 s, .pointer (some ⟨Ba, 0, none⟩), .pointer (some ⟨Bb, 0, none⟩), .pointer (some ⟨Bm, 0, none⟩), .pointer (some ⟨Bs, 0, none⟩)] w fun e w' => e = .returned (.tuple #[]) ∧ Boxed w' Bm 3 (.int .i64 ((tryV a b s (sl, sm)).2 : Int)) ∧ Boxed w' Bs 3 (.int .i64 (tryV a b s (sl, sm)).1) ∧ Two Bm Bs w w' := by
  have HA := Aside0.mk hA
  have HB := Aside0.mk hB
  have HM := Aside0.mk hM
  have HS := Aside0.mk hS
  have Ha := Aside0.mk ha
  have Hb := Aside0.mk hb
  have xa := hA.cell
  have xb := hB.cell
  have xm := hM.cell
  have fm := hM.frozen
  have xs := hS.cell
  have fs := hS.frozen
  obtain ⟨na, hna⟩ : ∃ n, a.length = n := ⟨_, rfl⟩
  obtain ⟨nb, hnb⟩ : ∃ n, b.length = n := ⟨_, rfl⟩
  have HNA := Aside0.mk hna
  have HNB := Aside0.mk hnb
  rw [hna] at xa hla Ha
  rw [hnb] at xb hlb Hb
  have hw1 : IntKind.i64.wrap (-s) = -s := by rw [IntKind.wrap_i64]; omega
  have hw2 : IntKind.i64.wrap ((nb : Int) - s) = (nb : Int) - s := by rw [IntKind.wrap_i64]; omega
  clear hA hB hM hS ha hb hna hnb
  by_cases hsg : 0 < -s
  · obtain ⟨lo, hlo⟩ : ∃ lo : Nat, (lo : Int) = -s := ⟨(-s).toNat, by omega⟩
    go_enter Try.func36, Try.ntmps36
    go_wp2
    go_loopw [6, 7] (fun c i wr => ∃ k : Nat, (k ≤ na ∨ (k : Int) + s ≤ 0) ∧ 0 ≤ (k : Int) + s ∧ c = .int .i64 (agreeTo a b s k : Int) ∧ i = .int .i64 (k : Int) ∧ Aside0 (∃ m, wr = w.drewN m)) (fun _ i _ => na - (intOf i).toNat)
    case atStart => exact ⟨lo, .inr (by omega), by omega, by rw [agreeTo_low a b s lo (by omega)]; rfl, by rw [hlo], ⟨0, rfl⟩⟩
    case round =>
      obtain ⟨k, hk, hk0, rfl, rfl, ⟨m, rfl⟩⟩ := hrel
      by_cases hin : k < na ∧ (k : Int) < (nb : Int) - s ∧ 0 ≤ (k : Int) + s
      · obtain ⟨hi1, hi2, hi3⟩ := hin
        have hi1' : (k : Int) < (na : Int) := by omega
        obtain ⟨j, hj⟩ : ∃ j : Nat, (k : Int) + s = (j : Int) := ⟨((k : Int) + s).toNat, by omega⟩
        have hj1 : (j : Int) < (nb : Int) := by omega
        obtain ⟨ad, rfl, x1, x2⟩ := smp_at Ha.out k hi1
        obtain ⟨bd, rfl, y1, y2⟩ := smp_at Hb.out j (by omega)
        have hsu : agreeTo a b s (k + 1) = agreeTo a b s k + (if agr (a.getD k s0) (b.getD j s0) = true then 1 else 0) := by
          rw [agreeTo_succ]
          unfold inA
          rw [decide_eq_true (show 0 ≤ (k : Int) + s ∧ (k : Int) + s < (b.length : Int) by have := HNB.out; omega), hj, Int.toNat_natCast, Bool.true_and]
        obtain ⟨⟨⟨p1, p2⟩, l1⟩, hX⟩ : ∃ X : Smp, a.getD k s0 = X := ⟨_, rfl⟩
        obtain ⟨⟨⟨q1, q2⟩, l2⟩, hY⟩ : ∃ Y : Smp, b.getD j s0 = Y := ⟨_, rfl⟩
        rw [hX] at x1 x2
        rw [hY] at y1 y2
        rw [hX, hY] at hsu
        unfold agr eqC at hsu
        simp only at x1 x2 y1 y2 hsu
        obtain ⟨e, he⟩ : ∃ e, ((FloatKind.f64.format.order p1 q1 == some .eq) && (FloatKind.f64.format.order p2 q2 == some .eq)) = e := ⟨_, rfl⟩
        rw [he] at hsu
        obtain ⟨C, hC⟩ : ∃ C, agreeTo a b s k = C := ⟨_, rfl⟩
        have hCk := agreeTo_le a b s k
        rw [hC] at hsu hCk ⊢
        have HSU := Aside0.mk hsu
        clear hX hY hC hsu
        go_wp2
        all_goals
          rcases l1 with _ | _
          rotate_left
          rotate_right
          all_goals
            first
            | (cases l2 <;> cases e
               all_goals
                 simp only [Bool.not_true, Bool.not_false, Bool.true_and, Bool.false_and, Bool.and_true, Bool.and_false, if_true, if_false, Bool.false_eq_true, Nat.add_zero] at HSU
                 go_quiet (fail)
                 go_wp2
                 go_roundw
                 case rel => exact ⟨k + 1, .inl (by omega), by omega, by (rw [HSU.out]; try go_num), by go_num, ⟨m + nq, rfl⟩⟩
                 case measure => simp [intOf]; omega)
      · have hout : ¬ ((k : Int) < (na : Int) ∧ (k : Int) < (nb : Int) - s) := by omega
        have hfin : agreeTo a b s na = agreeTo a b s k := by
          rcases hk with h1 | h1
          · rcases Nat.lt_or_ge k na with h2 | h2
            · have h3 := agreeTo_high a b s k (by have := HNB.out; omega) (na - k)
              rwa [show k + (na - k) = na by omega] at h3
            · rw [show k = na by omega]
          · rcases Nat.lt_or_ge k na with h2 | h2
            · have h3 := agreeTo_high a b s k (by have := HNB.out; omega) (na - k)
              rwa [show k + (na - k) = na by omega] at h3
            · rw [agreeTo_low a b s k h1, agreeTo_low a b s na (by omega)]
        have HFIN := Aside0.mk hfin
        have HTV := Aside0.mk (show tryV a b s (sl, sm) = if sm < agreeTo a b s k then (s, agreeTo a b s k) else (sl, sm) by unfold tryV; rw [HNA.out, hfin])
        obtain ⟨C, hC⟩ : ∃ C, agreeTo a b s k = C := ⟨_, rfl⟩
        rw [hC] at HTV ⊢
        clear hC hfin hk hin
        by_cases hmn : (na : Int) ≤ (nb : Int) - s
        · have hkn : ¬ (k : Int) < (na : Int) := by omega
          by_cases hgt : sm < C
          · have hgt' : (sm : Int) < (C : Int) := by omega
            have HT := Aside0.mk (show tryV a b s (sl, sm) = (s, C) from HTV.out.trans (if_pos hgt))
            clear hout
            go_wp2
            go_end0
            rw [HT.out]
            exact ⟨rfl, Boxed.set _ (show Boxed _ Bm _ _ from (Below.heap_setCell _ _ _ Bm hne).trans HM.out), (Below.heap_setCell _ _ _ Bs (Ne.symm hne)).trans (Boxed.set (W := w.drewN m) (.int .i64 s) HS.out), ((((Two.refl Bm Bs w).drewN m).set2 _).set1 _)⟩
          · have hgt' : ¬ (sm : Int) < (C : Int) := by omega
            have HT := Aside0.mk (show tryV a b s (sl, sm) = (sl, sm) from HTV.out.trans (if_neg hgt))
            clear hout
            go_wp2
            go_end0
            rw [HT.out]
            exact ⟨rfl, HM.out, HS.out, (Two.refl Bm Bs w).drewN m⟩
        · have hkn : ¬ (k : Int) < (nb : Int) - s := by omega
          by_cases hgt : sm < C
          · have hgt' : (sm : Int) < (C : Int) := by omega
            have HT := Aside0.mk (show tryV a b s (sl, sm) = (s, C) from HTV.out.trans (if_pos hgt))
            clear hout
            go_wp2
            go_end0
            rw [HT.out]
            exact ⟨rfl, Boxed.set _ (show Boxed _ Bm _ _ from (Below.heap_setCell _ _ _ Bm hne).trans HM.out), (Below.heap_setCell _ _ _ Bs (Ne.symm hne)).trans (Boxed.set (W := w.drewN m) (.int .i64 s) HS.out), ((((Two.refl Bm Bs w).drewN m).set2 _).set1 _)⟩
          · have hgt' : ¬ (sm : Int) < (C : Int) := by omega
            have HT := Aside0.mk (show tryV a b s (sl, sm) = (sl, sm) from HTV.out.trans (if_neg hgt))
            clear hout
            go_wp2
            go_end0
            rw [HT.out]
            exact ⟨rfl, HM.out, HS.out, (Two.refl Bm Bs w).drewN m⟩
  · have hsg2 : -s ≤ 0 := by omega
    go_enter Try.func36, Try.ntmps36
    go_wp2
    go_loopw [6, 7] (fun c i wr => ∃ k : Nat, (k ≤ na ∨ (k : Int) + s ≤ 0) ∧ 0 ≤ (k : Int) + s ∧ c = .int .i64 (agreeTo a b s k : Int) ∧ i = .int .i64 (k : Int) ∧ Aside0 (∃ m, wr = w.drewN m)) (fun _ i _ => na - (intOf i).toNat)
    case atStart => exact ⟨0, .inl (Nat.zero_le _), by omega, rfl, rfl, ⟨0, rfl⟩⟩
    case round =>
      obtain ⟨k, hk, hk0, rfl, rfl, ⟨m, rfl⟩⟩ := hrel
      by_cases hin : k < na ∧ (k : Int) < (nb : Int) - s ∧ 0 ≤ (k : Int) + s
      · obtain ⟨hi1, hi2, hi3⟩ := hin
        have hi1' : (k : Int) < (na : Int) := by omega
        obtain ⟨j, hj⟩ : ∃ j : Nat, (k : Int) + s = (j : Int) := ⟨((k : Int) + s).toNat, by omega⟩
        have hj1 : (j : Int) < (nb : Int) := by omega
        obtain ⟨ad, rfl, x1, x2⟩ := smp_at Ha.out k hi1
        obtain ⟨bd, rfl, y1, y2⟩ := smp_at Hb.out j (by omega)
        have hsu : agreeTo a b s (k + 1) = agreeTo a b s k + (if agr (a.getD k s0) (b.getD j s0) = true then 1 else 0) := by
          rw [agreeTo_succ]
          unfold inA
          rw [decide_eq_true (show 0 ≤ (k : Int) + s ∧ (k : Int) + s < (b.length : Int) by have := HNB.out; omega), hj, Int.toNat_natCast, Bool.true_and]
        obtain ⟨⟨⟨p1, p2⟩, l1⟩, hX⟩ : ∃ X : Smp, a.getD k s0 = X := ⟨_, rfl⟩
        obtain ⟨⟨⟨q1, q2⟩, l2⟩, hY⟩ : ∃ Y : Smp, b.getD j s0 = Y := ⟨_, rfl⟩
        rw [hX] at x1 x2
        rw [hY] at y1 y2
        rw [hX, hY] at hsu
        unfold agr eqC at hsu
        simp only at x1 x2 y1 y2 hsu
        obtain ⟨e, he⟩ : ∃ e, ((FloatKind.f64.format.order p1 q1 == some .eq) && (FloatKind.f64.format.order p2 q2 == some .eq)) = e := ⟨_, rfl⟩
        rw [he] at hsu
        obtain ⟨C, hC⟩ : ∃ C, agreeTo a b s k = C := ⟨_, rfl⟩
        have hCk := agreeTo_le a b s k
        rw [hC] at hsu hCk ⊢
        have HSU := Aside0.mk hsu
        clear hX hY hC hsu
        go_wp2
        all_goals
          rcases l1 with _ | _
          rotate_left
          rotate_right
          all_goals
            first
            | (cases l2 <;> cases e
               all_goals
                 simp only [Bool.not_true, Bool.not_false, Bool.true_and, Bool.false_and, Bool.and_true, Bool.and_false, if_true, if_false, Bool.false_eq_true, Nat.add_zero] at HSU
                 go_quiet (fail)
                 go_wp2
                 go_roundw
                 case rel => exact ⟨k + 1, .inl (by omega), by omega, by (rw [HSU.out]; try go_num), by go_num, ⟨m + nq, rfl⟩⟩
                 case measure => simp [intOf]; omega)
      · have hout : ¬ ((k : Int) < (na : Int) ∧ (k : Int) < (nb : Int) - s) := by omega
        have hfin : agreeTo a b s na = agreeTo a b s k := by
          rcases hk with h1 | h1
          · rcases Nat.lt_or_ge k na with h2 | h2
            · have h3 := agreeTo_high a b s k (by have := HNB.out; omega) (na - k)
              rwa [show k + (na - k) = na by omega] at h3
            · rw [show k = na by omega]
          · rcases Nat.lt_or_ge k na with h2 | h2
            · have h3 := agreeTo_high a b s k (by have := HNB.out; omega) (na - k)
              rwa [show k + (na - k) = na by omega] at h3
            · rw [agreeTo_low a b s k h1, agreeTo_low a b s na (by omega)]
        have HFIN := Aside0.mk hfin
        have HTV := Aside0.mk (show tryV a b s (sl, sm) = if sm < agreeTo a b s k then (s, agreeTo a b s k) else (sl, sm) by unfold tryV; rw [HNA.out, hfin])
        obtain ⟨C, hC⟩ : ∃ C, agreeTo a b s k = C := ⟨_, rfl⟩
        rw [hC] at HTV ⊢
        clear hC hfin hk hin
        by_cases hmn : (na : Int) ≤ (nb : Int) - s
        · have hkn : ¬ (k : Int) < (na : Int) := by omega
          by_cases hgt : sm < C
          · have hgt' : (sm : Int) < (C : Int) := by omega
            have HT := Aside0.mk (show tryV a b s (sl, sm) = (s, C) from HTV.out.trans (if_pos hgt))
            clear hout
            go_wp2
            go_end0
            rw [HT.out]
            exact ⟨rfl, Boxed.set _ (show Boxed _ Bm _ _ from (Below.heap_setCell _ _ _ Bm hne).trans HM.out), (Below.heap_setCell _ _ _ Bs (Ne.symm hne)).trans (Boxed.set (W := w.drewN m) (.int .i64 s) HS.out), ((((Two.refl Bm Bs w).drewN m).set2 _).set1 _)⟩
          · have hgt' : ¬ (sm : Int) < (C : Int) := by omega
            have HT := Aside0.mk (show tryV a b s (sl, sm) = (sl, sm) from HTV.out.trans (if_neg hgt))
            clear hout
            go_wp2
            go_end0
            rw [HT.out]
            exact ⟨rfl, HM.out, HS.out, (Two.refl Bm Bs w).drewN m⟩
        · have hkn : ¬ (k : Int) < (nb : Int) - s := by omega
          by_cases hgt : sm < C
          · have hgt' : (sm : Int) < (C : Int) := by omega
            have HT := Aside0.mk (show tryV a b s (sl, sm) = (s, C) from HTV.out.trans (if_pos hgt))
            clear hout
            go_wp2
            go_end0
            rw [HT.out]
            exact ⟨rfl, Boxed.set _ (show Boxed _ Bm _ _ from (Below.heap_setCell _ _ _ Bm hne).trans HM.out), (Below.heap_setCell _ _ _ Bs (Ne.symm hne)).trans (Boxed.set (W := w.drewN m) (.int .i64 s) HS.out), ((((Two.refl Bm Bs w).drewN m).set2 _).set1 _)⟩
          · have hgt' : ¬ (sm : Int) < (C : Int) := by omega
            have HT := Aside0.mk (show tryV a b s (sl, sm) = (sl, sm) from HTV.out.trans (if_neg hgt))
            clear hout
            go_wp2
            go_end0
            rw [HT.out]
            exact ⟨rfl, HM.out, HS.out, (Two.refl Bm Bs w).drewN m⟩
end Go.Proofs.Ytjhapibelhakdaa.Pure
