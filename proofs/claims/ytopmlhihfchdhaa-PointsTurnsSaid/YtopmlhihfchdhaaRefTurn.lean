/- The reference's turned labels; numbers of the laws. -/
import Derived.Test.YtopmlhihfchdhaaFogx0
import Derived.Test.YtopmlhihfchdhaaFogx2
import Derived.Test.YtopmlhihfchdhaaMore
namespace Go.Proofs.Ytopmlhihfchdhaa.Pure
open Go.RowKit Go.Proofs.Ytopmlhihfchdhaa.Fog Go.Proofs.YtopmlhihfchdhaaW.PrintWords Go.Proofs.YtopmlhihfchdhaaW.PrintLast Go.Proofs.YtopmlhihfchdhaaW.PrintMore Go.Proofs.Ytopmlhihfchdhaa.Kit
set_option linter.unusedVariables false
set_option linter.unusedSimpArgs false
/-- A point after k quarters. -/
def tp (p : Int × Int) : Nat → Int × Int
  | 0 => p
  | k + 1 => (-(tp p k).2, (tp p k).1)
theorem tp_ok (p : Int × Int) (h : (-15 ≤ p.1 ∧ p.1 ≤ 15 ∧ p.1 ≠ 0) ∧ -15 ≤ p.2 ∧ p.2 ≤ 15 ∧ p.2 ≠ 0) : ∀ k, (-15 ≤ (tp p k).1 ∧ (tp p k).1 ≤ 15 ∧ (tp p k).1 ≠ 0) ∧ -15 ≤ (tp p k).2 ∧ (tp p k).2 ≤ 15 ∧ (tp p k).2 ≠ 0
  | 0 => h
  | k + 1 => by
    have ih := tp_ok p h k
    show (-15 ≤ -(tp p k).2 ∧ -(tp p k).2 ≤ 15 ∧ -(tp p k).2 ≠ 0) ∧ -15 ≤ (tp p k).1 ∧ (tp p k).1 ≤ 15 ∧ (tp p k).1 ≠ 0
    omega
theorem ng_all : ∀ i : Fin 31, (i.val : Int) - 15 = 0 ∨ ngF (fI ((i.val : Int) - 15)) = fI (-((i.val : Int) - 15)) := by decide +kernel
theorem ng_f (a : Int) (h0 : -15 ≤ a ∧ a ≤ 15 ∧ a ≠ 0) : ngF (fI a) = fI (-a) := by
  have h := ng_all ⟨(a + 15).toNat, by omega⟩
  have e : (((⟨(a + 15).toNat, by omega⟩ : Fin 31).val : Int)) - 15 = a := by simp only; omega
  rw [e] at h
  rcases h with h | h
  · exact absurd h h0.2.2
  · exact h
theorem tz_tp (p : Int × Int) (h : (-15 ≤ p.1 ∧ p.1 ≤ 15 ∧ p.1 ≠ 0) ∧ -15 ≤ p.2 ∧ p.2 ≤ 15 ∧ p.2 ≠ 0) : ∀ k, tz (fI p.1, fI p.2) k = (fI (tp p k).1, fI (tp p k).2)
  | 0 => rfl
  | k + 1 => by
    show (ngF (tz (fI p.1, fI p.2) k).2, (tz (fI p.1, fI p.2) k).1) = (fI (-(tp p k).2), fI (tp p k).1)
    rw [tz_tp p h k]
    show (ngF (fI (tp p k).2), fI (tp p k).1) = _
    rw [ng_f _ (tp_ok p h k).2]
def ptNz (n : Nat) : Bool := (List.range n).all fun i => decide ((ptP n i).1 % 2 = 1 ∧ (ptP n i).2 % 2 = 1)
theorem nz_all : ∀ n ∈ [4, 16, 32, 64, 128, 256], ptNz n = true := by decide +kernel
theorem pt_odd (n i : Nat) (h : isSz n) (hi : i < n) : (ptP n i).1 % 2 = 1 ∧ (ptP n i).2 % 2 = 1 := by
  have h1 := nz_all n (by rcases h with rfl | rfl | rfl | rfl | rfl | rfl <;> decide)
  unfold ptNz at h1
  rw [List.all_eq_true] at h1
  exact of_decide_eq_true (h1 i (List.mem_range.2 hi))
theorem pt_box (n i : Nat) (h : isSz n) (hi : i < n) : (-15 ≤ (ptP n i).1 ∧ (ptP n i).1 ≤ 15 ∧ (ptP n i).1 ≠ 0) ∧ -15 ≤ (ptP n i).2 ∧ (ptP n i).2 ≤ 15 ∧ (ptP n i).2 ≠ 0 := by
  obtain ⟨p1, p2, p3, p4⟩ := pt_le n i h hi
  obtain ⟨o1, o2⟩ := pt_odd n i h hi
  omega
set_option maxHeartbeats 4000000 in
set_option maxRecDepth 100000 in
theorem refturned_walk (n lb q : Nat) (m t : Int) (h : isSz n) (hl : lb < n) (ht : Int.tmod m 4 = t) (hq : (0 ≤ t ∧ t = (q : Int)) ∨ (t < 0 ∧ t + 4 = (q : Int))) (hb : -4 < t ∧ t < 4) (w : World) : Calls Try.prog 28 #[.int .i64 (n : Int), .int .i64 (lb : Int), .int .i64 m] w fun r w' => ∃ r1 r2 : Int, r = .returned (.tuple #[.int .i64 r1, .int .i64 r2]) ∧ LabIs n (tz (zAt n lb) q) r1 r2 ∧ Below w.heap.size w w' := by
  have HP := Aside0.mk (fun w => foghornref04_Points.calls 1200 (n : Int) _ _ w (pts_any n h))
  have hbox := pt_box n lb h hl
  have hz : zAt n lb = (fI (ptP n lb).1, fI (ptP n lb).2) := rfl
  rw [hz]
  obtain ⟨p, hp⟩ : ∃ p, ptP n lb = p := ⟨_, rfl⟩
  rw [hp] at hbox
  rw [hp, tz_tp p hbox q]
  have HL := Aside0.mk (fun (z : Nat × Nat) (w : World) => reflabel_any n z.1 z.2 h w)
  have HBOX := Aside0.mk hbox
  have HPP := Aside0.mk hp
  have HLB := Aside0.mk hl
  have q1 : ¬ (lb : Int) < 0 := by omega
  have q2 : ¬ (n : Int) ≤ (lb : Int) := by omega
  have q3 : (0 : Int) ≤ (lb : Int) := by omega
  have q4 : (lb : Int) < (n : Int) := by omega
  have hw : IntKind.i64.wrap (Int.tmod m 4) = t := by rw [ht, IntKind.wrap_i64]; omega
  have HQ := Aside0.mk (show q ≤ 3 by omega)
  clear h hl hbox hz hp
  rcases hq with ⟨h0, rfl⟩ | ⟨h0, h1⟩
  · have h0' : ¬ ((q : Int) < 0) := by omega
    clear hb
    go_enter Try.func28, Try.ntmps28
    go_wp2_with (go_at_call 42; (with_reducible refine (HP.out _).mono ?_); rintro r1 w1 ⟨v0, rfl, hR, hb⟩; (obtain ⟨A, c, rfl⟩ := Kd.R_slice hR); (have HB1 := Aside0.mk hb); (have hcc := (Kd.R_reads' hR).2.2); (have hgg := (Kd.R_reads' hR).2.1); (rw [ptsL_length] at hcc hgg ⊢); (obtain ⟨ad, hA, k1, k2⟩ := pt65_at hcc lb HLB.out HLB.out); subst hA; (rw [HPP.out] at k1 k2); clear hR hb hcc)
    go_loopw [11] (fun i wr => ∃ k : Nat, k ≤ q ∧ i = .int .i64 (k : Int) ∧ Aside0 (wr.heap[w1.heap.size]? = some (.cells #[.int .i64 (tp p k).1, .int .i64 (tp p k).2] 65)) ∧ Aside0 (Below w1.heap.size w1 wr)) (fun i _ => q - (intOf i).toNat)
    case atStart => exact ⟨0, Nat.zero_le _, rfl, Aside0.mk (blk_new w1 _), Aside0.mk ((Below.refl _ _).alloc (Nat.le_refl _) _)⟩
    case round =>
      obtain ⟨k, hk, rfl, HE, HB⟩ := hrel
      by_cases hlt : k < q
      · have r1 : (k : Int) < (q : Int) := by omega
        have hks : IntKind.i64.wrap ((k : Int) + 1) = (k : Int) + 1 := by rw [IntKind.wrap_i64]; have := HQ.out; omega
        have hc := HE.out
        obtain ⟨⟨u1, u2, _⟩, u3, u4, _⟩ := tp_ok p HBOX.out k
        have he : tp p (k + 1) = (-(tp p k).2, (tp p k).1) := rfl
        obtain ⟨⟨x, y⟩, hxy⟩ : ∃ z, tp p k = z := ⟨_, rfl⟩
        rw [hxy] at hc u1 u2 u3 u4 he
        simp only at hc u1 u2 u3 u4 he
        have c0 := (blk_cell hc 0).trans rfl
        have c1 := (blk_cell hc 1).trans rfl
        have f0 := blk_frozen hc 0
        have f1 := blk_frozen hc 1
        have hn : IntKind.i64.wrap (-y) = -y := by rw [IntKind.wrap_i64]; omega
        have HC := Aside0.mk hc
        have HE2 := Aside0.mk he
        clear hc he hxy u1 u2 u3 u4 HE
        go_wp2
        exact ⟨⟨k + 1, hlt, by go_num, Aside0.mk (by rw [HE2.out]; exact blk_put (blk_put HC.out 0 _ rfl) 1 _ rfl), Aside0.mk ((HB.out.setCell (Nat.le_refl _) _).setCell (Nat.le_refl _) _)⟩, by show q - ((k : Int) + 1).toNat < q - (k : Int).toNat; omega⟩
      · obtain rfl : k = q := by omega
        have hc := HE.out
        obtain ⟨⟨x, y⟩, hxy⟩ : ∃ z, tp p k = z := ⟨_, rfl⟩
        rw [hxy] at hc
        simp only at hc
        have HXY := Aside0.mk hxy
        have c0 := (blk_cell hc 0).trans rfl
        have c1 := (blk_cell hc 1).trans rfl
        have HLZ := Aside0.mk (fun w => HL.out (fI x, fI y) w)
        clear hc hxy HE
        go_wp2_with (first
          | (go_at_call 43; (with_reducible refine (number_calls _ _ _).mono ?_); rintro r2 w2 ⟨rfl, hb⟩; (have HB2 := Aside0.mk (below_step HB1.out (below_step HB.out hb))); clear hb)
          | (go_at_call 26; (with_reducible refine (HLZ.out _).mono ?_); rintro e w3 ⟨r1, r2, rfl, hr, hb⟩; (have HB3 := Aside0.mk (below_step HB2.out hb)); (have HR := Aside0.mk hr); clear hr hb))
        go_ret2
        rw [HXY.out]
        exact ⟨_, _, rfl, HR.out, HB3.out⟩
  · have hw4 : IntKind.i64.wrap (t + 4) = (q : Int) := by rw [h1, IntKind.wrap_i64]; omega
    clear hb h1
    go_enter Try.func28, Try.ntmps28
    go_wp2_with (go_at_call 42; (with_reducible refine (HP.out _).mono ?_); rintro r1 w1 ⟨v0, rfl, hR, hb⟩; (obtain ⟨A, c, rfl⟩ := Kd.R_slice hR); (have HB1 := Aside0.mk hb); (have hcc := (Kd.R_reads' hR).2.2); (have hgg := (Kd.R_reads' hR).2.1); (rw [ptsL_length] at hcc hgg ⊢); (obtain ⟨ad, hA, k1, k2⟩ := pt65_at hcc lb HLB.out HLB.out); subst hA; (rw [HPP.out] at k1 k2); clear hR hb hcc)
    go_loopw [11] (fun i wr => ∃ k : Nat, k ≤ q ∧ i = .int .i64 (k : Int) ∧ Aside0 (wr.heap[w1.heap.size]? = some (.cells #[.int .i64 (tp p k).1, .int .i64 (tp p k).2] 65)) ∧ Aside0 (Below w1.heap.size w1 wr)) (fun i _ => q - (intOf i).toNat)
    case atStart => exact ⟨0, Nat.zero_le _, rfl, Aside0.mk (blk_new w1 _), Aside0.mk ((Below.refl _ _).alloc (Nat.le_refl _) _)⟩
    case round =>
      obtain ⟨k, hk, rfl, HE, HB⟩ := hrel
      by_cases hlt : k < q
      · have r1 : (k : Int) < (q : Int) := by omega
        have hks : IntKind.i64.wrap ((k : Int) + 1) = (k : Int) + 1 := by rw [IntKind.wrap_i64]; have := HQ.out; omega
        have hc := HE.out
        obtain ⟨⟨u1, u2, _⟩, u3, u4, _⟩ := tp_ok p HBOX.out k
        have he : tp p (k + 1) = (-(tp p k).2, (tp p k).1) := rfl
        obtain ⟨⟨x, y⟩, hxy⟩ : ∃ z, tp p k = z := ⟨_, rfl⟩
        rw [hxy] at hc u1 u2 u3 u4 he
        simp only at hc u1 u2 u3 u4 he
        have c0 := (blk_cell hc 0).trans rfl
        have c1 := (blk_cell hc 1).trans rfl
        have f0 := blk_frozen hc 0
        have f1 := blk_frozen hc 1
        have hn : IntKind.i64.wrap (-y) = -y := by rw [IntKind.wrap_i64]; omega
        have HC := Aside0.mk hc
        have HE2 := Aside0.mk he
        clear hc he hxy u1 u2 u3 u4 HE
        go_wp2
        exact ⟨⟨k + 1, hlt, by go_num, Aside0.mk (by rw [HE2.out]; exact blk_put (blk_put HC.out 0 _ rfl) 1 _ rfl), Aside0.mk ((HB.out.setCell (Nat.le_refl _) _).setCell (Nat.le_refl _) _)⟩, by show q - ((k : Int) + 1).toNat < q - (k : Int).toNat; omega⟩
      · obtain rfl : k = q := by omega
        have hc := HE.out
        obtain ⟨⟨x, y⟩, hxy⟩ : ∃ z, tp p k = z := ⟨_, rfl⟩
        rw [hxy] at hc
        simp only at hc
        have HXY := Aside0.mk hxy
        have c0 := (blk_cell hc 0).trans rfl
        have c1 := (blk_cell hc 1).trans rfl
        have HLZ := Aside0.mk (fun w => HL.out (fI x, fI y) w)
        clear hc hxy HE
        go_wp2_with (first
          | (go_at_call 43; (with_reducible refine (number_calls _ _ _).mono ?_); rintro r2 w2 ⟨rfl, hb⟩; (have HB2 := Aside0.mk (below_step HB1.out (below_step HB.out hb))); clear hb)
          | (go_at_call 26; (with_reducible refine (HLZ.out _).mono ?_); rintro e w3 ⟨r1, r2, rfl, hr, hb⟩; (have HB3 := Aside0.mk (below_step HB2.out hb)); (have HR := Aside0.mk hr); clear hr hb))
        go_ret2
        rw [HXY.out]
        exact ⟨_, _, rfl, HR.out, HB3.out⟩
theorem refturned_any (n lb : Nat) (m : Int) (h : isSz n) (hl : lb < n) (w : World) : Calls Try.prog 28 #[.int .i64 (n : Int), .int .i64 (lb : Int), .int .i64 m] w fun r w' => ∃ r1 r2 : Int, r = .returned (.tuple #[.int .i64 r1, .int .i64 r2]) ∧ LabIs n (tz (zAt n lb) (m % 4).toNat) r1 r2 ∧ Below w.heap.size w w' := by
  have h1 := Int.tmod_lt_of_pos m (show (0 : Int) < 4 by decide)
  have h2 := Int.lt_tmod_of_pos m (show (0 : Int) < 4 by decide)
  refine refturned_walk n lb (m % 4).toNat m _ h hl rfl ?_ ⟨h2, h1⟩ w
  by_cases hm : 0 ≤ m
  · rw [Int.tmod_eq_emod_of_nonneg hm]; omega
  · obtain ⟨c, rfl⟩ : ∃ c, m = -c := ⟨-m, by omega⟩
    rw [Int.neg_tmod, Int.tmod_eq_emod_of_nonneg (by omega)]; omega
set_option maxHeartbeats 2000000 in
set_option maxRecDepth 100000 in
theorem refturned_bad (n : Nat) (lb m : Int) (h : isSz n) (hl : lb < 0 ∨ (n : Int) ≤ lb) (w : World) : Calls Try.prog 28 #[.int .i64 (n : Int), .int .i64 lb, .int .i64 m] w fun r w' => r = .returned (.tuple #[.int .i64 0, .int .i64 1]) ∧ Below w.heap.size w w' := by
  have HP := Aside0.mk (fun w => foghornref04_Points.calls 1200 (n : Int) _ _ w (pts_any n h))
  clear h
  by_cases h1 : lb < 0
  · clear hl
    go_enter Try.func28, Try.ntmps28
    go_wp2_with (go_at_call 42; (with_reducible refine (HP.out _).mono ?_); rintro r1 w1 ⟨v0, rfl, hR, hb⟩; (obtain ⟨A, c, rfl⟩ := Kd.R_slice hR); (have HB1 := Aside0.mk hb); clear hR hb)
    go_ret2
    exact ⟨rfl, HB1.out⟩
  · have h2 : (n : Int) ≤ lb := by omega
    clear hl
    go_enter Try.func28, Try.ntmps28
    go_wp2_with (go_at_call 42; (with_reducible refine (HP.out _).mono ?_); rintro r1 w1 ⟨v0, rfl, hR, hb⟩; (obtain ⟨A, c, rfl⟩ := Kd.R_slice hR); (have HB1 := Aside0.mk hb); clear hR hb)
    go_ret2
    exact ⟨rfl, HB1.out⟩
set_option maxHeartbeats 1000000 in
set_option maxRecDepth 100000 in
theorem refturned_no (n lb m : Int) (h : noSz n) (w : World) : Calls Try.prog 28 #[.int .i64 n, .int .i64 lb, .int .i64 m] w fun r w' => r = .returned (.tuple #[.int .i64 0, .int .i64 1]) ∧ Below w.heap.size w w' := by
  have HP := Aside0.mk (fun w => foghornref04_Points.calls 1200 n _ _ w (pts_no n h))
  clear h
  go_enter Try.func28, Try.ntmps28
  go_wp2_with (go_at_call 42; (with_reducible refine (HP.out _).mono ?_); rintro r1 w1 ⟨v0, rfl, hR, hb⟩; (obtain ⟨A, c, rfl⟩ := Kd.R_slice hR); (have HB1 := Aside0.mk hb); clear hR hb)
  go_ret2
  exact ⟨rfl, HB1.out⟩
theorem at_bad (n : Nat) (lb : Int) (h : isSz n) (hl : lb < 0 ∨ (n : Int) ≤ lb) (w : World) : Calls Try.prog 23 #[.int .i64 (n : Int), .int .i64 lb] w fun r w' => r = .returned (.tuple #[.complex .f64 0 0, .int .i64 1]) ∧ Below w.heap.size w w' := by
  rcases of_any n h with ho | ho
  · exact atbad_Sq n lb _ _ ho hl w
  · exact atbad_Cr n lb _ _ ho hl w
set_option maxHeartbeats 1000000 in
set_option maxRecDepth 100000 in
theorem turned_bad (n : Nat) (lb m : Int) (h : isSz n) (hl : lb < 0 ∨ (n : Int) ≤ lb) (w : World) : Calls Try.prog 27 #[.int .i64 (n : Int), .int .i64 lb, .int .i64 m] w fun r w' => r = .returned (.tuple #[.int .i64 0, .int .i64 1]) ∧ Below w.heap.size w w' := by
  have HA := Aside0.mk (fun w => at_bad n lb h hl w)
  clear h hl
  go_enter Try.func27, Try.ntmps27
  go_wp2_with (go_at_call 23; (with_reducible refine (HA.out _).mono ?_); rintro r1 w1 ⟨rfl, hb⟩; (have HB1 := Aside0.mk hb); clear hb)
  go_ret2
  exact ⟨rfl, HB1.out⟩
set_option maxHeartbeats 1000000 in
set_option maxRecDepth 100000 in
theorem turned_no (n lb m : Int) (h : noSz n) (w : World) : Calls Try.prog 27 #[.int .i64 n, .int .i64 lb, .int .i64 m] w fun r w' => r = .returned (.tuple #[.int .i64 0, .int .i64 1]) ∧ Below w.heap.size w w' := by
  have HA := Aside0.mk (fun w => at_no n lb h w)
  clear h
  go_enter Try.func27, Try.ntmps27
  go_wp2_with (go_at_call 23; (with_reducible refine (HA.out _).mono ?_); rintro r1 w1 ⟨rfl, hb⟩; (have HB1 := Aside0.mk hb); clear hb)
  go_ret2
  exact ⟨rfl, HB1.out⟩
end Go.Proofs.Ytopmlhihfchdhaa.Pure
