/- The reference's coset: the walk. -/
import Derived.Test.YtopmlhihfchdhaaFogx0
import Derived.Test.YtopmlhihfchdhaaFogx2
import Derived.Test.YtopmlhihfchdhaaRefCosS
namespace Go.Proofs.Ytopmlhihfchdhaa.Pure
open Go.RowKit Go.Proofs.Ytopmlhihfchdhaa.Fog Go.Proofs.YtopmlhihfchdhaaW.PrintWords Go.Proofs.YtopmlhihfchdhaaW.PrintLast Go.Proofs.YtopmlhihfchdhaaW.PrintMore Go.Proofs.Ytopmlhihfchdhaa.Kit
set_option linter.unusedVariables false
set_option linter.unusedSimpArgs false
set_option maxHeartbeats 4000000 in
set_option maxRecDepth 100000 in
theorem refcoset_hit (n : Nat) (z1 z2 : Nat) (i lv : Nat) (h : isSz n) (hlv : lv ≤ 8) (hi : i < n) (hh : hit n (z1, z2) i = true) (hm : ∀ j, j < i → hit n (z1, z2) j = false) (w : World) :
    Calls Try.prog 30 #[.int .i64 (n : Int), .complex .f64 z1 z2, .int .i64 (lv : Int)] w fun r w' => r = .returned (.tuple #[.int .i64 (cosS (ptP n i).1 (ptP n i).2 lv).2.2, .int .i64 0]) ∧ Below w.heap.size w w' := by
  have HP := Aside0.mk (fun w => foghornref04_Points.calls 1200 (n : Int) _ _ w (pts_any n h))
  have HL := Aside0.mk (fun w => reflabel_any n z1 z2 h w)
  have HI := Aside0.mk (show LabIs n (z1, z2) (i : Int) 0 from .inl ⟨i, hi, hh, hm, rfl, rfl⟩)
  obtain ⟨p1, p2, p3, p4⟩ := pt_le n i h hi
  obtain ⟨x, hx⟩ : ∃ x, (ptP n i).1 = x := ⟨_, rfl⟩
  obtain ⟨y, hy⟩ : ∃ y, (ptP n i).2 = y := ⟨_, rfl⟩
  have HXY := Aside0.mk (And.intro hx hy)
  rw [hx] at p1 p2
  rw [hy] at p3 p4
  rw [hx, hy]
  have HB := Aside0.mk (show (-15 ≤ x ∧ x ≤ 15) ∧ -15 ≤ y ∧ y ≤ 15 from ⟨⟨p1, p2⟩, p3, p4⟩)
  have HIN := Aside0.mk hi
  have q1 : ¬ (lv : Int) < 0 := by omega
  have q2 : ¬ (8 : Int) < (lv : Int) := by omega
  have q3 : (0 : Int) ≤ (i : Int) := by omega
  have q4 : (i : Int) < (n : Int) := by omega
  have i1 : IntKind.i64.wrap (x + 1) = x + 1 := i64_small _ (by omega)
  have i2 : IntKind.i64.wrap (y + 1) = y + 1 := i64_small _ (by omega)
  have i3 : IntKind.i64.wrap (Int.tdiv (x + 1) 2) = Int.tdiv (x + 1) 2 := tdiv2_small _ (by omega)
  have i4 : IntKind.i64.wrap (Int.tdiv (y + 1) 2) = Int.tdiv (y + 1) 2 := tdiv2_small _ (by omega)
  have HS0 := Aside0.mk (CosAt.zero x y)
  obtain ⟨a0, ha0⟩ : ∃ a0, Int.tdiv (x + 1) 2 = a0 := ⟨_, rfl⟩
  obtain ⟨b0, hb0⟩ : ∃ b0, Int.tdiv (y + 1) 2 = b0 := ⟨_, rfl⟩
  rw [ha0] at i3 HS0
  rw [hb0] at i4 HS0
  clear h hi hh hm p1 p2 p3 p4 hx hy
  go_enter Try.func30, Try.ntmps30
  go_wp2_with (first
    | (go_at_call 42; (with_reducible refine (HP.out _).mono ?_); rintro r1 w1 ⟨v0, rfl, hR, hb⟩; (obtain ⟨A, c, rfl⟩ := Kd.R_slice hR); (have HB1 := Aside0.mk hb); (have hcc := (Kd.R_reads' hR).2.2); (have hgg := (Kd.R_reads' hR).2.1); (rw [ptsL_length] at hcc hgg ⊢); (have HC := Aside0.mk hcc); clear hR hb hcc)
    | (go_at_call 26; (with_reducible refine (HL.out _).mono ?_); rintro r2 w2 ⟨r1, r2, rfl, hr, hb⟩; (have HB2 := Aside0.mk (below_step HB1.out hb)); (obtain ⟨e1, e2⟩ := hr.one HI.out); subst e1 e2; (obtain ⟨ad, hA, k1, k2⟩ := pt65_at (Kd.C_below HC.out hb) i HIN.out HIN.out); subst hA; (rw [HXY.out.1] at k1); (rw [HXY.out.2] at k2); clear hr hb))
  clear i1 i2 i3 i4
  go_loopw [11, 12, 13, 14, 15] (fun a b o v i wr => ∃ (k : Nat) (a1 b1 o1 v1 : Int), k ≤ lv ∧ i = .int .i64 (k : Int) ∧ a = .int .i64 a1 ∧ b = .int .i64 b1 ∧ o = .int .i64 o1 ∧ v = .int .i64 v1 ∧ Aside0 (CosAt x y k a1 b1 o1) ∧ Aside0 (v1 = 2 ^ k) ∧ wr = w2) (fun _ _ _ _ i _ => lv - (intOf i).toNat)
  case atStart => exact ⟨0, _, _, _, _, Nat.zero_le _, rfl, rfl, rfl, rfl, rfl, HS0, Aside0.mk rfl, by first | rfl | trivial⟩
  case round =>
    obtain ⟨k, a1, b1, o1, v1, hk, rfl, rfl, rfl, rfl, rfl, HC, HV, rfl⟩ := hrel
    by_cases hlt : k < lv
    · have t1 : (k : Int) < (lv : Int) := by omega
      have hks : IntKind.i64.wrap ((k : Int) + 1) = (k : Int) + 1 := by rw [IntKind.wrap_i64]; omega
      obtain ⟨m1, m2, m3, m4⟩ := HC.out.small HB.out.1 HB.out.2 (by omega)
      obtain ⟨hst, g1, g2⟩ := HC.out.step HB.out.1 HB.out.2 (by omega)
      obtain ⟨g3, g4, g5⟩ := pow_le8 k (by omega)
      have hv := HV.out
      rw [← hv] at g2 g3 g4 g5 hst
      have HV2 := Aside0.mk (show 2 * v1 = 2 ^ (k + 1) from g5.symm)
      have j0 : IntKind.i64.wrap (2 * v1) = 2 * v1 := i64_small _ (by omega)
      have j1 : IntKind.i64.wrap (a1 + b1) = a1 + b1 := i64_small _ (by omega)
      by_cases hd : Int.tmod (a1 + b1) 2 = 0
      · rw [if_pos hd] at hst
        have HN := Aside0.mk hst
        have j4 : IntKind.i64.wrap (b1 - a1) = b1 - a1 := i64_small _ (by omega)
        have j5 := tdiv2_small (a1 + b1) (by omega)
        have j6 := tdiv2_small (b1 - a1) (by omega)
        have jt : IntKind.i64.wrap (Int.tmod (a1 + b1) 2) = Int.tmod (a1 + b1) 2 := by rw [hd]; rfl
        clear m1 m2 m3 m4 g1 g2 g3 g4 g5 hst hv
        go_wp2
        exact ⟨⟨k + 1, _, _, _, _, hlt, by go_num, rfl, rfl, rfl, rfl, HN, HV2, by first | rfl | trivial⟩, by show lv - ((k : Int) + 1).toNat < lv - (k : Int).toNat; omega⟩
      · rw [if_neg hd] at hst
        have HN := Aside0.mk hst
        have j2 : IntKind.i64.wrap (a1 - 1) = a1 - 1 := i64_small _ (by omega)
        have j3 : IntKind.i64.wrap (a1 - 1 + b1) = a1 - 1 + b1 := i64_small _ (by omega)
        have j4 : IntKind.i64.wrap (b1 - (a1 - 1)) = b1 - (a1 - 1) := i64_small _ (by omega)
        have j5 := tdiv2_small (a1 - 1 + b1) (by omega)
        have j6 := tdiv2_small (b1 - (a1 - 1)) (by omega)
        have j7 : IntKind.i64.wrap (o1 + v1) = o1 + v1 := i64_small _ (by omega)
        have jt : IntKind.i64.wrap (Int.tmod (a1 + b1) 2) = Int.tmod (a1 + b1) 2 := i64_small _ (by have h1 := Int.tmod_lt_of_pos (a1 + b1) (show (0 : Int) < 2 by decide); have h2 := Int.lt_tmod_of_pos (a1 + b1) (show (0 : Int) < 2 by decide); omega)
        have HN2 := Aside0.mk (show CosAt x y (k + 1) (Int.tdiv (a1 - 1 + b1) 2) (Int.tdiv (b1 - (a1 - 1)) 2) (o1 + v1) from HN.out)
        clear m1 m2 m3 m4 g1 g2 g3 g4 g5 hst hv
        go_wp2
        exact ⟨⟨k + 1, _, _, _, _, hlt, by go_num, rfl, rfl, rfl, rfl, HN2, HV2, by first | rfl | trivial⟩, by show lv - ((k : Int) + 1).toNat < lv - (k : Int).toNat; omega⟩
    · obtain rfl : k = lv := by omega
      have t1 : ¬ (k : Int) < (k : Int) := by omega
      have HB2' := HB2.out
      go_wp2
      go_ret2
      have ho : o1 = (cosS x y k).2.2 := by rw [show cosS x y k = (a1, b1, o1) from HC.out]
      subst ho
      exact ⟨rfl, HB2'⟩
set_option maxHeartbeats 4000000 in
set_option maxRecDepth 100000 in
theorem refcoset_lv (n : Nat) (z1 z2 : Nat) (lv : Int) (h : isSz n) (hlv : lv < 0 ∨ 8 < lv) (w : World) :
    Calls Try.prog 30 #[.int .i64 (n : Int), .complex .f64 z1 z2, .int .i64 lv] w fun r w' => r = .returned (.tuple #[.int .i64 0, .int .i64 1]) ∧ Below w.heap.size w w' := by
  have HP := Aside0.mk (fun w => foghornref04_Points.calls 1200 (n : Int) _ _ w (pts_any n h))
  clear h
  by_cases h1 : lv < 0
  · clear hlv
    go_enter Try.func30, Try.ntmps30
    go_wp2_with (go_at_call 42; (with_reducible refine (HP.out _).mono ?_); rintro r1 w1 ⟨v0, rfl, hR, hb⟩; (obtain ⟨A, c, rfl⟩ := Kd.R_slice hR); (have HB1 := Aside0.mk hb); clear hR hb)
    go_ret2
    exact ⟨rfl, HB1.out⟩
  · have h2 : 8 < lv := by omega
    clear hlv
    go_enter Try.func30, Try.ntmps30
    go_wp2_with (go_at_call 42; (with_reducible refine (HP.out _).mono ?_); rintro r1 w1 ⟨v0, rfl, hR, hb⟩; (obtain ⟨A, c, rfl⟩ := Kd.R_slice hR); (have HB1 := Aside0.mk hb); clear hR hb)
    go_ret2
    exact ⟨rfl, HB1.out⟩
set_option maxHeartbeats 4000000 in
set_option maxRecDepth 100000 in
theorem refcoset_none (n : Nat) (z1 z2 : Nat) (lv : Nat) (h : isSz n) (hlv : lv ≤ 8) (hno : ∀ j, j < n → hit n (z1, z2) j = false) (w : World) :
    Calls Try.prog 30 #[.int .i64 (n : Int), .complex .f64 z1 z2, .int .i64 (lv : Int)] w fun r w' => r = .returned (.tuple #[.int .i64 0, .int .i64 6]) ∧ Below w.heap.size w w' := by
  have HP := Aside0.mk (fun w => foghornref04_Points.calls 1200 (n : Int) _ _ w (pts_any n h))
  have HL := Aside0.mk (fun w => reflabel_any n z1 z2 h w)
  have HI := Aside0.mk (show LabIs n (z1, z2) 0 6 from .inr ⟨hno, rfl, rfl⟩)
  have q1 : ¬ (lv : Int) < 0 := by omega
  have q2 : ¬ (8 : Int) < (lv : Int) := by omega
  clear h hno
  go_enter Try.func30, Try.ntmps30
  go_wp2_with (first
    | (go_at_call 42; (with_reducible refine (HP.out _).mono ?_); rintro r1 w1 ⟨v0, rfl, hR, hb⟩; (obtain ⟨A, c, rfl⟩ := Kd.R_slice hR); (have HB1 := Aside0.mk hb); clear hR hb)
    | (go_at_call 26; (with_reducible refine (HL.out _).mono ?_); rintro r2 w2 ⟨r1, r2, rfl, hr, hb⟩; (have HB2 := Aside0.mk (below_step HB1.out hb)); (obtain ⟨e1, e2⟩ := hr.one HI.out); subst e1 e2; clear hr hb))
  go_ret2
  exact ⟨rfl, HB2.out⟩
set_option maxHeartbeats 1000000 in
set_option maxRecDepth 100000 in
theorem refcoset_no (n lv : Int) (z1 z2 : Nat) (h : noSz n) (w : World) : Calls Try.prog 30 #[.int .i64 n, .complex .f64 z1 z2, .int .i64 lv] w fun r w' => r = .returned (.tuple #[.int .i64 0, .int .i64 1]) ∧ Below w.heap.size w w' := by
  have HP := Aside0.mk (fun w => foghornref04_Points.calls 1200 n _ _ w (pts_no n h))
  clear h
  go_enter Try.func30, Try.ntmps30
  go_wp2_with (go_at_call 42; (with_reducible refine (HP.out _).mono ?_); rintro r1 w1 ⟨v0, rfl, hR, hb⟩; (obtain ⟨A, c, rfl⟩ := Kd.R_slice hR); (have HB1 := Aside0.mk hb); clear hR hb)
  go_ret2
  exact ⟨rfl, HB1.out⟩
end Go.Proofs.Ytopmlhihfchdhaa.Pure
