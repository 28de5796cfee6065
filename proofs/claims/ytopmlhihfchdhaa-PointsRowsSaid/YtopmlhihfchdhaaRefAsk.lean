/- What the reference tells of a set: a label's point, a point's label. -/
import Derived.Test.YtopmlhihfchdhaaFogx0
import Derived.Test.YtopmlhihfchdhaaRefAll
namespace Go.Proofs.Ytopmlhihfchdhaa.Pure
open Go.RowKit Go.Proofs.Ytopmlhihfchdhaa.Fog Go.Proofs.YtopmlhihfchdhaaW.PrintWords Go.Proofs.YtopmlhihfchdhaaW.PrintLast Go.Proofs.YtopmlhihfchdhaaW.PrintMore Go.Proofs.Ytopmlhihfchdhaa.Kit
set_option linter.unusedVariables false
set_option linter.unusedSimpArgs false
theorem refall_sl (n : Nat) (h : isSz n) (w : World) : Calls Try.prog 14 #[.int .i64 (n : Int)] w fun r w' => ∃ (A : Option Addr) (c : Nat), r = .returned (.tuple #[.slice A n c, .int .i64 0]) ∧ n ≤ c ∧ Kd.R KC 31 w' w.heap.size (fun _ => True) (.slice A n c) (zt n n) ∧ Below w.heap.size w w' := by
  refine (refall_any n h w).mono ?_
  rintro r w' ⟨v, rfl, hR, hB⟩
  obtain ⟨A, c, rfl⟩ := Kd.R_slice hR
  have g := (Kd.R_reads' hR).2.1
  rw [zt_length] at hR g ⊢
  exact ⟨A, c, rfl, g, hR, hB⟩
set_option maxHeartbeats 2000000 in
set_option maxRecDepth 100000 in
theorem refat_any (n lb : Nat) (h : isSz n) (hl : lb < n) (w : World) : Calls Try.prog 24 #[.int .i64 (n : Int), .int .i64 (lb : Int)] w fun r w' => r = .returned (.tuple #[.complex .f64 (zAt n lb).1 (zAt n lb).2, .int .i64 0]) ∧ Below w.heap.size w w' := by
  have HA := Aside0.mk (fun w => refall_sl n h w)
  have q1 : ¬ (lb : Int) < 0 := by omega
  have q2 : ¬ (n : Int) ≤ (lb : Int) := by omega
  have q3 : (0 : Int) ≤ (lb : Int) := by omega
  have q4 : (lb : Int) < (n : Int) := by omega
  have HL := Aside0.mk hl
  clear h hl
  go_enter Try.func24, Try.ntmps24
  go_wp2_with (go_at_call 14; (with_reducible refine (HA.out _).mono ?_); rintro r1 w1 ⟨A, c, rfl, hc, hR, hb⟩; (have HB1 := Aside0.mk hb); (have hcc := (Kd.R_reads' hR).2.2); (rw [zt_length] at hcc); (obtain ⟨ad, hA, k1⟩ := cx_at hcc lb HL.out); subst hA; (rw [zt_getD n n lb HL.out] at k1); clear hR hb hcc)
  go_ret2
  exact ⟨rfl, HB1.out⟩
set_option maxHeartbeats 2000000 in
set_option maxRecDepth 100000 in
theorem refat_bad (n : Nat) (lb : Int) (h : isSz n) (hl : lb < 0 ∨ (n : Int) ≤ lb) (w : World) : Calls Try.prog 24 #[.int .i64 (n : Int), .int .i64 lb] w fun r w' => r = .returned (.tuple #[.complex .f64 0 0, .int .i64 1]) ∧ Below w.heap.size w w' := by
  have HA := Aside0.mk (fun w => refall_sl n h w)
  clear h
  by_cases h1 : lb < 0
  · clear hl
    go_enter Try.func24, Try.ntmps24
    go_wp2_with (go_at_call 14; (with_reducible refine (HA.out _).mono ?_); rintro r1 w1 ⟨A, c, rfl, hc, hR, hb⟩; (have HB1 := Aside0.mk hb); clear hR hb)
    go_ret2
    exact ⟨rfl, HB1.out⟩
  · have h2 : (n : Int) ≤ lb := by omega
    clear hl
    go_enter Try.func24, Try.ntmps24
    go_wp2_with (go_at_call 14; (with_reducible refine (HA.out _).mono ?_); rintro r1 w1 ⟨A, c, rfl, hc, hR, hb⟩; (have HB1 := Aside0.mk hb); clear hR hb)
    go_ret2
    exact ⟨rfl, HB1.out⟩
set_option maxHeartbeats 1000000 in
set_option maxRecDepth 100000 in
theorem refat_no (n lb : Int) (h : noSz n) (w : World) : Calls Try.prog 24 #[.int .i64 n, .int .i64 lb] w fun r w' => r = .returned (.tuple #[.complex .f64 0 0, .int .i64 1]) ∧ Below w.heap.size w w' := by
  have HO := Aside0.mk (fun w => refall_no n h w)
  clear h
  go_enter Try.func24, Try.ntmps24
  go_wp2_with (go_at_call 14; (with_reducible refine (HO.out _).mono ?_); rintro r1 w1 ⟨rfl, hb⟩; (have HB1 := Aside0.mk hb); clear hb)
  go_ret2
  exact ⟨rfl, HB1.out⟩
set_option maxHeartbeats 2000000 in
set_option maxRecDepth 100000 in
theorem reflabel_any (n : Nat) (z1 z2 : Nat) (h : isSz n) (w : World) : Calls Try.prog 26 #[.int .i64 (n : Int), .complex .f64 z1 z2] w fun r w' => ∃ r1 r2 : Int, r = .returned (.tuple #[.int .i64 r1, .int .i64 r2]) ∧ LabIs n (z1, z2) r1 r2 ∧ Below w.heap.size w w' := by
  have HA := Aside0.mk (fun w => refall_sl n h w)
  have hn := (sz_le h).2
  clear h
  go_enter Try.func26, Try.ntmps26
  go_wp2_with (go_at_call 14; (with_reducible refine (HA.out _).mono ?_); rintro r1 w1 ⟨A, c, rfl, hc, hR, hb⟩; (have HB1 := Aside0.mk hb); (have HC := Aside0.mk (Kd.R_reads' hR).2.2); clear hR hb)
  go_loopw [8] (fun i wr => ∃ k : Nat, k ≤ n ∧ i = .int .i64 (k : Int) ∧ Aside0 (∀ j, j < k → hit n (z1, z2) j = false) ∧ wr = w1) (fun i _ => n - (intOf i).toNat)
  case atStart => exact ⟨0, Nat.zero_le _, rfl, ⟨fun j hj => absurd hj (Nat.not_lt_zero _)⟩, by first | rfl | trivial⟩
  case round =>
    obtain ⟨k, hk, rfl, HJ, rfl⟩ := hrel
    by_cases hlt : k < n
    · have q1 : (k : Int) < (n : Int) := by omega
      have q3 : (0 : Int) ≤ (k : Int) := by omega
      have hks : IntKind.i64.wrap ((k : Int) + 1) = (k : Int) + 1 := by rw [IntKind.wrap_i64]; omega
      have hcc := HC.out
      rw [zt_length] at hcc
      obtain ⟨ad, hA, k1⟩ := cx_at hcc k hlt
      subst hA
      rw [zt_getD n n k hlt] at k1
      obtain ⟨hv, hhv⟩ : ∃ hv, hit n (z1, z2) k = hv := ⟨_, rfl⟩
      have he : ((FloatKind.f64.format.order (zAt n k).1 z1 == some .eq) && (FloatKind.f64.format.order (zAt n k).2 z2 == some .eq)) = hv := hhv
      have HV := Aside0.mk hhv
      have HK := Aside0.mk hlt
      obtain ⟨⟨y1, y2⟩, hy⟩ : ∃ y, zAt n k = y := ⟨_, rfl⟩
      rw [hy] at k1 he
      simp only at k1 he
      clear hhv hcc hy
      cases hv
      · go_wp2
        exact ⟨⟨k + 1, hlt, by go_num, ⟨fun j hj => (by
          by_cases hjk : j < k
          · exact HJ.out j hjk
          · obtain rfl : j = k := by omega
            exact HV.out)⟩, by first | rfl | trivial⟩, by show n - ((k : Int) + 1).toNat < n - (k : Int).toNat; omega⟩
      · go_wp2
        go_ret2
        exact ⟨_, _, rfl, .inl ⟨k, HK.out, HV.out, HJ.out, rfl, rfl⟩, HB1.out⟩
    · have hkN : k = n := by omega
      subst hkN
      go_wp2
      go_ret2
      exact ⟨_, _, rfl, .inr ⟨HJ.out, rfl, rfl⟩, HB1.out⟩
set_option maxHeartbeats 1000000 in
set_option maxRecDepth 100000 in
theorem reflabel_no (n : Int) (z1 z2 : Nat) (h : noSz n) (w : World) : Calls Try.prog 26 #[.int .i64 n, .complex .f64 z1 z2] w fun r w' => r = .returned (.tuple #[.int .i64 0, .int .i64 1]) ∧ Below w.heap.size w w' := by
  have HO := Aside0.mk (fun w => refall_no n h w)
  clear h
  go_enter Try.func26, Try.ntmps26
  go_wp2_with (go_at_call 14; (with_reducible refine (HO.out _).mono ?_); rintro r1 w1 ⟨rfl, hb⟩; (have HB1 := Aside0.mk hb); clear hb)
  go_ret2
  exact ⟨rfl, HB1.out⟩
end Go.Proofs.Ytopmlhihfchdhaa.Pure
