/- Both sides answer alike. -/
import Derived.Test.YtopmlhihfchdhaaFogx0
import Derived.Test.YtopmlhihfchdhaaFogx3
import Derived.Test.YtopmlhihfchdhaaRefTurn
import Derived.Test.YtopmlhihfchdhaaRefCos
import Derived.Test.YtopmlhihfchdhaaNum
import Derived.Test.YtopmlhihfchdhaaToInt
import Derived.Test.YtopmlhihfchdhaaMapC
namespace Go.Proofs.Ytopmlhihfchdhaa.Pure
open Go.RowKit Go.Proofs.Ytopmlhihfchdhaa.Fog Go.Proofs.YtopmlhihfchdhaaW.PrintWords Go.Proofs.YtopmlhihfchdhaaW.PrintLast Go.Proofs.YtopmlhihfchdhaaW.PrintMore Go.Proofs.Ytopmlhihfchdhaa.Kit
set_option linter.unusedVariables false
set_option linter.unusedSimpArgs false
theorem at_both (n lb : Int) : ∃ (x y : Nat) (e : Int), (FloatKind.f64.format.order x x = some .eq ∧ FloatKind.f64.format.order y y = some .eq) ∧
    (∀ w, Calls Try.prog 23 #[.int .i64 n, .int .i64 lb] w fun r w' => r = .returned (.tuple #[.complex .f64 x y, .int .i64 e]) ∧ Below w.heap.size w w') ∧
    (∀ w, Calls Try.prog 24 #[.int .i64 n, .int .i64 lb] w fun r w' => r = .returned (.tuple #[.complex .f64 x y, .int .i64 e]) ∧ Below w.heap.size w w') := by
  have h0 : FloatKind.f64.format.order 0 0 = some .eq := by decide +kernel
  rcases sz_or n with h | ⟨k, rfl, h⟩
  · exact ⟨0, 0, 1, ⟨h0, h0⟩, fun w => at_no n lb h w, fun w => refat_no n lb h w⟩
  · by_cases hl : lb < 0 ∨ (k : Int) ≤ lb
    · exact ⟨0, 0, 1, ⟨h0, h0⟩, fun w => at_bad k lb h hl w, fun w => refat_bad k lb h hl w⟩
    · obtain ⟨l, rfl⟩ : ∃ l : Nat, lb = (l : Int) := ⟨lb.toNat, by omega⟩
      exact ⟨_, _, 0, zAt_fine k l h (by omega), fun w => at_any k l h (by omega) w, fun w => refat_any k l h (by omega) w⟩
/-- The label's answer, by search. -/
def labA (n : Nat) (z : Nat × Nat) : Int × Int := match (List.range n).find? (hit n z) with | some i => ((i : Int), 0) | none => (0, 6)
theorem labA_is (n : Nat) (z : Nat × Nat) : LabIs n z (labA n z).1 (labA n z).2 := by
  unfold labA
  cases hf : (List.range n).find? (hit n z) with
  | none =>
    rw [List.find?_eq_none] at hf
    exact .inr ⟨fun j hj => by simpa using hf j (List.mem_range.2 hj), rfl, rfl⟩
  | some i =>
    obtain ⟨h1, La, Lb, h2, h3⟩ := List.find?_eq_some_iff_append.1 hf
    have hi := List.mem_of_find?_eq_some hf
    refine .inl ⟨i, List.mem_range.1 hi, h1, fun j hj => ?_, rfl, rfl⟩
    have hl : La.length = i := by
      have h4 : (List.range n)[La.length]? = some i := by rw [h2]; simp
      have h5 : La.length < n := by
        have := List.getElem?_eq_some_iff.1 h4
        obtain ⟨h6, _⟩ := this
        rwa [List.length_range] at h6
      rw [List.getElem?_range h5] at h4
      exact Option.some.inj h4
    have h4 : (List.range n)[j]? = La[j]? := by rw [h2, List.getElem?_append_left (by omega)]
    have hjn : j < n := by have := List.mem_range.1 hi; omega
    rw [List.getElem?_range hjn] at h4
    have h5 : j ∈ La := List.mem_of_getElem? h4.symm
    simpa using h3 j h5
theorem label_at (n : Nat) (h : isSz n) (z1 z2 : Nat) (w : World) : Calls Try.prog 25 #[.int .i64 (n : Int), .complex .f64 z1 z2] w fun r w' => r = .returned (.tuple #[.int .i64 (labA n (z1, z2)).1, .int .i64 (labA n (z1, z2)).2]) ∧ Below w.heap.size w w' := by
  refine (label_r n z1 z2 h w).mono ?_
  rintro r w' ⟨r1, r2, rfl, hr, hb⟩
  obtain ⟨rfl, rfl⟩ := hr.one (labA_is n (z1, z2))
  exact ⟨rfl, hb⟩
theorem reflabel_at (n : Nat) (h : isSz n) (z1 z2 : Nat) (w : World) : Calls Try.prog 26 #[.int .i64 (n : Int), .complex .f64 z1 z2] w fun r w' => r = .returned (.tuple #[.int .i64 (labA n (z1, z2)).1, .int .i64 (labA n (z1, z2)).2]) ∧ Below w.heap.size w w' := by
  refine (reflabel_any n z1 z2 h w).mono ?_
  rintro r w' ⟨r1, r2, rfl, hr, hb⟩
  obtain ⟨rfl, rfl⟩ := hr.one (labA_is n (z1, z2))
  exact ⟨rfl, hb⟩
theorem label_both (n : Int) (z1 z2 : Nat) : ∃ (v e : Int),
    (∀ w, Calls Try.prog 25 #[.int .i64 n, .complex .f64 z1 z2] w fun r w' => r = .returned (.tuple #[.int .i64 v, .int .i64 e]) ∧ Below w.heap.size w w') ∧
    (∀ w, Calls Try.prog 26 #[.int .i64 n, .complex .f64 z1 z2] w fun r w' => r = .returned (.tuple #[.int .i64 v, .int .i64 e]) ∧ Below w.heap.size w w') := by
  rcases sz_or n with h | ⟨k, rfl, h⟩
  · exact ⟨0, 1, fun w => label_no n z1 z2 h w, fun w => reflabel_no n z1 z2 h w⟩
  · exact ⟨_, _, fun w => label_at k h z1 z2 w, fun w => reflabel_at k h z1 z2 w⟩
theorem turned_at (n lb : Nat) (m : Int) (h : isSz n) (hl : lb < n) (w : World) : Calls Try.prog 27 #[.int .i64 (n : Int), .int .i64 (lb : Int), .int .i64 m] w fun r w' => r = .returned (.tuple #[.int .i64 (labA n (tz (zAt n lb) (m % 4).toNat)).1, .int .i64 (labA n (tz (zAt n lb) (m % 4).toNat)).2]) ∧ Below w.heap.size w w' := by
  refine (turned_any n lb m h hl w).mono ?_
  rintro r w' ⟨r1, r2, rfl, hr, hb⟩
  obtain ⟨rfl, rfl⟩ := hr.one (labA_is n _)
  exact ⟨rfl, hb⟩
theorem refturned_at (n lb : Nat) (m : Int) (h : isSz n) (hl : lb < n) (w : World) : Calls Try.prog 28 #[.int .i64 (n : Int), .int .i64 (lb : Int), .int .i64 m] w fun r w' => r = .returned (.tuple #[.int .i64 (labA n (tz (zAt n lb) (m % 4).toNat)).1, .int .i64 (labA n (tz (zAt n lb) (m % 4).toNat)).2]) ∧ Below w.heap.size w w' := by
  refine (refturned_any n lb m h hl w).mono ?_
  rintro r w' ⟨r1, r2, rfl, hr, hb⟩
  obtain ⟨rfl, rfl⟩ := hr.one (labA_is n _)
  exact ⟨rfl, hb⟩
theorem turned_both (n lb m : Int) : ∃ (v e : Int),
    (∀ w, Calls Try.prog 27 #[.int .i64 n, .int .i64 lb, .int .i64 m] w fun r w' => r = .returned (.tuple #[.int .i64 v, .int .i64 e]) ∧ Below w.heap.size w w') ∧
    (∀ w, Calls Try.prog 28 #[.int .i64 n, .int .i64 lb, .int .i64 m] w fun r w' => r = .returned (.tuple #[.int .i64 v, .int .i64 e]) ∧ Below w.heap.size w w') := by
  rcases sz_or n with h | ⟨k, rfl, h⟩
  · exact ⟨0, 1, fun w => turned_no n lb m h w, fun w => refturned_no n lb m h w⟩
  · by_cases hl : lb < 0 ∨ (k : Int) ≤ lb
    · exact ⟨0, 1, fun w => turned_bad k lb m h hl w, fun w => refturned_bad k lb m h hl w⟩
    · obtain ⟨l, rfl⟩ : ∃ l : Nat, lb = (l : Int) := ⟨lb.toNat, by omega⟩
      exact ⟨_, _, fun w => turned_at k l m h (by omega) w, fun w => refturned_at k l m h (by omega) w⟩
theorem coset_z (n i : Nat) (z1 z2 lv : Nat) (h : isSz n) (hlv : lv ≤ 8) (hi : i < n) (hh : hit n (z1, z2) i = true) (w : World) : Calls Try.prog 29 #[.int .i64 (n : Int), .complex .f64 z1 z2, .int .i64 (lv : Int)] w fun r w' => r = .returned (.tuple #[.int .i64 (cosS (ptP n i).1 (ptP n i).2 lv).2.2, .int .i64 0]) ∧ Below w.heap.size w w' := by
  obtain ⟨⟨p1, p2, p3⟩, p4, p5, p6⟩ := pt_box n i h hi
  have hh2 := hh
  unfold hit at hh2
  rw [Bool.and_eq_true] at hh2
  exact coset_zz n _ _ z1 z2 (toInt_of_eq _ p1 p2 p3 z1 hh2.1) (toInt_of_eq _ p4 p5 p6 z2 hh2.2) lv h ⟨p1, p2⟩ ⟨p4, p5⟩ hlv ⟨i, hi, hh⟩ w
theorem coset_both (n : Int) (z1 z2 : Nat) (lv : Int) : ∃ (v e : Int),
    (∀ w, Calls Try.prog 29 #[.int .i64 n, .complex .f64 z1 z2, .int .i64 lv] w fun r w' => r = .returned (.tuple #[.int .i64 v, .int .i64 e]) ∧ Below w.heap.size w w') ∧
    (∀ w, Calls Try.prog 30 #[.int .i64 n, .complex .f64 z1 z2, .int .i64 lv] w fun r w' => r = .returned (.tuple #[.int .i64 v, .int .i64 e]) ∧ Below w.heap.size w w') := by
  rcases sz_or n with h | ⟨k, rfl, h⟩
  · exact ⟨0, 1, fun w => coset_no n lv z1 z2 h w, fun w => refcoset_no n lv z1 z2 h w⟩
  · by_cases hl : lv < 0 ∨ 8 < lv
    · exact ⟨0, 1, fun w => coset_lv k z1 z2 lv h hl w, fun w => refcoset_lv k z1 z2 lv h hl w⟩
    · obtain ⟨l, rfl⟩ : ∃ l : Nat, lv = (l : Int) := ⟨lv.toNat, by omega⟩
      have hlv : l ≤ 8 := by omega
      rcases labA_is k (z1, z2) with ⟨i, h1, h2, h3, _, _⟩ | ⟨h1, _, _⟩
      · exact ⟨_, _, fun w => coset_z k i z1 z2 l h hlv h1 h2 w, fun w => refcoset_hit k z1 z2 i l h hlv h1 h2 h3 w⟩
      · exact ⟨_, _, fun w => coset_none k z1 z2 l h hlv h1 w, fun w => refcoset_none k z1 z2 l h hlv h1 w⟩
theorem bits_both (n : Int) : ∃ (v e : Int),
    (∀ w, Calls Try.prog 15 #[.int .i64 n] w fun r w' => r = .returned (.tuple #[.int .i64 v, .int .i64 e]) ∧ Below w.heap.size w w') ∧
    (∀ w, Calls Try.prog 16 #[.int .i64 n] w fun r w' => r = .returned (.tuple #[.int .i64 v, .int .i64 e]) ∧ Below w.heap.size w w') := by
  rcases sz_or n with h | ⟨k, rfl, h⟩
  · exact ⟨0, 1, fun w => Bits_no n h w, fun w => refbits_c n _ _ (refBits_no n h) w⟩
  · exact ⟨_, _, fun w => Bits_any k h w, fun w => refbits_c k _ _ (refBits_any k h) w⟩
theorem edge_both (n : Int) : ∃ (v e : Int),
    (∀ w, Calls Try.prog 17 #[.int .i64 n] w fun r w' => r = .returned (.tuple #[.int .i64 v, .int .i64 e]) ∧ Below w.heap.size w w') ∧
    (∀ w, Calls Try.prog 18 #[.int .i64 n] w fun r w' => r = .returned (.tuple #[.int .i64 v, .int .i64 e]) ∧ Below w.heap.size w w') := by
  rcases sz_or n with h | ⟨k, rfl, h⟩
  · exact ⟨0, 1, fun w => Edge_no n h w, fun w => refedge_c n _ _ (refEdge_no n h) w⟩
  · exact ⟨_, _, fun w => Edge_any k h w, fun w => refedge_c k _ _ (refEdge_any k h) w⟩
set_option maxHeartbeats 1000000 in
set_option maxRecDepth 100000 in
theorem energy_no (n : Int) (h : noSz n) (w : World) : Calls Try.prog 19 #[.int .i64 n] w fun r w' => r = .returned (.tuple #[.int .i64 0, .int .i64 1]) ∧ Below w.heap.size w w' := by
  have HA := Aside0.mk (fun w => all_no n h w)
  clear h
  go_enter Try.func19, Try.ntmps19
  go_wp2_with (go_at_call 13; (with_reducible refine (HA.out _).mono ?_); rintro r1 w1 ⟨rfl, hb⟩; (have HB1 := Aside0.mk hb); clear hb)
  refine wp_loop_rounds 1 ?_
  rw [rounds_succ]
  go_wp2
  go_ret2
  exact ⟨rfl, HB1.out⟩
theorem energy_both (n : Int) : ∃ (v e : Int),
    (∀ w, Calls Try.prog 19 #[.int .i64 n] w fun r w' => r = .returned (.tuple #[.int .i64 v, .int .i64 e]) ∧ Below w.heap.size w w') ∧
    (∀ w, Calls Try.prog 20 #[.int .i64 n] w fun r w' => r = .returned (.tuple #[.int .i64 v, .int .i64 e]) ∧ Below w.heap.size w w') := by
  rcases sz_or n with h | ⟨k, rfl, h⟩
  · exact ⟨0, 1, fun w => energy_no n h w, fun w => foghornref04_Energy.calls 1200 n _ _ w (refEnergy_no n h)⟩
  · exact ⟨_, _, fun w => energy_any k h w, fun w => foghornref04_Energy.calls 1200 k _ _ w (refEnergy_any k h)⟩
theorem all_both (n : Int) : ∃ (N : Nat) (l : List (Nat × Nat)) (e : Int), l.length = N ∧ N ≤ 256 ∧ (∀ i, i < N → fine (l.getD i (0, 0))) ∧
    (∀ w, Calls Try.prog 13 #[.int .i64 n] w fun r w' => ∃ A c, r = .returned (.tuple #[.slice A N c, .int .i64 e]) ∧ Kd.C KC w' A N l ∧ Below w.heap.size w w') ∧
    (∀ w, Calls Try.prog 14 #[.int .i64 n] w fun r w' => ∃ A c, r = .returned (.tuple #[.slice A N c, .int .i64 e]) ∧ Kd.C KC w' A N l ∧ Below w.heap.size w w') := by
  rcases sz_or n with h | ⟨k, rfl, h⟩
  · have hC : ∀ w, Kd.C KC w none 0 [] := fun w => (Kd.R_reads' (Kd.R_nil KC 31 w 0 (fun _ => True))).2.2
    refine ⟨0, [], 1, rfl, by omega, fun i hi => absurd hi (Nat.not_lt_zero _), fun w => ?_, fun w => ?_⟩
    · refine (all_no n h w).mono ?_
      rintro r w' ⟨rfl, hb⟩
      exact ⟨_, _, rfl, hC w', hb⟩
    · refine (refall_no n h w).mono ?_
      rintro r w' ⟨rfl, hb⟩
      exact ⟨_, _, rfl, hC w', hb⟩
  · refine ⟨k, zt k k, 0, zt_length k k, (sz_le h).2, fun i hi => (by rw [zt_getD k k i hi]; exact zAt_fine k i h hi), fun w => ?_, fun w => ?_⟩
    · refine (all_any k h w).mono ?_
      rintro r w' ⟨A, c, rfl, _, hR, hb⟩
      have h2 := (Kd.R_reads' hR).2.2
      rw [zt_length] at h2
      exact ⟨_, _, rfl, h2, hb⟩
    · refine (refall_sl k h w).mono ?_
      rintro r w' ⟨A, c, rfl, _, hR, hb⟩
      have h2 := (Kd.R_reads' hR).2.2
      rw [zt_length] at h2
      exact ⟨_, _, rfl, h2, hb⟩
end Go.Proofs.Ytopmlhihfchdhaa.Pure
