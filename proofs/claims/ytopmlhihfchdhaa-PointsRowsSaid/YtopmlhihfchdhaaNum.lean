/- The laws' numbers: halves, and odd parts; what is no NaN. -/
import Derived.Test.YtopmlhihfchdhaaFogx0
import Derived.Test.YtopmlhihfchdhaaTurned
namespace Go.Proofs.Ytopmlhihfchdhaa.Pure
open Go.RowKit Go.Proofs.Ytopmlhihfchdhaa.Fog Go.Proofs.YtopmlhihfchdhaaW.PrintWords Go.Proofs.YtopmlhihfchdhaaW.PrintLast Go.Proofs.YtopmlhihfchdhaaW.PrintMore Go.Proofs.Ytopmlhihfchdhaa.Kit
set_option linter.unusedVariables false
set_option linter.unusedSimpArgs false
/-- Is it no NaN? -/
def notNan (b : Nat) : Prop := (FloatKind.f64.format.read b).isNaN = false
theorem notNan_order (b : Nat) (h : notNan b) : FloatKind.f64.format.order b b = some .eq := by
  unfold notNan at h
  unfold Ieee.Format.order
  rcases hx : FloatKind.f64.format.read b with ⟨s, m, i⟩ | ⟨s⟩ | ⟨s, f⟩
  · show some (compare _ _) = _
    rw [Int.compare_eq_eq.2 rfl]
  · cases s <;> rfl
  · rw [hx] at h; cases h
theorem fmt1 : FloatKind.f64.format.signWeight = 9223372036854775808 := by decide +kernel
theorem fmt2 : FloatKind.f64.format.binade = 4503599627370496 := by decide +kernel
theorem fmt3 : FloatKind.f64.format.infRung = 9218868437227405312 := by decide +kernel
theorem word_notNan (s : Bool) (r : Nat) (h : r ≤ 9218868437227405312) : notNan (FloatKind.f64.format.word s r) := by
  have e : (if s then 9223372036854775808 + r else r) % 9223372036854775808 = r := by
    split <;> omega
  unfold notNan Ieee.Format.read Ieee.Format.word
  simp only [fmt1, fmt2, fmt3]
  rw [e]
  by_cases h1 : r < 4503599627370496
  · rw [if_pos h1]; rfl
  · rw [if_neg h1]
    by_cases h2 : r < 9218868437227405312
    · rw [if_pos h2]; rfl
    · rw [if_neg h2, if_pos (by omega)]; rfl
theorem nearest_notNan (s : Bool) (m : Nat) (i : Int) : notNan (FloatKind.f64.format.nearest s m i) := by
  unfold Ieee.Format.nearest
  split
  · exact word_notNan _ _ (by omega)
  · exact word_notNan _ _ (by rw [fmt3]; exact Nat.min_le_right _ _)
theorem write_notNan (d : Ieee.Datum) (h : d.isNaN = false) : notNan (FloatKind.f64.format.write d) := by
  rcases d with ⟨s, m, i⟩ | ⟨s⟩ | ⟨s, f⟩
  · exact nearest_notNan s m i
  · exact word_notNan s _ (by rw [fmt3]; omega)
  · cases h
theorem ofInt_notNan (a : Int) : notNan (floatOfInt .f64 a) := nearest_notNan _ _ _
theorem read_two : FloatKind.f64.format.read 4611686018427387904 = .number false 4503599627370496 (-51) := by decide +kernel
theorem quo_two (x : Nat) (h : notNan x) : ∃ r, floatBits .quo .f64 x 4611686018427387904 = some r ∧ notNan r := by
  unfold notNan at h
  show ∃ r, FloatKind.f64.format.div x 4611686018427387904 = some r ∧ notNan r
  unfold Ieee.Format.div
  rw [read_two]
  rcases hx : FloatKind.f64.format.read x with ⟨s, m, i⟩ | ⟨s⟩ | ⟨s, f⟩
  · exact ⟨_, rfl, write_notNan _ rfl⟩
  · exact ⟨_, rfl, write_notNan _ rfl⟩
  · rw [hx] at h; cases h
/-- A part in halves. -/
theorem half_any (a : Int) : ∃ r, (∀ w, (binOp .quo 33 (.float .f64 (floatOfInt .f64 a)) (.float .f64 4611686018427387904)).run Try.prog w = .ok (.float .f64 r) w) ∧ notNan r := by
  obtain ⟨r, hr, hn⟩ := quo_two _ (ofInt_notNan a)
  exact ⟨r, fun w => run_float_arith w .quo _ _ _ _ _ hr, hn⟩
set_option maxHeartbeats 2000000 in
set_option maxRecDepth 100000 in
theorem number_any (re im : Int) (od : Nat) (wh : Int) : ∃ x y, (Int.tmod wh 4 = 0 → notNan x ∧ notNan y) ∧ ∀ w, Calls Try.prog 22 #[.int .i64 re, .int .i64 im, .float .f64 od, .int .i64 wh] w fun r w' => r = .returned (.complex .f64 x y) ∧ Below w.heap.size w w' := by
  obtain ⟨x, hx, nx⟩ := half_any re
  obtain ⟨y, hy, ny⟩ := half_any im
  have h1 := Int.tmod_lt_of_pos wh (show (0 : Int) < 4 by decide)
  have h2 := Int.lt_tmod_of_pos wh (show (0 : Int) < 4 by decide)
  obtain ⟨t, ht⟩ : ∃ t, Int.tmod wh 4 = t := ⟨_, rfl⟩
  rw [ht] at h1 h2
  have hw : IntKind.i64.wrap (Int.tmod wh 4) = t := by rw [ht, IntKind.wrap_i64]; omega
  by_cases t1 : t = 1
  · subst t1
    refine ⟨od, y, fun h => by rw [ht] at h; exact absurd h (by decide), fun w => ?_⟩
    clear nx ny h1 h2
    go_enter Try.func22, Try.ntmps22
    go_wp2
    go_ret
    exact ⟨rfl, Below.refl _ _⟩
  by_cases t3 : t = 3
  · subst t3
    refine ⟨od, od, fun h => by rw [ht] at h; exact absurd h (by decide), fun w => ?_⟩
    clear nx ny h1 h2
    go_enter Try.func22, Try.ntmps22
    go_wp2
    go_ret
    exact ⟨rfl, Below.refl _ _⟩
  by_cases t2 : t = 2
  · subst t2
    refine ⟨x, od, fun h => by rw [ht] at h; exact absurd h (by decide), fun w => ?_⟩
    clear nx ny h1 h2
    go_enter Try.func22, Try.ntmps22
    go_wp2
    go_ret
    exact ⟨rfl, Below.refl _ _⟩
  · refine ⟨x, y, fun _ => ⟨nx, ny⟩, fun w => ?_⟩
    have e1 : (t == 1) = false := by simpa using t1
    have e2 : (t == 2) = false := by simpa using t2
    have e3 : (t == 3) = false := by simpa using t3
    clear nx ny h1 h2
    go_enter Try.func22, Try.ntmps22
    go_wp2
    go_ret
    exact ⟨rfl, Below.refl _ _⟩
end Go.Proofs.Ytopmlhihfchdhaa.Pure
