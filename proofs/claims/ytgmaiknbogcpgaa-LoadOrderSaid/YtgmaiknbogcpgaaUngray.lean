/- Ungray of small words; the sets' closures. -/
-- ALSO foghorn/bits.Ungray
import Derived.Test.YtgmaiknbogcpgaaFogx0
import Derived.Test.YtgmaiknbogcpgaaFogx1
import Derived.Test.YtgmaiknbogcpgaaKit
import Derived.Laws.Cover3
import Derived.Laws.FloatArith
import Derived.RangeFuncBox
namespace Go.Proofs.Ytgmaiknbogcpgaa.Pure
open Go.RowKit Go.Proofs.Ytgmaiknbogcpgaa.Fog Go.Proofs.YtgmaiknbogcpgaaW.PrintWords Go.Proofs.YtgmaiknbogcpgaaW.PrintLast Go.Proofs.YtgmaiknbogcpgaaW.PrintMore Go.Proofs.Ytgmaiknbogcpgaa.Kit
set_option linter.unusedVariables false
set_option linter.unusedSimpArgs false
def fI (a : Int) : Nat := floatOfInt .f64 a
def ungV (w : Nat) : Int := ((bits_Ungray.f 10 (w : Int)).getD (0, 0)).1
theorem ung_all : ∀ w : Fin 16, bits_Ungray.f 10 (w.val : Int) = some (ungV w.val, 0) ∧ 0 ≤ ungV w.val ∧ ungV w.val ≤ 15 := by decide +kernel
theorem ung_f (w : Nat) (h : w < 16) : bits_Ungray.f 10 (w : Int) = some (ungV w, 0) ∧ 0 ≤ ungV w ∧ ungV w ≤ 15 := ung_all ⟨w, h⟩
set_option maxHeartbeats 1000000 in
set_option maxRecDepth 100000 in
theorem axis_calls (wd : Nat) (h : wd < 16) (e : Int) (h0 : 0 ≤ e) (h1 : e ≤ 15) (be : Nat) (W : World) (hb : Boxed W be 3 (.int .i64 e)) :
    Calls Try.prog 70 #[.int .i64 (wd : Int), .pointer (some ⟨be, 0, none⟩)] W fun r w' => r = .returned (.float .f64 (fI (2 * ungV wd - e))) ∧ ∃ d, w' = W.drewN d := by
  obtain ⟨u1, u2, u3⟩ := ung_f wd h
  have HU := Aside0.mk u1
  have hc := hb.cell
  obtain ⟨g, hg⟩ : ∃ g, ungV wd = g := ⟨_, rfl⟩
  rw [hg] at HU u2 u3 ⊢
  have i1 : IntKind.i64.wrap (2 * g) = 2 * g := by rw [IntKind.wrap_i64]; omega
  have i2 : IntKind.i64.wrap (2 * g - e) = 2 * g - e := by rw [IntKind.wrap_i64]; omega
  clear u1 hg
  go_enter Try.func70, Try.ntmps70
  go_wp2_with (go_at_call 71; (with_reducible refine (bits_Ungray.calls 10 _ g 0 _ HU.out).mono ?_); rintro e_ w1 ⟨rfl, ⟨d, rfl⟩⟩)
  go_ret
  exact ⟨rfl, _, rfl⟩
def axF (be : Nat) : Value := .func (.func 70) #[] #[.pointer (some ⟨be, 0, none⟩)]
/-- The point of a label in a square set of n bits, of that edge. -/
def sqP (h : Nat) (e : Int) (lb : Nat) : Int × Int := (2 * ungV (lb / 2 ^ h) - e, 2 * ungV (lb % 2 ^ h) - e)
theorem lab_4 : ∀ lb : Fin 4, shr .i64 (lb.val : Int) 1 = ((lb.val / 2 ^ 1 : Nat) : Int) ∧ Go.bits .and .i64 (lb.val : Int) 1 = ((lb.val % 2 ^ 1 : Nat) : Int) := by decide +kernel
set_option maxHeartbeats 2000000 in
set_option maxRecDepth 100000 in
theorem sqat_4 (lb : Nat) (h : lb < 4) (bn bf be : Nat) (W : World) (hn : Boxed W bn 3 (.int .i64 2)) (hf : Boxed W bf 107 (axF be)) (he : Boxed W be 3 (.int .i64 1)) :
    Calls Try.prog 72 #[.int .i64 (lb : Int), .pointer (some ⟨bn, 0, none⟩), .pointer (some ⟨bf, 0, none⟩)] W fun r w' => r = .returned (.complex .f64 (fI (sqP 1 1 lb).1) (fI (sqP 1 1 lb).2)) ∧ ∃ d, w' = W.drewN d := by
  obtain ⟨s1, s2⟩ := lab_4 ⟨lb, h⟩
  simp only at s1 s2
  have HAX := Aside0.mk (show ∀ (wd : Nat) (d : Nat), wd < 16 → Calls Try.prog 70 #[.int .i64 (wd : Int), .pointer (some ⟨be, 0, none⟩)] (W.drewN d) fun r w' => r = .returned (.float .f64 (fI (2 * ungV wd - 1))) ∧ ∃ d2, w' = (W.drewN d).drewN d2 from fun wd d hw => axis_calls wd hw 1 (by decide) (by decide) be (W.drewN d) he)
  have hcn := hn.cell
  have hcf := hf.cell
  unfold axF at hcf
  unfold sqP
  obtain ⟨hi, hhi⟩ : ∃ hi, lb / 2 ^ 1 = hi := ⟨_, rfl⟩
  obtain ⟨lo, hlo⟩ : ∃ lo, lb % 2 ^ 1 = lo := ⟨_, rfl⟩
  have HB := Aside0.mk (show hi < 16 ∧ lo < 16 by omega)
  have s3 : (lb : Int) / 2 = (hi : Int) := by rw [← hhi]; omega
  have s4 : (lb : Int) % 2 = (lo : Int) := by rw [← hlo]; omega
  rw [hhi] at s1 ⊢
  rw [hlo] at s2 ⊢
  clear hhi hlo hn hf he
  go_enter Try.func72, Try.ntmps72
  go_wp2
  go_quiet (first | (go_at_call 70; first | with_reducible exact Calls.quiet_of (HAX.out hi _ HB.out.1) | with_reducible exact Calls.quiet_of (HAX.out lo _ HB.out.2)))
  go_wp2
  go_ret
  exact ⟨rfl, _, rfl⟩
theorem lab_16 : ∀ lb : Fin 16, shr .i64 (lb.val : Int) 2 = ((lb.val / 2 ^ 2 : Nat) : Int) ∧ Go.bits .and .i64 (lb.val : Int) 3 = ((lb.val % 2 ^ 2 : Nat) : Int) := by decide +kernel
set_option maxHeartbeats 2000000 in
set_option maxRecDepth 100000 in
theorem sqat_16 (lb : Nat) (h : lb < 16) (bn bf be : Nat) (W : World) (hn : Boxed W bn 3 (.int .i64 4)) (hf : Boxed W bf 107 (axF be)) (he : Boxed W be 3 (.int .i64 3)) :
    Calls Try.prog 72 #[.int .i64 (lb : Int), .pointer (some ⟨bn, 0, none⟩), .pointer (some ⟨bf, 0, none⟩)] W fun r w' => r = .returned (.complex .f64 (fI (sqP 2 3 lb).1) (fI (sqP 2 3 lb).2)) ∧ ∃ d, w' = W.drewN d := by
  obtain ⟨s1, s2⟩ := lab_16 ⟨lb, h⟩
  simp only at s1 s2
  have HAX := Aside0.mk (show ∀ (wd : Nat) (d : Nat), wd < 16 → Calls Try.prog 70 #[.int .i64 (wd : Int), .pointer (some ⟨be, 0, none⟩)] (W.drewN d) fun r w' => r = .returned (.float .f64 (fI (2 * ungV wd - 3))) ∧ ∃ d2, w' = (W.drewN d).drewN d2 from fun wd d hw => axis_calls wd hw 3 (by decide) (by decide) be (W.drewN d) he)
  have hcn := hn.cell
  have hcf := hf.cell
  unfold axF at hcf
  unfold sqP
  obtain ⟨hi, hhi⟩ : ∃ hi, lb / 2 ^ 2 = hi := ⟨_, rfl⟩
  obtain ⟨lo, hlo⟩ : ∃ lo, lb % 2 ^ 2 = lo := ⟨_, rfl⟩
  have HB := Aside0.mk (show hi < 16 ∧ lo < 16 by omega)
  have s3 : (lb : Int) / 4 = (hi : Int) := by rw [← hhi]; omega
  have s4 : (lb : Int) % 4 = (lo : Int) := by rw [← hlo]; omega
  rw [hhi] at s1 ⊢
  rw [hlo] at s2 ⊢
  clear hhi hlo hn hf he
  go_enter Try.func72, Try.ntmps72
  go_wp2
  go_quiet (first | (go_at_call 70; first | with_reducible exact Calls.quiet_of (HAX.out hi _ HB.out.1) | with_reducible exact Calls.quiet_of (HAX.out lo _ HB.out.2)))
  go_wp2
  go_ret
  exact ⟨rfl, _, rfl⟩
theorem lab_64 : ∀ lb : Fin 64, shr .i64 (lb.val : Int) 3 = ((lb.val / 2 ^ 3 : Nat) : Int) ∧ Go.bits .and .i64 (lb.val : Int) 7 = ((lb.val % 2 ^ 3 : Nat) : Int) := by decide +kernel
set_option maxHeartbeats 2000000 in
set_option maxRecDepth 100000 in
theorem sqat_64 (lb : Nat) (h : lb < 64) (bn bf be : Nat) (W : World) (hn : Boxed W bn 3 (.int .i64 6)) (hf : Boxed W bf 107 (axF be)) (he : Boxed W be 3 (.int .i64 7)) :
    Calls Try.prog 72 #[.int .i64 (lb : Int), .pointer (some ⟨bn, 0, none⟩), .pointer (some ⟨bf, 0, none⟩)] W fun r w' => r = .returned (.complex .f64 (fI (sqP 3 7 lb).1) (fI (sqP 3 7 lb).2)) ∧ ∃ d, w' = W.drewN d := by
  obtain ⟨s1, s2⟩ := lab_64 ⟨lb, h⟩
  simp only at s1 s2
  have HAX := Aside0.mk (show ∀ (wd : Nat) (d : Nat), wd < 16 → Calls Try.prog 70 #[.int .i64 (wd : Int), .pointer (some ⟨be, 0, none⟩)] (W.drewN d) fun r w' => r = .returned (.float .f64 (fI (2 * ungV wd - 7))) ∧ ∃ d2, w' = (W.drewN d).drewN d2 from fun wd d hw => axis_calls wd hw 7 (by decide) (by decide) be (W.drewN d) he)
  have hcn := hn.cell
  have hcf := hf.cell
  unfold axF at hcf
  unfold sqP
  obtain ⟨hi, hhi⟩ : ∃ hi, lb / 2 ^ 3 = hi := ⟨_, rfl⟩
  obtain ⟨lo, hlo⟩ : ∃ lo, lb % 2 ^ 3 = lo := ⟨_, rfl⟩
  have HB := Aside0.mk (show hi < 16 ∧ lo < 16 by omega)
  have s3 : (lb : Int) / 8 = (hi : Int) := by rw [← hhi]; omega
  have s4 : (lb : Int) % 8 = (lo : Int) := by rw [← hlo]; omega
  rw [hhi] at s1 ⊢
  rw [hlo] at s2 ⊢
  clear hhi hlo hn hf he
  go_enter Try.func72, Try.ntmps72
  go_wp2
  go_quiet (first | (go_at_call 70; first | with_reducible exact Calls.quiet_of (HAX.out hi _ HB.out.1) | with_reducible exact Calls.quiet_of (HAX.out lo _ HB.out.2)))
  go_wp2
  go_ret
  exact ⟨rfl, _, rfl⟩
theorem lab_256 : ∀ lb : Fin 256, shr .i64 (lb.val : Int) 4 = ((lb.val / 2 ^ 4 : Nat) : Int) ∧ Go.bits .and .i64 (lb.val : Int) 15 = ((lb.val % 2 ^ 4 : Nat) : Int) := by decide +kernel
set_option maxHeartbeats 2000000 in
set_option maxRecDepth 100000 in
theorem sqat_256 (lb : Nat) (h : lb < 256) (bn bf be : Nat) (W : World) (hn : Boxed W bn 3 (.int .i64 8)) (hf : Boxed W bf 107 (axF be)) (he : Boxed W be 3 (.int .i64 15)) :
    Calls Try.prog 72 #[.int .i64 (lb : Int), .pointer (some ⟨bn, 0, none⟩), .pointer (some ⟨bf, 0, none⟩)] W fun r w' => r = .returned (.complex .f64 (fI (sqP 4 15 lb).1) (fI (sqP 4 15 lb).2)) ∧ ∃ d, w' = W.drewN d := by
  obtain ⟨s1, s2⟩ := lab_256 ⟨lb, h⟩
  simp only at s1 s2
  have HAX := Aside0.mk (show ∀ (wd : Nat) (d : Nat), wd < 16 → Calls Try.prog 70 #[.int .i64 (wd : Int), .pointer (some ⟨be, 0, none⟩)] (W.drewN d) fun r w' => r = .returned (.float .f64 (fI (2 * ungV wd - 15))) ∧ ∃ d2, w' = (W.drewN d).drewN d2 from fun wd d hw => axis_calls wd hw 15 (by decide) (by decide) be (W.drewN d) he)
  have hcn := hn.cell
  have hcf := hf.cell
  unfold axF at hcf
  unfold sqP
  obtain ⟨hi, hhi⟩ : ∃ hi, lb / 2 ^ 4 = hi := ⟨_, rfl⟩
  obtain ⟨lo, hlo⟩ : ∃ lo, lb % 2 ^ 4 = lo := ⟨_, rfl⟩
  have HB := Aside0.mk (show hi < 16 ∧ lo < 16 by omega)
  have s3 : (lb : Int) / 16 = (hi : Int) := by rw [← hhi]; omega
  have s4 : (lb : Int) % 16 = (lo : Int) := by rw [← hlo]; omega
  rw [hhi] at s1 ⊢
  rw [hlo] at s2 ⊢
  clear hhi hlo hn hf he
  go_enter Try.func72, Try.ntmps72
  go_wp2
  go_quiet (first | (go_at_call 70; first | with_reducible exact Calls.quiet_of (HAX.out hi _ HB.out.1) | with_reducible exact Calls.quiet_of (HAX.out lo _ HB.out.2)))
  go_wp2
  go_ret
  exact ⟨rfl, _, rfl⟩
end Go.Proofs.Ytgmaiknbogcpgaa.Pure
