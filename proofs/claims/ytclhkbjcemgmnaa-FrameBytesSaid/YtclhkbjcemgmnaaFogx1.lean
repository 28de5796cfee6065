-- Written by fog.py, a program of this session, over the kit's print.
import Derived.Test.YtclhkbjcemgmnaaFogx0
namespace Go.Proofs.Ytclhkbjcemgmnaa.Fog
open Go.RowKit Go.Proofs.YtclhkbjcemgmnaaW.PrintWords Go.Proofs.YtclhkbjcemgmnaaW.PrintLast Go.Proofs.YtclhkbjcemgmnaaW.PrintMore
attribute [local go_sem] max2_int min2_int max_two min_two max_three min_three max_four min_four   -- for this text's walks alone
attribute [local go_sem] fog_signed_u8 fog_max_u8 fog_signed_u16 fog_max_u16 fog_signed_u32 fog_max_u32 fog_signed_u64 fog_max_u64
set_option linter.unusedVariables false
set_option linter.unusedSimpArgs false

/-! ### sums_step_uint16: function 42 -/
def sums_step_uint16.f (a0 : Int) (a1 : Int) (a2 : Bool) : Option (Int) := if (((Go.bits .andNot .u16 a0 ((Go.bits .xor .u16 65535 0) / 2)) != 0) != a2) = true then (some (Go.bits .xor .u16 (IntKind.u16.wrap (a0 * 2)) a1)) else (some (IntKind.u16.wrap (a0 * 2)))
set_option maxHeartbeats 8000000 in
set_option maxRecDepth 100000 in
theorem sums_step_uint16.calls (a0 : Int) (a1 : Int) (a2 : Bool) (r : Int) (w : World) (h : sums_step_uint16.f a0 a1 a2 = some r) :
    Calls Try.prog 42 #[.int .u16 a0, .int .u16 a1, .bool a2] w fun e w' => e = .returned (.int .u16 r) ∧ Drawn0 w w' := by
  have H : (if (((Go.bits .andNot .u16 a0 ((Go.bits .xor .u16 65535 0) / 2)) != 0) != a2) = true then (some (Go.bits .xor .u16 (IntKind.u16.wrap (a0 * 2)) a1)) else (some (IntKind.u16.wrap (a0 * 2)))) = some r := h
  clear h
  by_cases c4 : (((Go.bits .andNot .u16 a0 ((Go.bits .xor .u16 65535 0) / 2)) != 0) != a2) = true
  · rw [if_pos c4] at H
    have c4b0 : (((Go.bits .andNot .u16 a0 ((Go.bits .xor .u16 65535 0) / 2)) != 0) != a2) = true := c4
    (try (have c4b1 : decide (((Go.bits .andNot .u16 a0 ((Go.bits .xor .u16 65535 0) / 2)) != 0) = a2) = false := by simpa using c4))
    (try (have c4b2 : (((Go.bits .andNot .u16 a0 ((Go.bits .xor .u16 65535 0) / 2)) != 0) == a2) = false := by simpa using c4))
    (try (have c4b3 : ¬ (((Go.bits .andNot .u16 a0 ((Go.bits .xor .u16 65535 0) / 2)) != 0) = a2) := by simpa using c4))
    clear c4
    obtain rfl := Option.some.inj H
    go_enter Try.func42, Try.ntmps42
    go_wp2
    go_ret
    exact ⟨by first | rfl | (simp; done) | (simp [*]; done) | (simp; omega) | (congr 1; omega) | (rw [hR_]; done) | (simp only [hR_]; done) | (simp [hR_]; done), by repeat (first | exact Drawn0.refl _ | apply Drawn0.step)⟩
  · rw [if_neg c4] at H
    have c4b0 : (((Go.bits .andNot .u16 a0 ((Go.bits .xor .u16 65535 0) / 2)) != 0) != a2) = false := by simpa using c4
    (try (have c4b1 : decide (((Go.bits .andNot .u16 a0 ((Go.bits .xor .u16 65535 0) / 2)) != 0) = a2) = true := by simpa using c4))
    (try (have c4b2 : (((Go.bits .andNot .u16 a0 ((Go.bits .xor .u16 65535 0) / 2)) != 0) == a2) = true := by simpa using c4))
    clear c4
    obtain rfl := Option.some.inj H
    go_enter Try.func42, Try.ntmps42
    go_wp2
    go_ret
    exact ⟨by first | rfl | (simp; done) | (simp [*]; done) | (simp; omega) | (congr 1; omega) | (rw [hR_]; done) | (simp only [hR_]; done) | (simp [hR_]; done), by repeat (first | exact Drawn0.refl _ | apply Drawn0.step)⟩

/-! ### sums_step_uint32: function 41 -/
def sums_step_uint32.f (a0 : Int) (a1 : Int) (a2 : Bool) : Option (Int) := if (((Go.bits .andNot .u32 a0 ((Go.bits .xor .u32 4294967295 0) / 2)) != 0) != a2) = true then (some (Go.bits .xor .u32 ((a0 * 2) % 4294967296) a1)) else (some ((a0 * 2) % 4294967296))
set_option maxHeartbeats 8000000 in
set_option maxRecDepth 100000 in
theorem sums_step_uint32.calls (a0 : Int) (a1 : Int) (a2 : Bool) (r : Int) (w : World) (h : sums_step_uint32.f a0 a1 a2 = some r) :
    Calls Try.prog 41 #[.int .u32 a0, .int .u32 a1, .bool a2] w fun e w' => e = .returned (.int .u32 r) ∧ Drawn0 w w' := by
  have H : (if (((Go.bits .andNot .u32 a0 ((Go.bits .xor .u32 4294967295 0) / 2)) != 0) != a2) = true then (some (Go.bits .xor .u32 ((a0 * 2) % 4294967296) a1)) else (some ((a0 * 2) % 4294967296))) = some r := h
  clear h
  by_cases c4 : (((Go.bits .andNot .u32 a0 ((Go.bits .xor .u32 4294967295 0) / 2)) != 0) != a2) = true
  · rw [if_pos c4] at H
    have c4b0 : (((Go.bits .andNot .u32 a0 ((Go.bits .xor .u32 4294967295 0) / 2)) != 0) != a2) = true := c4
    (try (have c4b1 : decide (((Go.bits .andNot .u32 a0 ((Go.bits .xor .u32 4294967295 0) / 2)) != 0) = a2) = false := by simpa using c4))
    (try (have c4b2 : (((Go.bits .andNot .u32 a0 ((Go.bits .xor .u32 4294967295 0) / 2)) != 0) == a2) = false := by simpa using c4))
    (try (have c4b3 : ¬ (((Go.bits .andNot .u32 a0 ((Go.bits .xor .u32 4294967295 0) / 2)) != 0) = a2) := by simpa using c4))
    clear c4
    obtain rfl := Option.some.inj H
    go_enter Try.func41, Try.ntmps41
    go_wp2
    go_ret
    exact ⟨by first | rfl | (simp; done) | (simp [*]; done) | (simp; omega) | (congr 1; omega) | (rw [hR_]; done) | (simp only [hR_]; done) | (simp [hR_]; done), by repeat (first | exact Drawn0.refl _ | apply Drawn0.step)⟩
  · rw [if_neg c4] at H
    have c4b0 : (((Go.bits .andNot .u32 a0 ((Go.bits .xor .u32 4294967295 0) / 2)) != 0) != a2) = false := by simpa using c4
    (try (have c4b1 : decide (((Go.bits .andNot .u32 a0 ((Go.bits .xor .u32 4294967295 0) / 2)) != 0) = a2) = true := by simpa using c4))
    (try (have c4b2 : (((Go.bits .andNot .u32 a0 ((Go.bits .xor .u32 4294967295 0) / 2)) != 0) == a2) = true := by simpa using c4))
    clear c4
    obtain rfl := Option.some.inj H
    go_enter Try.func41, Try.ntmps41
    go_wp2
    go_ret
    exact ⟨by first | rfl | (simp; done) | (simp [*]; done) | (simp; omega) | (congr 1; omega) | (rw [hR_]; done) | (simp only [hR_]; done) | (simp [hR_]; done), by repeat (first | exact Drawn0.refl _ | apply Drawn0.step)⟩

end Go.Proofs.Ytclhkbjcemgmnaa.Fog
