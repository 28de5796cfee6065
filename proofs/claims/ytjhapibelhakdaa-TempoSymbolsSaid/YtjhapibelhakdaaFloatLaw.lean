/- Sums of floats, NaN as NaN: what an operation gives is told by its bits, or is some NaN. -/
import Derived.Test.YtjhapibelhakdaaFogx0
import Derived.Test.YtjhapibelhakdaaEnergies
namespace Go.Proofs.Ytjhapibelhakdaa.Pure
open Go.RowKit Go.Proofs.Ytjhapibelhakdaa.Fog Go.Proofs.YtjhapibelhakdaaW.PrintWords Go.Proofs.YtjhapibelhakdaaW.PrintLast Go.Proofs.YtjhapibelhakdaaW.PrintMore Go.Proofs.Ytjhapibelhakdaa.Kit
set_option linter.unusedVariables false
set_option linter.unusedSimpArgs false
/-- Is it a NaN? -/
def nanF (b : Nat) : Prop := (FloatKind.f64.format.read b).isNaN = true
instance (b : Nat) : Decidable (nanF b) := by unfold nanF; infer_instance
/-- Bits that stand for a result: the very bits, or any NaN. -/
def relF (o : Option Nat) (b : Nat) : Prop := match o with | some r => b = r | none => nanF b
theorem nan_order (b : Nat) : nanF b ↔ FloatKind.f64.format.order b b ≠ some .eq := by
  unfold nanF Ieee.Format.order
  rcases FloatKind.f64.format.read b with ⟨⟩ | ⟨⟩ | ⟨s, m, i⟩ <;> simp [Ieee.Datum.isNaN, Ieee.Datum.order]
theorem nan_add_l (x y : Nat) (h : nanF x) : floatBits .add .f64 x y = none := by
  unfold nanF at h
  show (FloatKind.f64.format.add x y) = none
  unfold Ieee.Format.add
  rcases hx : FloatKind.f64.format.read x with ⟨⟩ | ⟨⟩ | ⟨s, m, i⟩ <;> rw [hx] at h <;> simp_all [Ieee.Datum.isNaN, Ieee.Datum.sum]
theorem nan_add_r (x y : Nat) (h : nanF y) : floatBits .add .f64 x y = none := by
  unfold nanF at h
  show (FloatKind.f64.format.add x y) = none
  unfold Ieee.Format.add
  rcases hx : FloatKind.f64.format.read y with ⟨⟩ | ⟨⟩ | ⟨s, m, i⟩ <;> rw [hx] at h <;> rcases FloatKind.f64.format.read x with ⟨⟩ | ⟨⟩ | ⟨s, m, i⟩ <;> simp_all [Ieee.Datum.isNaN, Ieee.Datum.sum]
def addO (x y : Option Nat) : Option Nat := match x, y with | some a, some b => floatBits .add .f64 a b | _, _ => none
theorem rel_add {x y : Option Nat} {a b : Nat} (ha : relF x a) (hb : relF y b) : floatBits .add .f64 a b = addO x y := by
  unfold addO
  cases x with
  | none => exact nan_add_l a b ha
  | some x =>
    cases y with
    | none => exact nan_add_r a b hb
    | some y =>
      unfold relF at ha hb
      simp only at ha hb
      rw [ha, hb]
theorem nan_big (s r : Nat) (h0 : 1 ≤ r) (h : r < 4503599627370496) : nanF (s * 9223372036854775808 + 9218868437227405312 + r) := by
  have e1 : FloatKind.f64.format.signWeight = 9223372036854775808 := by decide +kernel
  have e2 : FloatKind.f64.format.binade = 4503599627370496 := by decide +kernel
  have e3 : FloatKind.f64.format.infRung = 9218868437227405312 := by decide +kernel
  have e4 : (s * 9223372036854775808 + 9218868437227405312 + r) % 9223372036854775808 = 9218868437227405312 + r := by omega
  unfold nanF Ieee.Format.read
  simp only [e1, e2, e3, e4]
  rw [if_neg (by omega), if_neg (by omega), if_neg (by omega)]
  rfl
theorem nan_cut (x y t : Nat) : nanF (Question.cut (.nanBits .f64 x y) t) := by
  have h := nan_big (t % 2) (1 + (t / 2) % (2 ^ 52 - 1)) (by omega) (by omega)
  have e : Question.cut (.nanBits .f64 x y) t = (t % 2) * 9223372036854775808 + 9218868437227405312 + (1 + (t / 2) % (2 ^ 52 - 1)) := by
    show (t % 2) * 2 ^ 63 + 0x7ff0000000000000 + 1 + (t / 2) % (2 ^ 52 - 1) = _
    omega
  rw [e]
  exact h
/-- What a float operation does, at any world. -/
theorem run_float_any (op : BinOp) (hop : op = .add ∨ op = .mul) (P : Program) (t : TypeId) (x y : Nat) (w : World) : ∃ r d, (binOp op t (.float .f64 x) (.float .f64 y)).run P w = .ok (.float .f64 r) (w.drewN d) ∧ relF (floatBits op .f64 x y) r := by
  cases h : floatBits op .f64 x y with
  | some r => exact ⟨r, 0, run_float_arith w op t .f64 x y r h, rfl⟩
  | none =>
    rcases hop with rfl | rfl
    · have h2 : FloatKind.f64.format.add x y = none := h
      refine ⟨_, 1, ?_, nan_cut x y (w.tape w.drawn (.nanBits .f64 x y))⟩
      simp [binOp, Op.floatArith, h2, Question.forced]
      rfl
    · have h2 : FloatKind.f64.format.mul x y = none := h
      refine ⟨_, 1, ?_, nan_cut x y (w.tape w.drawn (.nanBits .f64 x y))⟩
      simp [binOp, Op.floatArith, h2, Question.forced]
      rfl
end Go.Proofs.Ytjhapibelhakdaa.Pure
