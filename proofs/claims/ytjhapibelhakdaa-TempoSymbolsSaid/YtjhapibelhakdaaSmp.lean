/- Samples: their kind, their cells; agreement of two rows. -/
import Derived.Test.YtjhapibelhakdaaFogx0
import Derived.Test.YtjhapibelhakdaaKit
import Derived.Laws.Cover3
import Derived.Laws.FloatArith
import Derived.RangeFuncBox
namespace Go.Proofs.Ytjhapibelhakdaa.Pure
open Go.RowKit Go.Proofs.Ytjhapibelhakdaa.Fog Go.Proofs.YtjhapibelhakdaaW.PrintWords Go.Proofs.YtjhapibelhakdaaW.PrintLast Go.Proofs.YtjhapibelhakdaaW.PrintMore Go.Proofs.Ytjhapibelhakdaa.Kit
set_option linter.unusedVariables false
/-- A sample: the parts' bits; lost. -/
abbrev Smp := (Nat × Nat) × Bool
def cx (z : Nat × Nat) : Value := .complex .f64 z.1 z.2
def KC : Kd (Nat × Nat) := Kd.scalar cx (fun _ => rfl)
def KS : Kd Smp := Kd.pair KC Kd.bool
def s0 : Smp := ((0, 0), false)
theorem KS_sz : KS.sz = 2 := rfl
/-- A sample's two cells. -/
theorem smp_cells {w : World} {x : Smp} {cs : List Value} (h : KS.K w x cs) : cs = [.complex .f64 x.1.1 x.1.2, .bool x.2] := by
  obtain ⟨c1, c2, rfl, h1, h2⟩ := h
  have e1 : c1 = [cx x.1] := h1
  have e2 : c2 = [.bool x.2] := h2
  rw [e1, e2]; rfl
theorem add_one_form (ad : Addr) (m : Nat) : ad.add (m + 1) = ⟨(ad.add m).block, (ad.add m).off + 1, none⟩ := by
  unfold Addr.add
  by_cases h : m = 0
  · subst h; simp
  · simp [h, Nat.add_assoc]
theorem smp_at {w : World} {A : Option Addr} {n : Nat} {l : List Smp} (h : Kd.C KS w A n l) (i : Nat) (hi : i < n) :
    ∃ ad, A = some ad ∧ w.cell? (ad.add (i * 2)) = some (.complex .f64 (l.getD i s0).1.1 (l.getD i s0).1.2) ∧ w.cell? ⟨(ad.add (i * 2)).block, (ad.add (i * 2)).off + 1, none⟩ = some (.bool (l.getD i s0).2) := by
  have hl : l.length = n := h.1
  obtain ⟨ad, rfl, hc⟩ := h.2.2 (by omega)
  have hg : l[i]? = some (l.getD i s0) := by
    rw [List.getD_eq_getElem?_getD, List.getElem?_eq_getElem (by omega)]; rfl
  obtain ⟨cs, hcl, hK, hcell⟩ := hc i _ hg
  have e := smp_cells hK
  subst e
  refine ⟨ad, rfl, hcell 0 _ rfl, ?_⟩
  rw [← add_one_form]
  exact hcell 1 _ rfl
def eqC (x y : Nat × Nat) : Bool := (FloatKind.f64.format.order x.1 y.1 == some .eq) && (FloatKind.f64.format.order x.2 y.2 == some .eq)
def agr (a b : Smp) : Bool := !a.2 && (!b.2 && eqC a.1 b.1)
def inA (a b : List Smp) (s : Int) (k : Nat) : Bool := decide (0 ≤ (k : Int) + s ∧ (k : Int) + s < b.length) && agr (a.getD k s0) (b.getD ((k : Int) + s).toNat s0)
/-- How many of the first k places agree. -/
def agreeTo (a b : List Smp) (s : Int) : Nat → Nat
  | 0 => 0
  | k + 1 => agreeTo a b s k + (if inA a b s k then 1 else 0)
theorem agreeTo_le (a b : List Smp) (s : Int) : ∀ k, agreeTo a b s k ≤ k
  | 0 => Nat.le_refl _
  | k + 1 => by have := agreeTo_le a b s k; unfold agreeTo; split <;> omega
theorem agreeTo_succ (a b : List Smp) (s : Int) (k : Nat) : agreeTo a b s (k + 1) = agreeTo a b s k + (if inA a b s k = true then 1 else 0) := rfl
theorem inA_out (a b : List Smp) (s : Int) (k : Nat) (h : ¬ (0 ≤ (k : Int) + s ∧ (k : Int) + s < b.length)) : inA a b s k = false := by
  unfold inA
  rw [decide_eq_false h]
  rfl
theorem agreeTo_low (a b : List Smp) (s : Int) : ∀ k : Nat, (k : Int) + s ≤ 0 → agreeTo a b s k = 0
  | 0, _ => rfl
  | k + 1, h => by rw [agreeTo_succ, agreeTo_low a b s k (by omega), inA_out a b s k (by omega)]; rfl
theorem agreeTo_high (a b : List Smp) (s : Int) (k : Nat) (h : (b.length : Int) ≤ (k : Int) + s) : ∀ d, agreeTo a b s (k + d) = agreeTo a b s k
  | 0 => rfl
  | d + 1 => by rw [← Nat.add_assoc, agreeTo_succ, agreeTo_high a b s k h d, inA_out a b s (k + d) (by omega)]; rfl
end Go.Proofs.Ytjhapibelhakdaa.Pure
