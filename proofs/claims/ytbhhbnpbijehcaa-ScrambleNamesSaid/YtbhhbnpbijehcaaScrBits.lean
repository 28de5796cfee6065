/- Rows of truths laid over one another; rows alike. -/
import Derived.Test.YtbhhbnpbijehcaaFogx0
import Derived.Test.YtbhhbnpbijehcaaFogx1
import Derived.Test.YtbhhbnpbijehcaaFogx2
import Derived.Test.YtbhhbnpbijehcaaKit
namespace Go.Proofs.Ytbhhbnpbijehcaa.Pure
open Go.RowKit Go.Proofs.Ytbhhbnpbijehcaa.Fog Go.Proofs.YtbhhbnpbijehcaaW.PrintWords Go.Proofs.YtbhhbnpbijehcaaW.PrintLast Go.Proofs.Ytbhhbnpbijehcaa.Kit
set_option linter.unusedVariables false
theorem rd_nat (l : List Bool) (i : Nat) : rdOf false l (i : Int) = l.getD i false := by simp [rdOf]
def xorB (a b : List Bool) : List Bool := List.zipWith (fun x y => x != y) a b
theorem xorB_length (a b : List Bool) (h : a.length = b.length) : (xorB a b).length = a.length := by simp [xorB, h]
theorem xorB_get (a b : List Bool) (i : Nat) (ha : i < a.length) (hb : i < b.length) : (xorB a b)[i]'(by simp [xorB]; omega) = (a.getD i false != b.getD i false) := by
  simp [xorB, List.getD_eq_getElem?_getD, ha, hb]
theorem xor_l0 (a b : List Bool) (hab : a.length = b.length) (hl : a.length ≤ 32768) : ∀ (d i : Nat) (x : List Bool), i + d = a.length → x.length = a.length → x.take i = (xorB a b).take i →
    Ev (fun k => bits_Xor.l0 k b x a (a.length : Int) (i : Int)) (xorB a b, 0)
  | 0, i, x, h, hx, ht => by
    refine Ev.step (f := fun _ => some (xorB a b, 0)) (fun k => ?_) (Ev.now _)
    simp only [bits_Xor.l0]
    rw [if_neg (by omega)]
    rw [List.take_of_length_le (by omega), List.take_of_length_le (by rw [xorB_length a b hab]; omega)] at ht
    rw [ht]
  | d + 1, i, x, h, hx, ht => by
    have hi : i < a.length := by omega
    refine Ev.step (fun k => by simp only [bits_Xor.l0]; rfl) ?_
    refine Ev.ifp (by omega) (Ev.ifp (by omega) (Ev.ifp (by omega) (Ev.ifp (by omega) (Ev.ifp (by omega) ?_))))
    rw [show ((i : Int) + 1) = ((i + 1 : Nat) : Int) by omega, w64n (by omega), Int.toNat_natCast, rd_nat, rd_nat]
    refine xor_l0 a b hab hl d (i + 1) _ (by omega) (by simpa using hx) ?_
    rw [List.take_succ_eq_append_getElem (by simpa using (by omega : i < x.length)), List.take_set_of_le (Nat.le_refl _), ht, List.getElem_set_self, List.take_succ_eq_append_getElem (l := xorB a b) (by rw [xorB_length a b hab]; omega), xorB_get a b i hi (by omega)]
theorem xor_ev (a b : List Bool) (hab : a.length = b.length) (hl : a.length ≤ 32768) : Ev (fun k => bits_Xor.f k a b) (xorB a b, 0) := by
  unfold bits_Xor.f
  refine Ev.ifn (by omega) ?_
  refine Ev.step (fun k => by simp only [bits_Xor.j0]; rfl) ?_
  refine Ev.ifn (by simp [hab]) (Ev.ifp (by omega) (Ev.ifp (by omega) ?_))
  rw [Int.toNat_natCast]
  exact xor_l0 a b hab hl a.length 0 _ (by omega) (by simp) (by simp)
theorem xor_bad (a b : List Bool) (h : ¬ (a.length = b.length ∧ a.length ≤ 32768)) : Ev (fun k => bits_Xor.f k a b) ([], 1) := by
  unfold bits_Xor.f
  by_cases h1 : (a.length : Int) > 32768
  · refine Ev.ifp h1 ?_
    refine Ev.step (fun k => by simp only [bits_Xor.j0]; rfl) ?_
    exact Ev.ifp trivial (Ev.now _)
  · refine Ev.ifn h1 ?_
    refine Ev.step (fun k => by simp only [bits_Xor.j0]; rfl) ?_
    refine Ev.ifp (by simp; omega) (Ev.now _)
def xorV (a b : List Bool) : List Bool × Int := if a.length = b.length ∧ a.length ≤ 32768 then (xorB a b, 0) else ([], 1)
theorem xorV_ev (a b : List Bool) : Ev (fun k => bits_Xor.f k a b) (xorV a b) := by
  unfold xorV
  by_cases h : a.length = b.length ∧ a.length ≤ 32768
  · rw [if_pos h]; exact xor_ev a b h.1 h.2
  · rw [if_neg h]; exact xor_bad a b h
theorem xorV_length (a b : List Bool) : (xorV a b).1.length ≤ 32768 := by
  unfold xorV
  split
  · rename_i h
    show (xorB a b).length ≤ _
    rw [xorB_length a b h.1]
    exact h.2
  · simp
theorem refxor_l0 (a b : List Bool) (hab : a.length = b.length) (hl : a.length ≤ 32768) : ∀ (d i : Nat) (x : List Bool), i + d = a.length → x = (xorB a b).take i →
    Ev (fun k => foghornref01_Xor.l0 k a b x (i : Int)) (xorB a b, 0)
  | 0, i, x, h, hx => by
    refine Ev.step (fun k => by simp only [foghornref01_Xor.l0]; rfl) ?_
    refine Ev.ifn (by omega) (Ev.val ?_)
    rw [hx, List.take_of_length_le (by rw [xorB_length a b hab]; omega)]
  | d + 1, i, x, h, hx => by
    have hi : i < a.length := by omega
    have hxl : x.length < 140737488355328 := by rw [hx, List.length_take]; omega
    refine Ev.step (fun k => by simp only [foghornref01_Xor.l0]; rfl) ?_
    refine Ev.ifp (by omega) (Ev.ifp (by omega) (Ev.ifp (by omega) (Ev.ifp hxl ?_)))
    rw [show ((i : Int) + 1) = ((i + 1 : Nat) : Int) by omega, w64n (by omega), rd_nat, rd_nat]
    refine refxor_l0 a b hab hl d (i + 1) _ (by omega) ?_
    rw [List.take_succ_eq_append_getElem (l := xorB a b) (by rw [xorB_length a b hab]; omega), xorB_get a b i hi (by omega), hx]
theorem refxor_ev (a b : List Bool) : Ev (fun k => foghornref01_Xor.f k a b) (xorV a b) := by
  unfold xorV foghornref01_Xor.f
  by_cases h1 : (a.length : Int) > 32768
  · rw [if_neg (by omega)]
    refine Ev.ifp h1 ?_
    refine Ev.step (fun k => by simp only [foghornref01_Xor.j0]; rfl) ?_
    exact Ev.ifp trivial (Ev.now _)
  refine Ev.ifn h1 ?_
  by_cases h2 : (b.length : Int) > 32768
  · rw [if_neg (by omega)]
    refine Ev.ifp h2 ?_
    refine Ev.step (fun k => by simp only [foghornref01_Xor.j0]; rfl) ?_
    exact Ev.ifp trivial (Ev.now _)
  refine Ev.ifn h2 ?_
  refine Ev.step (fun k => by simp only [foghornref01_Xor.j0]; rfl) ?_
  by_cases h3 : a.length = b.length
  · rw [if_pos (by omega)]
    refine Ev.ifn (by simp [h3]) ?_
    exact refxor_l0 a b h3 (by omega) a.length 0 [] (by omega) (by simp)
  · rw [if_neg (by omega)]
    exact Ev.ifp (by simp; omega) (Ev.now _)
theorem same_l0 (l : List Bool) (hl : l.length ≤ 9223372036854775806) : ∀ (d i : Nat), i + d = l.length → Ev (fun k => foghornlaw16_sameBits.l0 k l l (i : Int)) true
  | 0, i, h => by
    refine Ev.step (fun k => by simp only [foghornlaw16_sameBits.l0]; rfl) ?_
    exact Ev.ifn (by omega) (Ev.now _)
  | d + 1, i, h => by
    refine Ev.step (fun k => by simp only [foghornlaw16_sameBits.l0]; rfl) ?_
    refine Ev.ifp (by omega) (Ev.ifp (by omega) (Ev.ifp (by omega) (Ev.ifn (by simp) ?_)))
    rw [show ((i : Int) + 1) = ((i + 1 : Nat) : Int) by omega, w64n (by omega)]
    exact same_l0 l hl d (i + 1) (by omega)
theorem same_ev (l : List Bool) (hl : l.length ≤ 9223372036854775806) : Ev (fun k => foghornlaw16_sameBits.f k l l) true := by
  unfold foghornlaw16_sameBits.f
  refine Ev.ifp rfl ?_
  exact same_l0 l hl l.length 0 (by omega)
theorem same_in (A : Option Addr) (c : Nat) (B : Option Addr) (d : Nat) (l : List Bool) (w : World) (h1 : Kd.C Kd.bool w A l.length l) (hc : l.length ≤ c) (h2 : Kd.C Kd.bool w B l.length l) (hd : l.length ≤ d) (hl : l.length ≤ 9223372036854775806) :
    Calls Try.prog 22 #[.slice A l.length c, .slice B l.length d] w fun e w' => e = .returned (.bool true) ∧ Below w.heap.size w w' := by
  obtain ⟨k, hk⟩ := (same_ev l hl).rounds
  refine (foghornlaw16_sameBits.calls k A c l B d l true w h1 hc h2 hd hk).mono ?_
  rintro e w' ⟨rfl, ⟨nd, rfl⟩⟩
  exact ⟨rfl, pw_below_drewN (Below.refl _ _) _⟩
theorem xor_in (A : Option Addr) (c : Nat) (a : List Bool) (B : Option Addr) (d : Nat) (b : List Bool) (w : World) (h1 : Kd.C Kd.bool w A a.length a) (hc : a.length ≤ c) (h2 : Kd.C Kd.bool w B b.length b) (hd : b.length ≤ d) : Calls Try.prog 32 #[.slice A a.length c, .slice B b.length d] w fun e w' => ∃ v0_ : Value, e = .returned (.tuple #[v0_, .int .i64 (xorV a b).2]) ∧ Kd.R Kd.bool 4 w' w.heap.size (fun _ => True) v0_ (xorV a b).1 ∧ Below w.heap.size w w' := by
  obtain ⟨k, hk⟩ := (xorV_ev a b).rounds
  exact bits_Xor.calls k A c a B d b _ _ w h1 hc h2 hd hk
theorem refxor_in (A : Option Addr) (c : Nat) (a : List Bool) (B : Option Addr) (d : Nat) (b : List Bool) (w : World) (h1 : Kd.C Kd.bool w A a.length a) (hc : a.length ≤ c) (h2 : Kd.C Kd.bool w B b.length b) (hd : b.length ≤ d) : Calls Try.prog 41 #[.slice A a.length c, .slice B b.length d] w fun e w' => ∃ v0_ : Value, e = .returned (.tuple #[v0_, .int .i64 (xorV a b).2]) ∧ Kd.R Kd.bool 4 w' w.heap.size (fun _ => True) v0_ (xorV a b).1 ∧ Below w.heap.size w w' := by
  obtain ⟨k, hk⟩ := (refxor_ev a b).rounds
  exact foghornref01_Xor.calls k A c a B d b _ _ w h1 hc h2 hd hk
end Go.Proofs.Ytbhhbnpbijehcaa.Pure
