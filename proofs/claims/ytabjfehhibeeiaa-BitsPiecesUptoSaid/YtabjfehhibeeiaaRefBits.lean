/- What rows of bits, Gray's numbers come to: plain Lean. -/
import Derived.Test.YtabjfehhibeeiaaFogx0
import Derived.Test.YtabjfehhibeeiaaFogx1
import Derived.Test.YtabjfehhibeeiaaFogx7
import Derived.Test.YtabjfehhibeeiaaKit
import Derived.Test.YtabjfehhibeeiaaPureBitsGray
import Derived.Test.YtabjfehhibeeiaaHandRow
import Derived.Test.YtabjfehhibeeiaaHandWorks
namespace Go.Proofs.Ytabjfehhibeeiaa.Pure
open Go.RowKit Go.Proofs.Ytabjfehhibeeiaa.Fog Go.Proofs.YtabjfehhibeeiaaW.PrintWords Go.Proofs.YtabjfehhibeeiaaW.PrintLast Go.Proofs.Ytabjfehhibeeiaa.Kit
set_option linter.unusedVariables false
theorem rd_nat (l : List Bool) (i : Nat) : rdOf false l (i : Int) = l.getD i false := by simp [rdOf]
def xorB (a b : List Bool) : List Bool := List.zipWith (fun x y => x != y) a b
theorem xorB_length (a b : List Bool) (h : a.length = b.length) : (xorB a b).length = a.length := by simp [xorB, h]
theorem xorB_get (a b : List Bool) (i : Nat) (ha : i < a.length) (hb : i < b.length) : (xorB a b)[i]'(by simp [xorB]; omega) = (a.getD i false != b.getD i false) := by
  simp [xorB, List.getD_eq_getElem?_getD, ha, hb]
theorem xor_l0 (a b : List Bool) (hab : a.length = b.length) (hl : a.length ≤ 32768) : ∀ (d i : Nat) (x : List Bool), i + d = a.length → x.length = a.length → x.take i = (xorB a b).take i →
    Ev (fun k => bits_Xor.l0 k b x a (a.length : Int) (i : Int)) (xorB a b, 0)
  | 0, i, x, h, hx, ht => by
    refine Ev.step (f := fun _ => some (xorB a b, 0)) (fun k => ?_) (Ev.now _)
    simp only [bits_Xor.l0]
    rw [if_neg (by omega)]
    rw [List.take_of_length_le (by omega), List.take_of_length_le (by rw [xorB_length a b hab]; omega)] at ht
    rw [ht]
  | d + 1, i, x, h, hx, ht => by
    have hi : i < a.length := by omega
    refine Ev.step (fun k => by simp only [bits_Xor.l0]; rfl) ?_
    refine Ev.ifp (by omega) (Ev.ifp (by omega) (Ev.ifp (by omega) (Ev.ifp (by omega) (Ev.ifp (by omega) ?_))))
    rw [show ((i : Int) + 1) = ((i + 1 : Nat) : Int) by omega, w64n (by omega), Int.toNat_natCast, rd_nat, rd_nat]
    refine xor_l0 a b hab hl d (i + 1) _ (by omega) (by simpa using hx) ?_
    rw [List.take_succ_eq_append_getElem (by simpa using (by omega : i < x.length)), List.take_set_of_le (Nat.le_refl _), ht, List.getElem_set_self, List.take_succ_eq_append_getElem (l := xorB a b) (by rw [xorB_length a b hab]; omega), xorB_get a b i hi (by omega)]
theorem xor_ev (a b : List Bool) (hab : a.length = b.length) (hl : a.length ≤ 32768) : Ev (fun k => bits_Xor.f k a b) (xorB a b, 0) := by
  unfold bits_Xor.f
  refine Ev.ifn (by omega) ?_
  refine Ev.step (fun k => by simp only [bits_Xor.j0]; rfl) ?_
  refine Ev.ifn (by simp [hab]) (Ev.ifp (by omega) (Ev.ifp (by omega) ?_))
  rw [Int.toNat_natCast]
  exact xor_l0 a b hab hl a.length 0 _ (by omega) (by simp) (by simp)
theorem xor_bad (a b : List Bool) (h : ¬ (a.length = b.length ∧ a.length ≤ 32768)) : Ev (fun k => bits_Xor.f k a b) ([], 1) := by
  unfold bits_Xor.f
  by_cases h1 : (a.length : Int) > 32768
  · refine Ev.ifp h1 ?_
    refine Ev.step (fun k => by simp only [bits_Xor.j0]; rfl) ?_
    exact Ev.ifp trivial (Ev.now _)
  · refine Ev.ifn h1 ?_
    refine Ev.step (fun k => by simp only [bits_Xor.j0]; rfl) ?_
    refine Ev.ifp (by simp; omega) (Ev.now _)
def wgt (l : List Bool) : Nat := l.count true
theorem wgt_le (l : List Bool) : wgt l ≤ l.length := List.count_le_length
theorem wgt_take (l : List Bool) (i : Nat) (h : i < l.length) : wgt (l.take (i + 1)) = wgt (l.take i) + (if l.getD i false = true then 1 else 0) := by
  unfold wgt
  rw [List.take_succ_eq_append_getElem h, List.count_append]
  congr 1
  simp [List.getD_eq_getElem?_getD, h, List.count_singleton]
theorem weight_l0 (l : List Bool) (hl : l.length ≤ 9223372036854775806) : ∀ (d i : Nat), i + d = l.length → Ev (fun k => bits_Weight.l0 k (wgt (l.take i) : Int) l (l.length : Int) (i : Int)) (wgt l : Int)
  | 0, i, h => by
    refine Ev.step (f := fun _ => some (wgt l : Int)) (fun k => ?_) (Ev.now _)
    simp only [bits_Weight.l0]
    rw [if_neg (by omega), List.take_of_length_le (by omega)]
  | d + 1, i, h => by
    have ih := weight_l0 l hl d (i + 1) (by omega)
    rw [wgt_take l i (by omega)] at ih
    have hb : wgt (l.take i) ≤ i := Nat.le_trans (wgt_le _) (by rw [List.length_take]; omega)
    refine Ev.step (fun k => by simp only [bits_Weight.l0]; rfl) ?_
    refine Ev.ifp (by omega) (Ev.ifp (by omega) (Ev.ifp (by omega) ?_))
    rw [rd_nat, show ((i : Int) + 1) = ((i + 1 : Nat) : Int) by omega, w64n (by omega)]
    by_cases hg : l.getD i false = true
    · refine Ev.ifp hg ?_
      rw [if_pos hg] at ih
      rw [show ((wgt (l.take i) : Int) + 1) = ((wgt (l.take i) + 1 : Nat) : Int) by omega, w64n (by omega)]
      exact ih
    · refine Ev.ifn hg ?_
      rw [if_neg hg] at ih
      exact ih
theorem weight_ev (l : List Bool) (hl : l.length ≤ 9223372036854775806) : Ev (fun k => bits_Weight.f k l) (wgt l : Int) := by
  have := weight_l0 l hl l.length 0 (by omega)
  simpa [bits_Weight.f, wgt] using this
theorem distance_ev (a b : List Bool) (hab : a.length = b.length) (hl : a.length ≤ 32768) : Ev (fun k => bits_Distance.f k a b) ((wgt (xorB a b) : Int), 0) := by
  unfold bits_Distance.f
  refine Ev.bind (xor_ev a b hab hl) ?_
  refine Ev.bind (weight_ev _ (by rw [xorB_length a b hab]; omega)) ?_
  exact Ev.now _
theorem distance_bad (a b : List Bool) (h : ¬ (a.length = b.length ∧ a.length ≤ 32768)) : Ev (fun k => bits_Distance.f k a b) (0, 1) := by
  unfold bits_Distance.f
  refine Ev.bind (xor_bad a b h) ?_
  refine Ev.bind (weight_ev [] (by simp)) ?_
  exact Ev.now _
/-! Gray's numbers. -/
def gr (n : Nat) : Nat := n ^^^ n / 2
theorem gr_lt (n w : Nat) (h : n < 2 ^ w) : gr n < 2 ^ w := Nat.xor_lt_two_pow h (by omega)
theorem tele (n s : Nat) : (n ^^^ n >>> s) ^^^ (n ^^^ n >>> s) >>> s = n ^^^ n >>> (s + s) := by
  rw [Nat.shiftRight_xor_distrib, ← Nat.shiftRight_add, Nat.xor_assoc, ← Nat.xor_assoc (n >>> s), Nat.xor_self, Nat.zero_xor]
theorem ung_gr (n : Nat) (hn : n < 65536) : ung (gr n) = n := by
  have h16 : n >>> 16 = 0 := by rw [Nat.shiftRight_eq_div_pow]; omega
  have e : gr n = n ^^^ n >>> 1 := by unfold gr; rw [Nat.shiftRight_eq_div_pow]
  unfold ung
  rw [e]
  simp only [tele, Nat.reduceAdd]
  rw [h16, Nat.xor_zero]
theorem gr_inj (a b : Nat) (ha : a < 65536) (hb : b < 65536) (h : gr a = gr b) : a = b := by
  rw [← ung_gr a ha, h, ung_gr b hb]
theorem xor_bits (A B c d : Nat) (hc : c < 2) (hd : d < 2) : (2 * A + c) ^^^ (2 * B + d) = 2 * (A ^^^ B) + (c + d) % 2 := by
  have h1 : ((2 * A + c) ^^^ (2 * B + d)) / 2 = A ^^^ B := by
    rw [Nat.xor_div_two, show (2 * A + c) / 2 = A by omega, show (2 * B + d) / 2 = B by omega]
  have h2 : ((2 * A + c) ^^^ (2 * B + d)) % 2 = (c + d) % 2 := by
    have := bit_xor (2 * A + c) (2 * B + d) 0
    simp only [Nat.pow_zero, Nat.div_one] at this
    rw [this]
    omega
  omega
theorem gr_bit (y b : Nat) (hb : b < 2) : gr (2 * y + b) = 2 * gr y + (b + y) % 2 := by
  unfold gr
  rw [show (2 * y + b) / 2 = y by omega]
  have h := xor_bits y (y / 2) b (y % 2) hb (Nat.mod_lt _ (by omega))
  rw [show 2 * (y / 2) + y % 2 = y by omega] at h
  rw [h]
  omega
theorem gr_next : ∀ (n m : Nat), m ≤ n → ∃ t, gr m ^^^ gr (m + 1) = 2 ^ t
  | 0, m, h => ⟨0, by obtain rfl : m = 0 := by omega
                      decide⟩
  | n + 1, m, h => by
    rcases Nat.mod_two_eq_zero_or_one m with hm | hm
    · refine ⟨0, ?_⟩
      have e1 := gr_bit (m / 2) 0 (by omega)
      have e2 := gr_bit (m / 2) 1 (by omega)
      rw [show 2 * (m / 2) + 0 = m by omega] at e1
      rw [show 2 * (m / 2) + 1 = m + 1 by omega] at e2
      rw [e1, e2, xor_bits _ _ _ _ (Nat.mod_lt _ (by omega)) (Nat.mod_lt _ (by omega)), Nat.xor_self]
      omega
    · obtain ⟨t, ht⟩ := gr_next n (m / 2) (by omega)
      refine ⟨t + 1, ?_⟩
      have e1 := gr_bit (m / 2) 1 (by omega)
      have e2 := gr_bit (m / 2 + 1) 0 (by omega)
      rw [show 2 * (m / 2) + 1 = m by omega] at e1
      rw [show 2 * (m / 2 + 1) + 0 = m + 1 by omega] at e2
      rw [e1, e2, xor_bits _ _ _ _ (Nat.mod_lt _ (by omega)) (Nat.mod_lt _ (by omega)), ht, Nat.pow_succ]
      omega
theorem gr_last : ∀ w : Nat, gr (2 ^ (w + 1) - 1) = 2 ^ w
  | 0 => by decide
  | w + 1 => by
    have h := gr_bit (2 ^ (w + 1) - 1) 1 (by omega)
    have hp := Nat.two_pow_pos w
    have e2 : 2 ^ (w + 1) = 2 * 2 ^ w := by rw [Nat.pow_succ]; omega
    rw [gr_last w] at h
    rw [show 2 ^ (w + 1 + 1) - 1 = 2 * (2 ^ (w + 1) - 1) + 1 by rw [Nat.pow_succ (n := 2) (m := w + 1)]; omega, h, e2]
    omega
theorem gr_ring (w m : Nat) (hw : 1 ≤ w) (hm : m < 2 ^ w) : ∃ t, gr m ^^^ gr ((m + 1) % 2 ^ w) = 2 ^ t := by
  by_cases h : m + 1 < 2 ^ w
  · rw [Nat.mod_eq_of_lt h]
    exact gr_next m m (Nat.le_refl _)
  · have e : m + 1 = 2 ^ w := by omega
    rw [e, Nat.mod_self]
    obtain ⟨v, rfl⟩ : ∃ v, w = v + 1 := ⟨w - 1, by omega⟩
    rw [show m = 2 ^ (v + 1) - 1 by omega, gr_last]
    exact ⟨v, by show 2 ^ v ^^^ 0 = 2 ^ v; exact Nat.xor_zero _⟩
theorem gray_f (n : Nat) (hn : n < 65536) : bits_Gray.f (n : Int) = some ((gr n : Int), 0) := by
  unfold bits_Gray.f
  rw [if_neg (by omega), if_neg (by omega), show ((n : Int) / 2) = ((n / 2 : Nat) : Int) by omega, xor_i64 n (n / 2) (by omega) (by omega)]
  rfl
end Go.Proofs.Ytabjfehhibeeiaa.Pure
