/- The algebra of remainders: plain, no program in sight. -/
import Derived.Test.YtclhkbjcemgmnaaFogx0
namespace Go.Proofs.Ytclhkbjcemgmnaa.Crc
set_option linter.unusedSimpArgs false
set_option linter.unusedVariables false
/-! A step of a shift register, a row's remainder; linear; no burst is lost. -/
variable {w : Nat}
def step (p s : BitVec w) (b : Bool) : BitVec w := (s <<< 1) ^^^ (if (s.msb != b) = true then p else 0#w)
def crc (p s : BitVec w) (l : List Bool) : BitVec w := l.foldl (step p) s
def xl (a b : List Bool) : List Bool := List.zipWith (fun x y => x != y) a b
theorem crc_nil (p s : BitVec w) : crc p s [] = s := rfl
theorem crc_cons (p s : BitVec w) (b : Bool) (l : List Bool) : crc p s (b :: l) = crc p (step p s b) l := rfl
theorem crc_append (p s : BitVec w) (a b : List Bool) : crc p s (a ++ b) = crc p (crc p s a) b := List.foldl_append ..
theorem crc_snoc (p s : BitVec w) (a : List Bool) (b : Bool) : crc p s (a ++ [b]) = step p (crc p s a) b := by rw [crc_append]; rfl
theorem step_xor (p s t : BitVec w) (a b : Bool) : step p (s ^^^ t) (a != b) = step p s a ^^^ step p t b := by
  unfold step
  rw [BitVec.msb_xor, BitVec.shiftLeft_xor_distrib]
  generalize s <<< 1 = x
  generalize t <<< 1 = y
  cases s.msb <;> cases t.msb <;> cases a <;> cases b <;> simp only [bne_self_eq_false, Bool.false_bne, Bool.true_bne, Bool.bne_false, Bool.bne_true, Bool.not_true, Bool.not_false, if_true, if_false, BitVec.xor_zero, reduceIte, Bool.false_eq_true, Bool.xor_false, Bool.false_xor, Bool.true_xor, Bool.xor_true, Bool.not_not] <;> first | rfl | ac_rfl | (rw [show p ^^^ (p ^^^ (x ^^^ y)) = x ^^^ y from by rw [← BitVec.xor_assoc, BitVec.xor_self, BitVec.zero_xor]]) | (rw [show x ^^^ p ^^^ (y ^^^ p) = x ^^^ y ^^^ (p ^^^ p) from by ac_rfl, BitVec.xor_self, BitVec.xor_zero])
theorem crc_xor (p : BitVec w) : ∀ (a b : List Bool) (s t : BitVec w), a.length = b.length → crc p (s ^^^ t) (xl a b) = crc p s a ^^^ crc p t b
  | [], [], _, _, _ => rfl
  | x :: a, y :: b, s, t, h => by
    show crc p (step p (s ^^^ t) (x != y)) (xl a b) = _
    rw [step_xor, crc_xor p a b _ _ (by simpa using h)]
    rfl
theorem step_zero (p : BitVec w) : step p 0#w false = 0#w := by unfold step; simp
theorem crc_zeros (p : BitVec w) : ∀ n, crc p 0#w (List.replicate n false) = 0#w
  | 0 => rfl
  | n + 1 => by rw [List.replicate_succ, crc_cons, step_zero, crc_zeros p n]
theorem step_inj {p s : BitVec w} (hw : 0 < w) (hp : p.getLsbD 0 = true) (h : step p s false = 0#w) : s = 0#w := by
  unfold step at h
  cases hm : s.msb with
  | true =>
    rw [hm, if_pos (by decide)] at h
    have := congrArg (fun z => z.getLsbD 0) h
    simp [hp] at this
  | false =>
    rw [hm, if_neg (by simp)] at h
    rw [BitVec.xor_zero] at h
    apply BitVec.eq_of_getLsbD_eq
    intro i hi
    rcases Nat.lt_or_ge (i + 1) w with h1 | h1
    · have := congrArg (fun z => z.getLsbD (i + 1)) h
      simp only [BitVec.getLsbD_shiftLeft, BitVec.getLsbD_zero] at this
      simpa [h1] using this
    · have e : i = w - 1 := by omega
      subst e
      rw [BitVec.msb_eq_getLsbD_last] at hm
      simpa using hm
theorem zeros_inj {p : BitVec w} (hw : 0 < w) (hp : p.getLsbD 0 = true) : ∀ (n : Nat) (s : BitVec w), crc p s (List.replicate n false) = 0#w → s = 0#w
  | 0, s, h => h
  | n + 1, s, h => by
    rw [List.replicate_succ, crc_cons] at h
    exact step_inj hw hp (zeros_inj hw hp n _ h)

/-- A number's first bits, the highest one first. -/
def pref (s : BitVec w) (k : Nat) : List Bool := (List.range k).map s.getMsbD
def spelt (s : BitVec w) : List Bool := pref s w
theorem pref_succ (s : BitVec w) (k : Nat) : pref s (k + 1) = pref s k ++ [s.getMsbD k] := by simp [pref, List.range_succ]
theorem pref_length (s : BitVec w) (k : Nat) : (pref s k).length = k := by simp [pref]
theorem spelt_length (s : BitVec w) : (spelt s).length = w := pref_length s w
theorem crc_pref (p s : BitVec w) : ∀ k, crc p s (pref s k) = s <<< k
  | 0 => by simp [pref, crc]
  | k + 1 => by
    rw [pref_succ, crc_snoc, crc_pref p s k]
    unfold step
    rw [BitVec.msb_shiftLeft]
    simp [BitVec.shiftLeft_add]
theorem crc_spelt (p s : BitVec w) : crc p s (spelt s) = 0#w := by
  unfold spelt
  rw [crc_pref]
  exact BitVec.shiftLeft_eq_zero (Nat.le_refl _)
theorem xl_self : ∀ a : List Bool, xl a a = List.replicate a.length false
  | [] => rfl
  | x :: a => by
    show (x != x) :: xl a a = _
    rw [xl_self a, List.length_cons, List.replicate_succ]
    simp
theorem xl_length (a b : List Bool) (h : a.length = b.length) : (xl a b).length = a.length := by simp [xl, h]
/-- Bits as a number, the highest first. -/
def natOf (l : List Bool) : Nat := l.foldl (fun n b => 2 * n + b.toNat) 0
theorem natOf_snoc (l : List Bool) (b : Bool) : natOf (l ++ [b]) = 2 * natOf l + b.toNat := by simp [natOf]
theorem natOf_lt : ∀ n (l : List Bool), l.length = n → natOf l < 2 ^ n
  | 0, l, h => by rw [List.eq_nil_of_length_eq_zero h]; simp [natOf]
  | n + 1, l, h => by
    have hne : l ≠ [] := by intro e; simp [e] at h
    obtain ⟨l', b, rfl⟩ : ∃ l' b, l = l' ++ [b] := ⟨l.dropLast, l.getLast hne, (List.dropLast_concat_getLast hne).symm⟩
    have := natOf_lt n l' (by simpa using h)
    rw [natOf_snoc, Nat.pow_succ]
    cases b <;> simp <;> omega
theorem natOf_bit : ∀ n (l : List Bool), l.length = n → ∀ i, i < n → (natOf l).testBit (n - 1 - i) = l.getD i false
  | 0, l, h, i, hi => by omega
  | n + 1, l, h, i, hi => by
    have hne : l ≠ [] := by intro e; simp [e] at h
    obtain ⟨l', b, rfl⟩ : ∃ l' b, l = l' ++ [b] := ⟨l.dropLast, l.getLast hne, (List.dropLast_concat_getLast hne).symm⟩
    have hl : l'.length = n := by simpa using h
    rw [natOf_snoc]
    rcases Nat.lt_or_ge i n with h1 | h1
    · rw [show n + 1 - 1 - i = (n - 1 - i) + 1 by omega, Nat.testBit_succ, show (2 * natOf l' + b.toNat) / 2 = natOf l' by cases b <;> simp <;> omega, natOf_bit n l' hl i h1]
      simp [List.getD_eq_getElem?_getD, List.getElem?_append_left (show i < l'.length by omega)]
    · have e : i = n := by omega
      subst e
      rw [show i + 1 - 1 - i = 0 by omega, Nat.testBit_zero]
      subst hl
      simp [List.getD_eq_getElem?_getD]
      cases b <;> simp <;> omega
theorem spelt_get (s : BitVec w) (i : Nat) (hi : i < w) : (spelt s).getD i false = s.getMsbD i := by
  simp [spelt, pref, List.getD_eq_getElem?_getD, hi]
theorem ext_getD {a b : List Bool} (h : a.length = b.length) (k : ∀ i, i < a.length → a.getD i false = b.getD i false) : a = b := by
  apply List.ext_getElem h
  intro i h1 h2
  have := k i h1
  simpa [List.getD_eq_getElem?_getD, h1, h2] using this
theorem spelt_ofNat (l : List Bool) (h : l.length = w) : spelt (BitVec.ofNat w (natOf l)) = l := by
  apply ext_getD (by rw [spelt_length, h])
  intro i hi
  rw [spelt_length] at hi
  rw [spelt_get _ i hi, BitVec.getMsbD_eq_getLsbD, BitVec.getLsbD_ofNat, natOf_bit w l h i hi]
  simp [hi]; omega
theorem natOf_spelt (s : BitVec w) : natOf (spelt s) = s.toNat := by
  have h := spelt_ofNat (w := w) (spelt s) (spelt_length s)
  have hlt := natOf_lt w (spelt s) (spelt_length s)
  apply Nat.eq_of_testBit_eq
  intro i
  rcases Nat.lt_or_ge i w with hi | hi
  · have := natOf_bit w (spelt s) (spelt_length s) (w - 1 - i) (by omega)
    rw [show w - 1 - (w - 1 - i) = i by omega, spelt_get _ _ (by omega), BitVec.getMsbD_eq_getLsbD, show w - 1 - (w - 1 - i) = i by omega] at this
    rw [this, BitVec.testBit_toNat]
    simp; omega
  · rw [Nat.testBit_lt_two_pow (Nat.lt_of_lt_of_le hlt (Nat.pow_le_pow_right (by omega) hi)), Nat.testBit_lt_two_pow (Nat.lt_of_lt_of_le s.isLt (Nat.pow_le_pow_right (by omega) hi))]
/-- THE BURST: what begins anywhere and is no longer than the sum is wide leaves something. -/
theorem detect {p : BitVec w} (hw : 0 < w) (hp : p.getLsbD 0 = true) (l : List Bool) (hl : l.length ≤ w) (h : crc p 0#w l = 0#w) : l = List.replicate l.length false := by
  obtain ⟨l', hl'⟩ : ∃ l', l' = l ++ List.replicate (w - l.length) false := ⟨_, rfl⟩
  have hlen : l'.length = w := by rw [hl']; simp; omega
  have hc : crc p 0#w l' = 0#w := by rw [hl', crc_append, h, crc_zeros]
  obtain ⟨y, hy⟩ : ∃ y : BitVec w, spelt y = l' := ⟨_, spelt_ofNat l' hlen⟩
  have hz : crc p y (List.replicate w false) = 0#w := by
    have := crc_xor p (spelt y) (spelt y) y 0#w rfl
    rw [xl_self, spelt_length, crc_spelt, BitVec.xor_zero, hy, hc] at this
    simpa using this
  have hy0 := zeros_inj hw hp w y hz
  have e : l' = List.replicate w false := by
    rw [← hy, hy0]
    apply ext_getD (by simp [spelt_length])
    intro i hi
    rw [spelt_length] at hi
    rw [spelt_get _ i hi]
    simp [List.getD_eq_getElem?_getD, hi]
  have h2 : l = l'.take l.length := by rw [hl']; simp
  rw [e] at h2
  rw [List.take_replicate] at h2
  rw [h2]
  congr 1
  simp
end Go.Proofs.Ytclhkbjcemgmnaa.Crc
