/- Shift registers over bits: plain Lean. -/
namespace Go.Scr
set_option linter.unusedVariables false
/-- Are the set bits below k odd in number? -/
def parN : Nat → Nat → Bool
  | 0, _ => false
  | k + 1, x => (parN k x).xor (x.testBit k)
theorem parN_xor (k a b : Nat) : parN k (a ^^^ b) = (parN k a).xor (parN k b) := by
  induction k with
  | zero => rfl
  | succ k ih =>
    simp only [parN, ih, Nat.testBit_xor]
    cases parN k a <;> cases parN k b <;> cases a.testBit k <;> cases b.testBit k <;> rfl
theorem parN_zero (k : Nat) : parN k 0 = false := by
  induction k with
  | zero => rfl
  | succ k ih => simp [parN, ih]
theorem parN_congr (k a b : Nat) (h : ∀ i, i < k → a.testBit i = b.testBit i) : parN k a = parN k b := by
  induction k with
  | zero => rfl
  | succ k ih => simp only [parN]; rw [ih (fun i hi => h i (by omega)), h k (by omega)]
abbrev par (x : Nat) : Bool := parN 32 x
def b2n (b : Bool) : Nat := if b then 1 else 0
theorem b2n_bit (b : Bool) (i : Nat) : (b2n b).testBit i = (decide (i = 0) && b) := by
  cases b <;> cases i <;> simp [b2n, Nat.testBit_succ]
/-- One step, and one step back. -/
def step (w t s : Nat) : Nat := (s >>> 1) ||| (b2n (par (s &&& t)) <<< (w - 1))
def cut (w s : Nat) : Nat := (s &&& (2 ^ (w - 1) - 1)) <<< 1
def back (w t s : Nat) : Nat := cut w s ||| ((s >>> (w - 1)) ^^^ b2n (par (cut w s &&& t)))
structure Fit (w t : Nat) : Prop where
  lo : 2 ≤ w
  hi : w ≤ 32
  tap : t.testBit 0 = true
theorem bit_hi {w s i : Nat} (h : s < 2 ^ w) (hi : w ≤ i) : s.testBit i = false := Nat.testBit_lt_two_pow (Nat.lt_of_lt_of_le h (Nat.pow_le_pow_right (by decide) hi))
theorem lt_of_bits {w s : Nat} (h : ∀ i, w ≤ i → s.testBit i = false) : s < 2 ^ w := Nat.lt_pow_two_of_testBit _ (fun i hi => h i hi)
theorem step_bit (w t s i : Nat) (hw : 2 ≤ w) (hs : s < 2 ^ w) : (step w t s).testBit i = if i = w - 1 then par (s &&& t) else s.testBit (i + 1) := by
  unfold step
  rw [Nat.testBit_or, Nat.testBit_shiftRight, Nat.testBit_shiftLeft, b2n_bit, Nat.add_comm 1 i]
  by_cases h : i = w - 1
  · rw [if_pos h, bit_hi hs (by omega)]
    simp [h]
  · rw [if_neg h]
    have h2 : (decide (i ≥ w - 1) && (decide (i - (w - 1) = 0) && par (s &&& t))) = false := by
      rcases Nat.lt_or_ge i (w - 1) with h3 | h3
      · simp [show ¬ (w - 1 ≤ i) by omega]
      · simp [show ¬ (i - (w - 1) = 0) by omega]
    rw [h2, Bool.or_false]
theorem step_lt (w t s : Nat) (hw : 2 ≤ w) (hs : s < 2 ^ w) : step w t s < 2 ^ w := by
  refine lt_of_bits fun i hi => ?_
  rw [step_bit w t s i hw hs, if_neg (by omega)]
  exact bit_hi hs (by omega)
theorem cut_bit (w s i : Nat) : (cut w s).testBit i = (decide (1 ≤ i) && (decide (i < w) && s.testBit (i - 1))) := by
  unfold cut
  rw [Nat.testBit_shiftLeft, Nat.testBit_and, Nat.testBit_two_pow_sub_one]
  rcases Nat.eq_zero_or_pos i with h | h
  · simp [h]
  · rw [show (decide (i - 1 < w - 1)) = decide (i < w) from decide_eq_decide.2 (by omega)]
    cases s.testBit (i - 1) <;> simp
theorem back_bit (w t s i : Nat) (hw : 2 ≤ w) (hs : s < 2 ^ w) : (back w t s).testBit i = if i = 0 then (s.testBit (w - 1)).xor (par (cut w s &&& t)) else (cut w s).testBit i := by
  unfold back
  rw [Nat.testBit_or, Nat.testBit_xor, Nat.testBit_shiftRight, b2n_bit]
  by_cases h : i = 0
  · subst h
    rw [if_pos rfl, cut_bit]
    simp
  · rw [if_neg h, bit_hi hs (by omega)]
    simp [h]
theorem back_lt (w t s : Nat) (hw : 2 ≤ w) (hs : s < 2 ^ w) : back w t s < 2 ^ w := by
  refine lt_of_bits fun i hi => ?_
  rw [back_bit w t s i hw hs, if_neg (by omega), cut_bit]
  simp [show ¬ (i < w) by omega]
theorem par_split (w t s u : Nat) (F : Fit w t) (h : ∀ i, 1 ≤ i → u.testBit i = s.testBit i) (h0 : u.testBit 0 = false) : par (s &&& t) = (s.testBit 0).xor (par (u &&& t)) := by
  have e : s &&& t = (u &&& t) ^^^ b2n (s.testBit 0) := by
    refine Nat.eq_of_testBit_eq fun i => ?_
    rw [Nat.testBit_xor, Nat.testBit_and, Nat.testBit_and, b2n_bit]
    rcases Nat.eq_zero_or_pos i with hi | hi
    · subst hi
      rw [h0, F.tap]
      cases s.testBit 0 <;> rfl
    · rw [h i hi, show decide (i = 0) = false from decide_eq_false (by omega)]
      simp
  have hb : ∀ b, par (b2n b) = b := by
    intro b
    cases b <;> decide
  rw [e, par, parN_xor]
  have := hb (s.testBit 0)
  unfold par at this
  rw [this, Bool.xor_comm]
theorem back_step (w t s : Nat) (F : Fit w t) (hs : s < 2 ^ w) : back w t (step w t s) = s := by
  have hw := F.lo
  have hl := step_lt w t s hw hs
  have hc : ∀ i, 1 ≤ i → (cut w (step w t s)).testBit i = s.testBit i := by
    intro i hi
    rw [cut_bit, step_bit w t s _ hw hs, show i - 1 + 1 = i by omega]
    rcases Nat.lt_or_ge i w with h | h
    · rw [if_neg (by omega)]
      simp [h, hi]
    · rw [bit_hi hs h]
      simp [show ¬ (i < w) by omega]
  refine Nat.eq_of_testBit_eq fun i => ?_
  rw [back_bit w t _ i hw hl]
  by_cases h : i = 0
  · subst h
    rw [if_pos rfl, step_bit w t s _ hw hs, if_pos rfl, par_split w t s _ F hc (by rw [cut_bit]; rfl)]
    cases s.testBit 0 <;> cases par (cut w (step w t s) &&& t) <;> rfl
  · rw [if_neg h, hc i (by omega)]
theorem step_back (w t s : Nat) (F : Fit w t) (hs : s < 2 ^ w) : step w t (back w t s) = s := by
  have hw := F.lo
  have hl := back_lt w t s hw hs
  have hc : ∀ i, 1 ≤ i → (cut w s).testBit i = (back w t s).testBit i := fun i hi => by rw [back_bit w t s i hw hs, if_neg (by omega)]
  refine Nat.eq_of_testBit_eq fun i => ?_
  rw [step_bit w t _ i hw hl]
  by_cases h : i = w - 1
  · rw [if_pos h, par_split w t (back w t s) (cut w s) F hc (by rw [cut_bit]; rfl), back_bit w t s 0 hw hs, if_pos rfl, h]
    cases s.testBit (w - 1) <;> cases par (cut w s &&& t) <;> rfl
  · rw [if_neg h, back_bit w t s _ hw hs, if_neg (by omega), cut_bit, show i + 1 - 1 = i by omega]
    rcases Nat.lt_or_ge (i + 1) w with h2 | h2
    · simp [h2]
    · rw [bit_hi hs (by omega)]
      simp
/-- A map of states that keeps to sums. -/
structure Lin (w : Nat) (f : Nat → Nat) : Prop where
  add : ∀ a b, a < 2 ^ w → b < 2 ^ w → f (a ^^^ b) = f a ^^^ f b
  lt : ∀ a, a < 2 ^ w → f a < 2 ^ w
theorem Lin.zero {w : Nat} {f : Nat → Nat} (h : Lin w f) : f 0 = 0 := by
  have := h.add 0 0 (Nat.two_pow_pos w) (Nat.two_pow_pos w)
  rw [Nat.xor_self] at this
  rw [this, Nat.xor_self]
theorem Lin.comp {w : Nat} {f g : Nat → Nat} (h : Lin w f) (k : Lin w g) : Lin w (fun s => f (g s)) :=
  ⟨fun a b ha hb => by
    show f (g (a ^^^ b)) = f (g a) ^^^ f (g b)
    rw [k.add a b ha hb, h.add _ _ (k.lt a ha) (k.lt b hb)], fun a ha => h.lt _ (k.lt a ha)⟩
theorem lin_step (w t : Nat) (hw : 2 ≤ w) : Lin w (step w t) := by
  refine ⟨fun a b ha hb => ?_, fun a ha => step_lt w t a hw ha⟩
  have hx := Nat.xor_lt_two_pow ha hb
  refine Nat.eq_of_testBit_eq fun i => ?_
  rw [Nat.testBit_xor, step_bit w t _ i hw hx, step_bit w t a i hw ha, step_bit w t b i hw hb]
  by_cases h : i = w - 1
  · rw [if_pos h, if_pos h, if_pos h, Nat.and_xor_distrib_right, par, parN_xor]
  · rw [if_neg h, if_neg h, if_neg h, Nat.testBit_xor]
theorem cut_xor (w a b : Nat) : cut w (a ^^^ b) = cut w a ^^^ cut w b := by
  refine Nat.eq_of_testBit_eq fun i => ?_
  rw [Nat.testBit_xor, cut_bit, cut_bit, cut_bit, Nat.testBit_xor]
  cases decide (1 ≤ i) <;> cases decide (i < w) <;> simp
theorem lin_back (w t : Nat) (hw : 2 ≤ w) : Lin w (back w t) := by
  refine ⟨fun a b ha hb => ?_, fun a ha => back_lt w t a hw ha⟩
  have hx := Nat.xor_lt_two_pow ha hb
  refine Nat.eq_of_testBit_eq fun i => ?_
  rw [Nat.testBit_xor, back_bit w t _ i hw hx, back_bit w t a i hw ha, back_bit w t b i hw hb]
  by_cases h : i = 0
  · rw [if_pos h, if_pos h, if_pos h, Nat.testBit_xor, cut_xor, Nat.and_xor_distrib_right, par, parN_xor]
    cases a.testBit (w - 1) <;> cases b.testBit (w - 1) <;> simp [par]
  · rw [if_neg h, if_neg h, if_neg h, cut_xor, Nat.testBit_xor]
/-- A state's image, out of those of single bits (the first k of them). -/
def mofN (m : Nat → Nat) : Nat → Nat → Nat
  | 0, _ => 0
  | k + 1, s => if s.testBit k then mofN m k s ^^^ m k else mofN m k s
theorem mofN_lin (w : Nat) (f m : Nat → Nat) (h : Lin w f) (hm : ∀ i, i < w → m i = f (2 ^ i)) (s : Nat) (hs : s < 2 ^ w) : ∀ k, mofN m k s = f (s % 2 ^ k)
  | 0 => by rw [Nat.pow_zero, Nat.mod_one, h.zero]; rfl
  | k + 1 => by
    have ih := mofN_lin w f m h hm s hs k
    have hlt : s % 2 ^ k < 2 ^ w := Nat.lt_of_le_of_lt (Nat.mod_le _ _) hs
    unfold mofN
    by_cases hb : s.testBit k = true
    · have hk : k < w := by
        rcases Nat.lt_or_ge k w with h1 | h1
        · exact h1
        · rw [bit_hi hs h1] at hb; cases hb
      rw [if_pos hb, ih, hm k hk, ← h.add _ _ hlt (Nat.pow_lt_pow_right (by decide) hk)]
      congr 1
      refine Nat.eq_of_testBit_eq fun i => ?_
      rw [Nat.testBit_xor, Nat.testBit_mod_two_pow, Nat.testBit_mod_two_pow, Nat.testBit_two_pow]
      by_cases hi : i = k
      · subst hi
        simp [hb]
      · have h1 : decide (i < k + 1) = decide (i < k) := decide_eq_decide.2 (by omega)
        have h2 : decide (k = i) = false := decide_eq_false (by omega)
        rw [h1, h2, Bool.xor_false]
    · rw [if_neg hb, ih]
      congr 1
      refine Nat.eq_of_testBit_eq fun i => ?_
      rw [Nat.testBit_mod_two_pow, Nat.testBit_mod_two_pow]
      by_cases hi : i = k
      · subst hi
        simp at hb
        simp [hb]
      · have h1 : decide (i < k + 1) = decide (i < k) := decide_eq_decide.2 (by omega)
        rw [h1]
theorem mofN_all (w : Nat) (f m : Nat → Nat) (hw : w ≤ 32) (h : Lin w f) (hm : ∀ i, i < w → m i = f (2 ^ i)) (s : Nat) (hs : s < 2 ^ w) : mofN m 32 s = f s := by
  rw [mofN_lin w f m h hm s hs 32, Nat.mod_eq_of_lt (Nat.lt_of_lt_of_le hs (Nat.pow_le_pow_right (by decide) hw))]
/-- n times. -/
def iter (f : Nat → Nat) : Nat → Nat → Nat
  | 0, s => s
  | n + 1, s => iter f n (f s)
theorem iter_add (f : Nat → Nat) : ∀ a b s, iter f (a + b) s = iter f b (iter f a s)
  | 0, b, s => by rw [Nat.zero_add]; rfl
  | a + 1, b, s => by rw [show a + 1 + b = (a + b) + 1 by omega]; exact iter_add f a b (f s)
theorem iter_lt {w : Nat} {f : Nat → Nat} (h : ∀ a, a < 2 ^ w → f a < 2 ^ w) : ∀ n s, s < 2 ^ w → iter f n s < 2 ^ w
  | 0, s, hs => hs
  | n + 1, s, hs => iter_lt h n (f s) (h s hs)
theorem iter_two (f : Nat → Nat) : ∀ n s, iter (fun s => f (f s)) n s = iter f (2 * n) s
  | 0, s => rfl
  | n + 1, s => by rw [show 2 * (n + 1) = 2 * n + 1 + 1 by omega]; exact iter_two f n (f (f s))
theorem iter_odd (f : Nat → Nat) (n s : Nat) (h : n % 2 = 1) : iter f n s = iter (fun s => f (f s)) (n / 2) (f s) := by
  rw [iter_two, show n = 2 * (n / 2) + 1 by omega]
  show iter f (2 * (n / 2)) (f s) = _
  rw [show (2 * (n / 2) + 1) / 2 = n / 2 by omega]
theorem iter_even (f : Nat → Nat) (n s : Nat) (h : n % 2 = 0) : iter f n s = iter (fun s => f (f s)) (n / 2) s := by
  rw [iter_two, show 2 * (n / 2) = n by omega]
theorem iter_undo {w : Nat} {f g : Nat → Nat} (hg : ∀ s, s < 2 ^ w → g (f s) = s) (hf : ∀ a, a < 2 ^ w → f a < 2 ^ w) : ∀ n s, s < 2 ^ w → iter g n (iter f n s) = s
  | 0, s, hs => rfl
  | n + 1, s, hs => by
    have h := iter_undo hg hf n (f s) (hf s hs)
    rw [iter_add g n 1]
    show g (iter g n (iter f n (f s))) = s
    rw [h, hg s hs]
/-- Any number of steps. -/
def jump (w t : Nat) (n : Int) (s : Nat) : Nat := if n < 0 then iter (back w t) n.natAbs s else iter (step w t) n.natAbs s
theorem jump_lt (w t s : Nat) (n : Int) (F : Fit w t) (hs : s < 2 ^ w) : jump w t n s < 2 ^ w := by
  unfold jump
  split
  · exact iter_lt (fun a ha => back_lt w t a F.lo ha) _ _ hs
  · exact iter_lt (fun a ha => step_lt w t a F.lo ha) _ _ hs
theorem jump_succ (w t s : Nat) (n : Int) (F : Fit w t) (hs : s < 2 ^ w) : jump w t (n + 1) s = step w t (jump w t n s) := by
  unfold jump
  by_cases h : n < 0
  · rw [if_pos h]
    obtain ⟨k, hk⟩ : ∃ k : Nat, n.natAbs = k + 1 := ⟨n.natAbs - 1, by omega⟩
    have e : iter (step w t) 1 (iter (back w t) (k + 1) s) = iter (back w t) k s := by
      rw [iter_add (back w t) k 1]
      show step w t (back w t (iter (back w t) k s)) = _
      exact step_back w t _ F (iter_lt (fun a ha => back_lt w t a F.lo ha) _ _ hs)
    rw [hk]
    refine Eq.trans ?_ e.symm
    by_cases h1 : n + 1 < 0
    · rw [if_pos h1, show (n + 1).natAbs = k by omega]
    · rw [if_neg h1, show (n + 1).natAbs = 0 by omega, show k = 0 by omega]
      rfl
  · rw [if_neg h, if_neg (by omega), show (n + 1).natAbs = n.natAbs + 1 by omega, iter_add]
    rfl
theorem jump_pred (w t s : Nat) (n : Int) (F : Fit w t) (hs : s < 2 ^ w) : jump w t (n - 1) s = back w t (jump w t n s) := by
  have h := jump_succ w t s (n - 1) F hs
  rw [show n - 1 + 1 = n by omega] at h
  rw [h, back_step w t _ F (jump_lt w t s _ F hs)]
theorem jump_zero (w t s : Nat) : jump w t 0 s = s := rfl
theorem jump_add (w t s : Nat) (a b : Int) (F : Fit w t) (hs : s < 2 ^ w) : jump w t (a + b) s = jump w t b (jump w t a s) := by
  have hl := jump_lt w t s a F hs
  have up : ∀ k : Nat, jump w t (a + (k : Int)) s = jump w t (k : Int) (jump w t a s) := by
    intro k
    induction k with
    | zero => rw [show a + ((0 : Nat) : Int) = a by omega]; rfl
    | succ k ih => rw [show a + ((k + 1 : Nat) : Int) = a + (k : Int) + 1 by omega, show ((k + 1 : Nat) : Int) = (k : Int) + 1 by omega, jump_succ w t s _ F hs, jump_succ w t _ _ F hl, ih]
  have dn : ∀ k : Nat, jump w t (a - (k : Int)) s = jump w t (-(k : Int)) (jump w t a s) := by
    intro k
    induction k with
    | zero => rw [show a - ((0 : Nat) : Int) = a by omega]; rfl
    | succ k ih => rw [show a - ((k + 1 : Nat) : Int) = a - (k : Int) - 1 by omega, show -((k + 1 : Nat) : Int) = -(k : Int) - 1 by omega, jump_pred w t s _ F hs, jump_pred w t _ _ F hl, ih]
  rcases Int.lt_or_le b 0 with h | h
  · have := dn b.natAbs
    rw [show a - (b.natAbs : Int) = a + b by omega, show -(b.natAbs : Int) = b by omega] at this
    exact this
  · have := up b.natAbs
    rw [show (b.natAbs : Int) = b by omega] at this
    exact this
theorem jump_neg (w t s : Nat) (a : Int) (F : Fit w t) (hs : s < 2 ^ w) : jump w t (-a) (jump w t a s) = s := by
  rw [← jump_add w t s a (-a) F hs, show a + -a = 0 by omega]
  rfl
theorem jump_nat (w t s n : Nat) : jump w t (n : Int) s = iter (step w t) n s := by
  unfold jump
  rw [if_neg (by omega)]
  rfl
theorem jump_ne (w t s : Nat) (a : Int) (F : Fit w t) (hs : s < 2 ^ w) (h0 : s ≠ 0) : jump w t a s ≠ 0 := by
  intro h
  have h1 := jump_neg w t s a F hs
  rw [h] at h1
  have z : ∀ n : Nat, iter (step w t) n 0 = 0 ∧ iter (back w t) n 0 = 0 := by
    intro n
    induction n with
    | zero => exact ⟨rfl, rfl⟩
    | succ n ih =>
      constructor
      · show iter (step w t) n (step w t 0) = 0
        rw [(lin_step w t F.lo).zero]
        exact ih.1
      · show iter (back w t) n (back w t 0) = 0
        rw [(lin_back w t F.lo).zero]
        exact ih.2
  unfold jump at h1
  split at h1
  · rw [(z _).2] at h1; exact h0 h1.symm
  · rw [(z _).1] at h1; exact h0 h1.symm
/-- The low bits of the states to come are the state's. -/
theorem iter_bit (w t : Nat) (hw : 2 ≤ w) : ∀ n s i, s < 2 ^ w → n + i < w → (iter (step w t) n s).testBit i = s.testBit (n + i)
  | 0, s, i, hs, h => by rw [Nat.zero_add]; rfl
  | n + 1, s, i, hs, h => by
    show (iter (step w t) n (step w t s)).testBit i = _
    rw [iter_bit w t hw n (step w t s) i (step_lt w t s hw hs) (by omega), step_bit w t s _ hw hs, if_neg (by omega), show n + i + 1 = n + 1 + i by omega]
end Go.Scr
