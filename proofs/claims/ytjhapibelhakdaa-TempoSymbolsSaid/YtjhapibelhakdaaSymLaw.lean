/- Symbols among silence: their row, its strengths; quarters. -/
import Derived.Test.YtjhapibelhakdaaFogx0
import Derived.Test.YtjhapibelhakdaaPhaseBoth
namespace Go.Proofs.Ytjhapibelhakdaa.Pure
open Go.RowKit Go.Proofs.Ytjhapibelhakdaa.Fog Go.Proofs.YtjhapibelhakdaaW.PrintWords Go.Proofs.YtjhapibelhakdaaW.PrintLast Go.Proofs.YtjhapibelhakdaaW.PrintMore Go.Proofs.Ytjhapibelhakdaa.Kit
set_option linter.unusedVariables false
set_option linter.unusedSimpArgs false
/-- Not below nought, no NaN. -/
def posF (b : Nat) : Prop := b ≤ 9218868437227405312
theorem pos_read (b : Nat) (h : posF b) : FloatKind.f64.format.read b = .infinity false ∨ ∃ m i, FloatKind.f64.format.read b = .number false m i := by
  have e1 : FloatKind.f64.format.signWeight = 9223372036854775808 := by decide +kernel
  have e2 : FloatKind.f64.format.binade = 4503599627370496 := by decide +kernel
  have e3 : FloatKind.f64.format.infRung = 9218868437227405312 := by decide +kernel
  unfold posF at h
  have e4 : b / 9223372036854775808 % 2 = 0 := by omega
  have e5 : b % 9223372036854775808 = b := by omega
  unfold Ieee.Format.read
  simp only [e1, e2, e3, e4, e5]
  by_cases h1 : b < 4503599627370496
  · rw [if_pos h1]; exact .inr ⟨_, _, rfl⟩
  · rw [if_neg h1]
    by_cases h2 : b < 9218868437227405312
    · rw [if_pos h2]; exact .inr ⟨_, _, rfl⟩
    · rw [if_neg h2, if_pos (by omega)]; exact .inl rfl
theorem pos_word (r : Nat) : posF (FloatKind.f64.format.word false (min r FloatKind.f64.format.infRung)) := by
  have e3 : FloatKind.f64.format.infRung = 9218868437227405312 := by decide +kernel
  unfold posF Ieee.Format.word
  rw [e3]
  simp only [Bool.false_eq_true, if_false]
  omega
theorem pos_nearest (m : Nat) (p : Int) : posF (FloatKind.f64.format.nearest false m p) := by
  unfold Ieee.Format.nearest
  by_cases h : m = 0
  · rw [if_pos h]
    have := pos_word 0
    rwa [Nat.zero_min] at this
  · rw [if_neg h]
    exact pos_word _
theorem pos_inf : posF (FloatKind.f64.format.word false FloatKind.f64.format.infRung) := by
  have := pos_word FloatKind.f64.format.infRung
  rwa [Nat.min_self] at this
theorem pos_add (x y : Nat) (hx : posF x) (hy : posF y) : ∃ r, floatBits .add .f64 x y = some r ∧ posF r := by
  show ∃ r, FloatKind.f64.format.add x y = some r ∧ posF r
  unfold Ieee.Format.add
  rcases pos_read x hx with h | ⟨m, i, h⟩ <;> rcases pos_read y hy with h' | ⟨n, j, h'⟩ <;> rw [h, h']
  · exact ⟨_, rfl, pos_inf⟩
  · exact ⟨_, rfl, pos_inf⟩
  · exact ⟨_, rfl, pos_inf⟩
  · refine ⟨_, rfl, ?_⟩
    have hn : ∀ a b : Nat, ¬ (Ieee.signed false m a + Ieee.signed false n b < 0) := fun a b => by
      unfold Ieee.signed
      simp only [Bool.false_eq_true, if_false]
      generalize m <<< a = p
      generalize n <<< b = q
      omega
    show posF (FloatKind.f64.format.nearest (if _ = 0 then (false && false) else decide _) _ _)
    have e : (if Ieee.signed false m (i - min i j).toNat + Ieee.signed false n (j - min i j).toNat = 0 then (false && false) else decide (Ieee.signed false m (i - min i j).toNat + Ieee.signed false n (j - min i j).toNat < 0)) = false := by
      split
      · rfl
      · exact decide_eq_false (hn _ _)
    rw [e]
    exact pos_nearest _ _
theorem pos_nan (b : Nat) (h : posF b) : ¬ nanF b := by
  unfold nanF
  rcases pos_read b h with h' | ⟨m, i, h'⟩ <;> rw [h'] <;> simp [Ieee.Datum.isNaN]
theorem pos_key (b : Nat) (h : posF b) : 0 ≤ keyF b := by
  unfold keyF
  rcases pos_read b h with h' | ⟨m, i, h'⟩ <;> rw [h']
  · show (0 : Int) ≤ (if false = true then -((2 ^ 6000 : Nat) : Int) else ((2 ^ 6000 : Nat) : Int))
    rw [if_neg (by decide)]
    exact Int.natCast_nonneg _
  · show (0 : Int) ≤ Ieee.signed false m _
    unfold Ieee.signed
    rw [if_neg (by decide)]
    exact Int.natCast_nonneg _
theorem key_zero : keyF 0 = 0 := by decide +kernel
theorem sum_comm (a b : Ieee.Datum) : a.sum b = b.sum a := by
  cases a with
  | nan s f => cases b <;> rfl
  | infinity s =>
    cases b with
    | nan t f => rfl
    | infinity t =>
      show (if s = t then _ else none) = (if t = s then _ else none)
      by_cases h : s = t
      · rw [if_pos h, if_pos h.symm, h]
      · rw [if_neg h, if_neg (fun h2 => h h2.symm)]
    | number t n j => rfl
  | number s m i =>
    cases b with
    | nan t f => rfl
    | infinity t => rfl
    | number t n j =>
      show some _ = some _
      simp only [Int.min_comm j i, Int.add_comm (Ieee.signed t n _), Bool.and_comm t s]
theorem add_comm_f (x y : Nat) : floatBits .add .f64 x y = floatBits .add .f64 y x := by
  show FloatKind.f64.format.add x y = FloatKind.f64.format.add y x
  unfold Ieee.Format.add
  rw [sum_comm]
theorem addO_comm (x y : Option Nat) : addO x y = addO y x := by
  cases x <;> cases y <;> first | rfl | exact add_comm_f _ _
def ngF (b : Nat) : Nat := Go.Op.negFloat .f64 b
def fI (a : Int) : Nat := floatOfInt .f64 a
def sqOk (a : Int) : Bool := match floatBits .mul .f64 (fI a) (fI a) with
  | some p => decide (p ≤ 9218868437227405312) && (floatBits .mul .f64 (ngF (fI a)) (ngF (fI a)) == some p)
  | none => false
theorem sq_all : ∀ i : Fin 256, sqOk ((i.val : Int) - 128) = true := by decide +kernel
theorem sq_ok (a : Int) (h0 : -128 ≤ a) (h1 : a ≤ 127) : ∃ p, floatBits .mul .f64 (fI a) (fI a) = some p ∧ posF p ∧ floatBits .mul .f64 (ngF (fI a)) (ngF (fI a)) = some p := by
  have h := sq_all ⟨(a + 128).toNat, by omega⟩
  rw [show (((⟨(a + 128).toNat, by omega⟩ : Fin 256).val : Int)) - 128 = a by simp only; omega] at h
  unfold sqOk at h
  cases hm : floatBits .mul .f64 (fI a) (fI a) with
  | none => rw [hm] at h; exact Bool.noConfusion h
  | some p =>
    rw [hm] at h
    simp only [Bool.and_eq_true, decide_eq_true_eq, beq_iff_eq] at h
    exact ⟨p, rfl, h.1, h.2⟩
/-- A number turned by quarters (q: quarters & 3). -/
def turnQ (q : Int) (z : Nat × Nat) : Nat × Nat := if q = 1 then (ngF z.2, z.1) else if q = 2 then (ngF z.1, ngF z.2) else if q = 3 then (z.2, ngF z.1) else z
/-- A strength that may be summed. -/
def strong (z : Nat × Nat) (q : Int) : Prop := ∃ p, normO z.1 z.2 = some p ∧ posF p ∧ normO (turnQ q z).1 (turnQ q z).2 = some p
theorem strong_of (a b : Int) (q : Int) (h0 : -128 ≤ a ∧ a ≤ 127) (h1 : -128 ≤ b ∧ b ≤ 127) : strong (fI a, fI b) q := by
  obtain ⟨x, hx1, hx2, hx3⟩ := sq_ok a h0.1 h0.2
  obtain ⟨y, hy1, hy2, hy3⟩ := sq_ok b h1.1 h1.2
  obtain ⟨r, hr1, hr2⟩ := pos_add x y hx2 hy2
  refine ⟨r, ?_, hr2, ?_⟩
  · unfold normO
    rw [hx1, hy1]
    exact hr1
  · unfold turnQ normO
    by_cases h1 : q = 1
    · rw [if_pos h1]
      simp only
      rw [hy3, hx1]
      show floatBits .add .f64 y x = some r
      rw [add_comm_f]
      exact hr1
    · rw [if_neg h1]
      by_cases h2 : q = 2
      · rw [if_pos h2]
        simp only
        rw [hx3, hy3]
        exact hr1
      · rw [if_neg h2]
        by_cases h3 : q = 3
        · rw [if_pos h3]
          simp only
          rw [hy1, hx3]
          show floatBits .add .f64 y x = some r
          rw [add_comm_f]
          exact hr1
        · rw [if_neg h3]
          simp only
          rw [hx1, hy1]
          exact hr1
theorem fI_zero : fI 0 = 0 := by decide +kernel
theorem norm_zero : normO 0 0 = some 0 := by decide +kernel
/-- The number at place j of a row of symbols, P apart, behind a delay of D. -/
def symAt (f : Nat → Nat × Nat) (D P j : Nat) : Nat × Nat := if j < D then (0, 0) else if (j - D) % P = 0 then f ((j - D) / P) else (0, 0)
def symRow (f : Nat → Nat × Nat) (D P m : Nat) : List Smp := (List.range m).map fun j => (symAt f D P j, false)
def trnAt (q : Int) (f : Nat → Nat × Nat) (D P j : Nat) : Nat × Nat := if j < D then (0, 0) else turnQ q (symAt f D P j)
def symTurn (q : Int) (f : Nat → Nat × Nat) (D P m : Nat) : List Smp := (List.range m).map fun j => (trnAt q f D P j, false)
theorem symRow_length (f : Nat → Nat × Nat) (D P m : Nat) : (symRow f D P m).length = m := by unfold symRow; simp
theorem symTurn_length (q : Int) (f : Nat → Nat × Nat) (D P m : Nat) : (symTurn q f D P m).length = m := by unfold symTurn; simp
theorem symRow_succ (f : Nat → Nat × Nat) (D P m : Nat) : symRow f D P (m + 1) = symRow f D P m ++ [(symAt f D P m, false)] := by unfold symRow; rw [List.range_succ, List.map_append]; rfl
theorem symTurn_succ (q : Int) (f : Nat → Nat × Nat) (D P m : Nat) : symTurn q f D P (m + 1) = symTurn q f D P m ++ [(trnAt q f D P m, false)] := by unfold symTurn; rw [List.range_succ, List.map_append]; rfl
theorem symRow_getD (f : Nat → Nat × Nat) (D P m j : Nat) (h : j < m) (d : Smp) : (symRow f D P m).getD j d = (symAt f D P j, false) := by
  unfold symRow
  rw [List.getD_eq_getElem?_getD, List.getElem?_map, List.getElem?_range h]; rfl
theorem symTurn_getD (q : Int) (f : Nat → Nat × Nat) (D P m j : Nat) (h : j < m) (d : Smp) : (symTurn q f D P m).getD j d = (trnAt q f D P j, false) := by
  unfold symTurn
  rw [List.getD_eq_getElem?_getD, List.getElem?_map, List.getElem?_range h]; rfl
theorem symAt_strong (f : Nat → Nat × Nat) (D P j : Nat) (q : Int) (hf : ∀ i, strong (f i) q) : strong (symAt f D P j) q := by
  have h0 : strong (0, 0) q := by
    have h := strong_of 0 0 q (by omega) (by omega)
    rwa [fI_zero] at h
  unfold symAt
  split
  · exact h0
  · split
    · exact hf _
    · exact h0
/-- All sums are there, the same for the row that is turned. -/
theorem sums_pos (f : Nat → Nat × Nat) (D P n : Nat) (q : Int) (hf : ∀ i, strong (f i) q) (i : Nat) : ∀ m, (∀ k, k < m → i + k * P < n) → ∃ s, sumT (symRow f D P n) 0 P i m = some s ∧ posF s ∧ sumT (symTurn q f D P n) 0 P i m = some s
  | 0, _ => ⟨0, rfl, Nat.zero_le _, rfl⟩
  | m + 1, h => by
    obtain ⟨s, h1, h2, h3⟩ := sums_pos f D P n q hf i m (fun k hk => h k (by omega))
    obtain ⟨p, k1, k2, k3⟩ := symAt_strong f D P (i + m * P) q hf
    obtain ⟨r, hr1, hr2⟩ := pos_add s p h2 k2
    have hj := h m (Nat.lt_succ_self _)
    replace k3 : normO (trnAt q f D P (i + m * P)).1 (trnAt q f D P (i + m * P)).2 = some p := by
      unfold trnAt
      by_cases hlow : i + m * P < D
      · rw [if_pos hlow]
        unfold symAt at k1
        rw [if_pos hlow] at k1
        exact k1
      · rw [if_neg hlow]
        exact k3
    refine ⟨r, ?_, hr2, ?_⟩
    · show (if ((symRow f D P n).getD (0 + i + m * P) s0).2 = false then _ else _) = _
      rw [Nat.zero_add, symRow_getD f D P n _ hj, if_pos rfl, h1]
      simp only
      rw [k1]
      exact hr1
    · show (if ((symTurn q f D P n).getD (0 + i + m * P) s0).2 = false then _ else _) = _
      rw [Nat.zero_add, symTurn_getD q f D P n _ hj, if_pos rfl, h3]
      simp only
      rw [k3]
      exact hr1
theorem symAt_off (f : Nat → Nat × Nat) (D P i k : Nat) (hP : 1 ≤ P) (hi : i < P) (hne : i ≠ D % P) : symAt f D P (i + k * P) = (0, 0) := by
  unfold symAt
  by_cases h : i + k * P < D
  · rw [if_pos h]
  · rw [if_neg h, if_neg]
    intro h2
    apply hne
    have e : i + k * P = D + (i + k * P - D) := by omega
    have e2 : (i + k * P) % P = i := by rw [Nat.add_mul_mod_self_right, Nat.mod_eq_of_lt hi]
    rw [← e2, e, Nat.add_mod, h2, Nat.add_zero, Nat.mod_mod]
theorem sums_zero (f : Nat → Nat × Nat) (D P n : Nat) (i : Nat) (hP : 1 ≤ P) (hi : i < P) (hne : i ≠ D % P) : ∀ m, (∀ k, k < m → i + k * P < n) → sumT (symRow f D P n) 0 P i m = some 0
  | 0, _ => rfl
  | m + 1, h => by
    have h1 := sums_zero f D P n i hP hi hne m (fun k hk => h k (by omega))
    have hj := h m (Nat.lt_succ_self _)
    show (if ((symRow f D P n).getD (0 + i + m * P) s0).2 = false then _ else _) = _
    rw [Nat.zero_add, symRow_getD f D P n _ hj, if_pos rfl, h1, symAt_off f D P i m hP hi hne]
    simp only
    rw [norm_zero]
    decide +kernel
/-- The greatest of sums that are nought but at d. -/
theorem best_at (l : List Nat) (P d : Nat) (hP : 0 < P) (hd : d < P) (h0 : ∀ i, i < P → i ≠ d → l.getD i 0 = 0) (hp : posF (l.getD d 0)) : (0 < keyF (l.getD d 0) → bestV l P = d) ∧ (¬ 0 < keyF (l.getD d 0) → bestV l P = 0) := by
  obtain ⟨f1, f2, f3⟩ := bestV_facts l P hP
  have hk := pos_key _ hp
  refine ⟨fun h => ?_, fun h => ?_⟩
  · apply Decidable.byContradiction
    intro hne
    have h1 := f2 d hd
    rw [h0 (bestV l P) f1 hne, key_zero] at h1
    omega
  · apply Decidable.byContradiction
    intro hne
    have h1 := f3 0 (by omega)
    have key0 : ∀ i, i < P → keyF (l.getD i 0) = 0 := fun i hi => by
      by_cases hid : i = d
      · subst hid; omega
      · rw [h0 i hi hid, key_zero]
    rw [key0 0 hP, key0 _ f1] at h1
    omega
end Go.Proofs.Ytjhapibelhakdaa.Pure
