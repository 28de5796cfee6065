/- Loads in plain Lean: the least power, the first load, orders, multiples, one carrier more. -/
import Derived.Test.YtgmaiknbogcpgaaFogx0
import Derived.Test.YtgmaiknbogcpgaaKit
namespace Go.Proofs.Ytgmaiknbogcpgaa.Ld
set_option linter.unusedVariables false
set_option linter.unusedSimpArgs false
def never : Int := 1152921504606846976
def E : Nat → Int
  | 0 => 0
  | 2 => 2
  | 4 => 10
  | 5 => 20
  | 6 => 42
  | 7 => 82
  | 8 => 170
  | _ => -1
def tk (sq : Bool) : List Nat := if sq then [8, 6, 4, 2, 0] else [8, 7, 6, 5, 4, 2, 0]
theorem tk_E (sq : Bool) : ∀ b ∈ tk sq, 0 ≤ E b ∧ E b ≤ 170 ∧ b ≤ 8 := by
  cases sq <;> decide
theorem tk_0 (sq : Bool) : 0 ∈ tk sq := by cases sq <;> decide
theorem tk_8 (sq : Bool) : 8 ∈ tk sq := by cases sq <;> decide
/-- One carrier more. -/
def step (w : Int) (f : Nat → Int) (n : Nat) (a : Int) (b : Nat) : Int :=
  if b ≤ n ∧ f (n - b) < never then min a (f (n - b) + w * E b) else a
def need (sq : Bool) : List Int → Nat → Int
  | [], n => if n = 0 then 0 else never
  | w :: ws, n => (tk sq).foldl (step w (need sq ws) n) never
theorem fold_char (w : Int) (f : Nat → Int) (n : Nat) : ∀ (l : List Nat) (a : Int),
    (l.foldl (step w f n) a ≤ a) ∧ (∀ b ∈ l, b ≤ n → f (n - b) < never → l.foldl (step w f n) a ≤ f (n - b) + w * E b) ∧
    (l.foldl (step w f n) a = a ∨ ∃ b ∈ l, b ≤ n ∧ f (n - b) < never ∧ l.foldl (step w f n) a = f (n - b) + w * E b)
  | [], a => ⟨Int.le_refl _, by simp, .inl rfl⟩
  | c :: l, a => by
    obtain ⟨h1, h2, h3⟩ := fold_char w f n l (step w f n a c)
    have hs : step w f n a c ≤ a := by unfold step; split <;> omega
    have hc : c ≤ n → f (n - c) < never → step w f n a c ≤ f (n - c) + w * E c := by
      intro x y; unfold step; rw [if_pos ⟨x, y⟩]; omega
    have ha : step w f n a c = a ∨ (c ≤ n ∧ f (n - c) < never ∧ step w f n a c = f (n - c) + w * E c) := by
      unfold step; split
      · rename_i h
        by_cases hm : a ≤ f (n - c) + w * E c
        · exact .inl (by omega)
        · exact .inr ⟨h.1, h.2, by omega⟩
      · exact .inl rfl
    refine ⟨?_, ?_, ?_⟩
    · show l.foldl _ (step w f n a c) ≤ a
      omega
    · intro b hb hbn hf
      show l.foldl _ (step w f n a c) ≤ _
      rcases List.mem_cons.mp hb with rfl | hb
      · have := hc hbn hf; omega
      · exact h2 b hb hbn hf
    · show l.foldl _ (step w f n a c) = a ∨ ∃ b ∈ c :: l, b ≤ n ∧ f (n - b) < never ∧ l.foldl _ (step w f n a c) = _
      rcases h3 with h3 | ⟨b, hb, q1, q2, q3⟩
      · rcases ha with ha | ⟨q1, q2, q3⟩
        · exact .inl (by omega)
        · exact .inr ⟨c, List.mem_cons_self, q1, q2, by omega⟩
      · exact .inr ⟨b, List.mem_cons_of_mem _ hb, q1, q2, q3⟩
theorem need_le (sq : Bool) (ws : List Int) (n : Nat) : need sq ws n ≤ never := by
  cases ws with
  | nil => unfold need; split <;> decide
  | cons w ws => exact (fold_char w (need sq ws) n (tk sq) never).1
/-- Weights. -/
def ok (ws : List Int) : Prop := ws.length ≤ 256 ∧ ∀ w ∈ ws, 1 ≤ w ∧ w ≤ 1048576
theorem ok_tail {w : Int} {ws : List Int} (h : ok (w :: ws)) : ok ws := ⟨by have := h.1; simp at this; omega, fun x hx => h.2 x (List.mem_cons_of_mem _ hx)⟩
theorem ok_head {w : Int} {ws : List Int} (h : ok (w :: ws)) : 1 ≤ w ∧ w ≤ 1048576 := h.2 w List.mem_cons_self
theorem wE (w : Int) (hw : 1 ≤ w ∧ w ≤ 1048576) (e : Int) (h0 : 0 ≤ e) (h1 : e ≤ 170) : 0 ≤ w * e ∧ w * e ≤ 178257920 := by
  refine ⟨Int.mul_nonneg (by omega) h0, ?_⟩
  have h := Int.mul_le_mul hw.2 h1 h0 (by omega : (0:Int) ≤ 1048576)
  omega
theorem need_bd (sq : Bool) : ∀ (ws : List Int), ok ws → ∀ n, 0 ≤ need sq ws n ∧ (need sq ws n < never → need sq ws n ≤ 178257920 * (ws.length : Int))
  | [], _, n => by
    unfold need
    split
    · exact ⟨by omega, fun _ => by simp⟩
    · exact ⟨by decide, fun h => absurd h (by decide)⟩
  | w :: ws, h, n => by
    obtain ⟨h1, h2, h3⟩ := fold_char w (need sq ws) n (tk sq) never
    show 0 ≤ (tk sq).foldl (step w (need sq ws) n) never ∧ ((tk sq).foldl (step w (need sq ws) n) never < never → (tk sq).foldl (step w (need sq ws) n) never ≤ _)
    rcases h3 with h3 | ⟨b, hb, q1, q2, q3⟩
    · rw [h3]
      exact ⟨by decide, fun h => absurd h (by decide)⟩
    · rw [q3]
      obtain ⟨e0, e1, e2⟩ := tk_E sq b hb
      obtain ⟨m0, m1⟩ := wE w (ok_head h) (E b) e0 e1
      obtain ⟨i1, i2⟩ := need_bd sq ws (ok_tail h) (n - b)
      have i3 := i2 q2
      simp only [List.length_cons]
      refine ⟨by omega, fun _ => by omega⟩
theorem need_lt (sq : Bool) (ws : List Int) (h : ok ws) (n : Nat) (hn : need sq ws n < never) : need sq ws n ≤ 45634027520 := by
  have := (need_bd sq ws h n).2 hn
  have := h.1
  omega
/-- What is reached by one carrier more, told without an order. -/
theorem need_char (sq : Bool) (w : Int) (ws : List Int) (h : ok (w :: ws)) (n : Nat) (v : Int)
    (h1 : v ≤ never) (h2 : ∀ b ∈ tk sq, b ≤ n → need sq ws (n - b) < never → v ≤ need sq ws (n - b) + w * E b)
    (h3 : v = never ∨ ∃ b ∈ tk sq, b ≤ n ∧ need sq ws (n - b) < never ∧ v = need sq ws (n - b) + w * E b) : v = need sq (w :: ws) n := by
  obtain ⟨g1, g2, g3⟩ := fold_char w (need sq ws) n (tk sq) never
  show v = (tk sq).foldl (step w (need sq ws) n) never
  rcases h3 with h3 | ⟨b, hb, q1, q2, q3⟩
  · rcases g3 with g3 | ⟨b, hb, q1, q2, q3⟩
    · omega
    · have := h2 b hb q1 q2; omega
  · have := g2 b hb q1 q2
    rcases g3 with g3 | ⟨c, hc, r1, r2, r3⟩
    · omega
    · have := h2 c hc r1 r2; omega
/-- Loads. -/
def isLd (sq : Bool) (ws : List Int) (bs : List Nat) : Prop := bs.length = ws.length ∧ ∀ b ∈ bs, b ∈ tk sq
def cost : List Int → List Nat → Int
  | w :: ws, b :: bs => w * E b + cost ws bs
  | _, _ => 0
theorem need_of (sq : Bool) : ∀ (ws : List Int) (bs : List Nat), ok ws → isLd sq ws bs → need sq ws bs.sum ≤ cost ws bs ∧ 0 ≤ cost ws bs ∧ cost ws bs ≤ 178257920 * (ws.length : Int) ∧ need sq ws bs.sum < never
  | [], [], _, _ => by simp [need, cost]; decide
  | [], b :: bs, _, h => by have := h.1; simp at this
  | w :: ws, [], _, h => by have := h.1; simp at this
  | w :: ws, b :: bs, hk, h => by
    obtain ⟨i1, i2, i3, i4⟩ := need_of sq ws bs (ok_tail hk) ⟨by have := h.1; simp at this; omega, fun x hx => h.2 x (List.mem_cons_of_mem _ hx)⟩
    obtain ⟨g1, g2, g3⟩ := fold_char w (need sq ws) (b + bs.sum) (tk sq) never
    have hb := h.2 b List.mem_cons_self
    have g := g2 b hb (by omega) (by rw [Nat.add_sub_cancel_left]; exact i4)
    rw [Nat.add_sub_cancel_left] at g
    obtain ⟨e0, e1, e2⟩ := tk_E sq b hb
    obtain ⟨m0, m1⟩ := wE w (ok_head hk) (E b) e0 e1
    have hl := hk.1
    simp only [List.length_cons] at hl ⊢
    show (tk sq).foldl (step w (need sq ws) (b :: bs).sum) never ≤ w * E b + cost ws bs ∧ 0 ≤ w * E b + cost ws bs ∧ w * E b + cost ws bs ≤ _ ∧ (tk sq).foldl (step w (need sq ws) (b :: bs).sum) never < never
    rw [List.sum_cons]
    have hn : never = 1152921504606846976 := rfl
    refine ⟨by omega, by omega, by omega, by omega⟩
/-- The first load of so many bits. -/
def pick (sq : Bool) (w : Int) (ws : List Int) (n : Nat) : Option Nat :=
  (tk sq).find? (fun b => decide (b ≤ n) && (decide (need sq ws (n - b) < never) && decide (need sq ws (n - b) + w * E b = need sq (w :: ws) n)))
def first (sq : Bool) : List Int → Nat → List Nat
  | [], _ => []
  | w :: ws, n => (pick sq w ws n).getD 0 :: first sq ws (n - (pick sq w ws n).getD 0)
theorem pick_some (sq : Bool) (w : Int) (ws : List Int) (n : Nat) (h : need sq (w :: ws) n < never) : ∃ b, pick sq w ws n = some b ∧ b ∈ tk sq ∧ b ≤ n ∧ need sq ws (n - b) < never ∧ need sq ws (n - b) + w * E b = need sq (w :: ws) n := by
  obtain ⟨g1, g2, g3⟩ := fold_char w (need sq ws) n (tk sq) never
  rcases g3 with g3 | ⟨b, hb, q1, q2, q3⟩
  · exact absurd h (by show ¬ (tk sq).foldl (step w (need sq ws) n) never < never; omega)
  · have hs : (pick sq w ws n).isSome := by
      unfold pick
      rw [List.find?_isSome]
      refine ⟨b, hb, ?_⟩
      have e : need sq ws (n - b) + w * E b = need sq (w :: ws) n := q3.symm
      simp [q1, q2, e]
    obtain ⟨c, hc⟩ := Option.isSome_iff_exists.mp hs
    have h1 := List.find?_some hc
    have h2 := List.mem_of_find?_eq_some hc
    simp only [Bool.and_eq_true, decide_eq_true_eq] at h1
    exact ⟨c, hc, h2, h1.1, h1.2.1, h1.2.2⟩
theorem first_ld (sq : Bool) : ∀ (ws : List Int) (n : Nat), need sq ws n < never → isLd sq ws (first sq ws n) ∧ (first sq ws n).sum = n ∧ cost ws (first sq ws n) = need sq ws n
  | [], n, h => by
    have h0 : n = 0 := by
      unfold need at h
      split at h
      · assumption
      · exact absurd h (by decide)
    subst h0
    exact ⟨⟨rfl, by simp [first]⟩, rfl, rfl⟩
  | w :: ws, n, h => by
    obtain ⟨b, hp, hb, q1, q2, q3⟩ := pick_some sq w ws n h
    obtain ⟨i1, i2, i3⟩ := first_ld sq ws (n - b) q2
    have e : first sq (w :: ws) n = b :: first sq ws (n - b) := by
      show (pick sq w ws n).getD 0 :: first sq ws (n - (pick sq w ws n).getD 0) = _
      rw [hp]; rfl
    rw [e]
    refine ⟨⟨by simp [i1.1], ?_⟩, ?_, ?_⟩
    · intro x hx
      rcases List.mem_cons.mp hx with rfl | hx
      · exact hb
      · exact i1.2 x hx
    · rw [List.sum_cons, i2]; omega
    · show w * E b + cost ws (first sq ws (n - b)) = _
      rw [i3]; omega
theorem ld_sum (sq : Bool) : ∀ (ws : List Int) (bs : List Nat), isLd sq ws bs → bs.sum ≤ 8 * ws.length
  | [], [], _ => by simp
  | [], b :: bs, h => by have := h.1; simp at this
  | w :: ws, [], h => by have := h.1; simp at this
  | w :: ws, b :: bs, h => by
    have i := ld_sum sq ws bs ⟨by have := h.1; simp at this; omega, fun x hx => h.2 x (List.mem_cons_of_mem _ hx)⟩
    have := (tk_E sq b (h.2 b List.mem_cons_self)).2.2
    simp only [List.sum_cons, List.length_cons]
    omega
theorem need_far (sq : Bool) (ws : List Int) (n : Nat) (h : 8 * ws.length < n) : need sq ws n = never := by
  have := need_le sq ws n
  by_cases hn : need sq ws n < never
  · obtain ⟨i1, i2, i3⟩ := first_ld sq ws n hn
    have := ld_sum sq ws _ i1
    omega
  · omega
/-- The greatest number below that a power pays. -/
def down (f : Nat → Int) (p : Int) : Nat → Nat
  | 0 => 0
  | n + 1 => if f (n + 1) ≤ p then n + 1 else down f p n
theorem down_le (f : Nat → Int) (p : Int) : ∀ n, down f p n ≤ n
  | 0 => Nat.le_refl _
  | n + 1 => by unfold down; split; exact Nat.le_refl _; have := down_le f p n; omega
theorem down_ge (f : Nat → Int) (p : Int) : ∀ n k, k ≤ n → f k ≤ p → k ≤ down f p n
  | 0, k, hk, _ => by omega
  | n + 1, k, hk, h => by
    unfold down; split
    · exact hk
    · rename_i hn
      by_cases e : k = n + 1
      · subst e; exact absurd h hn
      · exact down_ge f p n k (by omega) h
theorem down_pays (f : Nat → Int) (p : Int) (h0 : f 0 ≤ p) : ∀ n, f (down f p n) ≤ p
  | 0 => h0
  | n + 1 => by
    unfold down; split
    · assumption
    · exact down_pays f p h0 n
def best (sq : Bool) (ws : List Int) (p : Int) : Nat := down (need sq ws) p (8 * ws.length)
theorem zeros_ld (sq : Bool) (ws : List Int) : isLd sq ws (List.replicate ws.length 0) := ⟨by simp, fun b hb => by rw [List.eq_of_mem_replicate hb]; exact tk_0 sq⟩
theorem zeros_cost : ∀ ws : List Int, cost ws (List.replicate ws.length 0) = 0
  | [] => rfl
  | w :: ws => by
    show w * E 0 + cost ws (List.replicate ws.length 0) = 0
    rw [zeros_cost ws]; show w * 0 + 0 = 0; omega
theorem need_0 (sq : Bool) (ws : List Int) (h : ok ws) : need sq ws 0 = 0 := by
  have h1 := need_of sq ws _ h (zeros_ld sq ws)
  rw [zeros_cost] at h1
  have e : (List.replicate ws.length 0).sum = 0 := by simp
  rw [e] at h1
  have h2 := (need_bd sq ws h 0).1
  omega
theorem best_pays (sq : Bool) (ws : List Int) (h : ok ws) (p : Int) (hp : 0 ≤ p) : need sq ws (best sq ws p) ≤ p := down_pays _ p (by rw [need_0 sq ws h]; exact hp) _
theorem best_ge (sq : Bool) (ws : List Int) (p : Int) (k : Nat) (hk : k ≤ 8 * ws.length) (h : need sq ws k ≤ p) : k ≤ best sq ws p := down_ge _ p _ k hk h
theorem best_le (sq : Bool) (ws : List Int) (p : Int) : best sq ws p ≤ 8 * ws.length := down_le _ p _
theorem best_awake : best false [1, 1] 12 = 6 ∧ need false [1, 1] 6 = 12 ∧ first false [1, 1] 6 = [4, 2] := by decide +kernel
/-- Squares are loads. -/
theorem tk_true : ∀ b ∈ tk true, b ∈ tk false ∧ b % 2 = 0 := by decide
theorem ld_true {ws : List Int} {bs : List Nat} (h : isLd true ws bs) : isLd false ws bs := ⟨h.1, fun b hb => (tk_true b (h.2 b hb)).1⟩
theorem best_true (ws : List Int) (h : ok ws) (p : Int) (hp : 0 ≤ p) (hp2 : p < never) : best true ws p ≤ best false ws p := by
  have h1 := best_pays true ws h p hp
  have h2 : need true ws (best true ws p) < never := by omega
  obtain ⟨i1, i2, i3⟩ := first_ld true ws _ h2
  have h3 := (need_of false ws _ h (ld_true i1)).1
  rw [i2, i3] at h3
  exact best_ge false ws p _ (best_le true ws p) (by omega)
theorem best_mono (sq : Bool) (ws : List Int) (h : ok ws) (p q : Int) (hp : 0 ≤ p) (hq : p ≤ q) : best sq ws p ≤ best sq ws q := by
  have h1 := best_pays sq ws h p hp
  exact best_ge sq ws q _ (best_le sq ws p) (by omega)
/-- Two lists of weights of which the one's loads are loads of the other. -/
def sub (sq : Bool) (us bs : List Int) : Prop := ∀ l, isLd sq us l → ∃ m, isLd sq bs m ∧ m.sum = l.sum ∧ cost bs m = cost us l
theorem sub_need {sq : Bool} {us bs : List Int} (h : sub sq us bs) (hb : ok bs) (n : Nat) : need sq bs n ≤ need sq us n := by
  by_cases hn : need sq us n < never
  · obtain ⟨i1, i2, i3⟩ := first_ld sq us n hn
    obtain ⟨m, m1, m2, m3⟩ := h _ i1
    have h3 := (need_of sq bs _ hb m1).1
    rw [m2, m3, i2, i3] at h3
    exact h3
  · have := need_le sq bs n; omega
theorem cost_append : ∀ (us : List Int) (l : List Nat) (bs : List Int) (m : List Nat), l.length = us.length → cost (us ++ bs) (l ++ m) = cost us l + cost bs m
  | [], [], bs, m, _ => by simp [cost]
  | [], b :: l, _, _, h => by simp at h
  | a :: us, [], _, _, h => by simp at h
  | a :: us, b :: l, bs, m, h => by
    show a * E b + cost (us ++ bs) (l ++ m) = a * E b + cost us l + cost bs m
    rw [cost_append us l bs m (by simpa using h)]; omega
theorem sub_turn (sq : Bool) (us bs : List Int) : sub sq (us ++ bs) (bs ++ us) := by
  intro l hl
  have e : l = l.take us.length ++ l.drop us.length := (List.take_append_drop _ _).symm
  have hlen := hl.1
  simp only [List.length_append] at hlen
  refine ⟨l.drop us.length ++ l.take us.length, ⟨by simp; omega, ?_⟩, ?_, ?_⟩
  · intro b hb
    rcases List.mem_append.mp hb with hb | hb
    · exact hl.2 b (List.mem_of_mem_drop hb)
    · exact hl.2 b (List.mem_of_mem_take hb)
  · conv => rhs; rw [e]
    simp only [List.sum_append]; omega
  · conv => rhs; rw [e]
    rw [cost_append _ _ _ _ (by simp; omega), cost_append _ _ _ _ (by simp; omega)]
    omega
theorem need_turn (sq : Bool) (us bs : List Int) (h : ok (us ++ bs)) (n : Nat) : need sq (bs ++ us) n = need sq (us ++ bs) n := by
  have h2 : ok (bs ++ us) := ⟨by have := h.1; simp at this ⊢; omega, fun w hw => h.2 w (by simp at hw ⊢; exact hw.symm)⟩
  have h3 := sub_need (sub_turn sq us bs) h2 n
  have h4 := sub_need (sub_turn sq bs us) h n
  omega
theorem down_congr (f g : Nat → Int) (p : Int) (h : ∀ n, f n = g n) : ∀ n, down f p n = down g p n
  | 0 => rfl
  | n + 1 => by unfold down; rw [h, down_congr f g p h n]
theorem best_turn (sq : Bool) (us bs : List Int) (h : ok (us ++ bs)) (p : Int) : best sq (bs ++ us) p = best sq (us ++ bs) p := by
  unfold best
  rw [down_congr _ _ p (need_turn sq us bs h)]
  congr 1
  simp [Nat.add_comm]
/-- All weights times the same. -/
theorem cost_times (t : Int) : ∀ (ws : List Int) (l : List Nat), cost (ws.map (· * t)) l = t * cost ws l
  | [], [] => by simp [cost]
  | [], _ :: _ => by simp [cost]
  | _ :: _, [] => by simp [cost]
  | w :: ws, b :: l => by
    show w * t * E b + cost (ws.map (· * t)) l = t * (w * E b + cost ws l)
    rw [cost_times t ws l, Int.mul_add, ← Int.mul_assoc, Int.mul_comm w t]
theorem ld_times {sq : Bool} {t : Int} {ws : List Int} {l : List Nat} : isLd sq (ws.map (· * t)) l ↔ isLd sq ws l := by
  unfold isLd; rw [List.length_map]
theorem need_times (sq : Bool) (t : Int) (ht : 1 ≤ t) (ws : List Int) (h : ok ws) (h2 : ok (ws.map (· * t))) (n : Nat) :
    (need sq ws n < never → need sq (ws.map (· * t)) n = t * need sq ws n) ∧ (need sq (ws.map (· * t)) n < never ↔ need sq ws n < never) := by
  have a1 : need sq ws n < never → need sq (ws.map (· * t)) n < never ∧ need sq (ws.map (· * t)) n ≤ t * need sq ws n := by
    intro hn
    obtain ⟨i1, i2, i3⟩ := first_ld sq ws n hn
    have h3 := need_of sq _ _ h2 (ld_times.mpr i1)
    rw [i2, cost_times, i3] at h3
    exact ⟨h3.2.2.2, h3.1⟩
  have a2 : need sq (ws.map (· * t)) n < never → need sq ws n < never ∧ t * need sq ws n ≤ need sq (ws.map (· * t)) n := by
    intro hn
    obtain ⟨i1, i2, i3⟩ := first_ld sq _ n hn
    have h3 := need_of sq ws _ h (ld_times.mp i1)
    rw [i2] at h3
    rw [cost_times] at i3
    refine ⟨h3.2.2.2, ?_⟩
    rw [← i3]
    exact Int.mul_le_mul_of_nonneg_left h3.1 (by omega)
  refine ⟨fun hn => ?_, fun hn => (a2 hn).1, fun hn => (a1 hn).1⟩
  have := (a1 hn)
  have := (a2 this.1).2
  omega
theorem pick_times (sq : Bool) (t : Int) (ht : 1 ≤ t) (w : Int) (ws : List Int) (h : ok (w :: ws)) (h2 : ok ((w :: ws).map (· * t))) (n : Nat) (hn : need sq (w :: ws) n < never) :
    pick sq (w * t) (ws.map (· * t)) n = pick sq w ws n := by
  unfold pick
  have e : ∀ b ∈ tk sq, (decide (b ≤ n) && (decide (need sq (ws.map (· * t)) (n - b) < never) && decide (need sq (ws.map (· * t)) (n - b) + w * t * E b = need sq (w * t :: ws.map (· * t)) n))) = (decide (b ≤ n) && (decide (need sq ws (n - b) < never) && decide (need sq ws (n - b) + w * E b = need sq (w :: ws) n))) := by
    intro b _
    obtain ⟨c1, c2⟩ := need_times sq t ht ws (ok_tail h) (ok_tail h2) (n - b)
    obtain ⟨d1, d2⟩ := need_times sq t ht (w :: ws) h h2 n
    have d3 := d1 hn
    rw [List.map_cons] at d3
    rw [d3]
    by_cases hb : need sq ws (n - b) < never
    · rw [c1 hb]
      have hb2 : t * need sq ws (n - b) < never := by rw [← c1 hb]; exact c2.mpr hb
      simp only [hb, hb2]
      congr 2
      rw [decide_eq_decide]
      have e1 : w * t * E b = t * (w * E b) := by rw [← Int.mul_assoc, Int.mul_comm w t]
      rw [e1, ← Int.mul_add]
      constructor
      · intro hh; exact Int.eq_of_mul_eq_mul_left (by omega) hh
      · intro hh; rw [hh]
    · have hb2 : ¬ need sq (ws.map (· * t)) (n - b) < never := fun hh => hb (c2.mp hh)
      simp [hb, hb2]
  have : ∀ (l : List Nat) (f g : Nat → Bool), (∀ b ∈ l, f b = g b) → l.find? f = l.find? g := by
    intro l f g hfg
    induction l with
    | nil => rfl
    | cons b l ih =>
      rw [List.find?_cons, List.find?_cons, hfg b List.mem_cons_self, ih (fun c hc => hfg c (List.mem_cons_of_mem _ hc))]
  exact this _ _ _ e
theorem first_times (sq : Bool) (t : Int) (ht : 1 ≤ t) : ∀ (ws : List Int), ok ws → ok (ws.map (· * t)) → ∀ n, need sq ws n < never → first sq (ws.map (· * t)) n = first sq ws n
  | [], _, _, n, _ => rfl
  | w :: ws, h, h2, n, hn => by
    have hp := pick_times sq t ht w ws h h2 n hn
    obtain ⟨b, hb, q0, q1, q2, q3⟩ := pick_some sq w ws n hn
    show (pick sq (w * t) (ws.map (· * t)) n).getD 0 :: first sq (ws.map (· * t)) (n - (pick sq (w * t) (ws.map (· * t)) n).getD 0) = (pick sq w ws n).getD 0 :: first sq ws (n - (pick sq w ws n).getD 0)
    rw [hp, hb]
    show b :: first sq (ws.map (· * t)) (n - b) = b :: first sq ws (n - b)
    rw [first_times sq t ht ws (ok_tail h) (ok_tail h2) (n - b) q2]
theorem best_times (sq : Bool) (t : Int) (ht : 1 ≤ t) (ws : List Int) (h : ok ws) (h2 : ok (ws.map (· * t))) (p : Int) (hp : 0 ≤ p) (hq : p * t < never) : best sq (ws.map (· * t)) (p * t) = best sq ws p := by
  have hle : p ≤ p * t := by
    have := Int.mul_le_mul_of_nonneg_left ht hp
    omega
  have hpt : 0 ≤ p * t := Int.mul_nonneg hp (by omega)
  have b1 := best_pays sq ws h p hp
  have b2 := best_pays sq _ h2 (p * t) hpt
  have g1 : best sq ws p ≤ best sq (ws.map (· * t)) (p * t) := by
    refine best_ge sq _ _ _ (by rw [List.length_map]; exact best_le sq ws p) ?_
    rw [(need_times sq t ht ws h h2 _).1 (by omega), Int.mul_comm p t]
    exact Int.mul_le_mul_of_nonneg_left b1 (by omega)
  have g2 : best sq (ws.map (· * t)) (p * t) ≤ best sq ws p := by
    have hl : best sq (ws.map (· * t)) (p * t) ≤ 8 * ws.length := by
      have := best_le sq (ws.map (· * t)) (p * t)
      rw [List.length_map] at this
      exact this
    refine best_ge sq _ _ _ hl ?_
    obtain ⟨c1, c2⟩ := need_times sq t ht ws h h2 (best sq (ws.map (· * t)) (p * t))
    have h4 := c2.mp (by omega)
    have b3 : t * need sq ws (best sq (ws.map (· * t)) (p * t)) ≤ t * p := by rw [← c1 h4, Int.mul_comm t p]; exact b2
    exact Int.le_of_mul_le_mul_left b3 (by omega)
  omega
/-- One carrier more. -/
theorem sub_more (sq : Bool) (ws : List Int) (v : Int) : sub sq ws (ws ++ [v]) := by
  intro l hl
  refine ⟨l ++ [0], ⟨by simp [hl.1], ?_⟩, by simp, ?_⟩
  · intro b hb
    rcases List.mem_append.mp hb with hb | hb
    · exact hl.2 b hb
    · rw [List.mem_singleton.mp hb]; exact tk_0 sq
  · rw [cost_append _ _ _ _ hl.1]
    show cost ws l + (v * E 0 + 0) = _
    have : E 0 = 0 := rfl
    rw [this]; omega
theorem best_more (sq : Bool) (ws : List Int) (v : Int) (h : ok ws) (h2 : ok (ws ++ [v])) (p : Int) (hp : 0 ≤ p) : best sq ws p ≤ best sq (ws ++ [v]) p := by
  have h1 := best_pays sq ws h p hp
  have h3 := sub_need (sub_more sq ws v) h2 (best sq ws p)
  refine best_ge sq _ _ _ ?_ (by omega)
  have := best_le sq ws p
  simp only [List.length_append, List.length_cons]
  omega
/-- All that goes on. -/
def total : List Int → Int
  | [] => 0
  | w :: ws => w + total ws
theorem full (sq : Bool) : ∀ (ws : List Int) (bs : List Nat), isLd sq ws bs → bs.sum = 8 * ws.length → cost ws bs = 170 * total ws
  | [], [], _, _ => rfl
  | [], b :: bs, h, _ => by have := h.1; simp at this
  | w :: ws, [], h, _ => by have := h.1; simp at this
  | w :: ws, b :: bs, h, hs => by
    have ht : isLd sq ws bs := ⟨by have := h.1; simp at this; omega, fun x hx => h.2 x (List.mem_cons_of_mem _ hx)⟩
    have h1 := ld_sum sq ws bs ht
    have h2 := (tk_E sq b (h.2 b List.mem_cons_self)).2.2
    simp only [List.sum_cons, List.length_cons] at hs
    have hb : b = 8 := by omega
    have h3 := full sq ws bs ht (by omega)
    show w * E b + cost ws bs = 170 * (w + total ws)
    rw [hb, h3]
    show w * 170 + 170 * total ws = _
    omega
theorem need_full (sq : Bool) (ws : List Int) (h : ok ws) : need sq ws (8 * ws.length) = 170 * total ws ∧ need sq ws (8 * ws.length) < never := by
  have hl : isLd sq ws (List.replicate ws.length 8) := ⟨by simp, fun b hb => by rw [List.eq_of_mem_replicate hb]; exact tk_8 sq⟩
  have hs : (List.replicate ws.length 8).sum = 8 * ws.length := by simp [Nat.mul_comm]
  have h1 := need_of sq ws _ h hl
  rw [hs] at h1
  obtain ⟨i1, i2, i3⟩ := first_ld sq ws _ h1.2.2.2
  rw [← i3]
  refine ⟨full sq ws _ i1 i2, ?_⟩
  rw [i3]; exact h1.2.2.2
theorem best_full (sq : Bool) (ws : List Int) (h : ok ws) (p : Int) (hp : 170 * total ws ≤ p) : best sq ws p = 8 * ws.length := by
  have h1 := best_ge sq ws p (8 * ws.length) (Nat.le_refl _) (by rw [(need_full sq ws h).1]; exact hp)
  have h2 := best_le sq ws p
  omega
theorem total_ones (n : Nat) : total (List.replicate n 1) = n := by
  induction n with
  | zero => rfl
  | succ n ih => rw [List.replicate_succ]; show 1 + total _ = _; rw [ih]; omega
theorem need_13 : need false [1] 3 = never := by decide +kernel
theorem best_10 : best false [1] 0 = 0 := by decide +kernel
end Go.Proofs.Ytgmaiknbogcpgaa.Ld
