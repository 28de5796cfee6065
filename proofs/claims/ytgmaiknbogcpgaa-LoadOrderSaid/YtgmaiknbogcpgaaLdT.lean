/- The table of least powers, round by round. -/
import Derived.Test.YtgmaiknbogcpgaaFogx0
import Derived.Test.YtgmaiknbogcpgaaLd
namespace Go.Proofs.Ytgmaiknbogcpgaa.Ld
set_option linter.unusedVariables false
set_option linter.unusedSimpArgs false
/-- A pair has come: so many bits on this carrier, the rest behind it; j rounds are over, t bits of round j. -/
def come (sq : Bool) (j t m b : Nat) : Prop := b ∈ tk sq ∧ b ≤ m ∧ (m - b < j ∨ (m - b = j ∧ b ∈ (tk sq).take t))
/-- What a row of the table holds by then. -/
def Rel (sq : Bool) (w : Int) (g : Nat → Int) (j t : Nat) (f : Nat → Int) : Prop := ∀ m, m ≤ 2048 →
  (0 ≤ f m ∧ f m ≤ never) ∧ (∀ b, come sq j t m b → g (m - b) < never → f m ≤ g (m - b) + w * E b) ∧
  (f m = never ∨ ∃ b, come sq j t m b ∧ g (m - b) < never ∧ f m = g (m - b) + w * E b)
theorem Rel.start (sq : Bool) (w : Int) (g : Nat → Int) (f : Nat → Int) (h : ∀ m, m ≤ 2048 → f m = never) : Rel sq w g 0 0 f := by
  intro m hm
  have hn : never = 1152921504606846976 := rfl
  refine ⟨by have := h m hm; omega, ?_, .inl (h m hm)⟩
  rintro b ⟨_, _, h1 | ⟨_, h2⟩⟩
  · omega
  · simp at h2
theorem Rel.next {sq : Bool} {w : Int} {g : Nat → Int} {j t : Nat} {f : Nat → Int} (h : Rel sq w g j t f) (hc : (tk sq).length ≤ t ∨ ¬ g j < never) : Rel sq w g (j + 1) 0 f := by
  intro m hm
  obtain ⟨h1, h2, h3⟩ := h m hm
  refine ⟨h1, ?_, ?_⟩
  · rintro b ⟨c1, c2, c3 | ⟨_, c4⟩⟩ hg
    · by_cases e : m - b = j
      · rcases hc with hc | hc
        · exact h2 b ⟨c1, c2, .inr ⟨e, by rw [List.take_of_length_le hc]; exact c1⟩⟩ hg
        · rw [e] at hg; exact absurd hg hc
      · exact h2 b ⟨c1, c2, .inl (by omega)⟩ hg
    · simp at c4
  · rcases h3 with h3 | ⟨b, ⟨c1, c2, c3⟩, hg, e⟩
    · exact .inl h3
    · refine .inr ⟨b, ⟨c1, c2, .inl ?_⟩, hg, e⟩
      rcases c3 with c3 | c3
      · omega
      · omega
theorem Rel.step {sq : Bool} {w : Int} {g : Nat → Int} {j t : Nat} {f f' : Nat → Int} (h : Rel sq w g j t f) (b : Nat) (hb : (tk sq)[t]? = some b) (hg : g j < never) (h0 : 0 ≤ g j + w * E b)
    (hf : ∀ m, m ≤ 2048 → f' m = if m = j + b then min (f m) (g j + w * E b) else f m) : Rel sq w g j (t + 1) f' := by
  intro m hm
  obtain ⟨h1, h2, h3⟩ := h m hm
  have hfm := hf m hm
  have hbm : b ∈ tk sq := List.mem_of_getElem? hb
  have htk : (tk sq).take (t + 1) = (tk sq).take t ++ [b] := by rw [List.take_add_one, hb]; rfl
  have up : ∀ c, come sq j t m c → come sq j (t + 1) m c := by
    rintro c ⟨c1, c2, c3⟩
    refine ⟨c1, c2, ?_⟩
    rcases c3 with c3 | ⟨c3, c4⟩
    · exact .inl c3
    · exact .inr ⟨c3, by rw [htk]; exact List.mem_append_left _ c4⟩
  by_cases e : m = j + b
  · rw [if_pos e] at hfm
    have hme : m - b = j := by omega
    refine ⟨by omega, ?_, ?_⟩
    · rintro c ⟨c1, c2, c3⟩ hgc
      rcases c3 with c3 | ⟨c3, c4⟩
      · have := h2 c ⟨c1, c2, .inl c3⟩ hgc; omega
      · rw [htk] at c4
        rcases List.mem_append.mp c4 with c4 | c4
        · have := h2 c ⟨c1, c2, .inr ⟨c3, c4⟩⟩ hgc; omega
        · rw [List.mem_singleton.mp c4, hme]; omega
    · by_cases hmin : f m ≤ g j + w * E b
      · have e2 : f' m = f m := by omega
        rw [e2]
        rcases h3 with h3 | ⟨c, hc, q1, q2⟩
        · exact .inl h3
        · exact .inr ⟨c, up c hc, q1, q2⟩
      · refine .inr ⟨b, ⟨hbm, by omega, .inr ⟨hme, by rw [htk]; simp⟩⟩, by rw [hme]; exact hg, by rw [hme]; omega⟩
  · rw [if_neg e] at hfm
    rw [hfm]
    refine ⟨h1, ?_, ?_⟩
    · rintro c ⟨c1, c2, c3⟩ hgc
      rcases c3 with c3 | ⟨c3, c4⟩
      · exact h2 c ⟨c1, c2, .inl c3⟩ hgc
      · rw [htk] at c4
        rcases List.mem_append.mp c4 with c4 | c4
        · exact h2 c ⟨c1, c2, .inr ⟨c3, c4⟩⟩ hgc
        · have := List.mem_singleton.mp c4; omega
    · rcases h3 with h3 | ⟨c, hc, q1, q2⟩
      · exact .inl h3
      · exact .inr ⟨c, up c hc, q1, q2⟩
theorem Rel.done {sq : Bool} {w : Int} {ws : List Int} {t : Nat} {f : Nat → Int} (hk : ok (w :: ws)) (h : Rel sq w (need sq ws) (8 * ws.length + 1) t f) : ∀ m, m ≤ 2048 → f m = need sq (w :: ws) m := by
  intro m hm
  obtain ⟨h1, h2, h3⟩ := h m hm
  refine need_char sq w ws hk m (f m) h1.2 ?_ ?_
  · intro b hb hbm hn
    have : m - b < 8 * ws.length + 1 := by
      rcases Nat.lt_or_ge (m - b) (8 * ws.length + 1) with h | h
      · exact h
      · have := need_far sq ws (m - b) (by omega); omega
    exact h2 b ⟨hb, hbm, .inl this⟩ hn
  · rcases h3 with h3 | ⟨b, ⟨c1, c2, _⟩, q1, q2⟩
    · exact .inl h3
    · exact .inr ⟨b, c1, c2, q1, q2⟩
theorem tk_len (sq : Bool) : (tk sq).length ≤ 9 := by cases sq <;> decide
def has (sq : Bool) (k : Nat) : Bool := decide (0 ≤ E k) && (!sq || k % 2 == 0)
/-- The numbers of bits from 8 down, k of them looked at. -/
def tkD (sq : Bool) (k : Nat) : List Nat := ((List.range k).map (fun i => 8 - i)).filter (has sq)
theorem tkD_9 (sq : Bool) : tkD sq 9 = tk sq := by cases sq <;> decide
theorem tkD_0 (sq : Bool) : tkD sq 0 = [] := rfl
theorem tkD_step (sq : Bool) (k : Nat) : tkD sq (k + 1) = if has sq (8 - k) then tkD sq k ++ [8 - k] else tkD sq k := by
  unfold tkD
  rw [List.range_succ, List.map_append, List.filter_append]
  show _ ++ List.filter (has sq) [8 - k] = _
  by_cases h : has sq (8 - k) = true
  · rw [if_pos h, List.filter_cons_of_pos h]; rfl
  · rw [if_neg h, List.filter_cons_of_neg h]; simp
theorem tkD_len (sq : Bool) (k : Nat) : (tkD sq k).length ≤ k := by
  unfold tkD
  have h := List.length_filter_le (has sq) ((List.range k).map (fun i => 8 - i))
  rw [List.length_map, List.length_range] at h
  exact h
end Go.Proofs.Ytgmaiknbogcpgaa.Ld
