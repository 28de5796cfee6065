/- sums.Burst's answer: where two rows are unlike. -/
import Derived.Test.YtjnedgkpakoceaaFogx0
import Derived.Test.YtjnedgkpakoceaaFogx5
import Derived.Test.YtjnedgkpakoceaaKit
import Derived.Test.YtjnedgkpakoceaaCrc
namespace Go.Proofs.Ytjnedgkpakoceaa.Crc
open Go.RowKit Go.Proofs.Ytjnedgkpakoceaa.Fog Go.Proofs.YtjnedgkpakoceaaW.PrintWords Go.Proofs.YtjnedgkpakoceaaW.PrintLast Go.Proofs.Ytjnedgkpakoceaa.Kit
set_option linter.unusedSimpArgs false
set_option linter.unusedVariables false

/-- What is known of an answer of Burst: (first, length, error), of two rows of one length. -/
def BurstIs (a b : List Bool) (n : Nat) (at_ len : Nat) : Prop :=
  (len = 0 ∧ at_ = 0 ∧ ∀ q, q < n → a.getD q false = b.getD q false) ∨
  (0 < len ∧ at_ + len ≤ n ∧ a.getD at_ false ≠ b.getD at_ false ∧ a.getD (at_ + len - 1) false ≠ b.getD (at_ + len - 1) false ∧ ∀ q, q < n → a.getD q false ≠ b.getD q false → at_ ≤ q ∧ q < at_ + len)
theorem BurstIs.uniq {a b : List Bool} {n x y x' y' : Nat} (h : BurstIs a b n x y) (k : BurstIs a b n x' y') : x = x' ∧ y = y' := by
  rcases h with ⟨h1, h2, h3⟩ | ⟨h1, h2, h3, h4, h5⟩ <;> rcases k with ⟨k1, k2, k3⟩ | ⟨k1, k2, k3, k4, k5⟩
  · exact ⟨by omega, by omega⟩
  · exact absurd (h3 x' (by omega)) k3
  · exact absurd (k3 x (by omega)) h3
  · have e1 := h5 x' (by omega) k3
    have e2 := k5 x (by omega) h3
    have e3 := h5 (x' + y' - 1) (by omega) k4
    have e4 := k5 (x + y - 1) (by omega) h4
    exact ⟨by omega, by omega⟩
theorem burst_l0 (a b : List Bool) (h : a.length = b.length) (hl : a.length ≤ 32768) : ∀ (d i x y : Nat), i + d = a.length → BurstIs a b i x y →
    ∃ x' y', BurstIs a b a.length x' y' ∧ Ev (fun k => sums_Burst.l0 k b (x : Int) (y : Int) a (a.length : Int) (i : Int)) ((x' : Int), (y' : Int), if y' = 0 then 6 else 0)
  | 0, i, x, y, hi, hb => by
    obtain rfl : i = a.length := by omega
    refine ⟨x, y, hb, Ev.step (fun k => by simp only [sums_Burst.l0]; rfl) (Ev.ifn (by omega) ?_)⟩
    by_cases hy : y = 0
    · subst hy
      have hx : x = 0 := by rcases hb with ⟨_, h2, _⟩ | ⟨h1, _⟩ <;> omega
      subst hx
      exact Ev.ifp rfl (Ev.now _)
    · rw [if_neg hy]
      exact Ev.ifn (by omega) (Ev.now _)
  | d + 1, i, x, y, hi, hb => by
    by_cases e : a.getD i false = b.getD i false
    · have hb' : BurstIs a b (i + 1) x y := by
        rcases hb with ⟨h1, h2, h3⟩ | ⟨h1, h2, h3, h4, h5⟩
        · refine .inl ⟨h1, h2, fun q hq => ?_⟩
          rcases Nat.lt_or_ge q i with h | h
          · exact h3 q h
          · rw [show q = i by omega]; exact e
        · refine .inr ⟨h1, by omega, h3, h4, fun q hq hne => ?_⟩
          rcases Nat.lt_or_ge q i with h | h
          · exact h5 q h hne
          · rw [show q = i by omega] at hne; exact absurd e hne
      obtain ⟨x', y', hf, he⟩ := burst_l0 a b h hl d (i + 1) x y (by omega) hb'
      refine ⟨x', y', hf, Ev.step (fun k => by simp only [sums_Burst.l0]; rfl) (Ev.ifp (by omega) (Ev.ifp (by omega) (Ev.ifp (by omega) (Ev.ifp (by omega) (Ev.ifp ?_ ?_)))))⟩
      · show (a.getD i false == b.getD i false) = true
        rw [e]; simp
      · rw [w64 (by omega) (by omega)]; exact he
    · by_cases hy : y = 0
      · have hb' : BurstIs a b (i + 1) i 1 := by
          rcases hb with ⟨h1, h2, h3⟩ | ⟨h1, _⟩
          · refine .inr ⟨by omega, by omega, e, by simpa using e, fun q hq hne => ?_⟩
            rcases Nat.lt_or_ge q i with h | h
            · exact absurd (h3 q h) hne
            · omega
          · omega
        obtain ⟨x', y', hf, he⟩ := burst_l0 a b h hl d (i + 1) i 1 (by omega) hb'
        refine ⟨x', y', hf, Ev.step (fun k => by simp only [sums_Burst.l0]; rfl) (Ev.ifp (by omega) (Ev.ifp (by omega) (Ev.ifp (by omega) (Ev.ifp (by omega) (Ev.ifn ?_ (Ev.ifp (by omega) ?_))))))⟩
        · show ¬ (a.getD i false == b.getD i false) = true
          simpa using e
        · rw [w64 (by omega) (by omega)]; exact he
      · have hb2 : x + y ≤ i ∧ a.getD x false ≠ b.getD x false ∧ ∀ q, q < i → a.getD q false ≠ b.getD q false → x ≤ q ∧ q < x + y := by
          rcases hb with ⟨h1, _⟩ | ⟨h1, h2, h3, h4, h5⟩
          · omega
          · exact ⟨h2, h3, h5⟩
        have hb' : BurstIs a b (i + 1) x (i - x + 1) := by
          refine .inr ⟨by omega, by omega, hb2.2.1, by rw [show x + (i - x + 1) - 1 = i by omega]; exact e, fun q hq hne => ?_⟩
          rcases Nat.lt_or_ge q i with h | h
          · have := hb2.2.2 q h hne; omega
          · omega
        obtain ⟨x', y', hf, he⟩ := burst_l0 a b h hl d (i + 1) x (i - x + 1) (by omega) hb'
        refine ⟨x', y', hf, Ev.step (fun k => by simp only [sums_Burst.l0]; rfl) (Ev.ifp (by omega) (Ev.ifp (by omega) (Ev.ifp (by omega) (Ev.ifp (by omega) (Ev.ifn ?_ (Ev.ifn (by omega) ?_))))))⟩
        · show ¬ (a.getD i false == b.getD i false) = true
          simpa using e
        · rw [w64 (x := (i : Int) - (x : Int)) (by omega) (by omega), w64 (by omega) (by omega), w64 (by omega) (by omega), show (i : Int) - (x : Int) + 1 = ((i - x + 1 : Nat) : Int) by omega]; exact he
theorem burst_ev (a b : List Bool) (h : a.length = b.length) (hl : a.length ≤ 32768) : ∃ x y, BurstIs a b a.length x y ∧ Ev (fun k => sums_Burst.f k a b) ((x : Int), (y : Int), if y = 0 then 6 else 0) := by
  obtain ⟨x, y, hb, he⟩ := burst_l0 a b h hl a.length 0 0 0 (by omega) (.inl ⟨rfl, rfl, fun q hq => by omega⟩)
  refine ⟨x, y, hb, ?_⟩
  simp only [sums_Burst.f]
  refine Ev.ifn (by omega) (Ev.step (fun k => by simp only [sums_Burst.j0]; rfl) (Ev.ifn (by simp; omega) ?_))
  exact he
end Go.Proofs.Ytjnedgkpakoceaa.Crc
