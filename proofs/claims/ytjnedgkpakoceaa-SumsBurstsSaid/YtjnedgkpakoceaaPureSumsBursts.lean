/- SumsBursts: a row with its sum fits; with anything turned within as many places as the sum is wide it does not. No condition. -/
import Derived.Test.YtjnedgkpakoceaaFogx0
import Derived.Test.YtjnedgkpakoceaaFogx11
import Derived.Test.YtjnedgkpakoceaaFogx8
import Derived.Test.YtjnedgkpakoceaaKit
import Derived.Test.YtjnedgkpakoceaaCrcSums
import Derived.Test.YtjnedgkpakoceaaCrcBurst
import Derived.Test.YtjnedgkpakoceaaCrcAwake
namespace Go.Proofs.Ytjnedgkpakoceaa.Pure
open Go.RowKit Go.Proofs.Ytjnedgkpakoceaa.Fog Go.Proofs.YtjnedgkpakoceaaW.PrintWords Go.Proofs.YtjnedgkpakoceaaW.PrintLast Go.Proofs.YtjnedgkpakoceaaW.PrintMore Go.Proofs.Ytjnedgkpakoceaa.Kit Go.Proofs.Ytjnedgkpakoceaa.Crc
set_option linter.unusedSimpArgs false
set_option linter.unusedVariables false

def err (p n t i : Nat) : List Bool := (List.range n).map fun q => decide (p ≤ q ∧ q < p + i) && t.testBit (q - p)
theorem err_length (p n t i : Nat) : (err p n t i).length = n := by simp [err]
theorem err_get (p n t i q : Nat) (hq : q < n) : (err p n t i).getD q false = (decide (p ≤ q ∧ q < p + i) && t.testBit (q - p)) := by
  simp [err, List.getD_eq_getElem?_getD, hq]
theorem xl_get (a b : List Bool) (h : a.length = b.length) (q : Nat) (hq : q < a.length) : (xl a b).getD q false = (a.getD q false != b.getD q false) := by
  simp [xl, List.getD_eq_getElem?_getD, List.getElem?_zipWith, hq, show q < b.length by omega]
theorem flip_zero (r : List Bool) (p t : Nat) : xl r (err p r.length t 0) = r := by
  apply ext_getD (by rw [xl_length _ _ (by rw [err_length])])
  intro q hq
  rw [xl_length _ _ (by rw [err_length])] at hq
  rw [xl_get _ _ (by rw [err_length]) q hq, err_get _ _ _ _ _ hq]
  rw [show decide (p ≤ q ∧ q < p + 0) = false by simp]
  simp
theorem flip_off (r : List Bool) (p t i : Nat) (h : t.testBit i = false) : xl r (err p r.length t (i + 1)) = xl r (err p r.length t i) := by
  congr 1
  apply ext_getD (by rw [err_length, err_length])
  intro q hq
  rw [err_length] at hq
  rw [err_get _ _ _ _ _ hq, err_get _ _ _ _ _ hq]
  by_cases e : q - p = i ∧ p ≤ q
  · rw [show t.testBit (q - p) = false by rw [e.1]; exact h]; simp
  · congr 1
    have : (p ≤ q ∧ q < p + (i + 1)) ↔ (p ≤ q ∧ q < p + i) := by omega
    simp only [this]
theorem flip_on (r : List Bool) (p t i : Nat) (h : t.testBit i = true) (hp : p + i < r.length) :
    xl r (err p r.length t (i + 1)) = (xl r (err p r.length t i)).set (p + i) (!((xl r (err p r.length t i)).getD (p + i) false)) := by
  have hl : (xl r (err p r.length t i)).length = r.length := xl_length _ _ (by rw [err_length])
  have hl2 : (xl r (err p r.length t (i + 1))).length = r.length := xl_length _ _ (by rw [err_length])
  apply ext_getD (by rw [List.length_set, hl, hl2])
  intro q hq
  rw [hl2] at hq
  rw [xl_get _ _ (by rw [err_length]) q hq, err_get _ _ _ _ _ hq]
  by_cases e : q = p + i
  · subst e
    rw [List.getD_eq_getElem?_getD (l := List.set _ _ _), List.getElem?_set_self (by rw [hl]; exact hp)]
    rw [xl_get _ _ (by rw [err_length]) _ hq, err_get _ _ _ _ _ hq]
    rw [show decide (p ≤ p + i ∧ p + i < p + (i + 1)) = true by simp, show p + i - p = i by omega, h]
    simp
  · rw [List.getD_eq_getElem?_getD (l := List.set _ _ _), List.getElem?_set_ne (by omega), ← List.getD_eq_getElem?_getD]
    rw [xl_get _ _ (by rw [err_length]) _ hq, err_get _ _ _ _ _ hq]
    have : (p ≤ q ∧ q < p + (i + 1)) ↔ (p ≤ q ∧ q < p + i) := by omega
    simp only [this]
theorem err_parts (p n t w : Nat) (h : p + w ≤ n) : err p n t w = List.replicate p false ++ ((List.range w).map t.testBit ++ List.replicate (n - p - w) false) := by
  apply ext_getD (by rw [err_length]; simp; omega)
  intro q hq
  rw [err_length] at hq
  rw [err_get _ _ _ _ _ hq, List.getD_eq_getElem?_getD]
  rcases Nat.lt_or_ge q p with h1 | h1
  · rw [List.getElem?_append_left (by simpa using h1)]
    simp [h1]; omega
  · rw [List.getElem?_append_right (by simpa using h1), List.length_replicate]
    rcases Nat.lt_or_ge (q - p) w with h2 | h2
    · rw [List.getElem?_append_left (by simpa using h2)]
      simp [h1, h2]; omega
    · rw [List.getElem?_append_right (by simpa using h2)]
      simp [List.getElem?_replicate]
      split <;> simp <;> omega
theorem err_crc {v : Nat} {P : BitVec v} (hv : 0 < v) (hp : P.getLsbD 0 = true) (p n t w : Nat) (h : p + w ≤ n) (hw : w ≤ v) (ht : t < 2 ^ w) (he : crc P 0#v (err p n t w) = 0#v) : t = 0 := by
  rw [err_parts p n t w h, crc_append, crc_zeros, crc_append] at he
  have h1 := zeros_inj hv hp _ _ he
  have h2 := detect hv hp _ (by simpa using hw) h1
  apply Nat.eq_of_testBit_eq
  intro i
  rw [Nat.zero_testBit]
  rcases Nat.lt_or_ge i w with hi | hi
  · have := congrArg (fun z => z.getD i false) h2
    simpa [List.getD_eq_getElem?_getD, hi] using this
  · exact Nat.testBit_lt_two_pow (Nat.lt_of_lt_of_le ht (Nat.pow_le_pow_right (by omega) hi))
theorem crc_flip {v : Nat} (P : BitVec v) (r : List Bool) (p t w : Nat) : crc P 0#v (xl r (err p r.length t w)) = crc P 0#v r ^^^ crc P 0#v (err p r.length t w) := by
  have := crc_xor P r (err p r.length t w) 0#v 0#v (by rw [err_length])
  simpa using this
theorem bit_test (t i : Nat) (ht : t < 4294967296) (hi : i ≤ 32) : ((Go.bits .and .u32 (shr .u32 (t : Int) (i : Int)) 1) = 1) ↔ t.testBit i = true := by
  unfold shr
  rw [Int.toNat_natCast, show IntKind.u32.bits = 32 from rfl, Nat.min_eq_left hi]
  rw [show ((t : Int) / 2 ^ i) = ((t / 2 ^ i : Nat) : Int) by simp]
  have h : Go.bits .and .u32 ((t / 2 ^ i : Nat) : Int) 1 = ((t / 2 ^ i &&& 1 : Nat) : Int) := u32_and_nat (t / 2 ^ i) 1 (Nat.lt_of_le_of_lt (Nat.div_le_self _ _) ht) (by omega)
  rw [h, nat_mask1, Nat.testBit_eq_decide_div_mod_eq]
  generalize t / 2 ^ i % 2 = z
  constructor
  · intro e; have : z = 1 := by omega
    simp [this]
  · intro e; have : z = 1 := by simpa using e
    omega
/-- What is behind the turning. -/
theorem torn_loop (r : List Bool) (w p t : Nat) (hr : r.length ≤ 32768) (hp : p + w ≤ r.length) (hw : w ≤ 32) (ht : t < 4294967296) (G : Nat → Option Bool)
    (hG : ∀ k z, z = xl r (err p r.length t w) → foghornlaw24_torn.l0 (k + 1) r (w : Int) (t : Int) (p : Int) z (w : Int) = G k) (v : Bool) (hv : Ev G v) :
    ∀ (d i : Nat), i + d = w → Ev (fun k => foghornlaw24_torn.l0 k r (w : Int) (t : Int) (p : Int) (xl r (err p r.length t i)) (i : Int)) v
  | 0, i, h => by
    obtain rfl : i = w := by omega
    exact Ev.step (fun k => hG k _ rfl) hv
  | d + 1, i, h => by
    have ih := torn_loop r w p t hr hp hw ht G hG v hv d (i + 1) (by omega)
    have hl : (xl r (err p r.length t i)).length = r.length := xl_length _ _ (by rw [err_length])
    refine Ev.step (fun k => by simp only [foghornlaw24_torn.l0]; rfl) (Ev.ifp (by omega) (Ev.ifp (by omega) ?_))
    by_cases hb : t.testBit i = true
    · refine Ev.ifp ((bit_test t i ht (by omega)).2 hb) ?_
      rw [show ((p : Int) + (i : Int)) = ((p + i : Nat) : Int) by omega, w64n (by omega)]
      refine Ev.ifp (by omega) (Ev.ifp (by rw [hl]; omega) ?_)
      rw [Int.toNat_natCast, show rdOf false (xl r (err p r.length t i)) ((p + i : Nat) : Int) = (xl r (err p r.length t i)).getD (p + i) false from rfl, ← flip_on r p t i hb (by omega), w64 (by omega) (by omega)]
      exact ih
    · refine Ev.ifn (fun e => hb ((bit_test t i ht (by omega)).1 e)) ?_
      rw [← flip_off r p t i (by simpa using hb), w64 (by omega) (by omega)]
      exact ih
theorem torn_end (r : List Bool) (w p t : Nat) (fits : Bool) (hw0 : 0 < w) (hw : w ≤ 32) (hr : r.length ≤ 32768) (hp : p + w ≤ r.length) (ht : t < 2 ^ w) (hf : fits = decide (t = 0)) :
    Ev (fun k => foghornlaw24_torn.j1 k r (w : Int) (t : Int) (p : Int) (xl r (err p r.length t w)) fits) true := by
  have hl : (xl r (err p r.length t w)).length = r.length := xl_length _ _ (by rw [err_length])
  obtain ⟨x, y, hb, he⟩ := burst_ev r (xl r (err p r.length t w)) hl.symm hr
  have hD : ∀ q, q < r.length → (r.getD q false ≠ (xl r (err p r.length t w)).getD q false ↔ (p ≤ q ∧ q < p + w) ∧ t.testBit (q - p) = true) := by
    intro q hq
    rw [xl_get _ _ (by rw [err_length]) q hq, err_get _ _ _ _ _ hq]
    cases r.getD q false <;> simp [and_assoc]
  refine Ev.step (fun k => by simp only [foghornlaw24_torn.j1]; rfl) (Ev.bind he ?_)
  by_cases h0 : t = 0
  · subst h0
    have hy : y = 0 := by
      rcases hb with ⟨h1, _⟩ | ⟨_, h2, h3, _⟩
      · exact h1
      · have := (hD x (by omega)).1 h3
        simp at this
    subst hf
    refine Ev.ifp rfl (Ev.ifp (by simp) ?_)
    subst hy
    exact Ev.val (by simp)
  · have hb2 : 0 < y ∧ x + y ≤ r.length ∧ r.getD x false ≠ (xl r (err p r.length t w)).getD x false ∧ r.getD (x + y - 1) false ≠ (xl r (err p r.length t w)).getD (x + y - 1) false := by
      rcases hb with ⟨h1, h2, h3⟩ | ⟨h1, h2, h3, h4, _⟩
      · exfalso
        apply h0
        apply Nat.eq_of_testBit_eq
        intro i
        rw [Nat.zero_testBit]
        rcases Nat.lt_or_ge i w with hi | hi
        · have h4 := h3 (p + i) (by omega)
          have h5 := (hD (p + i) (by omega)).2
          rw [show p + i - p = i by omega] at h5
          cases hbit : t.testBit i with
          | false => rfl
          | true => exact absurd h4 (h5 ⟨⟨by omega, by omega⟩, hbit⟩)
        · exact Nat.testBit_lt_two_pow (Nat.lt_of_lt_of_le ht (Nat.pow_le_pow_right (by omega) hi))
      · exact ⟨h1, h2, h3, h4⟩
    obtain ⟨hy, hxy, hx1, hx2⟩ := hb2
    have b1 := ((hD x (by omega)).1 hx1).1
    have b2 := ((hD (x + y - 1) (by omega)).1 hx2).1
    have hsum : crc P32 0#32 r ≠ crc P32 0#32 (xl r (err p r.length t w)) := by
      intro e
      rw [crc_flip] at e
      have : crc P32 0#32 (err p r.length t w) = 0#32 := by
        have h2 := congrArg (fun z => crc P32 0#32 r ^^^ z) e
        simp only [BitVec.xor_self, ← BitVec.xor_assoc, BitVec.zero_xor] at h2
        exact h2.symm
      exact h0 (err_crc (by omega) p32_low p r.length t w hp hw ht this)
    subst hf
    rw [if_neg (show ¬ y = 0 by omega)]
    refine Ev.ifn (by omega) (Ev.bind (sum32_ev r hr) (Ev.bind (sum32_ev _ (by rw [hl]; exact hr)) (Ev.ifn (by simp [h0]) (Ev.ifp rfl (Ev.ifp (by omega) ?_)))))
    simp only []
    rw [show ((x : Int) + (y : Int)) = ((x + y : Nat) : Int) by omega, w64n (by omega), show ((p : Int) + (w : Int)) = ((p + w : Nat) : Int) by omega, w64n (by omega), show ((x + y : Nat) : Int) - 1 = ((x + y - 1 : Nat) : Int) by omega, w64n (by omega)]
    refine Ev.ifp (by omega) (Ev.ifp (by omega) (Ev.ifp (by rw [hl]; omega) (Ev.ifp (by omega) (Ev.ifp ?_ (Ev.ifp (by omega) (Ev.ifp (by rw [hl]; omega) (Ev.ifp (by omega) (Ev.ifp ?_ (Ev.ifp trivial (Ev.ifp trivial (Ev.val ?_)))))))))))
    · show ((xl r (err p r.length t w)).getD x false != r.getD x false) = true
      simpa using fun e => hx1 e.symm
    · show ((xl r (err p r.length t w)).getD (x + y - 1) false != r.getD (x + y - 1) false) = true
      simpa using fun e => hx2 e.symm
    · have : (crc P32 0#32 r).toNat ≠ (crc P32 0#32 (xl r (err p r.length t w))).toNat := fun e => hsum (BitVec.eq_of_toNat_eq e)
      simp only [bne_iff_ne, ne_eq]
      omega
theorem torn_start (r : List Bool) (w at_ t : Nat) (hr : r.length ≤ 32768) (hw : w ≤ r.length) (v : Bool) (h : ∀ p : Nat, p + w ≤ r.length → Ev (fun k => foghornlaw24_torn.l0 k r (w : Int) (t : Int) (p : Int) r 0) v) :
    Ev (fun k => foghornlaw24_torn.f k r (w : Int) (at_ : Int) (t : Int)) v := by
  simp only [foghornlaw24_torn.f]
  rw [show ((r.length : Int) - (w : Int)) = ((r.length - w : Nat) : Int) by omega, w64n (by omega), show ((r.length - w : Nat) : Int) + 1 = ((r.length - w + 1 : Nat) : Int) by omega, w64n (by omega), tmod_nat]
  refine Ev.ifn (by omega) (Ev.bindc rfl (Ev.ifp (by simp; omega) ?_))
  have := h (at_ % (r.length - w + 1)) (by have := Nat.mod_lt at_ (show 0 < r.length - w + 1 by omega); omega)
  simpa using this


theorem torn16_ev (r : List Bool) (at_ t : Nat) (hr : r.length ≤ 32768) (hw : 16 ≤ r.length) (ht : t < 2 ^ 16) (hc : crc P16 0#16 r = 0#16) : Ev (fun k => foghornlaw24_torn.f k r 16 (at_ : Int) (t : Int)) true := by
  refine torn_start r 16 at_ t hr hw true (fun p hp => ?_)
  have h := torn_loop r 16 p t hr hp (by omega) (Nat.lt_of_lt_of_le ht (by decide)) (fun k => (sums_Fits32.f k (xl r (err p r.length t 16))).bind fun t344 => if ((16 : Nat) : Int) = 16 then ((sums_Fits16.f k (xl r (err p r.length t 16))).bind fun t345 => (foghornlaw24_torn.j1 k r ((16 : Nat) : Int) t p (xl r (err p r.length t 16)) t345)) else (foghornlaw24_torn.j1 k r ((16 : Nat) : Int) t p (xl r (err p r.length t 16)) t344)) (fun k z hz => by subst hz; simp only [foghornlaw24_torn.l0]; rw [if_neg (by omega)]) true ?_ 16 0 (by omega)
  · rw [flip_zero] at h
    exact h
  · have hl : (xl r (err p r.length t 16)).length = r.length := xl_length _ _ (by rw [err_length])
    refine Ev.bind (fits32_ev _) ?_
    refine Ev.ifp rfl (Ev.bind (fits16_ev _) ?_)
    refine torn_end r 16 p t _ (by omega) (by omega) hr hp ht ?_
    rw [hl, crc_flip, hc, BitVec.zero_xor]
    have e : (crc P16 0#16 (err p r.length t 16) = 0#16) ↔ t = 0 := by
      constructor
      · exact err_crc (by omega) p16_low p r.length t 16 hp (Nat.le_refl _) ht
      · intro e
        subst e
        have : err p r.length 0 16 = List.replicate r.length false := by
          apply ext_getD (by rw [err_length]; simp)
          intro q hq
          rw [err_length] at hq
          rw [err_get _ _ _ _ _ hq]
          simp [List.getD_eq_getElem?_getD, hq]
        rw [this, crc_zeros]
    simp only [e]
    have h1 : r.length ≤ 32768 := hr
    have h2 : 16 ≤ r.length := hw
    simp [h1, h2]

theorem torn32_ev (r : List Bool) (at_ t : Nat) (hr : r.length ≤ 32768) (hw : 32 ≤ r.length) (ht : t < 2 ^ 32) (hc : crc P32 0#32 r = 0#32) : Ev (fun k => foghornlaw24_torn.f k r 32 (at_ : Int) (t : Int)) true := by
  refine torn_start r 32 at_ t hr hw true (fun p hp => ?_)
  have h := torn_loop r 32 p t hr hp (by omega) (Nat.lt_of_lt_of_le ht (by decide)) (fun k => (sums_Fits32.f k (xl r (err p r.length t 32))).bind fun t344 => if ((32 : Nat) : Int) = 16 then ((sums_Fits16.f k (xl r (err p r.length t 32))).bind fun t345 => (foghornlaw24_torn.j1 k r ((32 : Nat) : Int) t p (xl r (err p r.length t 32)) t345)) else (foghornlaw24_torn.j1 k r ((32 : Nat) : Int) t p (xl r (err p r.length t 32)) t344)) (fun k z hz => by subst hz; simp only [foghornlaw24_torn.l0]; rw [if_neg (by omega)]) true ?_ 32 0 (by omega)
  · rw [flip_zero] at h
    exact h
  · have hl : (xl r (err p r.length t 32)).length = r.length := xl_length _ _ (by rw [err_length])
    refine Ev.bind (fits32_ev _) ?_
    refine Ev.ifn (by omega) ?_
    refine torn_end r 32 p t _ (by omega) (by omega) hr hp ht ?_
    rw [hl, crc_flip, hc, BitVec.zero_xor]
    have e : (crc P32 0#32 (err p r.length t 32) = 0#32) ↔ t = 0 := by
      constructor
      · exact err_crc (by omega) p32_low p r.length t 32 hp (Nat.le_refl _) ht
      · intro e
        subst e
        have : err p r.length 0 32 = List.replicate r.length false := by
          apply ext_getD (by rw [err_length]; simp)
          intro q hq
          rw [err_length] at hq
          rw [err_get _ _ _ _ _ hq]
          simp [List.getD_eq_getElem?_getD, hq]
        rw [this, crc_zeros]
    simp only [e]
    have h1 : r.length ≤ 32768 := hr
    have h2 : 32 ≤ r.length := hw
    simp [h1, h2]

theorem SumsBursts_ev (l : List Bool) (a1 a2 : Int) (h1 : (Lit.int .u16 a1).wf = true) (h2 : (Lit.int .u32 a2).wf = true) (hy : l.length * 1 ≤ 140737488351232) : Ev (fun k => foghornlaw24_SumsBursts.f k l a1 a2) true := by
  obtain ⟨u, rfl, hu⟩ : ∃ u : Nat, a1 = (u : Int) ∧ u < 65536 := by
    simp [Lit.wf, IntKind.min, IntKind.max, IntKind.signed, IntKind.bits] at h1
    exact ⟨a1.toNat, by omega, by omega⟩
  obtain ⟨t, rfl, ht⟩ : ∃ u : Nat, a2 = (u : Int) ∧ u < 4294967296 := by
    simp [Lit.wf, IntKind.min, IntKind.max, IntKind.signed, IntKind.bits] at h2
    exact ⟨a2.toNat, by omega, by omega⟩
  simp only [foghornlaw24_SumsBursts.f]
  have hm : mn (l.length : Int) 300 = ((min l.length 300 : Nat) : Int) := by
    unfold mn
    split <;> omega
  rw [hm, Int.toNat_natCast, w64n (by omega)]
  obtain ⟨a, ha⟩ : ∃ a, l.take (min l.length 300) = a := ⟨_, rfl⟩
  have hal : a.length ≤ 300 := by rw [← ha, List.length_take]; omega
  rw [ha]
  refine Ev.ifp (by omega) (Ev.ifp (by omega) (Ev.bindc rfl (Ev.bind (row16_ev a (by omega)) (Ev.bind (row32_ev a (by omega)) (Ev.ifp rfl (Ev.ifp rfl ?_))))))
  obtain ⟨x, hx⟩ : ∃ x, a ++ spelt (crc P16 0#16 a) = x := ⟨_, rfl⟩
  obtain ⟨y, hy2⟩ : ∃ y, a ++ spelt (crc P32 0#32 a) = y := ⟨_, rfl⟩
  have hxl : x.length = a.length + 16 := by rw [← hx, List.length_append, spelt_length]
  have hyl : y.length = a.length + 32 := by rw [← hy2, List.length_append, spelt_length]
  have hxc : crc P16 0#16 x = 0#16 := by rw [← hx, crc_append, crc_spelt]
  have hyc : crc P32 0#32 y = 0#32 := by rw [← hy2, crc_append, crc_spelt]
  rw [hx, hy2]
  simp only []
  rw [show ((a.length : Int) + 16) = ((a.length + 16 : Nat) : Int) by omega, w64n (by omega), show ((a.length : Int) + 32) = ((a.length + 32 : Nat) : Int) by omega, w64n (by omega)]
  refine Ev.ifp (by rw [hxl]) (Ev.ifp (by rw [hyl]) (Ev.bind (fits16_ev x) (Ev.ifp (by simp [hxc]; omega) (Ev.bind (fits32_ev y) (Ev.ifp (by simp [hyc]; omega) ?_)))))
  rw [show (9 : Int) = ((9 : Nat) : Int) from rfl, tmod_nat, Int.toNat_natCast]
  refine Ev.ifp (by omega) (Ev.ifp (by omega) (Ev.bindc rfl (Ev.ifp (by rw [List.length_replicate]; omega) (Ev.bind (fits32_ev _) ?_))))
  rw [crc_append, crc_zeros, hyc, List.length_append, List.length_replicate]
  refine Ev.step (fun k => by simp only [foghornlaw24_SumsBursts.j0]; rfl) (Ev.ifn (by simp; omega) ?_)
  rw [w64n (by omega), show (65536 : Int) = ((65536 : Nat) : Int) from rfl, tmod_nat]
  refine Ev.bind (torn16_ev x u (t % 65536) (by omega) (by omega) (Nat.mod_lt _ (by decide)) hxc) (Ev.ifp rfl (Ev.bind (torn32_ev y u t (by omega) (by omega) ht hyc) (Ev.ifp rfl ?_)))
  exact Ev.bind awake_ev (Ev.now _)
theorem SumsBursts_walk (A0 : Option Addr) (c0 : Nat) (l0 : List Bool) (a1 a2 : Int) (w : World) (hr0 : Kd.C Kd.bool w A0 l0.length l0) (hc0 : l0.length ≤ c0) (hy0 : l0.length * 1 ≤ 140737488351232) (hg0 : ∀ y ∈ l0, True) (w1 : (Lit.int .u16 a1).wf = true) (w2 : (Lit.int .u32 a2).wf = true) :
    Calls Try.prog 6 #[.slice A0 l0.length c0, .int .u16 a1, .int .u32 a2] w fun e w' => e = .returned (.bool true) ∧ Below w.heap.size w w' := by
  obtain ⟨k, h⟩ := (SumsBursts_ev l0 a1 a2 w1 w2 hy0).rounds
  exact foghornlaw24_SumsBursts.calls k A0 c0 l0 a1 a2 true w hr0 hc0 h
end Go.Proofs.Ytjnedgkpakoceaa.Pure
