/- Words and rows of words: there and back; the reference's. -/
import Derived.Test.YtopmlhihfchdhaaFogx0
import Derived.Test.YtopmlhihfchdhaaFogx1
import Derived.Test.YtopmlhihfchdhaaFogx4
import Derived.Test.YtopmlhihfchdhaaFogx5
import Derived.Test.YtopmlhihfchdhaaHandRow
import Derived.Test.YtopmlhihfchdhaaHandWords
import Derived.Test.YtopmlhihfchdhaaKit
import Derived.Test.YtopmlhihfchdhaaHandWords
import Derived.Test.YtopmlhihfchdhaaHandRow
namespace Go.Proofs.Ytopmlhihfchdhaa.Pure
open Go.RowKit Go.Proofs.Ytopmlhihfchdhaa.Fog Go.Proofs.YtopmlhihfchdhaaW.PrintWords Go.Proofs.YtopmlhihfchdhaaW.PrintLast Go.Proofs.YtopmlhihfchdhaaW.PrintMore Go.Proofs.Ytopmlhihfchdhaa.Kit
set_option linter.unusedVariables false
set_option linter.unusedSimpArgs false
theorem rd_nat (l : List Bool) (i : Nat) : rdOf false l (i : Int) = l.getD i false := by simp [rdOf]
theorem rdI_nat (l : List Int) (i : Nat) : rd l (i : Int) = l.getD i 0 := by simp [rd]
theorem rowBit_gen (x n i : Nat) (h : x < 131072) : rowBit (x : Int) n i = (x / 2 ^ (n - 1 - i) % 2 == 1) := by
  unfold rowBit
  have e : ((x : Int) / 2 ^ (n - 1 - i)) = ((x / 2 ^ (n - 1 - i) : Nat) : Int) := by
    rw [Int.natCast_ediv, Int.natCast_pow]; rfl
  have hl : x / 2 ^ (n - 1 - i) ≤ x := Nat.div_le_self _ _
  rw [e, show (1 : Int) = ((1 : Nat) : Int) from rfl, and_i64 _ _ (by omega) (by omega), Nat.and_one_is_mod]
  rcases Nat.mod_two_eq_zero_or_one (x / 2 ^ (n - 1 - i)) with h1 | h1 <;> rw [h1] <;> rfl
theorem wordOf_nat (l : List Bool) : ∃ v : Nat, wordOf l = (v : Int) ∧ v < 2 ^ l.length := by
  have := wordOf_bound l.length l
  rwa [List.take_length] at this
theorem rowBits_word : ∀ (n : Nat) (c : List Bool), c.length = n → n ≤ 16 → rowBits n (wordOf c) = c
  | 0, c, h, _ => by
    rw [List.eq_nil_of_length_eq_zero h]
    rfl
  | n + 1, c, h, hn => by
    rcases List.eq_nil_or_concat c with rfl | ⟨L, b, rfl⟩
    · simp at h
    · simp only [List.concat_eq_append, List.length_append, List.length_cons, List.length_nil] at h ⊢
      have hL : L.length = n := by omega
      have ih := rowBits_word n L hL (by omega)
      obtain ⟨v, hv, hlt⟩ := wordOf_nat L
      have hp : 2 ^ L.length ≤ 2 ^ 15 := Nat.pow_le_pow_right (by decide) (by omega)
      rw [wordOf_snoc, hv]
      rw [hv] at ih
      obtain ⟨d, hd, hd2⟩ : ∃ d : Nat, (if b = true then (1 : Int) else 0) = (d : Int) ∧ d = if b = true then 1 else 0 := ⟨if b = true then 1 else 0, by split <;> rfl, rfl⟩
      have hd1 : d < 2 := by rw [hd2]; split <;> omega
      rw [hd, show (2 * (v : Int) + (d : Int)) = ((2 * v + d : Nat) : Int) by omega]
      unfold rowBits at ih ⊢
      rw [List.range_succ, List.map_append]
      congr 1
      · rw [← ih]
        refine List.map_congr_left fun i hi => ?_
        have hi' : i < n := by simpa using hi
        rw [rowBit_gen _ _ _ (by omega), rowBit_gen _ _ _ (by omega), show n + 1 - 1 - i = (n - 1 - i) + 1 by omega, Nat.pow_succ, Nat.mul_comm (2 ^ (n - 1 - i)) 2, ← Nat.div_div_eq_div_mul, show (2 * v + d) / 2 = v by omega]
      · rw [List.map_cons, List.map_nil, rowBit_gen _ _ _ (by omega), show n + 1 - 1 - n = 0 by omega, Nat.pow_zero, Nat.div_one, show (2 * v + d) % 2 = d by omega, hd2]
        cases b <;> rfl
theorem chunks (l : List Bool) (n : Nat) : ∀ m : Nat, (List.range m).flatMap (fun k => (l.drop (k * n)).take n) = l.take (m * n)
  | 0 => by simp
  | m + 1 => by
    rw [List.range_succ, List.flatMap_append, chunks l n m, Nat.succ_mul, List.take_add]
    simp
theorem row_words (l : List Bool) (n m : Nat) (hn1 : 1 ≤ n) (hn2 : n ≤ 16) (hl : l.length ≤ 32768) (hm : l.length = m * n) : rowV ((List.range m).map (wordK l n)) (n : Int) = (l, 0) := by
  have hd : (32768 : Int) / (n : Int) = ((32768 / n : Nat) : Int) := by rw [Int.natCast_ediv]; rfl
  have hq : m ≤ 32768 / n := (Nat.le_div_iff_mul_le (by omega)).2 (by omega)
  have hlen : ∀ k, k < m → ((l.drop (k * n)).take n).length = n := by
    intro k hk
    have : (k + 1) * n ≤ m * n := Nat.mul_le_mul_right _ hk
    rw [Nat.succ_mul] at this
    rw [List.length_take, List.length_drop]
    omega
  unfold rowV
  rw [if_pos (by rw [hd, List.length_map, List.length_range]; omega), Int.toNat_natCast, if_pos]
  · have e : ((List.range m).map (wordK l n)).flatMap (rowBits n) = l := by
      rw [List.flatMap_map]
      have e2 : (List.range m).flatMap (fun k => rowBits n (wordK l n k)) = (List.range m).flatMap (fun k => (l.drop (k * n)).take n) := by
        rw [List.flatMap_def, List.flatMap_def]
        congr 1
        refine List.map_congr_left fun k hk => ?_
        exact rowBits_word n _ (hlen k (by simpa using hk)) hn2
      rw [e2, chunks, ← hm, List.take_length]
    rw [e]
  · rw [List.all_eq_true]
    intro x hx
    obtain ⟨k, hk, rfl⟩ := List.mem_map.1 hx
    obtain ⟨v, hv, hlt⟩ := wordOf_nat ((l.drop (k * n)).take n)
    rw [hlen k (by simpa using hk)] at hlt
    unfold rowGood wordK
    rw [hv, decide_eq_true (by omega), show ((v : Int) / 2 ^ n) = ((v / 2 ^ n : Nat) : Int) by rw [Int.natCast_ediv, Int.natCast_pow]; rfl, Nat.div_eq_of_lt hlt]
    rfl
theorem wordsV_length (l : List Bool) (w : Int) : (wordsV l w).1.length ≤ 32768 := by
  unfold wordsV
  split
  · rename_i h
    rw [List.length_map, List.length_range]
    exact Nat.le_trans (Nat.div_le_self _ _) h.2.2.1
  · simp
theorem power_l0 (n : Nat) (hn : n ≤ 40) : ∀ d j : Nat, j + d = n → Ev (fun k => foghornref01_power.l0 k (n : Int) ((2 ^ j : Nat) : Int) (j : Int)) ((2 ^ n : Nat) : Int)
  | 0, j, h => by
    refine Ev.step (f := fun _ => some ((2 ^ n : Nat) : Int)) (fun k => ?_) (Ev.now _)
    simp only [foghornref01_power.l0]
    rw [if_neg (by omega), show j = n by omega]
  | d + 1, j, h => by
    refine Ev.step (f := fun k => foghornref01_power.l0 k (n : Int) ((2 ^ (j + 1) : Nat) : Int) ((j + 1 : Nat) : Int)) (fun k => ?_) (power_l0 n hn d (j + 1) (by omega))
    simp only [foghornref01_power.l0]
    have h1 := Nat.pow_le_pow_right (n := 2) (by omega) (show j + 1 ≤ 40 by omega)
    have hp : 2 ^ (j + 1) = 2 * 2 ^ j := by rw [Nat.pow_succ, Nat.mul_comm]
    rw [hp] at h1 ⊢
    generalize 2 ^ j = P at h1 ⊢
    rw [if_pos (by omega), w64 (by omega) (by omega), w64 (by omega) (by omega), Int.natCast_mul]
    rfl
theorem power_ev (n : Nat) (hn : n ≤ 40) : Ev (fun k => foghornref01_power.f k (n : Int)) ((2 ^ n : Nat) : Int) := by
  have := power_l0 n hn n 0 (by omega)
  simpa [foghornref01_power.f] using this

theorem refwords_l1 (l : List Bool) (n m k : Nat) (hn1 : 1 ≤ n) (hn2 : n ≤ 16) (hl : l.length ≤ 32768) (hm : l.length = m * n) (hk : k < m) (acc : List Int) (hacc : acc.length = k) (r : List Int × Int)
    (hn : Ev (fun q => foghornref01_Words.l0 q l (n : Int) (acc ++ [wordK l n k]) (((k + 1) * n : Nat) : Int)) r) :
    ∀ (d j v : Nat), j + d = n → wordOf ((l.drop (k * n)).take j) = (v : Int) → Ev (fun q => foghornref01_Words.l1 q l (n : Int) acc ((k * n : Nat) : Int) ((v * 2 ^ (n - j) : Nat) : Int) (j : Int)) r
  | 0, j, v, h, hv => by
    have hkn : k * n + n ≤ l.length := by rw [hm, ← Nat.succ_mul]; exact Nat.mul_le_mul_right _ hk
    have hm1 : m ≤ l.length := by rw [hm]; exact Nat.le_mul_of_pos_right _ (by omega)
    obtain rfl : j = n := by omega
    refine Ev.step (fun q => by simp only [foghornref01_Words.l1]; rfl) ?_
    refine Ev.ifn (by omega) (Ev.ifp (by omega) ?_)
    have e : wordK l j k = (v : Int) := hv
    rw [e, Nat.succ_mul] at hn
    rw [Nat.sub_self, Nat.pow_zero, Nat.mul_one, show ((k * j : Nat) : Int) + (j : Int) = ((k * j + j : Nat) : Int) by omega, w64n (by omega)]
    exact hn
  | d + 1, j, v, h, hv => by
    have hkn : k * n + n ≤ l.length := by rw [hm, ← Nat.succ_mul]; exact Nat.mul_le_mul_right _ hk
    have hj : j < n := by omega
    have hlt : j < (l.drop (k * n)).length := by rw [List.length_drop]; omega
    obtain ⟨v', hv', hb⟩ := wordOf_bound j (l.drop (k * n))
    rw [hv] at hv'
    have hvb : v < 2 ^ j := by omega
    have hp2 : 2 ^ (n - j) = 2 * 2 ^ (n - 1 - j) := by rw [show n - j = (n - 1 - j) + 1 by omega, Nat.pow_succ]; omega
    have hpj : 2 ^ (n - 1 - j) ≤ 2 ^ 15 := Nat.pow_le_pow_right (by decide) (by omega)
    have hvj : 2 ^ j ≤ 2 ^ 15 := Nat.pow_le_pow_right (by decide) (by omega)
    have hmul : v * 2 ^ (n - j) ≤ 2 ^ 15 * 2 ^ 16 := Nat.mul_le_mul (by omega) (by omega)
    have htk := List.take_succ_eq_append_getElem hlt
    have hget : (l.drop (k * n))[j] = l.getD (k * n + j) false := by
      rw [List.getElem_drop, List.getD_eq_getElem?_getD, List.getElem?_eq_getElem (by omega)]
      rfl
    refine Ev.step (fun q => by simp only [foghornref01_Words.l1]; rfl) ?_
    rw [show ((k * n : Nat) : Int) + (j : Int) = ((k * n + j : Nat) : Int) by omega, w64n (by omega), rd_nat, show ((j : Int) + 1) = ((j + 1 : Nat) : Int) by omega, w64n (by omega)]
    refine Ev.ifp (by omega) (Ev.ifp (by omega) (Ev.ifp (by omega) ?_))
    by_cases hb : l.getD (k * n + j) false = true
    · refine Ev.ifp hb ?_
      rw [show ((n : Int) - 1) = ((n - 1 : Nat) : Int) by omega, w64n (by omega), show (((n - 1 : Nat) : Int) - (j : Int)) = ((n - 1 - j : Nat) : Int) by omega, w64n (by omega)]
      refine Ev.bind (power_ev (n - 1 - j) (by omega)) ?_
      have ih := refwords_l1 l n m k hn1 hn2 hl hm hk acc hacc r hn d (j + 1) (2 * v + 1) (by omega) (by rw [htk, wordOf_snoc, hv, hget, hb]; simp)
      rw [show n - (j + 1) = n - 1 - j by omega] at ih
      rw [show ((v * 2 ^ (n - j) : Nat) : Int) + ((2 ^ (n - 1 - j) : Nat) : Int) = (((2 * v + 1) * 2 ^ (n - 1 - j) : Nat) : Int) by rw [hp2, ← Int.natCast_add]; congr 1; rw [Nat.add_mul, Nat.one_mul, Nat.mul_comm 2 v, Nat.mul_assoc], w64n (by rw [Nat.add_mul, Nat.mul_comm 2 v, Nat.mul_assoc, ← hp2]; omega)]
      exact ih
    · refine Ev.ifn hb ?_
      have hbf : l.getD (k * n + j) false = false := by simpa using hb
      have ih := refwords_l1 l n m k hn1 hn2 hl hm hk acc hacc r hn d (j + 1) (2 * v) (by omega) (by rw [htk, wordOf_snoc, hv, hget, hbf]; simp)
      rw [show n - (j + 1) = n - 1 - j by omega, Nat.mul_comm 2 v, Nat.mul_assoc, ← hp2] at ih
      exact ih
theorem refwords_l0 (l : List Bool) (n m : Nat) (hn1 : 1 ≤ n) (hn2 : n ≤ 16) (hl : l.length ≤ 32768) (hm : l.length = m * n) : ∀ (d k : Nat), k + d = m → Ev (fun q => foghornref01_Words.l0 q l (n : Int) ((List.range k).map (wordK l n)) ((k * n : Nat) : Int)) ((List.range m).map (wordK l n), 0)
  | 0, k, h => by
    obtain rfl : k = m := by omega
    refine Ev.step (fun q => by simp only [foghornref01_Words.l0]; rfl) ?_
    exact Ev.ifn (by omega) (Ev.now _)
  | d + 1, k, h => by
    have hk : k < m := by omega
    have hkn : k * n + n ≤ l.length := by rw [hm, ← Nat.succ_mul]; exact Nat.mul_le_mul_right _ hk
    have ih := refwords_l0 l n m hn1 hn2 hl hm d (k + 1) (by omega)
    rw [List.range_succ, List.map_append] at ih
    refine Ev.step (fun q => by simp only [foghornref01_Words.l0]; rfl) ?_
    refine Ev.ifp (by omega) ?_
    have h1 := refwords_l1 l n m k hn1 hn2 hl hm hk ((List.range k).map (wordK l n)) (by simp) _ ih n 0 0 (by omega) (by simp [wordOf])
    simpa using h1
theorem refwords_ev (l : List Bool) (a : Int) : Ev (fun k => foghornref01_Words.f k l a) (wordsV l a) := by
  unfold foghornref01_Words.f wordsV
  by_cases h1 : a < 1
  · rw [if_neg (by omega)]
    refine Ev.ifp h1 ?_
    refine Ev.step (fun k => by simp only [foghornref01_Words.j0]; rfl) ?_
    exact Ev.ifp trivial (Ev.now _)
  refine Ev.ifn h1 ?_
  by_cases h2 : a > 16
  · rw [if_neg (by omega)]
    refine Ev.ifp h2 ?_
    refine Ev.step (fun k => by simp only [foghornref01_Words.j0]; rfl) ?_
    exact Ev.ifp trivial (Ev.now _)
  refine Ev.ifn h2 ?_
  by_cases h3 : (l.length : Int) > 32768
  · rw [if_neg (by omega)]
    refine Ev.ifp h3 ?_
    refine Ev.step (fun k => by simp only [foghornref01_Words.j0]; rfl) ?_
    exact Ev.ifp trivial (Ev.now _)
  refine Ev.ifn h3 (Ev.ifn (by omega) ?_)
  obtain ⟨n, rfl⟩ := Int.eq_ofNat_of_zero_le (show 0 ≤ a by omega)
  rw [Int.toNat_natCast]
  by_cases h4 : l.length % n = 0
  · rw [if_pos (by omega)]
    refine Ev.step (fun k => by simp only [foghornref01_Words.j0]; rfl) ?_
    refine Ev.ifn (by rw [← Int.natCast_emod, h4]; simp) ?_
    have hm : l.length = l.length / n * n := by have := Nat.div_add_mod l.length n; rw [h4, Nat.mul_comm] at this; omega
    have h := refwords_l0 l n (l.length / n) (by omega) (by omega) (by omega) hm (l.length / n) 0 (by omega)
    simpa using h
  · rw [if_neg (by omega)]
    refine Ev.step (fun k => by simp only [foghornref01_Words.j0]; rfl) ?_
    refine Ev.ifp (by rw [← Int.natCast_emod]; simp; omega) (Ev.now _)
theorem refrow_l1 (ws : List Int) (n i : Nat) (hn1 : 1 ≤ n) (hn2 : n ≤ 16) (hw : n * ws.length ≤ 32768) (hi : i < ws.length) (v : Nat) (hv : rd ws (i : Int) = (v : Int)) (hvb : v < 2 ^ n) (acc : List Bool) (hacc : acc.length = n * i) (r : List Bool × Int)
    (hn : Ev (fun q => foghornref01_Row.l0 q ws (n : Int) (acc ++ rowBits n (v : Int)) ((i + 1 : Nat) : Int)) r) :
    ∀ (d j : Nat) (xs : List Bool), j + d = n → xs = acc ++ (rowBits n (v : Int)).take j → Ev (fun q => foghornref01_Row.l1 q ws (n : Int) xs (i : Int) (j : Int)) r
  | 0, j, xs, h, hx => by
    have hil : i < 32769 := by have : 1 * ws.length ≤ n * ws.length := Nat.mul_le_mul_right _ hn1; omega
    obtain rfl : j = n := by omega
    refine Ev.step (fun q => by simp only [foghornref01_Row.l1]; rfl) ?_
    refine Ev.ifn (by omega) ?_
    rw [hx, List.take_of_length_le (by rw [rowBits_length]; exact Nat.le_refl _), show ((i : Int) + 1) = ((i + 1 : Nat) : Int) by omega, w64n (by omega)]
    exact hn
  | d + 1, j, xs, h, hx => by
    have hj : j < n := by omega
    have hle : n * i ≤ n * ws.length := Nat.mul_le_mul_left _ (by omega)
    have hxl : xs.length < 140737488355328 := by rw [hx, List.length_append, List.length_take, rowBits_length]; omega
    have hp : 2 ^ n ≤ 2 ^ 16 := Nat.pow_le_pow_right (by decide) hn2
    have ih := refrow_l1 ws n i hn1 hn2 hw hi v hv hvb acc hacc r hn d (j + 1) (xs ++ [rowBit (v : Int) n j]) (by omega) (by rw [rowBits_take _ _ _ hj, ← List.append_assoc, hx])
    refine Ev.step (fun q => by simp only [foghornref01_Row.l1]; rfl) ?_
    refine Ev.ifp (by omega) (Ev.ifp (by omega) (Ev.ifp (by omega) ?_))
    rw [show ((n : Int) - 1) = ((n - 1 : Nat) : Int) by omega, w64n (by omega), show (((n - 1 : Nat) : Int) - (j : Int)) = ((n - 1 - j : Nat) : Int) by omega, w64n (by omega)]
    refine Ev.bind (power_ev (n - 1 - j) (by omega)) ?_
    have hpos := Nat.two_pow_pos (n - 1 - j)
    have hq : v / 2 ^ (n - 1 - j) ≤ v := Nat.div_le_self _ _
    refine Ev.ifn (by omega) (Ev.ifp hxl ?_)
    rw [rowBit_gen v n j (by omega)] at ih
    rw [hv, tdiv_nat, w64n (by omega), show (2 : Int) = ((2 : Nat) : Int) from rfl, tmod_nat, show ((j : Int) + 1) = ((j + 1 : Nat) : Int) by omega, w64n (by omega)]
    have e : ((((v / 2 ^ (n - 1 - j) % 2 : Nat) : Int)) == 1) = (v / 2 ^ (n - 1 - j) % 2 == 1) := by
      rcases Nat.mod_two_eq_zero_or_one (v / 2 ^ (n - 1 - j)) with h1 | h1 <;> rw [h1] <;> rfl
    rw [e]
    exact ih
theorem rowGood_nat (n : Nat) (x : Int) (h : rowGood n x = true) : ∃ v : Nat, x = (v : Int) ∧ v < 2 ^ n := by
  unfold rowGood at h
  rw [Bool.and_eq_true, decide_eq_true_eq, decide_eq_true_eq] at h
  obtain ⟨v, rfl⟩ := Int.eq_ofNat_of_zero_le h.1
  refine ⟨v, rfl, ?_⟩
  have e : ((v : Int) / 2 ^ n) = ((v / 2 ^ n : Nat) : Int) := by rw [Int.natCast_ediv, Int.natCast_pow]; rfl
  rw [e] at h
  have h0 : v / 2 ^ n = 0 := by omega
  exact (Nat.div_eq_zero_iff_lt (Nat.two_pow_pos n)).1 h0
theorem rowGood_not (n : Nat) (x : Int) (h : rowGood n x = false) (h0 : 0 ≤ x) : ((2 ^ n : Nat) : Int) ≤ x := by
  obtain ⟨v, rfl⟩ := Int.eq_ofNat_of_zero_le h0
  unfold rowGood at h
  rw [decide_eq_true h0, Bool.true_and, decide_eq_false_iff_not] at h
  have e : ((v : Int) / 2 ^ n) = ((v / 2 ^ n : Nat) : Int) := by rw [Int.natCast_ediv, Int.natCast_pow]; rfl
  rw [e] at h
  by_cases hl : v < 2 ^ n
  · rw [Nat.div_eq_of_lt hl] at h
    exact absurd rfl h
  · omega
theorem refrow_l0 (ws : List Int) (n : Nat) (hn1 : 1 ≤ n) (hn2 : n ≤ 16) (hw : n * ws.length ≤ 32768) : ∀ (d i : Nat), i + d = ws.length → (ws.take i).all (rowGood n) = true →
    Ev (fun q => foghornref01_Row.l0 q ws (n : Int) ((ws.take i).flatMap (rowBits n)) (i : Int)) (if ws.all (rowGood n) = true then (ws.flatMap (rowBits n), 0) else ([], 1))
  | 0, i, h, hg => by
    rw [List.take_of_length_le (by omega)] at hg ⊢
    rw [if_pos hg]
    refine Ev.step (fun q => by simp only [foghornref01_Row.l0]; rfl) ?_
    exact Ev.ifn (by omega) (Ev.now _)
  | d + 1, i, h, hg => by
    have hi : i < ws.length := by omega
    have htk := List.take_succ_eq_append_getElem hi
    have hrd : rd ws (i : Int) = ws[i] := by rw [rdI_nat, List.getD_eq_getElem?_getD, List.getElem?_eq_getElem hi]; rfl
    have bad : rowGood n ws[i] = false → ¬ ws.all (rowGood n) = true := by
      intro hb hall
      have := List.all_eq_true.1 hall ws[i] (List.getElem_mem hi)
      rw [hb] at this
      cases this
    refine Ev.step (fun q => by simp only [foghornref01_Row.l0]; rfl) ?_
    refine Ev.ifp (by omega) (Ev.ifp (by omega) ?_)
    by_cases hneg : rd ws (i : Int) < 0
    · have hb : rowGood n ws[i] = false := by unfold rowGood; rw [← hrd, decide_eq_false (by omega)]; rfl
      rw [if_neg (bad hb)]
      refine Ev.ifp hneg ?_
      refine Ev.step (fun q => by simp only [foghornref01_Row.j2]; rfl) ?_
      exact Ev.ifp trivial (Ev.now _)
    · refine Ev.ifn hneg ?_
      refine Ev.bind (power_ev n (by omega)) ?_
      cases hgi : rowGood n ws[i] with
      | false =>
        have h2 := rowGood_not n ws[i] hgi (by omega)
        rw [if_neg (bad hgi)]
        refine Ev.step (fun q => by simp only [foghornref01_Row.j2]; rfl) ?_
        exact Ev.ifp (by rw [hrd]; simpa using h2) (Ev.now _)
      | true =>
        obtain ⟨v, hv, hvb⟩ := rowGood_nat n ws[i] hgi
        have ih := refrow_l0 ws n hn1 hn2 hw d (i + 1) (by omega) (by rw [htk, List.all_append, hg]; simp [hgi])
        rw [htk, List.flatMap_append] at ih
        refine Ev.step (fun q => by simp only [foghornref01_Row.j2]; rfl) ?_
        refine Ev.ifn (by rw [hrd, hv]; simp; exact_mod_cast hvb) ?_
        refine refrow_l1 ws n i hn1 hn2 hw hi v (by rw [hrd, hv]) hvb ((ws.take i).flatMap (rowBits n)) (by rw [flat_length, List.length_take, Nat.min_eq_left (by omega)]) _ ?_ n 0 _ (by omega) (by simp)
        rw [hv] at ih
        simpa using ih
theorem refrow_ev (ws : List Int) (a : Int) : Ev (fun k => foghornref01_Row.f k ws a) (rowV ws a) := by
  unfold foghornref01_Row.f rowV
  by_cases h1 : a < 1
  · rw [if_neg (by omega)]
    refine Ev.ifp h1 ?_
    refine Ev.step (fun k => by simp only [foghornref01_Row.j0]; rfl) ?_
    exact Ev.ifp trivial (Ev.now _)
  refine Ev.ifn h1 ?_
  by_cases h2 : a > 16
  · rw [if_neg (by omega)]
    refine Ev.ifp h2 ?_
    refine Ev.step (fun k => by simp only [foghornref01_Row.j0]; rfl) ?_
    exact Ev.ifp trivial (Ev.now _)
  refine Ev.ifn h2 ?_
  obtain ⟨n, rfl⟩ := Int.eq_ofNat_of_zero_le (show 0 ≤ a by omega)
  have hd : (32768 : Int) / (n : Int) = ((32768 / n : Nat) : Int) := by rw [Int.natCast_ediv]; rfl
  have hq : 32768 / n ≤ 32768 := Nat.div_le_self _ _
  rw [hd, Int.toNat_natCast]
  by_cases h3 : (ws.length : Int) > 32768
  · rw [if_neg (by omega)]
    refine Ev.ifp h3 ?_
    refine Ev.step (fun k => by simp only [foghornref01_Row.j0]; rfl) ?_
    exact Ev.ifp trivial (Ev.now _)
  refine Ev.ifn h3 ?_
  have hiff : ws.length ≤ 32768 / n ↔ ws.length * n ≤ 32768 := Nat.le_div_iff_mul_le (by omega)
  have hb : ws.length * n ≤ 32768 * 16 := Nat.mul_le_mul (by omega) (by omega)
  rw [← Int.natCast_mul, Nat.mul_comm n, w64n (by omega)]
  by_cases h4 : ws.length * n ≤ 32768
  · rw [if_pos (by omega)]
    refine Ev.step (fun k => by simp only [foghornref01_Row.j0]; rfl) ?_
    refine Ev.ifn (by rw [decide_eq_true_eq]; omega) ?_
    have h := refrow_l0 ws n (by omega) (by omega) (by rw [Nat.mul_comm]; exact h4) ws.length 0 (by omega) (by simp)
    simpa using h
  · rw [if_neg (by omega)]
    refine Ev.step (fun k => by simp only [foghornref01_Row.j0]; rfl) ?_
    refine Ev.ifp ?_ (Ev.now _)
    rw [decide_eq_true_eq]
    omega
section
variable (A : Option Addr) (c n : Nat) (l : List Bool) (a : Int) (w : World) (hn : l.length = n) (h1 : Kd.C Kd.bool w A n l) (hc : n ≤ c)
include hn h1 hc
theorem words_n : Calls Try.prog 44 #[.slice A n c, .int .i64 a] w fun e w' => ∃ v0_ : Value, e = .returned (.tuple #[v0_, .int .i64 (wordsV l a).2]) ∧ Kd.R (Kd.int .i64) 3 w' w.heap.size (fun _ => True) v0_ (wordsV l a).1 ∧ Below w.heap.size w w' := by
  subst hn; exact bits_Words.calls A c l a _ _ w h1 hc rfl
theorem refwords_n : Calls Try.prog 45 #[.slice A n c, .int .i64 a] w fun e w' => ∃ v0_ : Value, e = .returned (.tuple #[v0_, .int .i64 (wordsV l a).2]) ∧ Kd.R (Kd.int .i64) 3 w' w.heap.size (fun _ => True) v0_ (wordsV l a).1 ∧ Below w.heap.size w w' := by
  subst hn
  obtain ⟨k, hk⟩ := (refwords_ev l a).rounds
  exact foghornref01_Words.calls k A c l a _ _ w h1 hc hk
end
section
variable (A : Option Addr) (c n : Nat) (l : List Int) (a : Int) (w : World) (hn : l.length = n) (h1 : Kd.C (Kd.int .i64) w A n l) (hc : n ≤ c)
include hn h1 hc
theorem row_n : Calls Try.prog 46 #[.slice A n c, .int .i64 a] w fun e w' => ∃ v0_ : Value, e = .returned (.tuple #[v0_, .int .i64 (rowV l a).2]) ∧ Kd.R Kd.bool 4 w' w.heap.size (fun _ => True) v0_ (rowV l a).1 ∧ Below w.heap.size w w' := by
  subst hn; exact bits_Row.calls A c l a _ _ w h1 hc rfl
theorem refrow_n : Calls Try.prog 47 #[.slice A n c, .int .i64 a] w fun e w' => ∃ v0_ : Value, e = .returned (.tuple #[v0_, .int .i64 (rowV l a).2]) ∧ Kd.R Kd.bool 4 w' w.heap.size (fun _ => True) v0_ (rowV l a).1 ∧ Below w.heap.size w w' := by
  subst hn
  obtain ⟨k, hk⟩ := (refrow_ev l a).rounds
  exact foghornref01_Row.calls k A c l a _ _ w h1 hc hk
end
end Go.Proofs.Ytopmlhihfchdhaa.Pure
