-- FOREIGN foghorn/bits.Row making plain
import Derived.Test.YtopmlhihfchdhaaFogx0
namespace Go.Proofs.Ytopmlhihfchdhaa.Fog
open Go.RowKit Go.Proofs.YtopmlhihfchdhaaW.PrintWords Go.Proofs.YtopmlhihfchdhaaW.PrintLast Go.Proofs.YtopmlhihfchdhaaW.PrintMore
set_option linter.unusedVariables false
set_option linter.unusedSimpArgs false
def rowBit (x : Int) (n b : Nat) : Bool := Go.bits .and .i64 (x / 2 ^ (n - 1 - b)) 1 == 1
def rowBits (n : Nat) (x : Int) : List Bool := (List.range n).map (rowBit x n)
def rowGood (n : Nat) (x : Int) : Bool := decide (0 ≤ x) && decide (x / 2 ^ n = 0)
def rowV (l : List Int) (w : Int) : List Bool × Int :=
  if 1 ≤ w ∧ w ≤ 16 ∧ (l.length : Int) ≤ 32768 / w then (if l.all (rowGood w.toNat) = true then (l.flatMap (rowBits w.toNat), 0) else ([], 1)) else ([], 1)
def bits_Row.f (l0 : List Int) (a1 : Int) : Option (List Bool × Int) := some (rowV l0 a1)
theorem rowBits_length (n : Nat) (x : Int) : (rowBits n x).length = n := by simp [rowBits]
theorem rowBits_take (n : Nat) (x : Int) (b : Nat) (h : b < n) : (rowBits n x).take (b + 1) = (rowBits n x).take b ++ [rowBit x n b] := by
  rw [List.take_succ_eq_append_getElem (by simpa [rowBits] using h)]
  simp [rowBits]
theorem flat_length (n : Nat) : ∀ l : List Int, (l.flatMap (rowBits n)).length = n * l.length
  | [] => rfl
  | x :: l => by rw [List.flatMap_cons, List.length_append, rowBits_length, flat_length n l, List.length_cons, Nat.mul_succ]; omega
set_option maxHeartbeats 4000000 in
set_option maxRecDepth 100000 in
theorem row_walk (A0 : Option Addr) (c0 : Nat) (l0 : List Int) (a1 : Int) (w : World) (hr0 : Kd.C (Kd.int .i64) w A0 l0.length l0) (hc0 : l0.length ≤ c0) :
    Calls Try.prog 46 #[.slice A0 l0.length c0, .int .i64 a1] w fun e w' => ∃ v0_ : Value, e = .returned (.tuple #[v0_, .int .i64 (rowV l0 a1).2]) ∧ Kd.R Kd.bool 4 w' w.heap.size (fun _ => True) v0_ (rowV l0 a1).1 ∧ Below w.heap.size w w' := by
  have hmax := Kd.C_max hr0
  by_cases h1 : a1 < 1
  · have hb1 : a1 < 1 := h1
    have e : rowV l0 a1 = ([], 1) := by unfold rowV; rw [if_neg (by omega)]
    rw [e]
    go_enter Try.func46, Try.ntmps46
    go_wp2
    go_ret2
    exact ⟨_, rfl, Kd.R_nil _ _ _ _ _, Below.refl _ _⟩
  by_cases h2 : 16 < a1
  · have hb1 : 16 < a1 := h2
    have hb0 : ¬ a1 < 1 := h1
    have e : rowV l0 a1 = ([], 1) := by unfold rowV; rw [if_neg (by omega)]
    rw [e]
    go_enter Try.func46, Try.ntmps46
    go_wp2
    go_ret2
    exact ⟨_, rfl, Kd.R_nil _ _ _ _ _, Below.refl _ _⟩
  obtain ⟨n, rfl⟩ := Int.eq_ofNat_of_zero_le (show 0 ≤ a1 by omega)
  obtain ⟨q, hq⟩ : ∃ q : Nat, (32768 : Int) / (n : Int) = (q : Int) := ⟨32768 / n, by simp⟩
  have hw1 : IntKind.i64.wrap ((32768 : Int).tdiv (n : Int)) = (q : Int) := by
    rw [Int.tdiv_eq_ediv_of_nonneg (by omega), hq, IntKind.wrap_i64]
    have : q ≤ 32768 := by
      have h := Int.ediv_le_self (a := 32768) (n : Int) (by omega)
      omega
    omega
  have hn1 : (1 : Int) ≤ (n : Int) := by omega
  have hn2 : (n : Int) ≤ 16 := by omega
  by_cases h3 : q < l0.length
  · have hb1 : (q : Int) < (l0.length : Int) := by omega
    have e : rowV l0 (n : Int) = ([], 1) := by unfold rowV; rw [if_neg (by rw [hq]; omega)]
    rw [e]
    go_enter Try.func46, Try.ntmps46
    go_wp2
    go_ret2
    exact ⟨_, rfl, Kd.R_nil _ _ _ _ _, Below.refl _ _⟩
  have hlen : (l0.length : Int) ≤ (q : Int) := by omega
  have hq2 : q * n ≤ 32768 := by
    have h := Int.ediv_mul_le (32768 : Int) (show (n : Int) ≠ 0 by omega)
    rw [hq] at h
    have e : (q : Int) * (n : Int) = ((q * n : Nat) : Int) := by rw [Int.natCast_mul]
    omega
  obtain ⟨N, hN⟩ : ∃ N : Nat, n * l0.length = N := ⟨_, rfl⟩
  have hNb : N ≤ 32768 := by
    rw [← hN, Nat.mul_comm]
    exact Nat.le_trans (Nat.mul_le_mul_right _ (by omega)) hq2
  have hN0 : (n : Int) * (l0.length : Int) = (N : Int) := by rw [← hN, Int.natCast_mul]
  have hw2 : wrap64 ((n : Int) * (l0.length : Int)) = (N : Int) := by rw [hN0]; unfold wrap64; omega
  have hw3 : IntKind.i64.wrap ((n : Int) * (l0.length : Int)) = (N : Int) := by rw [hN0, IntKind.wrap_i64]; omega
  have e1 : rowV l0 (n : Int) = if l0.all (rowGood n) = true then (l0.flatMap (rowBits n), 0) else ([], 1) := by
    unfold rowV
    rw [if_pos (by rw [hq]; omega), Int.toNat_natCast]
  obtain ⟨i0, hi0, hz0, hs0, hb0⟩ := info_parts info4
  obtain ⟨w0, hrun, hown, hgr⟩ := run_make_own (P := Try.prog) w w.heap.size 41 4 i0 (.bool false) 1 Try.underlying41 hi0 hz0 hs0 .i64 .i64 N (by rw [hb0]; omega) (by unfold maxLen; omega) (Nat.le_refl _)
  have hmk : (Instr.makeSlice 41 (.int .i64 0) (.int .i64 (N : Int))).run Try.prog w = .ok (.slice (some ⟨w.heap.size, 0, none⟩) 0 N) w0 := hrun
  have HRO := Aside0.mk (show Kd.R Kd.bool 4 w0 w.heap.size (fun _ => True) (.slice (some ⟨w.heap.size, 0, none⟩) 0 N) [] from ⟨fun _ _ => trivial, [], hown, Reps.none _ _⟩)
  have HB0 := Aside0.mk (pw_below_grown (Below.refl w.heap.size w) none (Nat.le_refl _) hgr (fun k hk => by cases hk))
  have HR := Aside0.mk hr0
  have E1 := Aside0.mk e1
  have HN := Aside0.mk hN
  have hqc : ((q : Int) < (l0.length : Int)) = False := eq_false (by omega)
  clear hrun hown hgr hi0 hz0 hb0 hs0 hr0 e1 hN hN0 hq hq2
  go_enter Try.func46, Try.ntmps46
  go_wp2
  clear hmk hw1 hw2 hw3
  go_loopw [6, 30] (fun v i wr => ∃ k : Nat, k ≤ l0.length ∧ i = .int .i64 (k : Int) ∧ Aside0 ((l0.take k).all (rowGood n) = true) ∧ Aside0 (Kd.R Kd.bool 4 wr w.heap.size (fun _ => True) v ((l0.take k).flatMap (rowBits n))) ∧ Aside0 (Below w.heap.size w wr)) (fun _ i _ => l0.length - (intOf i).toNat)
  case atStart => exact ⟨0, Nat.zero_le _, rfl, ⟨by simp⟩, ⟨by simpa using HRO.out⟩, HB0⟩
  case round =>
    obtain ⟨k, hk, rfl, HG, HR2, HB⟩ := hrel
    by_cases hlt : k < l0.length
    · obtain ⟨ad, rfl, hc⟩ := Kd.at_int (Kd.C_below HR.out HB.out) (k : Int) (by omega) (by omega)
      obtain ⟨x, hx⟩ : ∃ x, rd l0 (k : Int) = x := ⟨_, rfl⟩
      rw [hx] at hc
      simp only [Int.toNat_natCast] at hc
      have htk : l0.take (k + 1) = l0.take k ++ [x] := by
        rw [List.take_succ_eq_append_getElem hlt, ← hx]
        simp [rd, List.getD_eq_getElem?_getD, hlt]
      have bad : rowGood n x = false → rowV l0 (n : Int) = ([], 1) := by
        intro hb
        rw [E1.out, if_neg]
        intro hall
        have hm : x ∈ l0 := by
          rw [← hx]
          simp [rd, List.getD_eq_getElem?_getD, hlt]
        have := List.all_eq_true.1 hall x hm
        rw [hb] at this
        cases this
      have HX := Aside0.mk hx
      have HTK := Aside0.mk htk
      have BAD := Aside0.mk bad
      clear hx htk bad
      by_cases hx0 : x < 0
      · go_wp2
        go_ret2
        rw [BAD.out (by unfold rowGood; rw [decide_eq_false (by omega)]; rfl)]
        exact ⟨_, rfl, Kd.R_nil _ _ _ _ _, HB.out⟩
      · have hx0' : 0 ≤ x := by omega
        by_cases hx1 : x / 2 ^ n = 0
        · have hg : rowGood n x = true := by unfold rowGood; rw [decide_eq_true hx0', decide_eq_true hx1]; rfl
          have HGD := Aside0.mk hg
          have hb2 : (x / 2 ^ n != 0) = false := by simpa using hx1
          have HX1 := Aside0.mk hx1
          clear hg hx1
          go_wp2
          obtain ⟨wo, rfl⟩ : ∃ wo : World, wo = wr := ⟨_, rfl⟩
          obtain ⟨vo, rfl⟩ : ∃ vo : Value, vo = u6 := ⟨_, rfl⟩
          go_loopw [6, 43] (fun v2 i2 wr2 => ∃ b : Nat, b ≤ n ∧ i2 = .int .i64 (b : Int) ∧ Aside0 (Kd.R Kd.bool 4 wr2 w.heap.size (fun _ => True) v2 ((l0.take k).flatMap (rowBits n) ++ (rowBits n x).take b)) ∧ Aside0 (Below w.heap.size w wr2)) (fun _ i2 _ => n - (intOf i2).toNat)
          case atStart => exact ⟨0, by omega, rfl, ⟨by simpa using HR2.out⟩, HB⟩
          case round =>
            obtain ⟨b, hb8, rfl, HR3, HB3⟩ := hrel
            by_cases hb : b < n
            · have hlen2 : ((l0.take k).flatMap (rowBits n) ++ (rowBits n x).take b).length ≤ 40000 := by
                rw [List.length_append, flat_length, List.length_take, List.length_take, rowBits_length]
                have h1 : n * min k l0.length ≤ n * l0.length := Nat.mul_le_mul_left _ (by omega)
                rw [HN.out] at h1
                omega
              have HL := Aside0.mk hlen2
              clear hlen2
              go_wp2_with ((with_reducible refine gate_builtin (b := .append) (xs := #[.tmp 46, .tmp 55]) rfl ?_); (at_builtin; refine Kd.R_append Kd.bool (w0 := w) w.heap.size rfl (.tmp 46) (.tmp 55) 41 4 (.bool false) 1 rfl Try.underlying41 info4 rfl (by decide) (by omega) u6 ((l0.take k).flatMap (rowBits n) ++ (rowBits n x).take b) (Go.bits .and .i64 (x / 2 ^ (n - 1 - b)) 1 == 1) [.bool (Go.bits .and .i64 (x / 2 ^ (n - 1 - b)) 1 == 1)] (fun _ => True) (fun _ => False) rfl rfl ?aP (fun _ hk => hk.elim) ?aF ?aO ?aB ?aS ?aL ?_; (case aP => exact rfl); (case aB => exact HB3.out); (case aF => exact (fun _ _ => trivial)); (case aO => exact HR3.out); (case aS => exact HB3.out.size); (case aL => have := HL.out; omega); intro v3 w3 ho hb_ hg hat; have HO4 := Aside0.mk ho; have HB4 := Aside0.mk hb_; clear ho hb_ hg hat))
              go_roundw
              case rel =>
                refine ⟨b + 1, by omega, by go_num, ⟨?_⟩, HB4⟩
                rw [rowBits_take _ _ _ hb, ← List.append_assoc]
                exact HO4.out
              case measure => simp [intOf]; omega
            · obtain rfl : b = n := by omega
              go_wp2
              go_roundw
              case rel =>
                refine ⟨k + 1, by omega, by go_num, ⟨?_⟩, ⟨?_⟩, HB3⟩
                · rw [HTK.out, List.all_append, HG.out]
                  simp [HGD.out]
                · rw [HTK.out, List.flatMap_append]
                  have h := HR3.out
                  rw [List.take_of_length_le (l := rowBits b x) (i := b) (by rw [rowBits_length]; exact Nat.le_refl _)] at h
                  simpa using h
              case measure => simp [intOf]; omega
        · have hb2 : (x / 2 ^ n != 0) = true := by simpa using hx1
          have HX1 := Aside0.mk hx1
          clear hx1
          go_wp2
          go_ret2
          rw [BAD.out (by unfold rowGood; rw [decide_eq_true hx0', decide_eq_false HX1.out]; rfl)]
          exact ⟨_, rfl, Kd.R_nil _ _ _ _ _, HB.out⟩
    · obtain rfl : k = l0.length := by omega
      go_wp2
      go_ret2
      have hg := HG.out
      have hr := HR2.out
      rw [List.take_length] at hg hr
      rw [E1.out, if_pos hg]
      exact ⟨_, rfl, hr, HB.out⟩
theorem bits_Row.calls (A0 : Option Addr) (c0 : Nat) (l0 : List Int) (a1 : Int) (r1 : List Bool) (r2 : Int) (w : World) (hr0 : Kd.C (Kd.int .i64) w A0 l0.length l0) (hc0 : l0.length ≤ c0) (h : bits_Row.f l0 a1 = some (r1, r2)) :
    Calls Try.prog 46 #[.slice A0 l0.length c0, .int .i64 a1] w fun e w' => ∃ v0_ : Value, e = .returned (.tuple #[v0_, .int .i64 r2]) ∧ Kd.R Kd.bool 4 w' w.heap.size (fun _ => True) v0_ r1 ∧ Below w.heap.size w w' := by
  have e : rowV l0 a1 = (r1, r2) := Option.some.inj h
  have := row_walk A0 c0 l0 a1 w hr0 hc0
  rw [e] at this
  exact this
end Go.Proofs.Ytopmlhihfchdhaa.Fog
