/- BitsGray: for every int, bits.Gray and bits.Ungray answer as the document's reference does. No condition. -/
import Derived.Test.YtabjfehhibeeiaaFogx0
import Derived.Test.YtabjfehhibeeiaaFogx1
import Derived.Test.YtabjfehhibeeiaaFogx3
import Derived.Test.YtabjfehhibeeiaaFogx8
import Derived.Test.YtabjfehhibeeiaaKit
namespace Go.Proofs.Ytabjfehhibeeiaa.Pure
open Go.RowKit Go.Proofs.Ytabjfehhibeeiaa.Fog Go.Proofs.YtabjfehhibeeiaaW.PrintWords Go.Proofs.YtabjfehhibeeiaaW.PrintLast Go.Proofs.Ytabjfehhibeeiaa.Kit

theorem power_l0 (n : Nat) (hn : n ≤ 40) : ∀ d j : Nat, j + d = n → Ev (fun k => foghornref01_power.l0 k (n : Int) ((2 ^ j : Nat) : Int) (j : Int)) ((2 ^ n : Nat) : Int)
  | 0, j, h => by
    refine Ev.step (f := fun _ => some ((2 ^ n : Nat) : Int)) (fun k => ?_) (Ev.now _)
    simp only [foghornref01_power.l0]
    rw [if_neg (by omega), show j = n by omega]
  | d + 1, j, h => by
    refine Ev.step (f := fun k => foghornref01_power.l0 k (n : Int) ((2 ^ (j + 1) : Nat) : Int) ((j + 1 : Nat) : Int)) (fun k => ?_) (power_l0 n hn d (j + 1) (by omega))
    simp only [foghornref01_power.l0]
    have h1 := Nat.pow_le_pow_right (n := 2) (by omega) (show j + 1 ≤ 40 by omega)
    have hp : 2 ^ (j + 1) = 2 * 2 ^ j := by rw [Nat.pow_succ, Nat.mul_comm]
    rw [hp] at h1 ⊢
    generalize 2 ^ j = P at h1 ⊢
    rw [if_pos (by omega), w64 (by omega) (by omega), w64 (by omega) (by omega), Int.natCast_mul]
    rfl
theorem power_ev (n : Nat) (hn : n ≤ 40) : Ev (fun k => foghornref01_power.f k (n : Int)) ((2 ^ n : Nat) : Int) := by
  have := power_l0 n hn n 0 (by omega)
  simpa [foghornref01_power.f] using this

theorem gray_l0 (n : Nat) (hn : n < 65536) : ∀ d i : Nat, i + d = 16 → Ev (fun k => foghornref01_gray.l0 k (n : Int) (((n ^^^ n / 2) % 2 ^ i : Nat) : Int) (i : Int)) (((n ^^^ n / 2) % 2 ^ 16 : Nat) : Int)
  | 0, i, h => by
    refine Ev.step (f := fun _ => some (((n ^^^ n / 2) % 2 ^ 16 : Nat) : Int)) (fun k => ?_) (Ev.now _)
    simp only [foghornref01_gray.l0]
    rw [if_neg (by omega), show i = 16 by omega]
  | d + 1, i, h => by
    have ih := gray_l0 n hn d (i + 1) (by omega)
    have hp := Nat.pow_le_pow_right (n := 2) (by omega) (show i + 1 ≤ 16 by omega)
    have hpos := Nat.two_pow_pos i
    have hpos1 := Nat.two_pow_pos (i + 1)
    have hm : (n ^^^ n / 2) % 2 ^ i < 2 ^ i := Nat.mod_lt _ hpos
    have hq1 : n / 2 ^ i ≤ n := Nat.div_le_self _ _
    have hq2 : n / 2 ^ (i + 1) ≤ n := Nat.div_le_self _ _
    have hbit : (n ^^^ n / 2) / 2 ^ i % 2 = (n / 2 ^ i % 2 + n / 2 ^ (i + 1) % 2) % 2 := by
      rw [bit_xor, Nat.div_div_eq_div_mul, show 2 * 2 ^ i = 2 ^ (i + 1) by rw [Nat.pow_succ]; omega]
    have hsucc := mod_pow_succ2 (n ^^^ n / 2) i
    rw [hbit] at hsucc
    refine Ev.step (fun k => by simp only [foghornref01_gray.l0]; rfl) ?_
    refine Ev.ifp (by omega) ?_
    refine Ev.bind (power_ev i (by omega)) ?_
    refine Ev.ifn (by omega) ?_
    rw [show ((i : Int) + 1) = ((i + 1 : Nat) : Int) by omega, w64n (by omega)]
    refine Ev.bind (power_ev (i + 1) (by omega)) ?_
    refine Ev.ifn (by omega) ?_
    rw [show ((2 : Int)) = ((2 : Nat) : Int) from rfl]
    simp only [tdiv_nat]
    have big : n ≤ 9223372036854775807 := by omega
    rw [w64n (Nat.le_trans hq1 big), w64n (Nat.le_trans hq2 big)]
    simp only [tmod_nat]
    generalize hA : n / 2 ^ i % 2 = A at hsucc ⊢
    generalize hB : n / 2 ^ (i + 1) % 2 = B at hsucc ⊢
    have hA2 : A < 2 := by rw [← hA]; exact Nat.mod_lt _ (by omega)
    have hB2 : B < 2 := by rw [← hB]; exact Nat.mod_lt _ (by omega)
    clear hA hB hbit hq1 hq2
    generalize n ^^^ n / 2 = G at hsucc hm ih ⊢
    by_cases e : A = B
    · refine Ev.ifp (by omega) ?_
      rw [show (A + B) % 2 = 0 by omega, Nat.mul_zero, Nat.add_zero] at hsucc
      rw [hsucc] at ih
      exact ih
    · refine Ev.ifn (by omega) ?_
      refine Ev.bind (power_ev i (by omega)) ?_
      rw [show (A + B) % 2 = 1 by omega, Nat.mul_one] at hsucc
      rw [hsucc] at ih
      rw [show ((G % 2 ^ i : Nat) : Int) + ((2 ^ i : Nat) : Int) = ((G % 2 ^ i + 2 ^ i : Nat) : Int) by omega, w64n (by rw [Nat.pow_succ] at hp; omega)]
      exact ih
theorem gray_lt (n : Nat) (hn : n < 65536) : n ^^^ n / 2 < 2 ^ 16 := Nat.xor_lt_two_pow (by omega) (by omega)
theorem gray_ev (n : Nat) (hn : n < 65536) : Ev (fun k => foghornref01_gray.f k (n : Int)) ((n ^^^ n / 2 : Nat) : Int) := by
  have := gray_l0 n hn 16 0 (by omega)
  rw [Nat.mod_eq_of_lt (gray_lt n hn)] at this
  simpa [foghornref01_gray.f, Nat.mod_one] using this

/-- What Ungray makes of a number. -/
def ung (n : Nat) : Nat :=
  let a := n ^^^ n >>> 1
  let b := a ^^^ a >>> 2
  let c := b ^^^ b >>> 4
  c ^^^ c >>> 8
theorem ung_gray (n : Nat) (hn : n < 65536) : ung n ^^^ ung n >>> 1 = n := by
  have h16 : n >>> 16 = 0 := by rw [Nat.shiftRight_eq_div_pow]; omega
  simp only [ung, Nat.shiftRight_xor_distrib, ← Nat.shiftRight_add]
  simp only [Nat.reduceAdd, h16]
  generalize n >>> 1 = x1; generalize n >>> 2 = x2; generalize n >>> 3 = x3; generalize n >>> 4 = x4
  generalize n >>> 5 = x5; generalize n >>> 6 = x6; generalize n >>> 7 = x7; generalize n >>> 8 = x8
  generalize n >>> 9 = x9; generalize n >>> 10 = x10; generalize n >>> 11 = x11; generalize n >>> 12 = x12
  generalize n >>> 13 = x13; generalize n >>> 14 = x14; generalize n >>> 15 = x15
  apply Nat.eq_of_testBit_eq
  intro i
  simp only [Nat.testBit_xor, Nat.zero_testBit]
  generalize n.testBit i = b0; generalize x1.testBit i = b1; generalize x2.testBit i = b2; generalize x3.testBit i = b3
  generalize x4.testBit i = b4; generalize x5.testBit i = b5; generalize x6.testBit i = b6; generalize x7.testBit i = b7
  generalize x8.testBit i = b8; generalize x9.testBit i = b9; generalize x10.testBit i = b10; generalize x11.testBit i = b11
  generalize x12.testBit i = b12; generalize x13.testBit i = b13; generalize x14.testBit i = b14; generalize x15.testBit i = b15
  cases b1 <;> cases b2 <;> cases b3 <;> simp <;> cases b4 <;> cases b5 <;> cases b6 <;> cases b7 <;> simp <;> cases b8 <;> cases b9 <;> cases b10 <;> cases b11 <;> simp
theorem ung_lt (n : Nat) (hn : n < 65536) : ung n < 65536 := by
  have hs : ∀ x k : Nat, x < 2 ^ 16 → x ^^^ x >>> k < 2 ^ 16 := fun x k hx => Nat.xor_lt_two_pow hx (Nat.lt_of_le_of_lt (Nat.shiftRight_le _ _) hx)
  exact hs _ 8 (hs _ 4 (hs _ 2 (hs _ 1 hn)))

theorem bit_of_ung {n u : Nat} (hu : u ^^^ u >>> 1 = n) (j : Nat) : u / 2 ^ j % 2 = (u / 2 ^ (j + 1) % 2 + n / 2 ^ j % 2) % 2 := by
  have h := bit_xor u (u >>> 1) j
  rw [hu, Nat.shiftRight_eq_div_pow, Nat.div_div_eq_div_mul, show 2 ^ 1 * 2 ^ j = 2 ^ (j + 1) by rw [← Nat.pow_add, Nat.add_comm]] at h
  omega
theorem ungref_l0 (n u : Nat) (hu : u ^^^ u >>> 1 = n) (hlt : u < 65536) (hn : n < 65536) : ∀ j : Nat, j ≤ 16 →
    Ev (fun k => foghornref01_Ungray.l0 k (n : Int) ((u / 2 ^ j * 2 ^ j : Nat) : Int) ((u / 2 ^ j % 2 : Nat) : Int) ((j : Int) - 1)) ((u : Int), 0)
  | 0, _ => by
    refine Ev.step (f := fun _ => some ((u : Int), 0)) (fun k => ?_) (Ev.now _)
    simp only [foghornref01_Ungray.l0]
    rw [if_neg (by omega)]
    simp
  | j + 1, hj => by
    have ih := ungref_l0 n u hu hlt hn j (by omega)
    have hb := bit_of_ung hu j
    have hpos := Nat.two_pow_pos j
    have hq : n / 2 ^ j ≤ n := Nat.div_le_self _ _
    have hle : u / 2 ^ j * 2 ^ j ≤ u := Nat.div_mul_le_self _ _
    have hle1 : u / 2 ^ (j + 1) * 2 ^ (j + 1) ≤ u := Nat.div_mul_le_self _ _
    have hp : 2 ^ (j + 1) = 2 ^ j * 2 := Nat.pow_succ ..
    have hdd : u / 2 ^ (j + 1) = u / 2 ^ j / 2 := by rw [hp, Nat.div_div_eq_div_mul]
    have hsum : u / 2 ^ (j + 1) * 2 ^ (j + 1) + u / 2 ^ j % 2 * 2 ^ j = u / 2 ^ j * 2 ^ j := by
      rw [hdd, hp, Nat.mul_comm (2 ^ j) 2, ← Nat.mul_assoc, ← Nat.add_mul]
      congr 1
      omega
    have hsmall : 2 ^ j ≤ 65536 := Nat.pow_le_pow_right (n := 2) (by omega) (show j ≤ 16 by omega)
    refine Ev.step (fun k => by simp only [foghornref01_Ungray.l0]; rfl) ?_
    refine Ev.ifp (by omega) ?_
    rw [show (((j + 1 : Nat) : Int) - 1) = (j : Int) by omega]
    refine Ev.bind (power_ev j (by omega)) ?_
    refine Ev.ifn (by omega) ?_
    refine Ev.bind (power_ev j (by omega)) ?_
    simp only [tdiv_nat]
    rw [w64n (Nat.le_trans hq (by omega)), show (2 : Int) = ((2 : Nat) : Int) from rfl]
    have e1 : ((u / 2 ^ (j + 1) % 2 : Nat) : Int) + ((n / 2 ^ j : Nat) : Int) = ((u / 2 ^ (j + 1) % 2 + n / 2 ^ j : Nat) : Int) := by omega
    rw [e1, w64n (by omega), tmod_nat]
    have e2 : (u / 2 ^ (j + 1) % 2 + n / 2 ^ j) % 2 = u / 2 ^ j % 2 := by omega
    rw [e2]
    have e3 : ((u / 2 ^ j % 2 : Nat) : Int) * ((2 ^ j : Nat) : Int) = ((u / 2 ^ j % 2 * 2 ^ j : Nat) : Int) := by rw [Int.natCast_mul]
    have e4 : u / 2 ^ j % 2 * 2 ^ j ≤ 65536 := by
      have : u / 2 ^ j % 2 ≤ 1 := by omega
      exact Nat.le_trans (Nat.mul_le_mul_right _ this) (by omega)
    rw [e3, w64n (by omega)]
    have e5 : ((u / 2 ^ (j + 1) * 2 ^ (j + 1) : Nat) : Int) + ((u / 2 ^ j % 2 * 2 ^ j : Nat) : Int) = ((u / 2 ^ j * 2 ^ j : Nat) : Int) := by rw [← hsum]; omega
    rw [e5, w64n (by omega), w64 (by omega) (by omega)]
    exact ih
theorem shr_nat (x s : Nat) (hs : s ≤ 64) : shr .i64 (x : Int) (s : Int) = ((x >>> s : Nat) : Int) := by
  unfold shr
  rw [Nat.shiftRight_eq_div_pow, Int.toNat_natCast, show IntKind.i64.bits = 64 from rfl, Nat.min_eq_left hs]
  simp
theorem xs (x s : Nat) (hx : x < 65536) (hs : s ≤ 64) : Go.bits .xor .i64 (x : Int) (shr .i64 (x : Int) (s : Int)) = ((x ^^^ x >>> s : Nat) : Int) ∧ x ^^^ x >>> s < 65536 := by
  have h : x >>> s ≤ x := Nat.shiftRight_le _ _
  refine ⟨?_, Nat.xor_lt_two_pow (n := 16) hx (by omega)⟩
  rw [shr_nat x s hs, xor_i64 _ _ (by omega) (by omega)]
theorem ungray_ev (n : Nat) (hn : n < 65536) : Ev (fun k => bits_Ungray.f k (n : Int)) ((ung n : Int), 0) := by
  simp only [bits_Ungray.f]
  refine Ev.ifn (by omega) ?_
  refine Ev.step (fun k => by simp only [bits_Ungray.j0]; rfl) ?_
  refine Ev.ifn (by simp; omega) ?_
  obtain ⟨e1, l1⟩ := xs n 1 hn (by omega)
  obtain ⟨e2, l2⟩ := xs _ 2 l1 (by omega)
  obtain ⟨e3, l3⟩ := xs _ 4 l2 (by omega)
  obtain ⟨e4, l4⟩ := xs _ 8 l3 (by omega)
  refine Ev.step (fun k => by simp only [bits_Ungray.l0]; rfl) ?_
  refine Ev.ifp (by omega) (Ev.ifp (by omega) ?_)
  rw [show (Go.bits .xor .i64 (n : Int) (shr .i64 (n : Int) 1)) = _ from e1, show wrap64 (1 * 2) = 2 from by unfold wrap64; omega]
  refine Ev.step (fun k => by simp only [bits_Ungray.l0]; rfl) ?_
  refine Ev.ifp (by omega) (Ev.ifp (by omega) ?_)
  rw [show (Go.bits .xor .i64 _ (shr .i64 _ 2)) = _ from e2, show wrap64 (2 * 2) = 4 from by unfold wrap64; omega]
  refine Ev.step (fun k => by simp only [bits_Ungray.l0]; rfl) ?_
  refine Ev.ifp (by omega) (Ev.ifp (by omega) ?_)
  rw [show (Go.bits .xor .i64 _ (shr .i64 _ 4)) = _ from e3, show wrap64 (4 * 2) = 8 from by unfold wrap64; omega]
  refine Ev.step (fun k => by simp only [bits_Ungray.l0]; rfl) ?_
  refine Ev.ifp (by omega) (Ev.ifp (by omega) ?_)
  rw [show (Go.bits .xor .i64 _ (shr .i64 _ 8)) = _ from e4, show wrap64 (8 * 2) = 16 from by unfold wrap64; omega]
  refine Ev.step (fun k => by simp only [bits_Ungray.l0]; rfl) ?_
  exact Ev.ifn (by omega) (Ev.now _)
theorem ungref_ev (n : Nat) (hn : n < 65536) : Ev (fun k => foghornref01_Ungray.f k (n : Int)) ((ung n : Int), 0) := by
  simp only [foghornref01_Ungray.f]
  refine Ev.ifn (by omega) ?_
  refine Ev.step (fun k => by simp only [foghornref01_Ungray.j0]; rfl) ?_
  refine Ev.ifn (by simp; omega) ?_
  have hlt := ung_lt n hn
  have h := ungref_l0 n (ung n) (ung_gray n hn) hlt hn 16 (by omega)
  rw [show ung n / 2 ^ 16 = 0 by omega] at h
  exact h
theorem BitsGray : foghornlaw01_BitsGray.Pure := by
  intro a ha
  refine Ev.rounds ?_
  simp only [foghornlaw01_BitsGray.f, bits_Gray.f, foghornref01_Gray.f]
  by_cases h0 : a < 0
  · have e1 : Ev (fun k => bits_Ungray.f k a) (0, 1) := by
      simp only [bits_Ungray.f]
      refine Ev.ifp h0 (Ev.step (fun k => by simp only [bits_Ungray.j0]; rfl) ?_)
      exact Ev.ifp trivial (Ev.now _)
    have e2 : Ev (fun k => foghornref01_Ungray.f k a) (0, 1) := by
      simp only [foghornref01_Ungray.f]
      refine Ev.ifp h0 (Ev.step (fun k => by simp only [foghornref01_Ungray.j0]; rfl) ?_)
      exact Ev.ifp trivial (Ev.now _)
    simp only [if_pos h0, Option.bind_some]
    exact Ev.bind e1 (Ev.bind e2 (by simpa using Ev.now true))
  · by_cases h1 : a ≥ 65536
    · have e1 : Ev (fun k => bits_Ungray.f k a) (0, 1) := by
        simp only [bits_Ungray.f]
        refine Ev.ifn h0 (Ev.step (fun k => by simp only [bits_Ungray.j0]; rfl) (Ev.ifp (by simpa using h1) (Ev.now _)))
      have e2 : Ev (fun k => foghornref01_Ungray.f k a) (0, 1) := by
        simp only [foghornref01_Ungray.f]
        refine Ev.ifn h0 (Ev.step (fun k => by simp only [foghornref01_Ungray.j0]; rfl) (Ev.ifp (by simp; omega) (Ev.now _)))
      simp only [if_neg h0, if_pos h1, if_pos (show a > 65535 by omega), Option.bind_some]
      exact Ev.bind e1 (Ev.bind e2 (by simpa using Ev.now true))
    · obtain ⟨n, rfl⟩ := Int.eq_ofNat_of_zero_le (show 0 ≤ a by omega)
      have hn : n < 65536 := by omega
      simp only [if_neg h0, if_neg h1, if_neg (show ¬ (n : Int) > 65535 by omega), Option.bind_some]
      rw [show (n : Int) / 2 = ((n / 2 : Nat) : Int) by omega, xor_i64 _ _ (by omega) (by omega)]
      refine Ev.bind (a := (((n ^^^ n / 2 : Nat) : Int), 0)) (Ev.bind (gray_ev n hn) (Ev.now _)) ?_
      exact Ev.bind (ungray_ev n hn) (Ev.bind (ungref_ev n hn) (by simpa using Ev.now true))
end Go.Proofs.Ytabjfehhibeeiaa.Pure
