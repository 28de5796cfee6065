/- BitsRing: of each width Gray's numbers are a ring. No condition. -/
import Derived.Test.YtabjfehhibeeiaaFogx0
import Derived.Test.YtabjfehhibeeiaaFogx12
import Derived.Test.YtabjfehhibeeiaaKit
import Derived.Test.YtabjfehhibeeiaaRefBits
namespace Go.Proofs.Ytabjfehhibeeiaa.Pure
open Go.RowKit Go.Proofs.Ytabjfehhibeeiaa.Fog Go.Proofs.YtabjfehhibeeiaaW.PrintWords Go.Proofs.YtabjfehhibeeiaaW.PrintLast Go.Proofs.Ytabjfehhibeeiaa.Kit
theorem shl_pow : ∀ w : Nat, w < 17 → shl .i64 1 (w : Int) = ((2 ^ w : Nat) : Int) := by decide +kernel
theorem ring_l1 (w : Nat) (hw : 1 ≤ w) (hw2 : w ≤ 16) (hnext : Ev (fun k => foghornlaw01_BitsRing.l0 k ((w + 1 : Nat) : Int)) true) :
    ∀ (d i : Nat) (seen : List Bool), i + d = 2 ^ w → seen.length = 2 ^ w → (∀ j, seen.getD j false = true → ∃ i', i' < i ∧ gr i' = j) →
    Ev (fun k => foghornlaw01_BitsRing.l1 k (w : Int) ((2 ^ w : Nat) : Int) seen (i : Int)) true
  | 0, i, seen, h, hs, hj => by
    refine Ev.step (fun k => by simp only [foghornlaw01_BitsRing.l1]; rfl) ?_
    refine Ev.ifn (by omega) ?_
    rw [show ((w : Int) + 1) = ((w + 1 : Nat) : Int) by omega, w64n (by omega)]
    exact hnext
  | d + 1, i, seen, h, hs, hj => by
    have hp : 2 ^ w ≤ 2 ^ 16 := Nat.pow_le_pow_right (by decide) hw2
    have hi : i < 2 ^ w := by omega
    have hpos : 0 < 2 ^ w := Nat.two_pow_pos w
    obtain ⟨t, ht⟩ := gr_ring w i hw hi
    have hg1 := gr_lt i w hi
    have hm : (i + 1) % 2 ^ w < 2 ^ w := Nat.mod_lt _ hpos
    have hg2 := gr_lt _ w hm
    have htl : 2 ^ t < 2 ^ 16 := by
      rw [← ht]
      exact Nat.xor_lt_two_pow (by omega) (by omega)
    have htp : 0 < 2 ^ t := Nat.two_pow_pos t
    have hold : seen.getD (gr i) false = false := by
      cases hb : seen.getD (gr i) false with
      | false => rfl
      | true =>
        obtain ⟨i', h1, h2⟩ := hj _ hb
        have := gr_inj i' i (by omega) (by omega) h2
        omega
    have ih := ring_l1 w hw hw2 hnext d (i + 1) (seen.set (gr i) true) (by omega) (by simpa using hs) (by
      intro j hb
      by_cases hji : j = gr i
      · exact ⟨i, by omega, hji.symm⟩
      · have : (seen.set (gr i) true).getD j false = seen.getD j false := by
          simp [List.getD_eq_getElem?_getD, List.getElem?_set_ne (fun e => hji e.symm)]
        rw [this] at hb
        obtain ⟨i', h1, h2⟩ := hj j hb
        exact ⟨i', by omega, h2⟩)
    generalize hG : gr i = g at hg1 ht hold ih
    generalize hH : gr ((i + 1) % 2 ^ w) = g2 at hg2 ht
    have hgi := gray_f i (by omega)
    have hgn := gray_f ((i + 1) % 2 ^ w) (by omega)
    rw [hG] at hgi
    rw [hH] at hgn
    refine Ev.step (fun k => by simp only [foghornlaw01_BitsRing.l1]; rfl) ?_
    refine Ev.ifp (by omega) ?_
    refine Ev.bindc hgi ?_
    refine Ev.ifn (by omega) ?_
    rw [show ((i : Int) + 1) = ((i + 1 : Nat) : Int) by omega, w64n (by omega), tmod_nat]
    refine Ev.bindc hgn ?_
    refine Ev.ifp rfl (Ev.ifp rfl (Ev.ifn (by dsimp only; omega) (Ev.ifn (by dsimp only; omega) (Ev.ifn (by dsimp only; omega) (Ev.ifn (by dsimp only; omega) (Ev.ifp (by dsimp only; omega) (Ev.ifp (by dsimp only; omega) ?_)))))))
    refine Ev.step (fun k => by simp only [foghornlaw01_BitsRing.j2]; rfl) ?_
    refine Ev.ifn (by rw [rd_nat, hold]; simp) ?_
    refine Ev.ifp (by omega) (Ev.ifp (by omega) ?_)
    rw [xor_i64 g g2 (by omega) (by omega), ht]
    refine Ev.ifn (by omega) ?_
    rw [show (((2 ^ t : Nat) : Int) - 1) = ((2 ^ t - 1 : Nat) : Int) by omega, w64n (by omega), and_i64 _ _ (by omega) (by omega), Nat.and_two_pow_sub_one_eq_mod, Nat.mod_self]
    refine Ev.ifp rfl ?_
    rw [Int.toNat_natCast, show ((i : Int) + 1) = ((i + 1 : Nat) : Int) by omega, w64n (by omega)]
    exact ih
theorem ring_l0 : ∀ d w : Nat, w + d = 17 → 1 ≤ w → Ev (fun k => foghornlaw01_BitsRing.l0 k (w : Int)) true
  | 0, w, h, hw => by
    refine Ev.step (fun k => by simp only [foghornlaw01_BitsRing.l0]; rfl) ?_
    exact Ev.ifn (by omega) (Ev.now _)
  | d + 1, w, h, hw => by
    have ih := ring_l0 d (w + 1) (by omega) (by omega)
    have hp : 2 ^ w ≤ 2 ^ 16 := Nat.pow_le_pow_right (by decide) (by omega)
    refine Ev.step (fun k => by simp only [foghornlaw01_BitsRing.l0]; rfl) ?_
    rw [shl_pow w (by omega)]
    have hcast : (0 : Int) ≤ ((2 ^ w : Nat) : Int) := Int.natCast_nonneg _
    have hcast2 : ((2 ^ w : Nat) : Int).toNat ≤ 281474976710656 := by rw [Int.toNat_natCast]; omega
    refine Ev.ifp (by omega) (Ev.ifp (by omega) (Ev.ifp hcast (Ev.ifp hcast2 ?_)))
    rw [Int.toNat_natCast]
    exact ring_l1 w hw (by omega) ih (2 ^ w) 0 _ (by omega) (by simp) (by
      intro j hb
      rw [List.getD_eq_getElem?_getD] at hb
      by_cases hj : j < 2 ^ w
      · simp [hj] at hb
      · simp [hj] at hb)
theorem BitsRing : foghornlaw01_BitsRing.Pure := by
  refine Ev.rounds ?_
  unfold foghornlaw01_BitsRing.f
  refine Ev.bindc (a := true) rfl ?_
  refine Ev.ifp rfl ?_
  exact ring_l0 16 1 (by omega) (by omega)
end Go.Proofs.Ytabjfehhibeeiaa.Pure
