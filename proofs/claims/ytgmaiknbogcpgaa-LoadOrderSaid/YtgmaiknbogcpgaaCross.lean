/- The cross sets' closure. -/
import Derived.Test.YtgmaiknbogcpgaaFogx0
import Derived.Test.YtgmaiknbogcpgaaUngray
namespace Go.Proofs.Ytgmaiknbogcpgaa.Pure
open Go.RowKit Go.Proofs.Ytgmaiknbogcpgaa.Fog Go.Proofs.YtgmaiknbogcpgaaW.PrintWords Go.Proofs.YtgmaiknbogcpgaaW.PrintLast Go.Proofs.YtgmaiknbogcpgaaW.PrintMore Go.Proofs.Ytgmaiknbogcpgaa.Kit
set_option linter.unusedVariables false
set_option linter.unusedSimpArgs false
/-- How high a column is. -/
def hiOf (e m a : Int) : Int := if m < (if a < -a then -a else a) then m else e
/-- The point of a label in a cross, from the column a on. -/
def crF (e m : Int) : Nat → Int → Int → Option (Int × Int)
  | 0, _, _ => none
  | k + 1, a, l => if l ≤ hiOf e m a then some (a, 2 * l - hiOf e m a) else crF e m k (a + 2) (l - (hiOf e m a + 1))
def crP (e m : Int) (lb : Nat) : Int × Int := (crF e m 13 (-e) (lb : Int)).getD (0, 0)
theorem cr_32 : ∀ lb : Fin 32, crF 5 3 13 (-5) (lb.val : Int) = some (crP 5 3 lb.val) := by decide +kernel
theorem cr_128 : ∀ lb : Fin 128, crF 11 7 13 (-11) (lb.val : Int) = some (crP 11 7 lb.val) := by decide +kernel
set_option maxHeartbeats 2000000 in
set_option maxRecDepth 100000 in
theorem crat_calls (e m : Int) (h0 : 0 ≤ e ∧ e ≤ 15) (h1 : 0 ≤ m ∧ m ≤ 15) (lb : Nat) (hl : lb < 256) (p : Int × Int) (hp : crF e m 13 (-e) (lb : Int) = some p) (be bm : Nat) (W : World) (he : Boxed W be 3 (.int .i64 e)) (hm : Boxed W bm 3 (.int .i64 m)) :
    Calls Try.prog 73 #[.int .i64 (lb : Int), .pointer (some ⟨be, 0, none⟩), .pointer (some ⟨bm, 0, none⟩)] W fun r w' => r = .returned (.complex .f64 (fI p.1) (fI p.2)) ∧ w' = W := by
  have hce := he.cell
  have hcm := hm.cell
  have i1 : IntKind.i64.wrap (-e) = -e := by rw [IntKind.wrap_i64]; omega
  have HB := Aside0.mk (And.intro h0 h1)
  have HP := Aside0.mk hp
  clear he hm hp h0 h1
  go_enter Try.func73, Try.ntmps73
  go_wp2
  go_loopw [0, 5, 6] (fun lv av hv wr => ∃ (k : Nat) (a l : Int), k ≤ 13 ∧ lv = .int .i64 l ∧ av = .int .i64 a ∧ Aside0 (crF e m k a l = some p ∧ a + 2 * (k : Int) ≤ 26 ∧ -15 ≤ a ∧ 0 ≤ l ∧ l ≤ 255) ∧ wr = W) (fun _ av _ _ => (26 - intOf av).toNat)
  case atStart => exact ⟨13, -e, (lb : Int), Nat.le_refl _, rfl, rfl, ⟨HP.out, by have := HB.out; omega, by have := HB.out; omega, by omega, by omega⟩, rfl⟩
  case round =>
    obtain ⟨k, a, l, hk, rfl, rfl, HI, rfl⟩ := hrel
    obtain ⟨hi, b1, b2, b3, b4⟩ := HI.out
    cases k with
    | zero => exact absurd hi (by unfold crF; simp)
    | succ k =>
      unfold crF at hi
      obtain ⟨H, hH⟩ : ∃ H, hiOf e m a = H := ⟨_, rfl⟩
      rw [hH] at hi
      have hHb : 0 ≤ H ∧ H ≤ 15 := by
        have := HB.out
        rw [← hH]
        unfold hiOf
        split <;> omega
      have j1 : IntKind.i64.wrap (-a) = -a := by rw [IntKind.wrap_i64]; omega
      have j2 : IntKind.i64.wrap (a + 2) = a + 2 := by rw [IntKind.wrap_i64]; omega
      have j3 : IntKind.i64.wrap (2 * l) = 2 * l := by rw [IntKind.wrap_i64]; omega
      have j4 : IntKind.i64.wrap (2 * l - H) = 2 * l - H := by rw [IntKind.wrap_i64]; omega
      have j5 : IntKind.i64.wrap (H + 1) = H + 1 := by rw [IntKind.wrap_i64]; omega
      have j6 : IntKind.i64.wrap (l - (H + 1)) = l - (H + 1) := by rw [IntKind.wrap_i64]; omega
      have HM := Aside0.mk (show (26 - (a + 2)).toNat < (26 - a).toNat by omega)
      have HN := Aside0.mk (show a + 2 + 2 * (k : Int) ≤ 26 ∧ -15 ≤ a + 2 ∧ l - (H + 1) ≤ 255 by omega)
      by_cases hle : l ≤ H
      · rw [if_pos hle] at hi
        have hpp := Option.some.inj hi
        have HPP := Aside0.mk hpp.symm
        unfold hiOf at hH
        clear hi hpp b1 b2 b3 b4 HI HP HB hHb hk
        by_cases c1 : a < -a
        · rw [if_pos c1] at hH
          by_cases c2 : m < -a
          · rw [if_pos c2] at hH
            subst hH
            go_wp2
            go_ret
            rw [HPP.out]
            exact ⟨rfl, rfl⟩
          · rw [if_neg c2] at hH
            subst hH
            go_wp2
            go_ret
            rw [HPP.out]
            exact ⟨rfl, rfl⟩
        · rw [if_neg c1] at hH
          by_cases c2 : m < a
          · rw [if_pos c2] at hH
            subst hH
            go_wp2
            go_ret
            rw [HPP.out]
            exact ⟨rfl, rfl⟩
          · rw [if_neg c2] at hH
            subst hH
            go_wp2
            go_ret
            rw [HPP.out]
            exact ⟨rfl, rfl⟩
      · rw [if_neg hle] at hi
        have HII := Aside0.mk hi
        have HK := Aside0.mk (show k ≤ 13 ∧ 0 ≤ l - (H + 1) by omega)
        unfold hiOf at hH
        clear hi b1 b2 b3 b4 HI HP HB hHb hk
        by_cases c1 : a < -a
        · rw [if_pos c1] at hH
          by_cases c2 : m < -a
          · rw [if_pos c2] at hH
            subst hH
            go_wp2
            exact ⟨⟨k, a + 2, l - (m + 1), HK.out.1, rfl, rfl, ⟨HII.out, HN.out.1, HN.out.2.1, HK.out.2, HN.out.2.2⟩, by first | rfl | trivial⟩, HM.out⟩
          · rw [if_neg c2] at hH
            subst hH
            go_wp2
            exact ⟨⟨k, a + 2, l - (e + 1), HK.out.1, rfl, rfl, ⟨HII.out, HN.out.1, HN.out.2.1, HK.out.2, HN.out.2.2⟩, by first | rfl | trivial⟩, HM.out⟩
        · rw [if_neg c1] at hH
          by_cases c2 : m < a
          · rw [if_pos c2] at hH
            subst hH
            go_wp2
            exact ⟨⟨k, a + 2, l - (m + 1), HK.out.1, rfl, rfl, ⟨HII.out, HN.out.1, HN.out.2.1, HK.out.2, HN.out.2.2⟩, by first | rfl | trivial⟩, HM.out⟩
          · rw [if_neg c2] at hH
            subst hH
            go_wp2
            exact ⟨⟨k, a + 2, l - (e + 1), HK.out.1, rfl, rfl, ⟨HII.out, HN.out.1, HN.out.2.1, HK.out.2, HN.out.2.2⟩, by first | rfl | trivial⟩, HM.out⟩
end Go.Proofs.Ytgmaiknbogcpgaa.Pure
