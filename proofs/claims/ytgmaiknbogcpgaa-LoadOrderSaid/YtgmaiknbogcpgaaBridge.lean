/- Loads in memory and loads in plain Lean. -/
import Derived.Test.YtgmaiknbogcpgaaFogx0
import Derived.Test.YtgmaiknbogcpgaaFun
import Derived.Test.YtgmaiknbogcpgaaChk
import Derived.Test.YtgmaiknbogcpgaaLeast
namespace Go.Proofs.Ytgmaiknbogcpgaa.Pure
open Go.RowKit Go.Proofs.Ytgmaiknbogcpgaa.Fog Go.Proofs.YtgmaiknbogcpgaaW.PrintWords Go.Proofs.YtgmaiknbogcpgaaW.PrintLast Go.Proofs.YtgmaiknbogcpgaaW.PrintMore Go.Proofs.Ytgmaiknbogcpgaa.Kit
set_option linter.unusedVariables false
set_option linter.unusedSimpArgs false
theorem tk_has : ∀ b ∈ Ld.tk false, hasB (b : Int) = true := by decide
theorem has_tk (x : Int) (h : hasB x = true) : x.toNat ∈ Ld.tk false := by
  obtain ⟨h0, h1, h2⟩ := hasB_rng h
  have hx : x = 0 ∨ x = 1 ∨ x = 2 ∨ x = 3 ∨ x = 4 ∨ x = 5 ∨ x = 6 ∨ x = 7 ∨ x = 8 := by omega
  rcases hx with rfl | rfl | rfl | rfl | rfl | rfl | rfl | rfl | rfl <;> revert h2 <;> decide
theorem chk_ld : ∀ (ws : List Int) (bs : List Nat), Ld.isLd false ws bs → ∀ s p : Int, chkF ws (bitsI bs) s p = some (s + (bs.sum : Int), p + Ld.cost ws bs)
  | [], [], _, s, p => by show some (s, p) = some (s + ((0 : Nat) : Int), p + 0); simp
  | [], b :: bs, h, _, _ => by have := h.1; simp at this
  | w :: ws, [], h, _, _ => by have := h.1; simp at this
  | w :: ws, b :: bs, h, s, p => by
    have hb := tk_has b (h.2 b List.mem_cons_self)
    have ht : Ld.isLd false ws bs := ⟨by have := h.1; simp at this; omega, fun x hx => h.2 x (List.mem_cons_of_mem _ hx)⟩
    show (if hasB (b : Int) then chkF ws (bitsI bs) (s + b) (p + w * Ld.E ((b : Int)).toNat) else none) = _
    rw [if_pos hb, chk_ld ws bs ht, Int.toNat_natCast]
    show some (s + (b : Int) + (bs.sum : Int), p + w * Ld.E b + Ld.cost ws bs) = some (s + ((b :: bs).sum : Int), p + (w * Ld.E b + Ld.cost ws bs))
    rw [List.sum_cons]
    congr 1
    rw [Int.natCast_add]
    simp only [Prod.mk.injEq]
    exact ⟨by omega, by omega⟩
/-- What the first load says of itself. -/
theorem chk_first (sq : Bool) (ws : List Int) (n : Nat) (h : Ld.need sq ws n < Ld.never) : chkF ws (bitsI (Ld.first sq ws n)) 0 0 = some ((n : Int), Ld.need sq ws n) ∧ (bitsI (Ld.first sq ws n)).length = ws.length := by
  obtain ⟨i1, i2, i3⟩ := Ld.first_ld sq ws n h
  have i4 : Ld.isLd false ws (Ld.first sq ws n) := by
    cases sq
    · exact i1
    · exact Ld.ld_true i1
  have := chk_ld ws _ i4 0 0
  rw [i2, i3, Int.zero_add, Int.zero_add] at this
  exact ⟨this, by unfold bitsI; rw [List.length_map]; exact i1.1⟩
theorem first_even (ws : List Int) (n : Nat) (h : Ld.need true ws n < Ld.never) : ∀ x ∈ bitsI (Ld.first true ws n), Int.tmod x 2 = 0 ∧ 0 ≤ x ∧ x ≤ 8 := by
  obtain ⟨i1, i2, i3⟩ := Ld.first_ld true ws n h
  intro x hx
  obtain ⟨b, hb, rfl⟩ := List.mem_map.1 hx
  have h1 := (Ld.tk_true b (i1.2 b hb)).2
  have h2 := (Ld.tk_E true b (i1.2 b hb)).2.2
  rw [Int.tmod_eq_emod_of_nonneg (by omega)]
  omega
/-- Any other load. -/
theorem chk_other (ws : List Int) (hk : Ld.ok ws) (lb : List Int) (h : haveAll lb) (hl : lb.length = ws.length) : ∃ N : Nat, ∃ Q : Int, chkF ws lb 0 0 = some ((N : Int), Q) ∧ N ≤ 8 * ws.length ∧ 0 ≤ Q ∧ Q ≤ 178257920 * (ws.length : Int) ∧ Ld.need false ws N ≤ Q ∧ Ld.need false ws N < Ld.never := by
  have hb : lb = bitsI (lb.map Int.toNat) := by
    unfold bitsI
    rw [List.map_map]
    conv => lhs; rw [← List.map_id lb]
    refine List.map_congr_left (fun x hx => ?_)
    have := (hasB_rng (h x hx)).1
    show x = ((x.toNat : Nat) : Int)
    omega
  have hld : Ld.isLd false ws (lb.map Int.toNat) := ⟨by rw [List.length_map]; exact hl, fun b hbm => by
    obtain ⟨x, hx, rfl⟩ := List.mem_map.1 hbm
    exact has_tk x (h x hx)⟩
  have h1 := chk_ld ws _ hld 0 0
  rw [← hb, Int.zero_add, Int.zero_add] at h1
  obtain ⟨g1, g2, g3, g4⟩ := Ld.need_of false ws _ hk hld
  exact ⟨_, _, h1, Ld.ld_sum false ws _ hld, g2, g3, g1, g4⟩
end Go.Proofs.Ytgmaiknbogcpgaa.Pure
