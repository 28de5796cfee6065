/- Registers in memory: Apply. -/
import Derived.Test.YtbhhbnpbijehcaaFogx0
import Derived.Test.YtbhhbnpbijehcaaScrFit
namespace Go.Proofs.Ytbhhbnpbijehcaa.Pure
open Go.RowKit Go.Proofs.Ytbhhbnpbijehcaa.Fog Go.Proofs.YtbhhbnpbijehcaaW.PrintWords Go.Proofs.YtbhhbnpbijehcaaW.PrintLast Go.Proofs.YtbhhbnpbijehcaaW.PrintMore Go.Proofs.Ytbhhbnpbijehcaa.Kit
set_option linter.unusedVariables false
set_option linter.unusedSimpArgs false
set_option maxHeartbeats 4000000 in
theorem apply_calls (b W t s : Nat) (A : Option Addr) (n c : Nat) (l : List Bool) (w : World) (h : Reg w b W t s) (hW : 2 ≤ W ∧ W ≤ 32) (hs : s < 2 ^ W) (ht : t < 4294967296) (hl : l.length = n) (hn : n ≤ 32768) (hc : n ≤ c) (hC : ∀ w', Moved b w w' → Kd.C Kd.bool w' A n l) :
    Calls Try.prog 21 #[.pointer (some ⟨b, 0, none⟩), .slice A n c] w fun e w' => ∃ v, e = .returned (.tuple #[v, .int .i64 0]) ∧ Kd.R Kd.bool 4 w' w.heap.size (fun _ => True) v (xorB l (Go.Scr.rowV W t s n)) ∧ Reg w' b W t (Go.Scr.iter (Go.Scr.step W t) n s) ∧ Moved b w w' := by
  have HROW := Aside0.mk (row_calls b W t s n w h hW hs ht hn)
  have HX := Aside0.mk (show xorV l (Go.Scr.rowV W t s n) = (xorB l (Go.Scr.rowV W t s n), 0) by unfold xorV; rw [if_pos ⟨by rw [Go.Scr.rowV_length, hl], by omega⟩])
  have HL := Aside0.mk (Go.Scr.rowV_length W t s n)
  have HLL := Aside0.mk hl
  have HC := Aside0.mk hC
  have HXO := Aside0.mk (fun (A' : Option Addr) (c' : Nat) (w' : World) (k1 : Kd.C Kd.bool w' A n l) (k2 : Kd.C Kd.bool w' A' n (Go.Scr.rowV W t s n)) (k3 : n ≤ c') => show Calls Try.prog 32 #[.slice A n c, .slice A' n c'] w' fun e w'' => ∃ v0_ : Value, e = .returned (.tuple #[v0_, .int .i64 0]) ∧ Kd.R Kd.bool 4 w'' w'.heap.size (fun _ => True) v0_ (xorB l (Go.Scr.rowV W t s n)) ∧ Below w'.heap.size w' w'' from by
    have g := xor_in A c l A' c' (Go.Scr.rowV W t s n) w' (by rw [hl]; exact k1) (by omega) (by rw [Go.Scr.rowV_length]; exact k2) (by rw [Go.Scr.rowV_length]; exact k3)
    rw [hl, Go.Scr.rowV_length, HX.out] at g
    exact g)
  obtain ⟨L, hL⟩ : ∃ L, Go.Scr.rowV W t s n = L := ⟨_, rfl⟩
  rw [hL] at HROW HX HL HXO ⊢
  clear h hs ht hl hL hC
  go_enter Try.func21, Try.ntmps21
  go_wp2_with (first
    | (go_at_call 18; (with_reducible refine (HROW.out).mono ?_); rintro e w1 ⟨v1, rfl, hR, hr, hm⟩; obtain ⟨A1, c1, rfl⟩ := Kd.R_slice hR; rw [HL.out] at hR ⊢; have HR := Aside0.mk hR; have HG := Aside0.mk hr; have HM := Aside0.mk hm; have HC1 := Aside0.mk (Kd.R_reads' hR).2.2; have hc1 := (Kd.R_reads' hR).2.1; rw [HL.out] at HC1; clear hR hr hm)
    | (go_at_call 32; (with_reducible refine (HXO.out A1 c1 _ (HC.out _ HM.out) HC1.out (by have := HL.out; omega)).mono ?_); rintro e w2 ⟨v2, rfl, hR, hb⟩; have HR2 := Aside0.mk (Kd.R_lower hR HM.out.size); have HG2 := Aside0.mk (HG.out.at_below hb); have HM2 := Aside0.mk (HM.out.step hb); clear hR hb))
  go_ret2
  exact ⟨_, rfl, HR2.out, HG2.out, HM2.out⟩
end Go.Proofs.Ytbhhbnpbijehcaa.Pure
