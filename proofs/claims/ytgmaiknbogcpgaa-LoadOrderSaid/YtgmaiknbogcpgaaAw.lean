/- Two carriers at a power; is a load what it says of itself? -/
import Derived.Test.YtgmaiknbogcpgaaFogx0
import Derived.Test.YtgmaiknbogcpgaaFun
import Derived.Test.YtgmaiknbogcpgaaChk
import Derived.Test.YtgmaiknbogcpgaaLeast
namespace Go.Proofs.Ytgmaiknbogcpgaa.Pure
open Go.RowKit Go.Proofs.Ytgmaiknbogcpgaa.Fog Go.Proofs.YtgmaiknbogcpgaaW.PrintWords Go.Proofs.YtgmaiknbogcpgaaW.PrintLast Go.Proofs.YtgmaiknbogcpgaaW.PrintMore Go.Proofs.Ytgmaiknbogcpgaa.Kit
set_option linter.unusedVariables false
set_option linter.unusedSimpArgs false
theorem ok_11 : Ld.ok [1, 1] := ⟨by decide, fun x hx => by simp at hx; omega⟩
theorem lit42 (w : World) : Kd.C (Kd.int .i64) (w.alloc (.cells #[.int .i64 4, .int .i64 2] 3)) (some ⟨w.heap.size, 0, none⟩) 2 [4, 2] := liti w [4, 2] (by show 2 ≤ 9223372036854775807; decide)
theorem lit11 (w : World) : Kd.C (Kd.int .i64) (w.alloc (.cells #[.int .i64 1, .int .i64 1] 3)) (some ⟨w.heap.size, 0, none⟩) 2 [1, 1] := liti w [1, 1] (by show 2 ≤ 9223372036854775807; decide)
theorem most_aw (w : World) : Calls Try.prog 10 #[.slice (some ⟨w.heap.size, 0, none⟩) 2 2, .int .i64 12] (w.alloc (.cells #[.int .i64 1, .int .i64 1] 3)) fun r w' => ∃ A c, r = .returned (.tuple #[.agg #[.slice A 2 c, .int .i64 6, .int .i64 12], .int .i64 0]) ∧ 2 ≤ c ∧ Kd.C (Kd.int .i64) w' A 2 [4, 2] ∧ Below w.heap.size w w' := by
  refine (most_good (some ⟨w.heap.size, 0, none⟩) 2 2 [1, 1] 12 _ rfl (by decide) (by decide) ok_11 (lit11 w) (by decide) (by decide)).mono ?_
  rintro r w' ⟨A, k, c, rfl, hR, hb⟩
  obtain ⟨e1, e2, e3⟩ := Ld.best_awake
  rw [e1, e3] at hR
  rw [e1, e2]
  obtain ⟨A2, c2, hv⟩ := Kd.R_slice hR
  simp only [Value.slice.injEq] at hv
  obtain ⟨rfl, rfl, rfl⟩ := hv
  have hc := (Kd.R_reads' hR).2
  exact ⟨A, c, rfl, hc.1, hc.2, ((Below.refl _ w).alloc (Nat.le_refl _) _).trans (hb.mono (by simp))⟩
set_option maxHeartbeats 4000000 in
set_option maxRecDepth 100000 in
theorem awake_calls (w : World) : Calls Try.prog 13 #[] w fun r w' => r = .returned (.bool true) ∧ Below w.heap.size w w' := by
  have HM := Aside0.mk (most_aw w)
  go_enter Try.func13, Try.ntmps13
  go_wp2_with (first
    | (go_at_call 10; (with_reducible refine (HM.out).mono ?_); rintro e w1 ⟨A4, c4, rfl, hc, hC, hb⟩; (have HC := Aside0.mk hC); (have HK := Aside0.mk hc); (have HB := Aside0.mk hb); (have kx0 : ((w1.alloc (.cells #[.slice none 0 0, .int .i64 0, .int .i64 0] 29)).setRow w1.heap.size #[.slice A4 2 c4, .int .i64 6, .int .i64 12]).cell? ⟨w1.heap.size, 0, none⟩ = some (.slice A4 2 c4) := (blk_cell (setRow_heap9 _ _ _ _ _ (blk_new _ _)) 0).trans rfl); (have kx1 : ((w1.alloc (.cells #[.slice none 0 0, .int .i64 0, .int .i64 0] 29)).setRow w1.heap.size #[.slice A4 2 c4, .int .i64 6, .int .i64 12]).cell? ⟨w1.heap.size, 1, none⟩ = some (.int .i64 6) := (blk_cell (setRow_heap9 _ _ _ _ _ (blk_new _ _)) 1).trans rfl); (have kx2 : ((w1.alloc (.cells #[.slice none 0 0, .int .i64 0, .int .i64 0] 29)).setRow w1.heap.size #[.slice A4 2 c4, .int .i64 6, .int .i64 12]).cell? ⟨w1.heap.size, 2, none⟩ = some (.int .i64 12) := (blk_cell (setRow_heap9 _ _ _ _ _ (blk_new _ _)) 2).trans rfl); (have HL42 := Aside0.mk (show Kd.C (Kd.int .i64) (((w1.alloc (.cells #[.slice none 0 0, .int .i64 0, .int .i64 0] 29)).setRow w1.heap.size #[.slice A4 2 c4, .int .i64 6, .int .i64 12]).alloc (.cells #[.int .i64 4, .int .i64 2] 3)) (some ⟨w1.heap.size + 1, 0, none⟩) 2 [4, 2] from by have h := lit42 ((w1.alloc (.cells #[.slice none 0 0, .int .i64 0, .int .i64 0] 29)).setRow w1.heap.size #[.slice A4 2 c4, .int .i64 6, .int .i64 12]); rw [show ((w1.alloc (.cells #[.slice none 0 0, .int .i64 0, .int .i64 0] 29)).setRow w1.heap.size #[.slice A4 2 c4, .int .i64 6, .int .i64 12]).heap.size = w1.heap.size + 1 by simp [World.setRow]] at h; exact h)); clear hc hC hb)
    | ((with_reducible refine gate_store (t := 29) (p := 1) rfl ?_); refine wpList_store_row rfl 29 (.tmp 1) (.tmp 6) rfl w1.heap.size #[.slice A4 2 c4, .int .i64 6, .int .i64 12] rfl rfl 29 _ (blk_new _ _) loadInfo rfl (by simp [Value.oneCell']) ?_)
    | (go_at_call 12; (with_reducible refine (ints_same A4 c4 _ 2 2 [4, 2] _ rfl (by decide) ?ia HK.out HL42.out (by decide)).mono ?_); (case ia => exact Kd.C_below (Kd.C_below HC.out (below_row9 ((Below.refl _ w1).alloc (Nat.le_refl _) _) (Nat.le_refl _) _)) ((Below.refl _ _).alloc (Nat.le_refl _) _)); rintro e w5 ⟨rfl, hw5⟩; (have HW5 := Aside0.mk hw5); clear hw5))
  go_ret
  obtain ⟨d, rfl⟩ := HW5.out
  refine ⟨rfl, ?_⟩
  have h1 := below_row9 ((Below.refl w1.heap.size w1).alloc (Nat.le_refl _) (.cells #[.slice none 0 0, .int .i64 0, .int .i64 0] 29)) (Nat.le_refl _) #[.slice A4 2 c4, .int .i64 6, .int .i64 12]
  exact belowd ((below_step HB.out h1).alloc (Nat.le_trans HB.out.size h1.size) _) d
set_option maxHeartbeats 4000000 in
set_option maxRecDepth 100000 in
theorem sound_calls (A0 : Option Addr) (c0 n : Nat) (l0 : List Int) (A1 : Option Addr) (c1 : Nat) (lb : List Int) (s p : Int) (w : World) (hl0 : l0.length = n) (hl1 : lb.length = n) (hn1 : 1 ≤ n) (hn2 : n ≤ 256) (hok : Ld.ok l0) (hr0 : Kd.C (Kd.int .i64) w A0 n l0) (hr1 : Kd.C (Kd.int .i64) w A1 n lb) (hc1 : n ≤ c1) (h : chkF l0 lb 0 0 = some (s, p)) :
    Calls Try.prog 16 #[.slice A0 n c0, .agg #[.slice A1 n c1, .int .i64 s, .int .i64 p]] w fun r w' => r = .returned (.bool true) ∧ Below w.heap.size w w' := by
  obtain ⟨X0, hX0⟩ : ∃ X0, w.alloc (.cells #[.slice A1 n c1, .int .i64 s, .int .i64 p] 29) = X0 := ⟨_, rfl⟩
  have hX : Below w.heap.size w X0 := hX0 ▸ (Below.refl _ w).alloc (Nat.le_refl _) _
  have HX := Aside0.mk hX
  have HF := Aside0.mk (show X0.heap[w.heap.size]? = some (.cells #[.slice A1 n c1, .int .i64 s, .int .i64 p] 29 (0, 0)) from hX0 ▸ blk_new w _)
  have HCH := Aside0.mk (check_any A0 c0 n l0 A1 c1 lb X0 hl0 hl1 hn1 hn2 hok (Kd.C_below hr0 hX) (Kd.C_below hr1 hX) hc1)
  have HH := Aside0.mk h
  have k0 : X0.cell? ⟨w.heap.size, 0, none⟩ = some (.slice A1 n c1) := (blk_cell HF.out 0).trans rfl
  clear hX hr0 hr1 hl0 hl1 hn1 hn2 hok hc1 h
  go_enter Try.func16, Try.ntmps16
  go_wp2_with (first
    | (go_at_call 14; (try rw [hX0]); (with_reducible refine (HCH.out).mono ?_); rintro e w1 ⟨hg, -, hb⟩; (obtain ⟨A4, k4, c4, rfl, hR⟩ := hg s p HH.out); (have HB := Aside0.mk hb); (have kx0 : ((w1.alloc (.cells #[.slice none 0 0, .int .i64 0, .int .i64 0] 29)).setRow w1.heap.size #[.slice A4 k4 c4, .int .i64 s, .int .i64 p]).cell? ⟨w1.heap.size, 0, none⟩ = some (.slice A4 k4 c4) := (blk_cell (setRow_heap9 _ _ _ _ _ (blk_new _ _)) 0).trans rfl); (have kx1 : ((w1.alloc (.cells #[.slice none 0 0, .int .i64 0, .int .i64 0] 29)).setRow w1.heap.size #[.slice A4 k4 c4, .int .i64 s, .int .i64 p]).cell? ⟨w1.heap.size, 1, none⟩ = some (.int .i64 s) := (blk_cell (setRow_heap9 _ _ _ _ _ (blk_new _ _)) 1).trans rfl); (have kx2 : ((w1.alloc (.cells #[.slice none 0 0, .int .i64 0, .int .i64 0] 29)).setRow w1.heap.size #[.slice A4 k4 c4, .int .i64 s, .int .i64 p]).cell? ⟨w1.heap.size, 2, none⟩ = some (.int .i64 p) := (blk_cell (setRow_heap9 _ _ _ _ _ (blk_new _ _)) 2).trans rfl); (have ky1 : ((w1.alloc (.cells #[.slice none 0 0, .int .i64 0, .int .i64 0] 29)).setRow w1.heap.size #[.slice A4 k4 c4, .int .i64 s, .int .i64 p]).cell? ⟨w.heap.size, 1, none⟩ = some (.int .i64 s) := (blk_cell ((setRow_other _ _ _ _ (by have h1 := (Array.getElem?_eq_some_iff.1 HF.out).1; have h2 := hb.size; omega)).trans ((Below.heap_alloc _ _ _ (by have h1 := (Array.getElem?_eq_some_iff.1 HF.out).1; have h2 := hb.size; omega)).trans (blk_below HF.out hb))) 1).trans rfl); (have ky2 : ((w1.alloc (.cells #[.slice none 0 0, .int .i64 0, .int .i64 0] 29)).setRow w1.heap.size #[.slice A4 k4 c4, .int .i64 s, .int .i64 p]).cell? ⟨w.heap.size, 2, none⟩ = some (.int .i64 p) := (blk_cell ((setRow_other _ _ _ _ (by have h1 := (Array.getElem?_eq_some_iff.1 HF.out).1; have h2 := hb.size; omega)).trans ((Below.heap_alloc _ _ _ (by have h1 := (Array.getElem?_eq_some_iff.1 HF.out).1; have h2 := hb.size; omega)).trans (blk_below HF.out hb))) 2).trans rfl); clear hg hR hb)
    | ((with_reducible refine gate_store (t := 29) (p := 5) rfl ?_); refine wpList_store_row rfl 29 (.tmp 5) (.tmp 12) rfl w1.heap.size #[.slice A4 k4 c4, .int .i64 s, .int .i64 p] rfl rfl 29 _ (blk_new _ _) loadInfo rfl (by simp [Value.oneCell']) ?_))
  go_ret
  refine ⟨rfl, ?_⟩
  exact below_step (below_step HX.out HB.out) (below_row9 ((Below.refl w1.heap.size w1).alloc (Nat.le_refl _) _) (Nat.le_refl _) _)
end Go.Proofs.Ytgmaiknbogcpgaa.Pure
