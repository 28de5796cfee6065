/- The cheapest load of so many bits. -/
import Derived.Test.YtgmaiknbogcpgaaFogx0
import Derived.Test.YtgmaiknbogcpgaaAt
namespace Go.Proofs.Ytgmaiknbogcpgaa.Pure
open Go.RowKit Go.Proofs.Ytgmaiknbogcpgaa.Fog Go.Proofs.YtgmaiknbogcpgaaW.PrintWords Go.Proofs.YtgmaiknbogcpgaaW.PrintLast Go.Proofs.YtgmaiknbogcpgaaW.PrintMore Go.Proofs.Ytgmaiknbogcpgaa.Kit
set_option linter.unusedVariables false
set_option linter.unusedSimpArgs false
set_option maxHeartbeats 8000000 in
set_option maxRecDepth 100000 in
theorem least_good (A0 : Option Addr) (c0 n : Nat) (l0 : List Int) (N : Nat) (w : World) (hl0 : l0.length = n) (hn1 : 1 ≤ n) (hn2 : n ≤ 256) (hok : Ld.ok l0) (hr0 : Kd.C (Kd.int .i64) w A0 n l0) (hNn : N ≤ 8 * n) (hf : Ld.need false l0 N < Ld.never) :
    Calls Try.prog 17 #[.slice A0 n c0, .int .i64 (N : Int)] w fun r w' => ∃ A k c, r = .returned (.tuple #[.agg #[.slice A k c, .int .i64 (N : Int), .int .i64 (Ld.need false l0 N)], .int .i64 0]) ∧ Kd.R (Kd.int .i64) 3 w' w.heap.size (fun _ => True) (.slice A k c) (bitsI (Ld.first false l0 N)) ∧ Below w.heap.size w w' := by
  have HM := Aside0.mk (show ∀ W : World, Kd.C (Kd.int .i64) W A0 n l0 → Calls Try.prog 35 #[.slice A0 n c0] W fun r w' => r = .returned (.bool true) ∧ ∃ d, w' = W.drewN d from fun W hC => by
    have h := may_calls A0 c0 l0 W (by rw [hl0]; exact hC)
    rw [okW_of l0 hok, hl0] at h
    exact h)
  have HC := Aside0.mk hr0
  have HL := Aside0.mk hl0
  have HOK := Aside0.mk hok
  have HN := Aside0.mk (And.intro hn1 hn2)
  obtain ⟨X0, hX0⟩ : ∃ X0, w.alloc (.cells #[.slice none 0 0, .int .i64 0, .int .i64 0] 29) = X0 := ⟨_, rfl⟩
  have HX := Aside0.mk (show Below w.heap.size w X0 from hX0 ▸ (Below.refl _ w).alloc (Nat.le_refl _) _)
  have HF := Aside0.mk (show X0.heap[w.heap.size]? = some (.cells #[.slice none 0 0, .int .i64 0, .int .i64 0] 29 (0, 0)) from hX0 ▸ blk_new w _)
  have HNB := Aside0.mk hNn
  have HFE := Aside0.mk hf
  obtain ⟨G, hG⟩ : ∃ G, Ld.need false l0 N = G := ⟨_, rfl⟩
  have HG := Aside0.mk hG
  rw [hG] at hf ⊢
  have d1 : decide ((N : Int) < 0) = false := decide_eq_false (by omega)
  have i1 : IntKind.i64.wrap (8 * (n : Int)) = 8 * (n : Int) := by rw [IntKind.wrap_i64]; omega
  have d2 : decide (8 * (n : Int) < (N : Int)) = false := decide_eq_false (by omega)
  have d2' : decide (8 * n < N) = false := decide_eq_false (by omega)
  have d3 : (G == 1152921504606846976) = false := by have e : Ld.never = 1152921504606846976 := rfl; simp; omega
  have t0 : (0 : Int) < (n : Int) + 1 := by omega
  have t1 : (N : Int) < 2049 := by omega
  have d4 : decide ((N : Int) ≤ 8 * (n : Int)) = true := decide_eq_true (by omega)
  have t2 : (N : Int) ≤ 8 * (n : Int) := by omega
  clear hr0 hl0 hok hn1 hn2 hNn hf hG
  go_enter Try.func17, Try.ntmps17
  go_wp2_with (first
    | (go_at_call 34; (with_reducible refine (carr_true n HN.out.1 HN.out.2 _).mono ?_); rintro e w1 ⟨rfl, hw1⟩; (try rw [hX0] at hw1); (have HW1 := Aside0.mk (show Below w.heap.size w w1 ∧ w1.heap[w.heap.size]? = some (.cells #[.slice none 0 0, .int .i64 0, .int .i64 0] 29 (0, 0)) from by obtain ⟨d, rfl⟩ := hw1; exact ⟨HX.out.trans ⟨rfl, rfl, rfl, Nat.le_refl _, fun _ _ => rfl⟩, HF.out⟩)); clear hw1)
    | (go_at_call 35; (with_reducible refine (HM.out w1 (Kd.C_below HC.out HW1.out.1)).mono ?_); rintro e w2 ⟨rfl, hw2⟩; (have HW2 := Aside0.mk (show Below w.heap.size w w2 ∧ w2.heap[w.heap.size]? = some (.cells #[.slice none 0 0, .int .i64 0, .int .i64 0] 29 (0, 0)) from by obtain ⟨d, rfl⟩ := hw2; exact ⟨HW1.out.1.trans ⟨rfl, rfl, rfl, Nat.le_refl _, fun _ _ => rfl⟩, HW1.out.2⟩)); clear hw2)
    | (go_at_call 37; (with_reducible refine (made_calls A0 c0 l0 false n w2 HL.out HN.out.1 HN.out.2 HOK.out (Kd.C_below HC.out HW2.out.1)).mono ?_); rintro e w3 ⟨gT, rfl, hT, hb⟩; (have HT := Aside0.mk hT); (have HW3 := Aside0.mk (And.intro (below_step HW2.out.1 hb) (blk_below HW2.out.2 hb))); (obtain ⟨gk, kc, gN, f, h1, h2, h3, h4, h5⟩ := hT); (have kT : w3.cell? ⟨gT, 2, none⟩ = some (.slice (some ⟨gN, 0, none⟩) (n + 1) (n + 1)) := (blk_cell h1 2).trans rfl); (have kc : w3.cell? ⟨gN, N, none⟩ = some (.int .i64 G) := by have h := h4.cell N (by have := HN.out; have := HNB.out; omega); have e := h5 0 (Nat.zero_le _) N (by have := HN.out; have := HNB.out; omega); rw [Nat.zero_mul, Nat.zero_add, List.drop_zero, HG.out] at e; rw [e] at h; exact h); clear h1 h2 h3 h4 h5 hb)
    | (go_at_call 38; (with_reducible refine (first_calls gT A0 n c0 false l0 N w3 HL.out HN.out.1 HN.out.2 HOK.out HT.out (Kd.C_below HC.out HW3.out.1) (by have := HN.out; have := HNB.out; omega) HFE.out).mono ?_); rintro e w4 ⟨v, rfl, hR, hb⟩; (obtain ⟨A4, c4, rfl⟩ := Kd.R_slice hR); rw [HG.out]; (have HR4 := Aside0.mk hR); (have HW4 := Aside0.mk (And.intro (below_step HW3.out.1 hb) (blk_below HW3.out.2 hb))); clear hR hb)
    | ((with_reducible refine gate_store (t := 29) (p := 4) rfl ?_); refine wpList_store_row rfl 29 (.tmp 4) (.tmp 42) rfl w.heap.size #[.slice A4 (bitsI (Ld.first false l0 N)).length c4, .int .i64 (N : Int), .int .i64 G] rfl rfl 29 _ HW4.out.2 loadInfo rfl (by simp [Value.oneCell']) ?_))
  refine bodyPost_ret (results_of (p := 4) (u := 5) (ty := 29) rfl _ _ w.heap.size 29 #[.slice A4 (bitsI (Ld.first false l0 N)).length c4, .int .i64 (N : Int), .int .i64 G] (0, 0) _ rfl (setRow_heap9 _ _ _ _ _ HW4.out.2) Try.underlying29 rfl loadInfo) rfl ?_
  exact ⟨A4, _, c4, rfl, R_row HR4.out _ (by have := (Array.getElem?_eq_some_iff.1 HW3.out.2).1; omega) (by have := HW3.out.1.size; omega), below_row9 HW4.out.1 (Nat.le_refl _) _⟩
set_option maxHeartbeats 8000000 in
set_option maxRecDepth 100000 in
theorem least_none1 (A0 : Option Addr) (c0 n : Nat) (l0 : List Int) (N : Nat) (w : World) (hl0 : l0.length = n) (hn1 : 1 ≤ n) (hn2 : n ≤ 256) (hok : Ld.ok l0) (hr0 : Kd.C (Kd.int .i64) w A0 n l0) (hNn : N ≤ 8 * n) (hf : Ld.need false l0 N = Ld.never) :
    Calls Try.prog 17 #[.slice A0 n c0, .int .i64 (N : Int)] w fun r w' => r = .returned (.tuple #[.agg #[.slice none 0 0, .int .i64 0, .int .i64 0], .int .i64 6]) ∧ Below w.heap.size w w' := by
  have HM := Aside0.mk (show ∀ W : World, Kd.C (Kd.int .i64) W A0 n l0 → Calls Try.prog 35 #[.slice A0 n c0] W fun r w' => r = .returned (.bool true) ∧ ∃ d, w' = W.drewN d from fun W hC => by
    have h := may_calls A0 c0 l0 W (by rw [hl0]; exact hC)
    rw [okW_of l0 hok, hl0] at h
    exact h)
  have HC := Aside0.mk hr0
  have HL := Aside0.mk hl0
  have HOK := Aside0.mk hok
  have HN := Aside0.mk (And.intro hn1 hn2)
  obtain ⟨X0, hX0⟩ : ∃ X0, w.alloc (.cells #[.slice none 0 0, .int .i64 0, .int .i64 0] 29) = X0 := ⟨_, rfl⟩
  have HX := Aside0.mk (show Below w.heap.size w X0 from hX0 ▸ (Below.refl _ w).alloc (Nat.le_refl _) _)
  have HF := Aside0.mk (show X0.heap[w.heap.size]? = some (.cells #[.slice none 0 0, .int .i64 0, .int .i64 0] 29 (0, 0)) from hX0 ▸ blk_new w _)
  have HNB := Aside0.mk hNn
  obtain ⟨G, hG⟩ : ∃ G, Ld.need false l0 N = G := ⟨_, rfl⟩
  have HG := Aside0.mk hG
  rw [hG] at hf
  have d1 : decide ((N : Int) < 0) = false := decide_eq_false (by omega)
  have i1 : IntKind.i64.wrap (8 * (n : Int)) = 8 * (n : Int) := by rw [IntKind.wrap_i64]; omega
  have d2 : decide (8 * (n : Int) < (N : Int)) = false := decide_eq_false (by omega)
  have d2' : decide (8 * n < N) = false := decide_eq_false (by omega)
  have d3 : (G == 1152921504606846976) = true := by have e : Ld.never = 1152921504606846976 := rfl; simp; omega
  have t0 : (0 : Int) < (n : Int) + 1 := by omega
  have t1 : (N : Int) < 2049 := by omega
  have t2 : (N : Int) ≤ 8 * (n : Int) := by omega
  clear hr0 hl0 hok hn1 hn2 hNn hf hG
  go_enter Try.func17, Try.ntmps17
  go_wp2_with (first
    | (go_at_call 34; (with_reducible refine (carr_true n HN.out.1 HN.out.2 _).mono ?_); rintro e w1 ⟨rfl, hw1⟩; (try rw [hX0] at hw1); (have HW1 := Aside0.mk (show Below w.heap.size w w1 ∧ w1.heap[w.heap.size]? = some (.cells #[.slice none 0 0, .int .i64 0, .int .i64 0] 29 (0, 0)) from by obtain ⟨d, rfl⟩ := hw1; exact ⟨HX.out.trans ⟨rfl, rfl, rfl, Nat.le_refl _, fun _ _ => rfl⟩, HF.out⟩)); clear hw1)
    | (go_at_call 35; (with_reducible refine (HM.out w1 (Kd.C_below HC.out HW1.out.1)).mono ?_); rintro e w2 ⟨rfl, hw2⟩; (have HW2 := Aside0.mk (show Below w.heap.size w w2 ∧ w2.heap[w.heap.size]? = some (.cells #[.slice none 0 0, .int .i64 0, .int .i64 0] 29 (0, 0)) from by obtain ⟨d, rfl⟩ := hw2; exact ⟨HW1.out.1.trans ⟨rfl, rfl, rfl, Nat.le_refl _, fun _ _ => rfl⟩, HW1.out.2⟩)); clear hw2)
    | (go_at_call 37; (with_reducible refine (made_calls A0 c0 l0 false n w2 HL.out HN.out.1 HN.out.2 HOK.out (Kd.C_below HC.out HW2.out.1)).mono ?_); rintro e w3 ⟨gT, rfl, hT, hb⟩; (have HT := Aside0.mk hT); (have HW3 := Aside0.mk (And.intro (below_step HW2.out.1 hb) (blk_below HW2.out.2 hb))); (obtain ⟨gk, kc, gN, f, h1, h2, h3, h4, h5⟩ := hT); (have kT : w3.cell? ⟨gT, 2, none⟩ = some (.slice (some ⟨gN, 0, none⟩) (n + 1) (n + 1)) := (blk_cell h1 2).trans rfl); (have kc : w3.cell? ⟨gN, N, none⟩ = some (.int .i64 G) := by have h := h4.cell N (by have := HN.out; have := HNB.out; omega); have e := h5 0 (Nat.zero_le _) N (by have := HN.out; have := HNB.out; omega); rw [Nat.zero_mul, Nat.zero_add, List.drop_zero, HG.out] at e; rw [e] at h; exact h); clear h1 h2 h3 h4 h5 hb)
    | ((with_reducible refine gate_store (t := 29) (p := 4) rfl ?_); refine wpList_store_row rfl 29 (.tmp 4) (.tmp 39) rfl w.heap.size #[.slice none 0 0, .int .i64 0, .int .i64 0] rfl rfl 29 _ HW3.out.2 loadInfo rfl (by simp [Value.oneCell']) ?_))
  refine bodyPost_ret (results_of (p := 4) (u := 5) (ty := 29) rfl _ _ w.heap.size 29 #[.slice none 0 0, .int .i64 0, .int .i64 0] (0, 0) _ rfl (setRow_heap9 _ _ _ _ _ HW3.out.2) Try.underlying29 rfl loadInfo) rfl ?_
  exact ⟨rfl, below_row9 HW3.out.1 (Nat.le_refl _) _⟩
set_option maxHeartbeats 8000000 in
set_option maxRecDepth 100000 in
theorem least_none2 (A0 : Option Addr) (c0 n : Nat) (l0 : List Int) (N : Int) (w : World) (hl0 : l0.length = n) (hn1 : 1 ≤ n) (hn2 : n ≤ 256) (hok : Ld.ok l0) (hr0 : Kd.C (Kd.int .i64) w A0 n l0) (hNn : 8 * (n : Int) < N) :
    Calls Try.prog 17 #[.slice A0 n c0, .int .i64 N] w fun r w' => r = .returned (.tuple #[.agg #[.slice none 0 0, .int .i64 0, .int .i64 0], .int .i64 6]) ∧ Below w.heap.size w w' := by
  have HM := Aside0.mk (show ∀ W : World, Kd.C (Kd.int .i64) W A0 n l0 → Calls Try.prog 35 #[.slice A0 n c0] W fun r w' => r = .returned (.bool true) ∧ ∃ d, w' = W.drewN d from fun W hC => by
    have h := may_calls A0 c0 l0 W (by rw [hl0]; exact hC)
    rw [okW_of l0 hok, hl0] at h
    exact h)
  have HC := Aside0.mk hr0
  have HL := Aside0.mk hl0
  have HOK := Aside0.mk hok
  have HN := Aside0.mk (And.intro hn1 hn2)
  obtain ⟨X0, hX0⟩ : ∃ X0, w.alloc (.cells #[.slice none 0 0, .int .i64 0, .int .i64 0] 29) = X0 := ⟨_, rfl⟩
  have HX := Aside0.mk (show Below w.heap.size w X0 from hX0 ▸ (Below.refl _ w).alloc (Nat.le_refl _) _)
  have HF := Aside0.mk (show X0.heap[w.heap.size]? = some (.cells #[.slice none 0 0, .int .i64 0, .int .i64 0] 29 (0, 0)) from hX0 ▸ blk_new w _)
  have d1 : decide (N < 0) = false := decide_eq_false (by omega)
  have i1 : IntKind.i64.wrap (8 * (n : Int)) = 8 * (n : Int) := by rw [IntKind.wrap_i64]; omega
  have d2 : decide (8 * (n : Int) < N) = true := decide_eq_true (by omega)
  have q3 : (n : Int) ≤ 256 := by omega
  clear hr0 hl0 hok hn1 hn2
  go_enter Try.func17, Try.ntmps17
  go_wp2_with (first
    | (go_at_call 34; (with_reducible refine (carr_true n HN.out.1 HN.out.2 _).mono ?_); rintro e w1 ⟨rfl, hw1⟩; (try rw [hX0] at hw1); (have HW1 := Aside0.mk (show Below w.heap.size w w1 ∧ w1.heap[w.heap.size]? = some (.cells #[.slice none 0 0, .int .i64 0, .int .i64 0] 29 (0, 0)) from by obtain ⟨d, rfl⟩ := hw1; exact ⟨HX.out.trans ⟨rfl, rfl, rfl, Nat.le_refl _, fun _ _ => rfl⟩, HF.out⟩)); clear hw1)
    | (go_at_call 35; (with_reducible refine (HM.out w1 (Kd.C_below HC.out HW1.out.1)).mono ?_); rintro e w2 ⟨rfl, hw2⟩; (have HW2 := Aside0.mk (show Below w.heap.size w w2 ∧ w2.heap[w.heap.size]? = some (.cells #[.slice none 0 0, .int .i64 0, .int .i64 0] 29 (0, 0)) from by obtain ⟨d, rfl⟩ := hw2; exact ⟨HW1.out.1.trans ⟨rfl, rfl, rfl, Nat.le_refl _, fun _ _ => rfl⟩, HW1.out.2⟩)); clear hw2)
    | (go_at_call 37; (with_reducible refine (made_calls A0 c0 l0 false n w2 HL.out HN.out.1 HN.out.2 HOK.out (Kd.C_below HC.out HW2.out.1)).mono ?_); rintro e w3 ⟨gT, rfl, hT, hb⟩; (have HT := Aside0.mk hT); (have HW3 := Aside0.mk (And.intro (below_step HW2.out.1 hb) (blk_below HW2.out.2 hb))); (obtain ⟨gk, kc, gN, f, h1, h2, h3, h4, h5⟩ := hT); (have kT : w3.cell? ⟨gT, 2, none⟩ = some (.slice (some ⟨gN, 0, none⟩) (n + 1) (n + 1)) := (blk_cell h1 2).trans rfl); clear h1 h2 h3 h4 h5 hb)
    | ((with_reducible refine gate_store (t := 29) (p := 4) rfl ?_); refine wpList_store_row rfl 29 (.tmp 4) (.tmp 39) rfl w.heap.size #[.slice none 0 0, .int .i64 0, .int .i64 0] rfl rfl 29 _ HW3.out.2 loadInfo rfl (by simp [Value.oneCell']) ?_))
  refine bodyPost_ret (results_of (p := 4) (u := 5) (ty := 29) rfl _ _ w.heap.size 29 #[.slice none 0 0, .int .i64 0, .int .i64 0] (0, 0) _ rfl (setRow_heap9 _ _ _ _ _ HW3.out.2) Try.underlying29 rfl loadInfo) rfl ?_
  exact ⟨rfl, below_row9 HW3.out.1 (Nat.le_refl _) _⟩
theorem least_bad (A0 : Option Addr) (c0 n : Nat) (l0 : List Int) (p : Int) (w : World) (hl0 : l0.length = n) (hr0 : Kd.C (Kd.int .i64) w A0 n l0) (hbad : ¬ (1 ≤ n ∧ n ≤ 256) ∨ okW l0 = false ∨ p < 0) :
    Calls Try.prog 17 #[.slice A0 n c0, .int .i64 p] w fun r w' => r = .returned (.tuple #[.agg #[.slice none 0 0, .int .i64 0, .int .i64 0], .int .i64 1]) ∧ Below w.heap.size w w' := by
  by_cases h1 : 1 ≤ n ∧ n ≤ 256
  · cases h2 : okW l0
    · exact least_bad2 A0 c0 n l0 p w hl0 h1 h2 hr0
    · rcases hbad with h | h | h
      · exact absurd h1 h
      · rw [h2] at h; cases h
      · exact least_bad3 A0 c0 n l0 p w hl0 h1 h2 hr0 h
  · exact least_bad1 A0 c0 n l0 p w h1
end Go.Proofs.Ytgmaiknbogcpgaa.Pure
