/- What a load has and costs. -/
import Derived.Test.YtgmaiknbogcpgaaFogx0
import Derived.Test.YtgmaiknbogcpgaaAt
namespace Go.Proofs.Ytgmaiknbogcpgaa.Pure
open Go.RowKit Go.Proofs.Ytgmaiknbogcpgaa.Fog Go.Proofs.YtgmaiknbogcpgaaW.PrintWords Go.Proofs.YtgmaiknbogcpgaaW.PrintLast Go.Proofs.YtgmaiknbogcpgaaW.PrintMore Go.Proofs.Ytgmaiknbogcpgaa.Kit
set_option linter.unusedVariables false
set_option linter.unusedSimpArgs false
/-- All bits and what they cost, if they may be. -/
def chkF : List Int → List Int → Int → Int → Option (Int × Int)
  | w :: ws, b :: bs, s, p => if hasB b then chkF ws bs (s + b) (p + w * Ld.E b.toNat) else none
  | _, _, s, p => some (s, p)
theorem hasB_rng {b : Int} (h : hasB b = true) : 0 ≤ b ∧ b ≤ 8 ∧ 0 ≤ Ld.E b.toNat := by
  unfold hasB at h
  simp only [Bool.and_eq_true, decide_eq_true_eq] at h
  exact ⟨h.1, h.2.1, h.2.2⟩
set_option maxHeartbeats 8000000 in
set_option maxRecDepth 100000 in
theorem check_any (A0 : Option Addr) (c0 n : Nat) (l0 : List Int) (A1 : Option Addr) (c1 : Nat) (lb : List Int) (w : World) (hl0 : l0.length = n) (hl1 : lb.length = n) (hn1 : 1 ≤ n) (hn2 : n ≤ 256) (hok : Ld.ok l0) (hr0 : Kd.C (Kd.int .i64) w A0 n l0) (hr1 : Kd.C (Kd.int .i64) w A1 n lb) (hc1 : n ≤ c1) :
    Calls Try.prog 14 #[.slice A0 n c0, .slice A1 n c1] w fun r w' => (∀ s p, chkF l0 lb 0 0 = some (s, p) → ∃ A k c, r = .returned (.tuple #[.agg #[.slice A k c, .int .i64 s, .int .i64 p], .int .i64 0]) ∧ Kd.R (Kd.int .i64) 3 w' w.heap.size (fun _ => True) (.slice A k c) lb) ∧ (chkF l0 lb 0 0 = none → r = .returned (.tuple #[.agg #[.slice none 0 0, .int .i64 0, .int .i64 0], .int .i64 1])) ∧ Below w.heap.size w w' := by
  have HM := Aside0.mk (show ∀ W : World, Kd.C (Kd.int .i64) W A0 n l0 → Calls Try.prog 35 #[.slice A0 n c0] W fun r w' => r = .returned (.bool true) ∧ ∃ d, w' = W.drewN d from fun W hC => by
    have h := may_calls A0 c0 l0 W (by rw [hl0]; exact hC)
    rw [okW_of l0 hok, hl0] at h
    exact h)
  have HC := Aside0.mk hr0
  have HL := Aside0.mk hl0
  have HOK := Aside0.mk hok
  have HN := Aside0.mk (And.intro hn1 hn2)
  obtain ⟨X0, hX0⟩ : ∃ X0, w.alloc (.cells #[.slice none 0 0, .int .i64 0, .int .i64 0] 29) = X0 := ⟨_, rfl⟩
  have HX := Aside0.mk (show Below w.heap.size w X0 from hX0 ▸ (Below.refl _ w).alloc (Nat.le_refl _) _)
  have HF := Aside0.mk (show X0.heap[w.heap.size]? = some (.cells #[.slice none 0 0, .int .i64 0, .int .i64 0] 29 (0, 0)) from hX0 ▸ blk_new w _)
  have HC1 := Aside0.mk hr1
  have HL1 := Aside0.mk hl1
  have HCL := Aside0.mk (show ∀ W : World, Kd.C (Kd.int .i64) W A1 n lb → Calls Try.prog 36 #[.slice A1 n c1] W fun e w' => ∃ v0_ : Value, e = .returned v0_ ∧ Kd.R (Kd.int .i64) 3 w' W.heap.size (fun _ => True) v0_ lb ∧ Below W.heap.size W w' from fun W hC => by
    have h := clone_int A1 c1 lb lb W (by rw [hl1]; exact hC) (by rw [hl1]; exact hc1) (by unfold cloneI; rw [if_pos (by omega)])
    rw [hl1] at h
    exact h)
  have q9 : (n : Int) ≤ 256 := by omega
  clear hr0 hr1 hl0 hl1 hok hn1 hn2 hc1
  go_enter Try.func14, Try.ntmps14
  go_wp2_with (first
    | (go_at_call 34; (with_reducible refine (carr_true n HN.out.1 HN.out.2 _).mono ?_); rintro e w1 ⟨rfl, hw1⟩; (try rw [hX0] at hw1); (have HW1 := Aside0.mk (show Below w.heap.size w w1 ∧ w1.heap[w.heap.size]? = some (.cells #[.slice none 0 0, .int .i64 0, .int .i64 0] 29 (0, 0)) from by obtain ⟨d, rfl⟩ := hw1; exact ⟨HX.out.trans ⟨rfl, rfl, rfl, Nat.le_refl _, fun _ _ => rfl⟩, HF.out⟩)); clear hw1)
    | (go_at_call 35; (with_reducible refine (HM.out w1 (Kd.C_below HC.out HW1.out.1)).mono ?_); rintro e w2 ⟨rfl, hw2⟩; (have HW2 := Aside0.mk (show Below w.heap.size w w2 ∧ w2.heap[w.heap.size]? = some (.cells #[.slice none 0 0, .int .i64 0, .int .i64 0] 29 (0, 0)) from by obtain ⟨d, rfl⟩ := hw2; exact ⟨HW1.out.1.trans ⟨rfl, rfl, rfl, Nat.le_refl _, fun _ _ => rfl⟩, HW1.out.2⟩)); clear hw2)
    | (go_at_call 36; (with_reducible refine (HCL.out w2 (Kd.C_below HC1.out HW2.out.1)).mono ?_); rintro e w3 ⟨v, rfl, hR, hb⟩; (obtain ⟨bA, bc, rfl⟩ := Kd.R_slice hR); rw [HL1.out] at hR ⊢; (have HLE := Aside0.mk hb.size); (have HR3 := Aside0.mk hR); (have HW3 := Aside0.mk (And.intro (below_step HW2.out.1 hb) (blk_below HW2.out.2 hb))); clear hR hb)
    | ((with_reducible refine gate_store (t := 29) (p := 6) rfl ?_); refine wpList_store_row rfl 29 (.tmp 6) (.tmp 30) rfl w3.heap.size #[.slice bA n bc, .int .i64 0, .int .i64 0] rfl rfl 29 _ (blk_new _ _) loadInfo rfl (by simp [Value.oneCell']) ?_))
  obtain ⟨gX, hgX⟩ : ∃ gX, w3.heap.size = gX := ⟨_, rfl⟩
  obtain ⟨W0, hW0⟩ : ∃ W0, (w3.alloc (.cells #[.slice none 0 0, .int .i64 0, .int .i64 0] 29)).setRow w3.heap.size #[.slice bA n bc, .int .i64 0, .int .i64 0] = W0 := ⟨_, rfl⟩
  have FX := Aside0.mk (show W0.heap[gX]? = some (.cells #[.slice bA n bc, .int .i64 0, .int .i64 0] 29 (0, 0)) from hW0 ▸ hgX ▸ setRow_heap9 _ _ _ _ _ (blk_new w3 _))
  have hb03 : Below w3.heap.size w3 W0 := hW0 ▸ below_row9 ((Below.refl _ w3).alloc (Nat.le_refl _) _) (Nat.le_refl _) _
  have HB0 := Aside0.mk (below_step HW3.out.1 hb03)
  have HZ0 := Aside0.mk (blk_below HW3.out.2 hb03)
  have HR0 := Aside0.mk (Kd.R_mono (Kd.R_below (Kd.R_bound HR3.out) hb03) (fun k hk => show w2.heap.size ≤ k ∧ k < gX from ⟨hk.2.1, hgX ▸ hk.2.2.1⟩))
  have HSX := Aside0.mk (show w.heap.size < w2.heap.size ∧ w2.heap.size ≤ gX from ⟨(Array.getElem?_eq_some_iff.1 HW2.out.2).1, by rw [← hgX]; exact HLE.out⟩)
  rw [hW0]
  try rw [hgX]
  clear hW0 hgX hb03 HW2 HW3 HR3 HM HCL HX HF HW1 hX0
  go_loopw [33] (fun iv wr => ∃ (i : Nat) (S Q : Int), i ≤ n ∧ iv = .int .i64 (i : Int) ∧ Aside0 (wr.heap[gX]? = some (.cells #[.slice bA n bc, .int .i64 S, .int .i64 Q] 29 (0, 0))) ∧ Aside0 (wr.heap[w.heap.size]? = some (.cells #[.slice none 0 0, .int .i64 0, .int .i64 0] 29 (0, 0))) ∧ Aside0 (Kd.R (Kd.int .i64) 3 wr w2.heap.size (fun k => w2.heap.size ≤ k ∧ k < gX) (.slice bA n bc) lb) ∧ Aside0 (Below w.heap.size w wr) ∧ Aside0 (chkF l0 lb 0 0 = chkF (l0.drop i) (lb.drop i) S Q ∧ (0 ≤ S ∧ S ≤ 8 * (i : Int)) ∧ (0 ≤ Q ∧ Q ≤ 178257920 * (i : Int)))) (fun iv _ => n - (intOf iv).toNat)
  case atStart => exact ⟨0, 0, 0, Nat.zero_le _, rfl, FX, HZ0, HR0, HB0, ⟨rfl, ⟨by omega, by omega⟩, ⟨by omega, by omega⟩⟩⟩
  case round =>
    obtain ⟨wk, rfl⟩ : ∃ wk : World, wk = wr := ⟨_, rfl⟩
    obtain ⟨i, S, Q, hi, rfl, GX, GZ, GR, GB, GF⟩ := hrel
    by_cases hlt : i < n
    · have q1 : (i : Int) < (n : Int) := by omega
      have hd0 : l0.drop i = l0.getD i 0 :: l0.drop (i + 1) := by
        have := HL.out
        rw [List.drop_eq_getElem_cons (by omega), List.getD_eq_getElem?_getD, List.getElem?_eq_getElem (by omega)]; rfl
      have hd1 : lb.drop i = lb.getD i 0 :: lb.drop (i + 1) := by
        have := HL1.out
        rw [List.drop_eq_getElem_cons (by omega), List.getD_eq_getElem?_getD, List.getElem?_eq_getElem (by omega)]; rfl
      have hwt : 1 ≤ l0.getD i 0 ∧ l0.getD i 0 ≤ 1048576 := by
        have := HL.out
        rw [List.getD_eq_getElem?_getD, List.getElem?_eq_getElem (by omega)]
        exact HOK.out.2 _ (List.getElem_mem (by omega))
      obtain ⟨ad0, hA0, k0⟩ := int_at (Kd.C_below HC.out GB.out) i hlt
      obtain ⟨ad1, hA1, k1⟩ := int_at (Kd.C_below HC1.out GB.out) i hlt
      subst hA0 hA1
      obtain ⟨g1, g2, g3⟩ := GF.out
      rw [hd0, hd1] at g1
      obtain ⟨wt, hwt2⟩ : ∃ wt, l0.getD i 0 = wt := ⟨_, rfl⟩
      obtain ⟨b, hb⟩ : ∃ b, lb.getD i 0 = b := ⟨_, rfl⟩
      rw [hwt2] at k0 g1 hwt
      rw [hb] at k1 g1
      have hcost := cost_any wt b
      have HLTI := Aside0.mk hlt
      by_cases hh : hasB b = true
      · have hcv : costV wt b = (wt * Ld.E b.toNat, 0) := by
          unfold costV
          rw [if_pos (by rw [(okW_one wt).mpr hwt, hh]; rfl)]
        rw [hcv] at hcost
        have hg1 : chkF (wt :: l0.drop (i + 1)) (b :: lb.drop (i + 1)) S Q = chkF (l0.drop (i + 1)) (lb.drop (i + 1)) (S + b) (Q + wt * Ld.E b.toNat) := by
          show (if hasB b then _ else _) = _
          rw [if_pos hh]
        rw [hg1] at g1
        obtain ⟨r1, r2, r3⟩ := hasB_rng hh
        have hM := Ld.wE wt hwt (Ld.E b.toNat) r3 (E_rng b r1 r2).2
        obtain ⟨M, hMe⟩ : ∃ M, wt * Ld.E b.toNat = M := ⟨_, rfl⟩
        rw [hMe] at hcost g1 hM
        have HCO := Aside0.mk (show ∀ W : World, Calls Try.prog 21 #[.int .i64 wt, .int .i64 b] W fun r w' => r = .returned (.tuple #[.int .i64 M, .int .i64 0]) ∧ Below W.heap.size W w' from hcost)
        have i1 : IntKind.i64.wrap (S + b) = S + b := by rw [IntKind.wrap_i64]; omega
        have i2 : IntKind.i64.wrap (Q + M) = Q + M := by rw [IntKind.wrap_i64]; omega
        have q2 : (i : Int) ≤ 256 := by omega
        have HG := Aside0.mk (show chkF l0 lb 0 0 = chkF (l0.drop (i + 1)) (lb.drop (i + 1)) (S + b) (Q + M) ∧ (0 ≤ S + b ∧ S + b ≤ 8 * ((i + 1 : Nat) : Int)) ∧ (0 ≤ Q + M ∧ Q + M ≤ 178257920 * ((i + 1 : Nat) : Int)) from ⟨g1, ⟨by omega, by omega⟩, ⟨by omega, by omega⟩⟩)
        clear hcost hcv hg1 g1 g2 g3 hMe hM r1 r2 r3 hd0 hd1 hwt hwt2 hb hh hlt hi GF
        go_wp2_with (go_at_call 21; (with_reducible refine (HCO.out wk).mono ?_); rintro e w5 ⟨rfl, hb⟩; (have X5 := Aside0.mk (blk_below GX.out hb)); (have Z5 := Aside0.mk (blk_below GZ.out hb)); (have R5 := Aside0.mk (Kd.R_below GR.out hb)); (have B5 := Aside0.mk (below_step GB.out hb)); (have c1 : w5.cell? ⟨gX, 1, none⟩ = some (.int .i64 S) := (blk_cell X5.out 1).trans rfl); (have c2 : w5.cell? ⟨gX, 2, none⟩ = some (.int .i64 Q) := (blk_cell X5.out 2).trans rfl); (have f1 : w5.frozen? ⟨gX, 1, none⟩ = false := blk_frozen X5.out 1); (have f2 : w5.frozen? ⟨gX, 2, none⟩ = false := blk_frozen X5.out 2); clear hb)
        refine ⟨⟨i + 1, S + b, Q + M, HLTI.out, by go_num, ⟨?_⟩, ⟨?_⟩, ⟨?_⟩, ⟨?_⟩, HG⟩, ?_⟩
        · exact blk_put (blk_put X5.out 1 (.int .i64 (S + b)) rfl) 2 (.int .i64 (Q + M)) rfl
        · exact (Below.heap_setCell _ _ _ _ (by show w.heap.size ≠ gX; have := HSX.out; omega)).trans ((Below.heap_setCell _ _ _ _ (by show w.heap.size ≠ gX; have := HSX.out; omega)).trans Z5.out)
        · exact Kd.R_far (Kd.R_far R5.out (p := ⟨gX, 1, none⟩) (fun k hk => by show k ≠ gX; omega) _) (p := ⟨gX, 2, none⟩) (fun k hk => by show k ≠ gX; omega) _
        · exact (B5.out.setCell (p := ⟨gX, 1, none⟩) (by show w.heap.size ≤ gX; have := HSX.out; omega) _).setCell (p := ⟨gX, 2, none⟩) (by show w.heap.size ≤ gX; have := HSX.out; omega) _
        · have := HLTI.out
          simp only [intOf]; omega
      · rw [Bool.not_eq_true] at hh
        have hcv : costV wt b = (0, 1) := by
          unfold costV
          rw [if_neg (by rw [hh]; simp)]
        rw [hcv] at hcost
        have hg1 : chkF (wt :: l0.drop (i + 1)) (b :: lb.drop (i + 1)) S Q = none := by
          show (if hasB b then _ else _) = _
          rw [if_neg (by rw [hh]; decide)]
        rw [hg1] at g1
        have HNO := Aside0.mk g1
        have HCO := Aside0.mk (show ∀ W : World, Calls Try.prog 21 #[.int .i64 wt, .int .i64 b] W fun r w' => r = .returned (.tuple #[.int .i64 0, .int .i64 1]) ∧ Below W.heap.size W w' from hcost)
        clear hcost hcv hg1 g1 g2 g3 hd0 hd1 hwt hwt2 hb hh hlt hi GF
        go_wp2_with (first
          | (go_at_call 21; (with_reducible refine (HCO.out wk).mono ?_); rintro e w5 ⟨rfl, hb⟩; (have Z5 := Aside0.mk (blk_below GZ.out hb)); (have B5 := Aside0.mk (below_step GB.out hb)); clear hb)
          | ((with_reducible refine gate_store (t := 29) (p := 4) rfl ?_); refine wpList_store_row rfl 29 (.tmp 4) (.tmp 49) rfl w.heap.size #[.slice none 0 0, .int .i64 0, .int .i64 0] rfl rfl 29 _ Z5.out loadInfo rfl (by simp [Value.oneCell']) ?_))
        refine bodyPost_ret (results_of (p := 4) (u := 5) (ty := 29) rfl _ _ w.heap.size 29 #[.slice none 0 0, .int .i64 0, .int .i64 0] (0, 0) _ rfl (setRow_heap9 _ _ _ _ _ Z5.out) Try.underlying29 rfl loadInfo) rfl ?_
        refine ⟨fun s p h => ?_, fun _ => rfl, below_row9 B5.out (Nat.le_refl _) _⟩
        rw [HNO.out] at h
        cases h
    · obtain rfl : i = n := by omega
      obtain ⟨g1, g2, g3⟩ := GF.out
      rw [List.drop_of_length_le (by have := HL.out; omega)] at g1
      have HG := Aside0.mk (show chkF l0 lb 0 0 = some (S, Q) from g1.trans (by unfold chkF; rfl))
      clear g1 g2 g3 GF
      go_wp2_with (first
        | ((with_reducible refine gate_dst (N := 62) rfl ?_); refine wpList_load_row rfl 29 (.tmp 6) rfl gX rfl 29 #[.slice bA i bc, .int .i64 S, .int .i64 Q] (0, 0) _ GX.out Try.underlying29 rfl loadInfo ?_)
        | ((with_reducible refine gate_store (t := 29) (p := 4) rfl ?_); refine wpList_store_row rfl 29 (.tmp 4) (.tmp 62) rfl w.heap.size #[.slice bA i bc, .int .i64 S, .int .i64 Q] rfl rfl 29 _ GZ.out loadInfo rfl (by simp [Value.oneCell']) ?_))
      refine bodyPost_ret (results_of (p := 4) (u := 5) (ty := 29) rfl _ _ w.heap.size 29 #[.slice bA i bc, .int .i64 S, .int .i64 Q] (0, 0) _ rfl (setRow_heap9 _ _ _ _ _ GZ.out) Try.underlying29 rfl loadInfo) rfl ?_
      refine ⟨fun s p h => ?_, fun h => ?_, below_row9 GB.out (Nat.le_refl _) _⟩
      · rw [HG.out] at h
        cases h
        exact ⟨bA, i, bc, rfl, Kd.R_lower (Kd.R_mono (Kd.R_step GR.out (fun k hk _ => setRow_other _ _ _ _ (by have := HSX.out; omega))) (fun _ _ => trivial)) (by have := HSX.out; omega)⟩
      · rw [HG.out] at h
        cases h
end Go.Proofs.Ytgmaiknbogcpgaa.Pure
