/- The best load at a power, the cheapest of so many bits. -/
import Derived.Test.YtgmaiknbogcpgaaFogx0
import Derived.Test.YtgmaiknbogcpgaaFogx1
import Derived.Test.YtgmaiknbogcpgaaFst
namespace Go.Proofs.Ytgmaiknbogcpgaa.Pure
open Go.RowKit Go.Proofs.Ytgmaiknbogcpgaa.Fog Go.Proofs.YtgmaiknbogcpgaaW.PrintWords Go.Proofs.YtgmaiknbogcpgaaW.PrintLast Go.Proofs.YtgmaiknbogcpgaaW.PrintMore Go.Proofs.Ytgmaiknbogcpgaa.Kit
set_option linter.unusedVariables false
set_option linter.unusedSimpArgs false
theorem okW_iff (l : List Int) : okW l = true ↔ ∀ x ∈ l, 1 ≤ x ∧ x ≤ 1048576 := by
  unfold okW
  rw [Bool.not_eq_true', List.any_eq_false]
  constructor
  · intro h x hx
    have := h x hx
    unfold badW at this
    simp only [Bool.or_eq_true, decide_eq_true_eq, not_or] at this
    omega
  · intro h x hx
    have := h x hx
    unfold badW
    simp only [Bool.or_eq_true, decide_eq_true_eq, not_or]
    omega
theorem ok_of (l : List Int) (h : okW l = true) (hn : l.length ≤ 256) : Ld.ok l := ⟨hn, (okW_iff l).mp h⟩
theorem okW_of (l : List Int) (h : Ld.ok l) : okW l = true := (okW_iff l).mpr h.2
theorem carr_true (n : Nat) (h1 : 1 ≤ n) (h2 : n ≤ 256) (w : World) : Calls Try.prog 34 #[.int .i64 (n : Int)] w fun r w' => r = .returned (.bool true) ∧ ∃ d, w' = w.drewN d := by
  have hf : load_carriers.f (n : Int) = some true := by
    unfold load_carriers.f
    rw [if_pos (by omega), decide_eq_true (by omega)]
  refine (load_carriers.calls (n : Int) true w hf).mono ?_
  rintro e w' ⟨rfl, ⟨d, rfl⟩⟩
  exact ⟨rfl, _, rfl⟩
theorem carr_false (n : Nat) (h : ¬ (1 ≤ n ∧ n ≤ 256)) (w : World) : Calls Try.prog 34 #[.int .i64 (n : Int)] w fun r w' => r = .returned (.bool false) ∧ ∃ d, w' = w.drewN d := by
  have hf : load_carriers.f (n : Int) = some false := by
    unfold load_carriers.f
    by_cases h1 : (n : Int) ≥ 1
    · rw [if_pos h1, decide_eq_false (by omega)]
    · rw [if_neg h1]
  refine (load_carriers.calls (n : Int) false w hf).mono ?_
  rintro e w' ⟨rfl, ⟨d, rfl⟩⟩
  exact ⟨rfl, _, rfl⟩
theorem R_row {T base b0 : Nat} {w1 : World} {v : Value} {xs : List Int} (h : Kd.R (Kd.int .i64) T w1 base (fun _ => True) v xs) {g : Nat} (cs : Array Value) (hg : g < base) (hb : b0 ≤ base) : Kd.R (Kd.int .i64) T (w1.setRow g cs) b0 (fun _ => True) v xs :=
  Kd.R_lower (Kd.R_mono (Kd.R_step (Kd.R_bound h) (fun k hk _ => setRow_other _ _ _ _ (by have := hk.2.1; omega))) (fun _ _ => trivial)) hb
set_option maxHeartbeats 8000000 in
set_option maxRecDepth 100000 in
theorem at_good (A0 : Option Addr) (c0 n : Nat) (l0 : List Int) (sq : Bool) (p : Int) (w : World) (hl0 : l0.length = n) (hn1 : 1 ≤ n) (hn2 : n ≤ 256) (hok : Ld.ok l0) (hr0 : Kd.C (Kd.int .i64) w A0 n l0) (hp0 : 0 ≤ p) (hp1 : p ≤ 1099511627776) :
    Calls Try.prog 33 #[.slice A0 n c0, .int .i64 p, .bool sq] w fun r w' => ∃ A k c, r = .returned (.tuple #[.agg #[.slice A k c, .int .i64 (Ld.best sq l0 p : Int), .int .i64 (Ld.need sq l0 (Ld.best sq l0 p))], .int .i64 0]) ∧ Kd.R (Kd.int .i64) 3 w' w.heap.size (fun _ => True) (.slice A k c) (bitsI (Ld.first sq l0 (Ld.best sq l0 p))) ∧ Below w.heap.size w w' := by
  have HM := Aside0.mk (show ∀ W : World, Kd.C (Kd.int .i64) W A0 n l0 → Calls Try.prog 35 #[.slice A0 n c0] W fun r w' => r = .returned (.bool true) ∧ ∃ d, w' = W.drewN d from fun W hC => by
    have h := may_calls A0 c0 l0 W (by rw [hl0]; exact hC)
    rw [okW_of l0 hok, hl0] at h
    exact h)
  have HPAY := Aside0.mk (show Ld.need sq l0 (Ld.best sq l0 p) ≤ p ∧ Ld.best sq l0 p ≤ 8 * n from ⟨Ld.best_pays sq l0 hok p hp0, hl0 ▸ Ld.best_le sq l0 p⟩)
  have HC := Aside0.mk hr0
  have HL := Aside0.mk hl0
  have HOK := Aside0.mk hok
  have HN := Aside0.mk (And.intro hn1 hn2)
  have d1 : decide (p < 0) = false := decide_eq_false (by omega)
  have d2 : decide (1099511627776 < p) = false := decide_eq_false (by omega)
  have HBE := Aside0.mk (show Ld.best sq l0 p = Ld.down (Ld.need sq l0) p (8 * n) by unfold Ld.best; rw [hl0])
  have hq : (n : Int) ≤ 256 := by omega
  obtain ⟨X0, hX0⟩ : ∃ X0, w.alloc (.cells #[.slice none 0 0, .int .i64 0, .int .i64 0] 29) = X0 := ⟨_, rfl⟩
  have HX := Aside0.mk (show Below w.heap.size w X0 from hX0 ▸ (Below.refl _ w).alloc (Nat.le_refl _) _)
  have HF := Aside0.mk (show X0.heap[w.heap.size]? = some (.cells #[.slice none 0 0, .int .i64 0, .int .i64 0] 29 (0, 0)) from hX0 ▸ blk_new w _)
  have HPP := Aside0.mk (And.intro hp0 hp1)
  clear hr0 hl0 hok hn1 hn2 hp0 hp1
  go_enter Try.func33, Try.ntmps33
  go_wp2_with (first
    | (go_at_call 34; (with_reducible refine (carr_true n HN.out.1 HN.out.2 _).mono ?_); rintro e w1 ⟨rfl, hw1⟩; (try rw [hX0] at hw1); (have HW1 := Aside0.mk (show Below w.heap.size w w1 ∧ w1.heap[w.heap.size]? = some (.cells #[.slice none 0 0, .int .i64 0, .int .i64 0] 29 (0, 0)) from by obtain ⟨d, rfl⟩ := hw1; exact ⟨HX.out.trans ⟨rfl, rfl, rfl, Nat.le_refl _, fun _ _ => rfl⟩, HF.out⟩)); clear hw1)
    | (go_at_call 35; (with_reducible refine (HM.out w1 (Kd.C_below HC.out HW1.out.1)).mono ?_); rintro e w2 ⟨rfl, hw2⟩; (have HW2 := Aside0.mk (show Below w.heap.size w w2 ∧ w2.heap[w.heap.size]? = some (.cells #[.slice none 0 0, .int .i64 0, .int .i64 0] 29 (0, 0)) from by obtain ⟨d, rfl⟩ := hw2; exact ⟨HW1.out.1.trans ⟨rfl, rfl, rfl, Nat.le_refl _, fun _ _ => rfl⟩, HW1.out.2⟩)); clear hw2)
    | (go_at_call 37; (with_reducible refine (made_calls A0 c0 l0 sq n w2 HL.out HN.out.1 HN.out.2 HOK.out (Kd.C_below HC.out HW2.out.1)).mono ?_); rintro e w3 ⟨gT, rfl, hT, hb⟩; (have HT := Aside0.mk hT); (have HW3 := Aside0.mk (And.intro (below_step HW2.out.1 hb) (blk_below HW2.out.2 hb))); clear hT hb))
  obtain ⟨gk, kc, gN, f, h1, h2, h3, h4, h5⟩ := HT.out
  have kT : w3.cell? ⟨gT, 2, none⟩ = some (.slice (some ⟨gN, 0, none⟩) (n + 1) (n + 1)) := (blk_cell h1 2).trans rfl
  have HCE := Aside0.mk (show ∀ m, m ≤ 2048 → w3.cell? ⟨gN, m, none⟩ = some (.int .i64 (Ld.need sq l0 m)) from fun m hm => by
    have h := h4.cell m (by have := HN.out; omega)
    have e := h5 0 (Nat.zero_le _) m hm
    rw [Nat.zero_mul, Nat.zero_add, List.drop_zero] at e
    rw [e] at h
    exact h)
  have HDU := Aside0.mk (show (0 : Int) ≤ 0 by omega)
  clear h1 h2 h3 h4 h5 hX0 HX HF HM
  have t0 : (0 : Int) < (n : Int) + 1 := by omega
  go_loopw [9] (fun mv wr => ∃ m : Nat, m ≤ 8 * n ∧ mv = .int .i64 (m : Int) ∧ Aside0 (Ld.best sq l0 p = Ld.down (Ld.need sq l0) p m) ∧ wr = w3) (fun mv _ => (intOf mv).toNat)
  case atStart => exact ⟨8 * n, Nat.le_refl _, by go_num, HBE, rfl⟩
  case round =>
    obtain ⟨m, hm, rfl, HD, rfl⟩ := hrel
    have hm2 : m ≤ 2048 := by have := HN.out; omega
    have kc := HCE.out m hm2
    have t1 : (m : Int) < 2049 := by omega
    by_cases hgt : p < Ld.need sq l0 m
    · have hm0 : m ≠ 0 := by
        intro e
        subst e
        rw [Ld.need_0 sq l0 HOK.out] at hgt
        have := HPP.out
        omega
      obtain ⟨m', rfl⟩ : ∃ m', m = m' + 1 := ⟨m - 1, by omega⟩
      have HD2 := Aside0.mk (show Ld.best sq l0 p = Ld.down (Ld.need sq l0) p m' from by
        rw [HD.out]
        show (if _ then _ else _) = _
        rw [if_neg (by omega)])
      obtain ⟨G, hG⟩ : ∃ G, Ld.need sq l0 (m' + 1) = G := ⟨_, rfl⟩
      rw [hG] at kc hgt
      have d3 : decide (p < G) = true := decide_eq_true hgt
      have HMM := Aside0.mk (And.intro hm hm2)
      clear hG hm hm2
      go_wp2
      refine ⟨⟨m', by have := HMM.out; omega, by go_num, HD2, by first | rfl | trivial⟩, ?_⟩
      simp only [intOf]; omega
    · have hbm : Ld.best sq l0 p = m := by
        rw [HD.out]
        cases m with
        | zero => rfl
        | succ m =>
          show (if _ then _ else _) = _
          rw [if_pos (by omega)]
      have HBM := Aside0.mk hbm
      obtain ⟨G, hG⟩ : ∃ G, Ld.need sq l0 m = G := ⟨_, rfl⟩
      rw [hG] at kc hgt
      have HG := Aside0.mk hG
      have d3 : decide (p < G) = false := decide_eq_false hgt
      have HM2 := Aside0.mk hm2
      have HLT := Aside0.mk (show Ld.need sq l0 m < Ld.never by rw [hG]; have e : Ld.never = 1152921504606846976 := rfl; have := HPP.out; omega)
      clear hG hm hm2 hbm
      go_wp2_with (first
        | (go_at_call 38; (with_reducible refine (first_calls gT A0 n c0 sq l0 m wr HL.out HN.out.1 HN.out.2 HOK.out HT.out (Kd.C_below HC.out HW3.out.1) HM2.out HLT.out).mono ?_); rintro e w4 ⟨v, rfl, hR, hb⟩; (obtain ⟨A4, c4, rfl⟩ := Kd.R_slice hR); rw [HG.out]; (have HR4 := Aside0.mk hR); (have HW4 := Aside0.mk (And.intro (below_step HW3.out.1 hb) (blk_below HW3.out.2 hb))); clear hR hb)
        | ((with_reducible refine gate_store (t := 29) (p := 6) rfl ?_); refine wpList_store_row rfl 29 (.tmp 6) (.tmp 48) rfl w.heap.size #[.slice A4 (bitsI (Ld.first sq l0 m)).length c4, .int .i64 (m : Int), .int .i64 G] rfl rfl 29 _ HW4.out.2 loadInfo rfl (by simp [Value.oneCell']) ?_))
      refine bodyPost_ret (results_of (p := 6) (u := 7) (ty := 29) rfl _ _ w.heap.size 29 #[.slice A4 (bitsI (Ld.first sq l0 m)).length c4, .int .i64 (m : Int), .int .i64 G] (0, 0) _ rfl (setRow_heap9 _ _ _ _ _ HW4.out.2) Try.underlying29 rfl loadInfo) rfl ?_
      rw [HBM.out]
      rw [← HG.out]
      exact ⟨A4, _, c4, rfl, R_row HR4.out _ (by have := (Array.getElem?_eq_some_iff.1 HW3.out.2).1; omega) (by have := HW3.out.1.size; omega), below_row9 HW4.out.1 (Nat.le_refl _) _⟩
set_option maxHeartbeats 4000000 in
set_option maxRecDepth 100000 in
theorem at_bad1 (A0 : Option Addr) (c0 n : Nat) (l0 : List Int) (sq : Bool) (p : Int) (w : World) (h : ¬ (1 ≤ n ∧ n ≤ 256)) : Calls Try.prog 33 #[.slice A0 n c0, .int .i64 p, .bool sq] w fun r w' => r = .returned (.tuple #[.agg #[.slice none 0 0, .int .i64 0, .int .i64 0], .int .i64 1]) ∧ Below w.heap.size w w' := by
  have HCA := Aside0.mk (carr_false n h)
  obtain ⟨X0, hX0⟩ : ∃ X0, w.alloc (.cells #[.slice none 0 0, .int .i64 0, .int .i64 0] 29) = X0 := ⟨_, rfl⟩
  have HX := Aside0.mk (show Below w.heap.size w X0 from hX0 ▸ (Below.refl _ w).alloc (Nat.le_refl _) _)
  have HF := Aside0.mk (show X0.heap[w.heap.size]? = some (.cells #[.slice none 0 0, .int .i64 0, .int .i64 0] 29 (0, 0)) from hX0 ▸ blk_new w _)
  clear h
  go_enter Try.func33, Try.ntmps33
  go_wp2_with (first
    | (go_at_call 34; (with_reducible refine (HCA.out _).mono ?_); rintro e w1 ⟨rfl, hw1⟩; (try rw [hX0] at hw1); (have HW1 := Aside0.mk (show Below w.heap.size w w1 ∧ w1.heap[w.heap.size]? = some (.cells #[.slice none 0 0, .int .i64 0, .int .i64 0] 29 (0, 0)) from by obtain ⟨d, rfl⟩ := hw1; exact ⟨HX.out.trans ⟨rfl, rfl, rfl, Nat.le_refl _, fun _ _ => rfl⟩, HF.out⟩)); clear hw1)
    | ((with_reducible refine gate_store (t := 29) (p := 6) rfl ?_); refine wpList_store_row rfl 29 (.tmp 6) (.tmp 27) rfl w.heap.size #[.slice none 0 0, .int .i64 0, .int .i64 0] rfl rfl 29 _ HW1.out.2 loadInfo rfl (by simp [Value.oneCell']) ?_))
  refine bodyPost_ret (results_of (p := 6) (u := 7) (ty := 29) rfl _ _ w.heap.size 29 #[.slice none 0 0, .int .i64 0, .int .i64 0] (0, 0) _ rfl (setRow_heap9 _ _ _ _ _ HW1.out.2) Try.underlying29 rfl loadInfo) rfl ?_
  exact ⟨rfl, below_row9 HW1.out.1 (Nat.le_refl _) _⟩
set_option maxHeartbeats 4000000 in
set_option maxRecDepth 100000 in
theorem at_bad2 (A0 : Option Addr) (c0 n : Nat) (l0 : List Int) (sq : Bool) (p : Int) (w : World) (hl0 : l0.length = n) (hn : 1 ≤ n ∧ n ≤ 256) (hok : okW l0 = false) (hr0 : Kd.C (Kd.int .i64) w A0 n l0) : Calls Try.prog 33 #[.slice A0 n c0, .int .i64 p, .bool sq] w fun r w' => r = .returned (.tuple #[.agg #[.slice none 0 0, .int .i64 0, .int .i64 0], .int .i64 1]) ∧ Below w.heap.size w w' := by
  have HCA := Aside0.mk (carr_true n hn.1 hn.2)
  have HM := Aside0.mk (show ∀ W : World, Kd.C (Kd.int .i64) W A0 n l0 → Calls Try.prog 35 #[.slice A0 n c0] W fun r w' => r = .returned (.bool false) ∧ ∃ d, w' = W.drewN d from fun W hC => by
    have h := may_calls A0 c0 l0 W (by rw [hl0]; exact hC)
    rw [hok, hl0] at h
    exact h)
  have HC := Aside0.mk hr0
  obtain ⟨X0, hX0⟩ : ∃ X0, w.alloc (.cells #[.slice none 0 0, .int .i64 0, .int .i64 0] 29) = X0 := ⟨_, rfl⟩
  have HX := Aside0.mk (show Below w.heap.size w X0 from hX0 ▸ (Below.refl _ w).alloc (Nat.le_refl _) _)
  have HF := Aside0.mk (show X0.heap[w.heap.size]? = some (.cells #[.slice none 0 0, .int .i64 0, .int .i64 0] 29 (0, 0)) from hX0 ▸ blk_new w _)
  clear hr0 hl0 hok hn
  go_enter Try.func33, Try.ntmps33
  go_wp2_with (first
    | (go_at_call 34; (with_reducible refine (HCA.out _).mono ?_); rintro e w1 ⟨rfl, hw1⟩; (try rw [hX0] at hw1); (have HW1 := Aside0.mk (show Below w.heap.size w w1 ∧ w1.heap[w.heap.size]? = some (.cells #[.slice none 0 0, .int .i64 0, .int .i64 0] 29 (0, 0)) from by obtain ⟨d, rfl⟩ := hw1; exact ⟨HX.out.trans ⟨rfl, rfl, rfl, Nat.le_refl _, fun _ _ => rfl⟩, HF.out⟩)); clear hw1)
    | (go_at_call 35; (with_reducible refine (HM.out w1 (Kd.C_below HC.out HW1.out.1)).mono ?_); rintro e w2 ⟨rfl, hw2⟩; (have HW2 := Aside0.mk (show Below w.heap.size w w2 ∧ w2.heap[w.heap.size]? = some (.cells #[.slice none 0 0, .int .i64 0, .int .i64 0] 29 (0, 0)) from by obtain ⟨d, rfl⟩ := hw2; exact ⟨HW1.out.1.trans ⟨rfl, rfl, rfl, Nat.le_refl _, fun _ _ => rfl⟩, HW1.out.2⟩)); clear hw2)
    | ((with_reducible refine gate_store (t := 29) (p := 6) rfl ?_); refine wpList_store_row rfl 29 (.tmp 6) (.tmp 27) rfl w.heap.size #[.slice none 0 0, .int .i64 0, .int .i64 0] rfl rfl 29 _ HW2.out.2 loadInfo rfl (by simp [Value.oneCell']) ?_))
  refine bodyPost_ret (results_of (p := 6) (u := 7) (ty := 29) rfl _ _ w.heap.size 29 #[.slice none 0 0, .int .i64 0, .int .i64 0] (0, 0) _ rfl (setRow_heap9 _ _ _ _ _ HW2.out.2) Try.underlying29 rfl loadInfo) rfl ?_
  exact ⟨rfl, below_row9 HW2.out.1 (Nat.le_refl _) _⟩
set_option maxHeartbeats 4000000 in
set_option maxRecDepth 100000 in
theorem at_bad3 (A0 : Option Addr) (c0 n : Nat) (l0 : List Int) (sq : Bool) (p : Int) (w : World) (hl0 : l0.length = n) (hn : 1 ≤ n ∧ n ≤ 256) (hok : okW l0 = true) (hr0 : Kd.C (Kd.int .i64) w A0 n l0) (hp : p < 0) : Calls Try.prog 33 #[.slice A0 n c0, .int .i64 p, .bool sq] w fun r w' => r = .returned (.tuple #[.agg #[.slice none 0 0, .int .i64 0, .int .i64 0], .int .i64 1]) ∧ Below w.heap.size w w' := by
  have HCA := Aside0.mk (carr_true n hn.1 hn.2)
  have HM := Aside0.mk (show ∀ W : World, Kd.C (Kd.int .i64) W A0 n l0 → Calls Try.prog 35 #[.slice A0 n c0] W fun r w' => r = .returned (.bool true) ∧ ∃ d, w' = W.drewN d from fun W hC => by
    have h := may_calls A0 c0 l0 W (by rw [hl0]; exact hC)
    rw [hok, hl0] at h
    exact h)
  have HC := Aside0.mk hr0
  obtain ⟨X0, hX0⟩ : ∃ X0, w.alloc (.cells #[.slice none 0 0, .int .i64 0, .int .i64 0] 29) = X0 := ⟨_, rfl⟩
  have HX := Aside0.mk (show Below w.heap.size w X0 from hX0 ▸ (Below.refl _ w).alloc (Nat.le_refl _) _)
  have HF := Aside0.mk (show X0.heap[w.heap.size]? = some (.cells #[.slice none 0 0, .int .i64 0, .int .i64 0] 29 (0, 0)) from hX0 ▸ blk_new w _)
  have d1 : decide (p < 0) = true := decide_eq_true hp
  clear hr0 hl0 hok hn hp
  go_enter Try.func33, Try.ntmps33
  go_wp2_with (first
    | (go_at_call 34; (with_reducible refine (HCA.out _).mono ?_); rintro e w1 ⟨rfl, hw1⟩; (try rw [hX0] at hw1); (have HW1 := Aside0.mk (show Below w.heap.size w w1 ∧ w1.heap[w.heap.size]? = some (.cells #[.slice none 0 0, .int .i64 0, .int .i64 0] 29 (0, 0)) from by obtain ⟨d, rfl⟩ := hw1; exact ⟨HX.out.trans ⟨rfl, rfl, rfl, Nat.le_refl _, fun _ _ => rfl⟩, HF.out⟩)); clear hw1)
    | (go_at_call 35; (with_reducible refine (HM.out w1 (Kd.C_below HC.out HW1.out.1)).mono ?_); rintro e w2 ⟨rfl, hw2⟩; (have HW2 := Aside0.mk (show Below w.heap.size w w2 ∧ w2.heap[w.heap.size]? = some (.cells #[.slice none 0 0, .int .i64 0, .int .i64 0] 29 (0, 0)) from by obtain ⟨d, rfl⟩ := hw2; exact ⟨HW1.out.1.trans ⟨rfl, rfl, rfl, Nat.le_refl _, fun _ _ => rfl⟩, HW1.out.2⟩)); clear hw2)
    | ((with_reducible refine gate_store (t := 29) (p := 6) rfl ?_); refine wpList_store_row rfl 29 (.tmp 6) (.tmp 27) rfl w.heap.size #[.slice none 0 0, .int .i64 0, .int .i64 0] rfl rfl 29 _ HW2.out.2 loadInfo rfl (by simp [Value.oneCell']) ?_))
  refine bodyPost_ret (results_of (p := 6) (u := 7) (ty := 29) rfl _ _ w.heap.size 29 #[.slice none 0 0, .int .i64 0, .int .i64 0] (0, 0) _ rfl (setRow_heap9 _ _ _ _ _ HW2.out.2) Try.underlying29 rfl loadInfo) rfl ?_
  exact ⟨rfl, below_row9 HW2.out.1 (Nat.le_refl _) _⟩
set_option maxHeartbeats 4000000 in
set_option maxRecDepth 100000 in
theorem at_bad4 (A0 : Option Addr) (c0 n : Nat) (l0 : List Int) (sq : Bool) (p : Int) (w : World) (hl0 : l0.length = n) (hn : 1 ≤ n ∧ n ≤ 256) (hok : okW l0 = true) (hr0 : Kd.C (Kd.int .i64) w A0 n l0) (hp : 1099511627776 < p) : Calls Try.prog 33 #[.slice A0 n c0, .int .i64 p, .bool sq] w fun r w' => r = .returned (.tuple #[.agg #[.slice none 0 0, .int .i64 0, .int .i64 0], .int .i64 1]) ∧ Below w.heap.size w w' := by
  have HCA := Aside0.mk (carr_true n hn.1 hn.2)
  have HM := Aside0.mk (show ∀ W : World, Kd.C (Kd.int .i64) W A0 n l0 → Calls Try.prog 35 #[.slice A0 n c0] W fun r w' => r = .returned (.bool true) ∧ ∃ d, w' = W.drewN d from fun W hC => by
    have h := may_calls A0 c0 l0 W (by rw [hl0]; exact hC)
    rw [hok, hl0] at h
    exact h)
  have HC := Aside0.mk hr0
  obtain ⟨X0, hX0⟩ : ∃ X0, w.alloc (.cells #[.slice none 0 0, .int .i64 0, .int .i64 0] 29) = X0 := ⟨_, rfl⟩
  have HX := Aside0.mk (show Below w.heap.size w X0 from hX0 ▸ (Below.refl _ w).alloc (Nat.le_refl _) _)
  have HF := Aside0.mk (show X0.heap[w.heap.size]? = some (.cells #[.slice none 0 0, .int .i64 0, .int .i64 0] 29 (0, 0)) from hX0 ▸ blk_new w _)
  have d1 : decide (p < 0) = false := decide_eq_false (by omega)
  have d2 : decide (1099511627776 < p) = true := decide_eq_true hp
  clear hr0 hl0 hok hn hp
  go_enter Try.func33, Try.ntmps33
  go_wp2_with (first
    | (go_at_call 34; (with_reducible refine (HCA.out _).mono ?_); rintro e w1 ⟨rfl, hw1⟩; (try rw [hX0] at hw1); (have HW1 := Aside0.mk (show Below w.heap.size w w1 ∧ w1.heap[w.heap.size]? = some (.cells #[.slice none 0 0, .int .i64 0, .int .i64 0] 29 (0, 0)) from by obtain ⟨d, rfl⟩ := hw1; exact ⟨HX.out.trans ⟨rfl, rfl, rfl, Nat.le_refl _, fun _ _ => rfl⟩, HF.out⟩)); clear hw1)
    | (go_at_call 35; (with_reducible refine (HM.out w1 (Kd.C_below HC.out HW1.out.1)).mono ?_); rintro e w2 ⟨rfl, hw2⟩; (have HW2 := Aside0.mk (show Below w.heap.size w w2 ∧ w2.heap[w.heap.size]? = some (.cells #[.slice none 0 0, .int .i64 0, .int .i64 0] 29 (0, 0)) from by obtain ⟨d, rfl⟩ := hw2; exact ⟨HW1.out.1.trans ⟨rfl, rfl, rfl, Nat.le_refl _, fun _ _ => rfl⟩, HW1.out.2⟩)); clear hw2)
    | ((with_reducible refine gate_store (t := 29) (p := 6) rfl ?_); refine wpList_store_row rfl 29 (.tmp 6) (.tmp 27) rfl w.heap.size #[.slice none 0 0, .int .i64 0, .int .i64 0] rfl rfl 29 _ HW2.out.2 loadInfo rfl (by simp [Value.oneCell']) ?_))
  refine bodyPost_ret (results_of (p := 6) (u := 7) (ty := 29) rfl _ _ w.heap.size 29 #[.slice none 0 0, .int .i64 0, .int .i64 0] (0, 0) _ rfl (setRow_heap9 _ _ _ _ _ HW2.out.2) Try.underlying29 rfl loadInfo) rfl ?_
  exact ⟨rfl, below_row9 HW2.out.1 (Nat.le_refl _) _⟩
theorem at_bad (A0 : Option Addr) (c0 n : Nat) (l0 : List Int) (sq : Bool) (p : Int) (w : World) (hl0 : l0.length = n) (hr0 : Kd.C (Kd.int .i64) w A0 n l0) (hbad : ¬ (1 ≤ n ∧ n ≤ 256) ∨ okW l0 = false ∨ p < 0 ∨ 1099511627776 < p) :
    Calls Try.prog 33 #[.slice A0 n c0, .int .i64 p, .bool sq] w fun r w' => r = .returned (.tuple #[.agg #[.slice none 0 0, .int .i64 0, .int .i64 0], .int .i64 1]) ∧ Below w.heap.size w w' := by
  by_cases h1 : 1 ≤ n ∧ n ≤ 256
  · cases h2 : okW l0
    · exact at_bad2 A0 c0 n l0 sq p w hl0 h1 h2 hr0
    · rcases hbad with h | h | h | h
      · exact absurd h1 h
      · rw [h2] at h; cases h
      · exact at_bad3 A0 c0 n l0 sq p w hl0 h1 h2 hr0 h
      · exact at_bad4 A0 c0 n l0 sq p w hl0 h1 h2 hr0 h
  · exact at_bad1 A0 c0 n l0 sq p w h1
set_option maxHeartbeats 4000000 in
set_option maxRecDepth 100000 in
theorem most_good (A0 : Option Addr) (c0 n : Nat) (l0 : List Int) (p : Int) (w : World) (hl0 : l0.length = n) (hn1 : 1 ≤ n) (hn2 : n ≤ 256) (hok : Ld.ok l0) (hr0 : Kd.C (Kd.int .i64) w A0 n l0) (hp0 : 0 ≤ p) (hp1 : p ≤ 1099511627776) :
    Calls Try.prog 10 #[.slice A0 n c0, .int .i64 p] w fun r w' => ∃ A k c, r = .returned (.tuple #[.agg #[.slice A k c, .int .i64 (Ld.best false l0 p : Int), .int .i64 (Ld.need false l0 (Ld.best false l0 p))], .int .i64 0]) ∧ Kd.R (Kd.int .i64) 3 w' w.heap.size (fun _ => True) (.slice A k c) (bitsI (Ld.first false l0 (Ld.best false l0 p))) ∧ Below w.heap.size w w' := by
  have HX := Aside0.mk (show Below w.heap.size w (w.alloc (.cells #[.slice none 0 0, .int .i64 0, .int .i64 0] 29)) from (Below.refl _ w).alloc (Nat.le_refl _) _)
  have HF := Aside0.mk (show (w.alloc (.cells #[.slice none 0 0, .int .i64 0, .int .i64 0] 29)).heap[w.heap.size]? = some (.cells #[.slice none 0 0, .int .i64 0, .int .i64 0] 29 (0, 0)) from blk_new w _)
  have HA := Aside0.mk (at_good A0 c0 n l0 false p (w.alloc (.cells #[.slice none 0 0, .int .i64 0, .int .i64 0] 29)) hl0 hn1 hn2 hok (Kd.C_below hr0 HX.out) hp0 hp1)
  obtain ⟨B, hB⟩ : ∃ B : Int, (Ld.best false l0 p : Int) = B := ⟨_, rfl⟩
  obtain ⟨G, hG⟩ : ∃ G, Ld.need false l0 (Ld.best false l0 p) = G := ⟨_, rfl⟩
  rw [hB, hG] at HA
  rw [hB, hG]
  clear hr0 hl0 hok hn1 hn2 hp0 hp1
  go_enter Try.func10, Try.ntmps10
  go_wp2_with (first
    | (go_at_call 33; (with_reducible refine (HA.out).mono ?_); rintro e w4 ⟨A4, k4, c4, rfl, hR, hb⟩; (have HR4 := Aside0.mk hR); (have HW4 := Aside0.mk (And.intro (below_step HX.out hb) (blk_below HF.out hb))); clear hR hb)
    | ((with_reducible refine gate_store (t := 29) (p := 4) rfl ?_); refine wpList_store_row rfl 29 (.tmp 4) (.tmp 9) rfl w.heap.size #[.slice A4 k4 c4, .int .i64 B, .int .i64 G] rfl rfl 29 _ HW4.out.2 loadInfo rfl (by simp [Value.oneCell']) ?_))
  refine bodyPost_ret (results_of (p := 4) (u := 5) (ty := 29) rfl _ _ w.heap.size 29 #[.slice A4 k4 c4, .int .i64 B, .int .i64 G] (0, 0) _ rfl (setRow_heap9 _ _ _ _ _ HW4.out.2) Try.underlying29 rfl loadInfo) rfl ?_
  exact ⟨A4, _, c4, rfl, R_row HR4.out _ (by simp) (by simp), below_row9 HW4.out.1 (Nat.le_refl _) _⟩
theorem most_bad (A0 : Option Addr) (c0 n : Nat) (l0 : List Int) (p : Int) (w : World) (hl0 : l0.length = n) (hr0 : Kd.C (Kd.int .i64) w A0 n l0) (hbad : ¬ (1 ≤ n ∧ n ≤ 256) ∨ okW l0 = false ∨ p < 0 ∨ 1099511627776 < p) :
    Calls Try.prog 10 #[.slice A0 n c0, .int .i64 p] w fun r w' => r = .returned (.tuple #[.agg #[.slice none 0 0, .int .i64 0, .int .i64 0], .int .i64 1]) ∧ Below w.heap.size w w' := by
  have HX := Aside0.mk (show Below w.heap.size w (w.alloc (.cells #[.slice none 0 0, .int .i64 0, .int .i64 0] 29)) from (Below.refl _ w).alloc (Nat.le_refl _) _)
  have HF := Aside0.mk (show (w.alloc (.cells #[.slice none 0 0, .int .i64 0, .int .i64 0] 29)).heap[w.heap.size]? = some (.cells #[.slice none 0 0, .int .i64 0, .int .i64 0] 29 (0, 0)) from blk_new w _)
  have HA := Aside0.mk (at_bad A0 c0 n l0 false p (w.alloc (.cells #[.slice none 0 0, .int .i64 0, .int .i64 0] 29)) hl0 (Kd.C_below hr0 HX.out) hbad)
  clear hr0 hl0 hbad
  go_enter Try.func10, Try.ntmps10
  go_wp2_with (first
    | (go_at_call 33; (with_reducible refine (HA.out).mono ?_); rintro e w4 ⟨rfl, hb⟩; (have HW4 := Aside0.mk (And.intro (below_step HX.out hb) (blk_below HF.out hb))); clear hb)
    | ((with_reducible refine gate_store (t := 29) (p := 4) rfl ?_); refine wpList_store_row rfl 29 (.tmp 4) (.tmp 9) rfl w.heap.size #[.slice none 0 0, .int .i64 0, .int .i64 0] rfl rfl 29 _ HW4.out.2 loadInfo rfl (by simp [Value.oneCell']) ?_))
  refine bodyPost_ret (results_of (p := 4) (u := 5) (ty := 29) rfl _ _ w.heap.size 29 #[.slice none 0 0, .int .i64 0, .int .i64 0] (0, 0) _ rfl (setRow_heap9 _ _ _ _ _ HW4.out.2) Try.underlying29 rfl loadInfo) rfl ?_
  exact ⟨rfl, below_row9 HW4.out.1 (Nat.le_refl _) _⟩
set_option maxHeartbeats 4000000 in
set_option maxRecDepth 100000 in
theorem squares_good (A0 : Option Addr) (c0 n : Nat) (l0 : List Int) (p : Int) (w : World) (hl0 : l0.length = n) (hn1 : 1 ≤ n) (hn2 : n ≤ 256) (hok : Ld.ok l0) (hr0 : Kd.C (Kd.int .i64) w A0 n l0) (hp0 : 0 ≤ p) (hp1 : p ≤ 1099511627776) :
    Calls Try.prog 11 #[.slice A0 n c0, .int .i64 p] w fun r w' => ∃ A k c, r = .returned (.tuple #[.agg #[.slice A k c, .int .i64 (Ld.best true l0 p : Int), .int .i64 (Ld.need true l0 (Ld.best true l0 p))], .int .i64 0]) ∧ Kd.R (Kd.int .i64) 3 w' w.heap.size (fun _ => True) (.slice A k c) (bitsI (Ld.first true l0 (Ld.best true l0 p))) ∧ Below w.heap.size w w' := by
  have HX := Aside0.mk (show Below w.heap.size w (w.alloc (.cells #[.slice none 0 0, .int .i64 0, .int .i64 0] 29)) from (Below.refl _ w).alloc (Nat.le_refl _) _)
  have HF := Aside0.mk (show (w.alloc (.cells #[.slice none 0 0, .int .i64 0, .int .i64 0] 29)).heap[w.heap.size]? = some (.cells #[.slice none 0 0, .int .i64 0, .int .i64 0] 29 (0, 0)) from blk_new w _)
  have HA := Aside0.mk (at_good A0 c0 n l0 true p (w.alloc (.cells #[.slice none 0 0, .int .i64 0, .int .i64 0] 29)) hl0 hn1 hn2 hok (Kd.C_below hr0 HX.out) hp0 hp1)
  obtain ⟨B, hB⟩ : ∃ B : Int, (Ld.best true l0 p : Int) = B := ⟨_, rfl⟩
  obtain ⟨G, hG⟩ : ∃ G, Ld.need true l0 (Ld.best true l0 p) = G := ⟨_, rfl⟩
  rw [hB, hG] at HA
  rw [hB, hG]
  clear hr0 hl0 hok hn1 hn2 hp0 hp1
  go_enter Try.func11, Try.ntmps11
  go_wp2_with (first
    | (go_at_call 33; (with_reducible refine (HA.out).mono ?_); rintro e w4 ⟨A4, k4, c4, rfl, hR, hb⟩; (have HR4 := Aside0.mk hR); (have HW4 := Aside0.mk (And.intro (below_step HX.out hb) (blk_below HF.out hb))); clear hR hb)
    | ((with_reducible refine gate_store (t := 29) (p := 4) rfl ?_); refine wpList_store_row rfl 29 (.tmp 4) (.tmp 9) rfl w.heap.size #[.slice A4 k4 c4, .int .i64 B, .int .i64 G] rfl rfl 29 _ HW4.out.2 loadInfo rfl (by simp [Value.oneCell']) ?_))
  refine bodyPost_ret (results_of (p := 4) (u := 5) (ty := 29) rfl _ _ w.heap.size 29 #[.slice A4 k4 c4, .int .i64 B, .int .i64 G] (0, 0) _ rfl (setRow_heap9 _ _ _ _ _ HW4.out.2) Try.underlying29 rfl loadInfo) rfl ?_
  exact ⟨A4, _, c4, rfl, R_row HR4.out _ (by simp) (by simp), below_row9 HW4.out.1 (Nat.le_refl _) _⟩
theorem squares_bad (A0 : Option Addr) (c0 n : Nat) (l0 : List Int) (p : Int) (w : World) (hl0 : l0.length = n) (hr0 : Kd.C (Kd.int .i64) w A0 n l0) (hbad : ¬ (1 ≤ n ∧ n ≤ 256) ∨ okW l0 = false ∨ p < 0 ∨ 1099511627776 < p) :
    Calls Try.prog 11 #[.slice A0 n c0, .int .i64 p] w fun r w' => r = .returned (.tuple #[.agg #[.slice none 0 0, .int .i64 0, .int .i64 0], .int .i64 1]) ∧ Below w.heap.size w w' := by
  have HX := Aside0.mk (show Below w.heap.size w (w.alloc (.cells #[.slice none 0 0, .int .i64 0, .int .i64 0] 29)) from (Below.refl _ w).alloc (Nat.le_refl _) _)
  have HF := Aside0.mk (show (w.alloc (.cells #[.slice none 0 0, .int .i64 0, .int .i64 0] 29)).heap[w.heap.size]? = some (.cells #[.slice none 0 0, .int .i64 0, .int .i64 0] 29 (0, 0)) from blk_new w _)
  have HA := Aside0.mk (at_bad A0 c0 n l0 true p (w.alloc (.cells #[.slice none 0 0, .int .i64 0, .int .i64 0] 29)) hl0 (Kd.C_below hr0 HX.out) hbad)
  clear hr0 hl0 hbad
  go_enter Try.func11, Try.ntmps11
  go_wp2_with (first
    | (go_at_call 33; (with_reducible refine (HA.out).mono ?_); rintro e w4 ⟨rfl, hb⟩; (have HW4 := Aside0.mk (And.intro (below_step HX.out hb) (blk_below HF.out hb))); clear hb)
    | ((with_reducible refine gate_store (t := 29) (p := 4) rfl ?_); refine wpList_store_row rfl 29 (.tmp 4) (.tmp 9) rfl w.heap.size #[.slice none 0 0, .int .i64 0, .int .i64 0] rfl rfl 29 _ HW4.out.2 loadInfo rfl (by simp [Value.oneCell']) ?_))
  refine bodyPost_ret (results_of (p := 4) (u := 5) (ty := 29) rfl _ _ w.heap.size 29 #[.slice none 0 0, .int .i64 0, .int .i64 0] (0, 0) _ rfl (setRow_heap9 _ _ _ _ _ HW4.out.2) Try.underlying29 rfl loadInfo) rfl ?_
  exact ⟨rfl, below_row9 HW4.out.1 (Nat.le_refl _) _⟩
set_option maxHeartbeats 4000000 in
set_option maxRecDepth 100000 in
theorem least_bad1 (A0 : Option Addr) (c0 n : Nat) (l0 : List Int) (p : Int) (w : World) (h : ¬ (1 ≤ n ∧ n ≤ 256)) : Calls Try.prog 17 #[.slice A0 n c0, .int .i64 p] w fun r w' => r = .returned (.tuple #[.agg #[.slice none 0 0, .int .i64 0, .int .i64 0], .int .i64 1]) ∧ Below w.heap.size w w' := by
  have HCA := Aside0.mk (carr_false n h)
  obtain ⟨X0, hX0⟩ : ∃ X0, w.alloc (.cells #[.slice none 0 0, .int .i64 0, .int .i64 0] 29) = X0 := ⟨_, rfl⟩
  have HX := Aside0.mk (show Below w.heap.size w X0 from hX0 ▸ (Below.refl _ w).alloc (Nat.le_refl _) _)
  have HF := Aside0.mk (show X0.heap[w.heap.size]? = some (.cells #[.slice none 0 0, .int .i64 0, .int .i64 0] 29 (0, 0)) from hX0 ▸ blk_new w _)
  clear h
  go_enter Try.func17, Try.ntmps17
  go_wp2_with (first
    | (go_at_call 34; (with_reducible refine (HCA.out _).mono ?_); rintro e w1 ⟨rfl, hw1⟩; (try rw [hX0] at hw1); (have HW1 := Aside0.mk (show Below w.heap.size w w1 ∧ w1.heap[w.heap.size]? = some (.cells #[.slice none 0 0, .int .i64 0, .int .i64 0] 29 (0, 0)) from by obtain ⟨d, rfl⟩ := hw1; exact ⟨HX.out.trans ⟨rfl, rfl, rfl, Nat.le_refl _, fun _ _ => rfl⟩, HF.out⟩)); clear hw1)
    | ((with_reducible refine gate_store (t := 29) (p := 4) rfl ?_); refine wpList_store_row rfl 29 (.tmp 4) (.tmp 20) rfl w.heap.size #[.slice none 0 0, .int .i64 0, .int .i64 0] rfl rfl 29 _ HW1.out.2 loadInfo rfl (by simp [Value.oneCell']) ?_))
  refine bodyPost_ret (results_of (p := 4) (u := 5) (ty := 29) rfl _ _ w.heap.size 29 #[.slice none 0 0, .int .i64 0, .int .i64 0] (0, 0) _ rfl (setRow_heap9 _ _ _ _ _ HW1.out.2) Try.underlying29 rfl loadInfo) rfl ?_
  exact ⟨rfl, below_row9 HW1.out.1 (Nat.le_refl _) _⟩
set_option maxHeartbeats 4000000 in
set_option maxRecDepth 100000 in
theorem least_bad2 (A0 : Option Addr) (c0 n : Nat) (l0 : List Int) (p : Int) (w : World) (hl0 : l0.length = n) (hn : 1 ≤ n ∧ n ≤ 256) (hok : okW l0 = false) (hr0 : Kd.C (Kd.int .i64) w A0 n l0) : Calls Try.prog 17 #[.slice A0 n c0, .int .i64 p] w fun r w' => r = .returned (.tuple #[.agg #[.slice none 0 0, .int .i64 0, .int .i64 0], .int .i64 1]) ∧ Below w.heap.size w w' := by
  have HCA := Aside0.mk (carr_true n hn.1 hn.2)
  have HM := Aside0.mk (show ∀ W : World, Kd.C (Kd.int .i64) W A0 n l0 → Calls Try.prog 35 #[.slice A0 n c0] W fun r w' => r = .returned (.bool false) ∧ ∃ d, w' = W.drewN d from fun W hC => by
    have h := may_calls A0 c0 l0 W (by rw [hl0]; exact hC)
    rw [hok, hl0] at h
    exact h)
  have HC := Aside0.mk hr0
  obtain ⟨X0, hX0⟩ : ∃ X0, w.alloc (.cells #[.slice none 0 0, .int .i64 0, .int .i64 0] 29) = X0 := ⟨_, rfl⟩
  have HX := Aside0.mk (show Below w.heap.size w X0 from hX0 ▸ (Below.refl _ w).alloc (Nat.le_refl _) _)
  have HF := Aside0.mk (show X0.heap[w.heap.size]? = some (.cells #[.slice none 0 0, .int .i64 0, .int .i64 0] 29 (0, 0)) from hX0 ▸ blk_new w _)
  clear hr0 hl0 hok hn
  go_enter Try.func17, Try.ntmps17
  go_wp2_with (first
    | (go_at_call 34; (with_reducible refine (HCA.out _).mono ?_); rintro e w1 ⟨rfl, hw1⟩; (try rw [hX0] at hw1); (have HW1 := Aside0.mk (show Below w.heap.size w w1 ∧ w1.heap[w.heap.size]? = some (.cells #[.slice none 0 0, .int .i64 0, .int .i64 0] 29 (0, 0)) from by obtain ⟨d, rfl⟩ := hw1; exact ⟨HX.out.trans ⟨rfl, rfl, rfl, Nat.le_refl _, fun _ _ => rfl⟩, HF.out⟩)); clear hw1)
    | (go_at_call 35; (with_reducible refine (HM.out w1 (Kd.C_below HC.out HW1.out.1)).mono ?_); rintro e w2 ⟨rfl, hw2⟩; (have HW2 := Aside0.mk (show Below w.heap.size w w2 ∧ w2.heap[w.heap.size]? = some (.cells #[.slice none 0 0, .int .i64 0, .int .i64 0] 29 (0, 0)) from by obtain ⟨d, rfl⟩ := hw2; exact ⟨HW1.out.1.trans ⟨rfl, rfl, rfl, Nat.le_refl _, fun _ _ => rfl⟩, HW1.out.2⟩)); clear hw2)
    | ((with_reducible refine gate_store (t := 29) (p := 4) rfl ?_); refine wpList_store_row rfl 29 (.tmp 4) (.tmp 20) rfl w.heap.size #[.slice none 0 0, .int .i64 0, .int .i64 0] rfl rfl 29 _ HW2.out.2 loadInfo rfl (by simp [Value.oneCell']) ?_))
  refine bodyPost_ret (results_of (p := 4) (u := 5) (ty := 29) rfl _ _ w.heap.size 29 #[.slice none 0 0, .int .i64 0, .int .i64 0] (0, 0) _ rfl (setRow_heap9 _ _ _ _ _ HW2.out.2) Try.underlying29 rfl loadInfo) rfl ?_
  exact ⟨rfl, below_row9 HW2.out.1 (Nat.le_refl _) _⟩
set_option maxHeartbeats 4000000 in
set_option maxRecDepth 100000 in
theorem least_bad3 (A0 : Option Addr) (c0 n : Nat) (l0 : List Int) (p : Int) (w : World) (hl0 : l0.length = n) (hn : 1 ≤ n ∧ n ≤ 256) (hok : okW l0 = true) (hr0 : Kd.C (Kd.int .i64) w A0 n l0) (hp : p < 0) : Calls Try.prog 17 #[.slice A0 n c0, .int .i64 p] w fun r w' => r = .returned (.tuple #[.agg #[.slice none 0 0, .int .i64 0, .int .i64 0], .int .i64 1]) ∧ Below w.heap.size w w' := by
  have HCA := Aside0.mk (carr_true n hn.1 hn.2)
  have HM := Aside0.mk (show ∀ W : World, Kd.C (Kd.int .i64) W A0 n l0 → Calls Try.prog 35 #[.slice A0 n c0] W fun r w' => r = .returned (.bool true) ∧ ∃ d, w' = W.drewN d from fun W hC => by
    have h := may_calls A0 c0 l0 W (by rw [hl0]; exact hC)
    rw [hok, hl0] at h
    exact h)
  have HC := Aside0.mk hr0
  obtain ⟨X0, hX0⟩ : ∃ X0, w.alloc (.cells #[.slice none 0 0, .int .i64 0, .int .i64 0] 29) = X0 := ⟨_, rfl⟩
  have HX := Aside0.mk (show Below w.heap.size w X0 from hX0 ▸ (Below.refl _ w).alloc (Nat.le_refl _) _)
  have HF := Aside0.mk (show X0.heap[w.heap.size]? = some (.cells #[.slice none 0 0, .int .i64 0, .int .i64 0] 29 (0, 0)) from hX0 ▸ blk_new w _)
  have d1 : decide (p < 0) = true := decide_eq_true hp
  clear hr0 hl0 hok hn hp
  go_enter Try.func17, Try.ntmps17
  go_wp2_with (first
    | (go_at_call 34; (with_reducible refine (HCA.out _).mono ?_); rintro e w1 ⟨rfl, hw1⟩; (try rw [hX0] at hw1); (have HW1 := Aside0.mk (show Below w.heap.size w w1 ∧ w1.heap[w.heap.size]? = some (.cells #[.slice none 0 0, .int .i64 0, .int .i64 0] 29 (0, 0)) from by obtain ⟨d, rfl⟩ := hw1; exact ⟨HX.out.trans ⟨rfl, rfl, rfl, Nat.le_refl _, fun _ _ => rfl⟩, HF.out⟩)); clear hw1)
    | (go_at_call 35; (with_reducible refine (HM.out w1 (Kd.C_below HC.out HW1.out.1)).mono ?_); rintro e w2 ⟨rfl, hw2⟩; (have HW2 := Aside0.mk (show Below w.heap.size w w2 ∧ w2.heap[w.heap.size]? = some (.cells #[.slice none 0 0, .int .i64 0, .int .i64 0] 29 (0, 0)) from by obtain ⟨d, rfl⟩ := hw2; exact ⟨HW1.out.1.trans ⟨rfl, rfl, rfl, Nat.le_refl _, fun _ _ => rfl⟩, HW1.out.2⟩)); clear hw2)
    | ((with_reducible refine gate_store (t := 29) (p := 4) rfl ?_); refine wpList_store_row rfl 29 (.tmp 4) (.tmp 20) rfl w.heap.size #[.slice none 0 0, .int .i64 0, .int .i64 0] rfl rfl 29 _ HW2.out.2 loadInfo rfl (by simp [Value.oneCell']) ?_))
  refine bodyPost_ret (results_of (p := 4) (u := 5) (ty := 29) rfl _ _ w.heap.size 29 #[.slice none 0 0, .int .i64 0, .int .i64 0] (0, 0) _ rfl (setRow_heap9 _ _ _ _ _ HW2.out.2) Try.underlying29 rfl loadInfo) rfl ?_
  exact ⟨rfl, below_row9 HW2.out.1 (Nat.le_refl _) _⟩
end Go.Proofs.Ytgmaiknbogcpgaa.Pure
