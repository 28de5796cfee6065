/- Limits of the calls. -/
import Derived.Test.YtgmaiknbogcpgaaFogx0
import Derived.Test.YtgmaiknbogcpgaaFogx1
import Derived.Test.YtgmaiknbogcpgaaForms
namespace Go.Proofs.Ytgmaiknbogcpgaa.Pure
open Go.RowKit Go.Proofs.Ytgmaiknbogcpgaa.Fog Go.Proofs.YtgmaiknbogcpgaaW.PrintWords Go.Proofs.YtgmaiknbogcpgaaW.PrintLast Go.Proofs.YtgmaiknbogcpgaaW.PrintMore Go.Proofs.Ytgmaiknbogcpgaa.Kit
set_option linter.unusedVariables false
set_option linter.unusedSimpArgs false
set_option maxHeartbeats 4000000 in
set_option maxRecDepth 100000 in
theorem check_len (A0 : Option Addr) (c0 n : Nat) (l0 : List Int) (A1 : Option Addr) (c1 m : Nat) (w : World) (hl0 : l0.length = n) (hn1 : 1 ≤ n) (hn2 : n ≤ 256) (hok : Ld.ok l0) (hr0 : Kd.C (Kd.int .i64) w A0 n l0) (hne : m ≠ n) :
    Calls Try.prog 14 #[.slice A0 n c0, .slice A1 m c1] w fun r w' => r = .returned (.tuple #[.agg #[.slice none 0 0, .int .i64 0, .int .i64 0], .int .i64 1]) ∧ Below w.heap.size w w' := by
  have HM := Aside0.mk (show ∀ W : World, Kd.C (Kd.int .i64) W A0 n l0 → Calls Try.prog 35 #[.slice A0 n c0] W fun r w' => r = .returned (.bool true) ∧ ∃ d, w' = W.drewN d from fun W hC => by
    have h := may_calls A0 c0 l0 W (by rw [hl0]; exact hC)
    rw [okW_of l0 hok, hl0] at h
    exact h)
  have HC := Aside0.mk hr0
  have HL := Aside0.mk hl0
  have HOK := Aside0.mk hok
  have HN := Aside0.mk (And.intro hn1 hn2)
  obtain ⟨X0, hX0⟩ : ∃ X0, w.alloc (.cells #[.slice none 0 0, .int .i64 0, .int .i64 0] 29) = X0 := ⟨_, rfl⟩
  have HX := Aside0.mk (show Below w.heap.size w X0 from hX0 ▸ (Below.refl _ w).alloc (Nat.le_refl _) _)
  have HF := Aside0.mk (show X0.heap[w.heap.size]? = some (.cells #[.slice none 0 0, .int .i64 0, .int .i64 0] 29 (0, 0)) from hX0 ▸ blk_new w _)
  have d1 : ((m : Int) != (n : Int)) = true := by simp; omega
  have d1' : (m != n) = true := by simpa using hne
  have d1'' : ((m : Int) == (n : Int)) = false := by simp; omega
  have d1x : (m == n) = false := by simpa using hne
  clear hr0 hl0 hok hn1 hn2 hne
  go_enter Try.func14, Try.ntmps14
  go_wp2_with (first
    | (go_at_call 34; (with_reducible refine (carr_true n HN.out.1 HN.out.2 _).mono ?_); rintro e w1 ⟨rfl, hw1⟩; (try rw [hX0] at hw1); (have HW1 := Aside0.mk (show Below w.heap.size w w1 ∧ w1.heap[w.heap.size]? = some (.cells #[.slice none 0 0, .int .i64 0, .int .i64 0] 29 (0, 0)) from by obtain ⟨d, rfl⟩ := hw1; exact ⟨HX.out.trans ⟨rfl, rfl, rfl, Nat.le_refl _, fun _ _ => rfl⟩, HF.out⟩)); clear hw1)
    | (go_at_call 35; (with_reducible refine (HM.out w1 (Kd.C_below HC.out HW1.out.1)).mono ?_); rintro e w2 ⟨rfl, hw2⟩; (have HW2 := Aside0.mk (show Below w.heap.size w w2 ∧ w2.heap[w.heap.size]? = some (.cells #[.slice none 0 0, .int .i64 0, .int .i64 0] 29 (0, 0)) from by obtain ⟨d, rfl⟩ := hw2; exact ⟨HW1.out.1.trans ⟨rfl, rfl, rfl, Nat.le_refl _, fun _ _ => rfl⟩, HW1.out.2⟩)); clear hw2)
    | ((with_reducible refine gate_store (t := 29) (p := 4) rfl ?_); refine wpList_store_row rfl 29 (.tmp 4) (.tmp 27) rfl w.heap.size #[.slice none 0 0, .int .i64 0, .int .i64 0] rfl rfl 29 _ HW2.out.2 loadInfo rfl (by simp [Value.oneCell']) ?_))
  refine bodyPost_ret (results_of (p := 4) (u := 5) (ty := 29) rfl _ _ w.heap.size 29 #[.slice none 0 0, .int .i64 0, .int .i64 0] (0, 0) _ rfl (setRow_heap9 _ _ _ _ _ HW2.out.2) Try.underlying29 rfl loadInfo) rfl ?_
  exact ⟨rfl, below_row9 HW2.out.1 (Nat.le_refl _) _⟩
set_option maxHeartbeats 4000000 in
set_option maxRecDepth 100000 in
theorem size_0 (w : World) : Calls Try.prog 23 #[.int .i64 0] w fun r w' => r = .returned (.tuple #[.int .i64 0, .int .i64 1]) ∧ Below w.heap.size w w' := by
  go_enter Try.func23, Try.ntmps23
  go_wp2
  go_ret2
  exact ⟨rfl, Below.refl _ _⟩
theorem weight_11 (w : World) : Calls Try.prog 25 #[.int .i64 11] w fun r w' => r = .returned (.tuple #[.int .i64 0, .int .i64 1]) ∧ Below w.heap.size w w' := by
  refine (load_Weight.calls 11 0 1 w (by decide +kernel)).mono ?_
  rintro r w' ⟨rfl, hd⟩
  obtain ⟨d, rfl⟩ := hd
  exact ⟨rfl, belowd (Below.refl _ _) _⟩
theorem weight_10 (w : World) : Calls Try.prog 25 #[.int .i64 10] w fun r w' => r = .returned (.tuple #[.int .i64 1048576, .int .i64 0]) ∧ Below w.heap.size w w' := by
  refine (load_Weight.calls 10 1048576 0 w (by decide +kernel)).mono ?_
  rintro r w' ⟨rfl, hd⟩
  obtain ⟨d, rfl⟩ := hd
  exact ⟨rfl, belowd (Below.refl _ _) _⟩
/-- How many bits carriers have in all; -1: they are none. -/
def togV (l : List Int) : Int := if 1 ≤ l.length ∧ l.length ≤ 256 ∧ l.any (fun x => !hasB x) = false then l.foldl (· + ·) 0 else -1
set_option maxHeartbeats 4000000 in
set_option maxRecDepth 100000 in
theorem tog_calls (A0 : Option Addr) (c0 n : Nat) (l0 : List Int) (w : World) (hl0 : l0.length = n) (hr0 : Kd.C (Kd.int .i64) w A0 n l0) :
    Calls Try.prog 48 #[.slice A0 n c0] w fun r w' => r = .returned (.int .i64 (togV l0)) ∧ Below w.heap.size w w' := by
  by_cases h1 : 1 ≤ n ∧ n ≤ 256
  · have hco := contains_tog (fun x => !hasB x) A0 c0 l0
    have HCO := Aside0.mk (show ∀ W : World, Kd.C (Kd.int .i64) W A0 n l0 → Calls Try.prog 50 #[.slice A0 n c0, .func (.func 63) #[] #[]] W fun r w' => r = .returned (.bool (l0.any (fun x => !hasB x))) ∧ Below W.heap.size W w' from fun W hC => by
      have h := hco W (by rw [hl0]; exact hC) (fun i hi W2 hW2 => tog1_calls _ _)
      rw [hl0] at h
      exact h)
    have HCA := Aside0.mk (carr_true n h1.1 h1.2)
    have HC := Aside0.mk hr0
    have HL := Aside0.mk hl0
    obtain ⟨y, hy⟩ : ∃ y, l0.any (fun x => !hasB x) = y := ⟨_, rfl⟩
    rw [hy] at HCO
    cases y with
    | true =>
      have HT := Aside0.mk (show togV l0 = -1 by unfold togV; rw [if_neg (by rw [hy]; simp)])
      clear hco hr0 hl0 hy h1
      go_enter Try.func48, Try.ntmps48
      go_wp2_with (first
        | (go_at_call 34; (with_reducible refine (HCA.out _).mono ?_); rintro e w1 ⟨rfl, hw1⟩; (have HW1 := Aside0.mk (show Below w.heap.size w w1 from by obtain ⟨d, rfl⟩ := hw1; exact belowd (Below.refl _ _) _)); clear hw1)
        | (go_at_call 50; (with_reducible refine (HCO.out w1 (Kd.C_below HC.out HW1.out)).mono ?_); rintro e w2 ⟨rfl, hb⟩; (have HW2 := Aside0.mk (below_step HW1.out hb)); clear hb))
      go_ret
      rw [HT.out]
      exact ⟨rfl, HW2.out⟩
    | false =>
      have HT := Aside0.mk (show togV l0 = l0.foldl (· + ·) 0 by unfold togV; rw [if_pos ⟨by omega, by omega, hy⟩])
      have HH := Aside0.mk (show ∀ i, i < n → 0 ≤ l0.getD i 0 ∧ l0.getD i 0 ≤ 8 from fun i hi => by
        rw [List.any_eq_false] at hy
        have h := hy (l0.getD i 0) (by rw [List.getD_eq_getElem?_getD, List.getElem?_eq_getElem (by omega)]; exact List.getElem_mem (by omega))
        have h2 := hasB_rng (b := l0.getD i 0) (by simpa using h)
        exact ⟨h2.1, h2.2.1⟩)
      have q9 : (n : Int) ≤ 256 := by omega
      clear hco hr0 hl0 hy h1
      go_enter Try.func48, Try.ntmps48
      go_wp2_with (first
        | (go_at_call 34; (with_reducible refine (HCA.out _).mono ?_); rintro e w1 ⟨rfl, hw1⟩; (have HW1 := Aside0.mk (show Below w.heap.size w w1 from by obtain ⟨d, rfl⟩ := hw1; exact belowd (Below.refl _ _) _)); clear hw1)
        | (go_at_call 50; (with_reducible refine (HCO.out w1 (Kd.C_below HC.out HW1.out)).mono ?_); rintro e w2 ⟨rfl, hb⟩; (have HW2 := Aside0.mk (below_step HW1.out hb)); clear hb))
      go_loopw [3, 16] (fun sv iv wr => ∃ (k : Nat) (S : Int), k ≤ n ∧ sv = .int .i64 S ∧ iv = .int .i64 (k : Int) ∧ Aside0 ((l0.take k).foldl (· + ·) 0 = S ∧ 0 ≤ S ∧ S ≤ 8 * (k : Int)) ∧ w2 = wr) (fun _ iv _ => n - (intOf iv).toNat)
      case atStart => exact ⟨0, 0, Nat.zero_le _, rfl, rfl, ⟨rfl, by omega, by omega⟩, rfl⟩
      case round =>
        obtain ⟨k, S, hk, rfl, rfl, HS, rfl⟩ := hrel
        by_cases hlt : k < n
        · have q1 : (k : Int) < (n : Int) := by omega
          obtain ⟨ad, hA, hc⟩ := int_at (Kd.C_below HC.out HW2.out) k hlt
          subst hA
          have hx := HH.out k hlt
          obtain ⟨s1, s2, s3⟩ := HS.out
          have hnx : (l0.take (k + 1)).foldl (· + ·) 0 = S + l0.getD k 0 := by
            have hlk : k < l0.length := by have := HL.out; omega
            rw [List.take_succ_eq_append_getElem hlk, List.foldl_append, s1, List.getD_eq_getElem?_getD, List.getElem?_eq_getElem hlk]; rfl
          obtain ⟨x, hxe⟩ : ∃ x, l0.getD k 0 = x := ⟨_, rfl⟩
          rw [hxe] at hc hx hnx
          have i1 : IntKind.i64.wrap (S + x) = S + x := by rw [IntKind.wrap_i64]; omega
          have q2 : (k : Int) ≤ 256 := by omega
          have HNX := Aside0.mk (show (l0.take (k + 1)).foldl (· + ·) 0 = S + x ∧ 0 ≤ S + x ∧ S + x ≤ 8 * ((k + 1 : Nat) : Int) from ⟨hnx, by omega, by omega⟩)
          have HLT := Aside0.mk hlt
          clear hnx hxe s1 s2 s3 hx hlt hk
          go_wp2
          refine ⟨⟨k + 1, S + x, HLT.out, rfl, by go_num, HNX, by first | rfl | trivial⟩, ?_⟩
          have := HLT.out
          simp only [intOf]; omega
        · obtain rfl : n = k := by omega
          have HSE := Aside0.mk (show l0.foldl (· + ·) 0 = S from by
            have h := HS.out.1
            rw [List.take_of_length_le (by have := HL.out; omega)] at h
            exact h)
          go_wp2
          go_ret
          rw [HT.out, HSE.out]
          exact ⟨rfl, HW2.out⟩
  · have HCA := Aside0.mk (carr_false n h1)
    have HT := Aside0.mk (show togV l0 = -1 by unfold togV; rw [if_neg (fun h => h1 ⟨by omega, by omega⟩)])
    clear hr0 hl0 h1
    go_enter Try.func48, Try.ntmps48
    go_wp2_with (first
      | (go_at_call 34; (with_reducible refine (HCA.out _).mono ?_); rintro e w1 ⟨rfl, hw1⟩; (have HW1 := Aside0.mk (show Below w.heap.size w w1 from by obtain ⟨d, rfl⟩ := hw1; exact belowd (Below.refl _ _) _)); clear hw1))
    go_ret
    rw [HT.out]
    exact ⟨rfl, HW1.out⟩
set_option maxHeartbeats 4000000 in
set_option maxRecDepth 100000 in
theorem deal_nil (w : World) : Calls Try.prog 27 #[.slice none 0 0, .slice none 0 0] w fun r w' => r = .returned (.tuple #[.slice none 0 0, .int .i64 1]) ∧ Below w.heap.size w w' := by
  have HT := Aside0.mk (show ∀ W : World, Calls Try.prog 48 #[.slice none 0 0] W fun r w' => r = .returned (.int .i64 (-1)) ∧ Below W.heap.size W w' from fun W => tog_calls none 0 0 [] W rfl ⟨rfl, by decide, fun h => absurd h (by decide)⟩)
  go_enter Try.func27, Try.ntmps27
  go_wp2_with (go_at_call 48; (with_reducible refine (HT.out _).mono ?_); rintro e w1 ⟨rfl, hb⟩; (have HB := Aside0.mk hb); clear hb)
  go_ret2
  exact ⟨rfl, HB.out⟩
set_option maxHeartbeats 4000000 in
set_option maxRecDepth 100000 in
theorem deal_0 (A : Option Addr) (B : Option Addr) (w : World) (h : Kd.C (Kd.int .i64) w A 1 [0]) : Calls Try.prog 27 #[.slice A 1 1, .slice B 1 1] w fun r w' => r = .returned (.tuple #[.slice none 0 0, .int .i64 1]) ∧ Below w.heap.size w w' := by
  have HT := Aside0.mk (show Calls Try.prog 48 #[.slice A 1 1] w fun r w' => r = .returned (.int .i64 0) ∧ Below w.heap.size w w' from tog_calls A 1 1 [0] w rfl h)
  clear h
  go_enter Try.func27, Try.ntmps27
  go_wp2_with (go_at_call 48; (with_reducible refine (HT.out).mono ?_); rintro e w1 ⟨rfl, hb⟩; (have HB := Aside0.mk hb); clear hb)
  go_ret2
  exact ⟨rfl, HB.out⟩
end Go.Proofs.Ytgmaiknbogcpgaa.Pure
