/- Closures asked of each element of a row; weights; what a carrier may have. -/
-- ALSO foghorn/load.Weight
import Derived.Test.YtgmaiknbogcpgaaFogx0
import Derived.Test.YtgmaiknbogcpgaaEnV
namespace Go.Proofs.Ytgmaiknbogcpgaa.Pure
open Go.RowKit Go.Proofs.Ytgmaiknbogcpgaa.Fog Go.Proofs.YtgmaiknbogcpgaaW.PrintWords Go.Proofs.YtgmaiknbogcpgaaW.PrintLast Go.Proofs.YtgmaiknbogcpgaaW.PrintMore Go.Proofs.Ytgmaiknbogcpgaa.Kit
set_option linter.unusedVariables false
set_option linter.unusedSimpArgs false
/-- The first place, or -1. -/
def idxFrom (p : Int → Bool) : List Int → Nat → Int
  | [], _ => -1
  | x :: l, k => if p x then (k : Int) else idxFrom p l (k + 1)
def idx (p : Int → Bool) (l : List Int) : Int := idxFrom p l 0
theorem idxFrom_at (p : Int → Bool) : ∀ (l : List Int) (k s : Nat), k < l.length → (∀ j, j < k → p (l.getD j 0) = false) → p (l.getD k 0) = true → idxFrom p l s = ((s + k : Nat) : Int)
  | [], k, s, hk, _, _ => by simp at hk
  | x :: l, 0, s, _, _, h => by
    have h' : p x = true := h
    unfold idxFrom; rw [if_pos h']; rfl
  | x :: l, k + 1, s, hk, hj, h => by
    have h0 : p x = false := hj 0 (by omega)
    unfold idxFrom
    rw [if_neg (by rw [h0]; decide), idxFrom_at p l k (s + 1) (by simpa using hk) (fun j hjk => hj (j + 1) (by omega)) h]
    congr 1; omega
theorem idx_at (p : Int → Bool) (l : List Int) (k : Nat) (hk : k < l.length) (hj : ∀ j, j < k → p (l.getD j 0) = false) (h : p (l.getD k 0) = true) : idx p l = (k : Int) := by
  have := idxFrom_at p l k 0 hk hj h
  rw [Nat.zero_add] at this; exact this
theorem idxFrom_no (p : Int → Bool) : ∀ (l : List Int) (s : Nat), (∀ j, j < l.length → p (l.getD j 0) = false) → idxFrom p l s = -1
  | [], _, _ => rfl
  | x :: l, s, hj => by
    have h0 : p x = false := hj 0 (by simp)
    unfold idxFrom
    rw [if_neg (by rw [h0]; decide), idxFrom_no p l (s + 1) (fun j hjk => hj (j + 1) (by simpa using hjk))]
theorem idx_no (p : Int → Bool) (l : List Int) (hj : ∀ j, j < l.length → p (l.getD j 0) = false) : idx p l = -1 := idxFrom_no p l 0 hj
theorem idxFrom_any (p : Int → Bool) : ∀ (l : List Int) (s : Nat), decide (0 ≤ idxFrom p l s) = l.any p
  | [], _ => rfl
  | x :: l, s => by
    unfold idxFrom
    rw [List.any_cons]
    by_cases h : p x = true
    · rw [if_pos h, h]; simp
    · rw [if_neg h, idxFrom_any p l (s + 1)]
      rw [Bool.not_eq_true] at h
      rw [h]; rfl
theorem idx_any (p : Int → Bool) (l : List Int) : decide (0 ≤ idx p l) = l.any p := idxFrom_any p l 0

set_option maxHeartbeats 2000000 in
set_option maxRecDepth 100000 in
theorem index_may (p : Int → Bool) (A : Option Addr) (c : Nat) (l : List Int) (w : World) (hr : Kd.C (Kd.int .i64) w A l.length l) (hcl : ∀ (i : Nat), i < l.length → ∀ d, Calls Try.prog 51 #[.int .i64 (l.getD i 0)] (w.drewN d) fun r w' => r = .returned (.bool (p (l.getD i 0))) ∧ ∃ d2, w' = (w.drewN d).drewN d2) :
    Calls Try.prog 53 #[.slice A l.length c, .func (.func 51) #[] #[]] w fun r w' => r = .returned (.int .i64 (idx p l)) ∧ ∃ d, w' = w.drewN d := by
  have HR := Aside0.mk hr
  have HCL := Aside0.mk hcl
  have hmax := Kd.C_max hr
  obtain ⟨n, hn⟩ : ∃ n, l.length = n := ⟨_, rfl⟩
  rw [hn] at HR HCL hmax ⊢
  have HN := Aside0.mk hn
  clear hr hcl hn
  go_enter Try.func53, Try.ntmps53
  go_wp2
  go_loopw [8] (fun i wr => ∃ k : Nat, k ≤ n ∧ i = .int .i64 (k : Int) ∧ Aside0 (∀ j, j < k → p (l.getD j 0) = false) ∧ Aside0 (∃ d, wr = w.drewN d)) (fun i _ => n - (intOf i).toNat)
  case atStart => exact ⟨0, Nat.zero_le _, rfl, ⟨fun j hj => absurd hj (Nat.not_lt_zero j)⟩, ⟨0, rfl⟩⟩
  case round =>
    obtain ⟨k, hk, rfl, HP, HD⟩ := hrel
    by_cases hlt : k < n
    · obtain ⟨d, hd⟩ := HD.out
      have q1 : (k : Int) < (n : Int) := by omega
      obtain ⟨ad, hA, hc⟩ := int_at (Kd.C_drewN HR.out d) k hlt
      subst hA
      have HC := Aside0.mk (HCL.out k hlt d)
      obtain ⟨x, hx⟩ : ∃ x, l.getD k 0 = x := ⟨_, rfl⟩
      rw [hx] at hc HC
      have HX := Aside0.mk hx
      subst hd
      clear hx HD
      by_cases hb : p x = true
      · rw [hb] at HC
        have HI := Aside0.mk (show idx p l = (k : Int) from idx_at p l k (by have := HN.out; omega) HP.out (by rw [HX.out]; exact hb))
        clear hb
        go_wp2_with (go_at_call 51; (with_reducible refine (HC.out).mono ?_); rintro e w3 ⟨rfl, hw3⟩; (have HW3 := Aside0.mk hw3); clear hw3)
        go_ret
        obtain ⟨d2, rfl⟩ := HW3.out
        rw [HI.out]
        exact ⟨rfl, d + d2, by rw [World.drewN_drewN]⟩
      · rw [Bool.not_eq_true] at hb
        rw [hb] at HC
        have HB := Aside0.mk hb
        clear hb
        go_wp2_with (go_at_call 51; (with_reducible refine (HC.out).mono ?_); rintro e w3 ⟨rfl, hw3⟩; (have HW3 := Aside0.mk hw3); clear hw3)
        go_roundw
        case rel =>
          obtain ⟨d2, rfl⟩ := HW3.out
          refine ⟨k + 1, by omega, by go_num, ⟨fun j hj => ?_⟩, ⟨d + d2, by rw [World.drewN_drewN]⟩⟩
          by_cases e : j = k
          · subst e; rw [HX.out]; exact HB.out
          · exact HP.out j (by omega)
        case measure => simp [intOf]; omega
    · obtain rfl : k = n := by omega
      have HI := Aside0.mk (show idx p l = -1 from idx_no p l (fun j hj => HP.out j (by have := HN.out; omega)))
      go_wp2
      go_ret
      rw [HI.out]
      exact ⟨rfl, HD.out⟩

set_option maxHeartbeats 2000000 in
set_option maxRecDepth 100000 in
theorem contains_may (p : Int → Bool) (A : Option Addr) (c : Nat) (l : List Int) (w : World) (hr : Kd.C (Kd.int .i64) w A l.length l) (hcl : ∀ (i : Nat), i < l.length → ∀ d, Calls Try.prog 51 #[.int .i64 (l.getD i 0)] (w.drewN d) fun r w' => r = .returned (.bool (p (l.getD i 0))) ∧ ∃ d2, w' = (w.drewN d).drewN d2) :
    Calls Try.prog 50 #[.slice A l.length c, .func (.func 51) #[] #[]] w fun r w' => r = .returned (.bool (l.any p)) ∧ ∃ d, w' = w.drewN d := by
  have HI := Aside0.mk (index_may p A c l w hr hcl)
  have hq := idx_any p l
  obtain ⟨x, hx⟩ : ∃ x, idx p l = x := ⟨_, rfl⟩
  rw [hx] at HI hq
  obtain ⟨b, hb⟩ : ∃ b, l.any p = b := ⟨_, rfl⟩
  rw [hb] at hq ⊢
  clear hx hb hr hcl
  go_enter Try.func50, Try.ntmps50
  go_wp2_with (go_at_call 53; (with_reducible refine (HI.out).mono ?_); rintro e w3 ⟨rfl, hw3⟩; (have HW3 := Aside0.mk hw3); clear hw3)
  go_ret
  exact ⟨rfl, HW3.out⟩

set_option maxHeartbeats 2000000 in
set_option maxRecDepth 100000 in
theorem index_tog (p : Int → Bool) (A : Option Addr) (c : Nat) (l : List Int) (w : World) (hr : Kd.C (Kd.int .i64) w A l.length l) (hcl : ∀ (i : Nat), i < l.length → ∀ W : World, Below w.heap.size w W → Calls Try.prog 63 #[.int .i64 (l.getD i 0)] W fun r w' => r = .returned (.bool (p (l.getD i 0))) ∧ Below W.heap.size W w') :
    Calls Try.prog 53 #[.slice A l.length c, .func (.func 63) #[] #[]] w fun r w' => r = .returned (.int .i64 (idx p l)) ∧ Below w.heap.size w w' := by
  have HR := Aside0.mk hr
  have HCL := Aside0.mk hcl
  have hmax := Kd.C_max hr
  obtain ⟨n, hn⟩ : ∃ n, l.length = n := ⟨_, rfl⟩
  rw [hn] at HR HCL hmax ⊢
  have HN := Aside0.mk hn
  clear hr hcl hn
  go_enter Try.func53, Try.ntmps53
  go_wp2
  go_loopw [8] (fun i wr => ∃ k : Nat, k ≤ n ∧ i = .int .i64 (k : Int) ∧ Aside0 (∀ j, j < k → p (l.getD j 0) = false) ∧ Aside0 (Below w.heap.size w wr)) (fun i _ => n - (intOf i).toNat)
  case atStart => exact ⟨0, Nat.zero_le _, rfl, ⟨fun j hj => absurd hj (Nat.not_lt_zero j)⟩, ⟨Below.refl _ _⟩⟩
  case round =>
    obtain ⟨k, hk, rfl, HP, HD⟩ := hrel
    by_cases hlt : k < n
    · have q1 : (k : Int) < (n : Int) := by omega
      obtain ⟨ad, hA, hc⟩ := int_at (Kd.C_below HR.out HD.out) k hlt
      subst hA
      have HC := Aside0.mk (HCL.out k hlt wr HD.out)
      obtain ⟨x, hx⟩ : ∃ x, l.getD k 0 = x := ⟨_, rfl⟩
      rw [hx] at hc HC
      have HX := Aside0.mk hx
      clear hx
      by_cases hb : p x = true
      · rw [hb] at HC
        have HI := Aside0.mk (show idx p l = (k : Int) from idx_at p l k (by have := HN.out; omega) HP.out (by rw [HX.out]; exact hb))
        clear hb
        go_wp2_with (go_at_call 63; (with_reducible refine (HC.out).mono ?_); rintro e w3 ⟨rfl, hw3⟩; (have HW3 := Aside0.mk hw3); clear hw3)
        go_ret
        rw [HI.out]
        exact ⟨rfl, HD.out.trans (HW3.out.mono HD.out.size)⟩
      · rw [Bool.not_eq_true] at hb
        rw [hb] at HC
        have HB := Aside0.mk hb
        clear hb
        go_wp2_with (go_at_call 63; (with_reducible refine (HC.out).mono ?_); rintro e w3 ⟨rfl, hw3⟩; (have HW3 := Aside0.mk hw3); clear hw3)
        go_roundw
        case rel =>
          refine ⟨k + 1, by omega, by go_num, ⟨fun j hj => ?_⟩, ⟨HD.out.trans (HW3.out.mono HD.out.size)⟩⟩
          by_cases e : j = k
          · subst e; rw [HX.out]; exact HB.out
          · exact HP.out j (by omega)
        case measure => simp [intOf]; omega
    · obtain rfl : k = n := by omega
      have HI := Aside0.mk (show idx p l = -1 from idx_no p l (fun j hj => HP.out j (by have := HN.out; omega)))
      go_wp2
      go_ret
      rw [HI.out]
      exact ⟨rfl, HD.out⟩

set_option maxHeartbeats 2000000 in
set_option maxRecDepth 100000 in
theorem contains_tog (p : Int → Bool) (A : Option Addr) (c : Nat) (l : List Int) (w : World) (hr : Kd.C (Kd.int .i64) w A l.length l) (hcl : ∀ (i : Nat), i < l.length → ∀ W : World, Below w.heap.size w W → Calls Try.prog 63 #[.int .i64 (l.getD i 0)] W fun r w' => r = .returned (.bool (p (l.getD i 0))) ∧ Below W.heap.size W w') :
    Calls Try.prog 50 #[.slice A l.length c, .func (.func 63) #[] #[]] w fun r w' => r = .returned (.bool (l.any p)) ∧ Below w.heap.size w w' := by
  have HI := Aside0.mk (index_tog p A c l w hr hcl)
  have hq := idx_any p l
  obtain ⟨x, hx⟩ : ∃ x, idx p l = x := ⟨_, rfl⟩
  rw [hx] at HI hq
  obtain ⟨b, hb⟩ : ∃ b, l.any p = b := ⟨_, rfl⟩
  rw [hb] at hq ⊢
  clear hx hb hr hcl
  go_enter Try.func50, Try.ntmps50
  go_wp2_with (go_at_call 53; (with_reducible refine (HI.out).mono ?_); rintro e w3 ⟨rfl, hw3⟩; (have HW3 := Aside0.mk hw3); clear hw3)
  go_ret
  exact ⟨rfl, HW3.out⟩

set_option maxHeartbeats 2000000 in
set_option maxRecDepth 100000 in
theorem index_first (p1 p2 p3 p4 p5 : Nat) (p : Int → Bool) (A : Option Addr) (c : Nat) (l : List Int) (w : World) (hr : Kd.C (Kd.int .i64) w A l.length l) (hcl : ∀ (i : Nat), i < l.length → ∀ d, Calls Try.prog 54 #[.int .i64 (l.getD i 0), .pointer (some ⟨p1, 0, none⟩), .pointer (some ⟨p2, 0, none⟩), .pointer (some ⟨p3, 0, none⟩), .pointer (some ⟨p4, 0, none⟩), .pointer (some ⟨p5, 0, none⟩)] (w.drewN d) fun r w' => r = .returned (.bool (p (l.getD i 0))) ∧ ∃ d2, w' = (w.drewN d).drewN d2) :
    Calls Try.prog 53 #[.slice A l.length c, .func (.func 54) #[] #[.pointer (some ⟨p1, 0, none⟩), .pointer (some ⟨p2, 0, none⟩), .pointer (some ⟨p3, 0, none⟩), .pointer (some ⟨p4, 0, none⟩), .pointer (some ⟨p5, 0, none⟩)]] w fun r w' => r = .returned (.int .i64 (idx p l)) ∧ ∃ d, w' = w.drewN d := by
  have HR := Aside0.mk hr
  have HCL := Aside0.mk hcl
  have hmax := Kd.C_max hr
  obtain ⟨n, hn⟩ : ∃ n, l.length = n := ⟨_, rfl⟩
  rw [hn] at HR HCL hmax ⊢
  have HN := Aside0.mk hn
  clear hr hcl hn
  go_enter Try.func53, Try.ntmps53
  go_wp2
  go_loopw [8] (fun i wr => ∃ k : Nat, k ≤ n ∧ i = .int .i64 (k : Int) ∧ Aside0 (∀ j, j < k → p (l.getD j 0) = false) ∧ Aside0 (∃ d, wr = w.drewN d)) (fun i _ => n - (intOf i).toNat)
  case atStart => exact ⟨0, Nat.zero_le _, rfl, ⟨fun j hj => absurd hj (Nat.not_lt_zero j)⟩, ⟨0, rfl⟩⟩
  case round =>
    obtain ⟨k, hk, rfl, HP, HD⟩ := hrel
    by_cases hlt : k < n
    · obtain ⟨d, hd⟩ := HD.out
      have q1 : (k : Int) < (n : Int) := by omega
      obtain ⟨ad, hA, hc⟩ := int_at (Kd.C_drewN HR.out d) k hlt
      subst hA
      have HC := Aside0.mk (HCL.out k hlt d)
      obtain ⟨x, hx⟩ : ∃ x, l.getD k 0 = x := ⟨_, rfl⟩
      rw [hx] at hc HC
      have HX := Aside0.mk hx
      subst hd
      clear hx HD
      by_cases hb : p x = true
      · rw [hb] at HC
        have HI := Aside0.mk (show idx p l = (k : Int) from idx_at p l k (by have := HN.out; omega) HP.out (by rw [HX.out]; exact hb))
        clear hb
        go_wp2_with (go_at_call 54; (with_reducible refine (HC.out).mono ?_); rintro e w3 ⟨rfl, hw3⟩; (have HW3 := Aside0.mk hw3); clear hw3)
        go_ret
        obtain ⟨d2, rfl⟩ := HW3.out
        rw [HI.out]
        exact ⟨rfl, d + d2, by rw [World.drewN_drewN]⟩
      · rw [Bool.not_eq_true] at hb
        rw [hb] at HC
        have HB := Aside0.mk hb
        clear hb
        go_wp2_with (go_at_call 54; (with_reducible refine (HC.out).mono ?_); rintro e w3 ⟨rfl, hw3⟩; (have HW3 := Aside0.mk hw3); clear hw3)
        go_roundw
        case rel =>
          obtain ⟨d2, rfl⟩ := HW3.out
          refine ⟨k + 1, by omega, by go_num, ⟨fun j hj => ?_⟩, ⟨d + d2, by rw [World.drewN_drewN]⟩⟩
          by_cases e : j = k
          · subst e; rw [HX.out]; exact HB.out
          · exact HP.out j (by omega)
        case measure => simp [intOf]; omega
    · obtain rfl : k = n := by omega
      have HI := Aside0.mk (show idx p l = -1 from idx_no p l (fun j hj => HP.out j (by have := HN.out; omega)))
      go_wp2
      go_ret
      rw [HI.out]
      exact ⟨rfl, HD.out⟩

/-- No weight. -/
def badW (x : Int) : Bool := decide (x < 1) || decide (1048576 < x)
set_option maxHeartbeats 1000000 in
set_option maxRecDepth 100000 in
theorem may1_calls (x : Int) (w : World) : Calls Try.prog 51 #[.int .i64 x] w fun r w' => r = .returned (.bool (badW x)) ∧ w' = w := by
  unfold badW
  by_cases h : x < 1
  · have d1 : decide (x < 1) = true := decide_eq_true h
    go_enter Try.func51, Try.ntmps51
    go_wp2
    go_ret
    rw [d1]
    exact ⟨rfl, rfl⟩
  · have d1 : decide (x < 1) = false := decide_eq_false h
    have h' : 1 ≤ x := by omega
    obtain ⟨b, hb⟩ : ∃ b, decide (1048576 < x) = b := ⟨_, rfl⟩
    rw [d1]
    go_enter Try.func51, Try.ntmps51
    go_wp2
    go_ret
    exact ⟨rfl, rfl⟩
def okW (l : List Int) : Bool := !(l.any badW)
set_option maxHeartbeats 1000000 in
set_option maxRecDepth 100000 in
theorem may_calls (A : Option Addr) (c : Nat) (l : List Int) (w : World) (hr : Kd.C (Kd.int .i64) w A l.length l) : Calls Try.prog 35 #[.slice A l.length c] w fun r w' => r = .returned (.bool (okW l)) ∧ ∃ d, w' = w.drewN d := by
  have HI := Aside0.mk (contains_may badW A c l w hr (fun i hi d => (may1_calls _ _).mono (by rintro r w' ⟨rfl, rfl⟩; exact ⟨rfl, 0, rfl⟩)))
  unfold okW
  obtain ⟨b, hb⟩ : ∃ b, l.any badW = b := ⟨_, rfl⟩
  rw [hb] at HI ⊢
  clear hb hr
  go_enter Try.func35, Try.ntmps35
  go_wp2_with (go_at_call 50; (with_reducible refine (HI.out).mono ?_); rintro e w3 ⟨rfl, hw3⟩; (have HW3 := Aside0.mk hw3); clear hw3)
  go_ret
  exact ⟨rfl, HW3.out⟩
/-- May a carrier have so many bits? -/
def hasB (x : Int) : Bool := decide (0 ≤ x) && (decide (x ≤ 8) && decide (0 ≤ Ld.E x.toNat))
theorem ix9_0 (w : World) : (Instr.index 75 (.agg enV) (.int .i64 0)).run Try.prog w = .ok (.int .i64 0) w := by kernel_rfl
theorem ix9_1 (w : World) : (Instr.index 75 (.agg enV) (.int .i64 1)).run Try.prog w = .ok (.int .i64 (-1)) w := by kernel_rfl
theorem ix9_2 (w : World) : (Instr.index 75 (.agg enV) (.int .i64 2)).run Try.prog w = .ok (.int .i64 2) w := by kernel_rfl
theorem ix9_3 (w : World) : (Instr.index 75 (.agg enV) (.int .i64 3)).run Try.prog w = .ok (.int .i64 (-1)) w := by kernel_rfl
theorem ix9_4 (w : World) : (Instr.index 75 (.agg enV) (.int .i64 4)).run Try.prog w = .ok (.int .i64 10) w := by kernel_rfl
theorem ix9_5 (w : World) : (Instr.index 75 (.agg enV) (.int .i64 5)).run Try.prog w = .ok (.int .i64 20) w := by kernel_rfl
theorem ix9_6 (w : World) : (Instr.index 75 (.agg enV) (.int .i64 6)).run Try.prog w = .ok (.int .i64 42) w := by kernel_rfl
theorem ix9_7 (w : World) : (Instr.index 75 (.agg enV) (.int .i64 7)).run Try.prog w = .ok (.int .i64 82) w := by kernel_rfl
theorem ix9_8 (w : World) : (Instr.index 75 (.agg enV) (.int .i64 8)).run Try.prog w = .ok (.int .i64 170) w := by kernel_rfl
theorem ix9 (x : Int) (h0 : 0 ≤ x) (h1 : x ≤ 8) (w : World) : (Instr.index 75 (.agg enV) (.int .i64 x)).run Try.prog w = .ok (.int .i64 (Ld.E x.toNat)) w := by
  have hx : x = 0 ∨ x = 1 ∨ x = 2 ∨ x = 3 ∨ x = 4 ∨ x = 5 ∨ x = 6 ∨ x = 7 ∨ x = 8 := by omega
  rcases hx with rfl | rfl | rfl | rfl | rfl | rfl | rfl | rfl | rfl
  · exact ix9_0 w
  · exact ix9_1 w
  · exact ix9_2 w
  · exact ix9_3 w
  · exact ix9_4 w
  · exact ix9_5 w
  · exact ix9_6 w
  · exact ix9_7 w
  · exact ix9_8 w
theorem enV_some (cs : Array Value) (h : cs = enV) : True := trivial
set_option maxHeartbeats 4000000 in
set_option maxRecDepth 100000 in
theorem has_calls (x : Int) (w : World) : Calls Try.prog 44 #[.int .i64 x] w fun r w' => r = .returned (.bool (hasB x)) ∧ Below w.heap.size w w' := by
  by_cases h0 : 0 ≤ x
  · by_cases h1 : x ≤ 8
    · have hix := ix9 x h0 h1
      have HEN := Aside0.mk energies_calls
      obtain ⟨V, hV⟩ : ∃ V, Ld.E x.toNat = V := ⟨_, rfl⟩
      obtain ⟨cs, hcs⟩ : ∃ cs, enV = cs := ⟨_, rfl⟩
      rw [hV] at hix
      rw [hcs] at hix HEN
      obtain ⟨b, hb⟩ : ∃ b, decide (0 ≤ V) = b := ⟨_, rfl⟩
      have d0 : decide (0 ≤ x) = true := decide_eq_true h0
      have d1 : decide (x ≤ 8) = true := decide_eq_true h1
      have e : hasB x = b := by unfold hasB; rw [d0, d1, hV, hb]; rfl
      rw [e]
      clear e hV hcs
      go_enter Try.func44, Try.ntmps44
      go_wp2_with (go_at_call 45; (with_reducible refine (HEN.out _).mono ?_); rintro e w3 ⟨rfl, hb⟩; (have HB := Aside0.mk hb); clear hb)
      go_ret
      exact ⟨rfl, HB.out⟩
    · have d1 : decide (x ≤ 8) = false := decide_eq_false h1
      have d0 : decide (0 ≤ x) = true := decide_eq_true h0
      have e : hasB x = false := by unfold hasB; rw [d1]; simp
      rw [e]
      clear e h1
      go_enter Try.func44, Try.ntmps44
      go_wp2
      go_ret
      exact ⟨rfl, Below.refl _ _⟩
  · have d0 : decide (0 ≤ x) = false := decide_eq_false h0
    have e : hasB x = false := by unfold hasB; rw [d0]; rfl
    rw [e]
    clear e h0
    go_enter Try.func44, Try.ntmps44
    go_wp2
    go_ret
    exact ⟨rfl, Below.refl _ _⟩
set_option maxHeartbeats 1000000 in
set_option maxRecDepth 100000 in
theorem tog1_calls (x : Int) (w : World) : Calls Try.prog 63 #[.int .i64 x] w fun r w' => r = .returned (.bool (!hasB x)) ∧ Below w.heap.size w w' := by
  have HH := Aside0.mk (has_calls x w)
  obtain ⟨b, hb⟩ : ∃ b, hasB x = b := ⟨_, rfl⟩
  rw [hb] at HH ⊢
  clear hb
  go_enter Try.func63, Try.ntmps63
  go_wp2_with (go_at_call 44; (with_reducible refine (HH.out).mono ?_); rintro e w3 ⟨rfl, hb⟩; (have HB := Aside0.mk hb); clear hb)
  go_ret
  exact ⟨rfl, HB.out⟩
end Go.Proofs.Ytgmaiknbogcpgaa.Pure
