/- A copy of a row; what bits cost. -/
import Derived.Test.YtgmaiknbogcpgaaFogx0
import Derived.Test.YtgmaiknbogcpgaaMay
namespace Go.Proofs.Ytgmaiknbogcpgaa.Pure
open Go.RowKit Go.Proofs.Ytgmaiknbogcpgaa.Fog Go.Proofs.YtgmaiknbogcpgaaW.PrintWords Go.Proofs.YtgmaiknbogcpgaaW.PrintLast Go.Proofs.YtgmaiknbogcpgaaW.PrintMore Go.Proofs.Ytgmaiknbogcpgaa.Kit
set_option linter.unusedVariables false
set_option linter.unusedSimpArgs false
theorem belowd {B : Nat} {w w1 : World} (h : Below B w w1) (d : Nat) : Below B w (w1.drewN d) := h.trans ⟨rfl, rfl, rfl, Nat.le_refl _, fun _ _ => rfl⟩
theorem lit_scalar {α : Type} (enc : α → Value) (h1 : ∀ x, (enc x).oneCell' = true) (w : World) (T : TypeId) (xs : List α) (hn : xs.length ≤ 9223372036854775807) : Kd.C (Kd.scalar enc h1) (w.alloc (.cells (xs.map enc).toArray T)) (some ⟨w.heap.size, 0, none⟩) xs.length xs := by
  refine ⟨rfl, hn, fun _ => ⟨_, rfl, fun j p hj => ⟨[enc p], rfl, rfl, fun i u hu => ?_⟩⟩⟩
  obtain ⟨rfl, rfl⟩ : i = 0 ∧ enc p = u := by
    match i, hu with
    | 0, hu => exact ⟨rfl, by simpa using hu⟩
  rw [add_zero_form, blk_cell (blk_new w _)]
  show ((xs.map enc).toArray)[j * 1 + 0]? = _
  rw [List.getElem?_toArray, Nat.mul_one, Nat.add_zero, List.getElem?_map, hj]
  rfl
theorem liti (w : World) (xs : List Int) (hn : xs.length ≤ 9223372036854775807) : Kd.C (Kd.int .i64) (w.alloc (.cells (xs.map (Value.int .i64)).toArray 3)) (some ⟨w.heap.size, 0, none⟩) xs.length xs := lit_scalar (Value.int .i64) (fun _ => rfl) w 3 xs hn
theorem liti1 (w : World) (x : Int) : Kd.C (Kd.int .i64) (w.alloc (.cells #[.int .i64 x] 3)) (some ⟨w.heap.size, 0, none⟩) [x].length [x] := liti w [x] (by show 1 ≤ 9223372036854775807; decide)
theorem nil_eqI (n c : Nat) (W : World) : (binOp .eql 26 (.slice none n c) (.slice none 0 0)).run Try.prog W = .ok (.bool true) W := by kernel_rfl
theorem some_eqI (ad : Addr) (n c : Nat) (W : World) : (binOp .eql 26 (.slice (some ad) n c) (.slice none 0 0)).run Try.prog W = .ok (.bool false) W := by kernel_rfl
def cloneI (l0 : List Int) : Option (List Int) := if l0.length < 1000000 then some l0 else none
set_option maxHeartbeats 1000000 in
set_option maxRecDepth 100000 in
theorem clone_int (A0 : Option Addr) (c0 : Nat) (l0 : List Int) (r : List Int) (w : World) (hr0 : Kd.C (Kd.int .i64) w A0 l0.length l0) (hc0 : l0.length ≤ c0) (h : cloneI l0 = some r) :
    Calls Try.prog 36 #[.slice A0 l0.length c0] w fun e w' => ∃ v0_ : Value, e = .returned v0_ ∧ Kd.R (Kd.int .i64) 3 w' w.heap.size (fun _ => True) v0_ r ∧ Below w.heap.size w w' := by
  unfold cloneI at h
  by_cases hl : l0.length < 1000000
  · rw [if_pos hl] at h
    obtain rfl := Option.some.inj h
    clear h
    cases A0 with
    | none =>
      have h0 : l0 = [] := by
        rcases Nat.eq_zero_or_pos l0.length with h0 | h0
        · exact List.eq_nil_of_length_eq_zero h0
        · obtain ⟨ad, e, _⟩ := hr0.2.2 h0
          cases e
      subst h0
      have kn := nil_eqI
      go_enter Try.func36, Try.ntmps36
      go_wp2
      go_ret
      exact ⟨_, rfl, Kd.R_nil _ _ _ _ _, Below.refl _ _⟩
    | some ad =>
      have HR0 := Aside0.mk hr0
      have HL := Aside0.mk hl
      clear hr0 hl
      have kn := some_eqI
      go_enter Try.func36, Try.ntmps36
      go_wp2_with (first
        | ((with_reducible refine gate_dst (N := 5) rfl ?_); refine Kd.R_lit (Kd.int .i64) _ 3 ?hg (N := 5) ?hd (xs := ([] : List Int)) (inner := []) (ok := fun _ => True) (okp := fun _ => True) ?hr ?hp (fun _ hk => hk) trivial (Below.refl _ _) (Nat.le_refl _) (by simp) ?_; (case hd => rfl); (case hg => rfl); (case hr => first | (go_simp; done) | (go_simp; rfl)); (case hp => exact (Reps.none _ _)); intro v1 w1 ho hb hg_ hnew_; clear hg_ hnew_; have HO1 := Aside0.mk ho; have HB1 := Aside0.mk hb; clear ho hb)
        | ((with_reducible refine gate_builtin (b := .append) (xs := #[.tmp 5, .tmp 6]) rfl ?_); at_builtin; refine Kd.R_append_rows (Kd.int .i64) (w0 := w) w.heap.size rfl (.tmp 5) (.tmp 6) 26 3 (.int .i64 0) 8 rfl Try.underlying26 info3 rfl (by decide) (by omega) v1 [] l0 _ _ _ (fun _ => True) (fun _ => False) rfl rfl ?aO ?aR (fun _ _ h => h) (fun _ h => h.elim) ?aF ?aB ?aS ?aL ?_; (case aR => exact Kd.C_below HR0.out HB1.out); (case aB => exact HB1.out); (case aF => exact (fun _ _ => trivial)); (case aO => exact HO1.out); (case aS => exact HB1.out.size); (case aL => have := HL.out; simp; omega); intro v2 w2 ho hb hg hat; clear hg hat; have HO2 := Aside0.mk ho; have HB2 := Aside0.mk hb; clear ho hb))
      go_ret
      exact ⟨_, rfl, HO2.out, HB2.out⟩
  · rw [if_neg hl] at h
    cases h
theorem E_rng (x : Int) (h0 : 0 ≤ x) (h1 : x ≤ 8) : -1 ≤ Ld.E x.toNat ∧ Ld.E x.toNat ≤ 170 := by
  have hx : x = 0 ∨ x = 1 ∨ x = 2 ∨ x = 3 ∨ x = 4 ∨ x = 5 ∨ x = 6 ∨ x = 7 ∨ x = 8 := by omega
  rcases hx with rfl | rfl | rfl | rfl | rfl | rfl | rfl | rfl | rfl <;> decide
theorem mulE (wt e : Int) (hw : 1 ≤ wt ∧ wt ≤ 1048576) (h0 : -1 ≤ e) (h1 : e ≤ 170) : -1048576 ≤ wt * e ∧ wt * e ≤ 178257920 := by
  constructor
  · have h := Int.mul_le_mul_of_nonneg_left h0 (by omega : 0 ≤ wt)
    omega
  · by_cases he : 0 ≤ e
    · exact (Ld.wE wt hw e he h1).2
    · have h := Int.mul_le_mul_of_nonneg_left (by omega : e ≤ 0) (by omega : 0 ≤ wt)
      omega
set_option maxHeartbeats 4000000 in
set_option maxRecDepth 100000 in
theorem cost_good (wt b : Int) (w : World) (h1 : 1 ≤ wt ∧ wt ≤ 1048576) (h2 : hasB b = true) : Calls Try.prog 21 #[.int .i64 wt, .int .i64 b] w fun r w' => r = .returned (.tuple #[.int .i64 (wt * Ld.E b.toNat), .int .i64 0]) ∧ Below w.heap.size w w' := by
  have hk : okW [wt] = true := by unfold okW badW; simp; omega
  have hb2 := h2
  unfold hasB at hb2
  simp only [Bool.and_eq_true, decide_eq_true_eq] at hb2
  have hix := ix9 b hb2.1 hb2.2.1
  obtain ⟨r1, r2⟩ := E_rng b hb2.1 hb2.2.1
  have HEN := Aside0.mk energies_calls
  obtain ⟨V, hV⟩ : ∃ V, Ld.E b.toNat = V := ⟨_, rfl⟩
  obtain ⟨cs, hcs⟩ : ∃ cs, enV = cs := ⟨_, rfl⟩
  rw [hV] at hix r1 r2 ⊢
  rw [hcs] at hix HEN
  have HL := Aside0.mk (show ∀ W : World, Calls Try.prog 35 #[.slice (some ⟨W.heap.size, 0, none⟩) 1 1] (W.alloc (.cells #[.int .i64 wt] 3)) fun r w' => r = .returned (.bool true) ∧ ∃ d, w' = (W.alloc (.cells #[.int .i64 wt] 3)).drewN d from fun W => by rw [← hk]; exact may_calls (some ⟨W.heap.size, 0, none⟩) 1 [wt] _ (liti1 W wt))
  have HH := Aside0.mk (show ∀ W : World, Calls Try.prog 44 #[.int .i64 b] W fun r w' => r = .returned (.bool true) ∧ Below W.heap.size W w' from fun W => by rw [← h2]; exact has_calls b W)
  obtain ⟨m1, m2⟩ := mulE wt V h1 r1 r2
  obtain ⟨M, hM⟩ : ∃ M, wt * V = M := ⟨_, rfl⟩
  rw [hM] at m1 m2
  have hmul : IntKind.i64.wrap (wt * V) = M := by rw [hM, IntKind.wrap_i64]; omega
  rw [hM]
  clear hV hcs h2 hb2 hk hM r1 r2 m1 m2 h1
  go_enter Try.func21, Try.ntmps21
  go_wp2_with (first
    | (go_at_call 35; (with_reducible refine (HL.out _).mono ?_); rintro e w1 ⟨rfl, hb⟩; obtain ⟨d1, rfl⟩ := hb)
    | (go_at_call 44; (with_reducible refine (HH.out _).mono ?_); rintro e w2 ⟨rfl, hb⟩; (have HB2 := Aside0.mk hb); clear hb)
    | (go_at_call 45; (with_reducible refine (HEN.out _).mono ?_); rintro e w3 ⟨rfl, hb⟩; (have HB3 := Aside0.mk hb); clear hb))
  go_ret2
  exact ⟨rfl, below_step (below_step (belowd (Below.alloc (Below.refl _ w) (Nat.le_refl _) _) d1) HB2.out) HB3.out⟩
set_option maxHeartbeats 4000000 in
set_option maxRecDepth 100000 in
theorem cost_bad (wt b : Int) (w : World) (h : (okW [wt] && hasB b) = false) : Calls Try.prog 21 #[.int .i64 wt, .int .i64 b] w fun r w' => r = .returned (.tuple #[.int .i64 0, .int .i64 1]) ∧ Below w.heap.size w w' := by
  have HL := Aside0.mk (show ∀ W : World, Calls Try.prog 35 #[.slice (some ⟨W.heap.size, 0, none⟩) 1 1] (W.alloc (.cells #[.int .i64 wt] 3)) fun r w' => r = .returned (.bool (okW [wt])) ∧ ∃ d, w' = (W.alloc (.cells #[.int .i64 wt] 3)).drewN d from fun W => may_calls (some ⟨W.heap.size, 0, none⟩) 1 [wt] _ (liti1 W wt))
  have HH := Aside0.mk (show ∀ W : World, Calls Try.prog 44 #[.int .i64 b] W fun r w' => r = .returned (.bool (hasB b)) ∧ Below W.heap.size W w' from fun W => has_calls b W)
  obtain ⟨x, hx⟩ : ∃ x, okW [wt] = x := ⟨_, rfl⟩
  obtain ⟨y, hy⟩ : ∃ y, hasB b = y := ⟨_, rfl⟩
  rw [hx] at HL h
  rw [hy] at HH h
  clear hx hy
  cases x
  · clear h HH
    go_enter Try.func21, Try.ntmps21
    go_wp2_with (first
      | (go_at_call 35; (with_reducible refine (HL.out _).mono ?_); rintro e w1 ⟨rfl, hb⟩; obtain ⟨d1, rfl⟩ := hb))
    go_ret2
    exact ⟨rfl, belowd (Below.alloc (Below.refl _ w) (Nat.le_refl _) _) d1⟩
  · have hy : y = false := by simpa using h
    subst hy
    clear h
    go_enter Try.func21, Try.ntmps21
    go_wp2_with (first
      | (go_at_call 35; (with_reducible refine (HL.out _).mono ?_); rintro e w1 ⟨rfl, hb⟩; obtain ⟨d1, rfl⟩ := hb)
      | (go_at_call 44; (with_reducible refine (HH.out _).mono ?_); rintro e w2 ⟨rfl, hb⟩; (have HB2 := Aside0.mk hb); clear hb))
    go_ret2
    exact ⟨rfl, below_step (belowd (Below.alloc (Below.refl _ w) (Nat.le_refl _) _) d1) HB2.out⟩
/-- What so many bits cost. -/
def costV (wt b : Int) : Int × Int := if okW [wt] && hasB b then (wt * Ld.E b.toNat, 0) else (0, 1)
theorem okW_one (wt : Int) : okW [wt] = true ↔ (1 ≤ wt ∧ wt ≤ 1048576) := by unfold okW badW; simp
theorem cost_any (wt b : Int) (w : World) : Calls Try.prog 21 #[.int .i64 wt, .int .i64 b] w fun r w' => r = .returned (.tuple #[.int .i64 (costV wt b).1, .int .i64 (costV wt b).2]) ∧ Below w.heap.size w w' := by
  unfold costV
  by_cases h : (okW [wt] && hasB b) = true
  · rw [if_pos h]
    rw [Bool.and_eq_true] at h
    exact cost_good wt b w ((okW_one wt).mp h.1) h.2
  · rw [if_neg h]
    rw [Bool.not_eq_true] at h
    exact cost_bad wt b w h
end Go.Proofs.Ytgmaiknbogcpgaa.Pure
