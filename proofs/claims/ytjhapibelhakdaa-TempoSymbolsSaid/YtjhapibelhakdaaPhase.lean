/- Phase: the first greatest of numbers; lists of floats compared. -/
import Derived.Test.YtjhapibelhakdaaFogx0
import Derived.Test.YtjhapibelhakdaaFloatKey
import Derived.Test.YtjhapibelhakdaaBoth
namespace Go.Proofs.Ytjhapibelhakdaa.Pure
open Go.RowKit Go.Proofs.Ytjhapibelhakdaa.Fog Go.Proofs.YtjhapibelhakdaaW.PrintWords Go.Proofs.YtjhapibelhakdaaW.PrintLast Go.Proofs.YtjhapibelhakdaaW.PrintMore Go.Proofs.Ytjhapibelhakdaa.Kit
set_option linter.unusedVariables false
set_option linter.unusedSimpArgs false
theorem fl_at {w : World} {A : Option Addr} {n : Nat} {l : List Nat} (h : Kd.C KF w A n l) (i : Nat) (hi : i < n) : ∃ ad, A = some ad ∧ w.cell? (ad.add i) = some (.float .f64 (l.getD i 0)) := by
  have hl : l.length = n := h.1
  obtain ⟨ad, rfl, hc⟩ := h.2.2 (by omega)
  have hg : l[i]? = some (l.getD i 0) := by
    rw [List.getD_eq_getElem?_getD, List.getElem?_eq_getElem (by omega)]; rfl
  obtain ⟨cs, hcl, hK, hcell⟩ := hc i _ hg
  have e : cs = [.float .f64 (l.getD i 0)] := hK
  subst e
  have h0 := hcell 0 _ rfl
  have e1 : i * KF.sz + 0 = i := by show i * 1 + 0 = i; omega
  rw [e1] at h0
  exact ⟨ad, rfl, h0⟩
set_option maxHeartbeats 1000000 in
set_option maxRecDepth 100000 in
theorem isnan_calls (x : Nat) (w : World) : Calls Try.prog 43 #[.float .f64 x] w fun e w' => e = .returned (.bool (decide (nanF x))) ∧ w' = w := by
  by_cases h : nanF x
  · have h1 : (FloatKind.f64.format.order x x != some Ordering.eq) = true := by simpa using (nan_order x).1 h
    rw [decide_eq_true h]
    go_enter Try.func43, Try.ntmps43
    go_wp2
    go_ret
    exact ⟨rfl, rfl⟩
  · have h0 : FloatKind.f64.format.order x x = some Ordering.eq := Decidable.byContradiction fun h2 => h ((nan_order x).2 h2)
    have h1 : (FloatKind.f64.format.order x x != some Ordering.eq) = false := by rw [h0]; rfl
    rw [decide_eq_false h]
    go_enter Try.func43, Try.ntmps43
    go_wp2
    go_ret
    exact ⟨rfl, rfl⟩
theorem drew_more {w a : World} (h : ∃ d, a = w.drewN d) (n : Nat) : ∃ d, a.drewN n = w.drewN d := by
  obtain ⟨d, rfl⟩ := h
  exact ⟨_, World.drewN_drewN _ _ _⟩
/-- Is one of them a NaN? -/
def someNaN (l : List Nat) (n : Nat) : Prop := ∃ i, i < n ∧ nanF (l.getD i 0)
set_option maxHeartbeats 1000000 in
set_option maxRecDepth 100000 in
theorem indexfunc_calls (A : Option Addr) (c n : Nat) (l : List Nat) (w : World) (h : Kd.C KF w A n l) (hn : n < 140737488355000) :
    Calls Try.prog 48 #[.slice A n c, .func (.func 43) #[] #[]] w fun e w' => ∃ r : Int, e = .returned (.int .i64 r) ∧ ((someNaN l n → 0 ≤ r) ∧ (¬ someNaN l n → r = -1)) ∧ w' = w := by
  have HC := Aside0.mk h
  have HN := Aside0.mk hn
  clear h
  go_enter Try.func48, Try.ntmps48
  go_wp2
  go_loopw [8] (fun i wr => ∃ k : Nat, k ≤ n ∧ i = .int .i64 (k : Int) ∧ Aside0 (∀ j, j < k → ¬ nanF (l.getD j 0)) ∧ wr = w) (fun i _ => n - (intOf i).toNat)
  case atStart => exact ⟨0, Nat.zero_le _, rfl, ⟨fun j hj => absurd hj (Nat.not_lt_zero _)⟩, rfl⟩
  case round =>
    obtain ⟨k, hk, rfl, HJ, rfl⟩ := hrel
    have hkn := HN.out
    by_cases hlt : k < n
    · have q1 : (k : Int) < (n : Int) := by omega
      have hks : IntKind.i64.wrap ((k : Int) + 1) = (k : Int) + 1 := by rw [IntKind.wrap_i64]; omega
      obtain ⟨ad, hA, k1⟩ := fl_at HC.out k hlt
      subst hA
      obtain ⟨x, hx⟩ : ∃ x, l.getD k 0 = x := ⟨_, rfl⟩
      rw [hx] at k1
      have HX := Aside0.mk hx
      clear hx
      by_cases hnx : nanF x
      · have HNX := Aside0.mk hnx
        have hd := decide_eq_true hnx
        clear hnx
        go_wp2_with (go_at_call 43; (refine (isnan_calls x _).mono ?_); rintro e w1 ⟨rfl, rfl⟩; rw [hd])
        go_ret
        exact ⟨_, rfl, ⟨fun _ => by omega, fun h9 => absurd ⟨k, hlt, by rw [HX.out]; exact HNX.out⟩ h9⟩, rfl⟩
      · have HNX := Aside0.mk hnx
        have hd := decide_eq_false hnx
        clear hnx
        go_wp2_with (go_at_call 43; (refine (isnan_calls x _).mono ?_); rintro e w1 ⟨rfl, rfl⟩; rw [hd])
        exact ⟨⟨k + 1, hlt, by go_num, ⟨fun j hj => (by
          by_cases hjk : j < k
          · exact HJ.out j hjk
          · obtain rfl : j = k := by omega
            rw [HX.out]; exact HNX.out)⟩, by first | rfl | trivial⟩, by show n - ((k : Int) + 1).toNat < n - (k : Int).toNat; omega⟩
    · have hkN : k = n := by omega
      subst hkN
      go_wp2
      go_ret
      exact ⟨_, rfl, ⟨fun ⟨j, hj, h9⟩ => absurd h9 (HJ.out j hj), fun _ => rfl⟩, rfl⟩
set_option maxHeartbeats 1000000 in
set_option maxRecDepth 100000 in
theorem contains_calls (A : Option Addr) (c n : Nat) (l : List Nat) (w : World) (b : Bool) (hb : b = true ↔ someNaN l n) (h : Kd.C KF w A n l) (hn : n < 140737488355000) :
    Calls Try.prog 42 #[.slice A n c, .func (.func 43) #[] #[]] w fun e w' => e = .returned (.bool b) ∧ w' = w := by
  have HI := Aside0.mk (indexfunc_calls A c n l w h hn)
  have HBB := Aside0.mk hb
  clear h hb
  cases b
  · go_enter Try.func42, Try.ntmps42
    go_wp2_with (go_at_call 48; (refine HI.out.mono ?_); rintro e w1 ⟨r, rfl, ⟨h1, h2⟩, rfl⟩; (obtain rfl : r = -1 := h2 (fun h9 => Bool.noConfusion (HBB.out.2 h9))); clear h1 h2)
    go_ret
    exact ⟨rfl, rfl⟩
  · go_enter Try.func42, Try.ntmps42
    go_wp2_with (go_at_call 48; (refine HI.out.mono ?_); rintro e w1 ⟨r, rfl, ⟨h1, h2⟩, rfl⟩; (have hr := h1 (HBB.out.1 rfl)); clear h1 h2)
    go_ret
    exact ⟨rfl, rfl⟩
theorem key_eq {x y : Nat} (hx : ¬ nanF x) (hy : ¬ nanF y) : (FloatKind.f64.format.order x y == some Ordering.eq) = decide (keyF x = keyF y) := by
  rw [order_key x y hx hy]
  rcases Int.lt_trichotomy (keyF x) (keyF y) with h | h | h
  · rw [Int.compare_eq_lt.2 h, decide_eq_false (by omega)]; rfl
  · rw [Int.compare_eq_eq.2 h, decide_eq_true h]; rfl
  · rw [Int.compare_eq_gt.2 h, decide_eq_false (by omega)]; rfl
theorem max_run (P : Program) (t1 t2 : TypeId) (m x : Nat) (w : World) (o : Ordering) (ho : FloatKind.f64.format.order m x = some o) : ∃ r, (Builtin.max_ #[t1, t2] t1 #[.float .f64 m, .float .f64 x]).run P w = .ok (.float .f64 r) w ∧ (o = .lt → r = x) ∧ (o = .gt → r = m) ∧ (r = m ∨ r = x) := by
  cases o
  · exact ⟨x, by simp [Builtin.max_, Builtin.max2, ho], fun _ => rfl, (fun h => by cases h), .inr rfl⟩
  · by_cases hd : (FloatKind.f64.decode m).neg = true
    · exact ⟨x, by simp [Builtin.max_, Builtin.max2, ho, hd], (fun h => by cases h), (fun h => by cases h), .inr rfl⟩
    · exact ⟨m, by simp [Builtin.max_, Builtin.max2, ho, hd], (fun h => by cases h), (fun h => by cases h), .inl rfl⟩
  · exact ⟨m, by simp [Builtin.max_, Builtin.max2, ho], (fun h => by cases h), fun _ => rfl, .inl rfl⟩
set_option maxHeartbeats 2000000 in
set_option maxRecDepth 100000 in
theorem max_calls (A : Option Addr) (c n : Nat) (l : List Nat) (w : World) (h : Kd.C KF w A n l) (hn : n < 140737488355000) (hn1 : 1 ≤ n) (hno : ¬ someNaN l n) :
    Calls Try.prog 45 #[.slice A n c] w fun e w' => (∃ m, e = .returned (.float .f64 m) ∧ ¬ nanF m ∧ keyF m = keyF (l.getD (bestV l n) 0)) ∧ w' = w := by
  have HC := Aside0.mk h
  have HN := Aside0.mk (And.intro hn hn1)
  have HNO := Aside0.mk (show ∀ j, j < n → ¬ nanF (l.getD j 0) from fun j hj h9 => hno ⟨j, hj, h9⟩)
  have q0 : ¬ (n : Int) < 1 := by omega
  have q00 : (0 : Int) < (n : Int) := by omega
  obtain ⟨ad0, hA0, z1⟩ := fl_at h 0 (by omega)
  subst hA0
  have z2 : w.cell? ad0 = some (.float .f64 (l.getD 0 0)) := by simpa [Addr.add] using z1
  clear h hno
  go_enter Try.func45, Try.ntmps45
  go_wp2
  go_loopw [3, 4] (fun v i wr => ∃ k : Nat, 1 ≤ k ∧ k ≤ n ∧ i = .int .i64 (k : Int) ∧ (∃ m, v = .float .f64 m ∧ Aside0 (¬ nanF m ∧ keyF m = keyF (l.getD (bestV l k) 0))) ∧ wr = w) (fun _ i _ => n - (intOf i).toNat)
  case atStart =>
    refine ⟨1, Nat.le_refl _, HN.out.2, rfl, ⟨_, rfl, ⟨HNO.out 0 HN.out.2, ?_⟩⟩, rfl⟩
    have e : bestV l 1 = 0 := by
      show (if keyF (l.getD 0 0) < keyF (l.getD 0 0) then 0 else 0) = 0
      split <;> rfl
    rw [e]
    first | done | rfl | (simp; done)
  case round =>
    obtain ⟨k, hk1, hk, rfl, ⟨m, rfl, HM⟩, rfl⟩ := hrel
    have hkn := HN.out.1
    by_cases hlt : k < n
    · have q1 : (k : Int) < (n : Int) := by omega
      have hks : IntKind.i64.wrap ((k : Int) + 1) = (k : Int) + 1 := by rw [IntKind.wrap_i64]; omega
      obtain ⟨ad, hA, k1⟩ := fl_at HC.out k hlt
      cases hA
      obtain ⟨x, hx⟩ : ∃ x, l.getD k 0 = x := ⟨_, rfl⟩
      have hxn := HNO.out k hlt
      rw [hx] at k1 hxn
      have hb : bestV l (k + 1) = if keyF (l.getD (bestV l k) 0) < keyF (l.getD k 0) then k else bestV l k := rfl
      rw [hx, ← HM.out.2] at hb
      have HX := Aside0.mk hx
      have HBV := Aside0.mk hb
      have HXN := Aside0.mk hxn
      have ho := order_key m x HM.out.1 hxn
      clear hx hb hxn
      obtain ⟨r, hrun, hr1, hr2, hr3⟩ := max_run Try.prog 41 41 m x wr _ ho
      have hr : ¬ nanF r ∧ keyF r = keyF (l.getD (bestV l (k + 1)) 0) := by
        rw [HBV.out]
        rcases Int.lt_trichotomy (keyF m) (keyF x) with h | h | h
        · rw [if_pos h, HX.out, hr1 (Int.compare_eq_lt.2 h)]
          exact ⟨HXN.out, rfl⟩
        · rw [if_neg (by omega), ← HM.out.2]
          rcases hr3 with rfl | rfl
          · exact ⟨HM.out.1, rfl⟩
          · exact ⟨HXN.out, h.symm⟩
        · rw [if_neg (by omega), hr2 (Int.compare_eq_gt.2 h)]
          exact HM.out
      have HR := Aside0.mk hr
      clear hr hr1 hr2 hr3 ho
      go_wp2
      exact ⟨⟨k + 1, by omega, hlt, by go_num, ⟨r, rfl, HR⟩, by first | rfl | trivial⟩, by show n - ((k : Int) + 1).toNat < n - (k : Int).toNat; omega⟩
    · have hkN : k = n := by omega
      subst hkN
      go_wp2
      go_ret
      exact ⟨⟨_, rfl, HM.out⟩, rfl⟩
set_option maxHeartbeats 2000000 in
set_option maxRecDepth 100000 in
theorem index_calls (A : Option Addr) (c n m B : Nat) (l : List Nat) (w : World) (h : Kd.C KF w A n l) (hn : n < 140737488355000) (hno : ¬ someNaN l n) (hm : ¬ nanF m) (hB : B < n) (hk : keyF m = keyF (l.getD B 0)) (hlt : ∀ i, i < B → keyF (l.getD i 0) < keyF m) :
    Calls Try.prog 44 #[.slice A n c, .float .f64 m] w fun e w' => e = .returned (.int .i64 (B : Int)) ∧ w' = w := by
  have HC := Aside0.mk h
  have HN := Aside0.mk hn
  have HNO := Aside0.mk (show ∀ j, j < n → ¬ nanF (l.getD j 0) from fun j hj h9 => hno ⟨j, hj, h9⟩)
  have HM := Aside0.mk hm
  have HK := Aside0.mk hk
  have HL := Aside0.mk hlt
  have HBn := Aside0.mk hB
  clear h hno hm hk hlt hB
  go_enter Try.func44, Try.ntmps44
  go_wp2
  go_loopw [8] (fun i wr => ∃ k : Nat, k ≤ B ∧ i = .int .i64 (k : Int) ∧ wr = w) (fun i _ => n - (intOf i).toNat)
  case atStart => exact ⟨0, Nat.zero_le _, rfl, rfl⟩
  case round =>
    obtain ⟨k, hk, rfl, rfl⟩ := hrel
    have hkn := HN.out
    have hb := HBn.out
    have hlt : k < n := by omega
    have q1 : (k : Int) < (n : Int) := by omega
    have hks : IntKind.i64.wrap ((k : Int) + 1) = (k : Int) + 1 := by rw [IntKind.wrap_i64]; omega
    obtain ⟨ad, hA, k1⟩ := fl_at HC.out k hlt
    subst hA
    have he := key_eq HM.out (HNO.out k hlt)
    have hl := HL.out k
    have hkk := HK.out
    by_cases hkB : k = B
    · subst hkB
      rw [decide_eq_true hkk] at he
      clear hl hkk
      obtain ⟨x, hx⟩ : ∃ x, l.getD k 0 = x := ⟨_, rfl⟩
      rw [hx] at k1 he
      clear hx
      go_wp2
      go_ret
      exact ⟨rfl, rfl⟩
    · have hl2 := hl (by omega)
      rw [decide_eq_false (by omega)] at he
      clear hl hl2 hkk
      obtain ⟨x, hx⟩ : ∃ x, l.getD k 0 = x := ⟨_, rfl⟩
      rw [hx] at k1 he
      clear hx
      go_wp2
      exact ⟨⟨k + 1, by omega, by go_num, by first | rfl | trivial⟩, by show n - ((k : Int) + 1).toNat < n - (k : Int).toNat; omega⟩
set_option maxHeartbeats 2000000 in
set_option maxRecDepth 100000 in
theorem phase_ok (A : Option Addr) (c n : Nat) (l : List Nat) (w : World) (h : Kd.C KF w A n l) (hn : n < 140737488355000) (hn1 : 1 ≤ n) (hno : ¬ someNaN l n) :
    Calls Try.prog 27 #[.slice A n c] w fun e w' => e = .returned (.tuple #[.int .i64 (bestV l n : Int), .int .i64 0]) ∧ w' = w := by
  obtain ⟨f1, f2, f3⟩ := bestV_facts l n hn1
  have HCN := Aside0.mk (contains_calls A c n l w false ⟨fun h9 => Bool.noConfusion h9, fun h9 => absurd h9 hno⟩ h hn)
  have HMX := Aside0.mk (max_calls A c n l w h hn hn1 hno)
  have HIX := Aside0.mk (show ∀ m, ¬ nanF m → keyF m = keyF (l.getD (bestV l n) 0) → Calls Try.prog 44 #[.slice A n c, .float .f64 m] w fun e w' => e = .returned (.int .i64 (bestV l n : Int)) ∧ w' = w from fun m hm hk => index_calls A c n m (bestV l n) l w h hn hno hm f1 hk (fun i hi => by rw [hk]; exact f3 i hi))
  have q0 : ¬ (n : Int) = 0 := by omega
  have q1 : ((n : Int) == 0) = false := by simpa using q0
  clear h hno f1 f2 f3
  go_enter Try.func27, Try.ntmps27
  go_wp2_with (first
    | (go_at_call 42; (with_reducible refine HCN.out.mono ?_); rintro e w1 ⟨rfl, rfl⟩)
    | (go_at_call 45; (with_reducible refine HMX.out.mono ?_); rintro e w1 ⟨⟨m, rfl, hm, hk⟩, rfl⟩; (have HMM := Aside0.mk (And.intro hm hk)); clear hm hk)
    | (go_at_call 44; (with_reducible refine (HIX.out m HMM.out.1 HMM.out.2).mono ?_); rintro e w1 ⟨rfl, rfl⟩))
  go_ret2
  exact ⟨rfl, rfl⟩
set_option maxHeartbeats 2000000 in
set_option maxRecDepth 100000 in
theorem phase_bad (A : Option Addr) (c n : Nat) (l : List Nat) (w : World) (h : Kd.C KF w A n l) (hn : n < 140737488355000) (hno : n = 0 ∨ someNaN l n) :
    Calls Try.prog 27 #[.slice A n c] w fun e w' => e = .returned (.tuple #[.int .i64 0, .int .i64 1]) ∧ w' = w := by
  by_cases h0 : n = 0
  · subst h0
    clear h hno
    go_enter Try.func27, Try.ntmps27
    go_wp2
    go_ret2
    exact ⟨rfl, rfl⟩
  · have HCN := Aside0.mk (contains_calls A c n l w true ⟨fun _ => hno.resolve_left h0, fun _ => rfl⟩ h hn)
    have q0 : ¬ (n : Int) = 0 := by omega
    have q1 : ((n : Int) == 0) = false := by simpa using q0
    clear h hno
    go_enter Try.func27, Try.ntmps27
    go_wp2_with (go_at_call 42; (with_reducible refine HCN.out.mono ?_); rintro e w1 ⟨rfl, rfl⟩)
    go_ret2
    exact ⟨rfl, rfl⟩
set_option maxHeartbeats 4000000 in
set_option maxRecDepth 100000 in
theorem refphase_calls (A : Option Addr) (c n : Nat) (l : List Nat) (w : World) (h : Kd.C KF w A n l) (hn : n < 140737488355000) :
    Calls Try.prog 28 #[.slice A n c] w fun e w' => ((1 ≤ n ∧ ¬ someNaN l n → e = .returned (.tuple #[.int .i64 (bestV l n : Int), .int .i64 0])) ∧ (n = 0 ∨ someNaN l n → e = .returned (.tuple #[.int .i64 0, .int .i64 1]))) ∧ ∃ d, w' = w.drewN d := by
  have HC := Aside0.mk h
  have HN := Aside0.mk hn
  clear h
  go_enter Try.func28, Try.ntmps28
  go_wp2
  go_loopw [4, 5] (fun b i wr => ∃ k : Nat, k ≤ n ∧ i = .int .i64 (k : Int) ∧ b = .int .i64 (bestV l k : Int) ∧ Aside0 (∀ j, j < k → ¬ nanF (l.getD j 0)) ∧ Aside0 (∃ d, wr = w.drewN d)) (fun _ i _ => n - (intOf i).toNat)
  case atStart => exact ⟨0, Nat.zero_le _, rfl, rfl, ⟨fun j hj => absurd hj (Nat.not_lt_zero _)⟩, ⟨0, rfl⟩⟩
  case round =>
    obtain ⟨k, hk, rfl, rfl, HJ, HW⟩ := hrel
    have hkn := HN.out
    obtain ⟨d0, hd0⟩ := HW.out
    have hbw : Below w.heap.size w wr := hd0 ▸ pw_below_drewN (Below.refl _ _) d0
    have HD := Aside0.mk hd0
    clear hd0 HW
    by_cases hlt : k < n
    · have q1 : (k : Int) < (n : Int) := by omega
      have hks : IntKind.i64.wrap ((k : Int) + 1) = (k : Int) + 1 := by rw [IntKind.wrap_i64]; omega
      obtain ⟨ad, hA, k1⟩ := fl_at (Kd.C_below HC.out hbw) k hlt
      subst hA
      have hbk : bestV l k < n := by
        rcases Nat.eq_zero_or_pos k with h0 | h0
        · subst h0; exact hlt
        · have := (bestV_facts l k h0).1; omega
      obtain ⟨ad', hA', k2⟩ := fl_at (Kd.C_below HC.out hbw) (bestV l k) hbk
      cases hA'
      have hb : bestV l (k + 1) = if keyF (l.getD (bestV l k) 0) < keyF (l.getD k 0) then k else bestV l k := rfl
      obtain ⟨B, hB⟩ : ∃ B, bestV l k = B := ⟨_, rfl⟩
      rw [hB] at hb k2 hbk ⊢
      have q2 : (B : Int) < (n : Int) := by omega
      have q3 : (0 : Int) ≤ (B : Int) := by omega
      obtain ⟨x, hx⟩ : ∃ x, l.getD k 0 = x := ⟨_, rfl⟩
      obtain ⟨y, hy⟩ : ∃ y, l.getD B 0 = y := ⟨_, rfl⟩
      have hyn : k = 0 ∨ ¬ nanF y := by
        rcases Nat.eq_zero_or_pos k with h0 | h0
        · exact .inl h0
        · right; rw [← hy, ← hB]; exact HJ.out _ (bestV_facts l k h0).1
      have hxy : k = 0 → y = x := fun h0 => by
        subst h0
        rw [← hx, ← hy, ← hB]; rfl
      rw [hx] at k1 hb
      rw [hy] at k2 hb
      have HX := Aside0.mk hx
      have HBV := Aside0.mk hb
      clear hx hy hb hB hbw
      by_cases hnx : nanF x
      · have HNX := Aside0.mk hnx
        have e1 : (FloatKind.f64.format.order x x != some Ordering.eq) = true := by simpa using (nan_order x).1 hnx
        clear hnx hyn hxy
        go_wp2
        go_quiet (fail)
        go_wp2
        go_ret2
        exact ⟨⟨fun h9 => absurd ⟨k, hlt, by rw [HX.out]; exact HNX.out⟩ h9.2, fun _ => rfl⟩, d0 + nq, by rw [HD.out, World.drewN_drewN]⟩
      · have HNX := Aside0.mk hnx
        have e0 : FloatKind.f64.format.order x x = some Ordering.eq := Decidable.byContradiction fun h2 => hnx ((nan_order x).2 h2)
        have e1 : (FloatKind.f64.format.order x x != some Ordering.eq) = false := by rw [e0]; rfl
        have hyn2 : ¬ nanF y := hyn.elim (fun h0 => by rw [hxy h0]; exact hnx) id
        have ho := order_key x y hnx hyn2
        have HJ2 := Aside0.mk (show ∀ j, j < k + 1 → ¬ nanF (l.getD j 0) from fun j hj => by
          by_cases hjk : j < k
          · exact HJ.out j hjk
          · obtain rfl : j = k := by omega
            rw [HX.out]; exact hnx)
        clear hnx hyn hxy hyn2 e0
        by_cases hgt : keyF y < keyF x
        · rw [Int.compare_eq_gt.2 hgt] at ho
          have HG := Aside0.mk hgt
          clear hgt
          go_wp2
          go_quiet (fail)
          go_wp2
          go_quiet (fail)
          go_wp2
          exact ⟨⟨k + 1, hlt, by go_num, by rw [HBV.out, if_pos HG.out], HJ2, ⟨by first | exact drew_more (drew_more ⟨_, HD.out⟩ _) _ | exact drew_more ⟨_, HD.out⟩ _⟩⟩, by show n - ((k : Int) + 1).toNat < n - (k : Int).toNat; omega⟩
        · have ho2 : FloatKind.f64.format.order x y ≠ some Ordering.gt := fun h9 => by
            rw [ho] at h9
            exact hgt (Int.compare_eq_gt.1 (Option.some.inj h9))
          have ho3 : (FloatKind.f64.format.order x y == some Ordering.gt) = false := by simpa using ho2
          have HG := Aside0.mk hgt
          clear hgt ho
          go_wp2
          go_quiet (fail)
          go_wp2
          go_quiet (fail)
          go_wp2
          exact ⟨⟨k + 1, hlt, by go_num, by rw [HBV.out, if_neg (by have := HG.out; omega)], HJ2, ⟨by first | exact drew_more (drew_more ⟨_, HD.out⟩ _) _ | exact drew_more ⟨_, HD.out⟩ _⟩⟩, by show n - ((k : Int) + 1).toNat < n - (k : Int).toNat; omega⟩
    · have hkN : k = n := by omega
      subst hkN
      by_cases h0 : k = 0
      · have q2 : (k : Int) = 0 := by omega
        have q3 : ((k : Int) == 0) = true := by simpa using q2
        have H0 := Aside0.mk h0
        clear h0
        go_wp2
        go_ret2
        exact ⟨⟨fun h9 => absurd h9.1 (by have := H0.out; omega), fun _ => rfl⟩, d0, HD.out⟩
      · have q2 : ¬ (k : Int) = 0 := by omega
        have q3 : ((k : Int) == 0) = false := by simpa using q2
        have H0 := Aside0.mk h0
        clear h0
        go_wp2
        go_ret2
        exact ⟨⟨fun _ => rfl, fun h9 => h9.elim (fun h => absurd h H0.out) (fun ⟨j, hj, h⟩ => absurd h (HJ.out j hj))⟩, d0, HD.out⟩
end Go.Proofs.Ytjhapibelhakdaa.Pure
