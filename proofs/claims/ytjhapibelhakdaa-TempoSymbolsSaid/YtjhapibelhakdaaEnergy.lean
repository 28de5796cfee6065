/- Energies: any row, any period; NaN as NaN. -/
import Derived.Test.YtjhapibelhakdaaFogx0
import Derived.Test.YtjhapibelhakdaaFloatLaw
import Derived.Test.YtjhapibelhakdaaSlide
namespace Go.Proofs.Ytjhapibelhakdaa.Pure
open Go.RowKit Go.Proofs.Ytjhapibelhakdaa.Fog Go.Proofs.YtjhapibelhakdaaW.PrintWords Go.Proofs.YtjhapibelhakdaaW.PrintLast Go.Proofs.YtjhapibelhakdaaW.PrintMore Go.Proofs.Ytjhapibelhakdaa.Kit
set_option linter.unusedVariables false
set_option linter.unusedSimpArgs false
def normO (a b : Nat) : Option Nat := addO (floatBits .mul .f64 a a) (floatBits .mul .f64 b b)
set_option maxHeartbeats 1000000 in
set_option maxRecDepth 100000 in
theorem norm_any (a b : Nat) (w : World) : Calls Try.prog 39 #[.complex .f64 a b] w fun e w' => ∃ r, e = .returned (.float .f64 r) ∧ relF (normO a b) r ∧ ∃ d, w' = w.drewN d := by
  obtain ⟨p, d1, h1, k1⟩ := run_float_any .mul (.inr rfl) Try.prog 41 a a w
  obtain ⟨w1, hw1⟩ : ∃ w1, w.drewN d1 = w1 := ⟨_, rfl⟩
  rw [hw1] at h1
  obtain ⟨q, d2, h2, k2⟩ := run_float_any .mul (.inr rfl) Try.prog 41 b b w1
  obtain ⟨w2, hw2⟩ : ∃ w2, w1.drewN d2 = w2 := ⟨_, rfl⟩
  rw [hw2] at h2
  obtain ⟨r, d3, h3, k3⟩ := run_float_any .add (.inl rfl) Try.prog 41 p q w2
  rw [rel_add k1 k2] at k3
  have HR := Aside0.mk k3
  have HW := Aside0.mk (And.intro hw1 hw2)
  clear k1 k2 k3 hw1 hw2
  go_enter Try.func39, Try.ntmps39
  go_wp2
  go_ret
  refine ⟨r, rfl, HR.out, d1 + (d2 + d3), ?_⟩
  rw [← HW.out.2, ← HW.out.1, World.drewN_drewN, World.drewN_drewN]
set_option maxHeartbeats 1000000 in
set_option maxRecDepth 100000 in
theorem refnorm_any (a b : Nat) (w : World) : Calls Try.prog 41 #[.complex .f64 a b] w fun e w' => ∃ r, e = .returned (.float .f64 r) ∧ relF (normO a b) r ∧ Below w.heap.size w w' := by
  obtain ⟨p, d1, h1, k1⟩ := run_float_any .mul (.inr rfl) Try.prog 41 a a w
  obtain ⟨w1, hw1⟩ : ∃ w1, w.drewN d1 = w1 := ⟨_, rfl⟩
  rw [hw1] at h1
  obtain ⟨q, d2, h2, k2⟩ := run_float_any .mul (.inr rfl) Try.prog 41 b b w1
  obtain ⟨w2, hw2⟩ : ∃ w2, w1.drewN d2 = w2 := ⟨_, rfl⟩
  rw [hw2] at h2
  obtain ⟨r, d3, h3, k3⟩ := run_float_any .add (.inl rfl) Try.prog 41 p q w2
  rw [rel_add k1 k2] at k3
  have HR := Aside0.mk k3
  have HB := Aside0.mk (show Below w.heap.size w (w2.drewN d3) from by rw [← hw2, ← hw1]; exact pw_below_drewN (pw_below_drewN (pw_below_drewN (Below.refl _ _) _) _) _)
  clear k1 k2 k3 hw1 hw2
  go_enter Try.func41, Try.ntmps41
  go_wp2
  go_ret
  exact ⟨r, rfl, HR.out, HB.out⟩
def fl8 (b : Nat → Nat) : Array Value := #[.float .f64 (b 0), .float .f64 (b 1), .float .f64 (b 2), .float .f64 (b 3), .float .f64 (b 4), .float .f64 (b 5), .float .f64 (b 6), .float .f64 (b 7)]
def updF (b : Nat → Nat) (j q : Nat) : Nat → Nat := fun i => if i = j then q else b i
theorem fl8_at (b : Nat → Nat) (j : Nat) (h : j < 8) : (fl8 b)[j]? = some (.float .f64 (b j)) := by
  match j, h with
  | 0, _ => rfl
  | 1, _ => rfl
  | 2, _ => rfl
  | 3, _ => rfl
  | 4, _ => rfl
  | 5, _ => rfl
  | 6, _ => rfl
  | 7, _ => rfl
theorem fl8_set (b : Nat → Nat) (j q : Nat) (h : j < 8) : (fl8 b).setIfInBounds j (.float .f64 q) = fl8 (updF b j q) := by
  match j, h with
  | 0, _ => rfl
  | 1, _ => rfl
  | 2, _ => rfl
  | 3, _ => rfl
  | 4, _ => rfl
  | 5, _ => rfl
  | 6, _ => rfl
  | 7, _ => rfl
/-- The sum of phase i after k samples (of those from F on). -/
def sumS (l : List Smp) (F p i : Nat) : Nat → Option Nat
  | 0 => some 0
  | k + 1 => if k % p = i ∧ (l.getD (F + k) s0).2 = false then addO (sumS l F p i k) (normO (l.getD (F + k) s0).1.1 (l.getD (F + k) s0).1.2) else sumS l F p i k
/-- .. and as the reference sums it: m samples of the phase. -/
def sumT (l : List Smp) (F p i : Nat) : Nat → Option Nat
  | 0 => some 0
  | m + 1 => if (l.getD (F + i + m * p) s0).2 = false then addO (sumT l F p i m) (normO (l.getD (F + i + m * p) s0).1.1 (l.getD (F + i + m * p) s0).1.2) else sumT l F p i m
theorem sumS_succ (l : List Smp) (F p i k : Nat) : sumS l F p i (k + 1) = if k % p = i ∧ (l.getD (F + k) s0).2 = false then addO (sumS l F p i k) (normO (l.getD (F + k) s0).1.1 (l.getD (F + k) s0).1.2) else sumS l F p i k := rfl
theorem sum_same (l : List Smp) (F p i : Nat) (hi : i < p) : ∀ m, sumS l F p i (m * p) = sumT l F p i m
  | 0 => by rw [Nat.zero_mul]; rfl
  | m + 1 => by
    have ih := sum_same l F p i hi m
    have h : ∀ j, j ≤ p → sumS l F p i (m * p + j) = if i < j then sumT l F p i (m + 1) else sumT l F p i m := by
      intro j
      induction j with
      | zero => intro _; rw [Nat.add_zero, ih, if_neg (by omega)]
      | succ j ihj =>
        intro hj
        have h1 := ihj (by omega)
        have hmod : (m * p + j) % p = j := by rw [Nat.mul_comm, Nat.mul_add_mod, Nat.mod_eq_of_lt (by omega)]
        have hs : sumS l F p i (m * p + (j + 1)) = (if j = i ∧ (l.getD (F + (m * p + j)) s0).2 = false then addO (sumS l F p i (m * p + j)) (normO (l.getD (F + (m * p + j)) s0).1.1 (l.getD (F + (m * p + j)) s0).1.2) else sumS l F p i (m * p + j)) := by
          have h9 := sumS_succ l F p i (m * p + j)
          simp only [hmod] at h9
          rw [← Nat.add_assoc, h9]
        by_cases hji : j = i
        · subst hji
          have h1' : sumS l F p j (m * p + j) = sumT l F p j m := by rw [h1, if_neg (Nat.lt_irrefl _)]
          rw [if_pos (Nat.lt_succ_self _), hs, h1', show F + (m * p + j) = F + j + m * p by omega]
          show _ = (if (l.getD (F + j + m * p) s0).2 = false then _ else _)
          by_cases hl : (l.getD (F + j + m * p) s0).2 = false
          · rw [if_pos ⟨rfl, hl⟩, if_pos hl]
          · rw [if_neg (fun h => hl h.2), if_neg hl]
        · rw [hs, if_neg (fun h => hji h.1), h1]
          by_cases h2 : i < j
          · rw [if_pos h2, if_pos (by omega)]
          · rw [if_neg h2, if_neg (by omega)]
    rw [Nat.succ_mul, h p (Nat.le_refl _), if_pos hi]
def mayE (n p F cnt : Int) : Prop := n ≤ 65536 ∧ 1 ≤ p ∧ p ≤ 8 ∧ 0 ≤ F ∧ 1 ≤ cnt ∧ cnt ≤ 64 ∧ F + p * cnt ≤ n
set_option maxHeartbeats 4000000 in
set_option maxRecDepth 100000 in
theorem energies_any (A : Option Addr) (n c F p cnt : Nat) (l : List Smp) (w : World) (hl : l.length = n) (h : Kd.C KS w A n l) (hc : n ≤ c) (hn : n ≤ 65536) (hp1 : 1 ≤ p) (hp8 : p ≤ 8) (hc1 : 1 ≤ cnt) (hc2 : cnt ≤ 64) (hF : F + p * cnt ≤ n) :
    Calls Try.prog 24 #[.slice A n c, .int .i64 (p : Int), .int .i64 (F : Int), .int .i64 (cnt : Int)] w fun e w' => ∃ v, e = .returned (.tuple #[v, .int .i64 0]) ∧ ∃ bs : List Nat, bs.length = p ∧ (∀ i, i < p → relF (sumT l F p i cnt) (bs.getD i 0)) ∧ Kd.R KF 41 w' w.heap.size (fun _ => True) v bs ∧ Below w.heap.size w w' := by
  have hpc : p * cnt ≤ 512 := Nat.mul_le_mul hp8 hc2
  have hpc1 : 1 ≤ p * cnt := Nat.le_trans (by omega) (Nat.mul_le_mul hp1 hc1)
  obtain ⟨M, hM⟩ : ∃ M, p * cnt = M := ⟨_, rfl⟩
  rw [hM] at hpc hpc1 hF
  obtain ⟨ad, hA, _⟩ := h.2.2 (by omega)
  subst hA
  have h2 := smpC_drop h F (by omega) hc
  rw [if_neg (by omega)] at h2
  have h3 := smpC_take h2 M (by omega)
  have HC := Aside0.mk (show Kd.C KS w (some (ad.add (F * 2))) M ((l.drop F).take M) from h3)
  have hget : ∀ k, k < M → ((l.drop F).take M).getD k s0 = l.getD (F + k) s0 := fun k hk => by
    rw [List.getD_eq_getElem?_getD, List.getD_eq_getElem?_getD, List.getElem?_take_of_lt hk, List.getElem?_drop]
  have HGET := Aside0.mk hget
  have HSAME := Aside0.mk (show ∀ i, i < p → sumS l F p i M = sumT l F p i cnt from fun i hi => by rw [← hM, Nat.mul_comm]; exact sum_same l F p i hi cnt)
  have e1 : (p : Int) * (cnt : Int) = (M : Int) := by rw [← hM]; exact (Int.natCast_mul p cnt).symm
  have e2 : IntKind.i64.wrap (M : Int) = (M : Int) := by rw [IntKind.wrap_i64]; omega
  have e3 : IntKind.i64.wrap ((n : Int) - (M : Int)) = (n : Int) - (M : Int) := by rw [IntKind.wrap_i64]; omega
  have e4 : IntKind.i64.wrap ((F : Int) + (M : Int)) = ((F + M : Nat) : Int) := by rw [IntKind.wrap_i64]; omega
  have q1 : ¬ (65536 : Int) < (n : Int) := by omega
  have q2 : ¬ (p : Int) < 1 := by omega
  have q3 : ¬ (8 : Int) < (p : Int) := by omega
  have q4 : ¬ (F : Int) < 0 := by omega
  have q5 : ¬ (cnt : Int) < 1 := by omega
  have q6 : ¬ (64 : Int) < (cnt : Int) := by omega
  have q7 : ¬ (n : Int) - (M : Int) < (F : Int) := by omega
  have q8 : (F : Int) ≤ ((F + M : Nat) : Int) := by omega
  have q9 : ((F + M : Nat) : Int) ≤ (c : Int) := by omega
  have q10 : F + M - F = M := by omega
  have q11 : ¬ F = c := by omega
  have q12 : ¬ c = F := by omega
  have HP := Aside0.mk (And.intro hp1 (And.intro hp8 (And.intro hpc hpc1)))
  clear h h2 h3 hM hget hl hc hn hF hpc hpc1 hc1 hc2 hp1 hp8
  go_enter Try.func24, Try.ntmps24
  go_wp2
  obtain ⟨X0, hX0⟩ : ∃ X0, w.alloc (.cells #[.float .f64 0, .float .f64 0, .float .f64 0, .float .f64 0, .float .f64 0, .float .f64 0, .float .f64 0, .float .f64 0] 82) = X0 := ⟨_, rfl⟩
  have HB0 := Aside0.mk (show Below w.heap.size w X0 from hX0 ▸ ((Below.refl w.heap.size w).alloc (Nat.le_refl _) _))
  have HX0 := Aside0.mk (show X0.heap[w.heap.size]? = some (.cells (fl8 fun _ => 0) 82) from hX0 ▸ blk_new w _)
  rw [hX0]
  clear hX0
  obtain ⟨g, hg⟩ : ∃ g, w.heap.size = g := ⟨_, rfl⟩
  rw [hg] at HX0 ⊢
  have HGG := Aside0.mk hg
  clear hg
  go_loopw [44] (fun i wr => ∃ k : Nat, k ≤ M ∧ i = .int .i64 (k : Int) ∧ Aside0 (∃ b : Nat → Nat, (∀ i, i < p → relF (sumS l F p i k) (b i)) ∧ wr.heap[g]? = some (.cells (fl8 b) 82)) ∧ Aside0 (Below w.heap.size w wr)) (fun i _ => M - (intOf i).toNat)
  case atStart => exact ⟨0, Nat.zero_le _, rfl, ⟨fun _ => 0, fun _ _ => rfl, HX0.out⟩, HB0⟩
  case round =>
    obtain ⟨k, hk, rfl, HX, HB⟩ := hrel
    obtain ⟨b, hb, hx⟩ := HX.out
    have hM := HP.out.2.2.1
    by_cases hlt : k < M
    · have q13 : (k : Int) < (M : Int) := by omega
      obtain ⟨ad', had, x1, x2⟩ := smp_at (Kd.C_below HC.out HB.out) k hlt
      cases had
      rw [HGET.out k hlt] at x1 x2
      obtain ⟨x, hxx⟩ : ∃ x, l.getD (F + k) s0 = x := ⟨_, rfl⟩
      rw [hxx] at x1 x2
      have hks : IntKind.i64.wrap ((k : Int) + 1) = (k : Int) + 1 := by rw [IntKind.wrap_i64]; omega
      obtain ⟨J, hJ⟩ : ∃ J, k % p = J := ⟨_, rfl⟩
      have hJp : J < p := by rw [← hJ]; exact Nat.mod_lt _ (by have := HP.out.1; omega)
      have hJ8 : J < 8 := by have := HP.out.2.1; omega
      have j1 : (k : Int) % (p : Int) = (J : Int) := by rw [← hJ]; exact (Int.natCast_emod k p).symm
      have j2 : Int.tmod (k : Int) (p : Int) = (J : Int) := by rw [← hJ]; exact tmod_nat k p
      have j3 : (J : Int) < 8 := by omega
      have j4 : ¬ (p : Int) = 0 := by have := HP.out.1; omega
      have j5 : ((p : Int) == 0) = false := by simpa using j4
      have j6 : ¬ p = 0 := by have := HP.out.1; omega
      have hst : ∀ i, sumS l F p i (k + 1) = if J = i ∧ x.2 = false then addO (sumS l F p i k) (normO x.1.1 x.1.2) else sumS l F p i k := fun i => by
        have h9 := sumS_succ l F p i k
        simp only [hJ, hxx] at h9
        exact h9
      have HST := Aside0.mk hst
      have HBR := Aside0.mk hb
      have HJ := Aside0.mk (And.intro hJp hJ8)
      have hn1 := blk_new wr (.cells #[.complex .f64 x.1.1 x.1.2, .bool x.2] 43)
      have hba : Below wr.heap.size wr (wr.alloc (.cells #[.complex .f64 x.1.1 x.1.2, .bool x.2] 43)) := (Below.refl _ _).alloc (Nat.le_refl _) _
      have HN1 := Aside0.mk hn1
      have HNG := Aside0.mk (blk_below hx hba)
      have HBN := Aside0.mk (below_step HB.out hba)
      have hgl := blk_lt hx
      have hgne : g ≠ wr.heap.size := by omega
      have hs0 := (blk_cell HN1.out 0).trans rfl
      have hs1 := (blk_cell HN1.out 1).trans rfl
      clear hn1 hba hst hb hx hxx hJ HX
      cases hlost : x.2
      · rw [hlost] at x2 hs1 HN1 HNG HBN hs0
        have hlo := Aside0.mk hlost
        clear hlost
        go_wp2
        have hs0b := hs0
        obtain ⟨X1, hX1⟩ : ∃ X1, wr.alloc (.cells #[.complex .f64 x.1.1 x.1.2, .bool false] 43) = X1 := ⟨_, rfl⟩
        rw [hX1] at HNG HBN hs0 hs1 ⊢
        have hz := (blk_cell HNG.out J).trans (fl8_at b J HJ.out.2)
        have HZ := Aside0.mk hz
        have HSB := Aside0.mk hgne
        clear hX1 HN1 hs0b hgne hgl
        refine start_ (n := 11) (S := fun w' => ∃ d, w' = X1.drewN d) (ds := [10]) #[false, false, false, false, false, false, false, false, false, false, false] (by kernel_rfl) rfl rfl (⟨1, rfl⟩) (fun hHeld => ?_)
        generalize X1.drew = w11 at hHeld ⊢
        refine pure_ (i := 0) (N := some 52) (v := ?_) (a' := ?_) #[true, false, false, false, false, false, false, false, false, false, false] rfl rfl (by kernel_rfl) (fun _ _ _ h => h) (Or.inl ⟨by rfl, ?_⟩) ?_ ?_
        rotate_left
        · intro w'
          go_simp
          with_reducible rfl
        rotate_left
        · (try show Act.put _ _ _ = _); simp only [Act.put, List.setIfInBounds_toArray, List.set_cons_zero, List.set_cons_succ, i64_w, i32_w]
          rfl
        refine pure_ (i := 1) (N := some 53) (v := ?_) (a' := ?_) #[true, true, false, false, false, false, false, false, false, false, false] rfl rfl (by kernel_rfl) (fun _ _ _ h => h) (Or.inl ⟨by rfl, ?_⟩) ?_ ?_
        rotate_left
        · intro w'
          go_simp
          with_reducible rfl
        rotate_left
        · (try show Act.put _ _ _ = _); simp only [Act.put, List.setIfInBounds_toArray, List.set_cons_zero, List.set_cons_succ, i64_w, i32_w]
          rfl
        refine pure_ (i := 2) (N := some 54) (v := ?_) (a' := ?_) #[true, true, true, false, false, false, false, false, false, false, false] rfl rfl (by kernel_rfl) (fun _ _ _ h => h) (Or.inl ⟨by rfl, ?_⟩) ?_ ?_
        rotate_left
        · intro w'
          go_simp
          with_reducible rfl
        rotate_left
        · (try show Act.put _ _ _ = _); simp only [Act.put, List.setIfInBounds_toArray, List.set_cons_zero, List.set_cons_succ, i64_w, i32_w]
          rfl
        refine pure_ (i := 3) (N := some 55) (v := ?_) (a' := ?_) #[true, true, true, true, false, false, false, false, false, false, false] rfl rfl (by kernel_rfl) (fun _ _ _ h => h) (Or.inl ⟨by rfl, ?_⟩) ?_ ?_
        rotate_left
        · intro w'
          go_simp
          with_reducible rfl
        rotate_left
        · (try show Act.put _ _ _ = _); simp only [Act.put, List.setIfInBounds_toArray, List.set_cons_zero, List.set_cons_succ, i64_w, i32_w]
          rfl
        refine pure_ (i := 5) (N := some 57) (v := ?_) (a' := ?_) #[true, true, true, true, false, true, false, false, false, false, false] rfl rfl (by kernel_rfl) (fun _ _ _ h => h) (Or.inl ⟨by rfl, ?_⟩) ?_ ?_
        rotate_left
        · intro w'
          go_simp
          with_reducible rfl
        rotate_left
        · (try show Act.put _ _ _ = _); simp only [Act.put, List.setIfInBounds_toArray, List.set_cons_zero, List.set_cons_succ, i64_w, i32_w]
          rfl
        refine take_ (i := 4) (N := some 56) (v := ?_) (a' := ?_) #[true, true, true, true, true, true, false, false, false, false, false] rfl rfl (by kernel_rfl) (fun _ _ _ h => h) (Or.inl ⟨by rfl, ?_⟩) hHeld ?_ ?_
        rotate_left
        · intro w' hS_
          obtain ⟨d_, rfl⟩ := hS_
          go_simp
          with_reducible rfl
        rotate_left
        · (try show Act.put _ _ _ = _); simp only [Act.put, List.setIfInBounds_toArray, List.set_cons_zero, List.set_cons_succ, i64_w, i32_w]
          rfl
        refine take_ (i := 6) (N := some 58) (v := ?_) (a' := ?_) #[true, true, true, true, true, true, true, false, false, false, false] rfl rfl (by kernel_rfl) (fun _ _ _ h => h) (Or.inl ⟨by rfl, ?_⟩) hHeld ?_ ?_
        rotate_left
        · intro w' hS_
          obtain ⟨d_, rfl⟩ := hS_
          go_simp
          with_reducible rfl
        rotate_left
        · (try show Act.put _ _ _ = _); simp only [Act.put, List.setIfInBounds_toArray, List.set_cons_zero, List.set_cons_succ, i64_w, i32_w]
          rfl
        refine one_ (i := 7) (N := some 59) #[true, true, true, true, true, true, true, true, false, false, false] rfl rfl (by kernel_rfl) (by decide) (fun K hK => ?_)
        refine goes_ Try.func39 (by kernel_rfl) rfl #[.complex .f64 x.1.1 x.1.2] (by rfl) rfl rfl (by (try simp only [List.map_toArray, List.map_cons, List.map_nil]); first | done | rfl) ?_
        refine (norm_any x.1.1 x.1.2 _).mono ?_
        rintro e w' ⟨r, rfl, hr, d1, hd1⟩
        refine ⟨_, rfl, ?_⟩
        have HR := Aside0.mk hr
        clear hr
        have hHeld2 : ∃ d, w' = X1.drewN d := by (obtain ⟨d0, h0⟩ := hHeld; exact ⟨d0 + d1, by rw [hd1, h0, World.drewN_drewN]⟩)
        clear hHeld hd1
        refine hK.out _ _ (hHeld2) (fun hHeld => ?_)
        clear hK K
        refine norm_ (a' := ?_) ?_ ?_
        rotate_left
        · show Act.put _ (some 59) _ = _
          simp only [Act.put, List.setIfInBounds_toArray, List.set_cons_zero, List.set_cons_succ, i64_w, i32_w]
          rfl
        refine one_ (i := 8) (N := some 60) #[true, true, true, true, true, true, true, true, true, false, false] rfl rfl (by kernel_rfl) (by decide) (fun K hK => ?_)
        obtain ⟨q, d2, h2, hq⟩ := run_float_any .add (.inl rfl) Try.prog 41 (b J) r w'
        have HQ := Aside0.mk hq
        refine value_ (w1 := w'.drewN d2) (v := .float .f64 q) (by rfl) rfl ?_ ?_
        · go_simp
        refine hK.out _ _ ((by (obtain ⟨d0, h0⟩ := hHeld; exact ⟨d0 + d2, by rw [h0, World.drewN_drewN]⟩))) (fun hHeld => ?_)
        clear hK K
        refine norm_ (a' := ?_) ?_ ?_
        rotate_left
        · show Act.put _ (some 60) _ = _
          simp only [Act.put, List.setIfInBounds_toArray, List.set_cons_zero, List.set_cons_succ, i64_w, i32_w]
          rfl
        refine pure_ (i := 9) (N := some 61) (v := ?_) (a' := ?_) #[true, true, true, true, true, true, true, true, true, true, false] rfl rfl (by kernel_rfl) (fun _ _ _ h => h) (Or.inl ⟨by rfl, ?_⟩) ?_ ?_
        rotate_left
        · intro w'
          go_simp
          with_reducible rfl
        rotate_left
        · (try show Act.put _ _ _ = _); simp only [Act.put, List.setIfInBounds_toArray, List.set_cons_zero, List.set_cons_succ, i64_w, i32_w]
          rfl
        refine last_ (i := 10) (N := none) #[true, true, true, true, true, true, true, true, true, true, true] rfl rfl (by kernel_rfl) (by decide) (fun K hK => ?_)
        obtain ⟨d4, hd4⟩ := hHeld
        have hf4 : (X1.drewN d4).frozen? ⟨g, J, none⟩ = false := blk_frozen (show (X1.drewN d4).heap[g]? = some (.cells (fl8 b) 82) from HNG.out) J
        have hc4 : (X1.drewN d4).cell? ⟨g, J, none⟩ = some (.float .f64 (b J)) := HZ.out
        rw [hd4]
        refine skip_ (w1 := (X1.drewN d4).setCell ⟨g, J, none⟩ (.float .f64 q)) (by rfl) rfl ?_ ?_
        · go_simp
        refine hK.out _ _ ?_
        clear hK K
        refine done_ (by kernel_rfl) ?_
        try go_wp2
        refine ⟨⟨k + 1, hlt, by go_num, ⟨updF b J q, fun i hi => ?_, blk_put (show (X1.drewN d4).heap[g]? = some (.cells (fl8 b) 82) from HNG.out) J _ (fl8_set b J q HJ.out.2)⟩, ⟨(pw_below_drewN HBN.out d4).setCell (Nat.le_of_eq HGG.out) _⟩⟩, by show M - ((k : Int) + 1).toNat < M - (k : Int).toNat; omega⟩
        rw [HST.out i]
        unfold updF
        by_cases hi2 : i = J
        · subst hi2
          rw [if_pos ⟨rfl, hlo.out⟩, if_pos rfl]
          have h8 := HQ.out
          rw [rel_add (HBR.out i hi) HR.out] at h8
          exact h8
        · rw [if_neg (fun h => hi2 h.1.symm), if_neg hi2]
          exact HBR.out i hi
      · rw [hlost] at x2 hs1 HN1 HNG HBN hs0
        have hlo := Aside0.mk hlost
        clear hlost
        go_wp2
        exact ⟨⟨k + 1, hlt, by go_num, ⟨b, fun i hi => by rw [HST.out i, if_neg (fun h => by rw [hlo.out] at h; exact Bool.noConfusion h.2)]; exact HBR.out i hi, HNG.out⟩, HBN⟩, by show M - ((k : Int) + 1).toNat < M - (k : Int).toNat; omega⟩
    · have hkm : k = M := by omega
      subst hkm
      have q13 : ¬ (k : Int) < (k : Int) := by omega
      have hp8 := HP.out.2.1
      have hz8 : Kd.C KF wr (some ⟨g, 0, none⟩) p ((List.range p).map b) := by
        refine ⟨by simp, by omega, fun _ => ⟨_, rfl, fun j u hj => ?_⟩⟩
        have hj8 : j < p := by
          have := (List.getElem?_eq_some_iff.1 hj).1
          simpa using this
        rw [List.getElem?_map, List.getElem?_range hj8] at hj
        obtain rfl : b j = u := by simpa using hj
        refine ⟨[.float .f64 (b j)], rfl, rfl, fun i u hu => ?_⟩
        match i, hu with
        | 0, hu =>
          obtain rfl : Value.float .f64 (b j) = u := by simpa using hu
          have h0 := (blk_cell hx j).trans (fl8_at b j (by omega))
          have e : (⟨g, 0, none⟩ : Addr).add (j * 1 + 0) = ⟨g, j, none⟩ := by simp [Addr.add]; omega
          exact e ▸ h0
      have HZ8 := Aside0.mk hz8
      have HBR := Aside0.mk hb
      have p1 : (0 : Int) ≤ (p : Int) := by omega
      have p2 : (p : Int) ≤ 8 := by omega
      have p3 : p ≤ 8 := hp8
      clear hz8 hb hx HX
      go_wp2_with (go_at_call 40; (with_reducible refine (cloneF ⟨g, 0, none⟩ 8 p ((List.range p).map b) _ (by simp) HZ8.out (by have := HP.out.2.1; omega) (by have := HP.out.2.1; omega)).mono ?_); rintro e w2 ⟨v, rfl, ho, hb⟩; (have HB9 := Aside0.mk (below_step HB.out hb)); (have HO9 := Aside0.mk (Kd.R_lower ho HB.out.size)); clear ho hb)
      go_ret2
      refine ⟨_, rfl, (List.range p).map b, by simp, fun i hi => ?_, HO9.out, HB9.out⟩
      rw [← HSAME.out i hi, show ((List.range p).map b).getD i 0 = b i by rw [List.getD_eq_getElem?_getD, List.getElem?_map, List.getElem?_range hi]; rfl]
      exact HBR.out i hi
set_option maxHeartbeats 4000000 in
set_option maxRecDepth 100000 in
theorem energies_err (A : Option Addr) (n c : Nat) (p F cnt : Int) (w : World) (h : ¬ mayE n p F cnt) :
    Calls Try.prog 24 #[.slice A n c, .int .i64 p, .int .i64 F, .int .i64 cnt] w fun e w' => e = .returned (.tuple #[.slice none 0 0, .int .i64 1]) ∧ Below w.heap.size w w' := by
  unfold mayE at h
  have i1 := True.intro
  have i2 := True.intro
  have i3 := True.intro
  by_cases c1 : (65536 : Int) < (n : Int)
  · clear h i1 i2 i3
    go_enter Try.func24, Try.ntmps24
    go_wp2
    go_ret2
    exact ⟨rfl, Below.refl _ _⟩
  by_cases c2 : p < 1
  · clear h i1 i2 i3
    go_enter Try.func24, Try.ntmps24
    go_wp2
    go_ret2
    exact ⟨rfl, Below.refl _ _⟩
  by_cases c3 : (8 : Int) < p
  · clear h i1 i2 i3
    go_enter Try.func24, Try.ntmps24
    go_wp2
    go_ret2
    exact ⟨rfl, Below.refl _ _⟩
  by_cases c4 : F < 0
  · clear h i1 i2 i3
    go_enter Try.func24, Try.ntmps24
    go_wp2
    go_ret2
    exact ⟨rfl, Below.refl _ _⟩
  by_cases c5 : cnt < 1
  · clear h i1 i2 i3
    go_enter Try.func24, Try.ntmps24
    go_wp2
    go_ret2
    exact ⟨rfl, Below.refl _ _⟩
  by_cases c6 : (64 : Int) < cnt
  · clear h i1 i2 i3
    go_enter Try.func24, Try.ntmps24
    go_wp2
    go_ret2
    exact ⟨rfl, Below.refl _ _⟩
  have hb : p * cnt ≤ 512 := by
    have h1 : p * cnt ≤ 8 * cnt := Int.mul_le_mul_of_nonneg_right (by omega) (by omega)
    omega
  have hb0 : 0 ≤ p * cnt := Int.mul_nonneg (by omega) (by omega)
  obtain ⟨M, hM⟩ : ∃ M, p * cnt = M := ⟨_, rfl⟩
  rw [hM] at h hb hb0
  have e1 : IntKind.i64.wrap (p * cnt) = M := by rw [hM, IntKind.wrap_i64]; omega
  have e2 : IntKind.i64.wrap ((n : Int) - M) = (n : Int) - M := by rw [IntKind.wrap_i64]; omega
  have c7 : (n : Int) - M < F := by omega
  clear h hM i1 i2 i3
  go_enter Try.func24, Try.ntmps24
  go_wp2
  go_ret2
  exact ⟨rfl, Below.refl _ _⟩
set_option maxHeartbeats 4000000 in
set_option maxRecDepth 100000 in
theorem refenergies_err (A : Option Addr) (n c : Nat) (p F cnt : Int) (w : World) (h : ¬ mayE n p F cnt) :
    Calls Try.prog 25 #[.slice A n c, .int .i64 p, .int .i64 F, .int .i64 cnt] w fun e w' => e = .returned (.tuple #[.slice none 0 0, .int .i64 1]) ∧ Below w.heap.size w w' := by
  unfold mayE at h
  have i1 := True.intro
  have i2 := True.intro
  have i3 := True.intro
  by_cases c1 : (65536 : Int) < (n : Int)
  · clear h i1 i2 i3
    go_enter Try.func25, Try.ntmps25
    go_wp2
    go_ret2
    exact ⟨rfl, Below.refl _ _⟩
  by_cases c2 : p < 1
  · clear h i1 i2 i3
    go_enter Try.func25, Try.ntmps25
    go_wp2
    go_ret2
    exact ⟨rfl, Below.refl _ _⟩
  by_cases c3 : (8 : Int) < p
  · clear h i1 i2 i3
    go_enter Try.func25, Try.ntmps25
    go_wp2
    go_ret2
    exact ⟨rfl, Below.refl _ _⟩
  by_cases c4 : F < 0
  · clear h i1 i2 i3
    go_enter Try.func25, Try.ntmps25
    go_wp2
    go_ret2
    exact ⟨rfl, Below.refl _ _⟩
  by_cases c5 : cnt < 1
  · clear h i1 i2 i3
    go_enter Try.func25, Try.ntmps25
    go_wp2
    go_ret2
    exact ⟨rfl, Below.refl _ _⟩
  by_cases c6 : (64 : Int) < cnt
  · clear h i1 i2 i3
    go_enter Try.func25, Try.ntmps25
    go_wp2
    go_ret2
    exact ⟨rfl, Below.refl _ _⟩
  have hb : p * cnt ≤ 512 := by
    have h1 : p * cnt ≤ 8 * cnt := Int.mul_le_mul_of_nonneg_right (by omega) (by omega)
    omega
  have hb0 : 0 ≤ p * cnt := Int.mul_nonneg (by omega) (by omega)
  obtain ⟨M, hM⟩ : ∃ M, p * cnt = M := ⟨_, rfl⟩
  rw [hM] at h hb hb0
  have e1 : IntKind.i64.wrap (p * cnt) = M := by rw [hM, IntKind.wrap_i64]; omega
  have e2 : IntKind.i64.wrap ((n : Int) - M) = (n : Int) - M := by rw [IntKind.wrap_i64]; omega
  have c7 : (n : Int) - M < F := by omega
  clear h hM i1 i2 i3
  go_enter Try.func25, Try.ntmps25
  go_wp2
  go_ret2
  exact ⟨rfl, Below.refl _ _⟩
set_option maxHeartbeats 4000000 in
set_option maxRecDepth 100000 in
theorem refenergies_any (A : Option Addr) (n c F p cnt : Nat) (l : List Smp) (w : World) (hl : l.length = n) (h : Kd.C KS w A n l) (hn : n ≤ 65536) (hp1 : 1 ≤ p) (hp8 : p ≤ 8) (hc1 : 1 ≤ cnt) (hc2 : cnt ≤ 64) (hF : F + p * cnt ≤ n) :
    Calls Try.prog 25 #[.slice A n c, .int .i64 (p : Int), .int .i64 (F : Int), .int .i64 (cnt : Int)] w fun e w' => ∃ v, e = .returned (.tuple #[v, .int .i64 0]) ∧ ∃ bs : List Nat, bs.length = p ∧ (∀ i, i < p → relF (sumT l F p i cnt) (bs.getD i 0)) ∧ Kd.R KF 41 w' w.heap.size (fun _ => True) v bs ∧ Below w.heap.size w w' := by
  have hpc : p * cnt ≤ 512 := Nat.mul_le_mul hp8 hc2
  have HC := Aside0.mk h
  have HIX := Aside0.mk (show ∀ k m, k < p → m < cnt → F + k + m * p < n ∧ m * p ≤ 512 from fun k m hk hm => by
    have h1 : (m + 1) * p ≤ cnt * p := Nat.mul_le_mul_right _ hm
    rw [Nat.succ_mul, Nat.mul_comm cnt p] at h1
    omega)
  obtain ⟨M, hM⟩ : ∃ M, p * cnt = M := ⟨_, rfl⟩
  rw [hM] at hpc hF
  have e1 : (p : Int) * (cnt : Int) = (M : Int) := by rw [← hM]; exact (Int.natCast_mul p cnt).symm
  have e2 : IntKind.i64.wrap (M : Int) = (M : Int) := by rw [IntKind.wrap_i64]; omega
  have e3 : IntKind.i64.wrap ((n : Int) - (M : Int)) = (n : Int) - (M : Int) := by rw [IntKind.wrap_i64]; omega
  have q1 : ¬ (65536 : Int) < (n : Int) := by omega
  have q2 : ¬ (p : Int) < 1 := by omega
  have q3 : ¬ (8 : Int) < (p : Int) := by omega
  have q4 : ¬ (F : Int) < 0 := by omega
  have q5 : ¬ (cnt : Int) < 1 := by omega
  have q6 : ¬ (64 : Int) < (cnt : Int) := by omega
  have q7 : ¬ (n : Int) - (M : Int) < (F : Int) := by omega
  have HP := Aside0.mk (show p ≤ 8 ∧ cnt ≤ 64 ∧ F ≤ 65536 ∧ n ≤ 65536 by omega)
  clear h hM hF hpc hc1 hc2 hp1 hp8 hl hn
  go_enter Try.func25, Try.ntmps25
  go_wp2
  go_loopw [10, 11, 12, 13, 14] (fun v i s m x wr => ∃ k : Nat, k ≤ p ∧ i = .int .i64 (k : Int) ∧ Aside0 (∃ bs : List Nat, bs.length = k ∧ (∀ i, i < k → relF (sumT l F p i cnt) (bs.getD i 0)) ∧ Kd.R KF 41 wr w.heap.size (fun _ => True) v bs) ∧ Aside0 (Below w.heap.size w wr)) (fun _ i _ _ _ _ => p - (intOf i).toNat)
  case atStart => exact ⟨0, Nat.zero_le _, rfl, ⟨[], rfl, fun i hi => absurd hi (Nat.not_lt_zero _), Kd.R_nil _ _ _ _ _⟩, ⟨Below.refl _ _⟩⟩
  case round =>
    obtain ⟨k, hk, rfl, HO, HB⟩ := hrel
    by_cases hlt : k < p
    · have q8 : (k : Int) < (p : Int) := by omega
      have hks : IntKind.i64.wrap ((k : Int) + 1) = (k : Int) + 1 := by have := HP.out.1; rw [IntKind.wrap_i64]; omega
      have HK := Aside0.mk hlt
      go_wp2
      go_loopw [12, 13, 14] (fun s i x wi => ∃ m : Nat, m ≤ cnt ∧ i = .int .i64 (m : Int) ∧ (∃ q : Nat, s = .float .f64 q ∧ relF (sumT l F p k m) q) ∧ Aside0 (Below wr.heap.size wr wi)) (fun _ i _ _ => cnt - (intOf i).toNat)
      case atStart => exact ⟨0, Nat.zero_le _, rfl, ⟨0, rfl, rfl⟩, ⟨Below.refl _ _⟩⟩
      case round =>
        obtain ⟨m, hm, rfl, ⟨q, rfl, hq⟩, HI⟩ := hrel
        by_cases hlm : m < cnt
        · have q9 : (m : Int) < (cnt : Int) := by omega
          have hms : IntKind.i64.wrap ((m : Int) + 1) = (m : Int) + 1 := by have := HP.out.2.1; rw [IntKind.wrap_i64]; omega
          obtain ⟨hT, hmp⟩ := HIX.out k m HK.out hlm
          obtain ⟨MP, hMP⟩ : ∃ MP, m * p = MP := ⟨_, rfl⟩
          obtain ⟨T, hTT⟩ : ∃ T, F + k + m * p = T := ⟨_, rfl⟩
          have i1 : (m : Int) * (p : Int) = (MP : Int) := by rw [← hMP]; exact (Int.natCast_mul m p).symm
          rw [hMP] at hmp hTT hT
          rw [hTT] at hT
          have i2 : IntKind.i64.wrap (MP : Int) = (MP : Int) := by rw [IntKind.wrap_i64]; omega
          have i3 : IntKind.i64.wrap ((F : Int) + (k : Int)) = (F : Int) + (k : Int) := by have := HP.out; have := HK.out; rw [IntKind.wrap_i64]; omega
          have i4 : IntKind.i64.wrap ((F : Int) + (k : Int) + (MP : Int)) = (T : Int) := by have := HP.out; rw [IntKind.wrap_i64]; omega
          have i5 : (T : Int) < (n : Int) := by omega
          obtain ⟨ad, hA, x1, x2⟩ := smp_at (Kd.C_below (Kd.C_below HC.out HB.out) HI.out) T hT
          subst hA
          obtain ⟨x, hxx⟩ : ∃ x, l.getD T s0 = x := ⟨_, rfl⟩
          rw [hxx] at x1 x2
          have hst : sumT l F p k (m + 1) = if x.2 = false then addO (sumT l F p k m) (normO x.1.1 x.1.2) else sumT l F p k m := by
            show (if (l.getD (F + k + m * p) s0).2 = false then _ else _) = _
            rw [hMP, hTT, hxx]
          have HST := Aside0.mk hst
          have HQ := Aside0.mk hq
          have hn1 := blk_new wr (.cells #[.complex .f64 x.1.1 x.1.2, .bool x.2] 43)
          have HBN := Aside0.mk (below_step HI.out ((Below.refl _ _).alloc (Nat.le_refl _) (.cells #[.complex .f64 x.1.1 x.1.2, .bool x.2] 43)))
          have hs0 := (blk_cell hn1 0).trans rfl
          have hs1 := (blk_cell hn1 1).trans rfl
          clear hn1 hst hq hxx hMP hTT hT hmp
          cases hlost : x.2
          · rw [hlost] at x2 hs1 hs0 HBN
            have hlo := Aside0.mk hlost
            clear hlost
            go_wp2_with (go_at_call 41; (refine (refnorm_any x.1.1 x.1.2 _).mono ?_); rintro e w2 ⟨r, rfl, hr, hb⟩; (have HR := Aside0.mk hr); (have HB2 := Aside0.mk (below_step HBN.out hb)); (obtain ⟨q2, d2, h2, hq2⟩ := run_float_any .add (.inl rfl) Try.prog 41 q r w2); (have HQ2 := Aside0.mk hq2); clear hr hb hq2)
            exact ⟨⟨m + 1, hlm, by go_num, ⟨q2, rfl, by (rw [HST.out, if_pos hlo.out, ← rel_add HQ.out HR.out]; exact HQ2.out)⟩, ⟨pw_below_drewN HB2.out d2⟩⟩, by show cnt - ((m : Int) + 1).toNat < cnt - (m : Int).toNat; omega⟩
          · rw [hlost] at x2 hs1 hs0 HBN
            have hlo := Aside0.mk hlost
            clear hlost
            go_wp2
            exact ⟨⟨m + 1, hlm, by go_num, ⟨q, rfl, by (rw [HST.out, if_neg (fun h => by rw [hlo.out] at h; exact Bool.noConfusion h)]; exact HQ.out)⟩, HBN⟩, by show cnt - ((m : Int) + 1).toNat < cnt - (m : Int).toNat; omega⟩
        · have hmc : m = cnt := by omega
          subst hmc
          obtain ⟨bs, hbl, hbs, hR⟩ := HO.out
          have HBL := Aside0.mk hbl
          have HBS := Aside0.mk hbs
          have HOI := Aside0.mk (Kd.R_below hR HI.out)
          have HBI := Aside0.mk (below_step HB.out HI.out)
          have HQ := Aside0.mk hq
          clear hbl hbs hR HO hq
          go_wp2_with ((with_reducible refine gate_builtin (b := .append) (xs := #[.tmp 76, .tmp 78]) rfl ?_); at_builtin; refine Kd.R_append KF (w0 := w) w.heap.size rfl (.tmp 76) (.tmp 78) 55 41 (.float .f64 0) 8 rfl underF floatInfo rfl (by decide) (by omega) u10 bs q [.float .f64 q] (fun _ => True) (fun _ => False) rfl rfl ?aP (fun _ hk => hk.elim) ?aF ?aO ?aB ?aS ?aL ?_; (case aP => exact rfl); (case aB => exact HBI.out); (case aF => exact (fun _ _ => trivial)); (case aO => exact HOI.out); (case aS => exact HBI.out.size); (case aL => have h1 := HBL.out; have h2 := HP.out.1; have h3 := HK.out; omega); intro v3 w3 ho hb_ hg_ hat; clear hg_ hat; (have HO4 := Aside0.mk ho); (have HB4 := Aside0.mk hb_); clear ho hb_)
          exact ⟨⟨k + 1, HK.out, by go_num, ⟨bs ++ [q], by rw [List.length_append, HBL.out]; rfl, fun i hi => (by
            have h1 := HBL.out
            by_cases hik : i < k
            · rw [List.getD_eq_getElem?_getD, List.getElem?_append_left (by omega), ← List.getD_eq_getElem?_getD]
              exact HBS.out i hik
            · obtain rfl : i = k := by omega
              rw [List.getD_eq_getElem?_getD, List.getElem?_append_right (by omega), h1, Nat.sub_self]
              exact HQ.out), HO4.out⟩, HB4⟩, by show p - ((k : Int) + 1).toNat < p - (k : Int).toNat; have := HK.out; omega⟩
    · have hkp : k = p := by omega
      subst hkp
      obtain ⟨bs, hbl, hbs, hR⟩ := HO.out
      go_wp2
      go_ret2
      exact ⟨_, rfl, bs, hbl, hbs, hR, HB.out⟩
end Go.Proofs.Ytjhapibelhakdaa.Pure
