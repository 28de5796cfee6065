/- Energies; turned labels. -/
import Derived.Test.YtgmaiknbogcpgaaFogx0
import Derived.Test.YtgmaiknbogcpgaaAsk
namespace Go.Proofs.Ytgmaiknbogcpgaa.Pure
open Go.RowKit Go.Proofs.Ytgmaiknbogcpgaa.Fog Go.Proofs.YtgmaiknbogcpgaaW.PrintWords Go.Proofs.YtgmaiknbogcpgaaW.PrintLast Go.Proofs.YtgmaiknbogcpgaaW.PrintMore Go.Proofs.Ytgmaiknbogcpgaa.Kit
set_option linter.unusedVariables false
set_option linter.unusedSimpArgs false
def ngF (b : Nat) : Nat := Go.Op.negFloat .f64 b
theorem co_all : ∀ i : Fin 31, floatBits .mul .f64 (fI ((i.val : Int) - 15)) (fI ((i.val : Int) - 15)) = some (fI (((i.val : Int) - 15) * ((i.val : Int) - 15))) ∧ floatToIntVal .f64 (fI (((i.val : Int) - 15) * ((i.val : Int) - 15))) .i64 = some (((i.val : Int) - 15) * ((i.val : Int) - 15)) ∧ floatToIntVal .f64 (fI ((i.val : Int) - 15)) .i64 = some ((i.val : Int) - 15) ∧ FloatKind.f64.format.order (fI ((i.val : Int) - 15)) (fI ((i.val : Int) - 15)) = some .eq := by decide +kernel
theorem co_f (a : Int) (h0 : -15 ≤ a) (h1 : a ≤ 15) : floatBits .mul .f64 (fI a) (fI a) = some (fI (a * a)) ∧ floatToIntVal .f64 (fI (a * a)) .i64 = some (a * a) ∧ floatToIntVal .f64 (fI a) .i64 = some a ∧ FloatKind.f64.format.order (fI a) (fI a) = some .eq := by
  have h := co_all ⟨(a + 15).toNat, by omega⟩
  have e : (((⟨(a + 15).toNat, by omega⟩ : Fin 31).val : Int)) - 15 = a := by simp only; omega
  rw [e] at h
  exact h
def ptOk (n lb : Nat) : Bool := decide (-15 ≤ (ptP n lb).1 ∧ (ptP n lb).1 ≤ 15 ∧ -15 ≤ (ptP n lb).2 ∧ (ptP n lb).2 ≤ 15)
theorem pt_4 : ∀ i : Fin 4, ptOk 4 i.val = true := by decide +kernel
theorem pt_16 : ∀ i : Fin 16, ptOk 16 i.val = true := by decide +kernel
theorem pt_32 : ∀ i : Fin 32, ptOk 32 i.val = true := by decide +kernel
theorem pt_64 : ∀ i : Fin 64, ptOk 64 i.val = true := by decide +kernel
theorem pt_128 : ∀ i : Fin 128, ptOk 128 i.val = true := by decide +kernel
theorem pt_256 : ∀ i : Fin 256, ptOk 256 i.val = true := by decide +kernel
theorem pt_le (n lb : Nat) (h : isSz n) (hl : lb < n) : -15 ≤ (ptP n lb).1 ∧ (ptP n lb).1 ≤ 15 ∧ -15 ≤ (ptP n lb).2 ∧ (ptP n lb).2 ≤ 15 := by
  have hk : ptOk n lb = true := by
    rcases h with rfl | rfl | rfl | rfl | rfl | rfl
    · exact pt_4 ⟨lb, hl⟩
    · exact pt_16 ⟨lb, hl⟩
    · exact pt_32 ⟨lb, hl⟩
    · exact pt_64 ⟨lb, hl⟩
    · exact pt_128 ⟨lb, hl⟩
    · exact pt_256 ⟨lb, hl⟩
  exact of_decide_eq_true hk
/-- The sum of the first k norms. -/
def eng (n : Nat) : Nat → Int
  | 0 => 0
  | k + 1 => eng n k + ((ptP n k).1 * (ptP n k).1 + (ptP n k).2 * (ptP n k).2)
theorem sq_le (a : Int) (h0 : -15 ≤ a) (h1 : a ≤ 15) : 0 ≤ a * a ∧ a * a ≤ 225 := by
  have h : ∀ i : Fin 31, 0 ≤ ((i.val : Int) - 15) * ((i.val : Int) - 15) ∧ ((i.val : Int) - 15) * ((i.val : Int) - 15) ≤ 225 := by decide
  have h2 := h ⟨(a + 15).toNat, by omega⟩
  have e : (((⟨(a + 15).toNat, by omega⟩ : Fin 31).val : Int)) - 15 = a := by simp only; omega
  rw [e] at h2
  exact h2
theorem eng_le (n : Nat) (h : isSz n) : ∀ k, k ≤ n → 0 ≤ eng n k ∧ eng n k ≤ 450 * (k : Int)
  | 0, _ => ⟨Int.le_refl _, by show (0 : Int) ≤ _; omega⟩
  | k + 1, hk => by
    obtain ⟨h1, h2⟩ := eng_le n h k (by omega)
    obtain ⟨p1, p2, p3, p4⟩ := pt_le n k h (by omega)
    have s1 := sq_le _ p1 p2
    have s2 := sq_le _ p3 p4
    have e : eng n (k + 1) = eng n k + ((ptP n k).1 * (ptP n k).1 + (ptP n k).2 * (ptP n k).2) := rfl
    rw [e]
    omega
set_option maxHeartbeats 2000000 in
set_option maxRecDepth 100000 in
theorem energy_any (n : Nat) (h : isSz n) (w : World) : Calls Try.prog 62 #[.int .i64 (n : Int)] w fun r w' => r = .returned (.tuple #[.int .i64 (eng n n), .int .i64 0]) ∧ Below w.heap.size w w' := by
  have HA := Aside0.mk (fun w => all_any n h w)
  have HS := Aside0.mk h
  have hn := (sz_le h).2
  clear h
  go_enter Try.func62, Try.ntmps62
  go_wp2_with (go_at_call 67; (with_reducible refine (HA.out _).mono ?_); rintro r1 w1 ⟨A, c, rfl, hc, hR, hb⟩; (have HB1 := Aside0.mk hb); (have HC := Aside0.mk (Kd.R_reads' hR).2.2); clear hR hb)
  go_loopw [6, 16] (fun s i wr => ∃ k : Nat, k ≤ n ∧ i = .int .i64 (k : Int) ∧ s = .int .i64 (eng n k) ∧ wr = w1) (fun _ i _ => n - (intOf i).toNat)
  case atStart => exact ⟨0, Nat.zero_le _, rfl, rfl, by first | rfl | trivial⟩
  case round =>
    obtain ⟨k, hk, rfl, rfl, rfl⟩ := hrel
    by_cases hlt : k < n
    · have q1 : (k : Int) < (n : Int) := by omega
      have hks : IntKind.i64.wrap ((k : Int) + 1) = (k : Int) + 1 := by rw [IntKind.wrap_i64]; omega
      have hcc := HC.out
      rw [zt_length] at hcc
      obtain ⟨ad, hA, k1⟩ := cx_at hcc k hlt
      subst hA
      rw [zt_getD n n k hlt] at k1
      obtain ⟨p1, p2, p3, p4⟩ := pt_le n k HS.out hlt
      obtain ⟨e1, e2⟩ := eng_le n HS.out k hk
      have hes : eng n (k + 1) = eng n k + ((ptP n k).1 * (ptP n k).1 + (ptP n k).2 * (ptP n k).2) := rfl
      have hz : zAt n k = (fI (ptP n k).1, fI (ptP n k).2) := rfl
      rw [hz] at k1
      obtain ⟨⟨x, y⟩, hxy⟩ : ∃ p, ptP n k = p := ⟨_, rfl⟩
      rw [hxy] at k1 p1 p2 p3 p4 hes
      simp only at k1 p1 p2 p3 p4 hes
      obtain ⟨m1, c1, _, _⟩ := co_f x p1 p2
      obtain ⟨m2, c2, _, _⟩ := co_f y p3 p4
      have s1 := sq_le x p1 p2
      have s2 := sq_le y p3 p4
      have r1 : ∀ w, (binOp .mul 104 (.float .f64 (fI x)) (.float .f64 (fI x))).run Try.prog w = .ok (.float .f64 (fI (x * x))) w := fun w => run_float_arith w .mul _ _ _ _ _ m1
      have r2 : ∀ w, (binOp .mul 104 (.float .f64 (fI y)) (.float .f64 (fI y))).run Try.prog w = .ok (.float .f64 (fI (y * y))) w := fun w => run_float_arith w .mul _ _ _ _ _ m2
      obtain ⟨X, hX⟩ : ∃ X, x * x = X := ⟨_, rfl⟩
      obtain ⟨Y, hY⟩ : ∃ Y, y * y = Y := ⟨_, rfl⟩
      rw [hX] at r1 c1 s1 hes
      rw [hY] at r2 c2 s2 hes
      have v1 := fun w => run_convert_float_int (P := Try.prog) w 104 3 .f64 .i64 (fI X) X (by kernel_rfl) Try.underlying3 c1
      have v2 := fun w => run_convert_float_int (P := Try.prog) w 104 3 .f64 .i64 (fI Y) Y (by kernel_rfl) Try.underlying3 c2
      obtain ⟨S, hS⟩ : ∃ S, eng n k = S := ⟨_, rfl⟩
      rw [hS] at hes e1 e2 ⊢
      have i1 : IntKind.i64.wrap (X + Y) = X + Y := by rw [IntKind.wrap_i64]; omega
      have i2 : IntKind.i64.wrap (S + (X + Y)) = S + (X + Y) := by rw [IntKind.wrap_i64]; omega
      have HES := Aside0.mk hes
      clear m1 m2 c1 c2 hX hY hS hes p1 p2 p3 p4 e1 e2 s1 s2 hxy hcc
      go_wp2
      exact ⟨⟨k + 1, hlt, by go_num, by rw [HES.out], by first | rfl | trivial⟩, by show n - ((k : Int) + 1).toNat < n - (k : Int).toNat; omega⟩
    · have hkN : k = n := by omega
      subst hkN
      go_wp2
      go_ret2
      exact ⟨rfl, HB1.out⟩
end Go.Proofs.Ytgmaiknbogcpgaa.Pure
