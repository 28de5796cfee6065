/- Points compared; norms; turned labels. -/
import Derived.Test.YtopmlhihfchdhaaFogx0
import Derived.Test.YtopmlhihfchdhaaEng
namespace Go.Proofs.Ytopmlhihfchdhaa.Pure
open Go.RowKit Go.Proofs.Ytopmlhihfchdhaa.Fog Go.Proofs.YtopmlhihfchdhaaW.PrintWords Go.Proofs.YtopmlhihfchdhaaW.PrintLast Go.Proofs.YtopmlhihfchdhaaW.PrintMore Go.Proofs.Ytopmlhihfchdhaa.Kit
set_option linter.unusedVariables false
set_option linter.unusedSimpArgs false
theorem and3 (n : Int) : Go.bits .and .i64 n 3 = n % 4 := by
  have h3 : (BitVec.ofInt 64 3).toNat = 2 ^ 2 - 1 := by decide
  have key : (BitVec.ofInt 64 n &&& BitVec.ofInt 64 3).toNat = (n % ((2 ^ 64 : Nat) : Int)).toNat % 2 ^ 2 := by
    rw [BitVec.toNat_and, BitVec.toNat_ofInt, h3, Nat.and_two_pow_sub_one_eq_mod]
  show IntKind.i64.wrap ((BitVec.ofInt 64 n &&& BitVec.ofInt 64 3).toNat : Nat) = n % 4
  rw [key, IntKind.wrap_i64]
  omega
/-- A number that equals itself. -/
def fine (z : Nat × Nat) : Prop := FloatKind.f64.format.order z.1 z.1 = some .eq ∧ FloatKind.f64.format.order z.2 z.2 = some .eq
theorem zAt_fine (n lb : Nat) (h : isSz n) (hl : lb < n) : fine (zAt n lb) := by
  obtain ⟨p1, p2, p3, p4⟩ := pt_le n lb h hl
  exact ⟨(co_f _ p1 p2).2.2.2, (co_f _ p3 p4).2.2.2⟩
set_option maxHeartbeats 2000000 in
set_option maxRecDepth 100000 in
theorem same_points (A B : Option Addr) (ca cb n : Nat) (l : List (Nat × Nat)) (w : World) (hln : l.length = n) (ha : Kd.C KC w A n l) (hb : Kd.C KC w B n l) (hf : ∀ i, i < n → fine (l.getD i (0, 0))) (hn : n < 140737488355000) :
    Calls Try.prog 21 #[.slice A n ca, .slice B n cb] w fun e w' => e = .returned (.bool true) ∧ ∃ d, w' = w.drewN d := by
  have HA := Aside0.mk ha
  have HBB := Aside0.mk hb
  have HN := Aside0.mk hn
  have HF := Aside0.mk hf
  clear ha hb hln hf
  go_enter Try.func21, Try.ntmps21
  go_wp2
  go_loopw [5] (fun i wr => ∃ k : Nat, k ≤ n ∧ i = .int .i64 (k : Int) ∧ Aside0 (∃ d, wr = w.drewN d)) (fun i _ => n - (intOf i).toNat)
  case atStart => exact ⟨0, Nat.zero_le _, rfl, ⟨0, rfl⟩⟩
  case round =>
    obtain ⟨k, hk, rfl, HW⟩ := hrel
    have hkn := HN.out
    by_cases hlt : k < n
    · have q1 : (k : Int) < (n : Int) := by omega
      have hks : IntKind.i64.wrap ((k : Int) + 1) = (k : Int) + 1 := by rw [IntKind.wrap_i64]; omega
      obtain ⟨m, hm⟩ := HW.out
      have HM := Aside0.mk hm
      have hbw : Below w.heap.size w wr := hm ▸ pw_below_drewN (Below.refl _ _) m
      obtain ⟨ad, hA, k1⟩ := cx_at (Kd.C_below HA.out hbw) k hlt
      subst hA
      obtain ⟨bd, hB, k2⟩ := cx_at (Kd.C_below HBB.out hbw) k hlt
      subst hB
      obtain ⟨o1, o2⟩ := HF.out k hlt
      obtain ⟨⟨x, y⟩, hx⟩ : ∃ x, l.getD k (0, 0) = x := ⟨_, rfl⟩
      rw [hx] at k1 k2 o1 o2
      simp only at k1 k2 o1 o2
      clear hx hm hbw HW
      go_wp2
      go_quiet (fail)
      go_wp2
      exact ⟨⟨k + 1, hlt, by go_num, ⟨m + nq, by rw [HM.out, World.drewN_drewN]⟩⟩, by show n - ((k : Int) + 1).toNat < n - (k : Int).toNat; omega⟩
    · have hkN : k = n := by omega
      subst hkN
      go_wp2
      go_ret
      exact ⟨rfl, HW.out⟩
/-- What Label answers. -/
def LabIs (n : Nat) (z : Nat × Nat) (r1 r2 : Int) : Prop := (∃ i : Nat, i < n ∧ hit n z i = true ∧ (∀ j, j < i → hit n z j = false) ∧ r1 = (i : Int) ∧ r2 = 0) ∨ ((∀ j, j < n → hit n z j = false) ∧ r1 = 0 ∧ r2 = 6)
theorem label_r (n : Nat) (z1 z2 : Nat) (h : isSz n) (w : World) : Calls Try.prog 25 #[.int .i64 (n : Int), .complex .f64 z1 z2] w fun r w' => ∃ r1 r2 : Int, r = .returned (.tuple #[.int .i64 r1, .int .i64 r2]) ∧ LabIs n (z1, z2) r1 r2 ∧ Below w.heap.size w w' := by
  refine (label_any n z1 z2 h w).mono ?_
  rintro r w' ⟨⟨i, h1, h2, h3, rfl⟩ | ⟨h1, rfl⟩, hb⟩
  · exact ⟨i, 0, rfl, .inl ⟨i, h1, h2, h3, rfl, rfl⟩, hb⟩
  · exact ⟨0, 6, rfl, .inr ⟨h1, rfl, rfl⟩, hb⟩
/-- A number after k quarters. -/
def tz (z : Nat × Nat) : Nat → Nat × Nat
  | 0 => z
  | k + 1 => (ngF (tz z k).2, (tz z k).1)
set_option maxHeartbeats 2000000 in
set_option maxRecDepth 100000 in
theorem turned_any (n lb : Nat) (m : Int) (h : isSz n) (hl : lb < n) (w : World) : Calls Try.prog 27 #[.int .i64 (n : Int), .int .i64 (lb : Int), .int .i64 m] w fun r w' => ∃ r1 r2 : Int, r = .returned (.tuple #[.int .i64 r1, .int .i64 r2]) ∧ LabIs n (tz (zAt n lb) (m % 4).toNat) r1 r2 ∧ Below w.heap.size w w' := by
  have HA := Aside0.mk (fun w => at_any n lb h hl w)
  have HL := Aside0.mk (fun (z : Nat × Nat) (w : World) => label_r n z.1 z.2 h w)
  have hng : ∀ (b : Nat) (W : World), Sem.run Try.prog (Op.unary UnOp.neg (Value.float .f64 b)) W = .ok (.float .f64 (ngF b)) W := fun b W => rfl
  obtain ⟨q, hq⟩ : ∃ q : Nat, m % 4 = (q : Int) := ⟨(m % 4).toNat, by omega⟩
  have HQ := Aside0.mk (show q ≤ 3 by omega)
  have ha3 : Go.bits .and .i64 m 3 = (q : Int) := by rw [and3, hq]
  rw [hq, Int.toNat_natCast]
  obtain ⟨z, hz⟩ : ∃ z, zAt n lb = z := ⟨_, rfl⟩
  rw [hz] at HA ⊢
  clear hz hq h hl
  go_enter Try.func27, Try.ntmps27
  go_wp2_with (go_at_call 23; (with_reducible refine (HA.out _).mono ?_); rintro r1 w1 ⟨rfl, hb⟩; (have HB1 := Aside0.mk hb); clear hb)
  go_loopw [8, 21] (fun v i wr => ∃ k : Nat, k ≤ q ∧ i = .int .i64 (k : Int) ∧ v = .complex .f64 (tz z k).1 (tz z k).2 ∧ wr = w1) (fun _ i _ => q - (intOf i).toNat)
  case atStart => exact ⟨0, Nat.zero_le _, rfl, rfl, by first | rfl | trivial⟩
  case round =>
    obtain ⟨k, hk, rfl, rfl, rfl⟩ := hrel
    have hq3 := HQ.out
    by_cases hlt : k < q
    · have q1 : (k : Int) < (q : Int) := by omega
      have hks : IntKind.i64.wrap ((k : Int) + 1) = (k : Int) + 1 := by rw [IntKind.wrap_i64]; omega
      go_wp2
      exact ⟨⟨k + 1, hlt, by go_num, rfl, by first | rfl | trivial⟩, by show q - ((k : Int) + 1).toNat < q - (k : Int).toNat; omega⟩
    · have hkq : k = q := by omega
      subst hkq
      have HLZ := Aside0.mk (HL.out (tz z k) wr)
      go_wp2_with (go_at_call 25; (with_reducible refine HLZ.out.mono ?_); rintro e w3 ⟨r1, r2, rfl, hr, hb⟩; (have HB3 := Aside0.mk (below_step HB1.out hb)); (have HR := Aside0.mk hr); clear hr hb)
      go_ret2
      exact ⟨r1, r2, rfl, HR.out, HB3.out⟩
/-- The answer is one alone. -/
theorem LabIs.one {n : Nat} {z : Nat × Nat} {a b c d : Int} (h : LabIs n z a b) (g : LabIs n z c d) : a = c ∧ b = d := by
  rcases h with ⟨i, i1, i2, i3, rfl, rfl⟩ | ⟨i1, rfl, rfl⟩ <;> rcases g with ⟨j, j1, j2, j3, rfl, rfl⟩ | ⟨j1, rfl, rfl⟩
  · have : i = j := by
      rcases Nat.lt_trichotomy i j with h | h | h
      · have := j3 i h; rw [i2] at this; exact Bool.noConfusion this
      · exact h
      · have := i3 j h; rw [j2] at this; exact Bool.noConfusion this
    exact ⟨by rw [this], rfl⟩
  · have := j1 i i1; rw [i2] at this; exact Bool.noConfusion this
  · have := i1 j j1; rw [j2] at this; exact Bool.noConfusion this
  · exact ⟨rfl, rfl⟩
end Go.Proofs.Ytopmlhihfchdhaa.Pure
