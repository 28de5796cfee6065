/- Energies and Phase: the program and the reference alike; floats compared. -/
import Derived.Test.YtjhapibelhakdaaFogx0
import Derived.Test.YtjhapibelhakdaaPhase
import Derived.Test.YtjhapibelhakdaaEnergy
namespace Go.Proofs.Ytjhapibelhakdaa.Pure
open Go.RowKit Go.Proofs.Ytjhapibelhakdaa.Fog Go.Proofs.YtjhapibelhakdaaW.PrintWords Go.Proofs.YtjhapibelhakdaaW.PrintLast Go.Proofs.YtjhapibelhakdaaW.PrintMore Go.Proofs.Ytjhapibelhakdaa.Kit
set_option linter.unusedVariables false
set_option linter.unusedSimpArgs false
def EnAs (f : FuncId) (l : List Smp) (n : Nat) (p F cnt : Int) (N : Nat) (o : Nat → Option Nat) (r : Int) : Prop :=
  ∀ (W : World) (A : Option Addr) (c : Nat), n ≤ c → Kd.C KS W A n l → Calls Try.prog f #[.slice A n c, .int .i64 p, .int .i64 F, .int .i64 cnt] W fun e w' => ∃ (A' : Option Addr) (c' : Nat) (bs : List Nat), e = .returned (.tuple #[.slice A' N c', .int .i64 r]) ∧ bs.length = N ∧ (∀ i, i < N → relF (o i) (bs.getD i 0)) ∧ Kd.R KF 41 w' W.heap.size (fun _ => True) (.slice A' N c') bs ∧ Below W.heap.size W w'
theorem energies_both (l : List Smp) (n : Nat) (p F cnt : Int) (hl : l.length = n) : ∃ (N : Nat) (o : Nat → Option Nat) (r : Int), N ≤ 8 ∧ EnAs 24 l n p F cnt N o r ∧ EnAs 25 l n p F cnt N o r := by
  by_cases h : mayE n p F cnt
  · obtain ⟨h1, h2, h3, h4, h5, h6, h7⟩ := h
    obtain ⟨P, rfl⟩ : ∃ P : Nat, p = (P : Int) := ⟨p.toNat, by omega⟩
    obtain ⟨Q, rfl⟩ : ∃ Q : Nat, F = (Q : Int) := ⟨F.toNat, by omega⟩
    obtain ⟨C, rfl⟩ : ∃ C : Nat, cnt = (C : Int) := ⟨cnt.toNat, by omega⟩
    have h8 : Q + P * C ≤ n := by
      rw [← Int.natCast_mul] at h7
      omega
    refine ⟨P, fun i => sumT l Q P i C, 0, by omega, fun W A c hc hC => ?_, fun W A c hc hC => ?_⟩
    · refine (energies_any A n c Q P C l W hl hC hc (by omega) (by omega) (by omega) (by omega) (by omega) h8).mono ?_
      rintro e w' ⟨v, rfl, bs, hb, hr, hR, hB⟩
      obtain ⟨A', c', rfl⟩ := Kd.R_slice hR
      rw [hb] at hR ⊢
      exact ⟨A', c', bs, rfl, hb, hr, hR, hB⟩
    · refine (refenergies_any A n c Q P C l W hl hC (by omega) (by omega) (by omega) (by omega) (by omega) h8).mono ?_
      rintro e w' ⟨v, rfl, bs, hb, hr, hR, hB⟩
      obtain ⟨A', c', rfl⟩ := Kd.R_slice hR
      rw [hb] at hR ⊢
      exact ⟨A', c', bs, rfl, hb, hr, hR, hB⟩
  · refine ⟨0, fun _ => none, 1, Nat.zero_le _, fun W A c _ _ => (energies_err A n c p F cnt W h).mono ?_, fun W A c _ _ => (refenergies_err A n c p F cnt W h).mono ?_⟩
    all_goals
      rintro e w' ⟨rfl, hB⟩
      exact ⟨none, 0, [], rfl, rfl, fun i hi => absurd hi (Nat.not_lt_zero _), Kd.R_nil _ _ _ _ _, hB⟩
def PhAs (f : FuncId) (l : List Nat) (n : Nat) (r1 r2 : Int) : Prop :=
  ∀ (W : World) (A : Option Addr) (c : Nat), Kd.C KF W A n l → Calls Try.prog f #[.slice A n c] W fun e w' => e = .returned (.tuple #[.int .i64 r1, .int .i64 r2]) ∧ Below W.heap.size W w'
theorem phase_both (l : List Nat) (n : Nat) (hn : n < 140737488355000) : ∃ r1 r2 : Int, PhAs 27 l n r1 r2 ∧ PhAs 28 l n r1 r2 := by
  by_cases h : n = 0 ∨ someNaN l n
  · refine ⟨0, 1, fun W A c hC => (phase_bad A c n l W hC hn h).mono ?_, fun W A c hC => (refphase_calls A c n l W hC hn).mono ?_⟩
    · rintro e w' ⟨rfl, rfl⟩
      exact ⟨rfl, Below.refl _ _⟩
    · rintro e w' ⟨⟨_, h2⟩, hd⟩
      exact ⟨h2 h, below_of_drew hd⟩
  · have h1 : 1 ≤ n := by
      rcases Nat.eq_zero_or_pos n with h0 | h0
      · exact absurd (.inl h0) h
      · exact h0
    have h2 : ¬ someNaN l n := fun h9 => h (.inr h9)
    refine ⟨(bestV l n : Int), 0, fun W A c hC => (phase_ok A c n l W hC hn h1 h2).mono ?_, fun W A c hC => (refphase_calls A c n l W hC hn).mono ?_⟩
    · rintro e w' ⟨rfl, rfl⟩
      exact ⟨rfl, Below.refl _ _⟩
    · rintro e w' ⟨⟨h3, _⟩, hd⟩
      exact ⟨h3 ⟨h1, h2⟩, below_of_drew hd⟩
theorem nan_ord (x y : Nat) (h : nanF x) : FloatKind.f64.format.order x y = none := by
  unfold nanF at h
  unfold Ieee.Format.order
  rcases hx : FloatKind.f64.format.read x with ⟨⟩ | ⟨⟩ | ⟨s, m, i⟩ <;> rw [hx] at h <;> simp_all [Ieee.Datum.isNaN, Ieee.Datum.order]
/-- The same float, NaN as NaN. -/
def sameF (x y : Nat) : Prop := (¬ nanF x ∧ x = y) ∨ (nanF x ∧ nanF y)
theorem same_refl (x : Nat) : sameF x x := by
  by_cases h : nanF x
  · exact .inr ⟨h, h⟩
  · exact .inl ⟨h, rfl⟩
theorem same_rel {o : Option Nat} {x y : Nat} (hx : relF o x) (hy : relF o y) : sameF x y := by
  cases o with
  | none => exact .inr ⟨hx, hy⟩
  | some r =>
    unfold relF at hx hy
    simp only at hx hy
    rw [hx, hy]
    exact same_refl r
set_option maxHeartbeats 2000000 in
set_option maxRecDepth 100000 in
theorem floats_calls (A B : Option Addr) (ca cb n : Nat) (l l' : List Nat) (w : World) (ha : Kd.C KF w A n l) (hb : Kd.C KF w B n l') (hs : ∀ i, i < n → sameF (l.getD i 0) (l'.getD i 0)) (hn : n < 140737488355000) :
    Calls Try.prog 26 #[.slice A n ca, .slice B n cb] w fun e w' => e = .returned (.bool true) ∧ ∃ d, w' = w.drewN d := by
  have HA := Aside0.mk ha
  have HBB := Aside0.mk hb
  have HN := Aside0.mk hn
  have HS := Aside0.mk hs
  clear ha hb hs
  go_enter Try.func26, Try.ntmps26
  go_wp2
  go_loopw [5] (fun i wr => ∃ k : Nat, k ≤ n ∧ i = .int .i64 (k : Int) ∧ Aside0 (∃ d, wr = w.drewN d)) (fun i _ => n - (intOf i).toNat)
  case atStart => exact ⟨0, Nat.zero_le _, rfl, ⟨0, rfl⟩⟩
  case round =>
    obtain ⟨k, hk, rfl, HW⟩ := hrel
    have hkn := HN.out
    by_cases hlt : k < n
    · have q1 : (k : Int) < (n : Int) := by omega
      have hks : IntKind.i64.wrap ((k : Int) + 1) = (k : Int) + 1 := by rw [IntKind.wrap_i64]; omega
      have hbw : Below w.heap.size w wr := below_of_drew HW.out
      obtain ⟨ad, hA, k1⟩ := fl_at (Kd.C_below HA.out hbw) k hlt
      subst hA
      obtain ⟨bd, hB, k2⟩ := fl_at (Kd.C_below HBB.out hbw) k hlt
      subst hB
      have hsm := HS.out k hlt
      obtain ⟨x, hx⟩ : ∃ x, l.getD k 0 = x := ⟨_, rfl⟩
      obtain ⟨y, hy⟩ : ∃ y, l'.getD k 0 = y := ⟨_, rfl⟩
      rw [hx] at k1 hsm
      rw [hy] at k2 hsm
      clear hx hy hbw
      rcases hsm with ⟨h1, rfl⟩ | ⟨h1, h2⟩
      · have e0 : FloatKind.f64.format.order x x = some Ordering.eq := Decidable.byContradiction fun h2 => h1 ((nan_order x).2 h2)
        have e1 : (FloatKind.f64.format.order x x != some Ordering.eq) = false := by rw [e0]; rfl
        clear h1
        go_wp2
        go_quiet (fail)
        go_wp2
        exact ⟨⟨k + 1, hlt, by go_num, ⟨drew_more HW.out _⟩⟩, by show n - ((k : Int) + 1).toNat < n - (k : Int).toNat; omega⟩
      · have e0 := nan_ord x y h1
        have e1 : (FloatKind.f64.format.order x y != some Ordering.eq) = true := by rw [e0]; rfl
        have e2 : (FloatKind.f64.format.order x x == some Ordering.eq) = false := by rw [nan_ord x x h1]; rfl
        have e3 : (FloatKind.f64.format.order y y == some Ordering.eq) = false := by rw [nan_ord y y h2]; rfl
        clear h1 h2 e0
        go_wp2
        go_quiet (fail)
        go_wp2
        exact ⟨⟨k + 1, hlt, by go_num, ⟨drew_more HW.out _⟩⟩, by show n - ((k : Int) + 1).toNat < n - (k : Int).toNat; omega⟩
    · have hkN : k = n := by omega
      subst hkN
      go_wp2
      go_ret
      exact ⟨rfl, HW.out⟩
end Go.Proofs.Ytjhapibelhakdaa.Pure
