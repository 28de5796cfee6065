/- Slip and Slide: the program and the reference answer alike. -/
import Derived.Test.YtjhapibelhakdaaFogx0
import Derived.Test.YtjhapibelhakdaaLent
import Derived.Test.YtjhapibelhakdaaSlipRef
import Derived.Test.YtjhapibelhakdaaSlideRef
import Derived.Test.YtjhapibelhakdaaEnergies
namespace Go.Proofs.Ytjhapibelhakdaa.Pure
open Go.RowKit Go.Proofs.Ytjhapibelhakdaa.Fog Go.Proofs.YtjhapibelhakdaaW.PrintWords Go.Proofs.YtjhapibelhakdaaW.PrintLast Go.Proofs.YtjhapibelhakdaaW.PrintMore Go.Proofs.Ytjhapibelhakdaa.Kit
set_option linter.unusedVariables false
set_option linter.unusedSimpArgs false
theorem below_of_drew {w w' : World} (h : ∃ d, w' = w.drewN d) : Below w.heap.size w w' := by
  obtain ⟨d, rfl⟩ := h
  exact pw_below_drewN (Below.refl _ _) d
def SlipsAs (f : FuncId) (a b : List Smp) (na nb : Nat) (m r1 r2 r3 : Int) : Prop :=
  ∀ (W : World) (A B : Option Addr) (ca cb : Nat), Kd.C KS W A na a → Kd.C KS W B nb b → Calls Try.prog f #[.slice A na ca, .slice B nb cb, .int .i64 m] W fun e w' => e = .returned (.tuple #[.int .i64 r1, .int .i64 r2, .int .i64 r3]) ∧ Below W.heap.size W w'
theorem slip_both (a b : List Smp) (na nb : Nat) (m : Int) (hna : a.length = na) (hnb : b.length = nb) : ∃ r1 r2 r3 : Int, SlipsAs 20 a b na nb m r1 r2 r3 ∧ SlipsAs 21 a b na nb m r1 r2 r3 := by
  by_cases h : maySlip na nb m
  · obtain ⟨h1, h2, h3, h4⟩ := h
    obtain ⟨k, rfl⟩ : ∃ k : Nat, m = (k : Int) := ⟨m.toNat, by omega⟩
    refine ⟨_, _, _, fun W A B ca cb ha hb => slip_calls a b A B ca cb na nb k W hna hnb ha hb (by omega) (by omega) (by omega), fun W A B ca cb ha hb => (refslip_calls a b A B ca cb na nb k W hna hnb ha hb (by omega) (by omega) (by omega)).mono ?_⟩
    rintro e w' ⟨rfl, hd⟩
    exact ⟨rfl, below_of_drew hd⟩
  · exact ⟨0, 0, 1, fun W A B ca cb _ _ => slip_err A B na nb ca cb m W h, fun W A B ca cb _ _ => refslip_err A B na nb ca cb m W h⟩
def SlidesAs (f : FuncId) (l : List Smp) (n : Nat) (p b : Int) (L : List Smp) (r : Int) : Prop :=
  ∀ (W : World) (A : Option Addr) (c : Nat), n ≤ c → Kd.C KS W A n l → Calls Try.prog f #[.slice A n c, .int .i64 p, .int .i64 b] W fun e w' => ∃ (A' : Option Addr) (c' : Nat), e = .returned (.tuple #[.slice A' L.length c', .int .i64 r]) ∧ Kd.R KS 43 w' W.heap.size (fun _ => True) (.slice A' L.length c') L ∧ Below W.heap.size W w'
theorem slide_both (l : List Smp) (n : Nat) (p b : Int) (hl : l.length = n) (hb : b < 9223372036854775808) : ∃ (L : List Smp) (r : Int), L.length ≤ 67584 ∧ SlidesAs 19 l n p b L r ∧ SlidesAs 22 l n p b L r := by
  by_cases h : maySlide n p b
  · have hm := h
    obtain ⟨h1, h2, h3, h4, h5, h6, h7⟩ := h
    obtain ⟨k, rfl⟩ : ∃ k : Nat, p = (k : Int) := ⟨p.toNat, by omega⟩
    refine ⟨l.take k ++ List.replicate (max b 0).toNat lostS ++ l.drop (k + (max (-b) 0).toNat), 0, by simp only [List.length_append, List.length_take, List.length_replicate, List.length_drop]; omega, fun W A c hc hC => ?_, fun W A c hc hC => ?_⟩
    · by_cases h0 : b < 0
      · obtain ⟨d, rfl⟩ : ∃ d : Nat, b = -(d : Int) := ⟨(-b).toNat, by omega⟩
        rw [show (max (-(d : Int)) 0).toNat = 0 by omega, show (max (- -(d : Int)) 0).toNat = d by omega, List.replicate_zero, List.append_nil]
        refine (slide_out A n c k d l W hl hC hc (by omega) (by omega) (by omega) (by omega) (by omega)).mono ?_
        rintro e w' ⟨v, rfl, hR, hB⟩
        obtain ⟨A', c', rfl⟩ := Kd.R_slice hR
        exact ⟨A', c', rfl, hR, hB⟩
      · obtain ⟨d, rfl⟩ : ∃ d : Nat, b = (d : Int) := ⟨b.toNat, by omega⟩
        rw [show (max (d : Int) 0).toNat = d by omega, show (max (-(d : Int)) 0).toNat = 0 by omega, Nat.add_zero]
        refine (slide_in A n c k d l W hl hC hc (by omega) (by omega) (by omega)).mono ?_
        rintro e w' ⟨v, rfl, hR, hB⟩
        obtain ⟨A', c', rfl⟩ := Kd.R_slice hR
        exact ⟨A', c', rfl, hR, hB⟩
    · refine (refslide_calls A n c k (max b 0).toNat (k + (max (-b) 0).toNat) b l W hl hC hc hm (by omega) (by omega)).mono ?_
      rintro e w' ⟨v, rfl, hR, hB⟩
      obtain ⟨A', c', rfl⟩ := Kd.R_slice hR
      exact ⟨A', c', rfl, hR, hB⟩
  · refine ⟨[], 1, Nat.zero_le _, fun W A c _ _ => (slide_err A n c p b W hb h).mono ?_, fun W A c _ _ => (refslide_err A n c p b W hb h).mono ?_⟩
    all_goals
      rintro e w' ⟨rfl, hB⟩
      exact ⟨none, 0, rfl, Kd.R_nil _ _ _ _ _, hB⟩
/-- A sample's cells, as a store wants them. -/
theorem smp_hcc {T base : Nat} {wr : World} {ok : Nat → Prop} {g n c : Nat} {L : List Smp} (h : Kd.R KS T wr base ok (.slice (some ⟨g, 0, none⟩) n c) L) (hl : L.length = n) (k : Nat) (hk : k < n) :
    ∀ (j : Nat) (u : Value), ([.complex .f64 (L.getD k s0).1.1 (L.getD k s0).1.2, .bool (L.getD k s0).2] : List Value)[j]? = some u → wr.cell? ⟨g, (k : Int).toNat * KS.sz + j, none⟩ = some u := by
  subst hl
  have hsm := (Kd.R_reads' h).2.2
  obtain ⟨ad, had, hc0, hc1⟩ := smp_at hsm k hk
  injection had with had
  subst had
  rw [add_zero_form] at hc0 hc1
  intro j u hj
  rw [Int.toNat_natCast, KS_sz]
  match j, hj with
  | 0, hj => obtain rfl : Value.complex .f64 (L.getD k s0).1.1 (L.getD k s0).1.2 = u := by simpa using hj
             exact hc0
  | 1, hj => obtain rfl : Value.bool (L.getD k s0).2 = u := by simpa using hj
             exact hc1
end Go.Proofs.Ytjhapibelhakdaa.Pure
