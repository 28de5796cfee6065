/- turn; rows kept beside others; contracts of the two sides' functions at rows of any length. -/
import Derived.Test.YtabjfehhibeeiaaFogx0
import Derived.Test.YtabjfehhibeeiaaFogx1
import Derived.Test.YtabjfehhibeeiaaFogx6
import Derived.Test.YtabjfehhibeeiaaFogx7
import Derived.Test.YtabjfehhibeeiaaKit
import Derived.Test.YtabjfehhibeeiaaRefPairs
namespace Go.Proofs.Ytabjfehhibeeiaa.Pure
open Go.RowKit Go.Proofs.Ytabjfehhibeeiaa.Fog Go.Proofs.YtabjfehhibeeiaaW.PrintWords Go.Proofs.YtabjfehhibeeiaaW.PrintLast Go.Proofs.YtabjfehhibeeiaaW.PrintMore Go.Proofs.Ytabjfehhibeeiaa.Kit
set_option linter.unusedVariables false
theorem turn_l0 (l : List Bool) (hl : l.length ≤ 9223372036854775806) : ∀ (d i : Nat) (x : List Bool), i + d = l.length → x = (l.take i).map not ++ l.drop i → Ev (fun k => foghornlaw01_turn.l0 k x (i : Int)) (l.map not)
  | 0, i, x, h, hx => by
    have hlen : x.length = l.length := by rw [hx]; simp; omega
    refine Ev.step (fun k => by simp only [foghornlaw01_turn.l0]; rfl) ?_
    refine Ev.ifn (by omega) (Ev.val ?_)
    rw [hx, List.take_of_length_le (by omega), List.drop_of_length_le (by omega), List.append_nil]
  | d + 1, i, x, h, hx => by
    have hi : i < l.length := by omega
    have hlen : x.length = l.length := by rw [hx]; simp; omega
    have hl1 : ((l.take i).map not).length = i := by rw [List.length_map, List.length_take]; omega
    have hd : l.drop i = l[i] :: l.drop (i + 1) := List.drop_eq_getElem_cons hi
    have hrd : rdOf false x (i : Int) = l[i] := by
      rw [rd_nat, hx, List.getD_eq_getElem?_getD, List.getElem?_append_right (by omega), hl1, Nat.sub_self, hd]
      rfl
    refine Ev.step (fun k => by simp only [foghornlaw01_turn.l0]; rfl) ?_
    refine Ev.ifp (by omega) (Ev.ifp (by omega) ?_)
    rw [hrd, Int.toNat_natCast, show ((i : Int) + 1) = ((i + 1 : Nat) : Int) by omega, w64n (by omega)]
    refine turn_l0 l hl d (i + 1) _ (by omega) ?_
    rw [hx, List.set_append_right _ _ (by omega), hl1, Nat.sub_self, hd, List.set_cons_zero, List.take_succ_eq_append_getElem hi, List.map_append, List.append_assoc]
    rfl
theorem turn_ev (l : List Bool) (hl : l.length ≤ 9223372036854775806) : Ev (fun k => foghornlaw01_turn.f k l) (l.map not) := by
  have := turn_l0 l hl l.length 0 l (by omega) (by simp)
  simpa [foghornlaw01_turn.f] using this
theorem own_lt_now {w : World} {base : Nat} {v : Value} {l : List Bool} (h : Kd.R Kd.bool 4 w base (fun _ => True) v l) : ∀ k, v.ownBlock = some k → k < w.heap.size := fun k hk => ((Kd.R_bound h).1 k hk).2.2.1
theorem own_ge {w : World} {base : Nat} {v : Value} {l : List Bool} (h : Kd.R Kd.bool 4 w base (fun _ => True) v l) : ∀ k, v.ownBlock = some k → base ≤ k := fun k hk => ((Kd.R_bound h).1 k hk).2.1
theorem R_kept {w w' : World} {S : Nat → Prop} {base : Nat} {v : Value} {l : List Bool} (h : Kd.R Kd.bool 4 w base (fun _ => True) v l) (hk : Kept w w' S) (hd : ∀ k, v.ownBlock = some k → ¬ S k) : Kd.R Kd.bool 4 w' base (fun _ => True) v l := by
  have h1 := Kd.R_bound (Kd.R_tight rfl h)
  refine Kd.R_mono (Kd.R_move h1 ?_) (fun _ _ => trivial)
  rintro k ⟨hk1, _, hk3, _⟩
  exact hk.2 k hk3 (hd k hk1.symm)
theorem C_under {w w' : World} {B g n : Nat} {l : List Bool} (h : Kd.C Kd.bool w (some ⟨g, 0, none⟩) n l) (hb : Below B w w') (hg : g < B) : Kd.C Kd.bool w' (some ⟨g, 0, none⟩) n l := by
  refine ⟨h.1, h.2.1, fun hp => ?_⟩
  obtain ⟨ad, e, hc⟩ := h.2.2 hp
  refine ⟨ad, e, fun j p hj => ?_⟩
  obtain ⟨cs, h1, h2, h3⟩ := hc j p hj
  refine ⟨cs, h1, h2, fun i u hu => ?_⟩
  cases e
  exact (hb.cell (by rw [add_plain]; exact hg)).trans (h3 i u hu)
theorem turn_in (v : Value) (l : List Bool) (u w : World) (hB : Below u.heap.size u w) (hR : Kd.R Kd.bool 4 w u.heap.size (fun _ => True) v l) (hl : l.length ≤ 9223372036854775806) :
    Calls Try.prog 20 #[v] w fun e w' => e = .returned (.tuple #[]) ∧ Below u.heap.size w w' ∧ Kept w w' (fun k => some k = v.ownBlock) ∧ Kd.R Kd.bool 4 w' u.heap.size (fun _ => True) v (l.map not) := by
  obtain ⟨k, hk⟩ := (turn_ev l hl).rounds
  refine (foghornlaw01_turn.calls k (fun k => some k = v.ownBlock) v l _ u w hB (Kd.R_tight rfl hR) hk).mono ?_
  rintro e w' ⟨rfl, hR', hB', hK⟩
  exact ⟨rfl, ⟨hB'.os.trans hB.os.symm, hB'.tape.trans hB.tape.symm, hB'.output.trans hB.output.symm, hK.1, fun i hi => (hB'.block i hi).trans (hB.block i hi).symm⟩, hK, Kd.R_mono hR' (fun _ _ => trivial)⟩
section
variable (A : Option Addr) (c : Nat) (a : List Bool) (B : Option Addr) (d : Nat) (b : List Bool) (m : Int) (w : World) (h1 : Kd.C Kd.bool w A a.length a) (hc : a.length ≤ c) (h2 : Kd.C Kd.bool w B b.length b) (hd : b.length ≤ d)
include h1 hc
theorem pad_in : Calls Try.prog 27 #[.slice A a.length c, .int .i64 m] w fun e w' => ∃ v0_ : Value, e = .returned (.tuple #[v0_, .int .i64 (padV a m).2]) ∧ Kd.R Kd.bool 4 w' w.heap.size (fun _ => True) v0_ (padV a m).1 ∧ Below w.heap.size w w' := by
  obtain ⟨k, hk⟩ := (pad_ev a m).rounds
  exact bits_Pad.calls k A c a m _ _ w h1 hc hk
theorem refpad_in : Calls Try.prog 28 #[.slice A a.length c, .int .i64 m] w fun e w' => ∃ v0_ : Value, e = .returned (.tuple #[v0_, .int .i64 (padV a m).2]) ∧ Kd.R Kd.bool 4 w' w.heap.size (fun _ => True) v0_ (padV a m).1 ∧ Below w.heap.size w w' := by
  obtain ⟨k, hk⟩ := (refpad_ev a m).rounds
  exact foghornref01_Pad.calls k A c a m _ _ w h1 hc hk
theorem weight_in (hl : a.length ≤ 9223372036854775806) : Calls Try.prog 29 #[.slice A a.length c] w fun e w' => e = .returned (.int .i64 (wgt a : Int)) ∧ Below w.heap.size w w' := by
  obtain ⟨k, hk⟩ := (weight_ev a hl).rounds
  refine (bits_Weight.calls k A c a _ w h1 hc hk).mono ?_
  rintro e w' ⟨rfl, ⟨nd, rfl⟩⟩
  exact ⟨rfl, pw_below_drewN (Below.refl _ _) _⟩
theorem refweight_in (hl : a.length ≤ 9223372036854775806) : Calls Try.prog 30 #[.slice A a.length c] w fun e w' => e = .returned (.int .i64 (wgt a : Int)) ∧ Below w.heap.size w w' := by
  obtain ⟨k, hk⟩ := (refweight_ev a hl).rounds
  refine (foghornref01_Weight.calls k A c a _ w h1 hc hk).mono ?_
  rintro e w' ⟨rfl, ⟨nd, rfl⟩⟩
  exact ⟨rfl, pw_below_drewN (Below.refl _ _) _⟩
include h2 hd
theorem xor_in : Calls Try.prog 23 #[.slice A a.length c, .slice B b.length d] w fun e w' => ∃ v0_ : Value, e = .returned (.tuple #[v0_, .int .i64 (xorV a b).2]) ∧ Kd.R Kd.bool 4 w' w.heap.size (fun _ => True) v0_ (xorV a b).1 ∧ Below w.heap.size w w' := by
  obtain ⟨k, hk⟩ := (xorV_ev a b).rounds
  exact bits_Xor.calls k A c a B d b _ _ w h1 hc h2 hd hk
theorem refxor_in : Calls Try.prog 24 #[.slice A a.length c, .slice B b.length d] w fun e w' => ∃ v0_ : Value, e = .returned (.tuple #[v0_, .int .i64 (xorV a b).2]) ∧ Kd.R Kd.bool 4 w' w.heap.size (fun _ => True) v0_ (xorV a b).1 ∧ Below w.heap.size w w' := by
  obtain ⟨k, hk⟩ := (refxor_ev a b).rounds
  exact foghornref01_Xor.calls k A c a B d b _ _ w h1 hc h2 hd hk
theorem dist_in : Calls Try.prog 25 #[.slice A a.length c, .slice B b.length d] w fun e w' => e = .returned (.tuple #[.int .i64 (distV a b).1, .int .i64 (distV a b).2]) ∧ Below w.heap.size w w' := by
  obtain ⟨k, hk⟩ := (distV_ev a b).rounds
  exact bits_Distance.calls k A c a B d b _ _ w h1 hc h2 hd hk
theorem refdist_in : Calls Try.prog 26 #[.slice A a.length c, .slice B b.length d] w fun e w' => e = .returned (.tuple #[.int .i64 (distV a b).1, .int .i64 (distV a b).2]) ∧ Below w.heap.size w w' := by
  obtain ⟨k, hk⟩ := (refdist_ev a b).rounds
  exact foghornref01_Distance.calls k A c a B d b _ _ w h1 hc h2 hd hk
end
end Go.Proofs.Ytabjfehhibeeiaa.Pure
