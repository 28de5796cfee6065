/- What the program answers: labels, turned labels, cosets, told by functions. -/
import Derived.Test.YtopmlhihfchdhaaFogx0
import Derived.Test.YtopmlhihfchdhaaCoset
import Derived.Test.YtopmlhihfchdhaaToInt
import Derived.Test.YtopmlhihfchdhaaMapC
namespace Go.Proofs.Ytopmlhihfchdhaa.Pure
open Go.RowKit Go.Proofs.Ytopmlhihfchdhaa.Fog Go.Proofs.YtopmlhihfchdhaaW.PrintWords Go.Proofs.YtopmlhihfchdhaaW.PrintLast Go.Proofs.YtopmlhihfchdhaaW.PrintMore Go.Proofs.Ytopmlhihfchdhaa.Kit
set_option linter.unusedVariables false
set_option linter.unusedSimpArgs false
theorem int_at {w : World} {A : Option Addr} {n : Nat} {l : List Int} (h : Kd.C (Kd.int .i64) w A n l) (i : Nat) (hi : i < n) : ∃ ad, A = some ad ∧ w.cell? (ad.add i) = some (.int .i64 (l.getD i 0)) := by
  have hl : l.length = n := h.1
  obtain ⟨ad, rfl, hc⟩ := h.2.2 (by omega)
  have hg : l[i]? = some (l.getD i 0) := by
    rw [List.getD_eq_getElem?_getD, List.getElem?_eq_getElem (by omega)]; rfl
  obtain ⟨cs, hcl, hK, hcell⟩ := hc i _ hg
  have e : cs = [.int .i64 (l.getD i 0)] := hK
  subst e
  have h0 := hcell 0 _ rfl
  have e1 : i * (Kd.int .i64).sz + 0 = i := by show i * 1 + 0 = i; omega
  rw [e1] at h0
  exact ⟨ad, rfl, h0⟩
theorem below_of_drew {w w' : World} (h : ∃ d, w' = w.drewN d) : Below w.heap.size w w' := by
  obtain ⟨d, rfl⟩ := h
  exact pw_below_drewN (Below.refl _ _) d
/-- A point after k quarters. -/
def tp (p : Int × Int) : Nat → Int × Int
  | 0 => p
  | k + 1 => (-(tp p k).2, (tp p k).1)
theorem tp_ok (p : Int × Int) (h : (-15 ≤ p.1 ∧ p.1 ≤ 15 ∧ p.1 ≠ 0) ∧ -15 ≤ p.2 ∧ p.2 ≤ 15 ∧ p.2 ≠ 0) : ∀ k, (-15 ≤ (tp p k).1 ∧ (tp p k).1 ≤ 15 ∧ (tp p k).1 ≠ 0) ∧ -15 ≤ (tp p k).2 ∧ (tp p k).2 ≤ 15 ∧ (tp p k).2 ≠ 0
  | 0 => h
  | k + 1 => by
    have ih := tp_ok p h k
    show (-15 ≤ -(tp p k).2 ∧ -(tp p k).2 ≤ 15 ∧ -(tp p k).2 ≠ 0) ∧ -15 ≤ (tp p k).1 ∧ (tp p k).1 ≤ 15 ∧ (tp p k).1 ≠ 0
    omega
theorem ng_all : ∀ i : Fin 31, (i.val : Int) - 15 = 0 ∨ ngF (fI ((i.val : Int) - 15)) = fI (-((i.val : Int) - 15)) := by decide +kernel
theorem ng_f (a : Int) (h0 : -15 ≤ a ∧ a ≤ 15 ∧ a ≠ 0) : ngF (fI a) = fI (-a) := by
  have h := ng_all ⟨(a + 15).toNat, by omega⟩
  have e : (((⟨(a + 15).toNat, by omega⟩ : Fin 31).val : Int)) - 15 = a := by simp only; omega
  rw [e] at h
  rcases h with h | h
  · exact absurd h h0.2.2
  · exact h
theorem tz_tp (p : Int × Int) (h : (-15 ≤ p.1 ∧ p.1 ≤ 15 ∧ p.1 ≠ 0) ∧ -15 ≤ p.2 ∧ p.2 ≤ 15 ∧ p.2 ≠ 0) : ∀ k, tz (fI p.1, fI p.2) k = (fI (tp p k).1, fI (tp p k).2)
  | 0 => rfl
  | k + 1 => by
    show (ngF (tz (fI p.1, fI p.2) k).2, (tz (fI p.1, fI p.2) k).1) = (fI (-(tp p k).2), fI (tp p k).1)
    rw [tz_tp p h k]
    show (ngF (fI (tp p k).2), fI (tp p k).1) = _
    rw [ng_f _ (tp_ok p h k).2]
def ptNz (n : Nat) : Bool := (List.range n).all fun i => decide ((ptP n i).1 % 2 = 1 ∧ (ptP n i).2 % 2 = 1)
theorem nz_all : ∀ n ∈ [4, 16, 32, 64, 128, 256], ptNz n = true := by decide +kernel
theorem pt_odd (n i : Nat) (h : isSz n) (hi : i < n) : (ptP n i).1 % 2 = 1 ∧ (ptP n i).2 % 2 = 1 := by
  have h1 := nz_all n (by rcases h with rfl | rfl | rfl | rfl | rfl | rfl <;> decide)
  unfold ptNz at h1
  rw [List.all_eq_true] at h1
  exact of_decide_eq_true (h1 i (List.mem_range.2 hi))
theorem pt_box (n i : Nat) (h : isSz n) (hi : i < n) : (-15 ≤ (ptP n i).1 ∧ (ptP n i).1 ≤ 15 ∧ (ptP n i).1 ≠ 0) ∧ -15 ≤ (ptP n i).2 ∧ (ptP n i).2 ≤ 15 ∧ (ptP n i).2 ≠ 0 := by
  obtain ⟨p1, p2, p3, p4⟩ := pt_le n i h hi
  obtain ⟨o1, o2⟩ := pt_odd n i h hi
  omega
theorem at_bad (n : Nat) (lb : Int) (h : isSz n) (hl : lb < 0 ∨ (n : Int) ≤ lb) (w : World) : Calls Try.prog 23 #[.int .i64 (n : Int), .int .i64 lb] w fun r w' => r = .returned (.tuple #[.complex .f64 0 0, .int .i64 1]) ∧ Below w.heap.size w w' := by
  rcases of_any n h with ho | ho
  · exact atbad_Sq n lb _ _ ho hl w
  · exact atbad_Cr n lb _ _ ho hl w
set_option maxHeartbeats 1000000 in
set_option maxRecDepth 100000 in
theorem turned_bad (n : Nat) (lb m : Int) (h : isSz n) (hl : lb < 0 ∨ (n : Int) ≤ lb) (w : World) : Calls Try.prog 27 #[.int .i64 (n : Int), .int .i64 lb, .int .i64 m] w fun r w' => r = .returned (.tuple #[.int .i64 0, .int .i64 1]) ∧ Below w.heap.size w w' := by
  have HA := Aside0.mk (fun w => at_bad n lb h hl w)
  clear h hl
  go_enter Try.func27, Try.ntmps27
  go_wp2_with (go_at_call 23; (with_reducible refine (HA.out _).mono ?_); rintro r1 w1 ⟨rfl, hb⟩; (have HB1 := Aside0.mk hb); clear hb)
  go_ret2
  exact ⟨rfl, HB1.out⟩
set_option maxHeartbeats 1000000 in
set_option maxRecDepth 100000 in
theorem turned_no (n lb m : Int) (h : noSz n) (w : World) : Calls Try.prog 27 #[.int .i64 n, .int .i64 lb, .int .i64 m] w fun r w' => r = .returned (.tuple #[.int .i64 0, .int .i64 1]) ∧ Below w.heap.size w w' := by
  have HA := Aside0.mk (fun w => at_no n lb h w)
  clear h
  go_enter Try.func27, Try.ntmps27
  go_wp2_with (go_at_call 23; (with_reducible refine (HA.out _).mono ?_); rintro r1 w1 ⟨rfl, hb⟩; (have HB1 := Aside0.mk hb); clear hb)
  go_ret2
  exact ⟨rfl, HB1.out⟩
/-- The label's answer, by search. -/
def labA (n : Nat) (z : Nat × Nat) : Int × Int := match (List.range n).find? (hit n z) with | some i => ((i : Int), 0) | none => (0, 6)
theorem labA_is (n : Nat) (z : Nat × Nat) : LabIs n z (labA n z).1 (labA n z).2 := by
  unfold labA
  cases hf : (List.range n).find? (hit n z) with
  | none =>
    rw [List.find?_eq_none] at hf
    exact .inr ⟨fun j hj => by simpa using hf j (List.mem_range.2 hj), rfl, rfl⟩
  | some i =>
    obtain ⟨h1, La, Lb, h2, h3⟩ := List.find?_eq_some_iff_append.1 hf
    have hi := List.mem_of_find?_eq_some hf
    refine .inl ⟨i, List.mem_range.1 hi, h1, fun j hj => ?_, rfl, rfl⟩
    have hl : La.length = i := by
      have h4 : (List.range n)[La.length]? = some i := by rw [h2]; simp
      have h5 : La.length < n := by
        have := List.getElem?_eq_some_iff.1 h4
        obtain ⟨h6, _⟩ := this
        rwa [List.length_range] at h6
      rw [List.getElem?_range h5] at h4
      exact Option.some.inj h4
    have h4 : (List.range n)[j]? = La[j]? := by rw [h2, List.getElem?_append_left (by omega)]
    have hjn : j < n := by have := List.mem_range.1 hi; omega
    rw [List.getElem?_range hjn] at h4
    have h5 : j ∈ La := List.mem_of_getElem? h4.symm
    simpa using h3 j h5
theorem label_at (n : Nat) (h : isSz n) (z1 z2 : Nat) (w : World) : Calls Try.prog 25 #[.int .i64 (n : Int), .complex .f64 z1 z2] w fun r w' => r = .returned (.tuple #[.int .i64 (labA n (z1, z2)).1, .int .i64 (labA n (z1, z2)).2]) ∧ Below w.heap.size w w' := by
  refine (label_r n z1 z2 h w).mono ?_
  rintro r w' ⟨r1, r2, rfl, hr, hb⟩
  obtain ⟨rfl, rfl⟩ := hr.one (labA_is n (z1, z2))
  exact ⟨rfl, hb⟩
theorem turned_at (n lb : Nat) (m : Int) (h : isSz n) (hl : lb < n) (w : World) : Calls Try.prog 27 #[.int .i64 (n : Int), .int .i64 (lb : Int), .int .i64 m] w fun r w' => r = .returned (.tuple #[.int .i64 (labA n (tz (zAt n lb) (m % 4).toNat)).1, .int .i64 (labA n (tz (zAt n lb) (m % 4).toNat)).2]) ∧ Below w.heap.size w w' := by
  refine (turned_any n lb m h hl w).mono ?_
  rintro r w' ⟨r1, r2, rfl, hr, hb⟩
  obtain ⟨rfl, rfl⟩ := hr.one (labA_is n _)
  exact ⟨rfl, hb⟩
theorem coset_z (n i : Nat) (z1 z2 lv : Nat) (h : isSz n) (hlv : lv ≤ 8) (hi : i < n) (hh : hit n (z1, z2) i = true) (w : World) : Calls Try.prog 29 #[.int .i64 (n : Int), .complex .f64 z1 z2, .int .i64 (lv : Int)] w fun r w' => r = .returned (.tuple #[.int .i64 (cosS (ptP n i).1 (ptP n i).2 lv).2.2, .int .i64 0]) ∧ Below w.heap.size w w' := by
  obtain ⟨⟨p1, p2, p3⟩, p4, p5, p6⟩ := pt_box n i h hi
  have hh2 := hh
  unfold hit at hh2
  rw [Bool.and_eq_true] at hh2
  exact coset_zz n _ _ z1 z2 (toInt_of_eq _ p1 p2 p3 z1 hh2.1) (toInt_of_eq _ p4 p5 p6 z2 hh2.2) lv h ⟨p1, p2⟩ ⟨p4, p5⟩ hlv ⟨i, hi, hh⟩ w
end Go.Proofs.Ytopmlhihfchdhaa.Pure
