import Derived.Test.YtjnedgkpakoceaaFogx0
import Derived.Test.YtjnedgkpakoceaaFogx9
import Derived.Test.YtjnedgkpakoceaaRefTold
namespace Go.Proofs.Ytjnedgkpakoceaa.Fog
open Go.RowKit Go.Proofs.YtjnedgkpakoceaaW.PrintWords Go.Proofs.YtjnedgkpakoceaaW.PrintLast Go.Proofs.YtjnedgkpakoceaaW.PrintMore
set_option linter.unusedVariables false
set_option linter.unusedSimpArgs false
set_option maxHeartbeats 1000000 in
set_option maxRecDepth 100000 in
theorem lent24_calls (A0 : Option Addr) (c0 : Nat) (l0 : List Bool) (w : World) (hr0 : Kd.C Kd.bool w A0 l0.length l0) (hc0 : l0.length ≤ c0) (hl : l0.length ≤ 140737488351232) :
    Calls Try.prog 23 #[.slice A0 l0.length c0] w fun e w' => ∃ g c : Nat, e = .returned (.slice (some ⟨g, 0, none⟩) l0.length c) ∧ l0.length + 1 ≤ c ∧ w.heap.size ≤ g ∧ g < w'.heap.size ∧ Kd.R Kd.bool 4 w' w.heap.size (fun _ => True) (.slice (some ⟨g, 0, none⟩) (l0 ++ [true]).length c) (l0 ++ [true]) ∧ Below w.heap.size w w' := by
  have HR0 := Aside0.mk hr0
  have HL := Aside0.mk hl
  obtain ⟨i0, hi0, _, hs0, _⟩ := info_parts info4
  have HI0 := Aside0.mk hi0
  clear hr0 hl hi0 hs0
  go_enter Try.func23, Try.ntmps23
  go_wp2_with (first
    | ((with_reducible refine gate_dst (N := 3) rfl ?_); refine Kd.R_lit Kd.bool _ 4 ?hg (N := 3) ?hd (xs := ([] : List Bool)) (inner := []) (ok := fun _ => True) (okp := fun _ => True) ?hr ?hp (fun _ hk => hk) trivial (Below.refl _ _) (Nat.le_refl _) (by simp) ?_; (case hd => rfl); (case hg => rfl); (case hr => first | (go_simp; done) | (go_simp; rfl)); (case hp => exact (Reps.none _ _));  intro v1 w1 ho hb hg_ hnew_; clear hg_ hnew_; have HO1 := Aside0.mk ho; have HB1 := Aside0.mk hb; clear ho hb)
    | ((with_reducible refine gate_builtin (b := .append) (xs := #[.tmp 3, .tmp 4]) rfl ?_); at_builtin; refine Kd.R_append_rows Kd.bool (w0 := w) w.heap.size rfl (.tmp 3) (.tmp 4) 22 4 (.bool false) 1 rfl Try.underlying22 info4 rfl (by decide) (by omega) v1 [] l0 _ _ _ (fun _ => True) (fun _ => False) rfl rfl ?aO ?aR (fun _ _ h => h) (fun _ h => h.elim) ?aF ?aB ?aS ?aL ?_; (case aR => exact Kd.C_below HR0.out HB1.out); (case aB => exact HB1.out); (case aF => exact (fun _ _ => trivial)); (case aO => exact HO1.out); (case aS => exact HB1.out.size); (case aL => have := HL.out; simp; omega);  intro v2 w2 ho hb hg hat; clear hg hat; have HO2 := Aside0.mk ho; have HB2 := Aside0.mk hb; clear ho hb)
    | ((with_reducible refine gate_dst (N := 6) rfl ?_); refine Kd.R_lit Kd.bool _ 4 ?hg (N := 6) ?hd (xs := ([true] : List Bool)) (inner := [.bool true]) (ok := fun _ => True) (okp := fun _ => True) ?hr ?hp (fun _ hk => hk) trivial (Below.refl _ _) (Nat.le_refl _) (by simp) ?_; (case hd => rfl); (case hg => rfl); (case hr => first | (go_simp; done) | (go_simp; rfl)); (case hp => exact (Reps.one (show Kd.M Kd.bool _ _ _ true [.bool true] from rfl) (Reps.none _ _)));  intro v3 w3 ho hb hg_ hnew_; clear hg_ hnew_; obtain ⟨A3, c3, rfl⟩ := Kd.R_slice ho; have HC3 := Aside0.mk (Kd.R_reads' ho).2.2; have HO3 := Aside0.mk (Kd.R_below HO2.out hb); have HB3 := Aside0.mk (below_step HB2.out hb); clear ho hb)
    | ((with_reducible refine gate_builtin (b := .append) (xs := #[.tmp 5, .tmp 6]) rfl ?_); at_builtin; refine Kd.R_append_rows Kd.bool (w0 := w) w.heap.size rfl (.tmp 5) (.tmp 6) 22 4 (.bool false) 1 rfl Try.underlying22 info4 rfl (by decide) (by omega) v2 ([] ++ l0) [true] _ _ _ (fun _ => True) (fun _ => False) rfl rfl ?aO ?aR (fun _ _ h => h) (fun _ h => h.elim) ?aF ?aB ?aS ?aL ?_; (case aR => exact HC3.out); (case aB => exact HB3.out); (case aF => exact (fun _ _ => trivial)); (case aO => exact HO3.out); (case aS => exact HB3.out.size); (case aL => have := HL.out; simp; omega);  intro v4 w4 ho hb hg hat; clear hg hat; obtain ⟨g4, c4, rfl, hb4, hg4, _⟩ := Kd.R_form ho (by simp); have HO4 := Aside0.mk ho; have HB4 := Aside0.mk hb; have HG4 := Aside0.mk (And.intro hb4 hg4); have hroom : l0.length ≤ c4 := (by have h9_ := (Kd.R_reads' ho).2.1; simp at h9_; omega); have HROOM := Aside0.mk (show l0.length + 1 ≤ c4 by have h9_ := (Kd.R_reads' ho).2.1; simp at h9_; omega); clear ho hb hb4 hg4))
  go_ret
  exact ⟨g4, c4, rfl, HROOM.out, HG4.out.1, HG4.out.2, HO4.out, HB4.out⟩
set_option maxHeartbeats 1000000 in
set_option maxRecDepth 100000 in
/-- What was lent stands as it was, and the mark. -/
theorem kept24_calls (g c1 : Nat) (A0 : Option Addr) (c0 : Nat) (l0 : List Bool) (w : World) (hr1 : Kd.C Kd.bool w (some ⟨g, 0, none⟩) (l0 ++ [true]).length (l0 ++ [true])) (hc1 : l0.length + 1 ≤ c1) (hr0 : Kd.C Kd.bool w A0 l0.length l0) (hc0 : l0.length ≤ c0) (hl : l0.length ≤ 140737488351232) :
    Calls Try.prog 27 #[.slice (some ⟨g, 0, none⟩) l0.length c1, .slice A0 l0.length c0] w fun e w' => e = .returned (.bool true) ∧ Below w.heap.size w w' := by
  obtain ⟨k, hk⟩ := (Crc.same_rfl l0 (by omega)).rounds
  have hrt : Kd.C Kd.bool w (some ⟨g, 0, none⟩) l0.length l0 := by
    have h := Kd.C_take (m := l0.length) hr1 (by simp)
    simpa using h
  obtain ⟨ad, e, hcell⟩ := Kd.at_bool hr1 (l0.length : Int) (by omega) (by simp; omega)
  obtain rfl : ad = ⟨g, 0, none⟩ := (Option.some.inj e).symm
  have hv : rdOf false (l0 ++ [true]) (l0.length : Int) = true := by simp [rdOf, List.getD_eq_getElem?_getD]
  rw [hv, Int.toNat_natCast] at hcell
  have HK := Aside0.mk hk
  have HT := Aside0.mk hrt
  have HR0 := Aside0.mk hr0
  have HC := Aside0.mk hcell
  obtain ⟨i0, hi0, _, hs0, _⟩ := info_parts info4
  clear hr1 hr0 hk hrt hv e hcell
  have hroom : (l0.length : Int) + 1 ≤ (c1 : Int) := by omega
  go_enter Try.func27, Try.ntmps27
  go_wp2_with (go_at_call 43; (with_reducible refine (foghornref24_Same.calls _ _ _ _ _ _ _ _ _ HT.out (by omega) HR0.out hc0 HK.out).mono ?_); rintro e w1 ⟨rfl, ⟨nd, rfl⟩⟩; have hcell : (w.drewN nd).cell? ((⟨g, 0, none⟩ : Addr).add l0.length) = some (.bool true) := HC.out; rw [add_plain] at hcell)
  go_ret
  exact ⟨rfl, pw_below_drewN (Below.refl _ _) _⟩
end Go.Proofs.Ytjnedgkpakoceaa.Fog
