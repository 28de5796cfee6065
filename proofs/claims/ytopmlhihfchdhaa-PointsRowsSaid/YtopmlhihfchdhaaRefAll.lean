/- The reference's lists of points. -/
import Derived.Test.YtopmlhihfchdhaaFogx0
import Derived.Test.YtopmlhihfchdhaaFogx2
import Derived.Test.YtopmlhihfchdhaaPts
namespace Go.Proofs.Ytopmlhihfchdhaa.Pure
open Go.RowKit Go.Proofs.Ytopmlhihfchdhaa.Fog Go.Proofs.YtopmlhihfchdhaaW.PrintWords Go.Proofs.YtopmlhihfchdhaaW.PrintLast Go.Proofs.YtopmlhihfchdhaaW.PrintMore Go.Proofs.Ytopmlhihfchdhaa.Kit
set_option linter.unusedVariables false
set_option linter.unusedSimpArgs false
set_option maxHeartbeats 2000000 in
set_option maxRecDepth 100000 in
theorem number_calls (x y : Int) (w : World) : Calls Try.prog 43 #[.agg #[.int .i64 x, .int .i64 y]] w fun r w' => r = .returned (.complex .f64 (fI x) (fI y)) ∧ Below w.heap.size w w' := by
  go_enter Try.func43, Try.ntmps43
  go_wp2
  go_ret
  exact ⟨rfl, (Below.refl _ _).alloc (Nat.le_refl _) _⟩
theorem pt65_at {w : World} {A : Option Addr} {n N : Nat} (h : Kd.C k65 w A n (ptsL N)) (k : Nat) (hk : k < n) (hN : k < N) : ∃ ad , A = some ad ∧ w.cell? (ad.add (k * 2)) = some (.int .i64 (ptP N k).1) ∧ w.cell? ⟨(ad.add (k * 2)).block, (ad.add (k * 2)).off + 1, none⟩ = some (.int .i64 (ptP N k).2) := by
  obtain ⟨ad, h1, h2, h3⟩ := at_T65 h (k : Int) (by omega) (by omega)
  have e : rd_T65 (ptsL N) (k : Int) = ⟨(ptP N k).1, (ptP N k).2⟩ := ptsL_get N k hN
  rw [e, Int.toNat_natCast] at h2 h3
  exact ⟨ad, h1, h2, h3⟩
set_option maxHeartbeats 4000000 in
set_option maxRecDepth 100000 in
theorem refall_any (n : Nat) (h : isSz n) (w : World) : Calls Try.prog 14 #[.int .i64 (n : Int)] w fun r w' => ∃ v, r = .returned (.tuple #[v, .int .i64 0]) ∧ Kd.R KC 31 w' w.heap.size (fun _ => True) v (zt n n) ∧ Below w.heap.size w w' := by
  have HP := Aside0.mk (fun w => foghornref04_Points.calls 1200 (n : Int) _ _ w (pts_any n h))
  have HN := Aside0.mk (sz_le h).2
  clear h
  go_enter Try.func14, Try.ntmps14
  go_wp2_with (go_at_call 42; (with_reducible refine (HP.out _).mono ?_); rintro r1 w1 ⟨v0, rfl, hR, hb⟩; (obtain ⟨A, c, rfl⟩ := Kd.R_slice hR); (have HB1 := Aside0.mk hb); (have hcc := (Kd.R_reads' hR).2.2); (have hgg := (Kd.R_reads' hR).2.1); (rw [ptsL_length] at hcc hgg ⊢); (have HC := Aside0.mk hcc); clear hR hb hcc)
  go_loopw [6, 7] (fun v i wr => ∃ k : Nat, k ≤ n ∧ i = .int .i64 (k : Int) ∧ Aside0 (Kd.R KC 31 wr w1.heap.size (fun _ => True) v (zt n k)) ∧ Aside0 (Below w1.heap.size w1 wr)) (fun _ i _ => n - (intOf i).toNat)
  case atStart => exact ⟨0, Nat.zero_le _, rfl, Aside0.mk (Kd.R_nil _ _ _ _ _), Aside0.mk (Below.refl _ _)⟩
  case round =>
    obtain ⟨k, hk, rfl, HO, HB⟩ := hrel
    by_cases hlt : k < n
    · have q1 : (k : Int) < (n : Int) := by omega
      have q0 : (0 : Int) ≤ (k : Int) := by omega
      have hks : IntKind.i64.wrap ((k : Int) + 1) = (k : Int) + 1 := by rw [IntKind.wrap_i64]; have := HN.out; omega
      obtain ⟨ad, hA, k1, k2⟩ := pt65_at (Kd.C_below HC.out HB.out) k hlt hlt
      subst hA
      have HK := Aside0.mk hlt
      go_wp2_with (first
        | (go_at_call 43; (with_reducible refine (number_calls _ _ _).mono ?_); rintro r2 w2 ⟨rfl, hb⟩; (have HO2 := Aside0.mk (Kd.R_below HO.out hb)); (have HB2 := Aside0.mk (below_step HB.out hb)); clear hb)
        | ((with_reducible refine gate_builtin (b := .append) (xs := #[.tmp 19, .tmp 25]) rfl ?_); at_builtin; refine Kd.R_append KC (w0 := w1) w1.heap.size rfl (.tmp 19) (.tmp 25) 24 31 (.complex .f64 0 0) 16 rfl Try.underlying24 cxInfo rfl (by decide) (by omega) u6 (zt n k) (zAt n k) [.complex .f64 (zAt n k).1 (zAt n k).2] (fun _ => True) (fun _ => False) rfl rfl ?aP (fun _ hk => hk.elim) ?aF ?aO ?aB ?aS ?aL ?_; (case aP => exact rfl); (case aB => exact HB2.out); (case aF => exact (fun _ _ => trivial)); (case aO => exact HO2.out); (case aS => exact HB2.out.size); (case aL => rw [zt_length]; (have := HN.out); (have := HK.out); omega); intro v3 w3 ho hb_ hg_ hat; clear hg_ hat; (rw [← zt_succ] at ho); (have HO4 := Aside0.mk ho); (have HB4 := Aside0.mk hb_); clear ho hb_))
      exact ⟨⟨k + 1, hlt, by go_num, HO4, HB4⟩, by show n - ((k : Int) + 1).toNat < n - (k : Int).toNat; omega⟩
    · obtain rfl : k = n := by omega
      have HB1' := HB1.out
      go_wp2
      go_ret2
      exact ⟨_, rfl, Kd.R_lower HO.out HB1'.size, below_step HB1' HB.out⟩
set_option maxHeartbeats 4000000 in
set_option maxRecDepth 100000 in
theorem refall_no (n : Int) (h : noSz n) (w : World) : Calls Try.prog 14 #[.int .i64 n] w fun r w' => r = .returned (.tuple #[.slice none 0 0, .int .i64 1]) ∧ Below w.heap.size w w' := by
  have HP := Aside0.mk (fun w => foghornref04_Points.calls 1200 n _ _ w (pts_no n h))
  clear h
  go_enter Try.func14, Try.ntmps14
  go_wp2_with (go_at_call 42; (with_reducible refine (HP.out _).mono ?_); rintro r1 w1 ⟨v0, rfl, hR, hb⟩; (obtain ⟨A, c, rfl⟩ := Kd.R_slice hR); (have HB1 := Aside0.mk hb); (simp only [List.length_nil] at hR ⊢); clear hR hb)
  go_loopw [6, 7] (fun v i wr => v = .slice none 0 0 ∧ i = .int .i64 0 ∧ wr = w1) (fun _ i _ => (intOf i).toNat)
  case atStart => exact ⟨rfl, rfl, by first | rfl | trivial⟩
  case round =>
    obtain ⟨rfl, rfl, rfl⟩ := hrel
    go_wp2
    go_ret2
    exact ⟨rfl, HB1.out⟩
end Go.Proofs.Ytopmlhihfchdhaa.Pure
