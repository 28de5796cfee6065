/- A row of samples lent, with a mark behind it; two equal rows; kept. -/
import Derived.Test.YtjhapibelhakdaaFogx0
import Derived.Test.YtjhapibelhakdaaSamples
namespace Go.Proofs.Ytjhapibelhakdaa.Pure
open Go.RowKit Go.Proofs.Ytjhapibelhakdaa.Fog Go.Proofs.YtjhapibelhakdaaW.PrintWords Go.Proofs.YtjhapibelhakdaaW.PrintLast Go.Proofs.YtjhapibelhakdaaW.PrintMore Go.Proofs.Ytjhapibelhakdaa.Kit
set_option linter.unusedVariables false
set_option linter.unusedSimpArgs false
def mkS : Smp := ((0, 4635118810238550016), false)
set_option maxHeartbeats 2000000 in
set_option maxRecDepth 100000 in
theorem lent_calls (A0 : Option Addr) (c0 n : Nat) (l0 : List Smp) (w : World) (hln : l0.length = n) (hr0 : Kd.C KS w A0 n l0) (hc0 : n ≤ c0) (hl : n * 24 ≤ 140737488351232) :
    Calls Try.prog 16 #[.slice A0 n c0] w fun e w' => ∃ g c : Nat, e = .returned (.slice (some ⟨g, 0, none⟩) n c) ∧ n + 1 ≤ c ∧ w.heap.size ≤ g ∧ g < w'.heap.size ∧ Kd.R KS 43 w' w.heap.size (fun _ => True) (.slice (some ⟨g, 0, none⟩) (n + 1) c) (l0 ++ [mkS]) ∧ Below w.heap.size w w' := by
  have HR0 := Aside0.mk hr0
  have HL := Aside0.mk hl
  have HLN := Aside0.mk hln
  clear hr0 hl hln
  go_enter Try.func16, Try.ntmps16
  go_wp2_with (first
    | ((with_reducible refine gate_dst (N := 3) rfl ?_); refine Kd.R_lit KS _ 43 ?hg (N := 3) ?hd (xs := ([] : List Smp)) (inner := []) (ok := fun _ => True) (okp := fun _ => True) ?hr ?hp (fun _ hk => hk) trivial (Below.refl _ _) (Nat.le_refl _) (by simp) ?_; (case hd => rfl); (case hg => rfl); (case hr => first | (go_simp; done) | (go_simp; rfl)); (case hp => exact (Reps.none _ _)); intro v1 w1 ho hb hg_ hnew_; clear hg_ hnew_; have HO1 := Aside0.mk ho; have HB1 := Aside0.mk hb; clear ho hb)
    | ((with_reducible refine gate_builtin (b := .append) (xs := #[.tmp 3, .tmp 4]) rfl ?_); at_builtin; (refine Kd.R_append_rows KS (w0 := w) w.heap.size rfl (.tmp 3) (.tmp 4) 35 43 (.agg #[.complex .f64 0 0, .bool false]) 24 rfl Try.underlying35 sampleInfo rfl (by decide) (by omega) v1 [] l0 _ _ _ (fun _ => True) (fun _ => False) rfl rfl ?aO ?aR (fun _ _ h => h) (fun _ h => h.elim) ?aF ?aB ?aS ?aL ?_); (case aR => first | exact Kd.C_below HR0.out HB1.out | (rw [HLN.out]; exact Kd.C_below HR0.out HB1.out)); (case aB => exact HB1.out); (case aF => exact (fun _ _ => trivial)); (case aO => exact HO1.out); (case aS => exact HB1.out.size); (case aL => have h1 := HL.out; have h2 := HLN.out; simp; omega); intro v2 w2 ho hb hg hat; clear hg hat; have HO2 := Aside0.mk ho; have HB2 := Aside0.mk hb; clear ho hb)
    | ((with_reducible refine gate_builtin (b := .append) (xs := #[.tmp 5, .tmp 7]) rfl ?_); at_builtin; refine Kd.R_append KS (w0 := w) w.heap.size rfl (.tmp 5) (.tmp 7) 35 43 (.agg #[.complex .f64 0 0, .bool false]) 24 rfl Try.underlying35 sampleInfo rfl (by decide) (by omega) v2 ([] ++ l0) mkS [.complex .f64 0 4635118810238550016, .bool false] (fun _ => True) (fun _ => False) rfl rfl ?aP (fun _ hk => hk.elim) ?aF ?aO ?aB ?aS ?aL ?_; (case aP => exact ⟨[.complex .f64 0 4635118810238550016], [.bool false], rfl, rfl, rfl⟩); (case aB => exact HB2.out); (case aF => exact (fun _ _ => trivial)); (case aO => exact HO2.out); (case aS => exact HB2.out.size); (case aL => have h1 := HL.out; have h2 := HLN.out; simp; omega); intro v3 w3 ho hb hg_ hat; clear hg_ hat; (obtain ⟨g4, c4, hv, hb4, hg4, _⟩ := Kd.R_form ho (by simp)); (rw [show (([] : List Smp) ++ l0 ++ [mkS]).length = n + 1 from by have h9 := HLN.out; simp [h9]] at hv); subst hv; (have hrd := (Kd.R_reads' ho).2.1); (have HO4 := Aside0.mk ho); (have HB4 := Aside0.mk hb); (have HG4 := Aside0.mk (And.intro hb4 hg4)); (have hroom : (n : Int) ≤ (c4 : Int) := by have h9 := HLN.out; (try simp at hrd); omega); (have hroom2 : n ≤ c4 := by omega); (have HROOM := Aside0.mk (show n + 1 ≤ c4 by have h9 := HLN.out; (try simp at hrd); omega)); clear ho hb hb4 hg4 hrd))
  go_ret
  exact ⟨g4, c4, rfl, HROOM.out, HG4.out.1, HG4.out.2, HO4.out, HB4.out⟩
set_option maxHeartbeats 1000000 in
set_option maxRecDepth 100000 in
theorem part_self (x : Nat) (w : World) :
    Calls Try.prog 47 #[.float .f64 x, .float .f64 x, .bool false] w fun e w' => e = .returned (.bool true) ∧ ∃ d, w' = w.drewN d := by
  go_enter Try.func47, Try.ntmps47
  by_cases hx : FloatKind.f64.format.order x x = some Ordering.eq
  · have h1 : (FloatKind.f64.format.order x x != some Ordering.eq) = false := by rw [hx]; rfl
    have h2 : (FloatKind.f64.format.order x x == some Ordering.eq) = true := by rw [hx]; rfl
    go_wp2
    go_ret
    exact ⟨rfl, 0, rfl⟩
  · have h1 : (FloatKind.f64.format.order x x != some Ordering.eq) = true := by simpa using hx
    go_wp2
    go_ret
    exact ⟨rfl, 0, rfl⟩
set_option maxHeartbeats 1000000 in
set_option maxRecDepth 100000 in
theorem sameC_self (x y : Nat) (w : World) :
    Calls Try.prog 38 #[.complex .f64 x y, .complex .f64 x y, .bool false] w fun e w' => e = .returned (.bool true) ∧ ∃ d, w' = w.drewN d := by
  go_enter Try.func38, Try.ntmps38
  go_wp2_with (go_at_call 47; (first | with_reducible refine (part_self x _).mono ?_ | with_reducible refine (part_self y _).mono ?_); rintro e w1 ⟨rfl, d, rfl⟩)
  go_ret
  exact ⟨rfl, _, by first | rfl | exact (World.drewN_drewN _ _ _)⟩
set_option maxHeartbeats 2000000 in
set_option maxRecDepth 100000 in
theorem same_self (A B : Option Addr) (ca cb n : Nat) (l : List Smp) (w : World) (hln : l.length = n) (ha : Kd.C KS w A n l) (hb : Kd.C KS w B n l) (hn : n < 140737488355000) :
    Calls Try.prog 23 #[.slice A n ca, .slice B n cb] w fun e w' => e = .returned (.bool true) ∧ ∃ d, w' = w.drewN d := by
  have HA := Aside0.mk ha
  have HBB := Aside0.mk hb
  have HN := Aside0.mk hn
  clear ha hb hln
  go_enter Try.func23, Try.ntmps23
  go_wp2
  go_loopw [5] (fun i wr => ∃ k : Nat, k ≤ n ∧ i = .int .i64 (k : Int) ∧ Aside0 (∃ d, wr = w.drewN d)) (fun i _ => n - (intOf i).toNat)
  case atStart => exact ⟨0, Nat.zero_le _, rfl, ⟨0, rfl⟩⟩
  case round =>
    obtain ⟨k, hk, rfl, HW⟩ := hrel
    have hkn := HN.out
    by_cases hlt : k < n
    · have q1 : (k : Int) < (n : Int) := by omega
      have hks : IntKind.i64.wrap ((k : Int) + 1) = (k : Int) + 1 := by rw [IntKind.wrap_i64]; omega
      obtain ⟨m, hm⟩ := HW.out
      have hbw : Below w.heap.size w wr := hm ▸ pw_below_drewN (Below.refl _ _) m
      have HM := Aside0.mk hm
      obtain ⟨ad, hA, k1, k2⟩ := smp_at (Kd.C_below HA.out hbw) k hlt
      subst hA
      obtain ⟨bd, hB, k3, k4⟩ := smp_at (Kd.C_below HBB.out hbw) k hlt
      subst hB
      obtain ⟨x, hx⟩ : ∃ x, l.getD k s0 = x := ⟨_, rfl⟩
      rw [hx] at k1 k2 k3 k4
      obtain ⟨⟨x1, x2⟩, x3⟩ := x
      clear hx HW hm hbw
      cases x3 <;> (
        go_wp2
        go_quiet (first | (go_at_call 38; exact Calls.quiet_of (sameC_self x1 x2 _)))
        go_wp2
        go_roundw
        case rel => exact ⟨k + 1, hlt, by go_num, ⟨m + nq, by rw [HM.out, World.drewN_drewN]⟩⟩
        case measure => show n - ((k : Int) + 1).toNat < n - (k : Int).toNat; omega)
    · have hkN : k = n := by omega
      subst hkN
      go_wp2
      go_ret
      exact ⟨rfl, HW.out⟩
theorem add_zero_form (g k : Nat) : Addr.add ⟨g, 0, none⟩ k = ⟨g, k, none⟩ := by
  unfold Addr.add
  by_cases h : k = 0
  · subst h; simp
  · simp [h]
set_option maxHeartbeats 2000000 in
set_option maxRecDepth 100000 in
theorem kept_calls (g c n : Nat) (B : Option Addr) (cb : Nat) (l : List Smp) (w : World) (hln : l.length = n) (ha : Kd.C KS w (some ⟨g, 0, none⟩) (n + 1) (l ++ [mkS])) (hc : n + 1 ≤ c) (hb : Kd.C KS w B n l) (hn : n < 140737488355000) :
    Calls Try.prog 18 #[.slice (some ⟨g, 0, none⟩) n c, .slice B n cb] w fun e w' => e = .returned (.bool true) ∧ ∃ d, w' = w.drewN d := by
  have HA := Aside0.mk ha
  have HN := Aside0.mk hn
  have HS := Aside0.mk (same_self (some ⟨g, 0, none⟩) B c cb n l w hln (by have h := smpC_take ha n (by omega); rw [List.take_append_of_le_length (by omega), List.take_of_length_le (by omega)] at h; exact h) hb hn)
  have hg : (l ++ [mkS]).getD n s0 = mkS := by rw [List.getD_eq_getElem?_getD, List.getElem?_append_right (by omega), hln, Nat.sub_self]; rfl
  clear ha hb hln
  have i1 : IntKind.i64.wrap ((n : Int) + 1) = (n : Int) + 1 := by rw [IntKind.wrap_i64]; omega
  have q1 : (n : Int) + 1 ≤ (c : Int) := by omega
  have q2 : (n : Int) < (n : Int) + 1 := by omega
  have o1 : FloatKind.f64.format.order 0 0 = some Ordering.eq := by decide +kernel
  have o2 : FloatKind.f64.format.order 4635118810238550016 4635118810238550016 = some Ordering.eq := by decide +kernel
  go_enter Try.func18, Try.ntmps18
  go_wp2_with (go_at_call 23; refine HS.out.mono ?_; rintro e w1 ⟨rfl, d, hd⟩; (have HD := Aside0.mk hd); (obtain ⟨ad, hA, k1, k2⟩ := smp_at (Kd.C_below HA.out (show Below w.heap.size w w1 from hd ▸ pw_below_drewN (Below.refl _ _) d)) n (by omega)); (rw [hg] at k1); cases hA; (replace k1 : w1.cell? ⟨g, n * 2, none⟩ = some (.complex .f64 0 4635118810238550016) := by rw [add_zero_form] at k1; exact k1); clear k2 hd)
  go_ret
  exact ⟨rfl, _, HD.out⟩
end Go.Proofs.Ytjhapibelhakdaa.Pure
