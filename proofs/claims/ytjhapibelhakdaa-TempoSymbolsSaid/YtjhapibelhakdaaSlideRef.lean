/- The reference's Slide; what both refuse. -/
import Derived.Test.YtjhapibelhakdaaFogx0
import Derived.Test.YtjhapibelhakdaaSlide
namespace Go.Proofs.Ytjhapibelhakdaa.Pure
open Go.RowKit Go.Proofs.Ytjhapibelhakdaa.Fog Go.Proofs.YtjhapibelhakdaaW.PrintWords Go.Proofs.YtjhapibelhakdaaW.PrintLast Go.Proofs.YtjhapibelhakdaaW.PrintMore Go.Proofs.Ytjhapibelhakdaa.Kit
set_option linter.unusedVariables false
set_option linter.unusedSimpArgs false
/-- May it be slid so? -/
def maySlide (n p b : Int) : Prop := n ≤ 65536 ∧ 0 ≤ p ∧ p ≤ n ∧ -1024 ≤ b ∧ b ≤ 1024 ∧ -b ≤ n - p ∧ n + b ≤ 65536
set_option maxHeartbeats 4000000 in
set_option maxRecDepth 100000 in
theorem slide_err (A : Option Addr) (n c : Nat) (p b : Int) (w : World) (hb : b < 9223372036854775808) (h : ¬ maySlide n p b) :
    Calls Try.prog 19 #[.slice A n c, .int .i64 p, .int .i64 b] w fun e w' => e = .returned (.tuple #[.slice none 0 0, .int .i64 1]) ∧ Below w.heap.size w w' := by
  unfold maySlide at h
  have i1 : -1024 ≤ b → IntKind.i64.wrap (-b) = -b := fun _ => by rw [IntKind.wrap_i64]; omega
  have i2 : (n : Int) ≤ 65536 → 0 ≤ p → p ≤ n → IntKind.i64.wrap ((n : Int) - p) = (n : Int) - p := fun _ _ _ => by rw [IntKind.wrap_i64]; omega
  have i3 : (n : Int) ≤ 65536 → -1024 ≤ b → b ≤ 1024 → IntKind.i64.wrap ((n : Int) + b) = (n : Int) + b := fun _ _ _ => by rw [IntKind.wrap_i64]; omega
  by_cases c1 : (65536 : Int) < (n : Int)
  · clear i1 i2 i3 h
    go_enter Try.func19, Try.ntmps19
    go_wp2
    go_ret2
    exact ⟨rfl, Below.refl _ _⟩
  by_cases c2 : p < 0
  · clear i1 i2 i3 h
    go_enter Try.func19, Try.ntmps19
    go_wp2
    go_ret2
    exact ⟨rfl, Below.refl _ _⟩
  by_cases c3 : (n : Int) < p
  · clear i1 i2 i3 h
    go_enter Try.func19, Try.ntmps19
    go_wp2
    go_ret2
    exact ⟨rfl, Below.refl _ _⟩
  by_cases c4 : b < -1024
  · clear i1 i2 i3 h
    go_enter Try.func19, Try.ntmps19
    go_wp2
    go_ret2
    exact ⟨rfl, Below.refl _ _⟩
  by_cases c5 : (1024 : Int) < b
  · clear i1 i2 i3 h
    go_enter Try.func19, Try.ntmps19
    go_wp2
    go_ret2
    exact ⟨rfl, Below.refl _ _⟩
  replace i1 := i1 (by omega)
  replace i2 := i2 (by omega) (by omega) (by omega)
  replace i3 := i3 (by omega) (by omega) (by omega)
  by_cases c6 : (n : Int) - p < -b
  · clear h
    go_enter Try.func19, Try.ntmps19
    go_wp2
    go_ret2
    exact ⟨rfl, Below.refl _ _⟩
  have c7 : (65536 : Int) < (n : Int) + b := by clear i1 i2 i3; omega
  clear h
  go_enter Try.func19, Try.ntmps19
  go_wp2
  go_ret2
  exact ⟨rfl, Below.refl _ _⟩
set_option maxHeartbeats 4000000 in
set_option maxRecDepth 100000 in
theorem refslide_err (A : Option Addr) (n c : Nat) (p b : Int) (w : World) (hb : b < 9223372036854775808) (h : ¬ maySlide n p b) :
    Calls Try.prog 22 #[.slice A n c, .int .i64 p, .int .i64 b] w fun e w' => e = .returned (.tuple #[.slice none 0 0, .int .i64 1]) ∧ Below w.heap.size w w' := by
  unfold maySlide at h
  have i1 : -1024 ≤ b → IntKind.i64.wrap (-b) = -b := fun _ => by rw [IntKind.wrap_i64]; omega
  have i2 : (n : Int) ≤ 65536 → 0 ≤ p → p ≤ n → IntKind.i64.wrap ((n : Int) - p) = (n : Int) - p := fun _ _ _ => by rw [IntKind.wrap_i64]; omega
  have i3 : (n : Int) ≤ 65536 → -1024 ≤ b → b ≤ 1024 → IntKind.i64.wrap ((n : Int) + b) = (n : Int) + b := fun _ _ _ => by rw [IntKind.wrap_i64]; omega
  by_cases c1 : (65536 : Int) < (n : Int)
  · clear i1 i2 i3 h
    go_enter Try.func22, Try.ntmps22
    go_wp2
    go_ret2
    exact ⟨rfl, Below.refl _ _⟩
  by_cases c2 : p < 0
  · clear i1 i2 i3 h
    go_enter Try.func22, Try.ntmps22
    go_wp2
    go_ret2
    exact ⟨rfl, Below.refl _ _⟩
  by_cases c3 : (n : Int) < p
  · clear i1 i2 i3 h
    go_enter Try.func22, Try.ntmps22
    go_wp2
    go_ret2
    exact ⟨rfl, Below.refl _ _⟩
  by_cases c4 : b < -1024
  · clear i1 i2 i3 h
    go_enter Try.func22, Try.ntmps22
    go_wp2
    go_ret2
    exact ⟨rfl, Below.refl _ _⟩
  by_cases c5 : (1024 : Int) < b
  · clear i1 i2 i3 h
    go_enter Try.func22, Try.ntmps22
    go_wp2
    go_ret2
    exact ⟨rfl, Below.refl _ _⟩
  replace i1 := i1 (by omega)
  replace i2 := i2 (by omega) (by omega) (by omega)
  replace i3 := i3 (by omega) (by omega) (by omega)
  by_cases c6 : (n : Int) - p < -b
  · have c8 : b < 0 := by omega
    clear h
    go_enter Try.func22, Try.ntmps22
    go_wp2
    go_ret2
    exact ⟨rfl, Below.refl _ _⟩
  have c7 : (65536 : Int) < (n : Int) + b := by clear i1 i2 i3; omega
  clear h
  by_cases c8 : b < 0
  all_goals
    go_enter Try.func22, Try.ntmps22
    go_wp2
    go_ret2
    exact ⟨rfl, Below.refl _ _⟩
set_option maxHeartbeats 4000000 in
set_option maxRecDepth 100000 in
theorem refslide_calls (A : Option Addr) (n c p d q : Nat) (b : Int) (l : List Smp) (w : World) (hl : l.length = n) (h : Kd.C KS w A n l) (hc : n ≤ c) (hm : maySlide n p b) (hd : (d : Int) = max b 0) (hq : (q : Int) = p + max (-b) 0) :
    Calls Try.prog 22 #[.slice A n c, .int .i64 (p : Int), .int .i64 b] w fun e w' => ∃ v, e = .returned (.tuple #[v, .int .i64 0]) ∧ Kd.R KS 43 w' w.heap.size (fun _ => True) v (l.take p ++ List.replicate d lostS ++ l.drop q) ∧ Below w.heap.size w w' := by
  obtain ⟨m1, m2, m3, m4, m5, m6, m7⟩ := hm
  have hpn : p ≤ n := by omega
  have hqn : q ≤ n := by omega
  have HLEN := Aside0.mk (show l.length ≤ 65536 ∧ d ≤ 1024 by omega)
  have HC1 := Aside0.mk (smpC_take h p hpn)
  have HC2a := smpC_drop h q hqn hc
  have HB0 := Aside0.mk (Below.refl w.heap.size w)
  have q1 : ¬ (65536 : Int) < (n : Int) := by omega
  have q0 : ¬ (p : Int) < 0 := by omega
  have q2 : ¬ (n : Int) < (p : Int) := by omega
  have q3 : ¬ b < -1024 := by omega
  have q4 : ¬ (1024 : Int) < b := by omega
  have w1 : IntKind.i64.wrap (-b) = -b := by rw [IntKind.wrap_i64]; omega
  have w2 : IntKind.i64.wrap ((n : Int) - (p : Int)) = (n : Int) - (p : Int) := by rw [IntKind.wrap_i64]; omega
  have q5 : ¬ (n : Int) - (p : Int) < -b := by omega
  have w3 : IntKind.i64.wrap ((n : Int) + b) = (n : Int) + b := by rw [IntKind.wrap_i64]; omega
  have q6 : ¬ (65536 : Int) < (n : Int) + b := by omega
  have b1 : (p : Int) ≤ (c : Int) := by omega
  have b1n : p ≤ c := by omega
  have b2 : (q : Int) ≤ (n : Int) := by omega
  have b3 : n - q ≤ c - q := by omega
  have hneg : b < 0 → IntKind.i64.wrap ((p : Int) - b) = (q : Int) := fun _ => by rw [IntKind.wrap_i64]; omega
  have hpos : ¬ b < 0 → p = q ∧ b = (d : Int) := by omega
  have hng2 : b < 0 → d = 0 := by omega
  have HD := Aside0.mk (And.intro hpos (And.intro hneg hng2))
  clear m1 m2 m3 m4 m5 m6 m7 h hl hd hq hpos hneg hng2 hpn
  by_cases hbn : b < 0
  · have hw := HD.out.2.1 hbn
    have hd0 := HD.out.2.2 hbn
    subst hd0
    go_enter Try.func22, Try.ntmps22
    go_wp2_with (at_builtin; refine Kd.R_append_rows KS (w0 := w) w.heap.size rfl (.tmp 51) (.tmp 54) 35 43 (.agg #[.complex .f64 0 0, .bool false]) 24 rfl Try.underlying35 sampleInfo rfl (by decide) (by omega) (.slice none 0 0) [] (l.take p) _ _ _ (fun _ => True) (fun _ => False) rfl rfl ?aO ?aR (fun _ _ h => h) (fun _ h => h.elim) ?aF ?aB ?aS ?aL ?_; (case aR => exact HC1.out); (case aB => exact HB0.out); (case aF => exact (fun _ _ => trivial)); (case aO => exact Kd.R_nil _ _ _ _ _); (case aS => exact HB0.out.size); (case aL => have h9 := HLEN.out; simp only [List.length_nil, List.length_take]; omega); intro v1 w1 ho hb_ hg hat; clear hg hat; (rw [List.nil_append] at ho); (have HO1 := Aside0.mk ho); (have HB1 := Aside0.mk hb_); clear ho hb_)
    go_loopw [8, 9] (fun v i wr => ∃ k : Nat, k ≤ 0 ∧ i = .int .i64 (k : Int) ∧ Aside0 (Kd.R KS 43 wr w.heap.size (fun _ => True) v (l.take p ++ List.replicate k lostS)) ∧ Aside0 (Below w.heap.size w wr)) (fun _ i _ => 0 - (intOf i).toNat)
    case atStart => exact ⟨0, Nat.zero_le _, rfl, ⟨by rw [List.replicate_zero, List.append_nil]; exact HO1.out⟩, HB1⟩
    case round =>
      obtain ⟨k, hk, rfl, HO, HB⟩ := hrel
      obtain rfl : k = 0 := by omega
      have q8 : ¬ (0 : Int) < b := by omega
      by_cases hcq : c = q
      · have hnq : n = q := by omega
        rw [if_pos hcq, show n - q = 0 by omega] at HC2a
        have HC2 := Aside0.mk HC2a
        clear HC2a
        subst hnq
        subst hcq
        go_wp2_with (at_builtin; refine Kd.R_append_rows KS (w0 := w) w.heap.size rfl (.tmp 70) (.tmp 73) 35 43 (.agg #[.complex .f64 0 0, .bool false]) 24 rfl Try.underlying35 sampleInfo rfl (by decide) (by omega) u8 (l.take p ++ List.replicate 0 lostS) (l.drop c) _ _ _ (fun _ => True) (fun _ => False) rfl rfl ?aO ?aR (fun _ _ h => h) (fun _ h => h.elim) ?aF ?aB ?aS ?aL ?_; (case aR => exact Kd.C_below HC2.out HB.out); (case aB => exact HB.out); (case aF => exact (fun _ _ => trivial)); (case aO => exact HO.out); (case aS => exact HB.out.size); (case aL => have h9 := HLEN.out; simp only [List.length_append, List.length_take, List.length_replicate, List.length_drop]; omega); intro v1 w1 ho hb_ hg hat; clear hg hat; (have HO5 := Aside0.mk ho); (have HB5 := Aside0.mk hb_); clear ho hb_)
        go_ret2
        exact ⟨_, rfl, (by first | exact HO5.out | simpa using HO5.out), HB5.out⟩
      · rw [if_neg hcq] at HC2a
        have HC2 := Aside0.mk HC2a
        clear HC2a
        go_wp2_with (at_builtin; refine Kd.R_append_rows KS (w0 := w) w.heap.size rfl (.tmp 70) (.tmp 73) 35 43 (.agg #[.complex .f64 0 0, .bool false]) 24 rfl Try.underlying35 sampleInfo rfl (by decide) (by omega) u8 (l.take p ++ List.replicate 0 lostS) (l.drop q) _ _ _ (fun _ => True) (fun _ => False) rfl rfl ?aO ?aR (fun _ _ h => h) (fun _ h => h.elim) ?aF ?aB ?aS ?aL ?_; (case aR => exact Kd.C_below HC2.out HB.out); (case aB => exact HB.out); (case aF => exact (fun _ _ => trivial)); (case aO => exact HO.out); (case aS => exact HB.out.size); (case aL => have h9 := HLEN.out; simp only [List.length_append, List.length_take, List.length_replicate, List.length_drop]; omega); intro v1 w1 ho hb_ hg hat; clear hg hat; (have HO5 := Aside0.mk ho); (have HB5 := Aside0.mk hb_); clear ho hb_)
        go_ret2
        exact ⟨_, rfl, (by first | exact HO5.out | simpa using HO5.out), HB5.out⟩
  · obtain ⟨hpq, hbd⟩ := HD.out.1 hbn
    subst hpq
    subst hbd
    go_enter Try.func22, Try.ntmps22
    go_wp2_with (at_builtin; refine Kd.R_append_rows KS (w0 := w) w.heap.size rfl (.tmp 51) (.tmp 54) 35 43 (.agg #[.complex .f64 0 0, .bool false]) 24 rfl Try.underlying35 sampleInfo rfl (by decide) (by omega) (.slice none 0 0) [] (l.take p) _ _ _ (fun _ => True) (fun _ => False) rfl rfl ?aO ?aR (fun _ _ h => h) (fun _ h => h.elim) ?aF ?aB ?aS ?aL ?_; (case aR => exact HC1.out); (case aB => exact HB0.out); (case aF => exact (fun _ _ => trivial)); (case aO => exact Kd.R_nil _ _ _ _ _); (case aS => exact HB0.out.size); (case aL => have h9 := HLEN.out; simp only [List.length_nil, List.length_take]; omega); intro v1 w1 ho hb_ hg hat; clear hg hat; (rw [List.nil_append] at ho); (have HO1 := Aside0.mk ho); (have HB1 := Aside0.mk hb_); clear ho hb_)
    go_loopw [8, 9] (fun v i wr => ∃ k : Nat, k ≤ d ∧ i = .int .i64 (k : Int) ∧ Aside0 (Kd.R KS 43 wr w.heap.size (fun _ => True) v (l.take p ++ List.replicate k lostS)) ∧ Aside0 (Below w.heap.size w wr)) (fun _ i _ => d - (intOf i).toNat)
    case atStart => exact ⟨0, Nat.zero_le _, rfl, ⟨by rw [List.replicate_zero, List.append_nil]; exact HO1.out⟩, HB1⟩
    case round =>
      obtain ⟨k, hk, rfl, HO, HB⟩ := hrel
      by_cases hlt : k < d
      · have q8 : (k : Int) < (d : Int) := by omega
        have hks : IntKind.i64.wrap ((k : Int) + 1) = (k : Int) + 1 := by rw [IntKind.wrap_i64]; omega
        go_wp2_with ((with_reducible refine gate_builtin (b := .append) (xs := #[.tmp 61, .tmp 63]) rfl ?_); at_builtin; refine Kd.R_append KS (w0 := w) w.heap.size rfl (.tmp 61) (.tmp 63) 35 43 (.agg #[.complex .f64 0 0, .bool false]) 24 rfl Try.underlying35 sampleInfo rfl (by decide) (by omega) u8 (l.take p ++ List.replicate k lostS) lostS [.complex .f64 0 0, .bool true] (fun _ => True) (fun _ => False) rfl rfl ?aP (fun _ hk => hk.elim) ?aF ?aO ?aB ?aS ?aL ?_; (case aP => exact ⟨[.complex .f64 0 0], [.bool true], rfl, rfl, rfl⟩); (case aB => exact HB.out); (case aF => exact (fun _ _ => trivial)); (case aO => exact HO.out); (case aS => exact HB.out.size); (case aL => have h9 := HLEN.out; simp only [List.length_append, List.length_take, List.length_replicate]; omega); intro v3 w3 ho hb_ hg_ hat; clear hg_ hat; (rw [List.append_assoc, ← List.replicate_succ'] at ho); (have HO4 := Aside0.mk ho); (have HB4 := Aside0.mk hb_); clear ho hb_)
        exact ⟨⟨k + 1, hlt, by go_num, HO4, HB4⟩, by show d - ((k : Int) + 1).toNat < d - (k : Int).toNat; omega⟩
      · have hkd : k = d := by omega
        subst hkd
        by_cases hcq : c = p
        · have hnq : n = p := by omega
          rw [if_pos hcq, show n - p = 0 by omega] at HC2a
          have HC2 := Aside0.mk HC2a
          clear HC2a
          subst hnq
          subst hcq
          go_wp2_with (at_builtin; refine Kd.R_append_rows KS (w0 := w) w.heap.size rfl (.tmp 70) (.tmp 73) 35 43 (.agg #[.complex .f64 0 0, .bool false]) 24 rfl Try.underlying35 sampleInfo rfl (by decide) (by omega) u8 (l.take c ++ List.replicate k lostS) (l.drop c) _ _ _ (fun _ => True) (fun _ => False) rfl rfl ?aO ?aR (fun _ _ h => h) (fun _ h => h.elim) ?aF ?aB ?aS ?aL ?_; (case aR => exact Kd.C_below HC2.out HB.out); (case aB => exact HB.out); (case aF => exact (fun _ _ => trivial)); (case aO => exact HO.out); (case aS => exact HB.out.size); (case aL => have h9 := HLEN.out; simp only [List.length_append, List.length_take, List.length_replicate, List.length_drop]; omega); intro v1 w1 ho hb_ hg hat; clear hg hat; (have HO5 := Aside0.mk ho); (have HB5 := Aside0.mk hb_); clear ho hb_)
          go_ret2
          exact ⟨_, rfl, (by first | exact HO5.out | simpa using HO5.out), HB5.out⟩
        · rw [if_neg hcq] at HC2a
          have HC2 := Aside0.mk HC2a
          clear HC2a
          go_wp2_with (at_builtin; refine Kd.R_append_rows KS (w0 := w) w.heap.size rfl (.tmp 70) (.tmp 73) 35 43 (.agg #[.complex .f64 0 0, .bool false]) 24 rfl Try.underlying35 sampleInfo rfl (by decide) (by omega) u8 (l.take p ++ List.replicate k lostS) (l.drop p) _ _ _ (fun _ => True) (fun _ => False) rfl rfl ?aO ?aR (fun _ _ h => h) (fun _ h => h.elim) ?aF ?aB ?aS ?aL ?_; (case aR => exact Kd.C_below HC2.out HB.out); (case aB => exact HB.out); (case aF => exact (fun _ _ => trivial)); (case aO => exact HO.out); (case aS => exact HB.out.size); (case aL => have h9 := HLEN.out; simp only [List.length_append, List.length_take, List.length_replicate, List.length_drop]; omega); intro v1 w1 ho hb_ hg hat; clear hg hat; (have HO5 := Aside0.mk ho); (have HB5 := Aside0.mk hb_); clear ho hb_)
          go_ret2
          exact ⟨_, rfl, (by first | exact HO5.out | simpa using HO5.out), HB5.out⟩
end Go.Proofs.Ytjhapibelhakdaa.Pure
