/- The bits of points: the reference's. -/
import Derived.Test.YtopmlhihfchdhaaFogx0
import Derived.Test.YtopmlhihfchdhaaBack
import Derived.Test.YtopmlhihfchdhaaRefRow
namespace Go.Proofs.Ytopmlhihfchdhaa.Pure
open Go.RowKit Go.Proofs.Ytopmlhihfchdhaa.Fog Go.Proofs.YtopmlhihfchdhaaW.PrintWords Go.Proofs.YtopmlhihfchdhaaW.PrintLast Go.Proofs.YtopmlhihfchdhaaW.PrintMore Go.Proofs.Ytopmlhihfchdhaa.Kit
set_option linter.unusedVariables false
set_option linter.unusedSimpArgs false
theorem labV_at (n : Nat) (z : Nat × Nat) (k : Nat) (hk : k ≤ n) (h : ∀ j, j < k → hit n z j = false) (hh : k < n → hit n z k = true) : labV n z = k := by
  have hl := labV_le n z
  rcases Nat.lt_trichotomy (labV n z) k with h1 | h1 | h1
  · have := h _ h1
    rw [labV_yes n z (by omega)] at this
    cases this
  · exact h1
  · have h2 := labV_no n z k h1
    rw [hh (by omega)] at h2
    cases h2
set_option maxHeartbeats 4000000 in
set_option maxRecDepth 100000 in
theorem refbacklong (n bN : Nat) (h : isSz n) (hbb : szB n = (bN : Int)) (A : Option Addr) (c m : Nat) (w : World) (hm : 32768 < m ∨ (m ≤ 32768 ∧ 32768 < bN * m)) (hb8 : bN ≤ 8) :
    Calls Try.prog 35 #[.slice A m c, .int .i64 (n : Int)] w fun r w' => r = .returned (.tuple #[.slice none 0 0, .int .i64 1]) ∧ Below w.heap.size w w' := by
  have HO := Aside0.mk (fun w => refbits_c (n : Int) _ _ (refBits_any n h) w)
  rw [hbb] at HO
  clear hbb h
  rcases hm with hm | ⟨hm, hm2⟩
  · have q1 : (32768 : Int) < (m : Int) := by omega
    go_enter Try.func35, Try.ntmps35
    go_wp2_with (go_at_call 16; (with_reducible refine (HO.out _).mono ?_); rintro r1 w1 ⟨rfl, hb⟩; (have HB1 := Aside0.mk hb); clear hb)
    go_ret2
    exact ⟨rfl, HB1.out⟩
  · have q1 : (m : Int) ≤ 32768 := by omega
    obtain ⟨M, hM⟩ : ∃ M : Nat, bN * m = M := ⟨_, rfl⟩
    have hM2 : M ≤ 8 * 32768 := hM ▸ Nat.mul_le_mul hb8 hm
    have e : (bN : Int) * (m : Int) = (M : Int) := by rw [← hM, Int.natCast_mul]
    have hw : IntKind.i64.wrap ((bN : Int) * (m : Int)) = (M : Int) := by rw [e, IntKind.wrap_i64]; omega
    have hw2 : wrap64 ((bN : Int) * (m : Int)) = (M : Int) := by rw [e]; unfold wrap64; omega
    have q2 : (32768 : Int) < (M : Int) := by omega
    clear e hm2 hM hM2
    go_enter Try.func35, Try.ntmps35
    go_wp2_with (go_at_call 16; (with_reducible refine (HO.out _).mono ?_); rintro r1 w1 ⟨rfl, hb⟩; (have HB1 := Aside0.mk hb); clear hb)
    go_ret2
    exact ⟨rfl, HB1.out⟩
set_option maxHeartbeats 4000000 in
set_option maxRecDepth 100000 in
theorem refback_ok (n bN M : Nat) (h : isSz n) (hbb : szB n = (bN : Int)) (A : Option Addr) (c m : Nat) (zs : List (Nat × Nat)) (hl : zs.length = m) (w : World) (h1 : Kd.C KC w A m zs) (hc : m ≤ c) (hm : m ≤ 32768) (hM : bN * m = M) (hM2 : M ≤ 32768) (hnl : (zs.length : Int) ≤ (32768 : Int) / szB n) :
    Calls Try.prog 35 #[.slice A m c, .int .i64 (n : Int)] w fun r w' => ∃ v, r = .returned (.tuple #[v, .int .i64 (backV n zs).2]) ∧ Kd.R Kd.bool 4 w' w.heap.size (fun _ => True) v (backV n zs).1 ∧ Below w.heap.size w w' := by
  have HO := Aside0.mk (fun w => refbits_c (n : Int) _ _ (refBits_any n h) w)
  have HA := Aside0.mk (fun w => refall_sl n h w)
  have HZN := Aside0.mk h
  have HBB := Aside0.mk hbb
  have HL := Aside0.mk hl
  have HC := Aside0.mk h1
  have HNL := Aside0.mk hnl
  have HM := Aside0.mk hm
  have q1 : (m : Int) ≤ 32768 := by omega
  have e : (bN : Int) * (m : Int) = (M : Int) := by rw [← hM, Int.natCast_mul]
  have hw : IntKind.i64.wrap ((bN : Int) * (m : Int)) = (M : Int) := by rw [e, IntKind.wrap_i64]; omega
  have hw2 : wrap64 ((bN : Int) * (m : Int)) = (M : Int) := by rw [e]; unfold wrap64; omega
  have q2 : (M : Int) ≤ 32768 := by omega
  rw [hbb] at HO
  clear h hbb hl h1 hc hnl hm hM hM2 e
  go_enter Try.func35, Try.ntmps35
  go_wp2_with (first
    | (go_at_call 16; (with_reducible refine (HO.out _).mono ?_); rintro r1 w1 ⟨rfl, hb⟩; (have HB1 := Aside0.mk hb); clear hb)
    | (go_at_call 14; (with_reducible refine (HA.out _).mono ?_); rintro r3 w3 ⟨GA, gc, rfl, hcd, hR, hb⟩; (have HB3 := Aside0.mk (below_step HB1.out hb)); (have ha3 := (Kd.R_reads' hR).2.2); (rw [zt_length] at ha3); (have HA3 := Aside0.mk ha3); clear hR hb hcd ha3))
  clear hw hw2 q1 q2
  go_loopw [10, 11] (fun v i wx => ∃ j : Nat, j ≤ m ∧ i = .int .i64 (j : Int) ∧ Aside0 (∀ t, t < j → labV n (zs.getD t (0, 0)) < n) ∧ Aside0 (Kd.R (Kd.int .i64) 3 wx w3.heap.size (fun _ => True) v ((zs.take j).map (labI n))) ∧ Aside0 (Below w3.heap.size w3 wx)) (fun _ i _ => m - (intOf i).toNat)
  case atStart => exact ⟨0, Nat.zero_le _, rfl, ⟨fun t ht => absurd ht (Nat.not_lt_zero _)⟩, Aside0.mk (Kd.R_nil _ _ _ _ _), Aside0.mk (Below.refl _ _)⟩
  case round =>
    obtain ⟨j, hj, rfl, HG, HO2, HBx⟩ := hrel
    obtain ⟨wq, rfl⟩ : ∃ wq : World, wq = wr := ⟨_, rfl⟩
    obtain ⟨vq, rfl⟩ : ∃ vq : Value, vq = u10 := ⟨_, rfl⟩
    by_cases hlj : j < m
    · have q1 : (j : Int) < (m : Int) := by omega
      have q0 : (0 : Int) ≤ (j : Int) := by omega
      have hks : IntKind.i64.wrap ((j : Int) + 1) = (j : Int) + 1 := by rw [IntKind.wrap_i64]; have := HM.out; omega
      have hsucc := lab_succ n zs j (by rw [HL.out]; exact hlj)
      have hbadv := fun h9 => backV_bad n zs (Int.not_lt.2 HNL.out) j (by rw [HL.out]; exact hlj) h9
      obtain ⟨⟨z1, z2⟩, hz⟩ : ∃ z, zs.getD j (0, 0) = z := ⟨_, rfl⟩
      rw [hz] at hsucc hbadv
      have HSU := Aside0.mk hsucc
      have HBV := Aside0.mk hbadv
      have HZJ := Aside0.mk hz
      have HJ := Aside0.mk hlj
      clear hz hsucc hbadv
      go_wp2
      go_loopw [12] (fun i wy => ∃ t : Nat, t ≤ n ∧ i = .int .i64 (t : Int) ∧ Aside0 (∀ s, s < t → hit n (z1, z2) s = false) ∧ Aside0 (∃ d, wy = wq.drewN d)) (fun i _ => n - (intOf i).toNat)
      case atStart => exact ⟨0, Nat.zero_le _, rfl, ⟨fun t ht => absurd ht (Nat.not_lt_zero _)⟩, ⟨0, rfl⟩⟩
      case round =>
        obtain ⟨t, ht, rfl, HS, HD⟩ := hrel
        obtain ⟨d, hd⟩ := HD.out
        have HDD := Aside0.mk hd
        have hbd : Below wq.heap.size wq wr := hd ▸ pw_below_drewN (Below.refl _ _) d
        have HBy := Aside0.mk (below_step HBx.out hbd)
        have HOy := Aside0.mk (Kd.R_below HO2.out hbd)
        clear hd hbd HD
        by_cases hlt : t < n
        · have r1 : (t : Int) < (n : Int) := by omega
          have r0 : (0 : Int) ≤ (t : Int) := by omega
          have hts : IntKind.i64.wrap ((t : Int) + 1) = (t : Int) + 1 := by rw [IntKind.wrap_i64]; have := (sz_le HZN.out).2; omega
          obtain ⟨ad, hA, k1⟩ := cx_at (Kd.C_below HA3.out HBy.out) t hlt
          subst hA
          obtain ⟨bd, hB, k2⟩ := cx_at (Kd.C_below HC.out (below_step HB3.out HBy.out)) j HJ.out
          subst hB
          rw [zt_getD n n t hlt] at k1
          rw [HZJ.out] at k2
          simp only at k2
          obtain ⟨hv, hhv⟩ : ∃ hv, hit n (z1, z2) t = hv := ⟨_, rfl⟩
          have he : ((FloatKind.f64.format.order (zAt n t).1 z1 == some .eq) && (FloatKind.f64.format.order (zAt n t).2 z2 == some .eq)) = hv := hhv
          have HV := Aside0.mk hhv
          have HT := Aside0.mk hlt
          obtain ⟨⟨y1, y2⟩, hy⟩ : ∃ y, zAt n t = y := ⟨_, rfl⟩
          rw [hy] at k1 he
          simp only at k1 he
          clear hhv hy
          cases hv
          · go_wp2
            go_quiet (fail)
            go_wp2
            exact ⟨⟨t + 1, hlt, by go_num, ⟨fun s hs => (by
              by_cases hst : s < t
              · exact HS.out s hst
              · obtain rfl : s = t := by omega
                exact HV.out)⟩, ⟨d + nq, by rw [HDD.out, World.drewN_drewN]⟩⟩, by show n - ((t : Int) + 1).toNat < n - (t : Int).toNat; omega⟩
          · have hne : ((t : Int) == (n : Int)) = false := by simp; omega
            have hne2 : ¬ ((t : Int) = (n : Int)) := by omega
            have hlv := labV_at n (z1, z2) t (by omega) HS.out (fun _ => HV.out)
            have hsu := HSU.out
            rw [hlv] at hsu
            have HSU2 := Aside0.mk hsu
            have HLV := Aside0.mk hlv
            clear hlv hsu
            go_wp2
            go_quiet (fail)
            go_wp2_with ((with_reducible refine gate_builtin (b := .append) (xs := #[.tmp 62, .tmp 64]) rfl ?_); at_builtin; refine Kd.R_append (Kd.int .i64) (w0 := w3) w3.heap.size rfl (.tmp 62) (.tmp 64) 22 3 (.int .i64 0) 8 rfl Try.underlying22 info3 rfl (by decide) (by omega) vq ((zs.take j).map (labI n)) (t : Int) [.int .i64 (t : Int)] (fun _ => True) (fun _ => False) rfl rfl ?aP (fun _ hk => hk.elim) ?aF ?aO ?aB ?aS ?aL ?_; (case aP => exact rfl); (case aB => exact pw_below_drewN HBy.out nq); (case aF => exact (fun _ _ => trivial)); (case aO => exact Kd.R_below HOy.out (pw_below_drewN (Below.refl _ _) nq)); (case aS => exact HBy.out.size); (case aL => rw [List.length_map, List.length_take]; (have := HM.out); (have := HJ.out); omega); intro v3 w5 ho hb_ hg_ hat; clear hg_ hat; (rw [← HSU2.out] at ho); (have HO4 := Aside0.mk ho); (have HB5 := Aside0.mk hb_); clear ho hb_)
            go_roundw
            case rel => exact ⟨j + 1, HJ.out, by go_num, ⟨fun s hs => (by
              by_cases hst : s < j
              · exact HG.out s hst
              · obtain rfl : s = j := by omega
                rw [HZJ.out, HLV.out]; exact HT.out)⟩, HO4, HB5⟩
            case measure => have := HJ.out; simp [intOf]; omega
        · obtain rfl : t = n := by omega
          have hlv := labV_at t (z1, z2) t (by omega) HS.out (fun h9 => absurd h9 (Nat.lt_irrefl _))
          have HBV2 := Aside0.mk (HBV.out (by rw [hlv]; exact Nat.lt_irrefl _))
          clear hlv
          go_wp2
          go_quiet (fail)
          go_wp2
          go_ret2
          rw [HBV2.out]
          exact ⟨_, rfl, Kd.R_nil _ _ _ _ _, pw_below_drewN (below_step HB3.out HBy.out) nq⟩
    · obtain rfl : j = m := by omega
      have hgv := backV_good n zs (Int.not_lt.2 HNL.out) (fun t ht => HG.out t (by rw [HL.out] at ht; exact ht))
      have ho2 := HO2.out
      rw [← HL.out, List.take_length] at ho2
      have hml : (zs.map (labI n)).length = j := by rw [List.length_map, HL.out]
      obtain ⟨ws, hws⟩ : ∃ ws, zs.map (labI n) = ws := ⟨_, rfl⟩
      rw [hws] at ho2 hgv hml
      rw [HBB.out] at hgv
      obtain ⟨A2, c2, hv⟩ := Kd.R_slice ho2
      rw [hml] at hv
      rw [hv] at ho2
      have hrd := Kd.R_reads' ho2
      have HR2 := Aside0.mk (fun (hx : Kd.C (Kd.int .i64) wq A2 j ws) (hy : j ≤ c2) => refrow_n A2 c2 j ws (bN : Int) wq hml hx hy)
      have HX := Aside0.mk hrd
      have HGV := Aside0.mk hgv
      have HMl := Aside0.mk hml
      have HBx2 := Aside0.mk (below_step HB3.out HBx.out)
      subst hv
      clear hgv ho2 hml hws hrd
      go_wp2_with (go_at_call 47; (with_reducible refine (HR2.out (by have h9 := HX.out.2.2; first | exact h9 | (rw [HMl.out] at h9; exact h9)) (by have h9 := HX.out.2.1; first | exact h9 | (rw [HMl.out] at h9; exact h9))).mono ?_); rintro r6 w6 ⟨v6, rfl, hR, hb⟩; (have HB6 := Aside0.mk (below_step HBx2.out hb)); (have HR6 := Aside0.mk (Kd.R_lower hR HBx2.out.size)); clear hR hb)
      go_ret2
      rw [HGV.out]
      exact ⟨_, rfl, HR6.out, HB6.out⟩
theorem refback_any (n : Nat) (h : isSz n) (A : Option Addr) (c m : Nat) (zs : List (Nat × Nat)) (hl : zs.length = m) (w : World) (h1 : Kd.C KC w A m zs) (hc : m ≤ c) :
    Calls Try.prog 35 #[.slice A m c, .int .i64 (n : Int)] w fun r w' => ∃ v, r = .returned (.tuple #[v, .int .i64 (backV n zs).2]) ∧ Kd.R Kd.bool 4 w' w.heap.size (fun _ => True) v (backV n zs).1 ∧ Below w.heap.size w w' := by
  obtain ⟨bN, hb, hb1, hb8⟩ := szB_nat n h
  have hd : (32768 : Int) / szB n = ((32768 / bN : Nat) : Int) := by rw [hb, Int.natCast_ediv]; rfl
  have hiff : m ≤ 32768 / bN ↔ m * bN ≤ 32768 := Nat.le_div_iff_mul_le (by omega)
  obtain ⟨q, hqq⟩ : ∃ q, 32768 / bN = q := ⟨_, rfl⟩
  have hq3 : 32768 / bN ≤ 32768 := Nat.div_le_self _ _
  rw [hqq] at hd hiff hq3
  rw [Nat.mul_comm] at hiff
  by_cases hm : q < m
  · rw [backV_long n zs (by rw [hd, hl]; omega)]
    refine (refbacklong n bN h hb A c m w (by
      by_cases h3 : 32768 < m
      · exact .inl h3
      · refine .inr ⟨by omega, ?_⟩
        by_cases h4 : bN * m ≤ 32768
        · have := hiff.2 h4; omega
        · omega) hb8).mono ?_
    rintro r w' ⟨rfl, hB⟩
    exact ⟨_, rfl, Kd.R_nil _ _ _ _ _, hB⟩
  · exact refback_ok n bN _ h hb A c m zs hl w h1 hc (by omega) rfl (hiff.1 (by omega)) (by rw [hd, hl]; omega)
set_option maxHeartbeats 1000000 in
set_option maxRecDepth 100000 in
theorem refback_no (n : Int) (h : noSz n) (A : Option Addr) (c m : Nat) (w : World) : Calls Try.prog 35 #[.slice A m c, .int .i64 n] w fun r w' => r = .returned (.tuple #[.slice none 0 0, .int .i64 1]) ∧ Below w.heap.size w w' := by
  have HO := Aside0.mk (fun w => refbits_c n _ _ (refBits_no n h) w)
  clear h
  go_enter Try.func35, Try.ntmps35
  go_wp2_with (go_at_call 16; (with_reducible refine (HO.out _).mono ?_); rintro r1 w1 ⟨rfl, hb⟩; (have HB1 := Aside0.mk hb); clear hb)
  go_ret2
  exact ⟨rfl, HB1.out⟩
end Go.Proofs.Ytopmlhihfchdhaa.Pure
