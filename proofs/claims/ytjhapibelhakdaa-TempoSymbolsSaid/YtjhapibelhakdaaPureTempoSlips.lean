/- TempoSlips. -/
import Derived.Test.YtjhapibelhakdaaFogx0
import Derived.Test.YtjhapibelhakdaaBoth
import Derived.Test.YtjhapibelhakdaaAwake
namespace Go.Proofs.Ytjhapibelhakdaa.Pure
open Go.RowKit Go.Proofs.Ytjhapibelhakdaa.Fog Go.Proofs.YtjhapibelhakdaaW.PrintWords Go.Proofs.YtjhapibelhakdaaW.PrintLast Go.Proofs.YtjhapibelhakdaaW.PrintMore Go.Proofs.Ytjhapibelhakdaa.Kit
set_option linter.unusedVariables false
set_option linter.unusedSimpArgs false
structure SlipST (SA SB : Option Addr) (n1 n2 g1 g2 gb : Nat) (la lb : List Smp) (x0 x1 x2 : Int) (W : World) : Prop where
  a : Kd.C KS W SA n1 la
  b : Kd.C KS W SB n2 lb
  m : Kd.C KS W (some ⟨g1, 0, none⟩) (n1 + 1) (la ++ [mkS])
  n : Kd.C KS W (some ⟨g2, 0, none⟩) (n2 + 1) (lb ++ [mkS])
  x : W.heap[gb]? = some (.cells #[.int .i64 x0, .int .i64 x1, .int .i64 x2] 53)
theorem SlipST.at {SA SB : Option Addr} {n1 n2 g1 g2 gb : Nat} {la lb : List Smp} {x0 x1 x2 : Int} {W W' : World} (h : SlipST SA SB n1 n2 g1 g2 gb la lb x0 x1 x2 W) (hb : Below W.heap.size W W') : SlipST SA SB n1 n2 g1 g2 gb la lb x0 x1 x2 W' :=
  ⟨Kd.C_below h.a hb, Kd.C_below h.b hb, Kd.C_below h.m hb, Kd.C_below h.n hb, blk_below h.x hb⟩
theorem take_mk {w : World} {A : Option Addr} {n : Nat} {l : List Smp} (hl : l.length = n) (h : Kd.C KS w A (n + 1) (l ++ [mkS])) : Kd.C KS w A n l := by
  have h := smpC_take h n (by omega)
  rw [List.take_append_of_le_length (by omega), List.take_of_length_le (by omega)] at h
  exact h
theorem smp_res {w' : World} {v : Value} {base : Nat} {l : List Smp} {L : Nat} (hL : l.length = L) (h : Kd.R KS 43 w' base (fun _ => True) v l) : ∃ A' c', v = .slice A' L c' ∧ L ≤ c' ∧ Kd.C KS w' A' L l := by
  obtain ⟨A', c', rfl⟩ := Kd.R_slice h
  have g := Kd.R_reads' h
  rw [hL] at g ⊢
  exact ⟨A', c', rfl, g.2.1, g.2.2⟩
set_option maxHeartbeats 4000000 in
set_option maxRecDepth 100000 in
theorem slips_walk (x0 x1 x2 : Int) (A1 : Option Addr) (c1 n1 : Nat) (l1 : List Prt) (A2 : Option Addr) (c2 n2 : Nat) (l2 : List Prt) (w : World) (hx2 : x2 < 9223372036854775808) (hn1 : l1.length = n1) (hn2 : l2.length = n2) (hr1 : Kd.C KP w A1 n1 l1) (hy1 : n1 * 24 ≤ 140737488351232) (hr2 : Kd.C KP w A2 n2 l2) (hy2 : n2 * 24 ≤ 140737488351232) :
    Calls Try.prog 6 #[.agg #[.int .i64 x0, .int .i64 x1, .int .i64 x2], .slice A1 n1 c1, .slice A2 n2 c2] w fun e w' => e = .returned (.bool true) ∧ Below w.heap.size w w' := by
  obtain ⟨la, hla⟩ : ∃ la, l1.map smpOf = la := ⟨_, rfl⟩
  obtain ⟨lb, hlb⟩ : ∃ lb, l2.map smpOf = lb := ⟨_, rfl⟩
  have hna : la.length = n1 := by rw [← hla, List.length_map, hn1]
  have hnb : lb.length = n2 := by rw [← hlb, List.length_map, hn2]
  have HSA := Aside0.mk (show ∀ W, Below w.heap.size w W → Calls Try.prog 15 #[.slice A1 n1 c1] W fun e w' => ∃ (A : Option Addr) (c : Nat), e = .returned (.slice A n1 c) ∧ n1 ≤ c ∧ Kd.C KS w' A n1 la ∧ Below W.heap.size W w' from fun W hW => by
    refine (samples_calls A1 c1 n1 l1 W hn1 (Kd.C_below hr1 hW) hy1).mono ?_
    rintro e w' ⟨v, rfl, hR, hB⟩
    rw [hla] at hR
    obtain ⟨A', c', rfl, h1, h2⟩ := smp_res hna hR
    exact ⟨A', c', rfl, h1, h2, hB⟩)
  have HSB := Aside0.mk (show ∀ W, Below w.heap.size w W → Calls Try.prog 15 #[.slice A2 n2 c2] W fun e w' => ∃ (A : Option Addr) (c : Nat), e = .returned (.slice A n2 c) ∧ n2 ≤ c ∧ Kd.C KS w' A n2 lb ∧ Below W.heap.size W w' from fun W hW => by
    refine (samples_calls A2 c2 n2 l2 W hn2 (Kd.C_below hr2 hW) hy2).mono ?_
    rintro e w' ⟨v, rfl, hR, hB⟩
    rw [hlb] at hR
    obtain ⟨A', c', rfl, h1, h2⟩ := smp_res hnb hR
    exact ⟨A', c', rfl, h1, h2, hB⟩)
  obtain ⟨r1, r2, r3, hs1, hs2⟩ := slip_both la lb n1 n2 x0 hna hnb
  obtain ⟨L, r, hL, ht1, ht2⟩ := slide_both la n1 x1 x2 hna hx2
  obtain ⟨N, hN⟩ : ∃ N, L.length = N := ⟨_, rfl⟩
  unfold SlidesAs at ht1 ht2
  unfold SlipsAs at hs1 hs2
  rw [hN] at ht1 ht2 hL
  have HS1 := Aside0.mk hs1
  have HS2 := Aside0.mk hs2
  have HT1 := Aside0.mk ht1
  have HT2 := Aside0.mk ht2
  have HNA := Aside0.mk hna
  have HNB := Aside0.mk hnb
  have HNL := Aside0.mk hN
  have HLN := Aside0.mk (show N ≤ 67584 ∧ n1 < 140737488355000 ∧ n2 < 140737488355000 ∧ n1 * 24 ≤ 140737488351232 ∧ n2 * 24 ≤ 140737488351232 by omega)
  clear hr1 hy1 hr2 hy2 hs1 hs2 ht1 ht2 hna hnb hN hL hn1 hn2 hla hlb hx2
  have HB0 := Aside0.mk ((Below.refl w.heap.size w).alloc (Nat.le_refl _) (.cells #[.int .i64 x0, .int .i64 x1, .int .i64 x2] 53))
  have HX0 := Aside0.mk (blk_new w (.cells #[.int .i64 x0, .int .i64 x1, .int .i64 x2] 53))
  go_enter Try.func6, Try.ntmps6
  go_wp2_with (first
    | (go_at_call 15; (with_reducible refine (HSA.out _ HB0.out).mono ?_); rintro e w1 ⟨SA, sc1, rfl, hsc1, hC, hb⟩; (have HB1 := Aside0.mk (below_step HB0.out hb)); (have HC1 := Aside0.mk hC); (have HX1 := Aside0.mk (blk_below HX0.out hb)); clear hb hC)
    | (go_at_call 15; (with_reducible refine (HSB.out _ HB1.out).mono ?_); rintro e w2 ⟨SB, sc2, rfl, hsc2, hC, hb⟩; (have HB2 := Aside0.mk (below_step HB1.out hb)); (have HC2 := Aside0.mk (And.intro (Kd.C_below HC1.out hb) hC)); (have HX2 := Aside0.mk (blk_below HX1.out hb)); clear hb hC)
    | (go_at_call 16; (with_reducible refine (lent_calls SA sc1 n1 la w2 HNA.out HC2.out.1 hsc1 HLN.out.2.2.2.1).mono ?_); rintro e w3 ⟨g1, k1, rfl, hk1, hg1, hg1_, hR, hb⟩; (have HB3 := Aside0.mk (below_step HB2.out hb)); (have HC3 := Aside0.mk (And.intro (Kd.C_below HC2.out.1 hb) (Kd.C_below HC2.out.2 hb))); (have HM3 := Aside0.mk (Kd.R_reads' hR).2.2); (have HX3 := Aside0.mk (blk_below HX2.out hb)); clear hb hR hg1 hg1_)
    | (go_at_call 16; (with_reducible refine (lent_calls SB sc2 n2 lb w3 HNB.out HC3.out.2 hsc2 HLN.out.2.2.2.2).mono ?_); rintro e w4 ⟨g2, k2, rfl, hk2, hg2, hg2_, hR, hb⟩; (have HB4 := Aside0.mk (below_step HB3.out hb)); (have HST4 := Aside0.mk (show SlipST SA SB n1 n2 g1 g2 w.heap.size la lb x0 x1 x2 w4 from ⟨Kd.C_below HC3.out.1 hb, Kd.C_below HC3.out.2 hb, by (have h := Kd.C_below HM3.out hb; rw [List.length_append, HNA.out] at h; exact h), by (have h := (Kd.R_reads' hR).2.2; rw [List.length_append, HNB.out] at h; exact h), blk_below HX3.out hb⟩)); (have p0 := (blk_cell HST4.out.x 0).trans rfl); clear hb hR hg2 hg2_)
    | (go_at_call 20; (with_reducible refine (HS1.out w4 (some ⟨g1, 0, none⟩) (some ⟨g2, 0, none⟩) k1 k2 (take_mk HNA.out HST4.out.m) (take_mk HNB.out HST4.out.n)).mono ?_); rintro e w5 ⟨rfl, hb⟩; (have HB5 := Aside0.mk (below_step HB4.out hb)); (have HST5 := Aside0.mk (HST4.out.at hb)); (have q0 := (blk_cell HST5.out.x 0).trans rfl); clear hb)
    | (go_at_call 21; (with_reducible refine (HS2.out w5 SA SB sc1 sc2 HST5.out.a HST5.out.b).mono ?_); rintro e w6 ⟨rfl, hb⟩; (have HB6 := Aside0.mk (below_step HB5.out hb)); (have HST6 := Aside0.mk (HST5.out.at hb)); (have s1 := (blk_cell HST6.out.x 1).trans rfl); (have s2 := (blk_cell HST6.out.x 2).trans rfl); clear hb)
    | (go_at_call 19; (with_reducible refine (HT1.out w6 (some ⟨g1, 0, none⟩) k1 (by omega) (take_mk HNA.out HST6.out.m)).mono ?_); rintro e w7 ⟨CA, cc, rfl, hR, hb⟩; (have HD7 := Aside0.mk hb); (have HR7 := Aside0.mk hR); (have HST7 := Aside0.mk (HST6.out.at hb)); (have t1 := (blk_cell HST7.out.x 1).trans rfl); (have t2 := (blk_cell HST7.out.x 2).trans rfl); clear hb hR)
    | (go_at_call 22; (with_reducible refine (HT2.out w7 SA sc1 hsc1 HST7.out.a).mono ?_); rintro e w8 ⟨DA, dc, rfl, hR, hb⟩; (have HD8 := Aside0.mk (below_step HD7.out hb)); (have HR8 := Aside0.mk (Kd.R_below HR7.out hb)); (have HE8 := Aside0.mk (Kd.R_reads' hR).2.2); (have HST8 := Aside0.mk (HST7.out.at hb)); clear hb hR)
    | (go_at_call 23; (with_reducible refine (same_self CA DA cc dc N L w8 HNL.out (by (have h := (Kd.R_reads' HR8.out).2.2; rw [HNL.out] at h; exact h)) (by (have h := HE8.out; rw [HNL.out] at h; exact h)) (by (have h := HLN.out.1; omega))).mono ?_); rintro e w9 ⟨rfl, hd⟩; (have hb := below_of_drew hd); (have HD9 := Aside0.mk (below_step HD8.out hb)); (have HR9 := Aside0.mk (Kd.R_below HR8.out hb)); (have HST9 := Aside0.mk (HST8.out.at hb)); clear hb hd)
    | (go_at_call 18; (with_reducible refine (kept_calls g1 k1 n1 SA sc1 la w9 HNA.out HST9.out.m hk1 HST9.out.a HLN.out.2.1).mono ?_); rintro e w10 ⟨rfl, hd⟩; (have hb := below_of_drew hd); (have HD10 := Aside0.mk (below_step HD9.out hb)); (have HR10 := Aside0.mk (Kd.R_below HR9.out hb)); (have HST10 := Aside0.mk (HST9.out.at hb)); clear hb hd)
    | (go_at_call 18; (with_reducible refine (kept_calls g2 k2 n2 SB sc2 lb w10 HNB.out HST10.out.n hk2 HST10.out.b HLN.out.2.2.1).mono ?_); rintro e w11 ⟨rfl, hd⟩; (have hb := below_of_drew hd); (have HD11 := Aside0.mk (below_step HD10.out hb)); (have HR11 := Aside0.mk (Kd.R_below HR10.out hb)); clear hb hd))
  go_loopw [21] (fun i wr => ∃ k : Nat, k ≤ N ∧ i = .int .i64 (k : Int) ∧ Aside0 (∃ L', L'.length = N ∧ Kd.R KS 43 wr w6.heap.size (fun _ => True) (.slice CA N cc) L') ∧ Aside0 (Below w6.heap.size w6 wr)) (fun i _ => N - (intOf i).toNat)
  case atStart => exact ⟨0, Nat.zero_le _, rfl, ⟨L, HNL.out, HR11.out⟩, HD11⟩
  case round =>
    obtain ⟨k, hk, rfl, HR, HD⟩ := hrel
    have hkN := HLN.out.1
    by_cases hlt : k < N
    · have q1 : (k : Int) < (N : Int) := by omega
      have hks : IntKind.i64.wrap ((k : Int) + 1) = (k : Int) + 1 := by rw [IntKind.wrap_i64]; omega
      obtain ⟨L', hL', hR⟩ := HR.out
      obtain ⟨g, c', hv, hgb2, hgl, _⟩ := Kd.R_form hR (by omega)
      simp only [Value.slice.injEq] at hv
      obtain ⟨rfl, hlen_, rfl⟩ := hv
      clear hlen_
      have HCC := Aside0.mk (smp_hcc hR hL' k hlt)
      have HX := Aside0.mk hR
      have HL' := Aside0.mk hL'
      clear hR hL' HR
      have HK := Aside0.mk hlt
      go_wp2_with ((with_reducible refine gate_ (.store 40 (.tmp 110) (.const (.complex .f64 0 4621256167635550208))) rfl ?_); (refine Kd.R_store KS (w0 := w6) w6.heap.size rfl rfl 40 _ _ rfl 43 (k : Int) 0 _ ((0, 4621256167635550208), (L'.getD k s0).2) (.complex .f64 0 4621256167635550208) [.complex .f64 0 4621256167635550208] [.complex .f64 (L'.getD k s0).1.1 (L'.getD k s0).1.2, .bool (L'.getD k s0).2] (fun _ => True) (fun _ => False) rfl ?ho rfl rfl ?ht ?h1 HX.out (by omega) (by (have h := HL'.out; have h2 := HK.out; omega)) rfl HCC.out (by decide) ?hM (fun _ hk => hk.elim) HD.out ?_); (case ho => rw [Int.toNat_natCast]; rfl); (case ht => rfl); (case h1 => intro q hq; obtain rfl := List.mem_singleton.1 hq; rfl); (case hM => exact ⟨[.complex .f64 0 4621256167635550208], [.bool (L'.getD k s0).2], rfl, rfl, rfl⟩); intro w13 hx3 hb3 hg3; clear hg3; (have HX3 := Aside0.mk hx3); (have HM3 := Aside0.mk hb3); clear hx3 hb3)
      exact ⟨⟨k + 1, hlt, by go_num, ⟨_, by rw [List.length_set]; exact HL'.out, HX3.out⟩, HM3⟩, by show N - ((k : Int) + 1).toNat < N - (k : Int).toNat; omega⟩
    · have hkn : k = N := by omega
      subst hkn
      go_wp2
      go_loopw [17, 22] (fun v i wr => ∃ j : Nat, j ≤ 20 ∧ i = .int .i64 (j : Int) ∧ Aside0 (∃ L', L'.length = k + j ∧ Kd.R KS 43 wr w6.heap.size (fun _ => True) v L') ∧ Aside0 (Below w6.heap.size w6 wr)) (fun _ i _ => 20 - (intOf i).toNat)
      case atStart => exact ⟨0, Nat.zero_le _, rfl, HR, HD⟩
      case round =>
        obtain ⟨j, hj, rfl, HR2, HD2⟩ := hrel
        by_cases hlt2 : j < 20
        · have q1 : (j : Int) < 20 := by omega
          have hks : IntKind.i64.wrap ((j : Int) + 1) = (j : Int) + 1 := by rw [IntKind.wrap_i64]; omega
          obtain ⟨L', hL', hR⟩ := HR2.out
          have HL' := Aside0.mk hL'
          have HO := Aside0.mk hR
          clear hL' hR HR2
          go_wp2_with ((with_reducible refine gate_builtin (b := .append) (xs := #[.tmp 115, .tmp 117]) rfl ?_); at_builtin; refine Kd.R_append KS (w0 := w6) w6.heap.size rfl (.tmp 115) (.tmp 117) 35 43 (.agg #[.complex .f64 0 0, .bool false]) 24 rfl Try.underlying35 sampleInfo rfl (by decide) (by omega) u17 L' ((0, 4620693217682128896), false) [.complex .f64 0 4620693217682128896, .bool false] (fun _ => True) (fun _ => False) rfl rfl ?aP (fun _ hk => hk.elim) ?aF ?aO ?aB ?aS ?aL ?_; (case aP => exact ⟨[.complex .f64 0 4620693217682128896], [.bool false], rfl, rfl, rfl⟩); (case aB => exact HD2.out); (case aF => exact (fun _ _ => trivial)); (case aO => exact HO.out); (case aS => exact HD2.out.size); (case aL => have h9 := HL'.out; omega); intro v3 w13 ho hb_ hg_ hat; clear hg_ hat; (have HO4 := Aside0.mk ho); (have HB4 := Aside0.mk hb_); clear ho hb_)
          exact ⟨⟨j + 1, hlt2, by go_num, ⟨_, by rw [List.length_append, HL'.out]; rfl, HO4.out⟩, HB4⟩, by show 20 - ((j : Int) + 1).toNat < 20 - (j : Int).toNat; omega⟩
        · have hjn : j = 20 := by omega
          subst hjn
          have HSTe := Aside0.mk (HST6.out.at HD2.out)
          have HBe := Aside0.mk (below_step HB6.out HD2.out)
          go_wp2_with (first
            | (go_at_call 18; (with_reducible refine (kept_calls g1 k1 n1 SA sc1 la _ HNA.out HSTe.out.m hk1 HSTe.out.a HLN.out.2.1).mono ?_); rintro e w14 ⟨rfl, hd⟩; (have hb := below_of_drew hd); (have HBf := Aside0.mk (below_step HBe.out hb)); clear hb hd)
            | (go_at_call 12; (with_reducible refine (awake_calls _).mono ?_); rintro e w15 ⟨rfl, hb⟩; (have HBg := Aside0.mk (below_step HBf.out hb)); clear hb))
          go_ret
          exact ⟨rfl, HBg.out⟩
theorem TempoSlips_walk (x0 x1 x2 : Int) (A1 : Option Addr) (c1 : Nat) (l1 : List Prt) (A2 : Option Addr) (c2 : Nat) (l2 : List Prt) (w : World) (w0 : (Lit.int .i64 x0).wf = true) (w1 : (Lit.int .i64 x1).wf = true) (w2 : (Lit.int .i64 x2).wf = true)
    (hr1 : Kd.C KP w A1 l1.length l1) (hc1 : l1.length ≤ c1) (hy1 : l1.length * 24 ≤ 140737488351232) (hg1 : ∀ y ∈ l1, (Lit.float .f64 y.1).wf = true ∧ (Lit.float .f64 y.2.1).wf = true) (hr2 : Kd.C KP w A2 l2.length l2) (hc2 : l2.length ≤ c2) (hy2 : l2.length * 24 ≤ 140737488351232) (hg2 : ∀ y ∈ l2, (Lit.float .f64 y.1).wf = true ∧ (Lit.float .f64 y.2.1).wf = true) :
    Calls Try.prog 6 #[.agg #[.int .i64 x0, .int .i64 x1, .int .i64 x2], .slice A1 l1.length c1, .slice A2 l2.length c2] w fun e w' => e = .returned (.bool true) ∧ Below w.heap.size w w' := by
  refine slips_walk x0 x1 x2 A1 c1 l1.length l1 A2 c2 l2.length l2 w ?_ rfl rfl hr1 hy1 hr2 hy2
  have h1 : x2 ≤ IntKind.i64.max := by simp only [Lit.wf, Bool.and_eq_true, decide_eq_true_eq] at w2; exact w2.2
  have h2 : IntKind.i64.max = 9223372036854775807 := by decide
  omega
end Go.Proofs.Ytjhapibelhakdaa.Pure
