/- TempoClocks. -/
import Derived.Test.YtjhapibelhakdaaFogx0
import Derived.Test.YtjhapibelhakdaaFogx1
import Derived.Test.YtjhapibelhakdaaFogx2
import Derived.Test.YtjhapibelhakdaaBoth
import Derived.Test.YtjhapibelhakdaaClock
import Derived.Test.YtjhapibelhakdaaPureTempoSlips
namespace Go.Proofs.Ytjhapibelhakdaa.Pure
open Go.RowKit Go.Proofs.Ytjhapibelhakdaa.Fog Go.Proofs.YtjhapibelhakdaaW.PrintWords Go.Proofs.YtjhapibelhakdaaW.PrintLast Go.Proofs.YtjhapibelhakdaaW.PrintMore Go.Proofs.Ytjhapibelhakdaa.Kit
set_option linter.unusedVariables false
set_option linter.unusedSimpArgs false
structure PkST (g1 n : Nat) (RA : Option Addr) (l : List Smp) (F Q D : Int) (b1 b2 : Nat) (W : World) : Prop where
  m : Kd.C KS W (some ⟨g1, 0, none⟩) n l
  r : Kd.C KS W RA n l
  x : W.heap[b1]? = some (.cells #[.int .i64 F, .int .i64 Q, .int .i64 D] 26)
  y : W.heap[b2]? = some (.cells #[.int .i64 F, .int .i64 Q, .int .i64 D] 32)
theorem PkST.at {g1 n : Nat} {RA : Option Addr} {l : List Smp} {F Q D : Int} {b1 b2 : Nat} {W W' : World} (h : PkST g1 n RA l F Q D b1 b2 W) (hb : Below W.heap.size W W') : PkST g1 n RA l F Q D b1 b2 W' :=
  ⟨Kd.C_below h.m hb, Kd.C_below h.r hb, blk_below h.x hb, blk_below h.y hb⟩
set_option maxHeartbeats 4000000 in
set_option maxRecDepth 100000 in
theorem picked_calls (F Q D m r : Int) (L l : List Smp) (n g1 k1 rc : Nat) (RA : Option Addr) (w : World) (hL : L.length ≤ 67584) (hp1 : PicksAs 30 l n F Q D m L r) (hp2 : PicksAs 34 l n F Q D m L r) (hk1 : n ≤ k1) (hrc : n ≤ rc) (hm : Kd.C KS w (some ⟨g1, 0, none⟩) n l) (hr : Kd.C KS w RA n l) :
    Calls Try.prog 17 #[.agg #[.int .i64 F, .int .i64 Q, .int .i64 D], .agg #[.int .i64 F, .int .i64 Q, .int .i64 D], .slice (some ⟨g1, 0, none⟩) n k1, .slice RA n rc, .int .i64 m] w fun e w' => e = .returned (.bool true) ∧ Below w.heap.size w w' := by
  obtain ⟨N, hN⟩ : ∃ N, L.length = N := ⟨_, rfl⟩
  unfold PicksAs at hp1 hp2
  rw [hN] at hp1 hp2 hL
  have HP1 := Aside0.mk hp1
  have HP2 := Aside0.mk hp2
  have HNL := Aside0.mk hN
  have HLN := Aside0.mk hL
  have b1 := (Below.refl w.heap.size w).alloc (Nat.le_refl _) (.cells #[.int .i64 F, .int .i64 Q, .int .i64 D] 26)
  have b2 := b1.alloc b1.size (.cells #[.int .i64 F, .int .i64 Q, .int .i64 D] 32)
  have y1 := blk_new w (.cells #[.int .i64 F, .int .i64 Q, .int .i64 D] 26)
  have y2 := blk_new (w.alloc (.cells #[.int .i64 F, .int .i64 Q, .int .i64 D] 26)) (.cells #[.int .i64 F, .int .i64 Q, .int .i64 D] 32)
  have y3 := blk_below y1 ((Below.refl _ _).alloc (Nat.le_refl _) (.cells #[.int .i64 F, .int .i64 Q, .int .i64 D] 32))
  rw [World.size_alloc] at y2
  have HST0 := Aside0.mk (show PkST g1 n RA l F Q D w.heap.size (w.heap.size + 1) _ from ⟨Kd.C_below hm b2, Kd.C_below hr b2, y3, y2⟩)
  have HB0 := Aside0.mk b2
  have z0 := (blk_cell HST0.out.x 0).trans rfl
  have z1 := (blk_cell HST0.out.x 1).trans rfl
  have z2 := (blk_cell HST0.out.x 2).trans rfl
  clear hp1 hp2 hN hL b1 b2 y1 y2 y3 hm hr
  go_enter Try.func17, Try.ntmps17
  go_wp2_with (first
    | (go_at_call 30; (with_reducible refine (HP1.out _ (some ⟨g1, 0, none⟩) k1 hk1 HST0.out.m).mono ?_); rintro e w1 ⟨CA, cc, rfl, hR, hb⟩; (have HD1 := Aside0.mk hb); (have HR1 := Aside0.mk hR); (have HST1 := Aside0.mk (HST0.out.at hb)); (have HG1 := Aside0.mk (fun i hi => ((Kd.R_bound hR).1 i hi).2.2.1 : ∀ i, (Value.slice CA N cc).ownBlock = some i → i < w1.heap.size)); (have z0 := (blk_cell HST1.out.y 0).trans rfl); (have z1 := (blk_cell HST1.out.y 1).trans rfl); (have z2 := (blk_cell HST1.out.y 2).trans rfl); clear hb hR)
    | (go_at_call 34; (with_reducible refine (HP2.out w1 RA rc hrc HST1.out.r).mono ?_); rintro e w2 ⟨DA, dc, rfl, hR, hb⟩; (have HD2 := Aside0.mk (below_step HD1.out hb)); (have HR2 := Aside0.mk (Kd.R_below HR1.out hb)); (have HE2 := Aside0.mk hR); (have HG2 := Aside0.mk (fun i hi => ((Kd.R_bound hR).1 i hi).2.1 : ∀ i, (Value.slice DA N dc).ownBlock = some i → w1.heap.size ≤ i)); clear hb hR)
    | (go_at_call 23; (with_reducible refine (same_self CA DA cc dc N L w2 HNL.out (by (have h := (Kd.R_reads' HR2.out).2.2; rw [HNL.out] at h; exact h)) (by (have h := (Kd.R_reads' HE2.out).2.2; rw [HNL.out] at h; exact h)) (by (have h := HLN.out; omega))).mono ?_); rintro e w3 ⟨rfl, hd⟩; (have hb := below_of_drew hd); (have HD3 := Aside0.mk (below_step HD2.out hb)); (have HR3 := Aside0.mk (Kd.R_below HR2.out hb)); (have HE3 := Aside0.mk (Kd.R_below HE2.out hb)); clear hb hd))
  obtain ⟨X0, hX0⟩ : ∃ X0, ((w.alloc (.cells #[.int .i64 F, .int .i64 Q, .int .i64 D] 26)).alloc (.cells #[.int .i64 F, .int .i64 Q, .int .i64 D] 32)) = X0 := ⟨_, rfl⟩
  rw [hX0] at HB0 HD3 HR3 HST0
  clear hX0 HD1 HD2 HR1 HR2 HE2 z0 z1 z2
  go_loopw [15] (fun i wr => ∃ k : Nat, k ≤ N ∧ i = .int .i64 (k : Int) ∧ Aside0 (∃ L', L'.length = N ∧ Kd.R KS 43 wr X0.heap.size (fun _ => True) (.slice CA N cc) L') ∧ Aside0 (Kd.R KS 43 wr w1.heap.size (fun _ => True) (.slice DA N dc) L) ∧ Aside0 (Below X0.heap.size X0 wr)) (fun i _ => N - (intOf i).toNat)
  case atStart => exact ⟨0, Nat.zero_le _, rfl, ⟨L, HNL.out, HR3.out⟩, HE3, HD3⟩
  case round =>
    obtain ⟨k, hk, rfl, HR, HE, HD⟩ := hrel
    have hkN := HLN.out
    by_cases hlt : k < N
    · have q1 : (k : Int) < (N : Int) := by omega
      have hks : IntKind.i64.wrap ((k : Int) + 1) = (k : Int) + 1 := by rw [IntKind.wrap_i64]; omega
      obtain ⟨L', hL', hR⟩ := HR.out
      obtain ⟨g, c', hv, hgb2, hgl, _⟩ := Kd.R_form hR (by omega)
      simp only [Value.slice.injEq] at hv
      obtain ⟨rfl, hlen_, rfl⟩ := hv
      clear hlen_
      have HCC := Aside0.mk (smp_hcc hR hL' k hlt)
      have HX := Aside0.mk hR
      have HL' := Aside0.mk hL'
      have HNE := Aside0.mk (show some g ≠ (Value.slice DA N dc).ownBlock from fun h9 => by have h1 := HG1.out g rfl; have h2 := HG2.out g h9.symm; omega)
      clear hR hL' HR
      have HK := Aside0.mk hlt
      go_wp2_with (((with_reducible refine gate_ (.store 40 (.tmp 50) (.const (.complex .f64 0 4617315517961601024))) rfl ?_); (refine Kd.R_store KS (w0 := X0) X0.heap.size rfl rfl 40 _ _ rfl 43 (k : Int) 0 _ ((0, 4617315517961601024), (L'.getD k s0).2) (.complex .f64 0 4617315517961601024) [.complex .f64 0 4617315517961601024] [.complex .f64 (L'.getD k s0).1.1 (L'.getD k s0).1.2, .bool (L'.getD k s0).2] (fun _ => True) (fun _ => False) rfl ?ho rfl rfl ?ht ?h1 HX.out (by omega) (by (have h := HL'.out; have h2 := HK.out; omega)) rfl HCC.out (by first | decide | exact Nat.le_refl 2) ?hM (fun _ hk => hk.elim) HD.out ?_); (case ho => rw [Int.toNat_natCast]; rfl); (case ht => rfl); (case h1 => intro q hq; obtain rfl := List.mem_singleton.1 hq; rfl); (case hM => exact ⟨[.complex .f64 0 4617315517961601024], [.bool (L'.getD k s0).2], rfl, rfl, rfl⟩); intro w13 hx3 hb3 hg3; (have HE4 := Aside0.mk (Kd.R_grown1 HE.out rfl hg3 HNE.out)); clear hg3; (have HX3 := Aside0.mk hx3); (have HM3 := Aside0.mk hb3); clear hx3 hb3))
      exact ⟨⟨k + 1, hlt, by go_num, ⟨_, by rw [List.length_set]; exact HL'.out, HX3.out⟩, HE4, HM3⟩, by show N - ((k : Int) + 1).toNat < N - (k : Int).toNat; omega⟩
    · have hkn : k = N := by omega
      subst hkn
      have HSTw := Aside0.mk (HST0.out.at HD.out)
      have z0 := (blk_cell HSTw.out.x 0).trans rfl
      have z1 := (blk_cell HSTw.out.x 1).trans rfl
      have z2 := (blk_cell HSTw.out.x 2).trans rfl
      go_wp2_with (first
        | (go_at_call 30; (with_reducible refine (HP1.out _ (some ⟨g1, 0, none⟩) k1 hk1 HSTw.out.m).mono ?_); rintro e w5 ⟨EA, ec, rfl, hR, hb⟩; (have HD5 := Aside0.mk (below_step HD.out hb)); (have HR5 := Aside0.mk hR); (have HE5 := Aside0.mk (Kd.R_below HE.out hb)); clear hb hR)
        | (go_at_call 23; (with_reducible refine (same_self EA DA ec dc k L w5 HNL.out (by (have h := (Kd.R_reads' HR5.out).2.2; rw [HNL.out] at h; exact h)) (by (have h := (Kd.R_reads' HE5.out).2.2; rw [HNL.out] at h; exact h)) (by (have h := HLN.out; omega))).mono ?_); rintro e w6 ⟨rfl, hd⟩; (have hb := below_of_drew hd); (have HD6 := Aside0.mk (below_step HD5.out hb)); clear hb hd))
      go_ret
      exact ⟨rfl, below_step HB0.out HD6.out⟩
structure CX (F Q D : Int) (b1 b2 : Nat) (W : World) : Prop where
  x : W.heap[b1]? = some (.cells #[.int .i64 F, .int .i64 Q, .int .i64 D] 26)
  y : W.heap[b2]? = some (.cells #[.int .i64 F, .int .i64 Q, .int .i64 D] 32)
theorem CX.at {F Q D : Int} {b1 b2 : Nat} {W W' : World} (h : CX F Q D b1 b2 W) (hb : Below W.heap.size W W') : CX F Q D b1 b2 W' := ⟨blk_below h.x hb, blk_below h.y hb⟩
def turnS (i : Nat) (x : Smp) : Smp := ((floatOfInt .f64 (i : Int), 4613937818241073152), !x.2)
def turnV (l : List Smp) (k : Nat) : List Smp := (List.range k).map fun i => turnS i (l.getD i s0)
theorem turnV_length (l : List Smp) (k : Nat) : (turnV l k).length = k := by unfold turnV; simp
theorem turnV_succ (l : List Smp) (k : Nat) : turnV l (k + 1) = turnV l k ++ [turnS k (l.getD k s0)] := by unfold turnV; rw [List.range_succ, List.map_append]; rfl
theorem set_mid (a : List Smp) (x y : Smp) (b : List Smp) (k : Nat) (h : a.length = k) : (a ++ x :: b).set k y = (a ++ [y]) ++ b := by
  rw [List.set_append_right _ _ (by omega), h, Nat.sub_self, List.set_cons_zero, List.append_assoc]; rfl
theorem get_mid (a : List Smp) (x : Smp) (b : List Smp) (k : Nat) (h : a.length = k) : (a ++ x :: b).getD k s0 = x := by
  rw [List.getD_eq_getElem?_getD, List.getElem?_append_right (by omega), h, Nat.sub_self]; rfl
theorem get_tv (l : List Smp) (k : Nat) (x : Smp) (b : List Smp) (h : turnV l (k + 1) = turnV l k ++ [turnS k x]) : (turnV l (k + 1) ++ b).getD k s0 = turnS k x := by
  rw [h, List.append_assoc]
  exact get_mid _ _ _ _ (turnV_length l k)
set_option maxHeartbeats 4000000 in
set_option maxRecDepth 100000 in
theorem clocks_walk (F Q D m : Int) (A1 : Option Addr) (c1 n : Nat) (l1 : List Prt) (w : World) (hn1 : l1.length = n) (hr1 : Kd.C KP w A1 n l1) (hy1 : n * 24 ≤ 140737488351232) :
    Calls Try.prog 4 #[.agg #[.int .i64 F, .int .i64 Q, .int .i64 D], .int .i64 m, .slice A1 n c1] w fun e w' => e = .returned (.bool true) ∧ Below w.heap.size w w' := by
  obtain ⟨l, hl⟩ : ∃ l, l1.map smpOf = l := ⟨_, rfl⟩
  have hna : l.length = n := by rw [← hl, List.length_map, hn1]
  have HSA := Aside0.mk (show ∀ W, Below w.heap.size w W → Calls Try.prog 15 #[.slice A1 n c1] W fun e w' => ∃ (A : Option Addr) (c : Nat), e = .returned (.slice A n c) ∧ n ≤ c ∧ Kd.C KS w' A n l ∧ Below W.heap.size W w' from fun W hW => by
    refine (samples_calls A1 c1 n l1 W hn1 (Kd.C_below hr1 hW) hy1).mono ?_
    rintro e w' ⟨v, rfl, hR, hB⟩
    rw [hl] at hR
    obtain ⟨A', c', rfl, h1, h2⟩ := smp_res hna hR
    exact ⟨A', c', rfl, h1, h2, hB⟩)
  obtain ⟨r1, r2, ha1, ha2⟩ := at_both F Q D m
  obtain ⟨r3, r4, rn, hb1, hb2⟩ := long_both F Q D m
  obtain ⟨L, pr, hL, hp1, hp2⟩ := pick_both l n F Q D m hna
  obtain ⟨L2, pr2, hL2, hp3, hp4⟩ := pick_both (turnV l n) n F Q D m (turnV_length l n)
  have HP := Aside0.mk (show ∀ (g1 k1 rc : Nat) (RA : Option Addr) (W : World), n ≤ k1 → n ≤ rc → Kd.C KS W (some ⟨g1, 0, none⟩) n l → Kd.C KS W RA n l → Calls Try.prog 17 #[.agg #[.int .i64 F, .int .i64 Q, .int .i64 D], .agg #[.int .i64 F, .int .i64 Q, .int .i64 D], .slice (some ⟨g1, 0, none⟩) n k1, .slice RA n rc, .int .i64 m] W fun e w' => e = .returned (.bool true) ∧ Below W.heap.size W w' from fun g1 k1 rc RA W h1 h2 h3 h4 => picked_calls F Q D m pr L l n g1 k1 rc RA W hL hp1 hp2 h1 h2 h3 h4)
  have HP2 := Aside0.mk (show ∀ (g1 k1 rc : Nat) (RA : Option Addr) (W : World), n ≤ k1 → n ≤ rc → Kd.C KS W (some ⟨g1, 0, none⟩) n (turnV l n) → Kd.C KS W RA n (turnV l n) → Calls Try.prog 17 #[.agg #[.int .i64 F, .int .i64 Q, .int .i64 D], .agg #[.int .i64 F, .int .i64 Q, .int .i64 D], .slice (some ⟨g1, 0, none⟩) n k1, .slice RA n rc, .int .i64 m] W fun e w' => e = .returned (.bool true) ∧ Below W.heap.size W w' from fun g1 k1 rc RA W h1 h2 h3 h4 => picked_calls F Q D m pr2 L2 (turnV l n) n g1 k1 rc RA W hL2 hp3 hp4 h1 h2 h3 h4)
  have HA1 := Aside0.mk ha1
  have HA2 := Aside0.mk ha2
  have HL1 := Aside0.mk hb1
  have HL2 := Aside0.mk hb2
  have HNA := Aside0.mk hna
  have HLN := Aside0.mk (show n < 140737488355000 ∧ n * 24 ≤ 140737488351232 by omega)
  clear hr1 hy1 ha1 ha2 hb1 hb2 hna hn1 hl hL hp1 hp2 hL2 hp3 hp4
  have b1 := (Below.refl w.heap.size w).alloc (Nat.le_refl _) (.cells #[.int .i64 F, .int .i64 Q, .int .i64 D] 32)
  have b2 := b1.alloc b1.size (.cells #[.int .i64 F, .int .i64 Q, .int .i64 D] 26)
  have y1 := blk_new w (.cells #[.int .i64 F, .int .i64 Q, .int .i64 D] 32)
  have y2 := blk_new (w.alloc (.cells #[.int .i64 F, .int .i64 Q, .int .i64 D] 32)) (.cells #[.int .i64 F, .int .i64 Q, .int .i64 D] 26)
  have y3 := blk_below y1 ((Below.refl _ _).alloc (Nat.le_refl _) (.cells #[.int .i64 F, .int .i64 Q, .int .i64 D] 26))
  rw [World.size_alloc] at y2
  have HX0 := Aside0.mk (show CX F Q D (w.heap.size + 1) w.heap.size _ from ⟨y2, y3⟩)
  have HB0 := Aside0.mk b2
  clear b1 b2 y1 y2 y3
  go_enter Try.func4, Try.ntmps4
  go_wp2_with (first
    | (go_at_call 10; (with_reducible refine (tempo_At.calls F Q D m r1 r2 _ HA1.out).mono ?_); rintro e w1 ⟨rfl, hb⟩; (have HB1 := Aside0.mk (below_step HB0.out hb)); (have HX1 := Aside0.mk (HX0.out.at hb)); (have u0 := (blk_cell HX1.out.y 0).trans rfl); (have u1 := (blk_cell HX1.out.y 1).trans rfl); (have u2 := (blk_cell HX1.out.y 2).trans rfl); clear hb)
    | (go_at_call 13; (with_reducible refine (foghornref12_At.calls F Q D m r1 r2 _ HA2.out).mono ?_); rintro e w2 ⟨rfl, hb⟩; (have HB2 := Aside0.mk (below_step HB1.out hb)); (have HX2 := Aside0.mk (HX1.out.at hb)); (have z0 := (blk_cell HX2.out.x 0).trans rfl); (have z1 := (blk_cell HX2.out.x 1).trans rfl); (have z2 := (blk_cell HX2.out.x 2).trans rfl); clear hb)
    | (go_at_call 11; (with_reducible refine (tempo_Long.calls F Q D m r3 r4 _ HL1.out).mono ?_); rintro e w3 ⟨rfl, hb⟩; (have HB3 := Aside0.mk (below_step HB2.out hb)); (have HX3 := Aside0.mk (HX2.out.at hb)); (have u0 := (blk_cell HX3.out.y 0).trans rfl); (have u1 := (blk_cell HX3.out.y 1).trans rfl); (have u2 := (blk_cell HX3.out.y 2).trans rfl); clear hb)
    | (go_at_call 14; (with_reducible refine (foghornref12_Long.calls rn F Q D m r3 r4 _ HL2.out).mono ?_); rintro e w4 ⟨rfl, hb⟩; (have HB4 := Aside0.mk (below_step HB3.out hb)); (have HX4 := Aside0.mk (HX3.out.at hb)); clear hb)
    | (go_at_call 15; (with_reducible refine (HSA.out _ HB4.out).mono ?_); rintro e w5 ⟨SA, sc1, rfl, hsc1, hC, hb⟩; (have HB5 := Aside0.mk (below_step HB4.out hb)); (have HX5 := Aside0.mk (HX4.out.at hb)); (have HC5 := Aside0.mk hC); clear hb hC)
    | (go_at_call 16; (with_reducible refine (lent_calls SA sc1 n l w5 HNA.out HC5.out hsc1 HLN.out.2).mono ?_); rintro e w6 ⟨g1, k1, rfl, hk1, hg1, hg1_, hR, hb⟩; (have HD6 := Aside0.mk hb); (have HX6 := Aside0.mk (HX5.out.at hb)); (have HC6 := Aside0.mk (Kd.C_below HC5.out hb)); (have HM6 := Aside0.mk hR); (have HG1 := Aside0.mk (And.intro hg1 hg1_)); (have z0 := (blk_cell HX6.out.x 0).trans rfl); (have z1 := (blk_cell HX6.out.x 1).trans rfl); (have z2 := (blk_cell HX6.out.x 2).trans rfl); (have u0 := (blk_cell HX6.out.y 0).trans rfl); (have u1 := (blk_cell HX6.out.y 1).trans rfl); (have u2 := (blk_cell HX6.out.y 2).trans rfl); clear hb hR hg1 hg1_)
    | (go_at_call 17; (with_reducible refine (HP.out g1 k1 sc1 SA w6 (by omega) hsc1 (take_mk HNA.out (by (have h := (Kd.R_reads' HM6.out).2.2; rw [List.length_append, HNA.out, List.length_singleton] at h; exact h))) HC6.out).mono ?_); rintro e w7 ⟨rfl, hb⟩; (have HD7 := Aside0.mk (below_step HD6.out hb)); (have HC7 := Aside0.mk (Kd.C_below HC6.out hb)); (have HM7 := Aside0.mk (Kd.R_below HM6.out hb)); (have HG7 := Aside0.mk (Nat.lt_of_lt_of_le HG1.out.2 hb.size)); clear hb)
    | (go_at_call 18; (with_reducible refine (kept_calls g1 k1 n SA sc1 l w7 HNA.out (by (have h := (Kd.R_reads' HM7.out).2.2; rw [List.length_append, HNA.out, List.length_singleton] at h; exact h)) hk1 HC7.out HLN.out.1).mono ?_); rintro e w8 ⟨rfl, hd⟩; (have hb := below_of_drew hd); (have HD8 := Aside0.mk (below_step HD7.out hb)); (have HM8 := Aside0.mk (Kd.R_below HM7.out hb)); (have HG8 := Aside0.mk (Nat.lt_of_lt_of_le HG7.out hb.size)); clear hb hd)
    | ((with_reducible refine gate_dst (N := 88) rfl ?_); refine Kd.R_make KS (w0 := w8) w8.heap.size 43 rfl (N := 88) rfl 35 _ _ rfl (n : Int) rfl rfl Try.underlying35 (.agg #[.complex .f64 0 0, .bool false]) 24 sampleInfo rfl (by decide) (by omega) s0 (ok := fun _ => True) (okp := fun _ => True) ?z (fun _ hk => hk) trivial ?h0 ?hl (Below.refl _ _) (Nat.le_refl _) ?_; (case z => exact ⟨[cx (0, 0)], [.bool false], rfl, rfl, rfl⟩); (case h0 => omega); (case hl => have h9 := HLN.out.2; omega); intro v9 w9 ho hb hg_ hnew_; clear hg_ hnew_; (rw [Int.toNat_natCast] at ho); (obtain ⟨GA, gc, hv⟩ := Kd.R_slice ho); (rw [List.length_replicate] at hv); subst hv; (have HT9 := Aside0.mk ho); (have HE9 := Aside0.mk hb); clear ho hb))
  have HG0 := Aside0.mk (fun i hi => ((Kd.R_bound HT9.out).1 i hi).2.1 : ∀ i, (Value.slice GA n gc).ownBlock = some i → w8.heap.size ≤ i)
  have hgc := (Kd.R_reads' HT9.out).2.1
  have HGC := Aside0.mk hgc
  clear hgc
  go_loopw [19] (fun i wr => ∃ k : Nat, k ≤ n ∧ i = .int .i64 (k : Int) ∧ Aside0 (Kd.R KS 43 wr w8.heap.size (fun _ => True) (.slice GA n gc) (turnV l k ++ List.replicate (n - k) s0)) ∧ Aside0 (Kd.R KS 43 wr w5.heap.size (fun _ => True) (.slice (some ⟨g1, 0, none⟩) (n + 1) k1) (turnV l k ++ (l.drop k ++ [mkS]))) ∧ Aside0 (Below w5.heap.size w5 wr)) (fun i _ => n - (intOf i).toNat)
  case atStart => exact ⟨0, Nat.zero_le _, rfl, HT9, ⟨Kd.R_below HM8.out HE9.out⟩, ⟨below_step HD8.out HE9.out⟩⟩
  case round =>
    obtain ⟨k, hk, rfl, HT, HM, HD⟩ := hrel
    by_cases hlt : k < n
    · have q1 : (k : Int) < (n : Int) := by omega
      have hks : IntKind.i64.wrap ((k : Int) + 1) = (k : Int) + 1 := by have := HLN.out.1; rw [IntKind.wrap_i64]; omega
      have hln := HNA.out
      obtain ⟨x, hx⟩ : ∃ x, l.getD k s0 = x := ⟨_, rfl⟩
      have hdr : l.drop k = x :: l.drop (k + 1) := by
        rw [List.drop_eq_getElem_cons (by omega), ← hx, List.getD_eq_getElem?_getD, List.getElem?_eq_getElem (by omega)]; rfl
      have hrp : List.replicate (n - k) s0 = s0 :: List.replicate (n - (k + 1)) s0 := by
        rw [show n - k = (n - (k + 1)) + 1 by omega, List.replicate_succ]
      have hT := HT.out
      have hM := HM.out
      rw [hrp] at hT
      rw [hdr] at hM
      have hsu := turnV_succ l k
      rw [hx] at hsu
      obtain ⟨ad, hA, p1, p2⟩ := smp_at (Kd.C_below HC5.out HD.out) k hlt
      subst hA
      rw [hx] at p1 p2
      obtain ⟨gt, c', hv, hgb2, hgl, _⟩ := Kd.R_form hT (by simp; omega)
      simp only [Value.slice.injEq] at hv
      obtain ⟨hGA, hlen_, hgc_⟩ := hv
      subst hGA
      have hLT : (turnV l k ++ s0 :: List.replicate (n - (k + 1)) s0).length = n := by simp [turnV_length]; omega
      have hLM : (turnV l k ++ (x :: l.drop (k + 1) ++ [mkS])).length = n + 1 := by simp [turnV_length]; omega
      have hcc := smp_hcc hT hLT k hlt
      rw [get_mid _ _ _ _ (turnV_length l k)] at hcc
      have HCC := Aside0.mk hcc
      have HX := Aside0.mk hT
      have HMX := Aside0.mk hM
      have HLM := Aside0.mk hLM
      have HSU := Aside0.mk hsu
      have HNE := Aside0.mk (show some gt ≠ (Value.slice (some ⟨g1, 0, none⟩) (n + 1) k1).ownBlock from fun h9 => by have h1 := HG0.out gt rfl; have h2 := HG8.out; simp [Value.ownBlock] at h9; omega)
      have HNE2 := Aside0.mk (show some g1 ≠ (Value.slice (some ⟨gt, 0, none⟩) n gc).ownBlock from fun h9 => by have h1 := HG0.out gt rfl; have h2 := HG8.out; simp [Value.ownBlock] at h9; omega)
      have HK := Aside0.mk hlt
      have HBR := Aside0.mk (show Below w8.heap.size wr wr from Below.refl _ _)
      clear hT hM HT HM hrp hdr hx hsu hcc hLT hLM hlen_ hgc_ hln
      go_wp2_with (first
        | ((with_reducible refine gate_ (.store 43 (.tmp 107) (.tmp 106)) rfl ?_); (refine Kd.R_store KS (w0 := wr) w8.heap.size rfl rfl 43 _ _ rfl 43 (k : Int) 0 _ (turnS k x) (.agg #[.complex .f64 (floatOfInt .f64 (k : Int)) 4613937818241073152, .bool (!x.2)]) [.complex .f64 (floatOfInt .f64 (k : Int)) 4613937818241073152, .bool (!x.2)] [.complex .f64 0 0, .bool false] (fun _ => True) (fun _ => False) rfl ?ho rfl rfl ?ht ?h1 HX.out (by omega) (by (have h2 := HK.out; omega)) rfl HCC.out (by first | decide | exact Nat.le_refl 2) ?hM (fun _ hk => hk.elim) HBR.out ?_); (case ho => rw [Int.toNat_natCast]; rfl); (case ht => rfl); (case h1 => intro q hq; rcases List.mem_cons.1 hq with rfl | hq; rfl; (obtain rfl := List.mem_singleton.1 hq); rfl); (case hM => exact ⟨[.complex .f64 (floatOfInt .f64 (k : Int)) 4613937818241073152], [.bool (!x.2)], rfl, rfl, rfl⟩); intro w10 hx3 hb3 hg3; (rw [Int.toNat_natCast, set_mid _ _ _ _ _ (turnV_length l k), ← HSU.out] at hx3); (have HM10 := Aside0.mk (Kd.R_grown1 HMX.out rfl hg3 HNE.out)); (have HG10 := Aside0.mk hg3); (have HD10 := Aside0.mk (HD.out.grown hg3 (HD.out.size) (fun j hj => by (cases hj; have h1 := HG0.out gt rfl; have h2 := HD8.out.size; omega)))); (have HT10 := Aside0.mk hx3); (have k0 := smp_hcc hx3 (by (rw [List.length_append, turnV_length, List.length_replicate]; have h2 := HK.out; omega)) k HK.out); (have kk0 := k0 0 _ rfl); (have kk1 := k0 1 _ rfl); (have hgt := get_tv l k x (List.replicate (n - (k + 1)) s0) HSU.out); (rw [hgt, Int.toNat_natCast, KS_sz] at kk0 kk1); (replace kk0 : w10.cell? ⟨gt, k * 2, none⟩ = some (.complex .f64 (floatOfInt .f64 (k : Int)) 4613937818241073152) := kk0); (replace kk1 : w10.cell? ⟨gt, k * 2 + 1, none⟩ = some (.bool (!x.2)) := kk1); (have hcc := smp_hcc HM10.out HLM.out k (Nat.lt_succ_of_lt HK.out)); (rw [List.cons_append, get_mid _ _ _ _ (turnV_length l k)] at hcc); (have HCC2 := Aside0.mk hcc); clear hx3 hb3 hg3 k0 hgt hcc)
        | ((with_reducible refine gate_ (.store 43 (.tmp 114) (.tmp 113)) rfl ?_); (refine Kd.R_store KS (w0 := w5) w5.heap.size rfl rfl 43 _ _ rfl 43 (k : Int) 0 _ (turnS k x) (.agg #[.complex .f64 (floatOfInt .f64 (k : Int)) 4613937818241073152, .bool (!x.2)]) [.complex .f64 (floatOfInt .f64 (k : Int)) 4613937818241073152, .bool (!x.2)] [.complex .f64 x.1.1 x.1.2, .bool x.2] (fun _ => True) (fun _ => False) rfl ?ho rfl rfl ?ht ?h1 HM10.out (by omega) (by (have h2 := HK.out; omega)) rfl HCC2.out (by first | decide | exact Nat.le_refl 2) ?hM (fun _ hk => hk.elim) HD10.out ?_); (case ho => rw [Int.toNat_natCast]; rfl); (case ht => rfl); (case h1 => intro q hq; rcases List.mem_cons.1 hq with rfl | hq; rfl; (obtain rfl := List.mem_singleton.1 hq); rfl); (case hM => exact ⟨[.complex .f64 (floatOfInt .f64 (k : Int)) 4613937818241073152], [.bool (!x.2)], rfl, rfl, rfl⟩); intro w11 hx3 hb3 hg3; (rw [Int.toNat_natCast, List.cons_append, set_mid _ _ _ _ _ (turnV_length l k), ← HSU.out] at hx3); (have HT11 := Aside0.mk (Kd.R_grown1 HT10.out rfl hg3 HNE2.out)); (have HD11 := Aside0.mk hb3); (have HM11 := Aside0.mk hx3); clear hx3 hb3 hg3))
      exact ⟨⟨k + 1, hlt, by go_num, HT11, HM11, HD11⟩, by show n - ((k : Int) + 1).toNat < n - (k : Int).toNat; omega⟩
    · have hkn : k = n := by omega
      subst hkn
      have HXw := Aside0.mk (HX5.out.at HD.out)
      have z0 := (blk_cell HXw.out.x 0).trans rfl
      have z1 := (blk_cell HXw.out.x 1).trans rfl
      have z2 := (blk_cell HXw.out.x 2).trans rfl
      have u0 := (blk_cell HXw.out.y 0).trans rfl
      have u1 := (blk_cell HXw.out.y 1).trans rfl
      have u2 := (blk_cell HXw.out.y 2).trans rfl
      have hct := (Kd.R_reads' HT.out).2.2
      rw [Nat.sub_self, List.replicate_zero, List.append_nil, turnV_length] at hct
      have hcm := (Kd.R_reads' HM.out).2.2
      rw [List.drop_of_length_le (by have := HNA.out; omega), List.nil_append, List.length_append, turnV_length] at hcm
      have hcm2 := take_mk (turnV_length l k) hcm
      have HCT := Aside0.mk (And.intro hct hcm2)
      clear hct hcm hcm2
      go_wp2_with (first
        | (go_at_call 17; (with_reducible refine (HP2.out g1 k1 gc GA _ (by omega) (by (have h := HGC.out; omega)) HCT.out.2 HCT.out.1).mono ?_); rintro e w12 ⟨rfl, hb⟩; (have HD12 := Aside0.mk (below_step HD.out hb)); clear hb)
        | (go_at_call 12; (with_reducible refine (awake_calls _).mono ?_); rintro e w13 ⟨rfl, hb⟩; (have HD13 := Aside0.mk (below_step HD12.out hb)); clear hb))
      go_ret
      exact ⟨rfl, below_step HB5.out HD13.out⟩
theorem TempoClocks_walk (x0 x1 x2 m : Int) (A1 : Option Addr) (c1 : Nat) (l1 : List Prt) (w : World) (w0 : (Lit.int .i64 x0).wf = true) (w1 : (Lit.int .i64 x1).wf = true) (w2 : (Lit.int .i64 x2).wf = true) (w3 : (Lit.int .i64 m).wf = true)
    (hr1 : Kd.C KP w A1 l1.length l1) (hc1 : l1.length ≤ c1) (hy1 : l1.length * 24 ≤ 140737488351232) (hg1 : ∀ y ∈ l1, (Lit.float .f64 y.1).wf = true ∧ (Lit.float .f64 y.2.1).wf = true) :
    Calls Try.prog 4 #[.agg #[.int .i64 x0, .int .i64 x1, .int .i64 x2], .int .i64 m, .slice A1 l1.length c1] w fun e w' => e = .returned (.bool true) ∧ Below w.heap.size w w' :=
  clocks_walk x0 x1 x2 m A1 c1 l1.length l1 w rfl hr1 hy1
end Go.Proofs.Ytjhapibelhakdaa.Pure
