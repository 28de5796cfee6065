/- PointsSets: all sets. -/
import Derived.Test.YtopmlhihfchdhaaFogx0
import Derived.Test.YtopmlhihfchdhaaFogx1
import Derived.Test.YtopmlhihfchdhaaFogx3
import Derived.Test.YtopmlhihfchdhaaMore
namespace Go.Proofs.Ytopmlhihfchdhaa.Pure
open Go.RowKit Go.Proofs.Ytopmlhihfchdhaa.Fog Go.Proofs.YtopmlhihfchdhaaW.PrintWords Go.Proofs.YtopmlhihfchdhaaW.PrintLast Go.Proofs.YtopmlhihfchdhaaW.PrintMore Go.Proofs.Ytopmlhihfchdhaa.Kit
set_option linter.unusedVariables false
set_option linter.unusedSimpArgs false
def szl : List Int := [4, 16, 32, 64, 128, 256]
def lS (k : Nat) : List Int := (List.range 6).map fun j => if j < k then -1 else szl.getD j 0
theorem lS_all : ∀ k : Fin 6, (lS k.val).set k.val (-1) = lS (k.val + 1) ∧ (lS k.val).getD k.val 0 = szl.getD k.val 0 ∧ isSz (szl.getD k.val 0).toNat ∧ 0 ≤ szl.getD k.val 0 := by unfold isSz; decide
theorem lS_length (k : Nat) : (lS k).length = 6 := by unfold lS; rw [List.length_map, List.length_range]
theorem int_hcc {T base : Nat} {wr : World} {ok : Nat → Prop} {g n c : Nat} {L : List Int} (h : Kd.R (Kd.int .i64) T wr base ok (.slice (some ⟨g, 0, none⟩) n c) L) (hl : L.length = n) (k : Nat) (hk : k < n) :
    ∀ (j : Nat) (u : Value), ([.int .i64 (L.getD k 0)] : List Value)[j]? = some u → wr.cell? ⟨g, (k : Int).toNat * (Kd.int .i64).sz + j, none⟩ = some u := by
  subst hl
  have hsm := (Kd.R_reads' h).2.2
  obtain ⟨ad, had, hc0⟩ := int_at hsm k hk
  injection had with had
  subst had
  rw [add_zero_form] at hc0
  intro j u hj
  rw [Int.toNat_natCast]
  match j, hj with
  | 0, hj => obtain rfl : Value.int .i64 (L.getD k 0) = u := by simpa using hj
             have e : k * (Kd.int .i64).sz + 0 = k := by show k * 1 + 0 = k; omega
             rw [e]
             exact hc0
theorem sizes_sl (w : World) : Calls Try.prog 11 #[] w fun e w' => ∃ (A : Option Addr) (c : Nat), e = .returned (.slice A 6 c) ∧ Kd.R (Kd.int .i64) 3 w' w.heap.size (fun _ => True) (.slice A 6 c) (lS 0) ∧ Below w.heap.size w w' := by
  refine (points_Sizes.calls [4, 16, 32, 64, 128, 256] w rfl).mono ?_
  rintro e w' ⟨v, rfl, hR, hb⟩
  obtain ⟨A, c, rfl⟩ := Kd.R_slice hR
  exact ⟨A, c, rfl, hR, hb⟩
theorem refsizes_sl (w : World) : Calls Try.prog 12 #[] w fun e w' => ∃ (A : Option Addr) (c : Nat), e = .returned (.slice A 6 c) ∧ Kd.R (Kd.int .i64) 3 w' w.heap.size (fun _ => True) (.slice A 6 c) (lS 0) ∧ Below w.heap.size w w' := by
  refine (foghornref04_Sizes.calls [4, 16, 32, 64, 128, 256] w rfl).mono ?_
  rintro e w' ⟨v, rfl, hR, hb⟩
  obtain ⟨A, c, rfl⟩ := Kd.R_slice hR
  exact ⟨A, c, rfl, hR, hb⟩
set_option maxHeartbeats 4000000 in
set_option maxRecDepth 100000 in
theorem PointsSets_walk (w : World) : Calls Try.prog 3 #[] w fun r w' => r = .returned (.bool true) ∧ Below w.heap.size w w' := by
  go_enter Try.func3, Try.ntmps3
  go_wp2_with (first
    | (go_at_call 11; (with_reducible refine (sizes_sl w).mono ?_); rintro e v1 ⟨A1, c1, rfl, hR, hb⟩; (have HL1 := Aside0.mk hR); (have HB1 := Aside0.mk hb); clear hR hb)
    | (go_at_call 12; (with_reducible refine (refsizes_sl v1).mono ?_); rintro e v2 ⟨A2, c2, rfl, hR, hb⟩; (have HL2 := Aside0.mk (Kd.R_below HL1.out hb)); (have HW2 := Aside0.mk hR); (have HGL2 := Aside0.mk (fun i hi => ((Kd.R_bound hR).1 i hi).2.1 : ∀ i, (Value.slice A2 6 c2).ownBlock = some i → v1.heap.size ≤ i)); (have HGL1 := Aside0.mk (fun i hi => ((Kd.R_bound HL1.out).1 i hi).2.2.1 : ∀ i, (Value.slice A1 6 c1).ownBlock = some i → i < v1.heap.size)); (have HB2 := Aside0.mk (below_step HB1.out hb)); clear hR hb))
  clear HL1 HB1
  go_loopw [3] (fun i wr => ∃ k : Nat, k ≤ 6 ∧ i = .int .i64 (k : Int) ∧ Aside0 (Kd.R (Kd.int .i64) 3 wr w.heap.size (fun _ => True) (.slice A1 6 c1) (lS k)) ∧ Aside0 (Kd.R (Kd.int .i64) 3 wr v1.heap.size (fun _ => True) (.slice A2 6 c2) (lS 0)) ∧ Aside0 (Below w.heap.size w wr)) (fun i _ => 6 - (intOf i).toNat)
  case atStart => exact ⟨0, by omega, rfl, HL2, HW2, HB2⟩
  case round =>
    obtain ⟨k, hk, rfl, HL, HW, HB⟩ := hrel
    obtain ⟨wo, rfl⟩ : ∃ wo : World, wo = wr := ⟨_, rfl⟩
    by_cases hlt : k < 6
    · have t1 : (k : Int) < 6 := by omega
      have t0 : (0 : Int) ≤ (k : Int) := by omega
      have hks : IntKind.i64.wrap ((k : Int) + 1) = (k : Int) + 1 := by rw [IntKind.wrap_i64]; omega
      have HK := Aside0.mk hlt
      obtain ⟨y1, y2, y3, y4⟩ := lS_all ⟨k, hlt⟩
      simp only at y1 y2 y3 y4
      obtain ⟨n, hn⟩ : ∃ n : Nat, szl.getD k 0 = (n : Int) := ⟨(szl.getD k 0).toNat, by omega⟩
      rw [hn] at y2 y3
      rw [Int.toNat_natCast] at y3
      have HZ := Aside0.mk y3
      have HSET := Aside0.mk y1
      have HLK := Aside0.mk y2
      have HA := Aside0.mk (fun w => all_any n HZ.out w)
      have HRA := Aside0.mk (fun w => refall_sl n HZ.out w)
      obtain ⟨ad2, hA2, kw⟩ := int_at (by have h := (Kd.R_reads' HW.out).2.2; rw [lS_length] at h; exact h) k hlt
      rw [show (lS 0).getD k 0 = (n : Int) from hn] at kw
      clear y1 y2 y3 y4 hn
      have HWV := Aside0.mk hA2
      subst hA2
      go_wp2_with (first
        | (go_at_call 13; (with_reducible refine (HA.out wo).mono ?_); rintro e w1 ⟨aA, ac, rfl, hc, hR, hb⟩; (have HD1 := Aside0.mk hb); (have HA1 := Aside0.mk hR); (have HG1 := Aside0.mk (fun i hi => ((Kd.R_bound hR).1 i hi).2.2.1 : ∀ i, (Value.slice aA n ac).ownBlock = some i → i < w1.heap.size)); clear hc hb hR)
        | (go_at_call 13; (with_reducible refine (HA.out w1).mono ?_); rintro e w2 ⟨bA, bc, rfl, hc, hR, hb⟩; (have HD2 := Aside0.mk (below_step HD1.out hb)); (have HA2 := Aside0.mk (Kd.R_below HA1.out hb)); (have HB2 := Aside0.mk hR); (have HG2 := Aside0.mk (fun i hi => ((Kd.R_bound hR).1 i hi).2.1 : ∀ i, (Value.slice bA n bc).ownBlock = some i → w1.heap.size ≤ i)); (have HZ2 := Aside0.mk hb.size); clear hc hb hR)
        | (go_at_call 14; (with_reducible refine (HRA.out w2).mono ?_); rintro e w3 ⟨cA, cc, rfl, hc, hR, hb⟩; (have HD3 := Aside0.mk (below_step HD2.out hb)); (have HA3 := Aside0.mk (Kd.R_below HA2.out hb)); (have HB3 := Aside0.mk (Kd.R_below HB2.out hb)); (have HC3 := Aside0.mk hR); (have HG3 := Aside0.mk (fun i hi => ((Kd.R_bound hR).1 i hi).2.1 : ∀ i, (Value.slice cA n cc).ownBlock = some i → w2.heap.size ≤ i)); clear hc hb hR)
        | (go_at_call 15; (with_reducible refine (Bits_any n HZ.out w3).mono ?_); rintro e w4 ⟨rfl, hb⟩; (have HD4 := Aside0.mk (below_step HD3.out hb)); (have HA4 := Aside0.mk (Kd.R_below HA3.out hb)); (have HB4 := Aside0.mk (Kd.R_below HB3.out hb)); (have HC4 := Aside0.mk (Kd.R_below HC3.out hb)); clear hb)
        | (go_at_call 16; (with_reducible refine (refbits_c (n : Int) _ _ (refBits_any n HZ.out) w4).mono ?_); rintro e w5 ⟨rfl, hb⟩; (have HD5 := Aside0.mk (below_step HD4.out hb)); (have HA5 := Aside0.mk (Kd.R_below HA4.out hb)); (have HB5 := Aside0.mk (Kd.R_below HB4.out hb)); (have HC5 := Aside0.mk (Kd.R_below HC4.out hb)); clear hb)
        | (go_at_call 17; (with_reducible refine (Edge_any n HZ.out w5).mono ?_); rintro e w6 ⟨rfl, hb⟩; (have HD6 := Aside0.mk (below_step HD5.out hb)); (have HA6 := Aside0.mk (Kd.R_below HA5.out hb)); (have HB6 := Aside0.mk (Kd.R_below HB5.out hb)); (have HC6 := Aside0.mk (Kd.R_below HC5.out hb)); clear hb)
        | (go_at_call 18; (with_reducible refine (refedge_c (n : Int) _ _ (refEdge_any n HZ.out) w6).mono ?_); rintro e w7 ⟨rfl, hb⟩; (have HD7 := Aside0.mk (below_step HD6.out hb)); (have HA7 := Aside0.mk (Kd.R_below HA6.out hb)); (have HB7 := Aside0.mk (Kd.R_below HB6.out hb)); (have HC7 := Aside0.mk (Kd.R_below HC6.out hb)); clear hb)
        | (go_at_call 19; (with_reducible refine (energy_any n HZ.out w7).mono ?_); rintro e w8 ⟨rfl, hb⟩; (have HD8 := Aside0.mk (below_step HD7.out hb)); (have HA8 := Aside0.mk (Kd.R_below HA7.out hb)); (have HB8 := Aside0.mk (Kd.R_below HB7.out hb)); (have HC8 := Aside0.mk (Kd.R_below HC7.out hb)); clear hb)
        | (go_at_call 20; (with_reducible refine (foghornref04_Energy.calls 1200 (n : Int) _ _ w8 (refEnergy_any n HZ.out)).mono ?_); rintro e w9 ⟨rfl, hb⟩; (have HD9 := Aside0.mk (below_step HD8.out hb)); (have HA9 := Aside0.mk (Kd.R_below HA8.out hb)); (have HB9 := Aside0.mk (Kd.R_below HB8.out hb)); (have HC9 := Aside0.mk (Kd.R_below HC8.out hb)); clear hb; (obtain ⟨ad1, hA1, kl⟩ := int_at (by have h := (Kd.R_reads' (Kd.R_below HL.out HD9.out)).2.2; rw [lS_length] at h; exact h) k HK.out); subst hA1; (rw [HLK.out] at kl))
        | (go_at_call 21; (with_reducible refine (same_points aA cA ac cc n (zt n n) w9 (zt_length n n) (by have h := (Kd.R_reads' HA9.out).2.2; rw [zt_length] at h; exact h) (by have h := (Kd.R_reads' HC9.out).2.2; rw [zt_length] at h; exact h) (fun i hi => (by rw [zt_getD n n i hi]; exact zAt_fine n i HZ.out hi)) (by (have := (sz_le HZ.out).2); omega)).mono ?_); rintro e w10 ⟨rfl, hd⟩; (have hb := below_of_drew hd); (have HD10 := Aside0.mk (below_step HD9.out hb)); (have HA10 := Aside0.mk (Kd.R_below HA9.out hb)); (have HB10 := Aside0.mk (Kd.R_below HB9.out hb)); (have HC10 := Aside0.mk (Kd.R_below HC9.out hb)); clear hb hd))
      go_loopw [23] (fun i wx => ∃ m : Nat, m ≤ n ∧ i = .int .i64 (m : Int) ∧ Aside0 (∃ L', L'.length = n ∧ Kd.R KC 31 wx wo.heap.size (fun _ => True) (.slice aA n ac) L') ∧ Aside0 (Kd.R KC 31 wx w1.heap.size (fun _ => True) (.slice bA n bc) (zt n n)) ∧ Aside0 (Kd.R KC 31 wx w2.heap.size (fun _ => True) (.slice cA n cc) (zt n n)) ∧ Aside0 (Below wo.heap.size wo wx)) (fun i _ => n - (intOf i).toNat)
      case atStart => exact ⟨0, Nat.zero_le _, rfl, ⟨zt n n, zt_length n n, HA10.out⟩, HB10, HC10, HD10⟩
      case round =>
        obtain ⟨m, hm, rfl, HAx, HBx, HCx, HDx⟩ := hrel
        have hn256 := (sz_le HZ.out).2
        by_cases hlm : m < n
        · have t2 : (m : Int) < (n : Int) := by omega
          have t3 : (0 : Int) ≤ (m : Int) := by omega
          have hms : IntKind.i64.wrap ((m : Int) + 1) = (m : Int) + 1 := by rw [IntKind.wrap_i64]; omega
          obtain ⟨L', hL', hR⟩ := HAx.out
          obtain ⟨g, c', hv, hgb2, hgl, _⟩ := Kd.R_form hR (by omega)
          simp only [Value.slice.injEq] at hv
          obtain ⟨rfl, hlen_, rfl⟩ := hv
          clear hlen_
          have HCC := Aside0.mk (cx_hcc hR hL' m hlm)
          have HX := Aside0.mk hR
          have HL' := Aside0.mk hL'
          have HNE := Aside0.mk (show some g ≠ (Value.slice bA n bc).ownBlock from fun h9 => by have h1 := HG1.out g rfl; have h2 := HG2.out g h9.symm; omega)
          have HNE2 := Aside0.mk (show some g ≠ (Value.slice cA n cc).ownBlock from fun h9 => by have h1 := HG1.out g rfl; have h2 := HG3.out g h9.symm; have h3 := HZ2.out; omega)
          clear hR hL' HAx
          have HM := Aside0.mk hlm
          go_wp2_with (((with_reducible refine gate_ (.store 31 (.tmp 146) (.const (.complex .f64 4636666922610458624 0))) rfl ?_); (refine Kd.R_store KC (w0 := wo) wo.heap.size rfl rfl 31 _ _ rfl 31 (m : Int) 0 _ (4636666922610458624, 0) (.complex .f64 4636666922610458624 0) [.complex .f64 4636666922610458624 0] [.complex .f64 (L'.getD m (0, 0)).1 (L'.getD m (0, 0)).2] (fun _ => True) (fun _ => False) rfl ?ho rfl rfl ?ht ?h1 HX.out (by omega) (by (have h := HL'.out; have h2 := HM.out; omega)) rfl HCC.out (by first | decide | exact Nat.le_refl 1) ?hM (fun _ hk => hk.elim) HDx.out ?_); (case ho => rw [Int.toNat_natCast]; show m = m * 1 + 0; omega); (case ht => rfl); (case h1 => intro q hq; obtain rfl := List.mem_singleton.1 hq; rfl); (case hM => exact rfl); intro w13 hx3 hb3 hg3; (have HB4 := Aside0.mk (Kd.R_grown1 HBx.out rfl hg3 HNE.out)); (have HC4 := Aside0.mk (Kd.R_grown1 HCx.out rfl hg3 HNE2.out)); clear hg3; (have HX3 := Aside0.mk hx3); (have HM3 := Aside0.mk hb3); clear hx3 hb3))
          exact ⟨⟨m + 1, hlm, by go_num, ⟨_, by rw [List.length_set]; exact HL'.out, HX3.out⟩, HB4, HC4, HM3⟩, by show n - ((m : Int) + 1).toNat < n - (m : Int).toNat; omega⟩
        · obtain rfl : m = n := by omega
          have HAL := Aside0.mk (all_any m HZ.out wr)
          have HLx := Aside0.mk (Kd.R_below HL.out HDx.out)
          have HWx := Aside0.mk (Kd.R_below HW.out HDx.out)
          have HBo := Aside0.mk (below_step HB.out HDx.out)
          obtain ⟨g1, cq, hv, _, _, _⟩ := Kd.R_form HL.out (by rw [lS_length]; omega)
          simp only [Value.slice.injEq, Option.some.injEq] at hv
          obtain ⟨rfl, hl6, rfl⟩ := hv
          clear hl6
          have HNEL := Aside0.mk (show some g1 ≠ (Value.slice (some ad2) 6 c2).ownBlock from fun h9 => by have h1 := HGL1.out g1 rfl; have h2 := HGL2.out g1 h9.symm; omega)
          clear kw
          go_wp2_with (first
            | (go_at_call 13; (with_reducible refine HAL.out.mono ?_); rintro e w11 ⟨dA, dc, rfl, hc, hR, hb⟩; (have HDd := Aside0.mk hR); (have HB11 := Aside0.mk (Kd.R_below HBx.out hb)); (have HC11 := Aside0.mk (Kd.R_below HCx.out hb)); (have HL11 := Aside0.mk (Kd.R_below HLx.out hb)); (have HW11 := Aside0.mk (Kd.R_below HWx.out hb)); (have HBo11 := Aside0.mk (below_step HBo.out hb)); clear hc hb hR)
            | (go_at_call 21; (with_reducible refine (same_points bA cA bc cc m (zt m m) w11 (zt_length m m) (by have h := (Kd.R_reads' HB11.out).2.2; rw [zt_length] at h; exact h) (by have h := (Kd.R_reads' HC11.out).2.2; rw [zt_length] at h; exact h) (fun i hi => (by rw [zt_getD m m i hi]; exact zAt_fine m i HZ.out hi)) (by (have := (sz_le HZ.out).2); omega)).mono ?_); rintro e w12 ⟨rfl, hd⟩; (have hb := below_of_drew hd); (have HD12 := Aside0.mk (Kd.R_below HDd.out hb)); (have HC12 := Aside0.mk (Kd.R_below HC11.out hb)); (have HL12 := Aside0.mk (Kd.R_below HL11.out hb)); (have HW12 := Aside0.mk (Kd.R_below HW11.out hb)); (have HBo12 := Aside0.mk (below_step HBo11.out hb)); clear hb hd)
            | (go_at_call 21; (with_reducible refine (same_points dA cA dc cc m (zt m m) w12 (zt_length m m) (by have h := (Kd.R_reads' HD12.out).2.2; rw [zt_length] at h; exact h) (by have h := (Kd.R_reads' HC12.out).2.2; rw [zt_length] at h; exact h) (fun i hi => (by rw [zt_getD m m i hi]; exact zAt_fine m i HZ.out hi)) (by (have := (sz_le HZ.out).2); omega)).mono ?_); rintro e w14 ⟨rfl, hd⟩; (have hb := below_of_drew hd); (have HL14 := Aside0.mk (Kd.R_below HL12.out hb)); (have HW14 := Aside0.mk (Kd.R_below HW12.out hb)); (have HBo14 := Aside0.mk (below_step HBo12.out hb)); (have hcc := int_hcc HL14.out (lS_length k) k HK.out); (rw [HLK.out] at hcc); (have HCC14 := Aside0.mk hcc); clear hb hd hcc)
            | ((with_reducible refine gate_ (.store 3 (.tmp 164) (.const (.int .i64 (-1)))) rfl ?_); (refine Kd.R_store (Kd.int .i64) (w0 := w) w.heap.size rfl rfl 3 _ _ rfl 3 (k : Int) 0 _ (-1) (.int .i64 (-1)) [.int .i64 (-1)] [.int .i64 (m : Int)] (fun _ => True) (fun _ => False) rfl ?ho rfl rfl ?ht ?h1 HL14.out (by omega) (by (have h2 := HK.out; omega)) rfl HCC14.out (by first | decide | exact Nat.le_refl 1) ?hM (fun _ hk => hk.elim) HBo14.out ?_); (case ho => rw [Int.toNat_natCast]; show k = k * 1 + 0; omega); (case ht => rfl); (case h1 => intro q hq; obtain rfl := List.mem_singleton.1 hq; rfl); (case hM => exact rfl); intro w15 hx3 hb3 hg3; (rw [Int.toNat_natCast, HSET.out] at hx3); (have HW15 := Aside0.mk (Kd.R_grown1 HW14.out rfl hg3 HNEL.out)); clear hg3; (have HX15 := Aside0.mk hx3); (have HM15 := Aside0.mk hb3); clear hx3 hb3))
          exact ⟨⟨k + 1, hlt, by go_num, HX15, HW15, HM15⟩, by show 6 - ((k : Int) + 1).toNat < 6 - (k : Int).toNat; omega⟩
    · obtain rfl : k = 6 := by omega
      go_wp2_with (go_at_call 11; (with_reducible refine (sizes_sl _).mono ?_); rintro e v5 ⟨A5, c5, rfl, hR, hb⟩; (obtain ⟨g5, cq, hv, _, _, _⟩ := Kd.R_form hR (by rw [lS_length]; omega)); (simp only [Value.slice.injEq] at hv); (obtain ⟨rfl, hl6, rfl⟩ := hv); clear hl6; (have z0 : v5.cell? ⟨g5, 0, none⟩ = some (.int .i64 4) := int_hcc hR (lS_length 0) 0 (by omega) 0 _ rfl); (have z5 : v5.cell? ⟨g5, 5, none⟩ = some (.int .i64 256) := int_hcc hR (lS_length 0) 5 (by omega) 0 _ rfl); (have HB5 := Aside0.mk (below_step HB.out hb)); clear hR hb)
      go_ret
      exact ⟨rfl, HB5.out⟩
end Go.Proofs.Ytopmlhihfchdhaa.Pure
