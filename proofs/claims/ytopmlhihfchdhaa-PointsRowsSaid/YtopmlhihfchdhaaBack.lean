/- The bits of points: the program's (by a map) and the reference's. -/
import Derived.Test.YtopmlhihfchdhaaFogx0
import Derived.Test.YtopmlhihfchdhaaRow
import Derived.Test.YtopmlhihfchdhaaMapC
namespace Go.Proofs.Ytopmlhihfchdhaa.Pure
open Go.RowKit Go.Proofs.Ytopmlhihfchdhaa.Fog Go.Proofs.YtopmlhihfchdhaaW.PrintWords Go.Proofs.YtopmlhihfchdhaaW.PrintLast Go.Proofs.YtopmlhihfchdhaaW.PrintMore Go.Proofs.Ytopmlhihfchdhaa.Kit
set_option linter.unusedVariables false
set_option linter.unusedSimpArgs false
/-- A point's label; n: none. -/
def labV (n : Nat) (z : Nat × Nat) : Nat := (List.range n).findIdx (hit n z)
theorem labV_le (n : Nat) (z : Nat × Nat) : labV n z ≤ n := by
  have := List.findIdx_le_length (xs := List.range n) (p := hit n z)
  rw [List.length_range] at this
  exact this
theorem labV_no (n : Nat) (z : Nat × Nat) (j : Nat) (hj : j < labV n z) : hit n z j = false := by
  have hl := labV_le n z
  have h1 := List.not_of_lt_findIdx (xs := List.range n) (p := hit n z) (i := j) hj
  rw [List.getElem_range] at h1
  exact Bool.eq_false_iff.2 (by simpa using h1)
theorem labV_yes (n : Nat) (z : Nat × Nat) (h : labV n z < n) : hit n z (labV n z) = true := by
  have h1 := List.findIdx_getElem (xs := List.range n) (p := hit n z) (w := by rw [List.length_range]; exact h)
  rw [List.getElem_range] at h1
  exact h1
def labI (n : Nat) (z : Nat × Nat) : Int := (labV n z : Int)
def backV (n : Nat) (zs : List (Nat × Nat)) : List Bool × Int :=
  if (32768 : Int) / szB n < (zs.length : Int) then ([], 1) else if (zs.all fun z => decide (labV n z < n)) = true then rowV (zs.map (labI n)) (szB n) else ([], 6)
theorem backV_long (n : Nat) (zs : List (Nat × Nat)) (h : (32768 : Int) / szB n < (zs.length : Int)) : backV n zs = ([], 1) := by unfold backV; rw [if_pos h]
theorem backV_good (n : Nat) (zs : List (Nat × Nat)) (h : ¬ (32768 : Int) / szB n < (zs.length : Int)) (hg : ∀ k, k < zs.length → labV n (zs.getD k (0, 0)) < n) : backV n zs = rowV (zs.map (labI n)) (szB n) := by
  unfold backV
  rw [if_neg h, if_pos]
  rw [List.all_eq_true]
  intro z hz
  obtain ⟨k, hk, rfl⟩ := List.mem_iff_getElem.1 hz
  have := hg k hk
  rw [List.getD_eq_getElem?_getD, List.getElem?_eq_getElem hk] at this
  exact decide_eq_true this
theorem backV_bad (n : Nat) (zs : List (Nat × Nat)) (h : ¬ (32768 : Int) / szB n < (zs.length : Int)) (k : Nat) (hk : k < zs.length) (hb : ¬ labV n (zs.getD k (0, 0)) < n) : backV n zs = ([], 6) := by
  unfold backV
  rw [if_neg h, if_neg]
  rw [List.all_eq_true]
  intro hall
  have h2 := hall zs[k] (List.getElem_mem hk)
  rw [List.getD_eq_getElem?_getD, List.getElem?_eq_getElem hk] at hb
  exact hb (of_decide_eq_true h2)
theorem lab_succ (n : Nat) (zs : List (Nat × Nat)) (k : Nat) (h : k < zs.length) : (zs.take (k + 1)).map (labI n) = (zs.take k).map (labI n) ++ [(labV n (zs.getD k (0, 0)) : Int)] := by
  rw [List.take_succ_eq_append_getElem h, List.map_append]
  have e : zs.getD k (0, 0) = zs[k] := by rw [List.getD_eq_getElem?_getD, List.getElem?_eq_getElem h]; rfl
  rw [e]; rfl
theorem szB_nat (n : Nat) (h : isSz n) : ∃ bN : Nat, szB n = (bN : Int) ∧ 1 ≤ bN ∧ bN ≤ 8 := by
  rcases h with rfl | rfl | rfl | rfl | rfl | rfl <;> exact ⟨_, rfl, by decide, by decide⟩
theorem ent_lookup (n : Nat) (z : Nat × Nat) : ((findE z (entC n n) 0).map (·.2)).getD (.int .i64 0) = .int .i64 (if labV n z < n then (labV n z : Int) else 0) ∧ (findE z (entC n n) 0).isSome = decide (labV n z < n) := by
  by_cases h : labV n z < n
  · rw [entC_some n n z (labV n z) h (fun j hj => by rw [keyEq_hit]; exact labV_no n z j hj) (by rw [keyEq_hit]; exact labV_yes n z h), if_pos h, decide_eq_true h]
    exact ⟨rfl, rfl⟩
  · rw [entC_none n n z (fun j hj => by rw [keyEq_hit]; exact labV_no n z j (by have := labV_le n z; omega)), if_neg h, decide_eq_false h]
    exact ⟨rfl, rfl⟩
set_option maxHeartbeats 4000000 in
set_option maxRecDepth 100000 in
theorem backlong_Sq (n bN q : Nat) (e : Int) (hof : OfSq n (bN : Int) e) (A : Option Addr) (c m : Nat) (w : World) (hb1 : (1 : Int) ≤ (bN : Int)) (hq : IntKind.i64.wrap (Int.tdiv 32768 (bN : Int)) = (q : Int)) (hm : (q : Int) < (m : Int)) :
    Calls Try.prog 34 #[.slice A m c, .int .i64 (n : Int)] w fun r w' => r = .returned (.tuple #[.slice none 0 0, .int .i64 1]) ∧ Below w.heap.size w w' := by
  unfold OfSq at hof
  have HO := Aside0.mk hof
  clear hof
  go_enter Try.func34, Try.ntmps34
  go_wp2_with (go_at_call 41; (with_reducible refine (HO.out _).mono ?_); rintro r1 w1 ⟨bn, bf, rfl, hp, hb⟩; (have HB1 := Aside0.mk (below_step hb ((Below.refl w1.heap.size w1).alloc (Nat.le_refl _) (.cells #[.int .i64 (bN : Int), .int .i64 e, .func (.func 56) #[] #[.pointer (some ⟨bn, 0, none⟩), .pointer (some ⟨bf, 0, none⟩)]] 57)))); (have HS1 := Aside0.mk (blk_new w1 (.cells #[.int .i64 (bN : Int), .int .i64 e, .func (.func 56) #[] #[.pointer (some ⟨bn, 0, none⟩), .pointer (some ⟨bf, 0, none⟩)]] 57))); (have HZ1 := Aside0.mk hb.size); clear hp hb)
  go_ret2
  exact ⟨rfl, HB1.out⟩
set_option maxHeartbeats 4000000 in
set_option maxRecDepth 100000 in
theorem back_Sq (n bN q : Nat) (e : Int) (hof : OfSq n (bN : Int) e) (h : isSz n) (hbb : szB n = (bN : Int)) (A : Option Addr) (c m : Nat) (zs : List (Nat × Nat)) (hl : zs.length = m) (w : World) (h1 : Kd.C KC w A m zs) (hc : m ≤ c) (hb1 : (1 : Int) ≤ (bN : Int)) (hq : IntKind.i64.wrap (Int.tdiv 32768 (bN : Int)) = (q : Int)) (hm : (m : Int) ≤ (q : Int)) (hq3 : q ≤ 32768) (hnl : ¬ (32768 : Int) / szB n < (zs.length : Int)) :
    Calls Try.prog 34 #[.slice A m c, .int .i64 (n : Int)] w fun r w' => ∃ v, r = .returned (.tuple #[v, .int .i64 (backV n zs).2]) ∧ Kd.R Kd.bool 4 w' w.heap.size (fun _ => True) v (backV n zs).1 ∧ Below w.heap.size w w' := by
  unfold OfSq at hof
  have HO := Aside0.mk hof
  have HA := Aside0.mk (fun w => all_any n h w)
  have HZN := Aside0.mk h
  have HBB := Aside0.mk hbb
  have HL := Aside0.mk hl
  have HC := Aside0.mk h1
  have HNL := Aside0.mk hnl
  have HM := Aside0.mk (show m ≤ 32768 by omega)
  have hmk : ∀ W, (Instr.makeMap 68 (some (.int .i64 (n : Int)))).run Try.prog W = .ok (.map (some W.heap.size)) (W.alloc (.map #[] 0)) := fun W => run_makeMap_n W n
  clear hof h hbb hl h1 hc hnl hq3
  go_enter Try.func34, Try.ntmps34
  go_wp2_with (first
    | (go_at_call 41; (with_reducible refine (HO.out _).mono ?_); rintro r1 w1 ⟨bn, bf, rfl, hp, hb⟩; (have HB1 := Aside0.mk (below_step hb ((Below.refl w1.heap.size w1).alloc (Nat.le_refl _) (.cells #[.int .i64 (bN : Int), .int .i64 e, .func (.func 56) #[] #[.pointer (some ⟨bn, 0, none⟩), .pointer (some ⟨bf, 0, none⟩)]] 57)))); (have HS1 := Aside0.mk (blk_new w1 (.cells #[.int .i64 (bN : Int), .int .i64 e, .func (.func 56) #[] #[.pointer (some ⟨bn, 0, none⟩), .pointer (some ⟨bf, 0, none⟩)]] 57))); (have HZ1 := Aside0.mk hb.size); clear hp hb)
    | (go_at_call 13; (with_reducible refine (HA.out _).mono ?_); rintro r3 w3 ⟨GA, gc, rfl, hcd, hR, hb⟩; (have HB3 := Aside0.mk (below_step HB1.out hb)); (have HS3 := Aside0.mk (blk_below HS1.out hb)); (have ha3 := (Kd.R_reads' hR).2.2); (rw [zt_length] at ha3); (have HA3 := Aside0.mk ha3); (have HZ3 := Aside0.mk (show w1.heap.size < w3.heap.size from Nat.lt_of_lt_of_le (by rw [World.size_alloc]; exact Nat.lt_succ_self _) hb.size)); clear hR hb hcd ha3))
  clear hmk hq
  go_loopw [42] (fun i wr => ∃ k : Nat, k ≤ n ∧ i = .int .i64 (k : Int) ∧ Aside0 (wr.heap[w3.heap.size]? = some (.map (entC n k).toArray k)) ∧ Aside0 (Below w3.heap.size w3 wr)) (fun i _ => n - (intOf i).toNat)
  case atStart => exact ⟨0, Nat.zero_le _, rfl, Aside0.mk (blk_new w3 (.map #[] 0)), Aside0.mk ((Below.refl _ _).alloc (Nat.le_refl _) _)⟩
  case round =>
    obtain ⟨k, hk, rfl, HE, HB⟩ := hrel
    by_cases hlt : k < n
    · have q1 : (k : Int) < (n : Int) := by omega
      have q0 : (0 : Int) ≤ (k : Int) := by omega
      have hks : IntKind.i64.wrap ((k : Int) + 1) = (k : Int) + 1 := by rw [IntKind.wrap_i64]; have := (sz_le HZN.out).2; omega
      obtain ⟨ad, hA, k1⟩ := cx_at (Kd.C_below HA3.out HB.out) k hlt
      subst hA
      rw [zt_getD n n k hlt] at k1
      have hup := run_mapUpdate_cx wr w3.heap.size k (entC n k) (zAt n k) (.int .i64 (k : Int)) HE.out (entC_key n k) (entC_none n k _ (fun j hj => by rw [keyEq_hit, hit_pt n k j HZN.out hlt (by omega), decide_eq_false (by omega)]))
      rw [← entC_succ] at hup
      have HE2 := Aside0.mk (mapSet_at (o := .map (entC n (k + 1)).toArray (k + 1)) (blk_lt HE.out))
      have HB2 := Aside0.mk (mapSet_below (o := .map (entC n (k + 1)).toArray (k + 1)) HB.out (Nat.le_refl w3.heap.size))
      obtain ⟨wn, hwn⟩ : ∃ wn, mapSet wr w3.heap.size (.map (entC n (k + 1)).toArray (k + 1)) = wn := ⟨_, rfl⟩
      rw [hwn] at hup HE2 HB2
      clear hwn
      unfold cx at hup
      go_wp2
      exact ⟨⟨k + 1, hlt, by go_num, HE2, HB2⟩, by show n - ((k : Int) + 1).toNat < n - (k : Int).toNat; omega⟩
    · obtain rfl : k = n := by omega
      obtain ⟨i0, hi0, hz0, hs0, hb0⟩ := info_parts info3
      obtain ⟨w4, hrun, hown, hgr⟩ := run_make_own (P := Try.prog) wr wr.heap.size 22 3 i0 (.int .i64 0) 1 Try.underlying22 hi0 hz0 hs0 .i64 .i64 m (by rw [hb0]; have := HM.out; omega) (by have := HM.out; unfold maxLen; omega) (Nat.le_refl _)
      have hmk2 : (Instr.makeSlice 22 (.int .i64 0) (.int .i64 (m : Int))).run Try.prog wr = .ok (.slice (some ⟨wr.heap.size, 0, none⟩) 0 m) w4 := hrun
      have HRO := Aside0.mk (show Kd.R (Kd.int .i64) 3 w4 wr.heap.size (fun _ => True) (.slice (some ⟨wr.heap.size, 0, none⟩) 0 m) [] from ⟨fun _ _ => trivial, [], hown, Reps.none _ _⟩)
      have HB4 := Aside0.mk (pw_below_grown (Below.refl wr.heap.size wr) none (Nat.le_refl _) hgr (fun k hk => by cases hk))
      obtain ⟨wo, rfl⟩ : ∃ wo : World, wo = wr := ⟨_, rfl⟩
      have HSo := Aside0.mk (blk_below HS3.out HB.out)
      have HBo := Aside0.mk (below_step HB3.out HB.out)
      clear hrun hown hgr hi0 hz0 hb0 hs0
      go_wp2
      clear hmk2
      go_loopw [13, 56] (fun v i wx => ∃ j : Nat, j ≤ m ∧ i = .int .i64 (j : Int) ∧ Aside0 (∀ t, t < j → labV k (zs.getD t (0, 0)) < k) ∧ Aside0 (Kd.R (Kd.int .i64) 3 wx wo.heap.size (fun _ => True) v ((zs.take j).map (labI k))) ∧ Aside0 (Below wo.heap.size wo wx)) (fun _ i _ => m - (intOf i).toNat)
      case atStart => exact ⟨0, Nat.zero_le _, rfl, ⟨fun t ht => absurd ht (Nat.not_lt_zero _)⟩, HRO, HB4⟩
      case round =>
        obtain ⟨j, hj, rfl, HG, HO2, HBx⟩ := hrel
        obtain ⟨wq, rfl⟩ : ∃ wq : World, wq = wr := ⟨_, rfl⟩
        by_cases hlj : j < m
        · have q1 : (j : Int) < (m : Int) := by omega
          have q0 : (0 : Int) ≤ (j : Int) := by omega
          have hks : IntKind.i64.wrap ((j : Int) + 1) = (j : Int) + 1 := by rw [IntKind.wrap_i64]; have := HM.out; omega
          obtain ⟨ad, hA, k1⟩ := cx_at (Kd.C_below HC.out (below_step HBo.out HBx.out)) j hlj
          subst hA
          have hlk := run_lookup_cx wq w3.heap.size k (entC k k) (zs.getD j (0, 0)) (blk_below HE.out HBx.out) (entC_key k k)
          obtain ⟨y1, y2⟩ := ent_lookup k (zs.getD j (0, 0))
          rw [y1, y2] at hlk
          have hsucc := lab_succ k zs j (by rw [HL.out]; exact hlj)
          have hbadv := fun h9 => backV_bad k zs (Int.not_lt.2 HNL.out) j (by rw [HL.out]; exact hlj) h9
          obtain ⟨⟨z1, z2⟩, hz⟩ : ∃ z, zs.getD j (0, 0) = z := ⟨_, rfl⟩
          rw [hz] at k1 hlk hsucc hbadv
          unfold cx at hlk
          simp only at k1 hlk
          have HZJ := Aside0.mk hz
          have HJ := Aside0.mk hlj
          clear hz y1 y2
          by_cases hin : labV k (z1, z2) < k
          · rw [if_pos hin, decide_eq_true hin] at hlk
            obtain ⟨v0, hv0⟩ : ∃ v0, labV k (z1, z2) = v0 := ⟨_, rfl⟩
            rw [hv0] at hlk hsucc hin
            have HSU := Aside0.mk hsucc
            have HIN := Aside0.mk hin
            have HV0 := Aside0.mk hv0
            clear hsucc hin hbadv hv0
            go_wp2_with ((with_reducible refine gate_builtin (b := .append) (xs := #[.tmp 68, .tmp 70]) rfl ?_); at_builtin; refine Kd.R_append (Kd.int .i64) (w0 := wo) wo.heap.size rfl (.tmp 68) (.tmp 70) 22 3 (.int .i64 0) 8 rfl Try.underlying22 info3 rfl (by decide) (by omega) u13 ((zs.take j).map (labI k)) (v0 : Int) [.int .i64 (v0 : Int)] (fun _ => True) (fun _ => False) rfl rfl ?aP (fun _ hk => hk.elim) ?aF ?aO ?aB ?aS ?aL ?_; (case aP => exact rfl); (case aB => exact HBx.out); (case aF => exact (fun _ _ => trivial)); (case aO => exact HO2.out); (case aS => exact HBx.out.size); (case aL => rw [List.length_map, List.length_take]; (have := HM.out); (have := HJ.out); omega); intro v3 w5 ho hb_ hg_ hat; clear hg_ hat; (rw [← HSU.out] at ho); (have HO4 := Aside0.mk ho); (have HB5 := Aside0.mk hb_); clear ho hb_)
            exact ⟨⟨j + 1, hlj, by go_num, ⟨fun t ht => (by
              by_cases htj : t < j
              · exact HG.out t htj
              · obtain rfl : t = j := by omega
                rw [HZJ.out, HV0.out]; exact HIN.out)⟩, HO4, HB5⟩, by show m - ((j : Int) + 1).toNat < m - (j : Int).toNat; omega⟩
          · rw [if_neg hin, decide_eq_false hin] at hlk
            have HBV := Aside0.mk (hbadv hin)
            clear hsucc hin hbadv
            go_wp2
            go_ret2
            rw [HBV.out]
            exact ⟨_, rfl, Kd.R_nil _ _ _ _ _, below_step HBo.out HBx.out⟩
        · obtain rfl : j = m := by omega
          have hgv := backV_good k zs (Int.not_lt.2 HNL.out) (fun t ht => HG.out t (by rw [HL.out] at ht; exact ht))
          have ho2 := HO2.out
          rw [← HL.out, List.take_length] at ho2
          have hml : (zs.map (labI k)).length = j := by rw [List.length_map, HL.out]
          obtain ⟨ws, hws⟩ : ∃ ws, zs.map (labI k) = ws := ⟨_, rfl⟩
          rw [hws] at ho2 hgv hml
          rw [HBB.out] at hgv
          obtain ⟨A2, c2, hv⟩ := Kd.R_slice ho2
          rw [hml] at hv
          rw [hv] at ho2
          have hrd := Kd.R_reads' ho2
          have hcell : wq.cell? ⟨w1.heap.size, 0, none⟩ = some (.int .i64 (bN : Int)) := (blk_cell (blk_below HSo.out HBx.out) 0).trans rfl
          have HR2 := Aside0.mk (fun (hx : Kd.C (Kd.int .i64) wq A2 j ws) (hy : j ≤ c2) => row_n A2 c2 j ws (bN : Int) wq hml hx hy)
          have HX := Aside0.mk hrd
          have HGV := Aside0.mk hgv
          have HMl := Aside0.mk hml
          have HBx2 := Aside0.mk (below_step HBo.out HBx.out)
          subst hv
          clear hgv ho2 hml hws hrd
          go_wp2_with (go_at_call 46; (with_reducible refine (HR2.out (by have h9 := HX.out.2.2; first | exact h9 | (rw [HMl.out] at h9; exact h9)) (by have h9 := HX.out.2.1; first | exact h9 | (rw [HMl.out] at h9; exact h9))).mono ?_); rintro r6 w6 ⟨v6, rfl, hR, hb⟩; (have HB6 := Aside0.mk (below_step HBx2.out hb)); (have HR6 := Aside0.mk (Kd.R_lower hR HBx2.out.size)); clear hR hb)
          go_ret2
          rw [HGV.out]
          exact ⟨_, rfl, HR6.out, HB6.out⟩
set_option maxHeartbeats 4000000 in
set_option maxRecDepth 100000 in
theorem backlong_Cr (n bN q : Nat) (e : Int) (hof : OfCr n (bN : Int) e) (A : Option Addr) (c m : Nat) (w : World) (hb1 : (1 : Int) ≤ (bN : Int)) (hq : IntKind.i64.wrap (Int.tdiv 32768 (bN : Int)) = (q : Int)) (hm : (q : Int) < (m : Int)) :
    Calls Try.prog 34 #[.slice A m c, .int .i64 (n : Int)] w fun r w' => r = .returned (.tuple #[.slice none 0 0, .int .i64 1]) ∧ Below w.heap.size w w' := by
  unfold OfCr at hof
  have HO := Aside0.mk hof
  clear hof
  go_enter Try.func34, Try.ntmps34
  go_wp2_with (go_at_call 41; (with_reducible refine (HO.out _).mono ?_); rintro r1 w1 ⟨bn, bf, rfl, hp, hb⟩; (have HB1 := Aside0.mk (below_step hb ((Below.refl w1.heap.size w1).alloc (Nat.le_refl _) (.cells #[.int .i64 (bN : Int), .int .i64 e, .func (.func 57) #[] #[.pointer (some ⟨bn, 0, none⟩), .pointer (some ⟨bf, 0, none⟩)]] 57)))); (have HS1 := Aside0.mk (blk_new w1 (.cells #[.int .i64 (bN : Int), .int .i64 e, .func (.func 57) #[] #[.pointer (some ⟨bn, 0, none⟩), .pointer (some ⟨bf, 0, none⟩)]] 57))); (have HZ1 := Aside0.mk hb.size); clear hp hb)
  go_ret2
  exact ⟨rfl, HB1.out⟩
set_option maxHeartbeats 4000000 in
set_option maxRecDepth 100000 in
theorem back_Cr (n bN q : Nat) (e : Int) (hof : OfCr n (bN : Int) e) (h : isSz n) (hbb : szB n = (bN : Int)) (A : Option Addr) (c m : Nat) (zs : List (Nat × Nat)) (hl : zs.length = m) (w : World) (h1 : Kd.C KC w A m zs) (hc : m ≤ c) (hb1 : (1 : Int) ≤ (bN : Int)) (hq : IntKind.i64.wrap (Int.tdiv 32768 (bN : Int)) = (q : Int)) (hm : (m : Int) ≤ (q : Int)) (hq3 : q ≤ 32768) (hnl : ¬ (32768 : Int) / szB n < (zs.length : Int)) :
    Calls Try.prog 34 #[.slice A m c, .int .i64 (n : Int)] w fun r w' => ∃ v, r = .returned (.tuple #[v, .int .i64 (backV n zs).2]) ∧ Kd.R Kd.bool 4 w' w.heap.size (fun _ => True) v (backV n zs).1 ∧ Below w.heap.size w w' := by
  unfold OfCr at hof
  have HO := Aside0.mk hof
  have HA := Aside0.mk (fun w => all_any n h w)
  have HZN := Aside0.mk h
  have HBB := Aside0.mk hbb
  have HL := Aside0.mk hl
  have HC := Aside0.mk h1
  have HNL := Aside0.mk hnl
  have HM := Aside0.mk (show m ≤ 32768 by omega)
  have hmk : ∀ W, (Instr.makeMap 68 (some (.int .i64 (n : Int)))).run Try.prog W = .ok (.map (some W.heap.size)) (W.alloc (.map #[] 0)) := fun W => run_makeMap_n W n
  clear hof h hbb hl h1 hc hnl hq3
  go_enter Try.func34, Try.ntmps34
  go_wp2_with (first
    | (go_at_call 41; (with_reducible refine (HO.out _).mono ?_); rintro r1 w1 ⟨bn, bf, rfl, hp, hb⟩; (have HB1 := Aside0.mk (below_step hb ((Below.refl w1.heap.size w1).alloc (Nat.le_refl _) (.cells #[.int .i64 (bN : Int), .int .i64 e, .func (.func 57) #[] #[.pointer (some ⟨bn, 0, none⟩), .pointer (some ⟨bf, 0, none⟩)]] 57)))); (have HS1 := Aside0.mk (blk_new w1 (.cells #[.int .i64 (bN : Int), .int .i64 e, .func (.func 57) #[] #[.pointer (some ⟨bn, 0, none⟩), .pointer (some ⟨bf, 0, none⟩)]] 57))); (have HZ1 := Aside0.mk hb.size); clear hp hb)
    | (go_at_call 13; (with_reducible refine (HA.out _).mono ?_); rintro r3 w3 ⟨GA, gc, rfl, hcd, hR, hb⟩; (have HB3 := Aside0.mk (below_step HB1.out hb)); (have HS3 := Aside0.mk (blk_below HS1.out hb)); (have ha3 := (Kd.R_reads' hR).2.2); (rw [zt_length] at ha3); (have HA3 := Aside0.mk ha3); (have HZ3 := Aside0.mk (show w1.heap.size < w3.heap.size from Nat.lt_of_lt_of_le (by rw [World.size_alloc]; exact Nat.lt_succ_self _) hb.size)); clear hR hb hcd ha3))
  clear hmk hq
  go_loopw [42] (fun i wr => ∃ k : Nat, k ≤ n ∧ i = .int .i64 (k : Int) ∧ Aside0 (wr.heap[w3.heap.size]? = some (.map (entC n k).toArray k)) ∧ Aside0 (Below w3.heap.size w3 wr)) (fun i _ => n - (intOf i).toNat)
  case atStart => exact ⟨0, Nat.zero_le _, rfl, Aside0.mk (blk_new w3 (.map #[] 0)), Aside0.mk ((Below.refl _ _).alloc (Nat.le_refl _) _)⟩
  case round =>
    obtain ⟨k, hk, rfl, HE, HB⟩ := hrel
    by_cases hlt : k < n
    · have q1 : (k : Int) < (n : Int) := by omega
      have q0 : (0 : Int) ≤ (k : Int) := by omega
      have hks : IntKind.i64.wrap ((k : Int) + 1) = (k : Int) + 1 := by rw [IntKind.wrap_i64]; have := (sz_le HZN.out).2; omega
      obtain ⟨ad, hA, k1⟩ := cx_at (Kd.C_below HA3.out HB.out) k hlt
      subst hA
      rw [zt_getD n n k hlt] at k1
      have hup := run_mapUpdate_cx wr w3.heap.size k (entC n k) (zAt n k) (.int .i64 (k : Int)) HE.out (entC_key n k) (entC_none n k _ (fun j hj => by rw [keyEq_hit, hit_pt n k j HZN.out hlt (by omega), decide_eq_false (by omega)]))
      rw [← entC_succ] at hup
      have HE2 := Aside0.mk (mapSet_at (o := .map (entC n (k + 1)).toArray (k + 1)) (blk_lt HE.out))
      have HB2 := Aside0.mk (mapSet_below (o := .map (entC n (k + 1)).toArray (k + 1)) HB.out (Nat.le_refl w3.heap.size))
      obtain ⟨wn, hwn⟩ : ∃ wn, mapSet wr w3.heap.size (.map (entC n (k + 1)).toArray (k + 1)) = wn := ⟨_, rfl⟩
      rw [hwn] at hup HE2 HB2
      clear hwn
      unfold cx at hup
      go_wp2
      exact ⟨⟨k + 1, hlt, by go_num, HE2, HB2⟩, by show n - ((k : Int) + 1).toNat < n - (k : Int).toNat; omega⟩
    · obtain rfl : k = n := by omega
      obtain ⟨i0, hi0, hz0, hs0, hb0⟩ := info_parts info3
      obtain ⟨w4, hrun, hown, hgr⟩ := run_make_own (P := Try.prog) wr wr.heap.size 22 3 i0 (.int .i64 0) 1 Try.underlying22 hi0 hz0 hs0 .i64 .i64 m (by rw [hb0]; have := HM.out; omega) (by have := HM.out; unfold maxLen; omega) (Nat.le_refl _)
      have hmk2 : (Instr.makeSlice 22 (.int .i64 0) (.int .i64 (m : Int))).run Try.prog wr = .ok (.slice (some ⟨wr.heap.size, 0, none⟩) 0 m) w4 := hrun
      have HRO := Aside0.mk (show Kd.R (Kd.int .i64) 3 w4 wr.heap.size (fun _ => True) (.slice (some ⟨wr.heap.size, 0, none⟩) 0 m) [] from ⟨fun _ _ => trivial, [], hown, Reps.none _ _⟩)
      have HB4 := Aside0.mk (pw_below_grown (Below.refl wr.heap.size wr) none (Nat.le_refl _) hgr (fun k hk => by cases hk))
      obtain ⟨wo, rfl⟩ : ∃ wo : World, wo = wr := ⟨_, rfl⟩
      have HSo := Aside0.mk (blk_below HS3.out HB.out)
      have HBo := Aside0.mk (below_step HB3.out HB.out)
      clear hrun hown hgr hi0 hz0 hb0 hs0
      go_wp2
      clear hmk2
      go_loopw [13, 56] (fun v i wx => ∃ j : Nat, j ≤ m ∧ i = .int .i64 (j : Int) ∧ Aside0 (∀ t, t < j → labV k (zs.getD t (0, 0)) < k) ∧ Aside0 (Kd.R (Kd.int .i64) 3 wx wo.heap.size (fun _ => True) v ((zs.take j).map (labI k))) ∧ Aside0 (Below wo.heap.size wo wx)) (fun _ i _ => m - (intOf i).toNat)
      case atStart => exact ⟨0, Nat.zero_le _, rfl, ⟨fun t ht => absurd ht (Nat.not_lt_zero _)⟩, HRO, HB4⟩
      case round =>
        obtain ⟨j, hj, rfl, HG, HO2, HBx⟩ := hrel
        obtain ⟨wq, rfl⟩ : ∃ wq : World, wq = wr := ⟨_, rfl⟩
        by_cases hlj : j < m
        · have q1 : (j : Int) < (m : Int) := by omega
          have q0 : (0 : Int) ≤ (j : Int) := by omega
          have hks : IntKind.i64.wrap ((j : Int) + 1) = (j : Int) + 1 := by rw [IntKind.wrap_i64]; have := HM.out; omega
          obtain ⟨ad, hA, k1⟩ := cx_at (Kd.C_below HC.out (below_step HBo.out HBx.out)) j hlj
          subst hA
          have hlk := run_lookup_cx wq w3.heap.size k (entC k k) (zs.getD j (0, 0)) (blk_below HE.out HBx.out) (entC_key k k)
          obtain ⟨y1, y2⟩ := ent_lookup k (zs.getD j (0, 0))
          rw [y1, y2] at hlk
          have hsucc := lab_succ k zs j (by rw [HL.out]; exact hlj)
          have hbadv := fun h9 => backV_bad k zs (Int.not_lt.2 HNL.out) j (by rw [HL.out]; exact hlj) h9
          obtain ⟨⟨z1, z2⟩, hz⟩ : ∃ z, zs.getD j (0, 0) = z := ⟨_, rfl⟩
          rw [hz] at k1 hlk hsucc hbadv
          unfold cx at hlk
          simp only at k1 hlk
          have HZJ := Aside0.mk hz
          have HJ := Aside0.mk hlj
          clear hz y1 y2
          by_cases hin : labV k (z1, z2) < k
          · rw [if_pos hin, decide_eq_true hin] at hlk
            obtain ⟨v0, hv0⟩ : ∃ v0, labV k (z1, z2) = v0 := ⟨_, rfl⟩
            rw [hv0] at hlk hsucc hin
            have HSU := Aside0.mk hsucc
            have HIN := Aside0.mk hin
            have HV0 := Aside0.mk hv0
            clear hsucc hin hbadv hv0
            go_wp2_with ((with_reducible refine gate_builtin (b := .append) (xs := #[.tmp 68, .tmp 70]) rfl ?_); at_builtin; refine Kd.R_append (Kd.int .i64) (w0 := wo) wo.heap.size rfl (.tmp 68) (.tmp 70) 22 3 (.int .i64 0) 8 rfl Try.underlying22 info3 rfl (by decide) (by omega) u13 ((zs.take j).map (labI k)) (v0 : Int) [.int .i64 (v0 : Int)] (fun _ => True) (fun _ => False) rfl rfl ?aP (fun _ hk => hk.elim) ?aF ?aO ?aB ?aS ?aL ?_; (case aP => exact rfl); (case aB => exact HBx.out); (case aF => exact (fun _ _ => trivial)); (case aO => exact HO2.out); (case aS => exact HBx.out.size); (case aL => rw [List.length_map, List.length_take]; (have := HM.out); (have := HJ.out); omega); intro v3 w5 ho hb_ hg_ hat; clear hg_ hat; (rw [← HSU.out] at ho); (have HO4 := Aside0.mk ho); (have HB5 := Aside0.mk hb_); clear ho hb_)
            exact ⟨⟨j + 1, hlj, by go_num, ⟨fun t ht => (by
              by_cases htj : t < j
              · exact HG.out t htj
              · obtain rfl : t = j := by omega
                rw [HZJ.out, HV0.out]; exact HIN.out)⟩, HO4, HB5⟩, by show m - ((j : Int) + 1).toNat < m - (j : Int).toNat; omega⟩
          · rw [if_neg hin, decide_eq_false hin] at hlk
            have HBV := Aside0.mk (hbadv hin)
            clear hsucc hin hbadv
            go_wp2
            go_ret2
            rw [HBV.out]
            exact ⟨_, rfl, Kd.R_nil _ _ _ _ _, below_step HBo.out HBx.out⟩
        · obtain rfl : j = m := by omega
          have hgv := backV_good k zs (Int.not_lt.2 HNL.out) (fun t ht => HG.out t (by rw [HL.out] at ht; exact ht))
          have ho2 := HO2.out
          rw [← HL.out, List.take_length] at ho2
          have hml : (zs.map (labI k)).length = j := by rw [List.length_map, HL.out]
          obtain ⟨ws, hws⟩ : ∃ ws, zs.map (labI k) = ws := ⟨_, rfl⟩
          rw [hws] at ho2 hgv hml
          rw [HBB.out] at hgv
          obtain ⟨A2, c2, hv⟩ := Kd.R_slice ho2
          rw [hml] at hv
          rw [hv] at ho2
          have hrd := Kd.R_reads' ho2
          have hcell : wq.cell? ⟨w1.heap.size, 0, none⟩ = some (.int .i64 (bN : Int)) := (blk_cell (blk_below HSo.out HBx.out) 0).trans rfl
          have HR2 := Aside0.mk (fun (hx : Kd.C (Kd.int .i64) wq A2 j ws) (hy : j ≤ c2) => row_n A2 c2 j ws (bN : Int) wq hml hx hy)
          have HX := Aside0.mk hrd
          have HGV := Aside0.mk hgv
          have HMl := Aside0.mk hml
          have HBx2 := Aside0.mk (below_step HBo.out HBx.out)
          subst hv
          clear hgv ho2 hml hws hrd
          go_wp2_with (go_at_call 46; (with_reducible refine (HR2.out (by have h9 := HX.out.2.2; first | exact h9 | (rw [HMl.out] at h9; exact h9)) (by have h9 := HX.out.2.1; first | exact h9 | (rw [HMl.out] at h9; exact h9))).mono ?_); rintro r6 w6 ⟨v6, rfl, hR, hb⟩; (have HB6 := Aside0.mk (below_step HBx2.out hb)); (have HR6 := Aside0.mk (Kd.R_lower hR HBx2.out.size)); clear hR hb)
          go_ret2
          rw [HGV.out]
          exact ⟨_, rfl, HR6.out, HB6.out⟩
theorem back_any (n : Nat) (h : isSz n) (A : Option Addr) (c m : Nat) (zs : List (Nat × Nat)) (hl : zs.length = m) (w : World) (h1 : Kd.C KC w A m zs) (hc : m ≤ c) :
    Calls Try.prog 34 #[.slice A m c, .int .i64 (n : Int)] w fun r w' => ∃ v, r = .returned (.tuple #[v, .int .i64 (backV n zs).2]) ∧ Kd.R Kd.bool 4 w' w.heap.size (fun _ => True) v (backV n zs).1 ∧ Below w.heap.size w w' := by
  obtain ⟨bN, hb, hb1, hb8⟩ := szB_nat n h
  have hq : IntKind.i64.wrap (Int.tdiv 32768 (bN : Int)) = ((32768 / bN : Nat) : Int) := by
    rw [Int.tdiv_eq_ediv_of_nonneg (by omega), show (32768 : Int) / (bN : Int) = ((32768 / bN : Nat) : Int) by rw [Int.natCast_ediv]; rfl, IntKind.wrap_i64]
    have : 32768 / bN ≤ 32768 := Nat.div_le_self _ _
    generalize 32768 / bN = q at this ⊢
    omega
  have hd : (32768 : Int) / szB n = ((32768 / bN : Nat) : Int) := by rw [hb, Int.natCast_ediv]; rfl
  have hq3 : 32768 / bN ≤ 32768 := Nat.div_le_self _ _
  have ho := of_any n h
  rw [hb] at ho
  obtain ⟨q, hqq⟩ : ∃ q, 32768 / bN = q := ⟨_, rfl⟩
  rw [hqq] at hq hd hq3
  by_cases hm : q < m
  · rw [backV_long n zs (by rw [hd, hl]; omega)]
    have hx : Calls Try.prog 34 #[.slice A m c, .int .i64 (n : Int)] w fun r w' => r = .returned (.tuple #[.slice none 0 0, .int .i64 1]) ∧ Below w.heap.size w w' := by
      rcases ho with ho | ho
      · exact backlong_Sq n bN _ _ ho A c m w (by omega) hq (by omega)
      · exact backlong_Cr n bN _ _ ho A c m w (by omega) hq (by omega)
    refine hx.mono ?_
    rintro r w' ⟨rfl, hB⟩
    exact ⟨_, rfl, Kd.R_nil _ _ _ _ _, hB⟩
  · rcases ho with ho | ho
    · exact back_Sq n bN _ _ ho h hb A c m zs hl w h1 hc (by omega) hq (by omega) hq3 (by rw [hd, hl]; omega)
    · exact back_Cr n bN _ _ ho h hb A c m zs hl w h1 hc (by omega) hq (by omega) hq3 (by rw [hd, hl]; omega)
set_option maxHeartbeats 1000000 in
set_option maxRecDepth 100000 in
theorem back_no (n : Int) (h : noSz n) (A : Option Addr) (c m : Nat) (w : World) : Calls Try.prog 34 #[.slice A m c, .int .i64 n] w fun r w' => r = .returned (.tuple #[.slice none 0 0, .int .i64 1]) ∧ Below w.heap.size w w' := by
  have HO := Aside0.mk (fun w => of_no n w h)
  go_enter Try.func34, Try.ntmps34
  go_wp2_with (go_at_call 41; (with_reducible refine (HO.out _).mono ?_); rintro r1 w1 ⟨rfl, hb⟩; (have HB1 := Aside0.mk hb); clear hb)
  go_ret2
  exact ⟨rfl, (HB1.out).alloc HB1.out.size _⟩
end Go.Proofs.Ytopmlhihfchdhaa.Pure
