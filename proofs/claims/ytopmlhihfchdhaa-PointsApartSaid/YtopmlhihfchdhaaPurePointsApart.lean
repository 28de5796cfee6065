/- PointsApart: cosets lie farther and farther apart. -/
import Derived.Test.YtopmlhihfchdhaaFogx0
import Derived.Test.YtopmlhihfchdhaaApTools
namespace Go.Proofs.Ytopmlhihfchdhaa.Pure
open Go.RowKit Go.Proofs.Ytopmlhihfchdhaa.Fog Go.Proofs.YtopmlhihfchdhaaW.PrintWords Go.Proofs.YtopmlhihfchdhaaW.PrintLast Go.Proofs.YtopmlhihfchdhaaW.PrintMore Go.Proofs.Ytopmlhihfchdhaa.Kit
set_option linter.unusedVariables false
set_option linter.unusedSimpArgs false
def cvL (n j m : Nat) : List Int := (List.range m).map (cv n j)
theorem cvL_length (n j m : Nat) : (cvL n j m).length = m := by unfold cvL; rw [List.length_map, List.length_range]
theorem cvL_succ (n j m : Nat) : cvL n j (m + 1) = cvL n j m ++ [cv n j m] := by unfold cvL; rw [List.range_succ, List.map_append]; rfl
theorem cvL_get (n j m i : Nat) (h : i < m) : (cvL n j m).getD i 0 = cv n j i := by
  unfold cvL
  rw [List.getD_eq_getElem?_getD, List.getElem?_map, List.getElem?_range h]; rfl
/-- What the rows hold when k rows are whole and one has m numbers. -/
def Lk (n k m j : Nat) : List Int := if j < k then cvL n j 9 else if j = k then cvL n j m else []
theorem int_at2 {w : World} {A : Option Addr} {n : Nat} {l : List Int} (h : Kd.C (Kd.int .i64) w A n l) (i : Nat) (hi : i < n) : ∃ ad, A = some ad ∧ w.cell? (ad.add i) = some (.int .i64 (l.getD i 0)) := int_at h i hi
theorem cell_stay2 {w w' : World} {a : Addr} {v : Value} (h : w.cell? a = some v) (hb : Below w.heap.size w w') : w'.cell? a = some v := by
  by_cases hl : a.block < w.heap.size
  · exact (hb.cell hl).trans h
  · have e : w.heap[a.block]? = none := by simp; omega
    unfold World.cell? at h
    simp [e] at h
theorem coset_pt (n i k : Nat) (h : isSz n) (hi : i < n) (hk : k ≤ 8) (w : World) : Calls Try.prog 29 #[.int .i64 (n : Int), .complex .f64 (zAt n i).1 (zAt n i).2, .int .i64 (k : Int)] w fun r w' => r = .returned (.tuple #[.int .i64 (cv n i k), .int .i64 0]) ∧ Below w.heap.size w w' :=
  coset_z n i (zAt n i).1 (zAt n i).2 k h hk hi (by show hit n (zAt n i) i = true; rw [hit_pt n i i h hi hi]; exact decide_eq_true rfl) w
theorem cv_bound (n k m : Nat) (h : isSz n) (hk : k < n) (hm : m < 9) : 0 ≤ cv n k m ∧ cv n k m < ((2 ^ m : Nat) : Int) := by
  have e9 : ((2 ^ m : Nat) : Int) = 2 ^ m := by rw [Int.natCast_pow]; rfl
  rw [e9]
  rcases Nat.eq_zero_or_pos m with h0 | h0
  · subst h0; rw [cv_zero]; decide
  · have h9 := cv_ok n k (m - 1) h hk (by omega)
    rw [show m - 1 + 1 = m by omega] at h9
    exact ⟨h9.2.1, h9.2.2.1⟩
theorem lev_prev (n k m m' : Nat) (h : isSz n) (hk : k < n) (hm : m < 9) (e : m = m' + 1) : Int.tmod (cv n k m) ((2 ^ m' : Nat) : Int) = cv n k m' ∧ ((2 ^ m' : Nat) : Int) ≠ 0 ∧ IntKind.i64.wrap (cv n k m') = cv n k m' ∧ wrap64 (cv n k m') = cv n k m' := by
  subst e
  have h9 := cv_ok n k m' h hk (by omega)
  have e9 : ((2 ^ m' : Nat) : Int) = 2 ^ m' := by rw [Int.natCast_pow]; rfl
  have hb := cv_bound n k m' h hk (by omega)
  have e8 : 2 ^ m' ≤ 2 ^ 8 := Nat.pow_le_pow_right (by decide) (by omega)
  have e7 : (2 : Nat) ^ 8 = 256 := by decide
  have hp := Nat.two_pow_pos m'
  have hw : IntKind.i64.wrap (cv n k m') = cv n k m' := by
    obtain ⟨b0, b1⟩ := hb
    clear h9 e9
    generalize 2 ^ m' = p at *
    generalize cv n k m' = c at *
    rw [IntKind.wrap_i64]; omega
  refine ⟨?_, ?_, hw, by rw [← i64_w]; exact hw⟩
  · rw [Int.tmod_eq_emod_of_nonneg h9.2.1, e9]; exact h9.1
  · clear h9 e9 hb hw
    generalize 2 ^ m' = p at *
    omega
theorem shl_facts : ∀ k : Fin 9, wrap64 (2 ^ k.val) = ((2 ^ k.val : Nat) : Int) ∧ wrap64 (1 * 2 ^ k.val) = ((2 ^ k.val : Nat) : Int) ∧ shl .i64 1 (k.val : Int) = ((2 ^ k.val : Nat) : Int) ∧ wrap64 (4 * 2 ^ k.val) = ((4 * 2 ^ k.val : Nat) : Int) ∧ shl .i64 4 (k.val : Int) = ((4 * 2 ^ k.val : Nat) : Int) := by decide +kernel
theorem shl_f3 (m : Nat) (h : m < 9) : IntKind.i64.wrap (2 ^ m) = ((2 ^ m : Nat) : Int) ∧ wrap64 (2 ^ m) = ((2 ^ m : Nat) : Int) ∧ wrap64 (1 * 2 ^ m) = ((2 ^ m : Nat) : Int) ∧ shl .i64 1 (m : Int) = ((2 ^ m : Nat) : Int) := ⟨by rw [i64_w]; exact (shl_facts ⟨m, h⟩).1, (shl_facts ⟨m, h⟩).1, (shl_facts ⟨m, h⟩).2.1, (shl_facts ⟨m, h⟩).2.2.1⟩
theorem shl_f4 (m : Nat) (h : m < 9) : IntKind.i64.wrap (4 * 2 ^ m) = ((4 * 2 ^ m : Nat) : Int) ∧ wrap64 (4 * 2 ^ m) = ((4 * 2 ^ m : Nat) : Int) ∧ shl .i64 4 (m : Int) = ((4 * 2 ^ m : Nat) : Int) := ⟨by rw [i64_w]; exact (shl_facts ⟨m, h⟩).2.2.2.1, (shl_facts ⟨m, h⟩).2.2.2⟩
set_option maxHeartbeats 8000000 in
set_option maxRecDepth 100000 in
theorem PointsApart_walk (w : World) : Calls Try.prog 6 #[] w fun e w' => e = .returned (.bool true) ∧ Below w.heap.size w w' := by
  have HB0 := Aside0.mk (Below.refl w.heap.size w)
  go_enter Try.func6, Try.ntmps6
  go_wp2_with (go_at_call 38; (with_reducible refine (works_calls _).mono ?_); rintro e w1 ⟨rfl, hb⟩; (have HB1 := Aside0.mk (below_step HB0.out hb)); clear hb)
  go_loopw [1] (fun i wr => ∃ q : Nat, q ≤ 6 ∧ i = .int .i64 (q : Int) ∧ Aside0 (Below w1.heap.size w1 wr)) (fun i _ => 6 - (intOf i).toNat)
  case atStart => exact ⟨0, by omega, rfl, Aside0.mk (Below.refl _ _)⟩
  case round =>
    obtain ⟨q, hq, rfl, HBo⟩ := hrel
    obtain ⟨wo, rfl⟩ : ∃ wo : World, wo = wr := ⟨_, rfl⟩
    by_cases hlq : q < 6
    · have t1 : (q : Int) < 6 := by omega
      have t0 : (0 : Int) ≤ (q : Int) := by omega
      have hqs : IntKind.i64.wrap ((q : Int) + 1) = (q : Int) + 1 := by rw [IntKind.wrap_i64]; omega
      have h := szN_sz q hlq
      have CSz := Aside0.mk (fun w => size_nat q hlq w)
      obtain ⟨n, hn⟩ : ∃ n, szN q = n := ⟨_, rfl⟩
      rw [hn] at h CSz
      have CA := Aside0.mk (fun w => all_any n h w)
      have CC := Aside0.mk (fun i k hi hk w => coset_pt n i k h hi hk w)
      have HZ := Aside0.mk h
      have HQ := Aside0.mk hlq
      have hn256 := (sz_le h).2
      have HN := Aside0.mk hn256
      clear h hn hlq
      go_wp2_with (first
        | (go_at_call 39; (with_reducible refine (CSz.out _).mono ?_); rintro e w2 ⟨rfl, hb⟩; (have HB2 := Aside0.mk (below_step HBo.out hb)); clear hb)
        | (go_at_call 13; (with_reducible refine (CA.out _).mono ?_); rintro e w5 ⟨A5, c5, rfl, hc, hR, hb⟩; (have HB5 := Aside0.mk (below_step HB2.out hb)); (have ha2 := (Kd.R_reads' hR).2.2); (rw [zt_length] at ha2); (have HC5 := Aside0.mk ha2); (have hmk := run_make_row' (P := Try.prog) 50 22 (.slice none 0 0) 24 Try.underlying50 slInfo rfl .i64 .i64 n (by have := HN.out; omega) (by have := HN.out; omega) w5); (have HST0 := Aside0.mk (CSt.made w5 n)); (have HBm0 := Aside0.mk ((Below.refl w5.heap.size w5).alloc (Nat.le_refl _) (.cells (madeCells #[nilS] n) 22))); clear hc hR hb ha2))
      clear hmk
      go_loopw [6] (fun i wr => ∃ (k : Nat) (vs : List Value), k ≤ n ∧ i = .int .i64 (k : Int) ∧ Aside0 (CSt wr w5.heap.size w5.heap.size n (Lk n k 0) vs) ∧ Aside0 (Below w5.heap.size w5 wr)) (fun i _ => n - (intOf i).toNat)
      case atStart =>
        refine ⟨0, _, Nat.zero_le _, rfl, Aside0.mk (HST0.out.congr fun j _ => ?_), HBm0⟩
        unfold Lk
        rw [if_neg (Nat.not_lt_zero _)]
        split
        · rfl
        · rfl
      case round =>
        obtain ⟨k, vs0, hk, rfl, HS0, HBk⟩ := hrel
        obtain ⟨wk, rfl⟩ : ∃ wk : World, wk = wr := ⟨_, rfl⟩
        by_cases hlk : k < n
        · have t2 : (k : Int) < (n : Int) := by omega
          have t3 : (0 : Int) ≤ (k : Int) := by omega
          have hks : IntKind.i64.wrap ((k : Int) + 1) = (k : Int) + 1 := by rw [IntKind.wrap_i64]; omega
          have HK := Aside0.mk hlk
          have CC2 := Aside0.mk (fun m hm w => CC.out k m hlk hm w)
          have HCB := Aside0.mk (fun m (hm : m < 9) => cv_bound n k m HZ.out hlk hm)
          clear hlk
          go_wp2
          go_loopw [7] (fun i wr => ∃ (m : Nat) (vs : List Value), m ≤ 9 ∧ i = .int .i64 (m : Int) ∧ Aside0 (CSt wr w5.heap.size w5.heap.size n (Lk n k m) vs) ∧ Aside0 (Below w5.heap.size w5 wr)) (fun i _ => 9 - (intOf i).toNat)
          case atStart => exact ⟨0, vs0, by omega, rfl, HS0, HBk⟩
          case round =>
            obtain ⟨m, vs, hm, rfl, HS, HBl⟩ := hrel
            obtain ⟨wl, rfl⟩ : ∃ wl : World, wl = wr := ⟨_, rfl⟩
            by_cases hlm : m < 9
            · have t4 : (m : Int) ≤ 8 := by omega
              have t5 : (0 : Int) ≤ (m : Int) := by omega
              have hms : IntKind.i64.wrap ((m : Int) + 1) = (m : Int) + 1 := by rw [IntKind.wrap_i64]; omega
              obtain ⟨f0, f1, f2, f3⟩ := shl_f3 m hlm
              obtain ⟨ad, hA, kz⟩ := cx_at (Kd.C_below HC5.out HBl.out) k HK.out
              subst hA
              rw [zt_getD n n k HK.out] at kz
              have CCm := Aside0.mk (CC2.out m (by omega))
              have hcb := HCB.out m hlm
              obtain ⟨c0, hc0⟩ : ∃ c, cv n k m = c := ⟨_, rfl⟩
              rw [hc0] at CCm hcb
              obtain ⟨P, hP⟩ : ∃ P : Nat, 2 ^ m = P := ⟨_, rfl⟩
              rw [hP] at f0 f1 f2 f3 hcb
              obtain ⟨cb0, cb1⟩ := hcb
              have n1 : ¬ c0 < 0 := Int.not_lt.mpr cb0
              have n2 : ¬ (P : Int) ≤ c0 := Int.not_le.mpr cb1
              have n1b : decide (c0 < 0) = false := decide_eq_false n1
              have n2b : decide ((P : Int) ≤ c0) = false := decide_eq_false n2
              have HC0 := Aside0.mk hc0
              have HM := Aside0.mk hlm
              obtain ⟨v, hv⟩ : ∃ v, vs.getD k nilS = v := ⟨_, rfl⟩
              have hrow := HS.out.row k HK.out
              have hLk : Lk n k m k = cvL n k m := by unfold Lk; rw [if_neg (Nat.lt_irrefl _), if_pos rfl]
              rw [hv, hLk] at hrow
              obtain ⟨RA, rc, hvs⟩ := Kd.R_slice hrow
              rw [cvL_length] at hvs
              subst hvs
              have HV := Aside0.mk hv
              have HROW := Aside0.mk hrow
              have HCELL := Aside0.mk (fun W (hb : Below wl.heap.size wl W) => (by have h9 := (HS.out.at hb).cell k HK.out; rw [hv] at h9; exact h9 : W.cell? ⟨w5.heap.size, k, none⟩ = some (.slice RA m rc)))
              have HBS := Aside0.mk (blk_lt HS.out.blk)
              clear hv hrow hLk hc0 hP cb0 cb1 hlm
              rcases Nat.eq_zero_or_pos m with hm0 | hm0
              · have n3 : ¬ (0 : Int) < (m : Int) := by omega
                have n4 : decide (0 < m) = false := decide_eq_false (by omega)
                have n5 : ¬ 0 < m := by omega
                clear hm0
                have HLIM := Aside0.mk (show (m + 1) * 8 ≤ 140737488355328 by have := HM.out; omega)
                go_wp2_with (go_at_call 29; (with_reducible refine (CCm.out _).mono ?_); rintro e wc ⟨rfl, hb⟩; (have HBc := Aside0.mk (below_step HBl.out hb)); (have HSc := Aside0.mk (HS.out.at hb)); (have HRc := Aside0.mk (Kd.R_below HROW.out hb)); (have kc := HCELL.out _ hb); (have HBSc := Aside0.mk (Nat.lt_of_lt_of_le HBS.out hb.size)); (have fc := blk_frozen (HSc.out.blk) k); clear hb)
                go_quiet (fail)
                have hba : Below wc.heap.size wc (wc.drewN nq) := pw_below_drewN (Below.refl _ _) nq
                have HBa := Aside0.mk (below_step HBc.out hba)
                have HSa := Aside0.mk (HSc.out.at hba)
                have HRa := Aside0.mk (Kd.R_below HRc.out hba)
                have HBSa := Aside0.mk (Nat.lt_of_lt_of_le HBSc.out hba.size)
                clear hba
                go_wp2_with (((with_reducible refine gate_builtin (b := .append) (xs := #[.tmp 93, .tmp 95]) rfl ?_); at_builtin; refine Kd.R_append (Kd.int .i64) (w0 := w5) w5.heap.size rfl (.tmp 93) (.tmp 95) 22 3 (.int .i64 0) 8 rfl Try.underlying22 info3 rfl (by decide) (by decide) (.slice RA m rc) (cvL n k m) c0 [.int .i64 c0] (fun k => k ≠ w5.heap.size) (fun _ => False) rfl rfl ?aP (fun _ hk => hk.elim) ?aF ?aO ?aB ?aS ?aL ?_; (case aP => exact rfl); (case aB => exact HBa.out); (case aF => exact (fun x hx => Nat.ne_of_gt (Nat.lt_of_lt_of_le HBSa.out hx))); (case aO => exact HRa.out); (case aS => exact HBa.out.size); (case aL => rw [cvL_length]; exact HLIM.out); intro v3 w3 ho hb_ hg_ hat; (rw [← HC0.out, ← cvL_succ] at ho); (obtain ⟨NA, nc, rfl⟩ := Kd.R_slice ho); (rw [cvL_length] at ho hat ⊢); (have HP := Aside0.mk (HSa.out.put k HK.out (.slice NA (m + 1) nc) _ (by rw [HV.out]; exact hg_) (by rw [HV.out]; exact hat) ho)); (have HB3 := Aside0.mk (hb_.setCell (p := ⟨w5.heap.size, k, none⟩) (Nat.le_refl _) (.slice NA (m + 1) nc))); (have f3 : w3.frozen? ⟨w5.heap.size, k, none⟩ = false := blk_frozen (blk_grown HSa.out.blk hg_ (fun he => by have h9 := (HSa.out.row k HK.out).1 w5.heap.size; rw [HV.out] at h9; exact h9 he.symm rfl)) k); (have c3 : ∃ u, w3.cell? ⟨w5.heap.size, k, none⟩ = some u := ⟨_, (blk_cell (blk_grown HSa.out.blk hg_ (fun he => by have h9 := (HSa.out.row k HK.out).1 w5.heap.size; rw [HV.out] at h9; exact h9 he.symm rfl)) k).trans (by rw [List.getElem?_toArray]; exact List.getElem?_eq_getElem (by rw [HSa.out.len]; exact HK.out))⟩); (obtain ⟨u3, c3⟩ := c3); clear ho hb_ hg_ hat))
                go_roundw
                case rel => exact ⟨m + 1, _, by have := HM.out; omega, by go_num, Aside0.mk (HP.out.congr fun j hj => by
                  unfold Lk
                  by_cases h1 : j = k
                  · rw [if_pos h1, h1, if_neg (Nat.lt_irrefl _), if_pos rfl]
                  · rw [if_neg h1]
                    by_cases h2 : j < k
                    · rw [if_pos h2, if_pos h2]
                    · rw [if_neg h2, if_neg h2, if_neg h1, if_neg h1]), HB3⟩
                case measure => have := HM.out; simp [intOf]; omega
              · obtain ⟨m', hm1⟩ : ∃ m', m = m' + 1 := ⟨m - 1, by omega⟩
                have n3 : (0 : Int) < (m : Int) := by omega
                obtain ⟨g0, g1, g2, g3⟩ := shl_f3 m' (by have := HM.out; omega)
                have e1 : IntKind.i64.wrap ((m : Int) - 1) = (m' : Int) := by rw [IntKind.wrap_i64]; have := HM.out; omega
                have e1' : wrap64 ((m : Int) - 1) = (m' : Int) := by unfold wrap64; have := HM.out; omega
                obtain ⟨htm, hpos, hcw, hcw2⟩ := lev_prev n k m m' HZ.out HK.out HM.out hm1
                rw [HC0.out] at htm
                obtain ⟨p0, hp0⟩ : ∃ p : Nat, 2 ^ m' = p := ⟨_, rfl⟩
                rw [hp0] at g0 g1 g2 g3 htm hpos
                obtain ⟨cp, hcp⟩ : ∃ c, cv n k m' = c := ⟨_, rfl⟩
                have hrd := (Kd.R_reads' HROW.out).2.2
                rw [cvL_length] at hrd
                obtain ⟨ra, hra, kr⟩ := int_at2 hrd m' (hm1 ▸ Nat.lt_succ_self m')
                subst hra
                rw [cvL_get n k _ m' (hm1 ▸ Nat.lt_succ_self m'), hcp] at kr
                rw [hcp] at htm hcw hcw2
                have tm0 : (0 : Int) ≤ (m' : Int) := by omega
                have tm1 : (m' : Int) < (m : Int) := by omega
                have tm2 : m' < m := by rw [hm1]; exact Nat.lt_succ_self m'
                have hpos2 : ¬ p0 = 0 := fun hq => hpos (by rw [hq]; rfl)
                have hpos3 : decide (p0 = 0) = false := decide_eq_false hpos2
                have hpos4 : decide ((p0 : Int) = 0) = false := decide_eq_false hpos
                have HKR := Aside0.mk kr
                have HRA := Aside0.mk (Kd.R_reads' HROW.out).2.1
                have n4 : decide (0 < m) = true := decide_eq_true hm0
                have n5 : 0 < m := hm0
                clear hm0 hm1 hp0 hcp hrd kr
                have HLIM := Aside0.mk (show (m + 1) * 8 ≤ 140737488355328 by have := HM.out; omega)
                go_wp2_with (go_at_call 29; (with_reducible refine (CCm.out _).mono ?_); rintro e wc ⟨rfl, hb⟩; (have HBc := Aside0.mk (below_step HBl.out hb)); (have HSc := Aside0.mk (HS.out.at hb)); (have HRc := Aside0.mk (Kd.R_below HROW.out hb)); (have kc := HCELL.out _ hb); (have HBSc := Aside0.mk (Nat.lt_of_lt_of_le HBS.out hb.size)); (have fc := blk_frozen (HSc.out.blk) k); (have kr := cell_stay2 HKR.out hb); clear hb)
                go_quiet (fail)
                have hba : Below wc.heap.size wc (wc.drewN nq) := pw_below_drewN (Below.refl _ _) nq
                have HBa := Aside0.mk (below_step HBc.out hba)
                have HSa := Aside0.mk (HSc.out.at hba)
                have HRa := Aside0.mk (Kd.R_below HRc.out hba)
                have HBSa := Aside0.mk (Nat.lt_of_lt_of_le HBSc.out hba.size)
                clear hba
                go_wp2_with (((with_reducible refine gate_builtin (b := .append) (xs := #[.tmp 93, .tmp 95]) rfl ?_); at_builtin; refine Kd.R_append (Kd.int .i64) (w0 := w5) w5.heap.size rfl (.tmp 93) (.tmp 95) 22 3 (.int .i64 0) 8 rfl Try.underlying22 info3 rfl (by decide) (by decide) (.slice (some ra) m rc) (cvL n k m) c0 [.int .i64 c0] (fun k => k ≠ w5.heap.size) (fun _ => False) rfl rfl ?aP (fun _ hk => hk.elim) ?aF ?aO ?aB ?aS ?aL ?_; (case aP => exact rfl); (case aB => exact HBa.out); (case aF => exact (fun x hx => Nat.ne_of_gt (Nat.lt_of_lt_of_le HBSa.out hx))); (case aO => exact HRa.out); (case aS => exact HBa.out.size); (case aL => rw [cvL_length]; exact HLIM.out); intro v3 w3 ho hb_ hg_ hat; (rw [← HC0.out, ← cvL_succ] at ho); (obtain ⟨NA, nc, rfl⟩ := Kd.R_slice ho); (rw [cvL_length] at ho hat ⊢); (have HP := Aside0.mk (HSa.out.put k HK.out (.slice NA (m + 1) nc) _ (by rw [HV.out]; exact hg_) (by rw [HV.out]; exact hat) ho)); (have HB3 := Aside0.mk (hb_.setCell (p := ⟨w5.heap.size, k, none⟩) (Nat.le_refl _) (.slice NA (m + 1) nc))); (have f3 : w3.frozen? ⟨w5.heap.size, k, none⟩ = false := blk_frozen (blk_grown HSa.out.blk hg_ (fun he => by have h9 := (HSa.out.row k HK.out).1 w5.heap.size; rw [HV.out] at h9; exact h9 he.symm rfl)) k); (have c3 : ∃ u, w3.cell? ⟨w5.heap.size, k, none⟩ = some u := ⟨_, (blk_cell (blk_grown HSa.out.blk hg_ (fun he => by have h9 := (HSa.out.row k HK.out).1 w5.heap.size; rw [HV.out] at h9; exact h9 he.symm rfl)) k).trans (by rw [List.getElem?_toArray]; exact List.getElem?_eq_getElem (by rw [HSa.out.len]; exact HK.out))⟩); (obtain ⟨u3, c3⟩ := c3); clear ho hb_ hg_ hat))
                go_roundw
                case rel => exact ⟨m + 1, _, by have := HM.out; omega, by go_num, Aside0.mk (HP.out.congr fun j hj => by
                  unfold Lk
                  by_cases h1 : j = k
                  · rw [if_pos h1, h1, if_neg (Nat.lt_irrefl _), if_pos rfl]
                  · rw [if_neg h1]
                    by_cases h2 : j < k
                    · rw [if_pos h2, if_pos h2]
                    · rw [if_neg h2, if_neg h2, if_neg h1, if_neg h1]), HB3⟩
                case measure => have := HM.out; simp [intOf]; omega
            · obtain rfl : m = 9 := by omega
              go_wp2
              go_roundw
              case rel => exact ⟨k + 1, vs, HK.out, by go_num, Aside0.mk (HS.out.congr fun j hj => by
                unfold Lk
                by_cases h1 : j < k
                · rw [if_pos h1, if_pos (by omega)]
                · rw [if_neg h1]
                  by_cases h2 : j = k
                  · rw [if_pos h2, if_pos (by omega)]
                  · rw [if_neg h2, if_neg (by omega)]
                    split
                    · rfl
                    · rfl), HBl⟩
              case measure => have := HK.out; simp [intOf]; omega
        · obtain rfl : k = n := by omega
          go_wp2
          have HBK := Aside0.mk (below_step HB5.out HBk.out)
          have HCK := Aside0.mk (Kd.C_below HC5.out HBk.out)
          have HROWS := Aside0.mk (show ∀ j, j < k → ∃ (g : Addr) (c : Nat), vs0.getD j nilS = .slice (some g) 9 c ∧ Kd.C (Kd.int .i64) wk (some g) 9 (cvL k j 9) from fun j hj => by
            have h9 := HS0.out.row j hj
            have hL : Lk k k 0 j = cvL k j 9 := by unfold Lk; rw [if_pos hj]
            rw [hL] at h9
            obtain ⟨g, c, hv, _, _, _⟩ := Kd.R_form h9 (by rw [cvL_length]; omega)
            rw [cvL_length] at hv
            rw [hv] at h9
            have h8 := (Kd.R_reads' h9).2.2
            rw [cvL_length] at h8
            exact ⟨⟨g, 0, none⟩, c, hv, h8⟩)
          have HCELLS := Aside0.mk (show ∀ j, j < k → wk.cell? ⟨w5.heap.size, j, none⟩ = some (vs0.getD j nilS) from fun j hj => HS0.out.cell j hj)
          go_loopw [10] (fun i wr => ∃ a : Nat, a ≤ k ∧ i = .int .i64 (a : Int) ∧ Aside0 (∃ d, wr = wk.drewN d)) (fun i _ => k - (intOf i).toNat)
          case atStart => exact ⟨0, Nat.zero_le _, rfl, ⟨0, rfl⟩⟩
          case round =>
            obtain ⟨a, ha, rfl, HDa⟩ := hrel
            obtain ⟨wa, rfl⟩ : ∃ wa : World, wa = wr := ⟨_, rfl⟩
            by_cases hla : a < k
            · have u1 : (a : Int) < (k : Int) := by omega
              have u0 : (0 : Int) ≤ (a : Int) := by omega
              have has : IntKind.i64.wrap ((a : Int) + 1) = (a : Int) + 1 := by rw [IntKind.wrap_i64]; omega
              have HLA := Aside0.mk hla
              go_wp2
              go_loopw [11] (fun i wr => ∃ b : Nat, b ≤ a ∧ i = .int .i64 (b : Int) ∧ Aside0 (∃ d, wr = wk.drewN d)) (fun i _ => a - (intOf i).toNat)
              case atStart => exact ⟨0, Nat.zero_le _, rfl, HDa⟩
              case round =>
                obtain ⟨b, hb, rfl, HDb⟩ := hrel
                obtain ⟨wb, rfl⟩ : ∃ wb : World, wb = wr := ⟨_, rfl⟩
                by_cases hlb : b < a
                · have v1 : (b : Int) < (a : Int) := by omega
                  have v0 : (0 : Int) ≤ (b : Int) := by omega
                  have v2 : (b : Int) < (k : Int) := by omega
                  have hbs : IntKind.i64.wrap ((b : Int) + 1) = (b : Int) + 1 := by rw [IntKind.wrap_i64]; omega
                  have hbk : b < k := by omega
                  have HLB := Aside0.mk hlb
                  have HBK2 := Aside0.mk hbk
                  obtain ⟨d, hd⟩ := HDb.out
                  have hbd : Below wk.heap.size wk wb := hd ▸ pw_below_drewN (Below.refl _ _) d
                  have HD := Aside0.mk hd
                  obtain ⟨ad, hA, ka⟩ := cx_at (Kd.C_below HCK.out hbd) a hla
                  subst hA
                  obtain ⟨bd, hB, kb⟩ := cx_at (Kd.C_below HCK.out hbd) b hbk
                  obtain rfl : ad = bd := Option.some.inj hB
                  rw [zt_getD k k a hla] at ka
                  rw [zt_getD k k b hbk] at kb
                  have hza : zAt k a = (fI (ptP k a).1, fI (ptP k a).2) := rfl
                  have hzb : zAt k b = (fI (ptP k b).1, fI (ptP k b).2) := rfl
                  rw [hza] at ka
                  rw [hzb] at kb
                  have hrun := run_diff k a b HZ.out hla hbk
                  have CN := Aside0.mk (fun w => norm_diff k a b HZ.out hla hbk w)
                  have HFL := Aside0.mk (fun l hl he => flt k a b l HZ.out hla hbk (by omega) hl he)
                  obtain ⟨D, hD⟩ : ∃ D, fI (dN k a b) = D := ⟨_, rfl⟩
                  rw [hD] at CN HFL
                  obtain ⟨⟨x1, x2⟩, hx⟩ : ∃ x : Int × Int, ptP k a = x := ⟨_, rfl⟩
                  obtain ⟨⟨y1, y2⟩, hy⟩ : ∃ x : Int × Int, ptP k b = x := ⟨_, rfl⟩
                  rw [hx] at ka hrun CN
                  rw [hy] at kb hrun CN
                  simp only at ka kb hrun CN
                  clear hd hbd hB hza hzb hD hx hy hla hlb hbk
                  go_wp2
                  go_quiet (first | (go_at_call 40; exact Calls.quiet_of_same (CN.out _)))
                  have HDq := Aside0.mk (show ∃ d, wb.drewN nq = wk.drewN d from ⟨d + nq, by rw [HD.out, World.drewN_drewN]⟩)
                  obtain ⟨wn, hwn⟩ : ∃ wn, wb.drewN nq = wn := ⟨_, rfl⟩
                  rw [hwn] at HDq ⊢
                  clear hwn ka kb hrun
                  go_wp2
                  go_loopw [13] (fun i wr => ∃ l : Nat, l ≤ 9 ∧ i = .int .i64 (l : Int) ∧ Aside0 (∃ d, wr = wk.drewN d)) (fun i _ => 9 - (intOf i).toNat)
                  case atStart => exact ⟨0, by omega, rfl, HDq⟩
                  case round =>
                    obtain ⟨l, hl, rfl, HDl⟩ := hrel
                    by_cases hll : l < 9
                    · have s1 : (l : Int) ≤ 8 := by omega
                      have s0 : (0 : Int) ≤ (l : Int) := by omega
                      have s2 : (l : Int) < 9 := by omega
                      have hls : IntKind.i64.wrap ((l : Int) + 1) = (l : Int) + 1 := by rw [IntKind.wrap_i64]; omega
                      obtain ⟨f3, f4, f5⟩ := shl_f4 l hll
                      obtain ⟨dl, hdl⟩ := HDl.out
                      have hbl : Below wk.heap.size wk wr := hdl ▸ pw_below_drewN (Below.refl _ _) dl
                      obtain ⟨ga, ca, hva, hCa⟩ := HROWS.out a HLA.out
                      obtain ⟨gb, cb, hvb, hCb⟩ := HROWS.out b HBK2.out
                      have ka := cell_stay2 (HCELLS.out a HLA.out) hbl
                      have kb := cell_stay2 (HCELLS.out b HBK2.out) hbl
                      rw [hva] at ka
                      rw [hvb] at kb
                      obtain ⟨pa, hpa, la⟩ := int_at2 (Kd.C_below hCa hbl) l hll
                      obtain ⟨pb, hpb, lb⟩ := int_at2 (Kd.C_below hCb hbl) l hll
                      obtain rfl := Option.some.inj hpa
                      obtain rfl := Option.some.inj hpb
                      rw [cvL_get k a 9 l hll] at la
                      rw [cvL_get k b 9 l hll] at lb
                      have hfl := HFL.out l (by omega)
                      obtain ⟨va, hvA⟩ : ∃ c, cv k a l = c := ⟨_, rfl⟩
                      obtain ⟨vb, hvB⟩ : ∃ c, cv k b l = c := ⟨_, rfl⟩
                      rw [hvA] at la hfl
                      rw [hvB] at lb hfl
                      obtain ⟨E, hE⟩ : ∃ E : Nat, 4 * 2 ^ l = E := ⟨_, rfl⟩
                      rw [hE] at f3 f4 f5 hfl
                      unfold fI at hfl
                      have HDl2 := Aside0.mk hdl
                      have HLL := Aside0.mk hll
                      clear hdl hbl hva hvb hCa hCb hpa hpb hvA hvB hE hll
                      by_cases he : va = vb
                      · subst he
                        have hfl2 := hfl rfl
                        clear hfl
                        go_wp2
                        go_quiet (fail)
                        go_wp2
                        go_roundw
                        case rel => exact ⟨l + 1, HLL.out, by go_num, ⟨dl + nq, by rw [HDl2.out, World.drewN_drewN]⟩⟩
                        case measure => have := HLL.out; simp [intOf]; omega
                      · have he2 : (va == vb) = false := by simpa using he
                        clear hfl
                        go_wp2
                        go_quiet (fail)
                        go_wp2
                        go_roundw
                        case rel => exact ⟨l + 1, HLL.out, by go_num, ⟨dl + nq, by rw [HDl2.out, World.drewN_drewN]⟩⟩
                        case measure => have := HLL.out; simp [intOf]; omega
                    · obtain rfl : l = 9 := by omega
                      go_wp2
                      go_roundw
                      case rel => exact ⟨b + 1, HLB.out, by go_num, HDl⟩
                      case measure => have := HLB.out; simp [intOf]; omega
                · obtain rfl : b = a := by omega
                  go_wp2
                  go_roundw
                  case rel => exact ⟨b + 1, HLA.out, by go_num, HDb⟩
                  case measure => have := HLA.out; simp [intOf]; omega
            · obtain rfl : a = k := by omega
              obtain ⟨d, hd⟩ := HDa.out
              have HE := Aside0.mk (below_step HBK.out (show Below wk.heap.size wk wa from hd ▸ pw_below_drewN (Below.refl _ _) d))
              clear hd
              go_wp2
              go_roundw
              case rel => exact ⟨q + 1, HQ.out, by go_num, HE⟩
              case measure => have := HQ.out; simp [intOf]; omega
    · obtain rfl : q = 6 := by omega
      go_wp2
      go_ret
      exact ⟨rfl, below_step HB1.out HBo.out⟩
end Go.Proofs.Ytopmlhihfchdhaa.Pure
