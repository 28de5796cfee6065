/- PointsNames: energies, bits, sums, norms; the limits of a row of points. -/
import Derived.Test.YtopmlhihfchdhaaFogx0
import Derived.Test.YtopmlhihfchdhaaNmTools
namespace Go.Proofs.Ytopmlhihfchdhaa.Pure
open Go.RowKit Go.Proofs.Ytopmlhihfchdhaa.Fog Go.Proofs.YtopmlhihfchdhaaW.PrintWords Go.Proofs.YtopmlhihfchdhaaW.PrintLast Go.Proofs.YtopmlhihfchdhaaW.PrintMore Go.Proofs.Ytopmlhihfchdhaa.Kit
set_option linter.unusedVariables false
set_option linter.unusedSimpArgs false
def wantN (j : Nat) : Int := [8, 160, 640, 2688, 10496, 43520].getD j 0
theorem wantN_eng : ∀ j, j < 6 → eng (szN j) (szN j) = wantN j
  | 0, _ => by decide +kernel
  | 1, _ => by decide +kernel
  | 2, _ => by decide +kernel
  | 3, _ => by decide +kernel
  | 4, _ => by decide +kernel
  | 5, _ => by decide +kernel
  | j + 6, h => absurd h (by omega)
theorem want_cell (w wr : World) (hb : Below (w.alloc (.cells #[.int .i64 8, .int .i64 160, .int .i64 640, .int .i64 2688, .int .i64 10496, .int .i64 43520] 3)).heap.size (w.alloc (.cells #[.int .i64 8, .int .i64 160, .int .i64 640, .int .i64 2688, .int .i64 10496, .int .i64 43520] 3)) wr) (j : Nat) (hj : j < 6) : wr.cell? ⟨w.heap.size, j, none⟩ = some (.int .i64 (wantN j)) := by
  rw [blk_cell (blk_below (blk_new w _) hb) j]
  match j, hj with
  | 0, _ => rfl
  | 1, _ => rfl
  | 2, _ => rfl
  | 3, _ => rfl
  | 4, _ => rfl
  | 5, _ => rfl
theorem bits_shl (n b : Nat) (h : isSz n) (hb : szB n = (b : Int)) : wrap64 (2 ^ b) = (n : Int) ∧ wrap64 (1 * 2 ^ b) = (n : Int) ∧ shl .i64 1 (b : Int) = (n : Int) ∧ IntKind.i64.wrap (2 ^ b) = (n : Int) ∧ Int.tmod (szE n) 2 = 1 ∧ szE n % 2 = 1 := by
  rcases h with rfl | rfl | rfl | rfl | rfl | rfl
  all_goals
    have hb2 : b = _ := (Int.ofNat.inj hb).symm
    subst hb2
    decide +kernel
theorem add_all' : ∀ i j : Fin 16, floatBits .add .f64 (fI ((i.val : Int) * i.val)) (fI ((j.val : Int) * j.val)) = some (fI ((i.val : Int) * i.val + (j.val : Int) * j.val)) := by decide +kernel
theorem add_sq' (x y : Int) (hx : -15 ≤ x ∧ x ≤ 15) (hy : -15 ≤ y ∧ y ≤ 15) : floatBits .add .f64 (fI (x * x)) (fI (y * y)) = some (fI (x * x + y * y)) := by
  have h := add_all' ⟨x.natAbs, by omega⟩ ⟨y.natAbs, by omega⟩
  have e1 : ((x.natAbs : Int)) * x.natAbs = x * x := Int.natAbs_mul_self' x
  have e2 : ((y.natAbs : Int)) * y.natAbs = y * y := Int.natAbs_mul_self' y
  rw [e1, e2] at h
  exact h
theorem norm_pt' (n i : Nat) (h : isSz n) (hi : i < n) (w : World) : Calls Try.prog 40 #[.complex .f64 (fI (ptP n i).1) (fI (ptP n i).2)] w fun r w' => r = .returned (.float .f64 (fI ((ptP n i).1 * (ptP n i).1 + (ptP n i).2 * (ptP n i).2))) ∧ Below w.heap.size w w' := by
  obtain ⟨p1, p2, p3, p4⟩ := pt_le n i h hi
  exact norm_calls _ _ _ _ _ (co_f _ p1 p2).1 (co_f _ p3 p4).1 (add_sq' _ _ ⟨p1, p2⟩ ⟨p3, p4⟩) w
theorem sq_le' (n k : Nat) (h : isSz n) (hk : k < n) : 0 ≤ (ptP n k).1 * (ptP n k).1 + (ptP n k).2 * (ptP n k).2 := by
  obtain ⟨p1, p2, p3, p4⟩ := pt_le n k h hk
  have s1 := sq_le _ p1 p2
  have s2 := sq_le _ p3 p4
  omega
def zP : Nat × Nat := (4636666922610458624, 0)
theorem lab99 : labV 256 zP = 256 := by decide +kernel
def bits0 : List Bool := List.replicate 32768 false
set_option maxHeartbeats 8000000 in
set_option maxRecDepth 100000 in
theorem PointsNames_walk (w : World) : Calls Try.prog 10 #[] w fun e w' => e = .returned (.bool true) ∧ Below w.heap.size w w' := by
  have HB0 := Aside0.mk ((Below.refl w.heap.size w).alloc (Nat.le_refl _) (.cells #[.int .i64 8, .int .i64 160, .int .i64 640, .int .i64 2688, .int .i64 10496, .int .i64 43520] 3))
  have HW0 := Aside0.mk (Below.refl (w.alloc (.cells #[.int .i64 8, .int .i64 160, .int .i64 640, .int .i64 2688, .int .i64 10496, .int .i64 43520] 3)).heap.size (w.alloc (.cells #[.int .i64 8, .int .i64 160, .int .i64 640, .int .i64 2688, .int .i64 10496, .int .i64 43520] 3)))
  have h256 : isSz 256 := .inr (.inr (.inr (.inr (.inr rfl))))
  obtain ⟨hwv, hbv, hsm⟩ := back_row 256 8 h256 rfl (by decide) (by decide) bits0 4096 (by unfold bits0; rw [List.length_replicate]) (by unfold bits0; rw [List.length_replicate]; decide)
  obtain ⟨zs, hzs⟩ : ∃ zs, rowP 256 ((List.range 4096).map (wordK bits0 8)) = zs := ⟨_, rfl⟩
  have hzl : zs.length = 4096 := by rw [← hzs, rowP_length, List.length_map, List.length_range]
  rw [hzs] at hbv
  have hb0 : bits0.length = 32768 := by unfold bits0; rw [List.length_replicate]
  obtain ⟨B0, hB0⟩ : ∃ B, bits0 = B := ⟨_, rfl⟩
  rw [hB0] at hwv hbv hb0 hzs
  have HREP := Aside0.mk (show List.replicate 32768 false = B0 from hB0)
  have CR := Aside0.mk (fun (A : Option Addr) (c : Nat) (W : World) (x : Kd.C Kd.bool W A 32768 B0) (y : 32768 ≤ c) => row_any 256 h256 A c 32768 B0 hb0 W x y)
  rw [show szB 256 = ((8 : Nat) : Int) from rfl, hwv] at CR
  simp only at CR
  rw [hzs] at CR
  have CR2 := Aside0.mk (fun (A : Option Addr) (c : Nat) (W : World) (x : Kd.C Kd.bool W A 32776 (List.replicate 32776 false)) (y : 32776 ≤ c) => row_any 256 h256 A c 32776 (List.replicate 32776 false) List.length_replicate W x y)
  rw [show wordsV (List.replicate 32776 false) (szB 256) = ([], 1) from by unfold wordsV; rw [if_neg (by rw [List.length_replicate]; decide)]] at CR2
  simp only at CR2
  have CK := Aside0.mk (fun (A : Option Addr) (c : Nat) (W : World) (x : Kd.C KC W A 4096 zs) (y : 4096 ≤ c) => back_any 256 h256 A c 4096 zs hzl W x y)
  rw [hbv] at CK
  simp only at CK
  have CK2 := Aside0.mk (fun (ys : List (Nat × Nat)) (hy : ys.length = 4097) (A : Option Addr) (c : Nat) (W : World) (x : Kd.C KC W A 4097 ys) (y : 4097 ≤ c) => (by
    have h9 := back_any 256 h256 A c 4097 ys hy W x y
    rw [backV_long 256 ys (by rw [hy]; decide)] at h9
    exact h9 : Calls Try.prog 34 #[.slice A 4097 c, .int .i64 ((256 : Nat) : Int)] W fun r w' => ∃ v, r = .returned (.tuple #[v, .int .i64 1]) ∧ Kd.R Kd.bool 4 w' W.heap.size (fun _ => True) v [] ∧ Below W.heap.size W w'))
  have CK3 := Aside0.mk (fun (A : Option Addr) (c : Nat) (W : World) (x : Kd.C KC W A 1 [zP]) (y : 1 ≤ c) => back_any 256 h256 A c 1 [zP] rfl W x y)
  rw [backV_bad 256 [zP] (by decide) 0 (by decide) (by show ¬ labV 256 zP < 256; rw [lab99]; decide)] at CK3
  simp only at CK3
  have HZL := Aside0.mk hzl
  have HBL := Aside0.mk hb0
  clear hwv hbv hsm hzs hzl hb0 hB0
  go_enter Try.func10, Try.ntmps10
  go_wp2_with (go_at_call 38; (with_reducible refine (works_calls _).mono ?_); rintro e w1 ⟨rfl, hb⟩; (have HB1 := Aside0.mk (below_step HB0.out hb)); (have HW1 := Aside0.mk hb); clear hb)
  go_loopw [2] (fun i wr => ∃ j : Nat, j ≤ 6 ∧ i = .int .i64 (j : Int) ∧ Aside0 (Below w1.heap.size w1 wr)) (fun i _ => 6 - (intOf i).toNat)
  case atStart => exact ⟨0, by omega, rfl, Aside0.mk (Below.refl _ _)⟩
  case round =>
    obtain ⟨j, hj, rfl, HBo⟩ := hrel
    obtain ⟨wo, rfl⟩ : ∃ wo : World, wo = wr := ⟨_, rfl⟩
    by_cases hlj : j < 6
    · have t1 : (j : Int) < 6 := by omega
      have t0 : (0 : Int) ≤ (j : Int) := by omega
      have hjs : IntKind.i64.wrap ((j : Int) + 1) = (j : Int) + 1 := by rw [IntKind.wrap_i64]; omega
      have h := szN_sz j hlj
      have hen := wantN_eng j hlj
      have CSz := Aside0.mk (fun w => size_nat j hlj w)
      have HWC := Aside0.mk (fun wr hb => want_cell w wr hb j hlj)
      obtain ⟨n, hn⟩ : ∃ n, szN j = n := ⟨_, rfl⟩
      rw [hn] at h hen CSz
      obtain ⟨b, hb, hb1, hb8⟩ := szB_nat n h
      obtain ⟨f1, f2, f3, f4, f5, f6⟩ := bits_shl n b h hb
      obtain ⟨he1, he2⟩ := ed_ok n h
      obtain ⟨hs1, hs2⟩ := sum_at n h
      have CE := Aside0.mk (fun w => energy_any n h w)
      rw [hen] at CE
      have CB := Aside0.mk (fun w => Bits_any n h w)
      rw [hb] at CB
      have CA := Aside0.mk (fun w => all_any n h w)
      have CD := Aside0.mk (fun w => Edge_any n h w)
      rw [he1] at CD f5 f6
      obtain ⟨ed, hed⟩ : ∃ ed, edN n = ed := ⟨_, rfl⟩
      rw [hed] at CD f5 f6 he2 hs1
      obtain ⟨wv, hwv⟩ : ∃ wv, wantN j = wv := ⟨_, rfl⟩
      rw [hwv] at CE HWC
      have HZ := Aside0.mk h
      have HS1 := Aside0.mk hs1
      have HS2 := Aside0.mk hs2
      have HE2 := Aside0.mk he2
      have HJ := Aside0.mk hlj
      have hbnn : (0 : Int) ≤ (b : Int) := by omega
      have hn256 := (sz_le h).2
      clear h hen hn hb he1 hed hwv hs1 hs2 he2 hlj
      go_wp2_with (first
        | (go_at_call 39; (with_reducible refine (CSz.out _).mono ?_); rintro e w2 ⟨rfl, hb⟩; (have HB2 := Aside0.mk (below_step HBo.out hb)); clear hb)
        | (go_at_call 19; (with_reducible refine (CE.out _).mono ?_); rintro e w3 ⟨rfl, hb⟩; (have HB3 := Aside0.mk (below_step HB2.out hb)); clear hb)
        | (go_at_call 15; (with_reducible refine (CB.out _).mono ?_); rintro e w4 ⟨rfl, hb⟩; (have HB4 := Aside0.mk (below_step HB3.out hb)); clear hb)
        | (go_at_call 13; (with_reducible refine (CA.out _).mono ?_); rintro e w5 ⟨A5, c5, rfl, hc, hR, hb⟩; (have HB5 := Aside0.mk (below_step HB4.out hb)); (have ha2 := (Kd.R_reads' hR).2.2); (rw [zt_length] at ha2); (have HC5 := Aside0.mk ha2); clear hc hR hb ha2)
        | (go_at_call 17; (with_reducible refine (CD.out _).mono ?_); rintro e w6 ⟨rfl, hb⟩; (have HB6 := Aside0.mk (below_step HB5.out hb)); (have HC6 := Aside0.mk (Kd.C_below HC5.out hb)); (have kw := HWC.out _ (below_step HW1.out HB6.out)); clear hb))
      clear f1 f2 f3 f4 f5 f6
      go_loopw [12, 13, 14] (fun v m i wx => ∃ k u : Nat, k ≤ n ∧ i = .int .i64 (k : Int) ∧ v = .complex .f64 (fI (sS n k).1) (fI (sS n k).2) ∧ m = .float .f64 (fI (u : Int)) ∧ u ≤ 2 * ed * ed ∧ Aside0 (Below w6.heap.size w6 wx)) (fun _ _ i _ => n - (intOf i).toNat)
      case atStart => exact ⟨0, 0, Nat.zero_le _, rfl, by show Value.complex .f64 0 0 = .complex .f64 (fI 0) (fI 0); rw [show fI 0 = 0 by decide +kernel], by show Value.float .f64 0 = .float .f64 (fI 0); rw [show fI 0 = 0 by decide +kernel], Nat.zero_le _, Aside0.mk (Below.refl _ _)⟩
      case round =>
        obtain ⟨k, u, hk, rfl, rfl, rfl, hu, HBm⟩ := hrel
        by_cases hlk : k < n
        · have t2 : (k : Int) < (n : Int) := by omega
          have t3 : (0 : Int) ≤ (k : Int) := by omega
          have hks : IntKind.i64.wrap ((k : Int) + 1) = (k : Int) + 1 := by rw [IntKind.wrap_i64]; omega
          obtain ⟨a1, a2, a3⟩ := HS1.out k hlk
          have hrun : ∀ w, (binOp .add 31 (.complex .f64 (fI (sS n k).1) (fI (sS n k).2)) (.complex .f64 (fI (ptP n k).1) (fI (ptP n k).2))).run Try.prog w = .ok (.complex .f64 (fI (sS n (k + 1)).1) (fI (sS n (k + 1)).2)) w := fun w => run_complex_sum w .add (.inl rfl) _ _ _ _ _ _ _ _ (by unfold cSumBits; rw [a1, a2]; rfl)
          obtain ⟨ad, hA, kz⟩ := cx_at (Kd.C_below HC6.out HBm.out) k hlk
          subst hA
          rw [zt_getD n n k hlk] at kz
          have hz : zAt n k = (fI (ptP n k).1, fI (ptP n k).2) := rfl
          rw [hz] at kz
          have CN := Aside0.mk (fun w => norm_pt' n k HZ.out hlk w)
          have q1 := sq_le' n k HZ.out hlk
          obtain ⟨nu, hnu⟩ : ∃ nu : Nat, (ptP n k).1 * (ptP n k).1 + (ptP n k).2 * (ptP n k).2 = (nu : Int) := ⟨((ptP n k).1 * (ptP n k).1 + (ptP n k).2 * (ptP n k).2).toNat, by omega⟩
          rw [hnu] at CN a3
          have hnub : nu ≤ 2 * ed * ed := by
            have e9 : ((2 * ed * ed : Nat) : Int) = 2 * (ed : Int) * (ed : Int) := by rw [Int.natCast_mul, Int.natCast_mul]; rfl
            rw [← e9] at a3
            omega
          obtain ⟨r, hmx, hr⟩ := max_two_fl Try.prog 33 33 33 (fI (u : Int)) (fI (nu : Int)) (ord_some _ _ (ofInt_notNan _) (ofInt_notNan _))
          have HR := Aside0.mk (show ∃ v : Nat, r = fI (v : Int) ∧ v ≤ 2 * ed * ed from by
            rcases hr with hr | hr
            · exact ⟨u, hr, hu⟩
            · exact ⟨nu, hr, hnub⟩)
          have HK := Aside0.mk hlk
          obtain ⟨X, hX⟩ : ∃ X, fI (u : Int) = X := ⟨_, rfl⟩
          obtain ⟨Y, hY⟩ : ∃ Y, fI (nu : Int) = Y := ⟨_, rfl⟩
          obtain ⟨⟨x1, x2⟩, hx⟩ : ∃ x : Int × Int, ptP n k = x := ⟨_, rfl⟩
          obtain ⟨⟨s1, s2⟩, hs⟩ : ∃ x : Int × Int, sS n k = x := ⟨_, rfl⟩
          obtain ⟨⟨u1, u2⟩, huu⟩ : ∃ x : Int × Int, sS n (k + 1) = x := ⟨_, rfl⟩
          have HUU := Aside0.mk huu
          rw [hY] at CN hmx
          rw [hX] at hmx ⊢
          rw [hx] at kz CN hrun
          rw [hs] at hrun ⊢
          rw [huu] at hrun
          simp only at kz CN hrun ⊢
          clear a1 a2 a3 hz hnu hr hnub q1 hX hY hx hs huu hu
          go_wp2_with (go_at_call 40; (with_reducible refine (CN.out _).mono ?_); rintro e w7 ⟨rfl, hb⟩; (have HB7 := Aside0.mk (below_step HBm.out hb)); clear hb)
          obtain ⟨v, rfl, hv⟩ := HR.out
          exact ⟨⟨k + 1, v, HK.out, by go_num, by rw [HUU.out], rfl, hv, HB7⟩, by show n - ((k : Int) + 1).toNat < n - (k : Int).toNat; omega⟩
        · obtain rfl : k = n := by omega
          have hed := HE2.out
          have hed15 : ed ≤ 15 := by
            have h9 := HE2.out
            simp only [List.mem_cons, List.not_mem_nil, or_false] at h9
            omega
          have hgt : (FloatKind.f64.format.order (fI (u : Int)) (fI ((2 * ed * ed : Nat) : Int)) == some .gt) = false := by
            have h450 : 2 * ed * ed ≤ 450 := by
              have : 2 * ed * ed ≤ 2 * 15 * 15 := Nat.mul_le_mul (Nat.mul_le_mul (Nat.le_refl _) hed15) hed15
              omega
            exact gt_all ed hed ⟨u, by omega⟩ hu
          have e9 : 2 * (ed : Int) * (ed : Int) = ((2 * ed * ed : Nat) : Int) := by rw [Int.natCast_mul, Int.natCast_mul]; rfl
          have g1 : IntKind.i64.wrap (2 * (ed : Int)) = 2 * (ed : Int) := by rw [IntKind.wrap_i64]; omega
          have g2 : IntKind.i64.wrap (2 * (ed : Int) * (ed : Int)) = ((2 * ed * ed : Nat) : Int) := by
            have : 2 * ed * ed ≤ 2 * 15 * 15 := Nat.mul_le_mul (Nat.mul_le_mul (Nat.le_refl _) hed15) hed15
            rw [e9, IntKind.wrap_i64]; omega
          have g3 : wrap64 (2 * (ed : Int)) = 2 * (ed : Int) := by unfold wrap64; omega
          have g4 : wrap64 (2 * (ed : Int) * (ed : Int)) = ((2 * ed * ed : Nat) : Int) := by
            have : 2 * ed * ed ≤ 2 * 15 * 15 := Nat.mul_le_mul (Nat.mul_le_mul (Nat.le_refl _) hed15) hed15
            rw [e9]; unfold wrap64; omega
          obtain ⟨Z, hZ⟩ : ∃ Z, 2 * ed * ed = Z := ⟨_, rfl⟩
          rw [hZ] at hgt g2 g4
          have hs0 := HS2.out
          have hf0 : fI 0 = 0 := by decide +kernel
          have ho0 : FloatKind.f64.format.order 0 0 = some .eq := by decide +kernel
          rw [hs0]
          simp only [hf0]
          unfold fI at hgt
          unfold fI
          have HBe := Aside0.mk (below_step HB6.out HBm.out)
          clear hs0 hf0 e9 hZ hed hed15 hu
          go_wp2
          go_roundw
          case rel => exact ⟨j + 1, HJ.out, by go_num, HBe⟩
          case measure => have := HJ.out; simp [intOf]; omega
    · obtain rfl : j = 6 := by omega
      obtain ⟨w10, hmk, hRm, hbm⟩ := make_bools 32768 (by decide) wo
      have hmk2 : (Instr.makeSlice 41 (.int .i64 32768) (.int .i64 32768)).run Try.prog wo = .ok (.slice (some ⟨wo.heap.size, 0, none⟩) 32768 32768) w10 := hmk
      have HB9 := Aside0.mk (below_step HB1.out HBo.out)
      have HB10 := Aside0.mk (below_step HB9.out hbm)
      have HRm := Aside0.mk hRm
      have hrd := (Kd.R_reads' hRm).2.2
      rw [HREP.out, HBL.out] at hrd
      have HM10 := Aside0.mk hrd
      have HS10 := Aside0.mk hbm.size
      have CRa := Aside0.mk (show ∀ (A : Option Addr) (c : Nat) (W : World), Kd.C Kd.bool W A 32768 B0 → 32768 ≤ c → Calls Try.prog 32 #[.slice A 32768 c, .int .i64 256] W fun r w' => ∃ v, r = .returned (.tuple #[v, .int .i64 0]) ∧ Kd.R KC 31 w' W.heap.size (fun _ => True) v zs ∧ Below W.heap.size W w' from CR.out)
      have CRb := Aside0.mk (show ∀ (A : Option Addr) (c : Nat) (W : World), Kd.C Kd.bool W A 32776 (List.replicate 32776 false) → 32776 ≤ c → Calls Try.prog 32 #[.slice A 32776 c, .int .i64 256] W fun r w' => ∃ v, r = .returned (.tuple #[v, .int .i64 1]) ∧ Kd.R KC 31 w' W.heap.size (fun _ => True) v (rowP 256 []) ∧ Below W.heap.size W w' from CR2.out)
      have CKa := Aside0.mk (show ∀ (A : Option Addr) (c : Nat) (W : World), Kd.C KC W A 4096 zs → 4096 ≤ c → Calls Try.prog 34 #[.slice A 4096 c, .int .i64 256] W fun r w' => ∃ v, r = .returned (.tuple #[v, .int .i64 0]) ∧ Kd.R Kd.bool 4 w' W.heap.size (fun _ => True) v B0 ∧ Below W.heap.size W w' from CK.out)
      have CKb := Aside0.mk (show ∀ (ys : List (Nat × Nat)), ys.length = 4097 → ∀ (A : Option Addr) (c : Nat) (W : World), Kd.C KC W A 4097 ys → 4097 ≤ c → Calls Try.prog 34 #[.slice A 4097 c, .int .i64 256] W fun r w' => ∃ v, r = .returned (.tuple #[v, .int .i64 1]) ∧ Kd.R Kd.bool 4 w' W.heap.size (fun _ => True) v [] ∧ Below W.heap.size W w' from CK2.out)
      have CKc := Aside0.mk (show ∀ (A : Option Addr) (c : Nat) (W : World), Kd.C KC W A 1 [zP] → 1 ≤ c → Calls Try.prog 34 #[.slice A 1 c, .int .i64 256] W fun r w' => ∃ v, r = .returned (.tuple #[v, .int .i64 6]) ∧ Kd.R Kd.bool 4 w' W.heap.size (fun _ => True) v [] ∧ Below W.heap.size W w' from CK3.out)
      clear hmk hRm hbm hrd
      go_wp2_with (first
        | (go_at_call 32; (with_reducible refine (CRa.out (some ⟨wo.heap.size, 0, none⟩) 32768 _ HM10.out (Nat.le_refl _)).mono ?_); rintro e w11 ⟨v11, rfl, hR, hb⟩; (obtain ⟨A11, c11, rfl⟩ := Kd.R_slice hR); (have hrd := Kd.R_reads' hR); (rw [HZL.out] at hrd ⊢); (have HC11 := Aside0.mk hrd.2.2); (have HK11 := Aside0.mk hrd.2.1); (have HB11 := Aside0.mk (below_step HB10.out hb)); (have HM11 := Aside0.mk (Kd.C_below HM10.out hb)); (obtain ⟨v12, w12, hap, hR12, hb12⟩ := zeros_grow 32768 8 (by decide) (by decide) wo.heap.size wo.heap.size w11 (Kd.R_below HRm.out hb) (Nat.le_trans HS10.out hb.size)); (obtain ⟨A12, c12, rfl⟩ := Kd.R_slice hR12); (rw [List.length_replicate] at hap hR12); (have hrd2 := Kd.R_reads' hR12); (rw [List.length_replicate] at hrd2); (have HAP := Aside0.mk hap); (have HD12 := Aside0.mk hrd2.2.2); (have HK12 := Aside0.mk hrd2.2.1); (have HBa := Aside0.mk hb12); clear hb hR hrd hap hR12 hb12 hrd2)
        | ((with_reducible refine gate_builtin (b := .append) (xs := #[.tmp 132, .const (.int .i64 8)]) rfl ?_); at_builtin; refine wp_append_is rfl (.tmp 132) (.const (.int .i64 8)) 41 3 rfl _ _ (.slice A12 32776 c12) rfl rfl (HAP.out _) ?_; (have HB12 := Aside0.mk (below_step HB11.out HBa.out)); (have HM12 := Aside0.mk (Kd.C_below HM11.out HBa.out)); (have HC12 := Aside0.mk (Kd.C_below HC11.out HBa.out)))
        | (go_at_call 32; (with_reducible refine (CRb.out A12 c12 _ HD12.out HK12.out).mono ?_); rintro e w13 ⟨v13, rfl, hR, hb⟩; (have HB13 := Aside0.mk (below_step HB12.out hb)); (have HM13 := Aside0.mk (Kd.C_below HM12.out hb)); (have HC13 := Aside0.mk (Kd.C_below HC12.out hb)); clear hb hR)
        | (go_at_call 34; (with_reducible refine (CKa.out A11 c11 _ HC13.out HK11.out).mono ?_); rintro e w14 ⟨v14, rfl, hR, hb⟩; (obtain ⟨A14, c14, rfl⟩ := Kd.R_slice hR); (have hrd := Kd.R_reads' hR); (rw [HBL.out] at hrd ⊢); (have HQ14 := Aside0.mk hrd.2.2); (have HK14 := Aside0.mk hrd.2.1); (have HB14 := Aside0.mk (below_step HB13.out hb)); (have HM14 := Aside0.mk (Kd.C_below HM13.out hb)); (have HC14 := Aside0.mk (Kd.C_below HC13.out hb)); clear hb hR hrd))
      have hc11 : (1 : Int) ≤ (c11 : Int) := by have := HK11.out; omega
      have HL27 := Aside0.mk (show (zs ++ zs.take 1).length = 4097 by rw [List.length_append, List.length_take, HZL.out]; rfl)
      have HT1 := Aside0.mk (show ∀ W, Below w14.heap.size w14 W → Kd.C KC W A11 1 (zs.take 1) from fun W hB => by
        have h9 := Kd.C_below HC14.out hB
        rw [← HZL.out] at h9
        have h8 := Kd.C_take (m := 1) h9 (by rw [HZL.out]; decide)
        rw [List.length_take, HZL.out] at h8
        exact h8)
      refine start_ (n := 15) (S := fun w' => Below w14.heap.size w14 w') (ds := []) #[false, false, false, false, false, false, false, false, false, false, false, false, false, false, false] (by kernel_rfl) rfl rfl ((Below.refl w14.heap.size w14).drew) (fun hHeld => ?_)
      generalize w14.drew = w14d at hHeld ⊢
      refine pure_ (i := 1) (N := some 144) (v := ?_) (a' := ?_) #[false, true, false, false, false, false, false, false, false, false, false, false, false, false, false] rfl rfl (by kernel_rfl) (fun _ _ _ h => h) (Or.inl ⟨by rfl, ?_⟩) ?_ ?_
      rotate_left
      · intro w'
        go_simp
        with_reducible rfl
      rotate_left
      · (try show Act.put _ _ _ = _); simp only [Act.put, List.setIfInBounds_toArray, List.set_cons_zero, List.set_cons_succ, i64_w, i32_w]
        rfl
      refine pure_ (i := 3) (N := some 146) (v := ?_) (a' := ?_) #[false, true, false, true, false, false, false, false, false, false, false, false, false, false, false] rfl rfl (by kernel_rfl) (fun _ _ _ h => h) (Or.inl ⟨by rfl, ?_⟩) ?_ ?_
      rotate_left
      · intro w'
        go_simp
        with_reducible rfl
      rotate_left
      · (try show Act.put _ _ _ = _); simp only [Act.put, List.setIfInBounds_toArray, List.set_cons_zero, List.set_cons_succ, i64_w, i32_w]
        rfl
      refine pure_ (i := 4) (N := some 147) (v := ?_) (a' := ?_) #[false, true, false, true, true, false, false, false, false, false, false, false, false, false, false] rfl rfl (by kernel_rfl) (fun _ _ _ h => h) (Or.inl ⟨by rfl, ?_⟩) ?_ ?_
      rotate_left
      · intro w'
        go_simp
        with_reducible rfl
      rotate_left
      · (try show Act.put _ _ _ = _); simp only [Act.put, List.setIfInBounds_toArray, List.set_cons_zero, List.set_cons_succ, i64_w, i32_w]
        rfl
      refine pure_ (i := 5) (N := some 148) (v := ?_) (a' := ?_) #[false, true, false, true, true, true, false, false, false, false, false, false, false, false, false] rfl rfl (by kernel_rfl) (fun _ _ _ h => h) (Or.inl ⟨by rfl, ?_⟩) ?_ ?_
      rotate_left
      · intro w'
        go_simp
        with_reducible rfl
      rotate_left
      · (try show Act.put _ _ _ = _); simp only [Act.put, List.setIfInBounds_toArray, List.set_cons_zero, List.set_cons_succ, i64_w, i32_w]
        rfl
      refine pure_ (i := 6) (N := some 149) (v := ?_) (a' := ?_) #[false, true, false, true, true, true, true, false, false, false, false, false, false, false, false] rfl rfl (by kernel_rfl) (fun _ _ _ h => h) (Or.inl ⟨by rfl, ?_⟩) ?_ ?_
      rotate_left
      · intro w'
        go_simp
        with_reducible rfl
      rotate_left
      · (try show Act.put _ _ _ = _); simp only [Act.put, List.setIfInBounds_toArray, List.set_cons_zero, List.set_cons_succ, i64_w, i32_w]
        rfl
      refine pure_ (i := 7) (N := some 150) (v := ?_) (a' := ?_) #[false, true, false, true, true, true, true, true, false, false, false, false, false, false, false] rfl rfl (by kernel_rfl) (fun _ _ _ h => h) (Or.inl ⟨by rfl, ?_⟩) ?_ ?_
      rotate_left
      · intro w'
        go_simp
        with_reducible rfl
      rotate_left
      · (try show Act.put _ _ _ = _); simp only [Act.put, List.setIfInBounds_toArray, List.set_cons_zero, List.set_cons_succ, i64_w, i32_w]
        rfl
      refine one_ (i := 0) (N := some 143) #[true, true, false, true, true, true, true, true, false, false, false, false, false, false, false] rfl rfl (by kernel_rfl) (by decide) (fun K hK => ?_)
      refine Kd.R_lit_step KC (w0 := w14) w14.heap.size 31 (by rfl) (N := 143) rfl (xs := ([] : List (Nat × Nat))) (inner := []) (ok := fun _ => True) (okp := fun _ => True) ?hr ?hp (fun _ hk => hk) trivial hHeld hHeld.size (by simp) ?_
      (case hr => first | (go_simp; done) | (go_simp; rfl))
      (case hp => exact (Reps.none _ _))
      intro vl wl ho hb hg_ hnew_
      clear hg_ hnew_ hHeld
      have HLo := Aside0.mk ho
      have hHeld2 := hb
      clear ho hb
      refine hK.out _ _ (hHeld2) (fun hHeld => ?_)
      clear hK K
      refine norm_ (a' := ?_) ?_ ?_
      rotate_left
      · show Act.put _ (some 143) _ = _
        simp only [Act.put, List.setIfInBounds_toArray, List.set_cons_zero, List.set_cons_succ, i64_w, i32_w]
        rfl
      refine one_ (i := 2) (N := some 145) #[true, true, true, true, true, true, true, true, false, false, false, false, false, false, false] rfl rfl (by kernel_rfl) (by decide) (fun K hK => ?_)
      refine Kd.R_append_rows_step KC (w0 := w14) w14.heap.size (by rfl) (.tmp 143) (.tmp 144) 24 31 (.complex .f64 0 0) 16 rfl Try.underlying24 cxInfo rfl (by decide) (by decide) vl [] zs _ _ _ (fun _ => True) (fun _ => False) rfl rfl ?aO ?aR (fun _ _ h => h) (fun _ h => h.elim) ?aF ?aB ?aS ?aL ?_
      (case aR => exact Kd.C_below HC14.out hHeld)
      (case aB => exact hHeld)
      (case aF => exact (fun _ _ => trivial))
      (case aO => exact HLo.out)
      (case aS => exact hHeld.size)
      (case aL => decide)
      intro vm wm ho hb hg hat
      clear hg hat hHeld
      have HOm := Aside0.mk (show Kd.R KC 31 wm w14.heap.size (fun _ => True) vm zs from ho)
      have hHeld2 := hb
      clear ho hb
      refine hK.out _ _ (hHeld2) (fun hHeld => ?_)
      clear hK K
      refine norm_ (a' := ?_) ?_ ?_
      rotate_left
      · show Act.put _ (some 145) _ = _
        simp only [Act.put, List.setIfInBounds_toArray, List.set_cons_zero, List.set_cons_succ, i64_w, i32_w]
        rfl
      refine one_ (i := 8) (N := some 151) #[true, true, true, true, true, true, true, true, true, false, false, false, false, false, false] rfl rfl (by kernel_rfl) (by decide) (fun K hK => ?_)
      refine Kd.R_append_rows_step KC (w0 := w14) w14.heap.size (by rfl) (.tmp 145) (.tmp 150) 24 31 (.complex .f64 0 0) 16 rfl Try.underlying24 cxInfo rfl (by decide) (by decide) vm zs (zs.take 1) _ _ _ (fun _ => True) (fun _ => False) rfl rfl ?aO ?aR (fun _ _ h => h) (fun _ h => h.elim) ?aF ?aB ?aS ?aL ?_
      (case aR => exact HT1.out _ hHeld)
      (case aB => exact hHeld)
      (case aF => exact (fun _ _ => trivial))
      (case aO => exact HOm.out)
      (case aS => exact hHeld.size)
      (case aL => rw [HZL.out]; decide)
      intro vn wn ho hb hg hat
      clear hg hat hHeld
      obtain ⟨A27, c27, rfl⟩ := Kd.R_slice ho
      have hrd := Kd.R_reads' ho
      rw [HL27.out] at hrd ⊢
      have HY27 := Aside0.mk hrd.2.2
      have HK27 := Aside0.mk hrd.2.1
      have hHeld2 := hb
      clear ho hb hrd
      refine hK.out _ _ (hHeld2) (fun hHeld => ?_)
      clear hK K
      refine norm_ (a' := ?_) ?_ ?_
      rotate_left
      · show Act.put _ (some 151) _ = _
        simp only [Act.put, List.setIfInBounds_toArray, List.set_cons_zero, List.set_cons_succ, i64_w, i32_w]
        rfl
      refine one_ (i := 9) (N := some 152) #[true, true, true, true, true, true, true, true, true, true, false, false, false, false, false] rfl rfl (by kernel_rfl) (by decide) (fun K hK => ?_)
      refine goes_ Try.func34 (by kernel_rfl) rfl #[.slice A27 4097 c27, .int .i64 256] (by rfl) rfl rfl (by (try simp only [List.map_toArray, List.map_cons, List.map_nil]); first | done | rfl) ?_
      refine (CKb.out (zs ++ zs.take 1) HL27.out A27 c27 _ HY27.out HK27.out).mono ?_
      rintro e w15 ⟨v27, rfl, hR, hb⟩
      refine ⟨_, rfl, ?_⟩
      have hHeld2 := below_step hHeld hb
      clear hb hHeld hR
      refine hK.out _ _ (hHeld2) (fun hHeld => ?_)
      clear hK K
      refine norm_ (a' := ?_) ?_ ?_
      rotate_left
      · show Act.put _ (some 152) _ = _
        simp only [Act.put, List.setIfInBounds_toArray, List.set_cons_zero, List.set_cons_succ, i64_w, i32_w]
        rfl
      refine pure_ (i := 10) (N := some 142) (v := ?_) (a' := ?_) #[true, true, true, true, true, true, true, true, true, true, true, false, false, false, false] rfl rfl (by kernel_rfl) (fun _ _ _ h => h) (Or.inl ⟨by rfl, ?_⟩) ?_ ?_
      rotate_left
      · intro w'
        go_simp
        with_reducible rfl
      rotate_left
      · (try show Act.put _ _ _ = _); simp only [Act.put, List.setIfInBounds_toArray, List.set_cons_zero, List.set_cons_succ, i64_w, i32_w]
        rfl
      refine pure_ (i := 11) (N := some 153) (v := ?_) (a' := ?_) #[true, true, true, true, true, true, true, true, true, true, true, true, false, false, false] rfl rfl (by kernel_rfl) (fun _ _ _ h => h) (Or.inl ⟨by rfl, ?_⟩) ?_ ?_
      rotate_left
      · intro w'
        go_simp
        with_reducible rfl
      rotate_left
      · (try show Act.put _ _ _ = _); simp only [Act.put, List.setIfInBounds_toArray, List.set_cons_zero, List.set_cons_succ, i64_w, i32_w]
        rfl
      refine pure_ (i := 13) (N := some 22) (v := ?_) (a' := ?_) #[true, true, true, true, true, true, true, true, true, true, true, true, false, true, false] rfl rfl (by kernel_rfl) (fun _ _ _ h => h) (Or.inl ⟨by rfl, ?_⟩) ?_ ?_
      rotate_left
      · intro w'
        go_simp
        with_reducible rfl
      rotate_left
      · (try show Act.put _ _ _ = _); simp only [Act.put, List.setIfInBounds_toArray, List.set_cons_zero, List.set_cons_succ, i64_w, i32_w]
        rfl
      refine pure_ (i := 12) (N := some 154) (v := ?_) (a' := ?_) #[true, true, true, true, true, true, true, true, true, true, true, true, true, true, false] rfl rfl (by kernel_rfl) (fun _ _ _ h => h) (Or.inl ⟨by rfl, ?_⟩) ?_ ?_
      rotate_left
      · intro w'
        go_simp
        with_reducible rfl
      rotate_left
      · (try show Act.put _ _ _ = _); simp only [Act.put, List.setIfInBounds_toArray, List.set_cons_zero, List.set_cons_succ, i64_w, i32_w]
        rfl
      refine pure_ (i := 14) (N := some 23) (v := ?_) (a' := ?_) #[true, true, true, true, true, true, true, true, true, true, true, true, true, true, true] rfl rfl (by kernel_rfl) (fun _ _ _ h => h) (Or.inl ⟨by rfl, ?_⟩) ?_ ?_
      rotate_left
      · intro w'
        go_simp
        with_reducible rfl
      rotate_left
      · (try show Act.put _ _ _ = _); simp only [Act.put, List.setIfInBounds_toArray, List.set_cons_zero, List.set_cons_succ, i64_w, i32_w]
        rfl
      refine done_ (by kernel_rfl) ?_
      have HB15 := Aside0.mk (below_step HB14.out hHeld)
      have HM15 := Aside0.mk (Kd.C_below HM14.out hHeld)
      have HC15 := Aside0.mk (Kd.C_below HC14.out hHeld)
      have HQ15 := Aside0.mk (Kd.C_below HQ14.out hHeld)
      clear hHeld
      go_wp2_with (first
        | ((with_reducible refine gate_dst (N := 156) rfl ?_); refine Kd.R_lit KC _ 31 ?hg (N := 156) ?hd (xs := ([] : List (Nat × Nat))) (inner := []) (ok := fun _ => True) (okp := fun _ => True) ?hr ?hp (fun _ hk => hk) trivial (Below.refl _ _) (Nat.le_refl _) (by simp) ?_; (case hd => rfl); (case hg => rfl); (case hr => first | (go_simp; done) | (go_simp; rfl)); (case hp => exact (Reps.none _ _)); intro vl wl ho hb hg_ hnew_; clear hg_ hnew_; (have HLo := Aside0.mk ho); (have HLb := Aside0.mk hb); clear ho hb)
        | ((with_reducible refine gate_builtin (b := .append) (xs := #[.tmp 156, .tmp 157]) rfl ?_); at_builtin; refine Kd.R_append_rows KC (w0 := w15) w15.heap.size rfl (.tmp 156) (.tmp 157) 24 31 (.complex .f64 0 0) 16 rfl Try.underlying24 cxInfo rfl (by decide) (by decide) vl [] zs _ _ _ (fun _ => True) (fun _ => False) rfl rfl ?aO ?aR (fun _ _ h => h) (fun _ h => h.elim) ?aF ?aB ?aS ?aL ?_; (case aR => exact Kd.C_below HC15.out HLb.out); (case aB => exact HLb.out); (case aF => exact (fun _ _ => trivial)); (case aO => exact HLo.out); (case aS => exact HLb.out.size); (case aL => decide); intro vn w16 ho hb hg hat; clear hg hat; (have HOn := Aside0.mk (show Kd.R KC 31 w16 w15.heap.size (fun _ => True) vn zs from ho)); (have HBn := Aside0.mk hb); clear ho hb)
        | ((with_reducible refine gate_builtin (b := .append) (xs := #[.tmp 158, .tmp 159]) rfl ?_); at_builtin; refine Kd.R_append KC (w0 := w15) w15.heap.size rfl (.tmp 158) (.tmp 159) 24 31 (.complex .f64 0 0) 16 rfl Try.underlying24 cxInfo rfl (by decide) (by decide) vn zs zP [.complex .f64 4636666922610458624 0] (fun _ => True) (fun _ => False) rfl rfl ?aP (fun _ hk => hk.elim) ?aF ?aO ?aB ?aS ?aL ?_; (case aP => exact rfl); (case aB => exact HBn.out); (case aF => exact (fun _ _ => trivial)); (case aO => exact HOn.out); (case aS => exact HBn.out.size); (case aL => rw [HZL.out]; decide); intro vk w17 ho hb hg_ hat; clear hg_ hat; (obtain ⟨A17, c17, rfl⟩ := Kd.R_slice ho); (have hrd := Kd.R_reads' ho); (have hl9 : (zs ++ [zP]).length = 4097 := by rw [List.length_append, HZL.out]; rfl); (rw [hl9] at hrd ⊢); (have HY17 := Aside0.mk hrd.2.2); (have HK17 := Aside0.mk hrd.2.1); (have HL17 := Aside0.mk hl9); (have HB17 := Aside0.mk (below_step HB15.out hb)); (have HM17 := Aside0.mk (Kd.C_below HM15.out hb)); (have HC17 := Aside0.mk (Kd.C_below HC15.out hb)); (have HQ17 := Aside0.mk (Kd.C_below HQ15.out hb)); clear ho hb hrd hl9)
        | (go_at_call 34; (with_reducible refine (CKb.out (zs ++ [zP]) HL17.out A17 c17 _ HY17.out HK17.out).mono ?_); rintro e w18 ⟨v18, rfl, hR, hb⟩; (have HB18 := Aside0.mk (below_step HB17.out hb)); (have HM18 := Aside0.mk (Kd.C_below HM17.out hb)); (have HC18 := Aside0.mk (Kd.C_below HC17.out hb)); (have HQ18 := Aside0.mk (Kd.C_below HQ17.out hb)); (have HB19 := Aside0.mk (below_step HB18.out ((Below.refl w18.heap.size w18).alloc (Nat.le_refl _) (.cells #[.complex .f64 4636666922610458624 0] 31)))); (have HM19 := Aside0.mk (Kd.C_below HM18.out ((Below.refl w18.heap.size w18).alloc (Nat.le_refl _) (.cells #[.complex .f64 4636666922610458624 0] 31)))); (have HQ19 := Aside0.mk (Kd.C_below HQ18.out ((Below.refl w18.heap.size w18).alloc (Nat.le_refl _) (.cells #[.complex .f64 4636666922610458624 0] 31)))); (have HY19 := Aside0.mk (show Kd.C KC (w18.alloc (.cells #[.complex .f64 4636666922610458624 0] 31)) (some ⟨w18.heap.size, 0, none⟩) 1 [zP] from lit_scalar cx (fun _ => rfl) w18 31 [zP] (by decide))); clear hb hR)
        | (go_at_call 34; (with_reducible refine (CKc.out (some ⟨w18.heap.size, 0, none⟩) 1 _ HY19.out (Nat.le_refl _)).mono ?_); rintro e w20 ⟨v20, rfl, hR, hb⟩; (have HB20 := Aside0.mk (below_step HB19.out hb)); (have HM20 := Aside0.mk (Kd.C_below HM19.out hb)); (have HQ20 := Aside0.mk (Kd.C_below HQ19.out hb)); clear hb hR)
        | (go_at_call 36; (with_reducible refine (same_n A14 c14 (some ⟨wo.heap.size, 0, none⟩) 32768 32768 B0 _ HBL.out HQ20.out HK14.out HM20.out (Nat.le_refl _) (by decide)).mono ?_); rintro e w21 ⟨rfl, hb⟩; (have HB21 := Aside0.mk (below_step HB20.out hb)); clear hb))
      go_ret
      exact ⟨rfl, HB21.out⟩
end Go.Proofs.Ytopmlhihfchdhaa.Pure
