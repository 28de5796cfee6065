/- PointsGray: in all squares neighbours have labels that differ in one bit. -/
import Derived.Laws.ComplexArith
import Derived.Test.YtopmlhihfchdhaaFogx0
import Derived.Test.YtopmlhihfchdhaaWorks
namespace Go.Proofs.Ytopmlhihfchdhaa.Pure
open Go.RowKit Go.Proofs.Ytopmlhihfchdhaa.Fog Go.Proofs.YtopmlhihfchdhaaW.PrintWords Go.Proofs.YtopmlhihfchdhaaW.PrintLast Go.Proofs.YtopmlhihfchdhaaW.PrintMore Go.Proofs.Ytopmlhihfchdhaa.Kit
set_option linter.unusedVariables false
set_option linter.unusedSimpArgs false
def qN (j : Nat) : Nat := [4, 16, 64, 256].getD j 0
theorem qN_sz : ∀ j, j < 4 → isSz (qN j) ∧ qN j ∈ [4, 16, 64, 256]
  | 0, _ => ⟨.inl rfl, by decide⟩
  | 1, _ => ⟨.inr (.inl rfl), by decide⟩
  | 2, _ => ⟨.inr (.inr (.inr (.inl rfl))), by decide⟩
  | 3, _ => ⟨.inr (.inr (.inr (.inr (.inr rfl)))), by decide⟩
  | j + 4, h => absurd h (by omega)
/-- The label of a point of a square, reckoned. -/
def grJ (n : Nat) (p : Int × Int) : Nat :=
  (((p.1 + szE n) / 2).toNat ^^^ (((p.1 + szE n) / 2).toNat / 2)) * 2 ^ ((szB n).toNat / 2) + (((p.2 + szE n) / 2).toNat ^^^ (((p.2 + szE n) / 2).toNat / 2))
/-- The neighbour. -/
def nbr (p : Int × Int) (b : Nat) : Int × Int := if b = 0 then (p.1 + 2, p.2) else (p.1, p.2 + 2)
def grayOk (n k b : Nat) : Bool := decide (szE n < (nbr (ptP n k) b).1 ∨ szE n < (nbr (ptP n k) b).2 ∨ (grJ n (nbr (ptP n k) b) < n ∧ ptP n (grJ n (nbr (ptP n k) b)) = nbr (ptP n k) b ∧ ((grJ n (nbr (ptP n k) b) ^^^ k) ≠ 0 ∧ (grJ n (nbr (ptP n k) b) ^^^ k) < 256) ∧ Go.bits .xor .i64 (grJ n (nbr (ptP n k) b) : Int) (k : Int) = ((grJ n (nbr (ptP n k) b) ^^^ k : Nat) : Int) ∧ Go.bits .and .u64 ((grJ n (nbr (ptP n k) b) ^^^ k : Nat) : Int) (((grJ n (nbr (ptP n k) b) ^^^ k : Nat) : Int) - 1) = 0))
set_option maxRecDepth 100000 in
theorem gray_all : ∀ n ∈ [4, 16, 64, 256], ((List.range n).all fun k => grayOk n k 0 && grayOk n k 1) = true := by decide +kernel
theorem gray_ok (n k b : Nat) (h : n ∈ [4, 16, 64, 256]) (hk : k < n) (hb : b < 2) : grayOk n k b = true := by
  have h1 := gray_all n h
  rw [List.all_eq_true] at h1
  have h2 := h1 k (List.mem_range.2 hk)
  rw [Bool.and_eq_true] at h2
  match b, hb with
  | 0, _ => exact h2.1
  | 1, _ => exact h2.2
def edgeOk (n : Nat) : Bool := (List.range n).all fun i => decide ((ptP n i).1 ≤ szE n ∧ (ptP n i).2 ≤ szE n)
theorem edge_all : ∀ n ∈ [4, 16, 32, 64, 128, 256], edgeOk n = true := by decide +kernel
theorem pt_edge (n i : Nat) (h : isSz n) (hi : i < n) : (ptP n i).1 ≤ szE n ∧ (ptP n i).2 ≤ szE n := by
  have h1 := edge_all n (by rcases h with rfl | rfl | rfl | rfl | rfl | rfl <;> decide)
  unfold edgeOk at h1
  rw [List.all_eq_true] at h1
  exact of_decide_eq_true (h1 i (List.mem_range.2 hi))
theorem szE_le (n : Nat) (h : isSz n) : 1 ≤ szE n ∧ szE n ≤ 15 := by rcases h with rfl | rfl | rfl | rfl | rfl | rfl <;> decide
theorem fI_eq17 : ∀ i j : Fin 35, (FloatKind.f64.format.order (fI ((i.val : Int) - 17)) (fI ((j.val : Int) - 17)) == some .eq) = decide (i = j) ∧ (FloatKind.f64.format.order (fI ((i.val : Int) - 17)) (fI ((j.val : Int) - 17)) == some .gt) = decide (j < i) := by decide +kernel
theorem fI_cmp (a b : Int) (h0 : -17 ≤ a ∧ a ≤ 17) (h1 : -17 ≤ b ∧ b ≤ 17) : (FloatKind.f64.format.order (fI a) (fI b) == some .eq) = decide (a = b) ∧ (FloatKind.f64.format.order (fI a) (fI b) == some .gt) = decide (b < a) := by
  have h := fI_eq17 ⟨(a + 17).toNat, by omega⟩ ⟨(b + 17).toNat, by omega⟩
  have e1 : (((⟨(a + 17).toNat, by omega⟩ : Fin 35).val : Int)) - 17 = a := by simp only; omega
  have e2 : (((⟨(b + 17).toNat, by omega⟩ : Fin 35).val : Int)) - 17 = b := by simp only; omega
  rw [e1, e2] at h
  refine ⟨h.1.trans ?_, h.2.trans ?_⟩
  · congr 1
    rw [Fin.mk.injEq]
    exact propext ⟨fun h => by omega, fun h => by omega⟩
  · congr 1
    rw [Fin.mk_lt_mk]
    exact propext ⟨fun h => by omega, fun h => by omega⟩
theorem fadd_all : ∀ i : Fin 31, floatBits .add .f64 (fI ((i.val : Int) - 15)) 4611686018427387904 = some (fI ((i.val : Int) - 15 + 2)) ∧ floatBits .add .f64 (fI ((i.val : Int) - 15)) 0 = some (fI ((i.val : Int) - 15)) := by decide +kernel
theorem fadd (a : Int) (h : -15 ≤ a ∧ a ≤ 15) : floatBits .add .f64 (fI a) 4611686018427387904 = some (fI (a + 2)) ∧ floatBits .add .f64 (fI a) 0 = some (fI a) := by
  have h2 := fadd_all ⟨(a + 15).toNat, by omega⟩
  have e : (((⟨(a + 15).toNat, by omega⟩ : Fin 31).val : Int)) - 15 = a := by simp only; omega
  rw [e] at h2
  exact h2
/-- The two steps. -/
def byV (b : Nat) : Nat × Nat := if b = 0 then (4611686018427387904, 0) else (0, 4611686018427387904)
theorem run_by (p : Int × Int) (b : Nat) (hp : (-15 ≤ p.1 ∧ p.1 ≤ 15) ∧ -15 ≤ p.2 ∧ p.2 ≤ 15) (w : World) : (binOp .add 31 (.complex .f64 (fI p.1) (fI p.2)) (.complex .f64 (byV b).1 (byV b).2)).run Try.prog w = .ok (.complex .f64 (fI (nbr p b).1) (fI (nbr p b).2)) w := by
  obtain ⟨a1, a2⟩ := fadd p.1 hp.1
  obtain ⟨b1, b2⟩ := fadd p.2 hp.2
  refine run_complex_sum w .add (.inl rfl) _ _ _ _ _ _ _ _ ?_
  unfold cSumBits byV nbr
  by_cases hb : b = 0
  · rw [if_pos hb, if_pos hb]; simp only [a1, b2, Option.bind_some]
  · rw [if_neg hb, if_neg hb]; simp only [a2, b1, Option.bind_some]
theorem cell_stay {w w' : World} {a : Addr} {v : Value} (h : w.cell? a = some v) (hb : Below w.heap.size w w') : w'.cell? a = some v := by
  by_cases hl : a.block < w.heap.size
  · exact (hb.cell hl).trans h
  · have e : w.heap[a.block]? = none := by simp; omega
    unfold World.cell? at h
    simp [e] at h
theorem lit4_cell (w1 wr : World) (hb : Below (w1.alloc (.cells #[.int .i64 4, .int .i64 16, .int .i64 64, .int .i64 256] 3)).heap.size (w1.alloc (.cells #[.int .i64 4, .int .i64 16, .int .i64 64, .int .i64 256] 3)) wr) (j : Nat) (hj : j < 4) : wr.cell? ⟨w1.heap.size, j, none⟩ = some (.int .i64 (qN j : Int)) := by
  rw [blk_cell (blk_below (blk_new w1 _) hb) j]
  match j, hj with
  | 0, _ => rfl
  | 1, _ => rfl
  | 2, _ => rfl
  | 3, _ => rfl
theorem lit2_cell (w1 wr : World) (hb : Below (w1.alloc (.cells #[.complex .f64 4611686018427387904 0, .complex .f64 0 4611686018427387904] 31)).heap.size (w1.alloc (.cells #[.complex .f64 4611686018427387904 0, .complex .f64 0 4611686018427387904] 31)) wr) (j : Nat) (hj : j < 2) : wr.cell? ⟨w1.heap.size, j, none⟩ = some (.complex .f64 (byV j).1 (byV j).2) := by
  rw [blk_cell (blk_below (blk_new w1 _) hb) j]
  match j, hj with
  | 0, _ => rfl
  | 1, _ => rfl
theorem labA_out (n : Nat) (q : Int × Int) (h : isSz n) (hq : (-17 ≤ q.1 ∧ q.1 ≤ 17) ∧ -17 ≤ q.2 ∧ q.2 ≤ 17) (ho : szE n < q.1 ∨ szE n < q.2) : labA n (fI q.1, fI q.2) = (0, 6) := by
  have h1 : LabIs n (fI q.1, fI q.2) 0 6 := .inr ⟨fun j hj => by
    obtain ⟨p1, p2, p3, p4⟩ := pt_le n j h hj
    obtain ⟨e1, e2⟩ := pt_edge n j h hj
    show ((FloatKind.f64.format.order (fI (ptP n j).1) (fI q.1) == some .eq) && (FloatKind.f64.format.order (fI (ptP n j).2) (fI q.2) == some .eq)) = false
    rw [(fI_cmp _ _ (by omega) hq.1).1, (fI_cmp _ _ (by omega) hq.2).1]
    rcases ho with ho | ho
    · rw [decide_eq_false (by omega)]; rfl
    · rw [decide_eq_false (p := (ptP n j).2 = q.2) (by omega), Bool.and_false], rfl, rfl⟩
  obtain ⟨e1, e2⟩ := (labA_is n (fI q.1, fI q.2)).one h1
  exact Prod.ext e1 e2
theorem labA_pt' (n i : Nat) (h : isSz n) (hi : i < n) : labA n (zAt n i) = ((i : Int), 0) := by
  have h1 : LabIs n (zAt n i) (i : Int) 0 := .inl ⟨i, hi, by rw [hit_pt n i i h hi hi]; exact decide_eq_true rfl, fun j hj => by rw [hit_pt n i j h hi (by omega)]; exact decide_eq_false (by omega), rfl, rfl⟩
  obtain ⟨e1, e2⟩ := (labA_is n (zAt n i)).one h1
  exact Prod.ext e1 e2
set_option maxHeartbeats 4000000 in
set_option maxRecDepth 100000 in
theorem PointsGray_walk (w : World) : Calls Try.prog 8 #[] w fun e w' => e = .returned (.bool true) ∧ Below w.heap.size w w' := by
  have HB0 := Aside0.mk (Below.refl w.heap.size w)
  go_enter Try.func8, Try.ntmps8
  go_wp2_with (go_at_call 38; (with_reducible refine (works_calls _).mono ?_); rintro e w1 ⟨rfl, hb⟩; (have HB1 := Aside0.mk (below_step hb ((Below.refl w1.heap.size w1).alloc (Nat.le_refl _) (.cells #[.int .i64 4, .int .i64 16, .int .i64 64, .int .i64 256] 3)))); clear hb)
  go_loopw [18] (fun i wr => ∃ j : Nat, j ≤ 4 ∧ i = .int .i64 (j : Int) ∧ Aside0 (Below (w1.alloc (.cells #[.int .i64 4, .int .i64 16, .int .i64 64, .int .i64 256] 3)).heap.size (w1.alloc (.cells #[.int .i64 4, .int .i64 16, .int .i64 64, .int .i64 256] 3)) wr)) (fun i _ => 4 - (intOf i).toNat)
  case atStart => exact ⟨0, by omega, rfl, Aside0.mk (Below.refl _ _)⟩
  case round =>
    obtain ⟨j, hj, rfl, HBo⟩ := hrel
    obtain ⟨wo, rfl⟩ : ∃ wo : World, wo = wr := ⟨_, rfl⟩
    by_cases hlj : j < 4
    · have t1 : (j : Int) < 4 := by omega
      have t0 : (0 : Int) ≤ (j : Int) := by omega
      have hjs : IntKind.i64.wrap ((j : Int) + 1) = (j : Int) + 1 := by rw [IntKind.wrap_i64]; omega
      have kj := lit4_cell w1 wo HBo.out j hlj
      obtain ⟨h, hm⟩ := qN_sz j hlj
      obtain ⟨n, hn⟩ : ∃ n, qN j = n := ⟨_, rfl⟩
      rw [hn] at kj h hm
      have HA := Aside0.mk (fun w => all_any n h w)
      have HE := Aside0.mk (fun w => Edge_any n h w)
      have HZ := Aside0.mk h
      have HM := Aside0.mk hm
      have HJ := Aside0.mk hlj
      clear hn h hm hlj
      go_wp2_with (first
        | (go_at_call 13; (with_reducible refine (HA.out _).mono ?_); rintro e w2 ⟨A, c, rfl, hc, hR, hb⟩; (have HB2 := Aside0.mk hb); (have ha2 := (Kd.R_reads' hR).2.2); (rw [zt_length] at ha2); (have HC2 := Aside0.mk ha2); clear hc hR hb ha2)
        | (go_at_call 17; (with_reducible refine (HE.out _).mono ?_); rintro e w3 ⟨rfl, hb⟩; (have HB3 := Aside0.mk (below_step HB2.out hb)); (have HC3 := Aside0.mk (Kd.C_below HC2.out hb)); clear hb))
      go_loopw [7] (fun i wx => ∃ k : Nat, k ≤ n ∧ i = .int .i64 (k : Int) ∧ Aside0 (Below w3.heap.size w3 wx)) (fun i _ => n - (intOf i).toNat)
      case atStart => exact ⟨0, Nat.zero_le _, rfl, Aside0.mk (Below.refl _ _)⟩
      case round =>
        obtain ⟨k, hk, rfl, HBm⟩ := hrel
        obtain ⟨wm, rfl⟩ : ∃ wm : World, wm = wr := ⟨_, rfl⟩
        have hn256 := (sz_le HZ.out).2
        by_cases hlk : k < n
        · have t2 : (k : Int) < (n : Int) := by omega
          have t3 : (0 : Int) ≤ (k : Int) := by omega
          have hks : IntKind.i64.wrap ((k : Int) + 1) = (k : Int) + 1 := by rw [IntKind.wrap_i64]; omega
          have HK := Aside0.mk hlk
          clear hlk
          go_wp2
          go_loopw [51] (fun i wy => ∃ b : Nat, b ≤ 2 ∧ i = .int .i64 (b : Int) ∧ Aside0 (Below (wm.alloc (.cells #[.complex .f64 4611686018427387904 0, .complex .f64 0 4611686018427387904] 31)).heap.size (wm.alloc (.cells #[.complex .f64 4611686018427387904 0, .complex .f64 0 4611686018427387904] 31)) wy)) (fun i _ => 2 - (intOf i).toNat)
          case atStart => exact ⟨0, by omega, rfl, Aside0.mk (Below.refl _ _)⟩
          case round =>
            obtain ⟨b, hb, rfl, HBi⟩ := hrel
            have HBW := Aside0.mk (below_step ((Below.refl wm.heap.size wm).alloc (Nat.le_refl _) _) HBi.out)
            by_cases hlb : b < 2
            · have t4 : (b : Int) < 2 := by omega
              have t5 : (0 : Int) ≤ (b : Int) := by omega
              have hbs : IntKind.i64.wrap ((b : Int) + 1) = (b : Int) + 1 := by rw [IntKind.wrap_i64]; omega
              have kb := lit2_cell wm wr HBi.out b hlb
              obtain ⟨ad, hA, kz⟩ := cx_at (Kd.C_below (Kd.C_below HC3.out HBm.out) HBW.out) k HK.out
              subst hA
              rw [zt_getD n n k HK.out] at kz
              have hz : zAt n k = (fI (ptP n k).1, fI (ptP n k).2) := rfl
              rw [hz] at kz
              obtain ⟨p1, p2, p3, p4⟩ := pt_le n k HZ.out HK.out
              have hrun := run_by (ptP n k) b ⟨⟨p1, p2⟩, p3, p4⟩
              have hg := of_decide_eq_true (gray_ok n k b HM.out HK.out hlb)
              obtain ⟨g1, g2⟩ := szE_le n HZ.out
              have hqb : (-17 ≤ (nbr (ptP n k) b).1 ∧ (nbr (ptP n k) b).1 ≤ 17) ∧ -17 ≤ (nbr (ptP n k) b).2 ∧ (nbr (ptP n k) b).2 ≤ 17 := by
                unfold nbr
                split <;> (simp only; omega)
              obtain ⟨B, hB⟩ : ∃ B, byV b = B := ⟨_, rfl⟩
              rw [hB] at kb hrun
              obtain ⟨q, hq⟩ : ∃ q, nbr (ptP n k) b = q := ⟨_, rfl⟩
              rw [hq] at hrun hg hqb
              obtain ⟨p, hp⟩ : ∃ p, ptP n k = p := ⟨_, rfl⟩
              rw [hp] at kz hrun
              have hlab := label_at n HZ.out (fI q.1) (fI q.2)
              have hout := labA_out n q HZ.out hqb
              have c1 := (fI_cmp q.1 (szE n) hqb.1 (by omega)).2
              have c2 := (fI_cmp q.2 (szE n) hqb.2 (by omega)).2
              unfold fI at c1 c2 hlab hrun kz hout
              by_cases ho : szE n < q.1 ∨ szE n < q.2
              · rw [hout ho] at hlab
                simp only at hlab kz
                have HLAB := Aside0.mk hlab
                clear hout hlab hg hq hp hB p1 p2 p3 p4 g1 g2 hqb hz
                by_cases ho1 : szE n < q.1
                · rw [decide_eq_true ho1] at c1
                  clear c2 ho ho1
                  go_wp2_with (go_at_call 25; (with_reducible refine (HLAB.out _).mono ?_); rintro e w5 ⟨rfl, hb5⟩; (have HB5 := Aside0.mk (below_step HBi.out hb5)); (have kz5 := cell_stay kz hb5); clear hb5)
                  exact ⟨⟨b + 1, hlb, by go_num, HB5⟩, by show 2 - ((b : Int) + 1).toNat < 2 - (b : Int).toNat; omega⟩
                · rw [decide_eq_false ho1] at c1
                  rw [decide_eq_true (ho.resolve_left ho1)] at c2
                  clear ho ho1
                  go_wp2_with (go_at_call 25; (with_reducible refine (HLAB.out _).mono ?_); rintro e w5 ⟨rfl, hb5⟩; (have HB5 := Aside0.mk (below_step HBi.out hb5)); (have kz5 := cell_stay kz hb5); clear hb5)
                  exact ⟨⟨b + 1, hlb, by go_num, HB5⟩, by show 2 - ((b : Int) + 1).toNat < 2 - (b : Int).toNat; omega⟩
              · obtain ⟨j1, j2, ⟨d0, d1⟩, hx, ha⟩ := (hg.resolve_left (fun h9 => ho (.inl h9))).resolve_left (fun h9 => ho (.inr h9))
                have hla : labA n (fI q.1, fI q.2) = ((grJ n q : Int), 0) := by
                  have h9 := labA_pt' n (grJ n q) HZ.out j1
                  have h8 : zAt n (grJ n q) = (fI q.1, fI q.2) := by show (fI (ptP n (grJ n q)).1, fI (ptP n (grJ n q)).2) = _; rw [j2]
                  rw [h8] at h9
                  exact h9
                unfold fI at hla
                rw [hla] at hlab
                simp only at hlab kz
                have HLAB := Aside0.mk hlab
                rw [decide_eq_false (fun h9 => ho (.inl h9))] at c1
                rw [decide_eq_false (fun h9 => ho (.inr h9))] at c2
                obtain ⟨J, hJ⟩ : ∃ J, grJ n q = J := ⟨_, rfl⟩
                rw [hJ] at HLAB d0 d1 hx ha
                obtain ⟨d, hd⟩ : ∃ d, J ^^^ k = d := ⟨_, rfl⟩
                rw [hd] at d0 d1 hx ha
                have hw1 : IntKind.u64.wrap (d : Int) = (d : Int) := by simp [IntKind.wrap, IntKind.bits, IntKind.signed]; omega
                have hw2 : IntKind.u64.wrap ((d : Int) - 1) = (d : Int) - 1 := by simp [IntKind.wrap, IntKind.bits, IntKind.signed]; omega
                have hd0 : ¬ ((d : Int) = 0) := by omega
                have hd1 : ((d : Int) == 0) = false := by simpa using hd0
                clear hout hlab hg hq hp hB p1 p2 p3 p4 g1 g2 hqb hz hla j1 j2 hJ hd d0 d1 ho
                go_wp2_with (go_at_call 25; (with_reducible refine (HLAB.out _).mono ?_); rintro e w5 ⟨rfl, hb5⟩; (have HB5 := Aside0.mk (below_step HBi.out hb5)); (have kz5 := cell_stay kz hb5); clear hb5)
                exact ⟨⟨b + 1, hlb, by go_num, HB5⟩, by show 2 - ((b : Int) + 1).toNat < 2 - (b : Int).toNat; omega⟩
            · obtain rfl : b = 2 := by omega
              go_wp2
              go_roundw
              case rel => exact ⟨k + 1, HK.out, by go_num, Aside0.mk (below_step HBm.out HBW.out)⟩
              case measure => have := HK.out; simp [intOf]; omega
        · obtain rfl : k = n := by omega
          go_wp2
          go_roundw
          case rel => exact ⟨j + 1, HJ.out, by go_num, Aside0.mk (below_step HBo.out (below_step HB3.out HBm.out))⟩
          case measure => have := HJ.out; simp [intOf]; omega
    · obtain rfl : j = 4 := by omega
      go_wp2
      go_ret
      exact ⟨rfl, below_step (below_step HB0.out HB1.out) HBo.out⟩
end Go.Proofs.Ytopmlhihfchdhaa.Pure
