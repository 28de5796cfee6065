/- LoadOrder: weights in another order, all of them times the same, one more of them. -/
import Derived.Test.YtgmaiknbogcpgaaFogx0
import Derived.Test.YtgmaiknbogcpgaaForms
import Derived.Test.YtgmaiknbogcpgaaLdT
namespace Go.Proofs.Ytgmaiknbogcpgaa.Pure
open Go.RowKit Go.Proofs.Ytgmaiknbogcpgaa.Fog Go.Proofs.YtgmaiknbogcpgaaW.PrintWords Go.Proofs.YtgmaiknbogcpgaaW.PrintLast Go.Proofs.YtgmaiknbogcpgaaW.PrintMore Go.Proofs.Ytgmaiknbogcpgaa.Kit Go.Proofs.Ytgmaiknbogcpgaa.Seq
set_option linter.unusedVariables false
set_option linter.unusedSimpArgs false
/-- A weight made small. -/
def gmap (x : Int) : Int := Int.tmod x 5000 + 1
theorem gmap_rng (x : Int) (h : 1 ≤ x) : 1 ≤ gmap x ∧ gmap x ≤ 5000 := by
  unfold gmap
  rw [Int.tmod_eq_emod_of_nonneg (by omega)]
  omega
def midL (ws : List Int) (k : Nat) : List Int := (ws.map gmap).take k ++ ws.drop k
theorem midL_len (ws : List Int) (k : Nat) : (midL ws k).length = ws.length := by unfold midL; simp; omega
theorem midL_get (ws : List Int) (k : Nat) (h : k < ws.length) : (midL ws k).getD k 0 = ws.getD k 0 := by
  unfold midL
  rw [List.getD_eq_getElem?_getD, List.getD_eq_getElem?_getD, List.getElem?_append_right (by simp; omega)]
  simp only [List.length_take, List.length_map, List.getElem?_drop]
  congr 2; omega
theorem midL_set (ws : List Int) (k : Nat) (h : k < ws.length) : (midL ws k).set k (gmap (ws.getD k 0)) = midL ws (k + 1) := by
  unfold midL
  rw [List.set_append_right _ _ (by simp; omega), List.drop_eq_getElem_cons h]
  have e : k - ((ws.map gmap).take k).length = 0 := by simp; omega
  rw [e, List.set_cons_zero, List.take_succ_eq_append_getElem (by simpa using h), List.append_assoc]
  congr 1
  rw [List.getElem_map, List.getD_eq_getElem?_getD, List.getElem?_eq_getElem h]; rfl
theorem midL_end (ws : List Int) : midL ws ws.length = ws.map gmap := by
  unfold midL
  rw [List.take_of_length_le (by simp), List.drop_of_length_le (Nat.le_refl _), List.append_nil]
theorem keepA {W w1 : World} {base : Nat} {ok : Nat → Prop} {v : Value} {xs : List Int} {g : Nat} {cs : Array Value} (h : W.heap[g]? = some (.cells cs 29 (0, 0))) (hR : Kd.R (Kd.int .i64) 3 W base ok v xs) (hg : W.grownBy w1 v.ownBlock) : w1.heap[g]? = some (.cells cs 29 (0, 0)) := by
  have hne : some g ≠ v.ownBlock := by
    intro e
    obtain ⟨inner, ho⟩ := Kd.R_own hR
    obtain ⟨cells, hc⟩ := own_typed ho g e.symm
    rw [h] at hc
    injection hc with hc
    injection hc with _ ht
    cases ht
  exact (hg.block g (Array.getElem?_eq_some_iff.1 h).1 hne).trans h
theorem keepN {W w1 : World} {g : Nat} {o : Obj} (h : W.heap[g]? = some o) (hg : W.grownBy w1 none) : w1.heap[g]? = some o := (hg.block g (Array.getElem?_eq_some_iff.1 h).1 (by simp)).trans h
theorem C_cut {w : World} {g n t : Nat} {us : List Int} (h : Kd.C (Kd.int .i64) w (some ⟨g, 0, none⟩) n us) (hn : us.length = n) (ht : t < n) (hb : n ≤ 1000000) : Kd.C (Kd.int .i64) w (some ⟨g, t, none⟩) (n - t) (us.drop t) ∧ Kd.C (Kd.int .i64) w (some ⟨g, 0, none⟩) t (us.take t) := by
  have hc : ∀ i, i < n → w.cell? ⟨g, i, none⟩ = some (.int .i64 (us.getD i 0)) := by
    intro i hi
    obtain ⟨ad, e, hc⟩ := int_at h i hi
    cases e
    rw [add_zero_form] at hc
    exact hc
  constructor
  · refine ⟨by rw [List.length_drop, hn], by show n - t ≤ 9223372036854775807; omega, fun _ => ⟨_, rfl, fun j p hj => ⟨[.int .i64 p], rfl, rfl, fun i u hu => ?_⟩⟩⟩
    obtain ⟨rfl, rfl⟩ : i = 0 ∧ Value.int .i64 p = u := by
      match i, hu with
      | 0, hu => exact ⟨rfl, by simpa using hu⟩
    have hjl : j < n - t := by have := (List.getElem?_eq_some_iff.1 hj).1; rw [List.length_drop, hn] at this; exact this
    have e : Addr.add ⟨g, t, none⟩ (j * (Kd.int .i64).sz + 0) = ⟨g, t + j, none⟩ := by
      show Addr.add ⟨g, t, none⟩ (j * 1 + 0) = _
      rw [Nat.mul_one, Nat.add_zero]
      unfold Addr.add
      by_cases h0 : j = 0
      · subst h0; simp
      · simp [h0]
    rw [e, hc (t + j) (by omega)]
    rw [List.getElem?_drop] at hj
    rw [List.getD_eq_getElem?_getD, hj]; rfl
  · have h2 := C_cells (w := w) (g := g) (us.take t) (by rw [List.length_take]; omega) (fun i x hx => by
      have hi := (List.getElem?_eq_some_iff.1 hx).1
      rw [List.length_take] at hi
      rw [List.getElem?_take, if_pos (by omega)] at hx
      rw [hc i (by omega), List.getD_eq_getElem?_getD, hx]; rfl)
    rw [List.length_take, hn, Nat.min_eq_left (by omega)] at h2
    exact h2
theorem add_blk (g k : Nat) : (⟨g, 0, none⟩ : Addr).add k = ⟨g, k, none⟩ := by
  by_cases h : k = 0
  · subst h; rfl
  · simp [Addr.add, h]
set_option maxHeartbeats 16000000 in
set_option maxRecDepth 100000 in
theorem LoadOrder_walk (A0 : Option Addr) (c0 : Nat) (l0 : List Int) (P M T : Int) (w : World) (hr0 : Kd.C (Kd.int .u32) w A0 l0.length l0) (hc0 : l0.length ≤ c0) {Y0 : Prop} (hy0 : Y0) (hg0 : ∀ x ∈ l0, (Lit.int .u32 x).wf = true) (w0' : (Lit.int .u32 P).wf = true) (w1' : (Lit.int .u32 M).wf = true) (w2' : (Lit.int .u8 T).wf = true) :
    Calls Try.prog 3 #[.slice A0 l0.length c0, .agg #[.int .u32 P, .int .u32 M, .int .u8 T]] w fun e w' => e = .returned (.bool true) ∧ Below w.heap.size w w' := by
  obtain ⟨p0, p1⟩ := wf_u32 w0'
  obtain ⟨m0, m1⟩ := wf_u32 w1'
  obtain ⟨t0, t1⟩ := wf_u8 w2'
  obtain ⟨ws, hk, hn1, hn2, hwt⟩ := wts_calls A0 c0 l0 w hr0 hc0 hg0
  obtain ⟨n, hn⟩ : ∃ n, ws.length = n := ⟨_, rfl⟩
  rw [hn] at hwt hn1 hn2
  obtain ⟨us, hus⟩ : ∃ us, ws.map gmap = us := ⟨_, rfl⟩
  have hlu : us.length = n := by rw [← hus, List.length_map, hn]
  have hsm : ∀ x ∈ us, 1 ≤ x ∧ x ≤ 5000 := by
    intro x hx
    rw [← hus] at hx
    obtain ⟨y, hy, rfl⟩ := List.mem_map.1 hx
    exact gmap_rng y (hk.2 y hy).1
  have hku : Ld.ok us := ⟨by omega, fun x hx => by have := hsm x hx; omega⟩
  obtain ⟨t, ht⟩ : ∃ t : Nat, T % (n : Int) = (t : Int) := ⟨(T % (n : Int)).toNat, by have := Int.emod_nonneg T (show (n : Int) ≠ 0 by omega); omega⟩
  have htn : t < n := by have := Int.emod_lt_of_pos T (show 0 < (n : Int) by omega); omega
  obtain ⟨rot, hrot⟩ : ∃ rot, us.drop t ++ us.take t = rot := ⟨_, rfl⟩
  have hlr : rot.length = n := by rw [← hrot, List.length_append, List.length_drop, List.length_take]; omega
  have hsplit : us = us.take t ++ us.drop t := (List.take_append_drop t us).symm
  have hkr : Ld.ok rot := ⟨by omega, fun x hx => hku.2 x (by
    rw [← hrot] at hx
    rcases List.mem_append.mp hx with hx | hx
    · exact List.mem_of_mem_drop hx
    · exact List.mem_of_mem_take hx)⟩
  have hturn : ∀ sq q, Ld.best sq rot q = Ld.best sq us q := fun sq q => by
    have h := Ld.best_turn sq (us.take t) (us.drop t) (by rw [← hsplit]; exact hku) q
    rw [hrot, ← hsplit] at h; exact h
  have hnturn : ∀ sq q, Ld.need sq rot q = Ld.need sq us q := fun sq q => by
    have h := Ld.need_turn sq (us.take t) (us.drop t) (by rw [← hsplit]; exact hku) q
    rw [hrot, ← hsplit] at h; exact h
  obtain ⟨TM, hTM⟩ : ∃ TM, T % 100 + 1 = TM := ⟨_, rfl⟩
  have hTMr : 1 ≤ TM ∧ TM ≤ 100 := by omega
  obtain ⟨gr, hgr⟩ : ∃ gr, us.map (· * TM) = gr := ⟨_, rfl⟩
  have hlg : gr.length = n := by rw [← hgr, List.length_map, hlu]
  have hkg : Ld.ok gr := ⟨by omega, fun x hx => by
    rw [← hgr] at hx
    obtain ⟨y, hy, rfl⟩ := List.mem_map.1 hx
    have h1 := hsm y hy
    have h2 := Int.mul_le_mul h1.2 hTMr.2 (by omega : 0 ≤ TM) (by omega : (0 : Int) ≤ 5000)
    have h3 := Int.mul_le_mul h1.1 hTMr.1 (by omega : (0 : Int) ≤ 1) (by omega : 0 ≤ y)
    show 1 ≤ y * TM ∧ y * TM ≤ 1048576
    omega⟩
  have hPT : 0 ≤ P * TM ∧ P * TM ≤ 1099511627776 := by
    have h2 := Int.mul_le_mul (show P ≤ 4294967296 by omega) hTMr.2 (by omega : 0 ≤ TM) (by omega : (0 : Int) ≤ 4294967296)
    exact ⟨Int.mul_nonneg p0 (by omega), by omega⟩
  obtain ⟨V, hV⟩ : ∃ V, M % 1048576 + 1 = V := ⟨_, rfl⟩
  have hko : Ld.ok (us ++ [V]) := ⟨by rw [List.length_append, hlu]; show n + 1 ≤ 256; omega, fun x hx => by
    rcases List.mem_append.mp hx with hx | hx
    · exact hku.2 x hx
    · rw [List.mem_singleton.mp hx]; omega⟩
  have hlo : (us ++ [V]).length = n + 1 := by rw [List.length_append, hlu]; rfl
  obtain ⟨B12, P12, bb, e12, f12, h12, hlbb, hn12, hc12, hm12⟩ := most_form n us P hlu hn1 (by omega) hku p0 (by omega)
  obtain ⟨B14, P14, b14, e14, f14, h14, hl14, hn14, hc14, hm14⟩ := most_form n rot P hlr hn1 (by omega) hkr p0 (by omega)
  obtain rfl : B12 = B14 := by rw [e12, e14, hturn]
  obtain rfl : P12 = P14 := by rw [f12, f14, hnturn]
  obtain ⟨B16, P16, sb, e16, f16, h16, hlsb, hn16, hc16, hm16⟩ := squares_form n us P hlu hn1 (by omega) hku p0 (by omega)
  obtain ⟨B18, P18, b18, e18, f18, h18, hl18, hn18, hc18, hm18⟩ := squares_form n rot P hlr hn1 (by omega) hkr p0 (by omega)
  obtain rfl : B16 = B18 := by rw [e16, e18, hturn]
  obtain rfl : P16 = P18 := by rw [f16, f18, hnturn]
  obtain ⟨B23, P23, b23, e23, f23, h23, hl23, hn23, hc23, hm23⟩ := most_form n gr (P * TM) hlg hn1 (by omega) hkg hPT.1 hPT.2
  obtain rfl : B12 = B23 := by rw [e12, e23, ← hgr, Ld.best_times false TM hTMr.1 us hku (by rw [hgr]; exact hkg) P p0 (by have e : Ld.never = 1152921504606846976 := rfl; omega)]
  have hP23 : P23 = P12 * TM := by
    rw [f23, f12, ← hgr, (Ld.need_times false TM hTMr.1 us hku (by rw [hgr]; exact hkg) B12).1 (by rw [← f12]; exact hn12), Int.mul_comm]
  obtain rfl : bb = b23 := by
    rw [h12, h23, ← hgr, Ld.first_times false TM hTMr.1 us hku (by rw [hgr]; exact hkg) B12 (by rw [← f12]; exact hn12)]
  obtain ⟨B25, P25, b25, e25, f25, h25, hl25, hn25, hc25, hm25⟩ := most_form (n + 1) (us ++ [V]) P hlo (by omega) (by omega) hko p0 (by omega)
  have g1 : B12 ≤ B25 := by rw [e12, e25]; exact Ld.best_more false us V hku hko P p0
  have hP12b : 0 ≤ P12 ∧ P12 ≤ P := ⟨by rw [f12]; exact (Ld.need_bd false us hku B12).1, by rw [f12, e12]; exact Ld.best_pays false us hku P p0⟩
  have hPTb : 0 ≤ P12 * TM ∧ P12 * TM ≤ 1099511627776 := by
    have h2 := Int.mul_le_mul (show P12 ≤ 4294967296 by omega) hTMr.2 (by omega : 0 ≤ TM) (by omega : (0 : Int) ≤ 4294967296)
    exact ⟨Int.mul_nonneg hP12b.1 (by omega), by omega⟩
  subst hP23
  have HWT := Aside0.mk (show ∀ w' : World, Kd.C (Kd.int .u32) w' A0 l0.length l0 → Calls Try.prog 9 #[.slice A0 l0.length c0] w' fun e w'' => ∃ A c, e = .returned (.slice A n c) ∧ Kd.R (Kd.int .i64) 3 w'' w'.heap.size (fun _ => True) (.slice A n c) ws ∧ Below w'.heap.size w' w'' from hwt)
  have HLWS := Aside0.mk hn
  have HOKW := Aside0.mk hk
  have HUS := Aside0.mk hus
  have HLU := Aside0.mk hlu
  have HN := Aside0.mk (show 1 ≤ n ∧ n ≤ 256 from ⟨hn1, by omega⟩)
  have HNT := Aside0.mk (show t < n ∧ n ≤ 256 from ⟨htn, by omega⟩)
  have HRL := Aside0.mk (show ([] ++ us.drop t ++ us.take t).length = n by rw [List.nil_append, hrot]; exact hlr)
  have HRLN := Aside0.mk hlr
  have HRL2 := Aside0.mk (show rot = us.drop t ++ us.take t from hrot.symm)
  have HM12 := Aside0.mk hm12
  have HM14 := Aside0.mk hm14
  have HM16 := Aside0.mk hm16
  have HM18 := Aside0.mk hm18
  have HM23 := Aside0.mk hm23
  have HM25 := Aside0.mk hm25
  have HLBB := Aside0.mk hlbb
  have HGR := Aside0.mk hgr
  have HLG := Aside0.mk hlg
  have HL1N := Aside0.mk (show ([] ++ us ++ [V]).length = n + 1 by rw [List.nil_append]; exact hlo)
  have HL2N := Aside0.mk hlo
  have HSM := Aside0.mk hsm
  have HTMR := Aside0.mk hTMr
  have HX := Aside0.mk (And.intro g1 (And.intro hPT hPTb))
  have hT3 : T.tmod (n : Int) = (t : Int) := by rw [Int.tmod_eq_emod_of_nonneg t0]; exact ht
  have hn0 : ((n : Int) == 0) = false := by simp; omega
  have i1 : IntKind.i64.wrap (t : Int) = (t : Int) := by rw [IntKind.wrap_i64]; omega
  have i2 : IntKind.i64.wrap ((t : Int) + 1) = (t : Int) + 1 := by rw [IntKind.wrap_i64]; omega
  have i3 : IntKind.i64.wrap ((t : Int) + 1 - 1) = (t : Int) := by rw [IntKind.wrap_i64]; omega
  have i4 : IntKind.i64.wrap P = P := by rw [IntKind.wrap_i64]; omega
  have i5 : IntKind.i64.wrap T = T := by rw [IntKind.wrap_i64]; omega
  have hT4 : T.tmod 100 = TM - 1 := by rw [Int.tmod_eq_emod_of_nonneg t0]; omega
  have i6 : IntKind.i64.wrap TM = TM := by rw [IntKind.wrap_i64]; omega
  have i6' : IntKind.i64.wrap (TM - 1 + 1) = TM := by rw [IntKind.wrap_i64]; omega
  have i6'' : IntKind.i64.wrap (TM - 1) = TM - 1 := by rw [IntKind.wrap_i64]; omega
  have i7 : IntKind.i64.wrap (P * TM) = P * TM := by rw [IntKind.wrap_i64]; omega
  have i8 : IntKind.i64.wrap (P12 * TM) = P12 * TM := by rw [IntKind.wrap_i64]; omega
  have hM4 : M.tmod 1048576 = V - 1 := by rw [Int.tmod_eq_emod_of_nonneg m0]; omega
  have i9 : IntKind.u32.wrap (V - 1) = V - 1 := by simp [IntKind.wrap, IntKind.signed, IntKind.bits]; omega
  have i10 : IntKind.i64.wrap (V - 1) = V - 1 := by rw [IntKind.wrap_i64]; omega
  have i11 : IntKind.i64.wrap (V - 1 + 1) = V := by rw [IntKind.wrap_i64]; omega
  have i12 : IntKind.i64.wrap V = V := by rw [IntKind.wrap_i64]; omega
  have d25 : decide (B12 ≤ B25) = true := decide_eq_true g1
  have htn1 : (t : Int) ≤ (n : Int) := by omega
  have htn2 : (t : Int) < (n : Int) := by omega
  obtain ⟨x0_, hx0⟩ : ∃ x0_, w.alloc (.cells #[.int .u32 P, .int .u32 M, .int .u8 T] 25) = x0_ := ⟨_, rfl⟩
  have HT_0 := Aside0.mk (show Below w.heap.size w x0_ from hx0 ▸ (Below.refl _ w).alloc (Nat.le_refl _) _)
  have HF0 := Aside0.mk (show x0_.heap[w.heap.size]? = some (.cells #[.int .u32 P, .int .u32 M, .int .u8 T] 25 (0, 0)) from hx0 ▸ blk_new w _)
  have kf0 : x0_.cell? ⟨w.heap.size, 0, none⟩ = some (.int .u32 P) := (blk_cell HF0.out 0).trans rfl
  have kf1 : x0_.cell? ⟨w.heap.size, 1, none⟩ = some (.int .u32 M) := (blk_cell HF0.out 1).trans rfl
  have kf2 : x0_.cell? ⟨w.heap.size, 2, none⟩ = some (.int .u8 T) := (blk_cell HF0.out 2).trans rfl
  have HR_L_0 := Aside0.mk (Kd.C_below hr0 HT_0.out)
  have HVV := Aside0.mk (And.intro hTM (And.intro hV (And.intro t0 m0)))
  clear hwt hr0 hn hk hus hlu hsm hku hrot hlr hsplit hkr hturn hnturn hTM hTMr hgr hlg hkg hPT hV hko hlo e12 f12 h12 hlbb hn12 hc12 hm12 e14 f14 h14 hl14 hn14 hc14 hm14 e16 f16 h16 hlsb hn16 hc16 hm16 e18 f18 h18 hl18 hn18 hc18 hm18 e23 f23 h23 hl23 hn23 hc23 hm23 e25 f25 h25 hl25 hn25 hc25 hm25 g1 hP12b hPTb w0' w1' w2' hg0 hc0 ht htn hn1 hn2
  go_enter Try.func3, Try.ntmps3
  go_wp2_with (first
    | (go_at_call 9; (with_reducible refine (HWT.out x0_ HR_L_0.out).mono ?_); rintro e w1_ ⟨AW, cW, rfl, hR, hb⟩; (have HB_1 := Aside0.mk hb); (have HR_L_1 := Aside0.mk (Kd.C_below HR_L_0.out HB_1.out)); (have HT_1 := Aside0.mk (below_step HT_0.out HB_1.out)); (have HRW := Aside0.mk hR); (have HCW := Aside0.mk (Kd.R_reads' hR).2.1); clear HR_L_0 hb))
  obtain ⟨gW, cW2, hv, hgb, hgl, clW, hclW⟩ := Kd.R_form HRW.out (by rw [HLWS.out]; have := HN.out; omega)
  rw [HLWS.out] at hv
  simp only [Value.slice.injEq] at hv
  obtain ⟨rfl, -, rfl⟩ := hv
  clear hgb hgl hclW
  have HRW0 := Aside0.mk (show Kd.R (Kd.int .i64) 3 w1_ w.heap.size (fun _ => True) (.slice (some ⟨gW, 0, none⟩) n cW) (midL ws 0) from Kd.R_lower HRW.out HT_0.out.size)
  have HWG := Aside0.mk (show w.heap.size ≤ gW from by
    obtain ⟨g9, cq9, hv9, hb9, _, _, _⟩ := Kd.R_form HRW.out (by rw [HLWS.out]; have := HN.out; omega)
    simp only [Value.slice.injEq, Option.some.injEq, Addr.mk.injEq] at hv9
    rw [hv9.1.1]; exact Nat.le_trans HT_0.out.size hb9)
  go_loopw [9] (fun kv wr => ∃ k : Nat, k ≤ n ∧ kv = .int .i64 (k : Int) ∧ Aside0 (Kd.R (Kd.int .i64) 3 wr w.heap.size (fun _ => True) (.slice (some ⟨gW, 0, none⟩) n cW) (midL ws k)) ∧ Aside0 (Below w.heap.size w wr)) (fun kv _ => n - (intOf kv).toNat)
  case atStart => exact ⟨0, Nat.zero_le _, rfl, HRW0, HT_1⟩
  case round =>
    obtain ⟨k, hk, rfl, GR, GB⟩ := hrel
    by_cases hlt : k < n
    · have q1 : (k : Int) < (n : Int) := by omega
      have q0 : (k : Int) ≤ 256 := by have := HN.out; omega
      have hcf := Kd.R_celln 0 GR.out (k : Int) (by omega) q1
      have hput := Kd.R_putn GR.out (k : Int) (gmap (ws.getD k 0))
      rw [Int.toNat_natCast] at hcf hput
      rw [midL_set ws k (by rw [HLWS.out]; exact hlt)] at hput
      have hrd : rdOf 0 (midL ws k) (k : Int) = ws.getD k 0 := by
        show (midL ws k).getD ((k : Int)).toNat 0 = _
        rw [Int.toNat_natCast, midL_get ws k (by rw [HLWS.out]; exact hlt)]
      rw [hrd] at hcf
      obtain ⟨c1, f1⟩ := hcf
      have hx : 1 ≤ ws.getD k 0 ∧ ws.getD k 0 ≤ 1048576 := by
        have := HLWS.out
        rw [List.getD_eq_getElem?_getD, List.getElem?_eq_getElem (by omega)]
        exact HOKW.out.2 _ (List.getElem_mem (by omega))
      obtain ⟨x, hxe⟩ : ∃ x, ws.getD k 0 = x := ⟨_, rfl⟩
      rw [hxe] at hx c1 hput
      have hgr := gmap_rng x hx.1
      obtain ⟨T5, hT5⟩ : ∃ T5, Int.tmod x 5000 = T5 := ⟨_, rfl⟩
      have hgm : gmap x = T5 + 1 := by unfold gmap; rw [hT5]
      rw [hgm] at hgr hput
      have i1 : IntKind.i64.wrap (T5 + 1) = T5 + 1 := by rw [IntKind.wrap_i64]; omega
      have hT6 : x % 5000 = T5 := by rw [← hT5, Int.tmod_eq_emod_of_nonneg (by omega)]
      have HPUT := Aside0.mk hput
      have HLT := Aside0.mk hlt
      have hx0 : 0 ≤ x := by omega
      clear hput hlt hk hgm hgr hx hxe hrd
      go_wp2
      refine ⟨⟨k + 1, HLT.out, by go_num, ⟨HPUT.out⟩, ⟨GB.out.setCell (p := ⟨gW, k, none⟩) (by show w.heap.size ≤ gW; exact HWG.out) _⟩⟩, ?_⟩
      have := HLT.out
      simp only [intOf]; omega
    · obtain rfl : n = k := by omega
      obtain ⟨wU_, rfl⟩ : ∃ wU_ : World, wU_ = wr := ⟨_, rfl⟩
      have HR_U_2 := Aside0.mk (show Kd.C (Kd.int .i64) wU_ (some ⟨gW, 0, none⟩) n us from by
        have h := (Kd.R_reads' GR.out).2.2
        rw [show midL ws n = us from by rw [← HLWS.out, midL_end ws, HUS.out], HLU.out] at h
        exact h)
      have hcw : n ≤ cW := by have := HCW.out; have := HLWS.out; omega
      have hcw1 : t ≤ cW := by have := HNT.out; omega
      have hcw2 : ¬ cW = t := by have := HNT.out; omega
      have hcw3 : (t : Int) ≤ (cW : Int) := by omega
      have hcw4 : ¬ t = cW := fun h => hcw2 h.symm
      have hcw5 : (n : Int) ≤ (cW : Int) := by omega
      have HT_2 := GB
      clear GR GB hlt hk
      go_wp2_with (first
        | (go_at_call 10; (with_reducible refine (HM12.out (some ⟨gW, 0, none⟩) cW wU_ HR_U_2.out).mono ?_); rintro e w3_ ⟨A12, c12, rfl, hc12, hC, hb⟩; (have HB_3 := Aside0.mk hb); (have HR_U_3 := Aside0.mk (Kd.C_below HR_U_2.out HB_3.out)); (have HT_3 := Aside0.mk (below_step HT_2.out HB_3.out)); (have HK_12 := Aside0.mk hc12); (have HR_B12_3 := Aside0.mk (hC)); clear HR_U_2 hb)
        | ((with_reducible refine gate_store (t := 29) (p := 12) rfl ?_); refine wpList_store_row rfl 29 (.tmp 12) (.tmp 62) rfl w3_.heap.size #[.slice A12 n c12, .int .i64 (B12 : Int), .int .i64 P12] rfl rfl 29 _ (blk_new _ _) loadInfo rfl (by simp [Value.oneCell']) ?_; (obtain ⟨w4_, hx_4⟩ : ∃ w4_, (w3_.alloc (.cells #[.slice none 0 0, .int .i64 0, .int .i64 0] 29)).setRow w3_.heap.size #[.slice A12 n c12, .int .i64 (B12 : Int), .int .i64 P12] = w4_ := ⟨_, rfl⟩); (obtain ⟨g_12, hg_4⟩ : ∃ g_12, w3_.heap.size = g_12 := ⟨_, rfl⟩); (have HB_4 := Aside0.mk (show Below w3_.heap.size w3_ w4_ from hx_4 ▸ below_row9 ((Below.refl _ w3_).alloc (Nat.le_refl _) _) (Nat.le_refl _) _)); (have HL_12_4 := Aside0.mk (show w4_.heap[g_12]? = some (.cells #[.slice A12 n c12, .int .i64 (B12 : Int), .int .i64 P12] 29 (0, 0)) from hx_4 ▸ hg_4 ▸ setRow_heap9 _ _ _ _ _ (blk_new _ _))); rw [hx_4]; (try rw [hg_4]); (have c_12_0_4 : w4_.cell? ⟨g_12, 0, none⟩ = some (.slice A12 n c12) := (blk_cell HL_12_4.out 0).trans rfl); (have c_12_1_4 : w4_.cell? ⟨g_12, 1, none⟩ = some (.int .i64 (B12 : Int)) := (blk_cell HL_12_4.out 1).trans rfl); (have c_12_2_4 : w4_.cell? ⟨g_12, 2, none⟩ = some (.int .i64 P12) := (blk_cell HL_12_4.out 2).trans rfl); (have HR_U_4 := Aside0.mk (Kd.C_below HR_U_3.out HB_4.out)); (have HR_B12_4 := Aside0.mk (Kd.C_below HR_B12_3.out HB_4.out)); (have HT_4 := Aside0.mk (below_step HT_3.out HB_4.out)); clear HR_U_3 HR_B12_3 hx_4 hg_4))
      have HCUT := Aside0.mk (show ∀ w', Below w4_.heap.size w4_ w' → Kd.C (Kd.int .i64) w' (some ⟨gW, t, none⟩) (n - t) (us.drop t) ∧ Kd.C (Kd.int .i64) w' (some ⟨gW, 0, none⟩) t (us.take t) from fun w' hb => C_cut (Kd.C_below HR_U_4.out hb) HLU.out HNT.out.1 (by have := HNT.out; omega))
      refine wp_normal ?_
      refine start_ (n := 19) (S := fun w' => Below w4_.heap.size w4_ w') (ds := [17]) #[false, false, false, false, false, false, false, false, false, false, false, false, false, false, false, false, false, false, false] (by kernel_rfl) rfl rfl ((Below.refl w4_.heap.size w4_).drew) (fun hHeld => ?_)
      obtain ⟨wq, hwq⟩ : ∃ wq, w4_.drew = wq := ⟨_, rfl⟩
      rw [hwq] at hHeld ⊢
      clear hwq
      have HB0q := Aside0.mk hHeld
      refine pure_ (i := 1) (N := some 66) (v := ?_) (a' := ?_) #[false, true, false, false, false, false, false, false, false, false, false, false, false, false, false, false, false, false, false] rfl rfl (by kernel_rfl) (fun _ _ _ h => h) (Or.inl ⟨by rfl, ?_⟩) ?_ ?_
      rotate_left
      · intro w'
        go_simp
        with_reducible rfl
      rotate_left
      · (try show Act.put _ _ _ = _); simp only [Act.put, List.setIfInBounds_toArray, List.set_cons_zero, List.set_cons_succ, i64_w, i32_w]
        rfl
      refine pure_ (i := 2) (N := some 67) (v := ?_) (a' := ?_) #[false, true, true, false, false, false, false, false, false, false, false, false, false, false, false, false, false, false, false] rfl rfl (by kernel_rfl) (fun _ _ _ h => h) (Or.inl ⟨by rfl, ?_⟩) ?_ ?_
      rotate_left
      · intro w'
        go_simp
        with_reducible rfl
      rotate_left
      · (try show Act.put _ _ _ = _); simp only [Act.put, List.setIfInBounds_toArray, List.set_cons_zero, List.set_cons_succ, i64_w, i32_w]
        rfl
      refine pure_ (i := 3) (N := some 68) (v := ?_) (a' := ?_) #[false, true, true, true, false, false, false, false, false, false, false, false, false, false, false, false, false, false, false] rfl rfl (by kernel_rfl) (fun _ _ _ h => h) (Or.inl ⟨by rfl, ?_⟩) ?_ ?_
      rotate_left
      · intro w'
        go_simp
        with_reducible rfl
      rotate_left
      · (try show Act.put _ _ _ = _); simp only [Act.put, List.setIfInBounds_toArray, List.set_cons_zero, List.set_cons_succ, i64_w, i32_w]
        rfl
      refine pure_ (i := 4) (N := some 69) (v := ?_) (a' := ?_) #[false, true, true, true, true, false, false, false, false, false, false, false, false, false, false, false, false, false, false] rfl rfl (by kernel_rfl) (fun _ _ _ h => h) (Or.inl ⟨by rfl, ?_⟩) ?_ ?_
      rotate_left
      · intro w'
        go_simp
        with_reducible rfl
      rotate_left
      · (try show Act.put _ _ _ = _); simp only [Act.put, List.setIfInBounds_toArray, List.set_cons_zero, List.set_cons_succ, i64_w, i32_w]
        rfl
      refine pure_ (i := 6) (N := some 71) (v := ?_) (a' := ?_) #[false, true, true, true, true, false, true, false, false, false, false, false, false, false, false, false, false, false, false] rfl rfl (by kernel_rfl) (fun _ _ _ h => h) (Or.inl ⟨by rfl, ?_⟩) ?_ ?_
      rotate_left
      · intro w'
        go_simp
        with_reducible rfl
      rotate_left
      · (try show Act.put _ _ _ = _); simp only [Act.put, List.setIfInBounds_toArray, List.set_cons_zero, List.set_cons_succ, i64_w, i32_w]
        rfl
      refine pure_ (i := 7) (N := some 72) (v := ?_) (a' := ?_) #[false, true, true, true, true, false, true, true, false, false, false, false, false, false, false, false, false, false, false] rfl rfl (by kernel_rfl) (fun _ _ _ h => h) (Or.inl ⟨by rfl, ?_⟩) ?_ ?_
      rotate_left
      · intro w'
        go_simp
        with_reducible rfl
      rotate_left
      · (try show Act.put _ _ _ = _); simp only [Act.put, List.setIfInBounds_toArray, List.set_cons_zero, List.set_cons_succ, i64_w, i32_w]
        rfl
      refine pure_ (i := 8) (N := some 73) (v := ?_) (a' := ?_) #[false, true, true, true, true, false, true, true, true, false, false, false, false, false, false, false, false, false, false] rfl rfl (by kernel_rfl) (fun _ _ _ h => h) (Or.inl ⟨by rfl, ?_⟩) ?_ ?_
      rotate_left
      · intro w'
        go_simp
        with_reducible rfl
      rotate_left
      · (try show Act.put _ _ _ = _); simp only [Act.put, List.setIfInBounds_toArray, List.set_cons_zero, List.set_cons_succ, i64_w, i32_w]
        rfl
      refine pure_ (i := 9) (N := some 74) (v := ?_) (a' := ?_) #[false, true, true, true, true, false, true, true, true, true, false, false, false, false, false, false, false, false, false] rfl rfl (by kernel_rfl) (fun _ _ _ h => h) (Or.inl ⟨by rfl, ?_⟩) ?_ ?_
      rotate_left
      · intro w'
        go_simp
        with_reducible rfl
      rotate_left
      · (try show Act.put _ _ _ = _); simp only [Act.put, List.setIfInBounds_toArray, List.set_cons_zero, List.set_cons_succ, i64_w, i32_w]
        rfl
      refine pure_ (i := 11) (N := some 76) (v := ?_) (a' := ?_) #[false, true, true, true, true, false, true, true, true, true, false, true, false, false, false, false, false, false, false] rfl rfl (by kernel_rfl) (fun _ _ _ h => h) (Or.inl ⟨by rfl, ?_⟩) ?_ ?_
      rotate_left
      · intro w'
        go_simp
        with_reducible rfl
      rotate_left
      · (try show Act.put _ _ _ = _); simp only [Act.put, List.setIfInBounds_toArray, List.set_cons_zero, List.set_cons_succ, i64_w, i32_w]
        rfl
      refine join_ 2 #[true, true, true, true, true, true, true, true, true, true, true, true, true, true, true, true, true, false, false] (σ := Value × Value × (Option Addr × Nat) × (Option Addr × Nat) × Nat) (fun s => [(65, s.1), (70, s.2.1), (75, .slice s.2.2.1.1 n s.2.2.1.2), (77, .tuple #[.agg #[.slice s.2.2.2.1.1 n s.2.2.2.1.2, .int .i64 (B12 : Int), .int .i64 P12], .int .i64 0]), (64, .tuple #[.agg #[.slice s.2.2.2.1.1 n s.2.2.2.1.2, .int .i64 (B12 : Int), .int .i64 P12], .int .i64 0]), (78, .agg #[.slice s.2.2.2.1.1 n s.2.2.2.1.2, .int .i64 (B12 : Int), .int .i64 P12]), (79, .int .i64 0), (14, .pointer (some ⟨s.2.2.2.2, 0, none⟩))]) (fun s w' => Below w4_.heap.size w4_ w' ∧ w4_.heap.size ≤ s.2.2.2.2 ∧ w'.heap[s.2.2.2.2]? = some (.cells #[.slice none 0 0, .int .i64 0, .int .i64 0] 29 (0, 0))) ?cont12 ?tree12
      case tree12 =>
        intro hJ
        refine two_ (i := 0) (j := 16) (Ni := some 65) (Nj := some 14) #[true, true, true, true, true, false, true, true, true, true, false, true, false, false, false, false, false, false, false] #[false, true, true, true, true, false, true, true, true, true, false, true, false, false, false, false, true, false, false] rfl rfl rfl rfl (by kernel_rfl) (by decide) (by decide) (fun K hK => ?_) (fun K hK => ?_)
        ·
          refine Kd.R_lit_step (Kd.int .i64) (w0 := w4_) w4_.heap.size 3 (by rfl) (N := 65) rfl (xs := ([] : List Int)) (inner := []) (ok := fun _ => True) (okp := fun _ => True) ?hr12_1 ?hp12_1 (fun _ hk => hk) trivial HB0q.out HB0q.out.size (by decide) ?_
          (case hr12_1 => first | (go_simp; done) | (go_simp; rfl))
          (case hp12_1 => exact (Reps.none _ _))
          intro v12_1 x12_1 ho12_1 hb12_1 hg12_1 hn12_1
          clear hn12_1
          have HB12_1 := Aside0.mk hb12_1
          have HO12_1 := Aside0.mk ho12_1
          refine hK.out _ _ HB12_1.out (fun hHeld => ?_)
          clear hK K
          refine norm_ (a' := ?_) ?_ ?_
          rotate_left
          · show Act.put _ (some 65) _ = _
            simp only [Act.put, List.setIfInBounds_toArray, List.set_cons_zero, List.set_cons_succ, i64_w, i32_w]
            rfl
          refine two_ (i := 5) (j := 16) (Ni := some 70) (Nj := some 14) #[true, true, true, true, true, true, true, true, true, true, false, true, false, false, false, false, false, false, false] #[true, true, true, true, true, false, true, true, true, true, false, true, false, false, false, false, true, false, false] rfl rfl rfl rfl (by kernel_rfl) (by decide) (by decide) (fun K hK => ?_) (fun K hK => ?_)
          ·
            refine Kd.R_append_rows_step (Kd.int .i64) (w0 := w4_) w4_.heap.size (by rfl) (.tmp 65) (.tmp 69) 26 3 (.int .i64 0) 8 rfl Try.underlying26 info3 rfl (by decide) (by decide) _ [] (us.drop t) _ _ _ (fun _ => True) (fun _ => False) rfl rfl ?aO12_2 ?aR12_2 (fun _ _ h => h) (fun _ h => h.elim) ?aF12_2 ?aB12_2 ?aS12_2 ?aL12_2 ?_
            (case aO12_2 => exact HO12_1.out)
            (case aR12_2 => exact (HCUT.out _ HB12_1.out).1)
            (case aF12_2 => exact (fun _ _ => trivial))
            (case aB12_2 => exact HB12_1.out)
            (case aS12_2 => exact HB12_1.out.size)
            (case aL12_2 => have := HNT.out; simp only [List.length_nil, List.nil_append, List.length_drop, HLU.out]; omega)
            intro v12_2 x12_2 ho12_2 hb12_2 hg12_2 hn12_2
            clear hn12_2
            have HB12_2 := Aside0.mk hb12_2
            have HO12_2 := Aside0.mk ho12_2
            refine hK.out _ _ HB12_2.out (fun hHeld => ?_)
            clear hK K
            refine norm_ (a' := ?_) ?_ ?_
            rotate_left
            · show Act.put _ (some 70) _ = _
              simp only [Act.put, List.setIfInBounds_toArray, List.set_cons_zero, List.set_cons_succ, i64_w, i32_w]
              rfl
            refine two_ (i := 10) (j := 16) (Ni := some 75) (Nj := some 14) #[true, true, true, true, true, true, true, true, true, true, true, true, false, false, false, false, false, false, false] #[true, true, true, true, true, true, true, true, true, true, false, true, false, false, false, false, true, false, false] rfl rfl rfl rfl (by kernel_rfl) (by decide) (by decide) (fun K hK => ?_) (fun K hK => ?_)
            ·
              refine Kd.R_append_rows_step (Kd.int .i64) (w0 := w4_) w4_.heap.size (by rfl) (.tmp 70) (.tmp 74) 26 3 (.int .i64 0) 8 rfl Try.underlying26 info3 rfl (by decide) (by decide) _ ([] ++ us.drop t) (us.take t) _ _ _ (fun _ => True) (fun _ => False) rfl rfl ?aO12_3 ?aR12_3 (fun _ _ h => h) (fun _ h => h.elim) ?aF12_3 ?aB12_3 ?aS12_3 ?aL12_3 ?_
              (case aO12_3 => exact HO12_2.out)
              (case aR12_3 => exact (HCUT.out _ HB12_2.out).2)
              (case aF12_3 => exact (fun _ _ => trivial))
              (case aB12_3 => exact HB12_2.out)
              (case aS12_3 => exact HB12_2.out.size)
              (case aL12_3 => have := HNT.out; simp only [List.length_nil, List.nil_append, List.length_drop, HLU.out]; omega)
              intro v12_3 x12_3 ho12_3 hb12_3 hg12_3 hn12_3
              clear hn12_3
              obtain ⟨A12_3, c12_3, rfl⟩ := Kd.R_slice ho12_3
              rw [HRL.out] at ho12_3 ⊢
              have HB12_3 := Aside0.mk hb12_3
              have HO12_3 := Aside0.mk ho12_3
              refine hK.out _ _ HB12_3.out (fun hHeld => ?_)
              clear hK K
              refine norm_ (a' := ?_) ?_ ?_
              rotate_left
              · show Act.put _ (some 75) _ = _
                simp only [Act.put, List.setIfInBounds_toArray, List.set_cons_zero, List.set_cons_succ, i64_w, i32_w]
                rfl
              refine two_ (i := 12) (j := 16) (Ni := some 77) (Nj := some 14) #[true, true, true, true, true, true, true, true, true, true, true, true, true, false, false, false, false, false, false] #[true, true, true, true, true, true, true, true, true, true, true, true, false, false, false, false, true, false, false] rfl rfl rfl rfl (by kernel_rfl) (by decide) (by decide) (fun K hK => ?_) (fun K hK => ?_)
              ·
                refine goes_ Try.func10 (by kernel_rfl) rfl #[.slice A12_3 n c12_3, .int .i64 P] (by rfl) rfl rfl (by (try simp only [List.map_toArray, List.map_cons, List.map_nil]); first | done | rfl) ?_
                refine (HM14.out A12_3 c12_3 _ (by have h := (Kd.R_reads' HO12_3.out).2.2; rw [List.nil_append] at h; rw [← HRL2.out, HRLN.out] at h; exact h)).mono ?_
                rintro e x12_4 ⟨B12_4, d12_4, rfl, -, -, hc12_4⟩
                refine ⟨_, rfl, ?_⟩
                have hb12_4 := below_step HB12_3.out hc12_4
                have HB12_4 := Aside0.mk hb12_4
                refine hK.out _ _ HB12_4.out (fun hHeld => ?_)
                clear hK K
                refine norm_ (a' := ?_) ?_ ?_
                rotate_left
                · show Act.put _ (some 77) _ = _
                  simp only [Act.put, List.setIfInBounds_toArray, List.set_cons_zero, List.set_cons_succ, i64_w, i32_w]
                  rfl
                refine pure_ (i := 13) (N := some 64) (v := ?_) (a' := ?_) #[true, true, true, true, true, true, true, true, true, true, true, true, true, true, false, false, false, false, false] rfl rfl (by kernel_rfl) (fun _ _ _ h => h) (Or.inl ⟨by rfl, ?_⟩) ?_ ?_
                rotate_left
                · intro w'
                  go_simp
                  with_reducible rfl
                rotate_left
                · (try show Act.put _ _ _ = _); simp only [Act.put, List.setIfInBounds_toArray, List.set_cons_zero, List.set_cons_succ, i64_w, i32_w]
                  rfl
                refine pure_ (i := 14) (N := some 78) (v := ?_) (a' := ?_) #[true, true, true, true, true, true, true, true, true, true, true, true, true, true, true, false, false, false, false] rfl rfl (by kernel_rfl) (fun _ _ _ h => h) (Or.inl ⟨by rfl, ?_⟩) ?_ ?_
                rotate_left
                · intro w'
                  go_simp
                  with_reducible rfl
                rotate_left
                · (try show Act.put _ _ _ = _); simp only [Act.put, List.setIfInBounds_toArray, List.set_cons_zero, List.set_cons_succ, i64_w, i32_w]
                  rfl
                refine pure_ (i := 15) (N := some 79) (v := ?_) (a' := ?_) #[true, true, true, true, true, true, true, true, true, true, true, true, true, true, true, true, false, false, false] rfl rfl (by kernel_rfl) (fun _ _ _ h => h) (Or.inl ⟨by rfl, ?_⟩) ?_ ?_
                rotate_left
                · intro w'
                  go_simp
                  with_reducible rfl
                rotate_left
                · (try show Act.put _ _ _ = _); simp only [Act.put, List.setIfInBounds_toArray, List.set_cons_zero, List.set_cons_succ, i64_w, i32_w]
                  rfl
                refine one_ (i := 16) (N := some 14) #[true, true, true, true, true, true, true, true, true, true, true, true, true, true, true, true, true, false, false] rfl rfl (by kernel_rfl) (by decide) (fun K hK => ?_)
                refine value_ (w1 := x12_4.alloc (.cells #[.slice none 0 0, .int .i64 0, .int .i64 0] 29)) (v := .pointer (some ⟨x12_4.heap.size, 0, none⟩)) (by rfl) rfl ?_ ?_
                · go_simp
                have HB12_5 := Aside0.mk (HB12_4.out.alloc HB12_4.out.size (.cells #[.slice none 0 0, .int .i64 0, .int .i64 0] 29))
                have HA12_5 := Aside0.mk (show w4_.heap.size ≤ x12_4.heap.size ∧ (x12_4.alloc (.cells #[.slice none 0 0, .int .i64 0, .int .i64 0] 29)).heap[x12_4.heap.size]? = some (.cells #[.slice none 0 0, .int .i64 0, .int .i64 0] 29 (0, 0)) from ⟨HB12_4.out.size, blk_new x12_4 _⟩)
                refine hK.out _ _ HB12_5.out (fun hHeld => ?_)
                clear hK K
                refine norm_ (a' := ?_) ?_ ?_
                rotate_left
                · show Act.put _ (some 14) _ = _
                  simp only [Act.put, List.setIfInBounds_toArray, List.set_cons_zero, List.set_cons_succ, i64_w, i32_w]
                  rfl
                exact norm_ (by show _ = putAll _ _; simp only [putAll, Act.put, List.setIfInBounds_toArray, List.set_cons_zero, List.set_cons_succ, i64_w, i32_w]) (hJ (v12_1, v12_2, (A12_3, c12_3), (B12_4, d12_4), x12_4.heap.size) _ ⟨HB12_5.out, HA12_5.out.1, HA12_5.out.2⟩)
              ·
                refine value_ (w1 := x12_3.alloc (.cells #[.slice none 0 0, .int .i64 0, .int .i64 0] 29)) (v := .pointer (some ⟨x12_3.heap.size, 0, none⟩)) (by rfl) rfl ?_ ?_
                · go_simp
                have HB12_6 := Aside0.mk (HB12_3.out.alloc HB12_3.out.size (.cells #[.slice none 0 0, .int .i64 0, .int .i64 0] 29))
                have HA12_6 := Aside0.mk (show w4_.heap.size ≤ x12_3.heap.size ∧ (x12_3.alloc (.cells #[.slice none 0 0, .int .i64 0, .int .i64 0] 29)).heap[x12_3.heap.size]? = some (.cells #[.slice none 0 0, .int .i64 0, .int .i64 0] 29 (0, 0)) from ⟨HB12_3.out.size, blk_new x12_3 _⟩)
                have HO12_6 := Aside0.mk (Kd.R_below HO12_3.out ((Below.refl _ _).alloc (Nat.le_refl _) (.cells #[.slice none 0 0, .int .i64 0, .int .i64 0] 29)))
                refine hK.out _ _ HB12_6.out (fun hHeld => ?_)
                clear hK K
                refine norm_ (a' := ?_) ?_ ?_
                rotate_left
                · show Act.put _ (some 14) _ = _
                  simp only [Act.put, List.setIfInBounds_toArray, List.set_cons_zero, List.set_cons_succ, i64_w, i32_w]
                  rfl
                refine one_ (i := 12) (N := some 77) #[true, true, true, true, true, true, true, true, true, true, true, true, true, false, false, false, true, false, false] rfl rfl (by kernel_rfl) (by decide) (fun K hK => ?_)
                refine goes_ Try.func10 (by kernel_rfl) rfl #[.slice A12_3 n c12_3, .int .i64 P] (by rfl) rfl rfl (by (try simp only [List.map_toArray, List.map_cons, List.map_nil]); first | done | rfl) ?_
                refine (HM14.out A12_3 c12_3 _ (by have h := (Kd.R_reads' HO12_6.out).2.2; rw [List.nil_append] at h; rw [← HRL2.out, HRLN.out] at h; exact h)).mono ?_
                rintro e x12_7 ⟨B12_7, d12_7, rfl, -, -, hc12_7⟩
                refine ⟨_, rfl, ?_⟩
                have hb12_7 := below_step HB12_6.out hc12_7
                have HB12_7 := Aside0.mk hb12_7
                have HA12_7 := Aside0.mk (show w4_.heap.size ≤ x12_3.heap.size ∧ x12_7.heap[x12_3.heap.size]? = some (.cells #[.slice none 0 0, .int .i64 0, .int .i64 0] 29 (0, 0)) from ⟨HA12_6.out.1, (blk_below HA12_6.out.2 hc12_7)⟩)
                refine hK.out _ _ HB12_7.out (fun hHeld => ?_)
                clear hK K
                refine norm_ (a' := ?_) ?_ ?_
                rotate_left
                · show Act.put _ (some 77) _ = _
                  simp only [Act.put, List.setIfInBounds_toArray, List.set_cons_zero, List.set_cons_succ, i64_w, i32_w]
                  rfl
                refine pure_ (i := 13) (N := some 64) (v := ?_) (a' := ?_) #[true, true, true, true, true, true, true, true, true, true, true, true, true, true, false, false, true, false, false] rfl rfl (by kernel_rfl) (fun _ _ _ h => h) (Or.inl ⟨by rfl, ?_⟩) ?_ ?_
                rotate_left
                · intro w'
                  go_simp
                  with_reducible rfl
                rotate_left
                · (try show Act.put _ _ _ = _); simp only [Act.put, List.setIfInBounds_toArray, List.set_cons_zero, List.set_cons_succ, i64_w, i32_w]
                  rfl
                refine pure_ (i := 14) (N := some 78) (v := ?_) (a' := ?_) #[true, true, true, true, true, true, true, true, true, true, true, true, true, true, true, false, true, false, false] rfl rfl (by kernel_rfl) (fun _ _ _ h => h) (Or.inl ⟨by rfl, ?_⟩) ?_ ?_
                rotate_left
                · intro w'
                  go_simp
                  with_reducible rfl
                rotate_left
                · (try show Act.put _ _ _ = _); simp only [Act.put, List.setIfInBounds_toArray, List.set_cons_zero, List.set_cons_succ, i64_w, i32_w]
                  rfl
                refine pure_ (i := 15) (N := some 79) (v := ?_) (a' := ?_) #[true, true, true, true, true, true, true, true, true, true, true, true, true, true, true, true, true, false, false] rfl rfl (by kernel_rfl) (fun _ _ _ h => h) (Or.inl ⟨by rfl, ?_⟩) ?_ ?_
                rotate_left
                · intro w'
                  go_simp
                  with_reducible rfl
                rotate_left
                · (try show Act.put _ _ _ = _); simp only [Act.put, List.setIfInBounds_toArray, List.set_cons_zero, List.set_cons_succ, i64_w, i32_w]
                  rfl
                exact norm_ (by show _ = putAll _ _; simp only [putAll, Act.put, List.setIfInBounds_toArray, List.set_cons_zero, List.set_cons_succ, i64_w, i32_w]) (hJ (v12_1, v12_2, (A12_3, c12_3), (B12_7, d12_7), x12_3.heap.size) _ ⟨HB12_7.out, HA12_7.out.1, HA12_7.out.2⟩)
            ·
              refine value_ (w1 := x12_2.alloc (.cells #[.slice none 0 0, .int .i64 0, .int .i64 0] 29)) (v := .pointer (some ⟨x12_2.heap.size, 0, none⟩)) (by rfl) rfl ?_ ?_
              · go_simp
              have HB12_8 := Aside0.mk (HB12_2.out.alloc HB12_2.out.size (.cells #[.slice none 0 0, .int .i64 0, .int .i64 0] 29))
              have HA12_8 := Aside0.mk (show w4_.heap.size ≤ x12_2.heap.size ∧ (x12_2.alloc (.cells #[.slice none 0 0, .int .i64 0, .int .i64 0] 29)).heap[x12_2.heap.size]? = some (.cells #[.slice none 0 0, .int .i64 0, .int .i64 0] 29 (0, 0)) from ⟨HB12_2.out.size, blk_new x12_2 _⟩)
              have HO12_8 := Aside0.mk (Kd.R_below HO12_2.out ((Below.refl _ _).alloc (Nat.le_refl _) (.cells #[.slice none 0 0, .int .i64 0, .int .i64 0] 29)))
              refine hK.out _ _ HB12_8.out (fun hHeld => ?_)
              clear hK K
              refine norm_ (a' := ?_) ?_ ?_
              rotate_left
              · show Act.put _ (some 14) _ = _
                simp only [Act.put, List.setIfInBounds_toArray, List.set_cons_zero, List.set_cons_succ, i64_w, i32_w]
                rfl
              refine one_ (i := 10) (N := some 75) #[true, true, true, true, true, true, true, true, true, true, true, true, false, false, false, false, true, false, false] rfl rfl (by kernel_rfl) (by decide) (fun K hK => ?_)
              refine Kd.R_append_rows_step (Kd.int .i64) (w0 := w4_) w4_.heap.size (by rfl) (.tmp 70) (.tmp 74) 26 3 (.int .i64 0) 8 rfl Try.underlying26 info3 rfl (by decide) (by decide) _ ([] ++ us.drop t) (us.take t) _ _ _ (fun _ => True) (fun _ => False) rfl rfl ?aO12_9 ?aR12_9 (fun _ _ h => h) (fun _ h => h.elim) ?aF12_9 ?aB12_9 ?aS12_9 ?aL12_9 ?_
              (case aO12_9 => exact HO12_8.out)
              (case aR12_9 => exact (HCUT.out _ HB12_8.out).2)
              (case aF12_9 => exact (fun _ _ => trivial))
              (case aB12_9 => exact HB12_8.out)
              (case aS12_9 => exact HB12_8.out.size)
              (case aL12_9 => have := HNT.out; simp only [List.length_nil, List.nil_append, List.length_drop, HLU.out]; omega)
              intro v12_9 x12_9 ho12_9 hb12_9 hg12_9 hn12_9
              clear hn12_9
              obtain ⟨A12_9, c12_9, rfl⟩ := Kd.R_slice ho12_9
              rw [HRL.out] at ho12_9 ⊢
              have HB12_9 := Aside0.mk hb12_9
              have HO12_9 := Aside0.mk ho12_9
              have HA12_9 := Aside0.mk (show w4_.heap.size ≤ x12_2.heap.size ∧ x12_9.heap[x12_2.heap.size]? = some (.cells #[.slice none 0 0, .int .i64 0, .int .i64 0] 29 (0, 0)) from ⟨HA12_8.out.1, (keepA HA12_8.out.2 HO12_8.out hg12_9)⟩)
              refine hK.out _ _ HB12_9.out (fun hHeld => ?_)
              clear hK K
              refine norm_ (a' := ?_) ?_ ?_
              rotate_left
              · show Act.put _ (some 75) _ = _
                simp only [Act.put, List.setIfInBounds_toArray, List.set_cons_zero, List.set_cons_succ, i64_w, i32_w]
                rfl
              refine one_ (i := 12) (N := some 77) #[true, true, true, true, true, true, true, true, true, true, true, true, true, false, false, false, true, false, false] rfl rfl (by kernel_rfl) (by decide) (fun K hK => ?_)
              refine goes_ Try.func10 (by kernel_rfl) rfl #[.slice A12_9 n c12_9, .int .i64 P] (by rfl) rfl rfl (by (try simp only [List.map_toArray, List.map_cons, List.map_nil]); first | done | rfl) ?_
              refine (HM14.out A12_9 c12_9 _ (by have h := (Kd.R_reads' HO12_9.out).2.2; rw [List.nil_append] at h; rw [← HRL2.out, HRLN.out] at h; exact h)).mono ?_
              rintro e x12_10 ⟨B12_10, d12_10, rfl, -, -, hc12_10⟩
              refine ⟨_, rfl, ?_⟩
              have hb12_10 := below_step HB12_9.out hc12_10
              have HB12_10 := Aside0.mk hb12_10
              have HA12_10 := Aside0.mk (show w4_.heap.size ≤ x12_2.heap.size ∧ x12_10.heap[x12_2.heap.size]? = some (.cells #[.slice none 0 0, .int .i64 0, .int .i64 0] 29 (0, 0)) from ⟨HA12_9.out.1, (blk_below HA12_9.out.2 hc12_10)⟩)
              refine hK.out _ _ HB12_10.out (fun hHeld => ?_)
              clear hK K
              refine norm_ (a' := ?_) ?_ ?_
              rotate_left
              · show Act.put _ (some 77) _ = _
                simp only [Act.put, List.setIfInBounds_toArray, List.set_cons_zero, List.set_cons_succ, i64_w, i32_w]
                rfl
              refine pure_ (i := 13) (N := some 64) (v := ?_) (a' := ?_) #[true, true, true, true, true, true, true, true, true, true, true, true, true, true, false, false, true, false, false] rfl rfl (by kernel_rfl) (fun _ _ _ h => h) (Or.inl ⟨by rfl, ?_⟩) ?_ ?_
              rotate_left
              · intro w'
                go_simp
                with_reducible rfl
              rotate_left
              · (try show Act.put _ _ _ = _); simp only [Act.put, List.setIfInBounds_toArray, List.set_cons_zero, List.set_cons_succ, i64_w, i32_w]
                rfl
              refine pure_ (i := 14) (N := some 78) (v := ?_) (a' := ?_) #[true, true, true, true, true, true, true, true, true, true, true, true, true, true, true, false, true, false, false] rfl rfl (by kernel_rfl) (fun _ _ _ h => h) (Or.inl ⟨by rfl, ?_⟩) ?_ ?_
              rotate_left
              · intro w'
                go_simp
                with_reducible rfl
              rotate_left
              · (try show Act.put _ _ _ = _); simp only [Act.put, List.setIfInBounds_toArray, List.set_cons_zero, List.set_cons_succ, i64_w, i32_w]
                rfl
              refine pure_ (i := 15) (N := some 79) (v := ?_) (a' := ?_) #[true, true, true, true, true, true, true, true, true, true, true, true, true, true, true, true, true, false, false] rfl rfl (by kernel_rfl) (fun _ _ _ h => h) (Or.inl ⟨by rfl, ?_⟩) ?_ ?_
              rotate_left
              · intro w'
                go_simp
                with_reducible rfl
              rotate_left
              · (try show Act.put _ _ _ = _); simp only [Act.put, List.setIfInBounds_toArray, List.set_cons_zero, List.set_cons_succ, i64_w, i32_w]
                rfl
              exact norm_ (by show _ = putAll _ _; simp only [putAll, Act.put, List.setIfInBounds_toArray, List.set_cons_zero, List.set_cons_succ, i64_w, i32_w]) (hJ (v12_1, v12_2, (A12_9, c12_9), (B12_10, d12_10), x12_2.heap.size) _ ⟨HB12_10.out, HA12_10.out.1, HA12_10.out.2⟩)
          ·
            refine value_ (w1 := x12_1.alloc (.cells #[.slice none 0 0, .int .i64 0, .int .i64 0] 29)) (v := .pointer (some ⟨x12_1.heap.size, 0, none⟩)) (by rfl) rfl ?_ ?_
            · go_simp
            have HB12_11 := Aside0.mk (HB12_1.out.alloc HB12_1.out.size (.cells #[.slice none 0 0, .int .i64 0, .int .i64 0] 29))
            have HA12_11 := Aside0.mk (show w4_.heap.size ≤ x12_1.heap.size ∧ (x12_1.alloc (.cells #[.slice none 0 0, .int .i64 0, .int .i64 0] 29)).heap[x12_1.heap.size]? = some (.cells #[.slice none 0 0, .int .i64 0, .int .i64 0] 29 (0, 0)) from ⟨HB12_1.out.size, blk_new x12_1 _⟩)
            have HO12_11 := Aside0.mk (Kd.R_below HO12_1.out ((Below.refl _ _).alloc (Nat.le_refl _) (.cells #[.slice none 0 0, .int .i64 0, .int .i64 0] 29)))
            refine hK.out _ _ HB12_11.out (fun hHeld => ?_)
            clear hK K
            refine norm_ (a' := ?_) ?_ ?_
            rotate_left
            · show Act.put _ (some 14) _ = _
              simp only [Act.put, List.setIfInBounds_toArray, List.set_cons_zero, List.set_cons_succ, i64_w, i32_w]
              rfl
            refine one_ (i := 5) (N := some 70) #[true, true, true, true, true, true, true, true, true, true, false, true, false, false, false, false, true, false, false] rfl rfl (by kernel_rfl) (by decide) (fun K hK => ?_)
            refine Kd.R_append_rows_step (Kd.int .i64) (w0 := w4_) w4_.heap.size (by rfl) (.tmp 65) (.tmp 69) 26 3 (.int .i64 0) 8 rfl Try.underlying26 info3 rfl (by decide) (by decide) _ [] (us.drop t) _ _ _ (fun _ => True) (fun _ => False) rfl rfl ?aO12_12 ?aR12_12 (fun _ _ h => h) (fun _ h => h.elim) ?aF12_12 ?aB12_12 ?aS12_12 ?aL12_12 ?_
            (case aO12_12 => exact HO12_11.out)
            (case aR12_12 => exact (HCUT.out _ HB12_11.out).1)
            (case aF12_12 => exact (fun _ _ => trivial))
            (case aB12_12 => exact HB12_11.out)
            (case aS12_12 => exact HB12_11.out.size)
            (case aL12_12 => have := HNT.out; simp only [List.length_nil, List.nil_append, List.length_drop, HLU.out]; omega)
            intro v12_12 x12_12 ho12_12 hb12_12 hg12_12 hn12_12
            clear hn12_12
            have HB12_12 := Aside0.mk hb12_12
            have HO12_12 := Aside0.mk ho12_12
            have HA12_12 := Aside0.mk (show w4_.heap.size ≤ x12_1.heap.size ∧ x12_12.heap[x12_1.heap.size]? = some (.cells #[.slice none 0 0, .int .i64 0, .int .i64 0] 29 (0, 0)) from ⟨HA12_11.out.1, (keepA HA12_11.out.2 HO12_11.out hg12_12)⟩)
            refine hK.out _ _ HB12_12.out (fun hHeld => ?_)
            clear hK K
            refine norm_ (a' := ?_) ?_ ?_
            rotate_left
            · show Act.put _ (some 70) _ = _
              simp only [Act.put, List.setIfInBounds_toArray, List.set_cons_zero, List.set_cons_succ, i64_w, i32_w]
              rfl
            refine one_ (i := 10) (N := some 75) #[true, true, true, true, true, true, true, true, true, true, true, true, false, false, false, false, true, false, false] rfl rfl (by kernel_rfl) (by decide) (fun K hK => ?_)
            refine Kd.R_append_rows_step (Kd.int .i64) (w0 := w4_) w4_.heap.size (by rfl) (.tmp 70) (.tmp 74) 26 3 (.int .i64 0) 8 rfl Try.underlying26 info3 rfl (by decide) (by decide) _ ([] ++ us.drop t) (us.take t) _ _ _ (fun _ => True) (fun _ => False) rfl rfl ?aO12_13 ?aR12_13 (fun _ _ h => h) (fun _ h => h.elim) ?aF12_13 ?aB12_13 ?aS12_13 ?aL12_13 ?_
            (case aO12_13 => exact HO12_12.out)
            (case aR12_13 => exact (HCUT.out _ HB12_12.out).2)
            (case aF12_13 => exact (fun _ _ => trivial))
            (case aB12_13 => exact HB12_12.out)
            (case aS12_13 => exact HB12_12.out.size)
            (case aL12_13 => have := HNT.out; simp only [List.length_nil, List.nil_append, List.length_drop, HLU.out]; omega)
            intro v12_13 x12_13 ho12_13 hb12_13 hg12_13 hn12_13
            clear hn12_13
            obtain ⟨A12_13, c12_13, rfl⟩ := Kd.R_slice ho12_13
            rw [HRL.out] at ho12_13 ⊢
            have HB12_13 := Aside0.mk hb12_13
            have HO12_13 := Aside0.mk ho12_13
            have HA12_13 := Aside0.mk (show w4_.heap.size ≤ x12_1.heap.size ∧ x12_13.heap[x12_1.heap.size]? = some (.cells #[.slice none 0 0, .int .i64 0, .int .i64 0] 29 (0, 0)) from ⟨HA12_12.out.1, (keepA HA12_12.out.2 HO12_12.out hg12_13)⟩)
            refine hK.out _ _ HB12_13.out (fun hHeld => ?_)
            clear hK K
            refine norm_ (a' := ?_) ?_ ?_
            rotate_left
            · show Act.put _ (some 75) _ = _
              simp only [Act.put, List.setIfInBounds_toArray, List.set_cons_zero, List.set_cons_succ, i64_w, i32_w]
              rfl
            refine one_ (i := 12) (N := some 77) #[true, true, true, true, true, true, true, true, true, true, true, true, true, false, false, false, true, false, false] rfl rfl (by kernel_rfl) (by decide) (fun K hK => ?_)
            refine goes_ Try.func10 (by kernel_rfl) rfl #[.slice A12_13 n c12_13, .int .i64 P] (by rfl) rfl rfl (by (try simp only [List.map_toArray, List.map_cons, List.map_nil]); first | done | rfl) ?_
            refine (HM14.out A12_13 c12_13 _ (by have h := (Kd.R_reads' HO12_13.out).2.2; rw [List.nil_append] at h; rw [← HRL2.out, HRLN.out] at h; exact h)).mono ?_
            rintro e x12_14 ⟨B12_14, d12_14, rfl, -, -, hc12_14⟩
            refine ⟨_, rfl, ?_⟩
            have hb12_14 := below_step HB12_13.out hc12_14
            have HB12_14 := Aside0.mk hb12_14
            have HA12_14 := Aside0.mk (show w4_.heap.size ≤ x12_1.heap.size ∧ x12_14.heap[x12_1.heap.size]? = some (.cells #[.slice none 0 0, .int .i64 0, .int .i64 0] 29 (0, 0)) from ⟨HA12_13.out.1, (blk_below HA12_13.out.2 hc12_14)⟩)
            refine hK.out _ _ HB12_14.out (fun hHeld => ?_)
            clear hK K
            refine norm_ (a' := ?_) ?_ ?_
            rotate_left
            · show Act.put _ (some 77) _ = _
              simp only [Act.put, List.setIfInBounds_toArray, List.set_cons_zero, List.set_cons_succ, i64_w, i32_w]
              rfl
            refine pure_ (i := 13) (N := some 64) (v := ?_) (a' := ?_) #[true, true, true, true, true, true, true, true, true, true, true, true, true, true, false, false, true, false, false] rfl rfl (by kernel_rfl) (fun _ _ _ h => h) (Or.inl ⟨by rfl, ?_⟩) ?_ ?_
            rotate_left
            · intro w'
              go_simp
              with_reducible rfl
            rotate_left
            · (try show Act.put _ _ _ = _); simp only [Act.put, List.setIfInBounds_toArray, List.set_cons_zero, List.set_cons_succ, i64_w, i32_w]
              rfl
            refine pure_ (i := 14) (N := some 78) (v := ?_) (a' := ?_) #[true, true, true, true, true, true, true, true, true, true, true, true, true, true, true, false, true, false, false] rfl rfl (by kernel_rfl) (fun _ _ _ h => h) (Or.inl ⟨by rfl, ?_⟩) ?_ ?_
            rotate_left
            · intro w'
              go_simp
              with_reducible rfl
            rotate_left
            · (try show Act.put _ _ _ = _); simp only [Act.put, List.setIfInBounds_toArray, List.set_cons_zero, List.set_cons_succ, i64_w, i32_w]
              rfl
            refine pure_ (i := 15) (N := some 79) (v := ?_) (a' := ?_) #[true, true, true, true, true, true, true, true, true, true, true, true, true, true, true, true, true, false, false] rfl rfl (by kernel_rfl) (fun _ _ _ h => h) (Or.inl ⟨by rfl, ?_⟩) ?_ ?_
            rotate_left
            · intro w'
              go_simp
              with_reducible rfl
            rotate_left
            · (try show Act.put _ _ _ = _); simp only [Act.put, List.setIfInBounds_toArray, List.set_cons_zero, List.set_cons_succ, i64_w, i32_w]
              rfl
            exact norm_ (by show _ = putAll _ _; simp only [putAll, Act.put, List.setIfInBounds_toArray, List.set_cons_zero, List.set_cons_succ, i64_w, i32_w]) (hJ (v12_1, v12_12, (A12_13, c12_13), (B12_14, d12_14), x12_1.heap.size) _ ⟨HB12_14.out, HA12_14.out.1, HA12_14.out.2⟩)
        ·
          refine value_ (w1 := wq.alloc (.cells #[.slice none 0 0, .int .i64 0, .int .i64 0] 29)) (v := .pointer (some ⟨wq.heap.size, 0, none⟩)) (by rfl) rfl ?_ ?_
          · go_simp
          have HB12_15 := Aside0.mk (HB0q.out.alloc HB0q.out.size (.cells #[.slice none 0 0, .int .i64 0, .int .i64 0] 29))
          have HA12_15 := Aside0.mk (show w4_.heap.size ≤ wq.heap.size ∧ (wq.alloc (.cells #[.slice none 0 0, .int .i64 0, .int .i64 0] 29)).heap[wq.heap.size]? = some (.cells #[.slice none 0 0, .int .i64 0, .int .i64 0] 29 (0, 0)) from ⟨HB0q.out.size, blk_new wq _⟩)
          refine hK.out _ _ HB12_15.out (fun hHeld => ?_)
          clear hK K
          refine norm_ (a' := ?_) ?_ ?_
          rotate_left
          · show Act.put _ (some 14) _ = _
            simp only [Act.put, List.setIfInBounds_toArray, List.set_cons_zero, List.set_cons_succ, i64_w, i32_w]
            rfl
          refine one_ (i := 0) (N := some 65) #[true, true, true, true, true, false, true, true, true, true, false, true, false, false, false, false, true, false, false] rfl rfl (by kernel_rfl) (by decide) (fun K hK => ?_)
          refine Kd.R_lit_step (Kd.int .i64) (w0 := w4_) w4_.heap.size 3 (by rfl) (N := 65) rfl (xs := ([] : List Int)) (inner := []) (ok := fun _ => True) (okp := fun _ => True) ?hr12_16 ?hp12_16 (fun _ hk => hk) trivial HB12_15.out HB12_15.out.size (by decide) ?_
          (case hr12_16 => first | (go_simp; done) | (go_simp; rfl))
          (case hp12_16 => exact (Reps.none _ _))
          intro v12_16 x12_16 ho12_16 hb12_16 hg12_16 hn12_16
          clear hn12_16
          have HB12_16 := Aside0.mk hb12_16
          have HO12_16 := Aside0.mk ho12_16
          have HA12_16 := Aside0.mk (show w4_.heap.size ≤ wq.heap.size ∧ x12_16.heap[wq.heap.size]? = some (.cells #[.slice none 0 0, .int .i64 0, .int .i64 0] 29 (0, 0)) from ⟨HA12_15.out.1, (keepN HA12_15.out.2 hg12_16)⟩)
          refine hK.out _ _ HB12_16.out (fun hHeld => ?_)
          clear hK K
          refine norm_ (a' := ?_) ?_ ?_
          rotate_left
          · show Act.put _ (some 65) _ = _
            simp only [Act.put, List.setIfInBounds_toArray, List.set_cons_zero, List.set_cons_succ, i64_w, i32_w]
            rfl
          refine one_ (i := 5) (N := some 70) #[true, true, true, true, true, true, true, true, true, true, false, true, false, false, false, false, true, false, false] rfl rfl (by kernel_rfl) (by decide) (fun K hK => ?_)
          refine Kd.R_append_rows_step (Kd.int .i64) (w0 := w4_) w4_.heap.size (by rfl) (.tmp 65) (.tmp 69) 26 3 (.int .i64 0) 8 rfl Try.underlying26 info3 rfl (by decide) (by decide) _ [] (us.drop t) _ _ _ (fun _ => True) (fun _ => False) rfl rfl ?aO12_17 ?aR12_17 (fun _ _ h => h) (fun _ h => h.elim) ?aF12_17 ?aB12_17 ?aS12_17 ?aL12_17 ?_
          (case aO12_17 => exact HO12_16.out)
          (case aR12_17 => exact (HCUT.out _ HB12_16.out).1)
          (case aF12_17 => exact (fun _ _ => trivial))
          (case aB12_17 => exact HB12_16.out)
          (case aS12_17 => exact HB12_16.out.size)
          (case aL12_17 => have := HNT.out; simp only [List.length_nil, List.nil_append, List.length_drop, HLU.out]; omega)
          intro v12_17 x12_17 ho12_17 hb12_17 hg12_17 hn12_17
          clear hn12_17
          have HB12_17 := Aside0.mk hb12_17
          have HO12_17 := Aside0.mk ho12_17
          have HA12_17 := Aside0.mk (show w4_.heap.size ≤ wq.heap.size ∧ x12_17.heap[wq.heap.size]? = some (.cells #[.slice none 0 0, .int .i64 0, .int .i64 0] 29 (0, 0)) from ⟨HA12_16.out.1, (keepA HA12_16.out.2 HO12_16.out hg12_17)⟩)
          refine hK.out _ _ HB12_17.out (fun hHeld => ?_)
          clear hK K
          refine norm_ (a' := ?_) ?_ ?_
          rotate_left
          · show Act.put _ (some 70) _ = _
            simp only [Act.put, List.setIfInBounds_toArray, List.set_cons_zero, List.set_cons_succ, i64_w, i32_w]
            rfl
          refine one_ (i := 10) (N := some 75) #[true, true, true, true, true, true, true, true, true, true, true, true, false, false, false, false, true, false, false] rfl rfl (by kernel_rfl) (by decide) (fun K hK => ?_)
          refine Kd.R_append_rows_step (Kd.int .i64) (w0 := w4_) w4_.heap.size (by rfl) (.tmp 70) (.tmp 74) 26 3 (.int .i64 0) 8 rfl Try.underlying26 info3 rfl (by decide) (by decide) _ ([] ++ us.drop t) (us.take t) _ _ _ (fun _ => True) (fun _ => False) rfl rfl ?aO12_18 ?aR12_18 (fun _ _ h => h) (fun _ h => h.elim) ?aF12_18 ?aB12_18 ?aS12_18 ?aL12_18 ?_
          (case aO12_18 => exact HO12_17.out)
          (case aR12_18 => exact (HCUT.out _ HB12_17.out).2)
          (case aF12_18 => exact (fun _ _ => trivial))
          (case aB12_18 => exact HB12_17.out)
          (case aS12_18 => exact HB12_17.out.size)
          (case aL12_18 => have := HNT.out; simp only [List.length_nil, List.nil_append, List.length_drop, HLU.out]; omega)
          intro v12_18 x12_18 ho12_18 hb12_18 hg12_18 hn12_18
          clear hn12_18
          obtain ⟨A12_18, c12_18, rfl⟩ := Kd.R_slice ho12_18
          rw [HRL.out] at ho12_18 ⊢
          have HB12_18 := Aside0.mk hb12_18
          have HO12_18 := Aside0.mk ho12_18
          have HA12_18 := Aside0.mk (show w4_.heap.size ≤ wq.heap.size ∧ x12_18.heap[wq.heap.size]? = some (.cells #[.slice none 0 0, .int .i64 0, .int .i64 0] 29 (0, 0)) from ⟨HA12_17.out.1, (keepA HA12_17.out.2 HO12_17.out hg12_18)⟩)
          refine hK.out _ _ HB12_18.out (fun hHeld => ?_)
          clear hK K
          refine norm_ (a' := ?_) ?_ ?_
          rotate_left
          · show Act.put _ (some 75) _ = _
            simp only [Act.put, List.setIfInBounds_toArray, List.set_cons_zero, List.set_cons_succ, i64_w, i32_w]
            rfl
          refine one_ (i := 12) (N := some 77) #[true, true, true, true, true, true, true, true, true, true, true, true, true, false, false, false, true, false, false] rfl rfl (by kernel_rfl) (by decide) (fun K hK => ?_)
          refine goes_ Try.func10 (by kernel_rfl) rfl #[.slice A12_18 n c12_18, .int .i64 P] (by rfl) rfl rfl (by (try simp only [List.map_toArray, List.map_cons, List.map_nil]); first | done | rfl) ?_
          refine (HM14.out A12_18 c12_18 _ (by have h := (Kd.R_reads' HO12_18.out).2.2; rw [List.nil_append] at h; rw [← HRL2.out, HRLN.out] at h; exact h)).mono ?_
          rintro e x12_19 ⟨B12_19, d12_19, rfl, -, -, hc12_19⟩
          refine ⟨_, rfl, ?_⟩
          have hb12_19 := below_step HB12_18.out hc12_19
          have HB12_19 := Aside0.mk hb12_19
          have HA12_19 := Aside0.mk (show w4_.heap.size ≤ wq.heap.size ∧ x12_19.heap[wq.heap.size]? = some (.cells #[.slice none 0 0, .int .i64 0, .int .i64 0] 29 (0, 0)) from ⟨HA12_18.out.1, (blk_below HA12_18.out.2 hc12_19)⟩)
          refine hK.out _ _ HB12_19.out (fun hHeld => ?_)
          clear hK K
          refine norm_ (a' := ?_) ?_ ?_
          rotate_left
          · show Act.put _ (some 77) _ = _
            simp only [Act.put, List.setIfInBounds_toArray, List.set_cons_zero, List.set_cons_succ, i64_w, i32_w]
            rfl
          refine pure_ (i := 13) (N := some 64) (v := ?_) (a' := ?_) #[true, true, true, true, true, true, true, true, true, true, true, true, true, true, false, false, true, false, false] rfl rfl (by kernel_rfl) (fun _ _ _ h => h) (Or.inl ⟨by rfl, ?_⟩) ?_ ?_
          rotate_left
          · intro w'
            go_simp
            with_reducible rfl
          rotate_left
          · (try show Act.put _ _ _ = _); simp only [Act.put, List.setIfInBounds_toArray, List.set_cons_zero, List.set_cons_succ, i64_w, i32_w]
            rfl
          refine pure_ (i := 14) (N := some 78) (v := ?_) (a' := ?_) #[true, true, true, true, true, true, true, true, true, true, true, true, true, true, true, false, true, false, false] rfl rfl (by kernel_rfl) (fun _ _ _ h => h) (Or.inl ⟨by rfl, ?_⟩) ?_ ?_
          rotate_left
          · intro w'
            go_simp
            with_reducible rfl
          rotate_left
          · (try show Act.put _ _ _ = _); simp only [Act.put, List.setIfInBounds_toArray, List.set_cons_zero, List.set_cons_succ, i64_w, i32_w]
            rfl
          refine pure_ (i := 15) (N := some 79) (v := ?_) (a' := ?_) #[true, true, true, true, true, true, true, true, true, true, true, true, true, true, true, true, true, false, false] rfl rfl (by kernel_rfl) (fun _ _ _ h => h) (Or.inl ⟨by rfl, ?_⟩) ?_ ?_
          rotate_left
          · intro w'
            go_simp
            with_reducible rfl
          rotate_left
          · (try show Act.put _ _ _ = _); simp only [Act.put, List.setIfInBounds_toArray, List.set_cons_zero, List.set_cons_succ, i64_w, i32_w]
            rfl
          exact norm_ (by show _ = putAll _ _; simp only [putAll, Act.put, List.setIfInBounds_toArray, List.set_cons_zero, List.set_cons_succ, i64_w, i32_w]) (hJ (v12_16, v12_17, (A12_18, c12_18), (B12_19, d12_19), wq.heap.size) _ ⟨HB12_19.out, HA12_19.out.1, HA12_19.out.2⟩)
      case cont12 =>
        rintro ⟨y0, y1, ⟨y2, y3⟩, ⟨A_14, k_14⟩, g_14⟩ wj ⟨hbj, hgj, hlj⟩
        refine norm_ (a' := ?_) ?_ ?_
        rotate_left
        · show putAll _ _ = _
          simp only [putAll, Act.put, List.setIfInBounds_toArray, List.set_cons_zero, List.set_cons_succ, i64_w, i32_w]
          rfl
        refine last_ (i := 17) (N := none) #[true, true, true, true, true, true, true, true, true, true, true, true, true, true, true, true, true, true, false] rfl rfl (by kernel_rfl) (by decide) (fun K hK => ?_)
        have hst := run_store_run (P := Try.prog) (w := wj) (g := g_14) (o := 0) 29 (.agg #[.slice A_14 n k_14, .int .i64 (B12 : Int), .int .i64 P12]) [.slice A_14 n k_14, .int .i64 (B12 : Int), .int .i64 P12] hlj rfl loadInfo (by simp) (by intro q hq; simp only [List.mem_cons, List.not_mem_nil, or_false] at hq; rcases hq with rfl | rfl | rfl <;> rfl)
        refine skip_ (w1 := ((wj.setCell ⟨g_14, 0, none⟩ (.slice A_14 n k_14)).setCell ⟨g_14, 1, none⟩ (.int .i64 (B12 : Int))).setCell ⟨g_14, 2, none⟩ (.int .i64 P12)) (by rfl) rfl ?_ ?_
        · exact exec_store rfl _ _ rfl rfl hst
        clear hst
        refine hK.out _ _ ?_
        clear hK K
        refine pure_ (i := 18) (N := some 15) (v := ?_) (a' := ?_) #[true, true, true, true, true, true, true, true, true, true, true, true, true, true, true, true, true, true, true] rfl rfl (by kernel_rfl) (fun _ _ _ h => h) (Or.inl ⟨by rfl, ?_⟩) ?_ ?_
        rotate_left
        · intro w'
          go_simp
          with_reducible rfl
        rotate_left
        · (try show Act.put _ _ _ = _); simp only [Act.put, List.setIfInBounds_toArray, List.set_cons_zero, List.set_cons_succ, i64_w, i32_w]
          rfl
        refine done_ (by kernel_rfl) ?_
        show onlyNormal _ .normal _ _
        unfold onlyNormal
        obtain ⟨w5_, hx_5⟩ : ∃ w5_, ((wj.setCell ⟨g_14, 0, none⟩ (.slice A_14 n k_14)).setCell ⟨g_14, 1, none⟩ (.int .i64 (B12 : Int))).setCell ⟨g_14, 2, none⟩ (.int .i64 P12) = w5_ := ⟨_, rfl⟩
        rw [hx_5]
        have HB_5 := Aside0.mk (show Below w4_.heap.size w4_ w5_ from hx_5 ▸ (((hbj.setCell (p := ⟨g_14, 0, none⟩) hgj _).setCell (p := ⟨g_14, 1, none⟩) hgj _).setCell (p := ⟨g_14, 2, none⟩) hgj _))
        have HL_14_5 := Aside0.mk (show w5_.heap[g_14]? = some (.cells #[.slice A_14 n k_14, .int .i64 (B12 : Int), .int .i64 P12] 29 (0, 0)) from hx_5 ▸ sets3L hlj _ _ _)
        have c_14_0_5 : w5_.cell? ⟨g_14, 0, none⟩ = some (.slice A_14 n k_14) := (blk_cell HL_14_5.out 0).trans rfl
        have c_14_1_5 : w5_.cell? ⟨g_14, 1, none⟩ = some (.int .i64 (B12 : Int)) := (blk_cell HL_14_5.out 1).trans rfl
        have c_14_2_5 : w5_.cell? ⟨g_14, 2, none⟩ = some (.int .i64 P12) := (blk_cell HL_14_5.out 2).trans rfl
        have HR_U_5 := Aside0.mk (Kd.C_below HR_U_4.out HB_5.out)
        have HR_B12_5 := Aside0.mk (Kd.C_below HR_B12_4.out HB_5.out)
        have HL_12_5 := Aside0.mk (blk_below HL_12_4.out HB_5.out)
        have c_12_0_5 : w5_.cell? ⟨g_12, 0, none⟩ = some (.slice A12 n c12) := (blk_cell HL_12_5.out 0).trans rfl
        have c_12_1_5 : w5_.cell? ⟨g_12, 1, none⟩ = some (.int .i64 (B12 : Int)) := (blk_cell HL_12_5.out 1).trans rfl
        have c_12_2_5 : w5_.cell? ⟨g_12, 2, none⟩ = some (.int .i64 P12) := (blk_cell HL_12_5.out 2).trans rfl
        have HT_5 := Aside0.mk (below_step HT_4.out HB_5.out)
        clear HR_U_4 HR_B12_4 HL_12_4 c_12_0_4 c_12_1_4 c_12_2_4 hx_5 hbj hgj hlj HCUT
        go_wp2_with (first
          | (go_at_call 11; (with_reducible refine (HM16.out (some ⟨gW, 0, none⟩) cW w5_ HR_U_5.out).mono ?_); rintro e w6_ ⟨A16, c16, rfl, hc16, hC, hb⟩; (have HB_6 := Aside0.mk hb); (have HR_U_6 := Aside0.mk (Kd.C_below HR_U_5.out HB_6.out)); (have HR_B12_6 := Aside0.mk (Kd.C_below HR_B12_5.out HB_6.out)); (have HL_12_6 := Aside0.mk (blk_below HL_12_5.out HB_6.out)); (have c_12_0_6 : w6_.cell? ⟨g_12, 0, none⟩ = some (.slice A12 n c12) := (blk_cell HL_12_6.out 0).trans rfl); (have c_12_1_6 : w6_.cell? ⟨g_12, 1, none⟩ = some (.int .i64 (B12 : Int)) := (blk_cell HL_12_6.out 1).trans rfl); (have c_12_2_6 : w6_.cell? ⟨g_12, 2, none⟩ = some (.int .i64 P12) := (blk_cell HL_12_6.out 2).trans rfl); (have HL_14_6 := Aside0.mk (blk_below HL_14_5.out HB_6.out)); (have c_14_0_6 : w6_.cell? ⟨g_14, 0, none⟩ = some (.slice A_14 n k_14) := (blk_cell HL_14_6.out 0).trans rfl); (have c_14_1_6 : w6_.cell? ⟨g_14, 1, none⟩ = some (.int .i64 (B12 : Int)) := (blk_cell HL_14_6.out 1).trans rfl); (have c_14_2_6 : w6_.cell? ⟨g_14, 2, none⟩ = some (.int .i64 P12) := (blk_cell HL_14_6.out 2).trans rfl); (have HT_6 := Aside0.mk (below_step HT_5.out HB_6.out)); (have HK_16 := Aside0.mk hc16); (have HR_B16_6 := Aside0.mk (hC)); clear HR_U_5 HR_B12_5 HL_12_5 c_12_0_5 c_12_1_5 c_12_2_5 HL_14_5 c_14_0_5 c_14_1_5 c_14_2_5 hb)
          | ((with_reducible refine gate_store (t := 29) (p := 16) rfl ?_); refine wpList_store_row rfl 29 (.tmp 16) (.tmp 84) rfl w6_.heap.size #[.slice A16 n c16, .int .i64 (B16 : Int), .int .i64 P16] rfl rfl 29 _ (blk_new _ _) loadInfo rfl (by simp [Value.oneCell']) ?_; (obtain ⟨w7_, hx_7⟩ : ∃ w7_, (w6_.alloc (.cells #[.slice none 0 0, .int .i64 0, .int .i64 0] 29)).setRow w6_.heap.size #[.slice A16 n c16, .int .i64 (B16 : Int), .int .i64 P16] = w7_ := ⟨_, rfl⟩); (obtain ⟨g_16, hg_7⟩ : ∃ g_16, w6_.heap.size = g_16 := ⟨_, rfl⟩); (have HB_7 := Aside0.mk (show Below w6_.heap.size w6_ w7_ from hx_7 ▸ below_row9 ((Below.refl _ w6_).alloc (Nat.le_refl _) _) (Nat.le_refl _) _)); (have HL_16_7 := Aside0.mk (show w7_.heap[g_16]? = some (.cells #[.slice A16 n c16, .int .i64 (B16 : Int), .int .i64 P16] 29 (0, 0)) from hx_7 ▸ hg_7 ▸ setRow_heap9 _ _ _ _ _ (blk_new _ _))); rw [hx_7]; (try rw [hg_7]); (have c_16_0_7 : w7_.cell? ⟨g_16, 0, none⟩ = some (.slice A16 n c16) := (blk_cell HL_16_7.out 0).trans rfl); (have c_16_1_7 : w7_.cell? ⟨g_16, 1, none⟩ = some (.int .i64 (B16 : Int)) := (blk_cell HL_16_7.out 1).trans rfl); (have c_16_2_7 : w7_.cell? ⟨g_16, 2, none⟩ = some (.int .i64 P16) := (blk_cell HL_16_7.out 2).trans rfl); (have HR_U_7 := Aside0.mk (Kd.C_below HR_U_6.out HB_7.out)); (have HR_B12_7 := Aside0.mk (Kd.C_below HR_B12_6.out HB_7.out)); (have HR_B16_7 := Aside0.mk (Kd.C_below HR_B16_6.out HB_7.out)); (have HL_12_7 := Aside0.mk (blk_below HL_12_6.out HB_7.out)); (have c_12_0_7 : w7_.cell? ⟨g_12, 0, none⟩ = some (.slice A12 n c12) := (blk_cell HL_12_7.out 0).trans rfl); (have c_12_1_7 : w7_.cell? ⟨g_12, 1, none⟩ = some (.int .i64 (B12 : Int)) := (blk_cell HL_12_7.out 1).trans rfl); (have c_12_2_7 : w7_.cell? ⟨g_12, 2, none⟩ = some (.int .i64 P12) := (blk_cell HL_12_7.out 2).trans rfl); (have HL_14_7 := Aside0.mk (blk_below HL_14_6.out HB_7.out)); (have c_14_0_7 : w7_.cell? ⟨g_14, 0, none⟩ = some (.slice A_14 n k_14) := (blk_cell HL_14_7.out 0).trans rfl); (have c_14_1_7 : w7_.cell? ⟨g_14, 1, none⟩ = some (.int .i64 (B12 : Int)) := (blk_cell HL_14_7.out 1).trans rfl); (have c_14_2_7 : w7_.cell? ⟨g_14, 2, none⟩ = some (.int .i64 P12) := (blk_cell HL_14_7.out 2).trans rfl); (have HT_7 := Aside0.mk (below_step HT_6.out HB_7.out)); clear HR_U_6 HR_B12_6 HR_B16_6 HL_12_6 c_12_0_6 c_12_1_6 c_12_2_6 HL_14_6 c_14_0_6 c_14_1_6 c_14_2_6 hx_7 hg_7))
        have HCUT := Aside0.mk (show ∀ w', Below w7_.heap.size w7_ w' → Kd.C (Kd.int .i64) w' (some ⟨gW, t, none⟩) (n - t) (us.drop t) ∧ Kd.C (Kd.int .i64) w' (some ⟨gW, 0, none⟩) t (us.take t) from fun w' hb => C_cut (Kd.C_below HR_U_7.out hb) HLU.out HNT.out.1 (by have := HNT.out; omega))
        refine wp_normal ?_
        refine start_ (n := 19) (S := fun w' => Below w7_.heap.size w7_ w') (ds := [17]) #[false, false, false, false, false, false, false, false, false, false, false, false, false, false, false, false, false, false, false] (by kernel_rfl) rfl rfl ((Below.refl w7_.heap.size w7_).drew) (fun hHeld => ?_)
        obtain ⟨wq, hwq⟩ : ∃ wq, w7_.drew = wq := ⟨_, rfl⟩
        rw [hwq] at hHeld ⊢
        clear hwq
        have HB0q := Aside0.mk hHeld
        refine pure_ (i := 1) (N := some 88) (v := ?_) (a' := ?_) #[false, true, false, false, false, false, false, false, false, false, false, false, false, false, false, false, false, false, false] rfl rfl (by kernel_rfl) (fun _ _ _ h => h) (Or.inl ⟨by rfl, ?_⟩) ?_ ?_
        rotate_left
        · intro w'
          go_simp
          with_reducible rfl
        rotate_left
        · (try show Act.put _ _ _ = _); simp only [Act.put, List.setIfInBounds_toArray, List.set_cons_zero, List.set_cons_succ, i64_w, i32_w]
          rfl
        refine pure_ (i := 2) (N := some 89) (v := ?_) (a' := ?_) #[false, true, true, false, false, false, false, false, false, false, false, false, false, false, false, false, false, false, false] rfl rfl (by kernel_rfl) (fun _ _ _ h => h) (Or.inl ⟨by rfl, ?_⟩) ?_ ?_
        rotate_left
        · intro w'
          go_simp
          with_reducible rfl
        rotate_left
        · (try show Act.put _ _ _ = _); simp only [Act.put, List.setIfInBounds_toArray, List.set_cons_zero, List.set_cons_succ, i64_w, i32_w]
          rfl
        refine pure_ (i := 3) (N := some 90) (v := ?_) (a' := ?_) #[false, true, true, true, false, false, false, false, false, false, false, false, false, false, false, false, false, false, false] rfl rfl (by kernel_rfl) (fun _ _ _ h => h) (Or.inl ⟨by rfl, ?_⟩) ?_ ?_
        rotate_left
        · intro w'
          go_simp
          with_reducible rfl
        rotate_left
        · (try show Act.put _ _ _ = _); simp only [Act.put, List.setIfInBounds_toArray, List.set_cons_zero, List.set_cons_succ, i64_w, i32_w]
          rfl
        refine pure_ (i := 4) (N := some 91) (v := ?_) (a' := ?_) #[false, true, true, true, true, false, false, false, false, false, false, false, false, false, false, false, false, false, false] rfl rfl (by kernel_rfl) (fun _ _ _ h => h) (Or.inl ⟨by rfl, ?_⟩) ?_ ?_
        rotate_left
        · intro w'
          go_simp
          with_reducible rfl
        rotate_left
        · (try show Act.put _ _ _ = _); simp only [Act.put, List.setIfInBounds_toArray, List.set_cons_zero, List.set_cons_succ, i64_w, i32_w]
          rfl
        refine pure_ (i := 6) (N := some 93) (v := ?_) (a' := ?_) #[false, true, true, true, true, false, true, false, false, false, false, false, false, false, false, false, false, false, false] rfl rfl (by kernel_rfl) (fun _ _ _ h => h) (Or.inl ⟨by rfl, ?_⟩) ?_ ?_
        rotate_left
        · intro w'
          go_simp
          with_reducible rfl
        rotate_left
        · (try show Act.put _ _ _ = _); simp only [Act.put, List.setIfInBounds_toArray, List.set_cons_zero, List.set_cons_succ, i64_w, i32_w]
          rfl
        refine pure_ (i := 7) (N := some 94) (v := ?_) (a' := ?_) #[false, true, true, true, true, false, true, true, false, false, false, false, false, false, false, false, false, false, false] rfl rfl (by kernel_rfl) (fun _ _ _ h => h) (Or.inl ⟨by rfl, ?_⟩) ?_ ?_
        rotate_left
        · intro w'
          go_simp
          with_reducible rfl
        rotate_left
        · (try show Act.put _ _ _ = _); simp only [Act.put, List.setIfInBounds_toArray, List.set_cons_zero, List.set_cons_succ, i64_w, i32_w]
          rfl
        refine pure_ (i := 8) (N := some 95) (v := ?_) (a' := ?_) #[false, true, true, true, true, false, true, true, true, false, false, false, false, false, false, false, false, false, false] rfl rfl (by kernel_rfl) (fun _ _ _ h => h) (Or.inl ⟨by rfl, ?_⟩) ?_ ?_
        rotate_left
        · intro w'
          go_simp
          with_reducible rfl
        rotate_left
        · (try show Act.put _ _ _ = _); simp only [Act.put, List.setIfInBounds_toArray, List.set_cons_zero, List.set_cons_succ, i64_w, i32_w]
          rfl
        refine pure_ (i := 9) (N := some 96) (v := ?_) (a' := ?_) #[false, true, true, true, true, false, true, true, true, true, false, false, false, false, false, false, false, false, false] rfl rfl (by kernel_rfl) (fun _ _ _ h => h) (Or.inl ⟨by rfl, ?_⟩) ?_ ?_
        rotate_left
        · intro w'
          go_simp
          with_reducible rfl
        rotate_left
        · (try show Act.put _ _ _ = _); simp only [Act.put, List.setIfInBounds_toArray, List.set_cons_zero, List.set_cons_succ, i64_w, i32_w]
          rfl
        refine pure_ (i := 11) (N := some 98) (v := ?_) (a' := ?_) #[false, true, true, true, true, false, true, true, true, true, false, true, false, false, false, false, false, false, false] rfl rfl (by kernel_rfl) (fun _ _ _ h => h) (Or.inl ⟨by rfl, ?_⟩) ?_ ?_
        rotate_left
        · intro w'
          go_simp
          with_reducible rfl
        rotate_left
        · (try show Act.put _ _ _ = _); simp only [Act.put, List.setIfInBounds_toArray, List.set_cons_zero, List.set_cons_succ, i64_w, i32_w]
          rfl
        refine join_ 2 #[true, true, true, true, true, true, true, true, true, true, true, true, true, true, true, true, true, false, false] (σ := Value × Value × (Option Addr × Nat) × (Option Addr × Nat) × Nat) (fun s => [(87, s.1), (92, s.2.1), (97, .slice s.2.2.1.1 n s.2.2.1.2), (99, .tuple #[.agg #[.slice s.2.2.2.1.1 n s.2.2.2.1.2, .int .i64 (B16 : Int), .int .i64 P16], .int .i64 0]), (86, .tuple #[.agg #[.slice s.2.2.2.1.1 n s.2.2.2.1.2, .int .i64 (B16 : Int), .int .i64 P16], .int .i64 0]), (100, .agg #[.slice s.2.2.2.1.1 n s.2.2.2.1.2, .int .i64 (B16 : Int), .int .i64 P16]), (101, .int .i64 0), (18, .pointer (some ⟨s.2.2.2.2, 0, none⟩))]) (fun s w' => Below w7_.heap.size w7_ w' ∧ w7_.heap.size ≤ s.2.2.2.2 ∧ w'.heap[s.2.2.2.2]? = some (.cells #[.slice none 0 0, .int .i64 0, .int .i64 0] 29 (0, 0))) ?cont14 ?tree14
        case tree14 =>
          intro hJ
          refine two_ (i := 0) (j := 16) (Ni := some 87) (Nj := some 18) #[true, true, true, true, true, false, true, true, true, true, false, true, false, false, false, false, false, false, false] #[false, true, true, true, true, false, true, true, true, true, false, true, false, false, false, false, true, false, false] rfl rfl rfl rfl (by kernel_rfl) (by decide) (by decide) (fun K hK => ?_) (fun K hK => ?_)
          ·
            refine Kd.R_lit_step (Kd.int .i64) (w0 := w7_) w7_.heap.size 3 (by rfl) (N := 87) rfl (xs := ([] : List Int)) (inner := []) (ok := fun _ => True) (okp := fun _ => True) ?hr14_1 ?hp14_1 (fun _ hk => hk) trivial HB0q.out HB0q.out.size (by decide) ?_
            (case hr14_1 => first | (go_simp; done) | (go_simp; rfl))
            (case hp14_1 => exact (Reps.none _ _))
            intro v14_1 x14_1 ho14_1 hb14_1 hg14_1 hn14_1
            clear hn14_1
            have HB14_1 := Aside0.mk hb14_1
            have HO14_1 := Aside0.mk ho14_1
            refine hK.out _ _ HB14_1.out (fun hHeld => ?_)
            clear hK K
            refine norm_ (a' := ?_) ?_ ?_
            rotate_left
            · show Act.put _ (some 87) _ = _
              simp only [Act.put, List.setIfInBounds_toArray, List.set_cons_zero, List.set_cons_succ, i64_w, i32_w]
              rfl
            refine two_ (i := 5) (j := 16) (Ni := some 92) (Nj := some 18) #[true, true, true, true, true, true, true, true, true, true, false, true, false, false, false, false, false, false, false] #[true, true, true, true, true, false, true, true, true, true, false, true, false, false, false, false, true, false, false] rfl rfl rfl rfl (by kernel_rfl) (by decide) (by decide) (fun K hK => ?_) (fun K hK => ?_)
            ·
              refine Kd.R_append_rows_step (Kd.int .i64) (w0 := w7_) w7_.heap.size (by rfl) (.tmp 87) (.tmp 91) 26 3 (.int .i64 0) 8 rfl Try.underlying26 info3 rfl (by decide) (by decide) _ [] (us.drop t) _ _ _ (fun _ => True) (fun _ => False) rfl rfl ?aO14_2 ?aR14_2 (fun _ _ h => h) (fun _ h => h.elim) ?aF14_2 ?aB14_2 ?aS14_2 ?aL14_2 ?_
              (case aO14_2 => exact HO14_1.out)
              (case aR14_2 => exact (HCUT.out _ HB14_1.out).1)
              (case aF14_2 => exact (fun _ _ => trivial))
              (case aB14_2 => exact HB14_1.out)
              (case aS14_2 => exact HB14_1.out.size)
              (case aL14_2 => have := HNT.out; simp only [List.length_nil, List.nil_append, List.length_drop, HLU.out]; omega)
              intro v14_2 x14_2 ho14_2 hb14_2 hg14_2 hn14_2
              clear hn14_2
              have HB14_2 := Aside0.mk hb14_2
              have HO14_2 := Aside0.mk ho14_2
              refine hK.out _ _ HB14_2.out (fun hHeld => ?_)
              clear hK K
              refine norm_ (a' := ?_) ?_ ?_
              rotate_left
              · show Act.put _ (some 92) _ = _
                simp only [Act.put, List.setIfInBounds_toArray, List.set_cons_zero, List.set_cons_succ, i64_w, i32_w]
                rfl
              refine two_ (i := 10) (j := 16) (Ni := some 97) (Nj := some 18) #[true, true, true, true, true, true, true, true, true, true, true, true, false, false, false, false, false, false, false] #[true, true, true, true, true, true, true, true, true, true, false, true, false, false, false, false, true, false, false] rfl rfl rfl rfl (by kernel_rfl) (by decide) (by decide) (fun K hK => ?_) (fun K hK => ?_)
              ·
                refine Kd.R_append_rows_step (Kd.int .i64) (w0 := w7_) w7_.heap.size (by rfl) (.tmp 92) (.tmp 96) 26 3 (.int .i64 0) 8 rfl Try.underlying26 info3 rfl (by decide) (by decide) _ ([] ++ us.drop t) (us.take t) _ _ _ (fun _ => True) (fun _ => False) rfl rfl ?aO14_3 ?aR14_3 (fun _ _ h => h) (fun _ h => h.elim) ?aF14_3 ?aB14_3 ?aS14_3 ?aL14_3 ?_
                (case aO14_3 => exact HO14_2.out)
                (case aR14_3 => exact (HCUT.out _ HB14_2.out).2)
                (case aF14_3 => exact (fun _ _ => trivial))
                (case aB14_3 => exact HB14_2.out)
                (case aS14_3 => exact HB14_2.out.size)
                (case aL14_3 => have := HNT.out; simp only [List.length_nil, List.nil_append, List.length_drop, HLU.out]; omega)
                intro v14_3 x14_3 ho14_3 hb14_3 hg14_3 hn14_3
                clear hn14_3
                obtain ⟨A14_3, c14_3, rfl⟩ := Kd.R_slice ho14_3
                rw [HRL.out] at ho14_3 ⊢
                have HB14_3 := Aside0.mk hb14_3
                have HO14_3 := Aside0.mk ho14_3
                refine hK.out _ _ HB14_3.out (fun hHeld => ?_)
                clear hK K
                refine norm_ (a' := ?_) ?_ ?_
                rotate_left
                · show Act.put _ (some 97) _ = _
                  simp only [Act.put, List.setIfInBounds_toArray, List.set_cons_zero, List.set_cons_succ, i64_w, i32_w]
                  rfl
                refine two_ (i := 12) (j := 16) (Ni := some 99) (Nj := some 18) #[true, true, true, true, true, true, true, true, true, true, true, true, true, false, false, false, false, false, false] #[true, true, true, true, true, true, true, true, true, true, true, true, false, false, false, false, true, false, false] rfl rfl rfl rfl (by kernel_rfl) (by decide) (by decide) (fun K hK => ?_) (fun K hK => ?_)
                ·
                  refine goes_ Try.func11 (by kernel_rfl) rfl #[.slice A14_3 n c14_3, .int .i64 P] (by rfl) rfl rfl (by (try simp only [List.map_toArray, List.map_cons, List.map_nil]); first | done | rfl) ?_
                  refine (HM18.out A14_3 c14_3 _ (by have h := (Kd.R_reads' HO14_3.out).2.2; rw [List.nil_append] at h; rw [← HRL2.out, HRLN.out] at h; exact h)).mono ?_
                  rintro e x14_4 ⟨B14_4, d14_4, rfl, -, -, hc14_4⟩
                  refine ⟨_, rfl, ?_⟩
                  have hb14_4 := below_step HB14_3.out hc14_4
                  have HB14_4 := Aside0.mk hb14_4
                  refine hK.out _ _ HB14_4.out (fun hHeld => ?_)
                  clear hK K
                  refine norm_ (a' := ?_) ?_ ?_
                  rotate_left
                  · show Act.put _ (some 99) _ = _
                    simp only [Act.put, List.setIfInBounds_toArray, List.set_cons_zero, List.set_cons_succ, i64_w, i32_w]
                    rfl
                  refine pure_ (i := 13) (N := some 86) (v := ?_) (a' := ?_) #[true, true, true, true, true, true, true, true, true, true, true, true, true, true, false, false, false, false, false] rfl rfl (by kernel_rfl) (fun _ _ _ h => h) (Or.inl ⟨by rfl, ?_⟩) ?_ ?_
                  rotate_left
                  · intro w'
                    go_simp
                    with_reducible rfl
                  rotate_left
                  · (try show Act.put _ _ _ = _); simp only [Act.put, List.setIfInBounds_toArray, List.set_cons_zero, List.set_cons_succ, i64_w, i32_w]
                    rfl
                  refine pure_ (i := 14) (N := some 100) (v := ?_) (a' := ?_) #[true, true, true, true, true, true, true, true, true, true, true, true, true, true, true, false, false, false, false] rfl rfl (by kernel_rfl) (fun _ _ _ h => h) (Or.inl ⟨by rfl, ?_⟩) ?_ ?_
                  rotate_left
                  · intro w'
                    go_simp
                    with_reducible rfl
                  rotate_left
                  · (try show Act.put _ _ _ = _); simp only [Act.put, List.setIfInBounds_toArray, List.set_cons_zero, List.set_cons_succ, i64_w, i32_w]
                    rfl
                  refine pure_ (i := 15) (N := some 101) (v := ?_) (a' := ?_) #[true, true, true, true, true, true, true, true, true, true, true, true, true, true, true, true, false, false, false] rfl rfl (by kernel_rfl) (fun _ _ _ h => h) (Or.inl ⟨by rfl, ?_⟩) ?_ ?_
                  rotate_left
                  · intro w'
                    go_simp
                    with_reducible rfl
                  rotate_left
                  · (try show Act.put _ _ _ = _); simp only [Act.put, List.setIfInBounds_toArray, List.set_cons_zero, List.set_cons_succ, i64_w, i32_w]
                    rfl
                  refine one_ (i := 16) (N := some 18) #[true, true, true, true, true, true, true, true, true, true, true, true, true, true, true, true, true, false, false] rfl rfl (by kernel_rfl) (by decide) (fun K hK => ?_)
                  refine value_ (w1 := x14_4.alloc (.cells #[.slice none 0 0, .int .i64 0, .int .i64 0] 29)) (v := .pointer (some ⟨x14_4.heap.size, 0, none⟩)) (by rfl) rfl ?_ ?_
                  · go_simp
                  have HB14_5 := Aside0.mk (HB14_4.out.alloc HB14_4.out.size (.cells #[.slice none 0 0, .int .i64 0, .int .i64 0] 29))
                  have HA14_5 := Aside0.mk (show w7_.heap.size ≤ x14_4.heap.size ∧ (x14_4.alloc (.cells #[.slice none 0 0, .int .i64 0, .int .i64 0] 29)).heap[x14_4.heap.size]? = some (.cells #[.slice none 0 0, .int .i64 0, .int .i64 0] 29 (0, 0)) from ⟨HB14_4.out.size, blk_new x14_4 _⟩)
                  refine hK.out _ _ HB14_5.out (fun hHeld => ?_)
                  clear hK K
                  refine norm_ (a' := ?_) ?_ ?_
                  rotate_left
                  · show Act.put _ (some 18) _ = _
                    simp only [Act.put, List.setIfInBounds_toArray, List.set_cons_zero, List.set_cons_succ, i64_w, i32_w]
                    rfl
                  exact norm_ (by show _ = putAll _ _; simp only [putAll, Act.put, List.setIfInBounds_toArray, List.set_cons_zero, List.set_cons_succ, i64_w, i32_w]) (hJ (v14_1, v14_2, (A14_3, c14_3), (B14_4, d14_4), x14_4.heap.size) _ ⟨HB14_5.out, HA14_5.out.1, HA14_5.out.2⟩)
                ·
                  refine value_ (w1 := x14_3.alloc (.cells #[.slice none 0 0, .int .i64 0, .int .i64 0] 29)) (v := .pointer (some ⟨x14_3.heap.size, 0, none⟩)) (by rfl) rfl ?_ ?_
                  · go_simp
                  have HB14_6 := Aside0.mk (HB14_3.out.alloc HB14_3.out.size (.cells #[.slice none 0 0, .int .i64 0, .int .i64 0] 29))
                  have HA14_6 := Aside0.mk (show w7_.heap.size ≤ x14_3.heap.size ∧ (x14_3.alloc (.cells #[.slice none 0 0, .int .i64 0, .int .i64 0] 29)).heap[x14_3.heap.size]? = some (.cells #[.slice none 0 0, .int .i64 0, .int .i64 0] 29 (0, 0)) from ⟨HB14_3.out.size, blk_new x14_3 _⟩)
                  have HO14_6 := Aside0.mk (Kd.R_below HO14_3.out ((Below.refl _ _).alloc (Nat.le_refl _) (.cells #[.slice none 0 0, .int .i64 0, .int .i64 0] 29)))
                  refine hK.out _ _ HB14_6.out (fun hHeld => ?_)
                  clear hK K
                  refine norm_ (a' := ?_) ?_ ?_
                  rotate_left
                  · show Act.put _ (some 18) _ = _
                    simp only [Act.put, List.setIfInBounds_toArray, List.set_cons_zero, List.set_cons_succ, i64_w, i32_w]
                    rfl
                  refine one_ (i := 12) (N := some 99) #[true, true, true, true, true, true, true, true, true, true, true, true, true, false, false, false, true, false, false] rfl rfl (by kernel_rfl) (by decide) (fun K hK => ?_)
                  refine goes_ Try.func11 (by kernel_rfl) rfl #[.slice A14_3 n c14_3, .int .i64 P] (by rfl) rfl rfl (by (try simp only [List.map_toArray, List.map_cons, List.map_nil]); first | done | rfl) ?_
                  refine (HM18.out A14_3 c14_3 _ (by have h := (Kd.R_reads' HO14_6.out).2.2; rw [List.nil_append] at h; rw [← HRL2.out, HRLN.out] at h; exact h)).mono ?_
                  rintro e x14_7 ⟨B14_7, d14_7, rfl, -, -, hc14_7⟩
                  refine ⟨_, rfl, ?_⟩
                  have hb14_7 := below_step HB14_6.out hc14_7
                  have HB14_7 := Aside0.mk hb14_7
                  have HA14_7 := Aside0.mk (show w7_.heap.size ≤ x14_3.heap.size ∧ x14_7.heap[x14_3.heap.size]? = some (.cells #[.slice none 0 0, .int .i64 0, .int .i64 0] 29 (0, 0)) from ⟨HA14_6.out.1, (blk_below HA14_6.out.2 hc14_7)⟩)
                  refine hK.out _ _ HB14_7.out (fun hHeld => ?_)
                  clear hK K
                  refine norm_ (a' := ?_) ?_ ?_
                  rotate_left
                  · show Act.put _ (some 99) _ = _
                    simp only [Act.put, List.setIfInBounds_toArray, List.set_cons_zero, List.set_cons_succ, i64_w, i32_w]
                    rfl
                  refine pure_ (i := 13) (N := some 86) (v := ?_) (a' := ?_) #[true, true, true, true, true, true, true, true, true, true, true, true, true, true, false, false, true, false, false] rfl rfl (by kernel_rfl) (fun _ _ _ h => h) (Or.inl ⟨by rfl, ?_⟩) ?_ ?_
                  rotate_left
                  · intro w'
                    go_simp
                    with_reducible rfl
                  rotate_left
                  · (try show Act.put _ _ _ = _); simp only [Act.put, List.setIfInBounds_toArray, List.set_cons_zero, List.set_cons_succ, i64_w, i32_w]
                    rfl
                  refine pure_ (i := 14) (N := some 100) (v := ?_) (a' := ?_) #[true, true, true, true, true, true, true, true, true, true, true, true, true, true, true, false, true, false, false] rfl rfl (by kernel_rfl) (fun _ _ _ h => h) (Or.inl ⟨by rfl, ?_⟩) ?_ ?_
                  rotate_left
                  · intro w'
                    go_simp
                    with_reducible rfl
                  rotate_left
                  · (try show Act.put _ _ _ = _); simp only [Act.put, List.setIfInBounds_toArray, List.set_cons_zero, List.set_cons_succ, i64_w, i32_w]
                    rfl
                  refine pure_ (i := 15) (N := some 101) (v := ?_) (a' := ?_) #[true, true, true, true, true, true, true, true, true, true, true, true, true, true, true, true, true, false, false] rfl rfl (by kernel_rfl) (fun _ _ _ h => h) (Or.inl ⟨by rfl, ?_⟩) ?_ ?_
                  rotate_left
                  · intro w'
                    go_simp
                    with_reducible rfl
                  rotate_left
                  · (try show Act.put _ _ _ = _); simp only [Act.put, List.setIfInBounds_toArray, List.set_cons_zero, List.set_cons_succ, i64_w, i32_w]
                    rfl
                  exact norm_ (by show _ = putAll _ _; simp only [putAll, Act.put, List.setIfInBounds_toArray, List.set_cons_zero, List.set_cons_succ, i64_w, i32_w]) (hJ (v14_1, v14_2, (A14_3, c14_3), (B14_7, d14_7), x14_3.heap.size) _ ⟨HB14_7.out, HA14_7.out.1, HA14_7.out.2⟩)
              ·
                refine value_ (w1 := x14_2.alloc (.cells #[.slice none 0 0, .int .i64 0, .int .i64 0] 29)) (v := .pointer (some ⟨x14_2.heap.size, 0, none⟩)) (by rfl) rfl ?_ ?_
                · go_simp
                have HB14_8 := Aside0.mk (HB14_2.out.alloc HB14_2.out.size (.cells #[.slice none 0 0, .int .i64 0, .int .i64 0] 29))
                have HA14_8 := Aside0.mk (show w7_.heap.size ≤ x14_2.heap.size ∧ (x14_2.alloc (.cells #[.slice none 0 0, .int .i64 0, .int .i64 0] 29)).heap[x14_2.heap.size]? = some (.cells #[.slice none 0 0, .int .i64 0, .int .i64 0] 29 (0, 0)) from ⟨HB14_2.out.size, blk_new x14_2 _⟩)
                have HO14_8 := Aside0.mk (Kd.R_below HO14_2.out ((Below.refl _ _).alloc (Nat.le_refl _) (.cells #[.slice none 0 0, .int .i64 0, .int .i64 0] 29)))
                refine hK.out _ _ HB14_8.out (fun hHeld => ?_)
                clear hK K
                refine norm_ (a' := ?_) ?_ ?_
                rotate_left
                · show Act.put _ (some 18) _ = _
                  simp only [Act.put, List.setIfInBounds_toArray, List.set_cons_zero, List.set_cons_succ, i64_w, i32_w]
                  rfl
                refine one_ (i := 10) (N := some 97) #[true, true, true, true, true, true, true, true, true, true, true, true, false, false, false, false, true, false, false] rfl rfl (by kernel_rfl) (by decide) (fun K hK => ?_)
                refine Kd.R_append_rows_step (Kd.int .i64) (w0 := w7_) w7_.heap.size (by rfl) (.tmp 92) (.tmp 96) 26 3 (.int .i64 0) 8 rfl Try.underlying26 info3 rfl (by decide) (by decide) _ ([] ++ us.drop t) (us.take t) _ _ _ (fun _ => True) (fun _ => False) rfl rfl ?aO14_9 ?aR14_9 (fun _ _ h => h) (fun _ h => h.elim) ?aF14_9 ?aB14_9 ?aS14_9 ?aL14_9 ?_
                (case aO14_9 => exact HO14_8.out)
                (case aR14_9 => exact (HCUT.out _ HB14_8.out).2)
                (case aF14_9 => exact (fun _ _ => trivial))
                (case aB14_9 => exact HB14_8.out)
                (case aS14_9 => exact HB14_8.out.size)
                (case aL14_9 => have := HNT.out; simp only [List.length_nil, List.nil_append, List.length_drop, HLU.out]; omega)
                intro v14_9 x14_9 ho14_9 hb14_9 hg14_9 hn14_9
                clear hn14_9
                obtain ⟨A14_9, c14_9, rfl⟩ := Kd.R_slice ho14_9
                rw [HRL.out] at ho14_9 ⊢
                have HB14_9 := Aside0.mk hb14_9
                have HO14_9 := Aside0.mk ho14_9
                have HA14_9 := Aside0.mk (show w7_.heap.size ≤ x14_2.heap.size ∧ x14_9.heap[x14_2.heap.size]? = some (.cells #[.slice none 0 0, .int .i64 0, .int .i64 0] 29 (0, 0)) from ⟨HA14_8.out.1, (keepA HA14_8.out.2 HO14_8.out hg14_9)⟩)
                refine hK.out _ _ HB14_9.out (fun hHeld => ?_)
                clear hK K
                refine norm_ (a' := ?_) ?_ ?_
                rotate_left
                · show Act.put _ (some 97) _ = _
                  simp only [Act.put, List.setIfInBounds_toArray, List.set_cons_zero, List.set_cons_succ, i64_w, i32_w]
                  rfl
                refine one_ (i := 12) (N := some 99) #[true, true, true, true, true, true, true, true, true, true, true, true, true, false, false, false, true, false, false] rfl rfl (by kernel_rfl) (by decide) (fun K hK => ?_)
                refine goes_ Try.func11 (by kernel_rfl) rfl #[.slice A14_9 n c14_9, .int .i64 P] (by rfl) rfl rfl (by (try simp only [List.map_toArray, List.map_cons, List.map_nil]); first | done | rfl) ?_
                refine (HM18.out A14_9 c14_9 _ (by have h := (Kd.R_reads' HO14_9.out).2.2; rw [List.nil_append] at h; rw [← HRL2.out, HRLN.out] at h; exact h)).mono ?_
                rintro e x14_10 ⟨B14_10, d14_10, rfl, -, -, hc14_10⟩
                refine ⟨_, rfl, ?_⟩
                have hb14_10 := below_step HB14_9.out hc14_10
                have HB14_10 := Aside0.mk hb14_10
                have HA14_10 := Aside0.mk (show w7_.heap.size ≤ x14_2.heap.size ∧ x14_10.heap[x14_2.heap.size]? = some (.cells #[.slice none 0 0, .int .i64 0, .int .i64 0] 29 (0, 0)) from ⟨HA14_9.out.1, (blk_below HA14_9.out.2 hc14_10)⟩)
                refine hK.out _ _ HB14_10.out (fun hHeld => ?_)
                clear hK K
                refine norm_ (a' := ?_) ?_ ?_
                rotate_left
                · show Act.put _ (some 99) _ = _
                  simp only [Act.put, List.setIfInBounds_toArray, List.set_cons_zero, List.set_cons_succ, i64_w, i32_w]
                  rfl
                refine pure_ (i := 13) (N := some 86) (v := ?_) (a' := ?_) #[true, true, true, true, true, true, true, true, true, true, true, true, true, true, false, false, true, false, false] rfl rfl (by kernel_rfl) (fun _ _ _ h => h) (Or.inl ⟨by rfl, ?_⟩) ?_ ?_
                rotate_left
                · intro w'
                  go_simp
                  with_reducible rfl
                rotate_left
                · (try show Act.put _ _ _ = _); simp only [Act.put, List.setIfInBounds_toArray, List.set_cons_zero, List.set_cons_succ, i64_w, i32_w]
                  rfl
                refine pure_ (i := 14) (N := some 100) (v := ?_) (a' := ?_) #[true, true, true, true, true, true, true, true, true, true, true, true, true, true, true, false, true, false, false] rfl rfl (by kernel_rfl) (fun _ _ _ h => h) (Or.inl ⟨by rfl, ?_⟩) ?_ ?_
                rotate_left
                · intro w'
                  go_simp
                  with_reducible rfl
                rotate_left
                · (try show Act.put _ _ _ = _); simp only [Act.put, List.setIfInBounds_toArray, List.set_cons_zero, List.set_cons_succ, i64_w, i32_w]
                  rfl
                refine pure_ (i := 15) (N := some 101) (v := ?_) (a' := ?_) #[true, true, true, true, true, true, true, true, true, true, true, true, true, true, true, true, true, false, false] rfl rfl (by kernel_rfl) (fun _ _ _ h => h) (Or.inl ⟨by rfl, ?_⟩) ?_ ?_
                rotate_left
                · intro w'
                  go_simp
                  with_reducible rfl
                rotate_left
                · (try show Act.put _ _ _ = _); simp only [Act.put, List.setIfInBounds_toArray, List.set_cons_zero, List.set_cons_succ, i64_w, i32_w]
                  rfl
                exact norm_ (by show _ = putAll _ _; simp only [putAll, Act.put, List.setIfInBounds_toArray, List.set_cons_zero, List.set_cons_succ, i64_w, i32_w]) (hJ (v14_1, v14_2, (A14_9, c14_9), (B14_10, d14_10), x14_2.heap.size) _ ⟨HB14_10.out, HA14_10.out.1, HA14_10.out.2⟩)
            ·
              refine value_ (w1 := x14_1.alloc (.cells #[.slice none 0 0, .int .i64 0, .int .i64 0] 29)) (v := .pointer (some ⟨x14_1.heap.size, 0, none⟩)) (by rfl) rfl ?_ ?_
              · go_simp
              have HB14_11 := Aside0.mk (HB14_1.out.alloc HB14_1.out.size (.cells #[.slice none 0 0, .int .i64 0, .int .i64 0] 29))
              have HA14_11 := Aside0.mk (show w7_.heap.size ≤ x14_1.heap.size ∧ (x14_1.alloc (.cells #[.slice none 0 0, .int .i64 0, .int .i64 0] 29)).heap[x14_1.heap.size]? = some (.cells #[.slice none 0 0, .int .i64 0, .int .i64 0] 29 (0, 0)) from ⟨HB14_1.out.size, blk_new x14_1 _⟩)
              have HO14_11 := Aside0.mk (Kd.R_below HO14_1.out ((Below.refl _ _).alloc (Nat.le_refl _) (.cells #[.slice none 0 0, .int .i64 0, .int .i64 0] 29)))
              refine hK.out _ _ HB14_11.out (fun hHeld => ?_)
              clear hK K
              refine norm_ (a' := ?_) ?_ ?_
              rotate_left
              · show Act.put _ (some 18) _ = _
                simp only [Act.put, List.setIfInBounds_toArray, List.set_cons_zero, List.set_cons_succ, i64_w, i32_w]
                rfl
              refine one_ (i := 5) (N := some 92) #[true, true, true, true, true, true, true, true, true, true, false, true, false, false, false, false, true, false, false] rfl rfl (by kernel_rfl) (by decide) (fun K hK => ?_)
              refine Kd.R_append_rows_step (Kd.int .i64) (w0 := w7_) w7_.heap.size (by rfl) (.tmp 87) (.tmp 91) 26 3 (.int .i64 0) 8 rfl Try.underlying26 info3 rfl (by decide) (by decide) _ [] (us.drop t) _ _ _ (fun _ => True) (fun _ => False) rfl rfl ?aO14_12 ?aR14_12 (fun _ _ h => h) (fun _ h => h.elim) ?aF14_12 ?aB14_12 ?aS14_12 ?aL14_12 ?_
              (case aO14_12 => exact HO14_11.out)
              (case aR14_12 => exact (HCUT.out _ HB14_11.out).1)
              (case aF14_12 => exact (fun _ _ => trivial))
              (case aB14_12 => exact HB14_11.out)
              (case aS14_12 => exact HB14_11.out.size)
              (case aL14_12 => have := HNT.out; simp only [List.length_nil, List.nil_append, List.length_drop, HLU.out]; omega)
              intro v14_12 x14_12 ho14_12 hb14_12 hg14_12 hn14_12
              clear hn14_12
              have HB14_12 := Aside0.mk hb14_12
              have HO14_12 := Aside0.mk ho14_12
              have HA14_12 := Aside0.mk (show w7_.heap.size ≤ x14_1.heap.size ∧ x14_12.heap[x14_1.heap.size]? = some (.cells #[.slice none 0 0, .int .i64 0, .int .i64 0] 29 (0, 0)) from ⟨HA14_11.out.1, (keepA HA14_11.out.2 HO14_11.out hg14_12)⟩)
              refine hK.out _ _ HB14_12.out (fun hHeld => ?_)
              clear hK K
              refine norm_ (a' := ?_) ?_ ?_
              rotate_left
              · show Act.put _ (some 92) _ = _
                simp only [Act.put, List.setIfInBounds_toArray, List.set_cons_zero, List.set_cons_succ, i64_w, i32_w]
                rfl
              refine one_ (i := 10) (N := some 97) #[true, true, true, true, true, true, true, true, true, true, true, true, false, false, false, false, true, false, false] rfl rfl (by kernel_rfl) (by decide) (fun K hK => ?_)
              refine Kd.R_append_rows_step (Kd.int .i64) (w0 := w7_) w7_.heap.size (by rfl) (.tmp 92) (.tmp 96) 26 3 (.int .i64 0) 8 rfl Try.underlying26 info3 rfl (by decide) (by decide) _ ([] ++ us.drop t) (us.take t) _ _ _ (fun _ => True) (fun _ => False) rfl rfl ?aO14_13 ?aR14_13 (fun _ _ h => h) (fun _ h => h.elim) ?aF14_13 ?aB14_13 ?aS14_13 ?aL14_13 ?_
              (case aO14_13 => exact HO14_12.out)
              (case aR14_13 => exact (HCUT.out _ HB14_12.out).2)
              (case aF14_13 => exact (fun _ _ => trivial))
              (case aB14_13 => exact HB14_12.out)
              (case aS14_13 => exact HB14_12.out.size)
              (case aL14_13 => have := HNT.out; simp only [List.length_nil, List.nil_append, List.length_drop, HLU.out]; omega)
              intro v14_13 x14_13 ho14_13 hb14_13 hg14_13 hn14_13
              clear hn14_13
              obtain ⟨A14_13, c14_13, rfl⟩ := Kd.R_slice ho14_13
              rw [HRL.out] at ho14_13 ⊢
              have HB14_13 := Aside0.mk hb14_13
              have HO14_13 := Aside0.mk ho14_13
              have HA14_13 := Aside0.mk (show w7_.heap.size ≤ x14_1.heap.size ∧ x14_13.heap[x14_1.heap.size]? = some (.cells #[.slice none 0 0, .int .i64 0, .int .i64 0] 29 (0, 0)) from ⟨HA14_12.out.1, (keepA HA14_12.out.2 HO14_12.out hg14_13)⟩)
              refine hK.out _ _ HB14_13.out (fun hHeld => ?_)
              clear hK K
              refine norm_ (a' := ?_) ?_ ?_
              rotate_left
              · show Act.put _ (some 97) _ = _
                simp only [Act.put, List.setIfInBounds_toArray, List.set_cons_zero, List.set_cons_succ, i64_w, i32_w]
                rfl
              refine one_ (i := 12) (N := some 99) #[true, true, true, true, true, true, true, true, true, true, true, true, true, false, false, false, true, false, false] rfl rfl (by kernel_rfl) (by decide) (fun K hK => ?_)
              refine goes_ Try.func11 (by kernel_rfl) rfl #[.slice A14_13 n c14_13, .int .i64 P] (by rfl) rfl rfl (by (try simp only [List.map_toArray, List.map_cons, List.map_nil]); first | done | rfl) ?_
              refine (HM18.out A14_13 c14_13 _ (by have h := (Kd.R_reads' HO14_13.out).2.2; rw [List.nil_append] at h; rw [← HRL2.out, HRLN.out] at h; exact h)).mono ?_
              rintro e x14_14 ⟨B14_14, d14_14, rfl, -, -, hc14_14⟩
              refine ⟨_, rfl, ?_⟩
              have hb14_14 := below_step HB14_13.out hc14_14
              have HB14_14 := Aside0.mk hb14_14
              have HA14_14 := Aside0.mk (show w7_.heap.size ≤ x14_1.heap.size ∧ x14_14.heap[x14_1.heap.size]? = some (.cells #[.slice none 0 0, .int .i64 0, .int .i64 0] 29 (0, 0)) from ⟨HA14_13.out.1, (blk_below HA14_13.out.2 hc14_14)⟩)
              refine hK.out _ _ HB14_14.out (fun hHeld => ?_)
              clear hK K
              refine norm_ (a' := ?_) ?_ ?_
              rotate_left
              · show Act.put _ (some 99) _ = _
                simp only [Act.put, List.setIfInBounds_toArray, List.set_cons_zero, List.set_cons_succ, i64_w, i32_w]
                rfl
              refine pure_ (i := 13) (N := some 86) (v := ?_) (a' := ?_) #[true, true, true, true, true, true, true, true, true, true, true, true, true, true, false, false, true, false, false] rfl rfl (by kernel_rfl) (fun _ _ _ h => h) (Or.inl ⟨by rfl, ?_⟩) ?_ ?_
              rotate_left
              · intro w'
                go_simp
                with_reducible rfl
              rotate_left
              · (try show Act.put _ _ _ = _); simp only [Act.put, List.setIfInBounds_toArray, List.set_cons_zero, List.set_cons_succ, i64_w, i32_w]
                rfl
              refine pure_ (i := 14) (N := some 100) (v := ?_) (a' := ?_) #[true, true, true, true, true, true, true, true, true, true, true, true, true, true, true, false, true, false, false] rfl rfl (by kernel_rfl) (fun _ _ _ h => h) (Or.inl ⟨by rfl, ?_⟩) ?_ ?_
              rotate_left
              · intro w'
                go_simp
                with_reducible rfl
              rotate_left
              · (try show Act.put _ _ _ = _); simp only [Act.put, List.setIfInBounds_toArray, List.set_cons_zero, List.set_cons_succ, i64_w, i32_w]
                rfl
              refine pure_ (i := 15) (N := some 101) (v := ?_) (a' := ?_) #[true, true, true, true, true, true, true, true, true, true, true, true, true, true, true, true, true, false, false] rfl rfl (by kernel_rfl) (fun _ _ _ h => h) (Or.inl ⟨by rfl, ?_⟩) ?_ ?_
              rotate_left
              · intro w'
                go_simp
                with_reducible rfl
              rotate_left
              · (try show Act.put _ _ _ = _); simp only [Act.put, List.setIfInBounds_toArray, List.set_cons_zero, List.set_cons_succ, i64_w, i32_w]
                rfl
              exact norm_ (by show _ = putAll _ _; simp only [putAll, Act.put, List.setIfInBounds_toArray, List.set_cons_zero, List.set_cons_succ, i64_w, i32_w]) (hJ (v14_1, v14_12, (A14_13, c14_13), (B14_14, d14_14), x14_1.heap.size) _ ⟨HB14_14.out, HA14_14.out.1, HA14_14.out.2⟩)
          ·
            refine value_ (w1 := wq.alloc (.cells #[.slice none 0 0, .int .i64 0, .int .i64 0] 29)) (v := .pointer (some ⟨wq.heap.size, 0, none⟩)) (by rfl) rfl ?_ ?_
            · go_simp
            have HB14_15 := Aside0.mk (HB0q.out.alloc HB0q.out.size (.cells #[.slice none 0 0, .int .i64 0, .int .i64 0] 29))
            have HA14_15 := Aside0.mk (show w7_.heap.size ≤ wq.heap.size ∧ (wq.alloc (.cells #[.slice none 0 0, .int .i64 0, .int .i64 0] 29)).heap[wq.heap.size]? = some (.cells #[.slice none 0 0, .int .i64 0, .int .i64 0] 29 (0, 0)) from ⟨HB0q.out.size, blk_new wq _⟩)
            refine hK.out _ _ HB14_15.out (fun hHeld => ?_)
            clear hK K
            refine norm_ (a' := ?_) ?_ ?_
            rotate_left
            · show Act.put _ (some 18) _ = _
              simp only [Act.put, List.setIfInBounds_toArray, List.set_cons_zero, List.set_cons_succ, i64_w, i32_w]
              rfl
            refine one_ (i := 0) (N := some 87) #[true, true, true, true, true, false, true, true, true, true, false, true, false, false, false, false, true, false, false] rfl rfl (by kernel_rfl) (by decide) (fun K hK => ?_)
            refine Kd.R_lit_step (Kd.int .i64) (w0 := w7_) w7_.heap.size 3 (by rfl) (N := 87) rfl (xs := ([] : List Int)) (inner := []) (ok := fun _ => True) (okp := fun _ => True) ?hr14_16 ?hp14_16 (fun _ hk => hk) trivial HB14_15.out HB14_15.out.size (by decide) ?_
            (case hr14_16 => first | (go_simp; done) | (go_simp; rfl))
            (case hp14_16 => exact (Reps.none _ _))
            intro v14_16 x14_16 ho14_16 hb14_16 hg14_16 hn14_16
            clear hn14_16
            have HB14_16 := Aside0.mk hb14_16
            have HO14_16 := Aside0.mk ho14_16
            have HA14_16 := Aside0.mk (show w7_.heap.size ≤ wq.heap.size ∧ x14_16.heap[wq.heap.size]? = some (.cells #[.slice none 0 0, .int .i64 0, .int .i64 0] 29 (0, 0)) from ⟨HA14_15.out.1, (keepN HA14_15.out.2 hg14_16)⟩)
            refine hK.out _ _ HB14_16.out (fun hHeld => ?_)
            clear hK K
            refine norm_ (a' := ?_) ?_ ?_
            rotate_left
            · show Act.put _ (some 87) _ = _
              simp only [Act.put, List.setIfInBounds_toArray, List.set_cons_zero, List.set_cons_succ, i64_w, i32_w]
              rfl
            refine one_ (i := 5) (N := some 92) #[true, true, true, true, true, true, true, true, true, true, false, true, false, false, false, false, true, false, false] rfl rfl (by kernel_rfl) (by decide) (fun K hK => ?_)
            refine Kd.R_append_rows_step (Kd.int .i64) (w0 := w7_) w7_.heap.size (by rfl) (.tmp 87) (.tmp 91) 26 3 (.int .i64 0) 8 rfl Try.underlying26 info3 rfl (by decide) (by decide) _ [] (us.drop t) _ _ _ (fun _ => True) (fun _ => False) rfl rfl ?aO14_17 ?aR14_17 (fun _ _ h => h) (fun _ h => h.elim) ?aF14_17 ?aB14_17 ?aS14_17 ?aL14_17 ?_
            (case aO14_17 => exact HO14_16.out)
            (case aR14_17 => exact (HCUT.out _ HB14_16.out).1)
            (case aF14_17 => exact (fun _ _ => trivial))
            (case aB14_17 => exact HB14_16.out)
            (case aS14_17 => exact HB14_16.out.size)
            (case aL14_17 => have := HNT.out; simp only [List.length_nil, List.nil_append, List.length_drop, HLU.out]; omega)
            intro v14_17 x14_17 ho14_17 hb14_17 hg14_17 hn14_17
            clear hn14_17
            have HB14_17 := Aside0.mk hb14_17
            have HO14_17 := Aside0.mk ho14_17
            have HA14_17 := Aside0.mk (show w7_.heap.size ≤ wq.heap.size ∧ x14_17.heap[wq.heap.size]? = some (.cells #[.slice none 0 0, .int .i64 0, .int .i64 0] 29 (0, 0)) from ⟨HA14_16.out.1, (keepA HA14_16.out.2 HO14_16.out hg14_17)⟩)
            refine hK.out _ _ HB14_17.out (fun hHeld => ?_)
            clear hK K
            refine norm_ (a' := ?_) ?_ ?_
            rotate_left
            · show Act.put _ (some 92) _ = _
              simp only [Act.put, List.setIfInBounds_toArray, List.set_cons_zero, List.set_cons_succ, i64_w, i32_w]
              rfl
            refine one_ (i := 10) (N := some 97) #[true, true, true, true, true, true, true, true, true, true, true, true, false, false, false, false, true, false, false] rfl rfl (by kernel_rfl) (by decide) (fun K hK => ?_)
            refine Kd.R_append_rows_step (Kd.int .i64) (w0 := w7_) w7_.heap.size (by rfl) (.tmp 92) (.tmp 96) 26 3 (.int .i64 0) 8 rfl Try.underlying26 info3 rfl (by decide) (by decide) _ ([] ++ us.drop t) (us.take t) _ _ _ (fun _ => True) (fun _ => False) rfl rfl ?aO14_18 ?aR14_18 (fun _ _ h => h) (fun _ h => h.elim) ?aF14_18 ?aB14_18 ?aS14_18 ?aL14_18 ?_
            (case aO14_18 => exact HO14_17.out)
            (case aR14_18 => exact (HCUT.out _ HB14_17.out).2)
            (case aF14_18 => exact (fun _ _ => trivial))
            (case aB14_18 => exact HB14_17.out)
            (case aS14_18 => exact HB14_17.out.size)
            (case aL14_18 => have := HNT.out; simp only [List.length_nil, List.nil_append, List.length_drop, HLU.out]; omega)
            intro v14_18 x14_18 ho14_18 hb14_18 hg14_18 hn14_18
            clear hn14_18
            obtain ⟨A14_18, c14_18, rfl⟩ := Kd.R_slice ho14_18
            rw [HRL.out] at ho14_18 ⊢
            have HB14_18 := Aside0.mk hb14_18
            have HO14_18 := Aside0.mk ho14_18
            have HA14_18 := Aside0.mk (show w7_.heap.size ≤ wq.heap.size ∧ x14_18.heap[wq.heap.size]? = some (.cells #[.slice none 0 0, .int .i64 0, .int .i64 0] 29 (0, 0)) from ⟨HA14_17.out.1, (keepA HA14_17.out.2 HO14_17.out hg14_18)⟩)
            refine hK.out _ _ HB14_18.out (fun hHeld => ?_)
            clear hK K
            refine norm_ (a' := ?_) ?_ ?_
            rotate_left
            · show Act.put _ (some 97) _ = _
              simp only [Act.put, List.setIfInBounds_toArray, List.set_cons_zero, List.set_cons_succ, i64_w, i32_w]
              rfl
            refine one_ (i := 12) (N := some 99) #[true, true, true, true, true, true, true, true, true, true, true, true, true, false, false, false, true, false, false] rfl rfl (by kernel_rfl) (by decide) (fun K hK => ?_)
            refine goes_ Try.func11 (by kernel_rfl) rfl #[.slice A14_18 n c14_18, .int .i64 P] (by rfl) rfl rfl (by (try simp only [List.map_toArray, List.map_cons, List.map_nil]); first | done | rfl) ?_
            refine (HM18.out A14_18 c14_18 _ (by have h := (Kd.R_reads' HO14_18.out).2.2; rw [List.nil_append] at h; rw [← HRL2.out, HRLN.out] at h; exact h)).mono ?_
            rintro e x14_19 ⟨B14_19, d14_19, rfl, -, -, hc14_19⟩
            refine ⟨_, rfl, ?_⟩
            have hb14_19 := below_step HB14_18.out hc14_19
            have HB14_19 := Aside0.mk hb14_19
            have HA14_19 := Aside0.mk (show w7_.heap.size ≤ wq.heap.size ∧ x14_19.heap[wq.heap.size]? = some (.cells #[.slice none 0 0, .int .i64 0, .int .i64 0] 29 (0, 0)) from ⟨HA14_18.out.1, (blk_below HA14_18.out.2 hc14_19)⟩)
            refine hK.out _ _ HB14_19.out (fun hHeld => ?_)
            clear hK K
            refine norm_ (a' := ?_) ?_ ?_
            rotate_left
            · show Act.put _ (some 99) _ = _
              simp only [Act.put, List.setIfInBounds_toArray, List.set_cons_zero, List.set_cons_succ, i64_w, i32_w]
              rfl
            refine pure_ (i := 13) (N := some 86) (v := ?_) (a' := ?_) #[true, true, true, true, true, true, true, true, true, true, true, true, true, true, false, false, true, false, false] rfl rfl (by kernel_rfl) (fun _ _ _ h => h) (Or.inl ⟨by rfl, ?_⟩) ?_ ?_
            rotate_left
            · intro w'
              go_simp
              with_reducible rfl
            rotate_left
            · (try show Act.put _ _ _ = _); simp only [Act.put, List.setIfInBounds_toArray, List.set_cons_zero, List.set_cons_succ, i64_w, i32_w]
              rfl
            refine pure_ (i := 14) (N := some 100) (v := ?_) (a' := ?_) #[true, true, true, true, true, true, true, true, true, true, true, true, true, true, true, false, true, false, false] rfl rfl (by kernel_rfl) (fun _ _ _ h => h) (Or.inl ⟨by rfl, ?_⟩) ?_ ?_
            rotate_left
            · intro w'
              go_simp
              with_reducible rfl
            rotate_left
            · (try show Act.put _ _ _ = _); simp only [Act.put, List.setIfInBounds_toArray, List.set_cons_zero, List.set_cons_succ, i64_w, i32_w]
              rfl
            refine pure_ (i := 15) (N := some 101) (v := ?_) (a' := ?_) #[true, true, true, true, true, true, true, true, true, true, true, true, true, true, true, true, true, false, false] rfl rfl (by kernel_rfl) (fun _ _ _ h => h) (Or.inl ⟨by rfl, ?_⟩) ?_ ?_
            rotate_left
            · intro w'
              go_simp
              with_reducible rfl
            rotate_left
            · (try show Act.put _ _ _ = _); simp only [Act.put, List.setIfInBounds_toArray, List.set_cons_zero, List.set_cons_succ, i64_w, i32_w]
              rfl
            exact norm_ (by show _ = putAll _ _; simp only [putAll, Act.put, List.setIfInBounds_toArray, List.set_cons_zero, List.set_cons_succ, i64_w, i32_w]) (hJ (v14_16, v14_17, (A14_18, c14_18), (B14_19, d14_19), wq.heap.size) _ ⟨HB14_19.out, HA14_19.out.1, HA14_19.out.2⟩)
        case cont14 =>
          rintro ⟨y0, y1, ⟨y2, y3⟩, ⟨A_18, k_18⟩, g_18⟩ wj ⟨hbj, hgj, hlj⟩
          refine norm_ (a' := ?_) ?_ ?_
          rotate_left
          · show putAll _ _ = _
            simp only [putAll, Act.put, List.setIfInBounds_toArray, List.set_cons_zero, List.set_cons_succ, i64_w, i32_w]
            rfl
          refine last_ (i := 17) (N := none) #[true, true, true, true, true, true, true, true, true, true, true, true, true, true, true, true, true, true, false] rfl rfl (by kernel_rfl) (by decide) (fun K hK => ?_)
          have hst := run_store_run (P := Try.prog) (w := wj) (g := g_18) (o := 0) 29 (.agg #[.slice A_18 n k_18, .int .i64 (B16 : Int), .int .i64 P16]) [.slice A_18 n k_18, .int .i64 (B16 : Int), .int .i64 P16] hlj rfl loadInfo (by simp) (by intro q hq; simp only [List.mem_cons, List.not_mem_nil, or_false] at hq; rcases hq with rfl | rfl | rfl <;> rfl)
          refine skip_ (w1 := ((wj.setCell ⟨g_18, 0, none⟩ (.slice A_18 n k_18)).setCell ⟨g_18, 1, none⟩ (.int .i64 (B16 : Int))).setCell ⟨g_18, 2, none⟩ (.int .i64 P16)) (by rfl) rfl ?_ ?_
          · exact exec_store rfl _ _ rfl rfl hst
          clear hst
          refine hK.out _ _ ?_
          clear hK K
          refine pure_ (i := 18) (N := some 19) (v := ?_) (a' := ?_) #[true, true, true, true, true, true, true, true, true, true, true, true, true, true, true, true, true, true, true] rfl rfl (by kernel_rfl) (fun _ _ _ h => h) (Or.inl ⟨by rfl, ?_⟩) ?_ ?_
          rotate_left
          · intro w'
            go_simp
            with_reducible rfl
          rotate_left
          · (try show Act.put _ _ _ = _); simp only [Act.put, List.setIfInBounds_toArray, List.set_cons_zero, List.set_cons_succ, i64_w, i32_w]
            rfl
          refine done_ (by kernel_rfl) ?_
          show onlyNormal _ .normal _ _
          unfold onlyNormal
          obtain ⟨w8_, hx_8⟩ : ∃ w8_, ((wj.setCell ⟨g_18, 0, none⟩ (.slice A_18 n k_18)).setCell ⟨g_18, 1, none⟩ (.int .i64 (B16 : Int))).setCell ⟨g_18, 2, none⟩ (.int .i64 P16) = w8_ := ⟨_, rfl⟩
          rw [hx_8]
          have HB_8 := Aside0.mk (show Below w7_.heap.size w7_ w8_ from hx_8 ▸ (((hbj.setCell (p := ⟨g_18, 0, none⟩) hgj _).setCell (p := ⟨g_18, 1, none⟩) hgj _).setCell (p := ⟨g_18, 2, none⟩) hgj _))
          have HL_18_8 := Aside0.mk (show w8_.heap[g_18]? = some (.cells #[.slice A_18 n k_18, .int .i64 (B16 : Int), .int .i64 P16] 29 (0, 0)) from hx_8 ▸ sets3L hlj _ _ _)
          have c_18_0_8 : w8_.cell? ⟨g_18, 0, none⟩ = some (.slice A_18 n k_18) := (blk_cell HL_18_8.out 0).trans rfl
          have c_18_1_8 : w8_.cell? ⟨g_18, 1, none⟩ = some (.int .i64 (B16 : Int)) := (blk_cell HL_18_8.out 1).trans rfl
          have c_18_2_8 : w8_.cell? ⟨g_18, 2, none⟩ = some (.int .i64 P16) := (blk_cell HL_18_8.out 2).trans rfl
          have HR_U_8 := Aside0.mk (Kd.C_below HR_U_7.out HB_8.out)
          have HR_B12_8 := Aside0.mk (Kd.C_below HR_B12_7.out HB_8.out)
          have HR_B16_8 := Aside0.mk (Kd.C_below HR_B16_7.out HB_8.out)
          have HL_12_8 := Aside0.mk (blk_below HL_12_7.out HB_8.out)
          have c_12_0_8 : w8_.cell? ⟨g_12, 0, none⟩ = some (.slice A12 n c12) := (blk_cell HL_12_8.out 0).trans rfl
          have c_12_1_8 : w8_.cell? ⟨g_12, 1, none⟩ = some (.int .i64 (B12 : Int)) := (blk_cell HL_12_8.out 1).trans rfl
          have c_12_2_8 : w8_.cell? ⟨g_12, 2, none⟩ = some (.int .i64 P12) := (blk_cell HL_12_8.out 2).trans rfl
          have HL_14_8 := Aside0.mk (blk_below HL_14_7.out HB_8.out)
          have c_14_0_8 : w8_.cell? ⟨g_14, 0, none⟩ = some (.slice A_14 n k_14) := (blk_cell HL_14_8.out 0).trans rfl
          have c_14_1_8 : w8_.cell? ⟨g_14, 1, none⟩ = some (.int .i64 (B12 : Int)) := (blk_cell HL_14_8.out 1).trans rfl
          have c_14_2_8 : w8_.cell? ⟨g_14, 2, none⟩ = some (.int .i64 P12) := (blk_cell HL_14_8.out 2).trans rfl
          have HL_16_8 := Aside0.mk (blk_below HL_16_7.out HB_8.out)
          have c_16_0_8 : w8_.cell? ⟨g_16, 0, none⟩ = some (.slice A16 n c16) := (blk_cell HL_16_8.out 0).trans rfl
          have c_16_1_8 : w8_.cell? ⟨g_16, 1, none⟩ = some (.int .i64 (B16 : Int)) := (blk_cell HL_16_8.out 1).trans rfl
          have c_16_2_8 : w8_.cell? ⟨g_16, 2, none⟩ = some (.int .i64 P16) := (blk_cell HL_16_8.out 2).trans rfl
          have HT_8 := Aside0.mk (below_step HT_7.out HB_8.out)
          clear HR_U_7 HR_B12_7 HR_B16_7 HL_12_7 c_12_0_7 c_12_1_7 c_12_2_7 HL_14_7 c_14_0_7 c_14_1_7 c_14_2_7 HL_16_7 c_16_0_7 c_16_1_7 c_16_2_7 hx_8 hbj hgj hlj HCUT
          go_wp2
          go_loopw [21, 22] (fun gv kv wr => ∃ (k : Nat) (gA : Option Addr) (gc : Nat), k ≤ n ∧ kv = .int .i64 (k : Int) ∧ gv = .slice gA k gc ∧ Aside0 (Kd.R (Kd.int .i64) 3 wr w8_.heap.size (fun _ => True) (.slice gA k gc) ((us.take k).map (· * TM))) ∧ Aside0 (Below w8_.heap.size w8_ wr)) (fun _ kv _ => n - (intOf kv).toNat)
          case atStart => exact ⟨0, none, 0, Nat.zero_le _, rfl, rfl, ⟨Kd.R_nil _ _ _ _ _⟩, ⟨Below.refl _ _⟩⟩
          case round =>
            obtain ⟨k, gA, gc, hk, rfl, rfl, GR, GB⟩ := hrel
            obtain ⟨wo, rfl⟩ : ∃ wo : World, wo = wr := ⟨_, rfl⟩
            by_cases hlt : k < n
            · have q1 : (k : Int) < (n : Int) := by omega
              have q0 : (k : Int) ≤ 256 := by have := HN.out; omega
              obtain ⟨ad, hA, hc⟩ := int_at (Kd.C_below HR_U_8.out GB.out) k hlt
              cases hA
              have hlk : k < us.length := by have := HLU.out; omega
              have hx := HSM.out (us.getD k 0) (by rw [List.getD_eq_getElem?_getD, List.getElem?_eq_getElem hlk]; exact List.getElem_mem hlk)
              have hnx : (us.take (k + 1)).map (· * TM) = (us.take k).map (· * TM) ++ [us.getD k 0 * TM] := by
                rw [List.take_succ_eq_append_getElem hlk, List.map_append, List.getD_eq_getElem?_getD, List.getElem?_eq_getElem hlk]; rfl
              have hc : wo.cell? ⟨gW, k, none⟩ = some (.int .i64 (us.getD k 0)) := by have h := hc; rw [add_blk] at h; exact h
              obtain ⟨x, hxe⟩ : ∃ x, us.getD k 0 = x := ⟨_, rfl⟩
              rw [hxe] at hc hx hnx
              have hmul := Int.mul_le_mul hx.2 HTMR.out.2 (by have := HTMR.out; omega : 0 ≤ TM) (by omega : (0 : Int) ≤ 5000)
              have hmul0 : 0 ≤ x * TM := Int.mul_nonneg (by omega) (by have := HTMR.out; omega)
              obtain ⟨y, hy⟩ : ∃ y, x * TM = y := ⟨_, rfl⟩
              have j1 : IntKind.i64.wrap (x * TM) = y := by rw [hy, IntKind.wrap_i64]; omega
              rw [hy] at hnx
              have HNX := Aside0.mk hnx
              have HLT := Aside0.mk hlt
              have HLIM := Aside0.mk (show (((us.take k).map (· * TM)).length + 1) * 8 ≤ 140737488355328 by rw [List.length_map, List.length_take]; have := HN.out; omega)
              have HLN := Aside0.mk (show ((us.take k).map (· * TM) ++ [y]).length = k + 1 by rw [List.length_append, List.length_map, List.length_take, Nat.min_eq_left (by omega)]; rfl)
              clear hnx hlt hk hx hxe hmul hmul0 hy hlk
              go_wp2_with ((with_reducible refine gate_builtin (b := .append) (xs := #[.tmp 154, .tmp 161]) rfl ?_); at_builtin; refine Kd.R_append (Kd.int .i64) (w0 := w8_) w8_.heap.size rfl (.tmp 154) (.tmp 161) 26 3 (.int .i64 0) 8 rfl Try.underlying26 info3 rfl (by decide) (by decide) (.slice gA k gc) ((us.take k).map (· * TM)) y [.int .i64 y] (fun _ => True) (fun _ => False) rfl rfl ?aP (fun _ hk => hk.elim) ?aF ?aO ?aB ?aS ?aL ?_; (case aP => exact rfl); (case aB => exact GB.out); (case aF => exact (fun _ _ => trivial)); (case aO => exact GR.out); (case aS => exact GB.out.size); (case aL => exact HLIM.out); intro v3 w5 ho hb_ hg_ hat; clear hg_ hat; (obtain ⟨gA3, gc3, rfl⟩ := Kd.R_slice ho); (rw [HLN.out] at ho ⊢); (rw [← HNX.out] at ho); (have HO4 := Aside0.mk ho); (have HB5 := Aside0.mk hb_); clear ho hb_)
              go_wp2
              refine ⟨⟨k + 1, gA3, gc3, HLT.out, by go_num, by first | rfl | trivial, HO4, HB5⟩, ?_⟩
              have := HLT.out
              simp only [intOf]; omega
            · obtain rfl : n = k := by omega
              have hgcx := (Kd.R_reads' GR.out).2.2
              rw [show us.take n = us from List.take_of_length_le (by have := HLU.out; omega), HGR.out, HLG.out] at hgcx
              have HR_G_9 := Aside0.mk hgcx
              have HB_9 := GB
              have HR_U_9 := Aside0.mk (Kd.C_below HR_U_8.out HB_9.out)
              have HR_B12_9 := Aside0.mk (Kd.C_below HR_B12_8.out HB_9.out)
              have HR_B16_9 := Aside0.mk (Kd.C_below HR_B16_8.out HB_9.out)
              have HL_12_9 := Aside0.mk (blk_below HL_12_8.out HB_9.out)
              have c_12_0_9 : wo.cell? ⟨g_12, 0, none⟩ = some (.slice A12 n c12) := (blk_cell HL_12_9.out 0).trans rfl
              have c_12_1_9 : wo.cell? ⟨g_12, 1, none⟩ = some (.int .i64 (B12 : Int)) := (blk_cell HL_12_9.out 1).trans rfl
              have c_12_2_9 : wo.cell? ⟨g_12, 2, none⟩ = some (.int .i64 P12) := (blk_cell HL_12_9.out 2).trans rfl
              have HL_14_9 := Aside0.mk (blk_below HL_14_8.out HB_9.out)
              have c_14_0_9 : wo.cell? ⟨g_14, 0, none⟩ = some (.slice A_14 n k_14) := (blk_cell HL_14_9.out 0).trans rfl
              have c_14_1_9 : wo.cell? ⟨g_14, 1, none⟩ = some (.int .i64 (B12 : Int)) := (blk_cell HL_14_9.out 1).trans rfl
              have c_14_2_9 : wo.cell? ⟨g_14, 2, none⟩ = some (.int .i64 P12) := (blk_cell HL_14_9.out 2).trans rfl
              have HL_16_9 := Aside0.mk (blk_below HL_16_8.out HB_9.out)
              have c_16_0_9 : wo.cell? ⟨g_16, 0, none⟩ = some (.slice A16 n c16) := (blk_cell HL_16_9.out 0).trans rfl
              have c_16_1_9 : wo.cell? ⟨g_16, 1, none⟩ = some (.int .i64 (B16 : Int)) := (blk_cell HL_16_9.out 1).trans rfl
              have c_16_2_9 : wo.cell? ⟨g_16, 2, none⟩ = some (.int .i64 P16) := (blk_cell HL_16_9.out 2).trans rfl
              have HL_18_9 := Aside0.mk (blk_below HL_18_8.out HB_9.out)
              have c_18_0_9 : wo.cell? ⟨g_18, 0, none⟩ = some (.slice A_18 n k_18) := (blk_cell HL_18_9.out 0).trans rfl
              have c_18_1_9 : wo.cell? ⟨g_18, 1, none⟩ = some (.int .i64 (B16 : Int)) := (blk_cell HL_18_9.out 1).trans rfl
              have c_18_2_9 : wo.cell? ⟨g_18, 2, none⟩ = some (.int .i64 P16) := (blk_cell HL_18_9.out 2).trans rfl
              have HT_9 := Aside0.mk (below_step HT_8.out HB_9.out)
              clear hgcx GR GB hlt hk HR_U_8 HR_B12_8 HR_B16_8 HL_12_8 c_12_0_8 c_12_1_8 c_12_2_8 HL_14_8 c_14_0_8 c_14_1_8 c_14_2_8 HL_16_8 c_16_0_8 c_16_1_8 c_16_2_8 HL_18_8 c_18_0_8 c_18_1_8 c_18_2_8
              go_wp2_with (first
                | (go_at_call 10; (with_reducible refine (HM23.out gA gc wo HR_G_9.out).mono ?_); rintro e w10_ ⟨A23, c23, rfl, hc23, hC, hb⟩; (have HB_10 := Aside0.mk hb); (have HR_U_10 := Aside0.mk (Kd.C_below HR_U_9.out HB_10.out)); (have HR_B12_10 := Aside0.mk (Kd.C_below HR_B12_9.out HB_10.out)); (have HR_B16_10 := Aside0.mk (Kd.C_below HR_B16_9.out HB_10.out)); (have HR_G_10 := Aside0.mk (Kd.C_below HR_G_9.out HB_10.out)); (have HL_12_10 := Aside0.mk (blk_below HL_12_9.out HB_10.out)); (have c_12_0_10 : w10_.cell? ⟨g_12, 0, none⟩ = some (.slice A12 n c12) := (blk_cell HL_12_10.out 0).trans rfl); (have c_12_1_10 : w10_.cell? ⟨g_12, 1, none⟩ = some (.int .i64 (B12 : Int)) := (blk_cell HL_12_10.out 1).trans rfl); (have c_12_2_10 : w10_.cell? ⟨g_12, 2, none⟩ = some (.int .i64 P12) := (blk_cell HL_12_10.out 2).trans rfl); (have HL_14_10 := Aside0.mk (blk_below HL_14_9.out HB_10.out)); (have c_14_0_10 : w10_.cell? ⟨g_14, 0, none⟩ = some (.slice A_14 n k_14) := (blk_cell HL_14_10.out 0).trans rfl); (have c_14_1_10 : w10_.cell? ⟨g_14, 1, none⟩ = some (.int .i64 (B12 : Int)) := (blk_cell HL_14_10.out 1).trans rfl); (have c_14_2_10 : w10_.cell? ⟨g_14, 2, none⟩ = some (.int .i64 P12) := (blk_cell HL_14_10.out 2).trans rfl); (have HL_16_10 := Aside0.mk (blk_below HL_16_9.out HB_10.out)); (have c_16_0_10 : w10_.cell? ⟨g_16, 0, none⟩ = some (.slice A16 n c16) := (blk_cell HL_16_10.out 0).trans rfl); (have c_16_1_10 : w10_.cell? ⟨g_16, 1, none⟩ = some (.int .i64 (B16 : Int)) := (blk_cell HL_16_10.out 1).trans rfl); (have c_16_2_10 : w10_.cell? ⟨g_16, 2, none⟩ = some (.int .i64 P16) := (blk_cell HL_16_10.out 2).trans rfl); (have HL_18_10 := Aside0.mk (blk_below HL_18_9.out HB_10.out)); (have c_18_0_10 : w10_.cell? ⟨g_18, 0, none⟩ = some (.slice A_18 n k_18) := (blk_cell HL_18_10.out 0).trans rfl); (have c_18_1_10 : w10_.cell? ⟨g_18, 1, none⟩ = some (.int .i64 (B16 : Int)) := (blk_cell HL_18_10.out 1).trans rfl); (have c_18_2_10 : w10_.cell? ⟨g_18, 2, none⟩ = some (.int .i64 P16) := (blk_cell HL_18_10.out 2).trans rfl); (have HT_10 := Aside0.mk (below_step HT_9.out HB_10.out)); (have HK_23 := Aside0.mk hc23); (have HR_B23_10 := Aside0.mk (hC)); clear HR_U_9 HR_B12_9 HR_B16_9 HR_G_9 HL_12_9 c_12_0_9 c_12_1_9 c_12_2_9 HL_14_9 c_14_0_9 c_14_1_9 c_14_2_9 HL_16_9 c_16_0_9 c_16_1_9 c_16_2_9 HL_18_9 c_18_0_9 c_18_1_9 c_18_2_9 hb)
                | ((with_reducible refine gate_store (t := 29) (p := 23) rfl ?_); refine wpList_store_row rfl 29 (.tmp 23) (.tmp 169) rfl w10_.heap.size #[.slice A23 n c23, .int .i64 (B12 : Int), .int .i64 (P12 * TM)] rfl rfl 29 _ (blk_new _ _) loadInfo rfl (by simp [Value.oneCell']) ?_; (obtain ⟨w11_, hx_11⟩ : ∃ w11_, (w10_.alloc (.cells #[.slice none 0 0, .int .i64 0, .int .i64 0] 29)).setRow w10_.heap.size #[.slice A23 n c23, .int .i64 (B12 : Int), .int .i64 (P12 * TM)] = w11_ := ⟨_, rfl⟩); (obtain ⟨g_23, hg_11⟩ : ∃ g_23, w10_.heap.size = g_23 := ⟨_, rfl⟩); (have HB_11 := Aside0.mk (show Below w10_.heap.size w10_ w11_ from hx_11 ▸ below_row9 ((Below.refl _ w10_).alloc (Nat.le_refl _) _) (Nat.le_refl _) _)); (have HL_23_11 := Aside0.mk (show w11_.heap[g_23]? = some (.cells #[.slice A23 n c23, .int .i64 (B12 : Int), .int .i64 (P12 * TM)] 29 (0, 0)) from hx_11 ▸ hg_11 ▸ setRow_heap9 _ _ _ _ _ (blk_new _ _))); rw [hx_11]; (try rw [hg_11]); (have c_23_0_11 : w11_.cell? ⟨g_23, 0, none⟩ = some (.slice A23 n c23) := (blk_cell HL_23_11.out 0).trans rfl); (have c_23_1_11 : w11_.cell? ⟨g_23, 1, none⟩ = some (.int .i64 (B12 : Int)) := (blk_cell HL_23_11.out 1).trans rfl); (have c_23_2_11 : w11_.cell? ⟨g_23, 2, none⟩ = some (.int .i64 (P12 * TM)) := (blk_cell HL_23_11.out 2).trans rfl); (have HR_U_11 := Aside0.mk (Kd.C_below HR_U_10.out HB_11.out)); (have HR_B12_11 := Aside0.mk (Kd.C_below HR_B12_10.out HB_11.out)); (have HR_B16_11 := Aside0.mk (Kd.C_below HR_B16_10.out HB_11.out)); (have HR_G_11 := Aside0.mk (Kd.C_below HR_G_10.out HB_11.out)); (have HR_B23_11 := Aside0.mk (Kd.C_below HR_B23_10.out HB_11.out)); (have HL_12_11 := Aside0.mk (blk_below HL_12_10.out HB_11.out)); (have c_12_0_11 : w11_.cell? ⟨g_12, 0, none⟩ = some (.slice A12 n c12) := (blk_cell HL_12_11.out 0).trans rfl); (have c_12_1_11 : w11_.cell? ⟨g_12, 1, none⟩ = some (.int .i64 (B12 : Int)) := (blk_cell HL_12_11.out 1).trans rfl); (have c_12_2_11 : w11_.cell? ⟨g_12, 2, none⟩ = some (.int .i64 P12) := (blk_cell HL_12_11.out 2).trans rfl); (have HL_14_11 := Aside0.mk (blk_below HL_14_10.out HB_11.out)); (have c_14_0_11 : w11_.cell? ⟨g_14, 0, none⟩ = some (.slice A_14 n k_14) := (blk_cell HL_14_11.out 0).trans rfl); (have c_14_1_11 : w11_.cell? ⟨g_14, 1, none⟩ = some (.int .i64 (B12 : Int)) := (blk_cell HL_14_11.out 1).trans rfl); (have c_14_2_11 : w11_.cell? ⟨g_14, 2, none⟩ = some (.int .i64 P12) := (blk_cell HL_14_11.out 2).trans rfl); (have HL_16_11 := Aside0.mk (blk_below HL_16_10.out HB_11.out)); (have c_16_0_11 : w11_.cell? ⟨g_16, 0, none⟩ = some (.slice A16 n c16) := (blk_cell HL_16_11.out 0).trans rfl); (have c_16_1_11 : w11_.cell? ⟨g_16, 1, none⟩ = some (.int .i64 (B16 : Int)) := (blk_cell HL_16_11.out 1).trans rfl); (have c_16_2_11 : w11_.cell? ⟨g_16, 2, none⟩ = some (.int .i64 P16) := (blk_cell HL_16_11.out 2).trans rfl); (have HL_18_11 := Aside0.mk (blk_below HL_18_10.out HB_11.out)); (have c_18_0_11 : w11_.cell? ⟨g_18, 0, none⟩ = some (.slice A_18 n k_18) := (blk_cell HL_18_11.out 0).trans rfl); (have c_18_1_11 : w11_.cell? ⟨g_18, 1, none⟩ = some (.int .i64 (B16 : Int)) := (blk_cell HL_18_11.out 1).trans rfl); (have c_18_2_11 : w11_.cell? ⟨g_18, 2, none⟩ = some (.int .i64 P16) := (blk_cell HL_18_11.out 2).trans rfl); (have HT_11 := Aside0.mk (below_step HT_10.out HB_11.out)); clear HR_U_10 HR_B12_10 HR_B16_10 HR_G_10 HR_B23_10 HL_12_10 c_12_0_10 c_12_1_10 c_12_2_10 HL_14_10 c_14_0_10 c_14_1_10 c_14_2_10 HL_16_10 c_16_0_10 c_16_1_10 c_16_2_10 HL_18_10 c_18_0_10 c_18_1_10 c_18_2_10 hx_11 hg_11)
                | ((with_reducible refine gate_dst (N := 172) rfl ?_); refine Kd.R_lit (Kd.int .i64) _ 3 ?hg (N := 172) ?hd (xs := ([] : List Int)) (inner := []) (ok := fun _ => True) (okp := fun _ => True) ?hr ?hp (fun _ hk => hk) trivial (Below.refl _ _) (Nat.le_refl _) (by simp) ?_; (case hd => rfl); (case hg => rfl); (case hr => first | (go_simp; done) | (go_simp; rfl)); (case hp => exact (Reps.none _ _)); intro vl wl ho hb hg_ hnew_; clear hg_ hnew_; have HLo := Aside0.mk ho; have HLb := Aside0.mk (show Below w11_.heap.size w11_ wl from hb); clear ho hb)
                | ((with_reducible refine gate_builtin (b := .append) (xs := #[.tmp 172, .tmp 173]) rfl ?_); at_builtin; (refine Kd.R_append_rows (Kd.int .i64) (w0 := w11_) w11_.heap.size rfl (.tmp 172) (.tmp 173) 26 3 (.int .i64 0) 8 rfl Try.underlying26 info3 rfl (by decide) (by decide) vl [] us _ _ _ (fun _ => True) (fun _ => False) rfl rfl ?aO ?aR (fun _ _ h => h) (fun _ h => h.elim) ?aF ?aB ?aS ?aL ?_); (case aR => exact Kd.C_below HR_U_11.out HLb.out); (case aB => exact HLb.out); (case aF => exact (fun _ _ => trivial)); (case aO => exact HLo.out); (case aS => exact HLb.out.size); (case aL => have := HN.out; simp only [List.length_nil]; omega); intro v2 w2 ho hb hg hat; clear hg hat; have HO2 := Aside0.mk ho; have HB2 := Aside0.mk hb; clear ho hb)
                | ((with_reducible refine gate_builtin (b := .append) (xs := #[.tmp 174, .tmp 179]) rfl ?_); at_builtin; refine Kd.R_append (Kd.int .i64) (w0 := w11_) w11_.heap.size rfl (.tmp 174) (.tmp 179) 26 3 (.int .i64 0) 8 rfl Try.underlying26 info3 rfl (by decide) (by decide) v2 ([] ++ us) V [.int .i64 V] (fun _ => True) (fun _ => False) rfl rfl ?aP (fun _ hk => hk.elim) ?aF ?aO ?aB ?aS ?aL ?_; (case aP => exact rfl); (case aB => exact HB2.out); (case aF => exact (fun _ _ => trivial)); (case aO => exact HO2.out); (case aS => exact HB2.out.size); (case aL => have := HN.out; have := HLU.out; simp only [List.nil_append]; omega); intro v3 w3_ ho hb_ hg_ hat; clear hg_ hat; (obtain ⟨A3_, c3_, rfl⟩ := Kd.R_slice ho); (rw [HL1N.out] at ho ⊢); (have HO3 := Aside0.mk (show Kd.C (Kd.int .i64) w3_ A3_ (n + 1) (us ++ [V]) from by have h := (Kd.R_reads' ho).2.2; rw [List.nil_append, HL2N.out] at h; exact h)); (have HB3 := Aside0.mk hb_); clear ho hb_)
                | (go_at_call 10; (with_reducible refine (HM25.out A3_ c3_ w3_ HO3.out).mono ?_); rintro e w12_ ⟨A25, c25, rfl, hc25, hC, hb⟩; (have HB_12 := Aside0.mk (below_step HB3.out hb)); (have HR_U_12 := Aside0.mk (Kd.C_below HR_U_11.out HB_12.out)); (have HR_B12_12 := Aside0.mk (Kd.C_below HR_B12_11.out HB_12.out)); (have HR_B16_12 := Aside0.mk (Kd.C_below HR_B16_11.out HB_12.out)); (have HR_G_12 := Aside0.mk (Kd.C_below HR_G_11.out HB_12.out)); (have HR_B23_12 := Aside0.mk (Kd.C_below HR_B23_11.out HB_12.out)); (have HL_12_12 := Aside0.mk (blk_below HL_12_11.out HB_12.out)); (have c_12_0_12 : w12_.cell? ⟨g_12, 0, none⟩ = some (.slice A12 n c12) := (blk_cell HL_12_12.out 0).trans rfl); (have c_12_1_12 : w12_.cell? ⟨g_12, 1, none⟩ = some (.int .i64 (B12 : Int)) := (blk_cell HL_12_12.out 1).trans rfl); (have c_12_2_12 : w12_.cell? ⟨g_12, 2, none⟩ = some (.int .i64 P12) := (blk_cell HL_12_12.out 2).trans rfl); (have HL_14_12 := Aside0.mk (blk_below HL_14_11.out HB_12.out)); (have c_14_0_12 : w12_.cell? ⟨g_14, 0, none⟩ = some (.slice A_14 n k_14) := (blk_cell HL_14_12.out 0).trans rfl); (have c_14_1_12 : w12_.cell? ⟨g_14, 1, none⟩ = some (.int .i64 (B12 : Int)) := (blk_cell HL_14_12.out 1).trans rfl); (have c_14_2_12 : w12_.cell? ⟨g_14, 2, none⟩ = some (.int .i64 P12) := (blk_cell HL_14_12.out 2).trans rfl); (have HL_16_12 := Aside0.mk (blk_below HL_16_11.out HB_12.out)); (have c_16_0_12 : w12_.cell? ⟨g_16, 0, none⟩ = some (.slice A16 n c16) := (blk_cell HL_16_12.out 0).trans rfl); (have c_16_1_12 : w12_.cell? ⟨g_16, 1, none⟩ = some (.int .i64 (B16 : Int)) := (blk_cell HL_16_12.out 1).trans rfl); (have c_16_2_12 : w12_.cell? ⟨g_16, 2, none⟩ = some (.int .i64 P16) := (blk_cell HL_16_12.out 2).trans rfl); (have HL_18_12 := Aside0.mk (blk_below HL_18_11.out HB_12.out)); (have c_18_0_12 : w12_.cell? ⟨g_18, 0, none⟩ = some (.slice A_18 n k_18) := (blk_cell HL_18_12.out 0).trans rfl); (have c_18_1_12 : w12_.cell? ⟨g_18, 1, none⟩ = some (.int .i64 (B16 : Int)) := (blk_cell HL_18_12.out 1).trans rfl); (have c_18_2_12 : w12_.cell? ⟨g_18, 2, none⟩ = some (.int .i64 P16) := (blk_cell HL_18_12.out 2).trans rfl); (have HL_23_12 := Aside0.mk (blk_below HL_23_11.out HB_12.out)); (have c_23_0_12 : w12_.cell? ⟨g_23, 0, none⟩ = some (.slice A23 n c23) := (blk_cell HL_23_12.out 0).trans rfl); (have c_23_1_12 : w12_.cell? ⟨g_23, 1, none⟩ = some (.int .i64 (B12 : Int)) := (blk_cell HL_23_12.out 1).trans rfl); (have c_23_2_12 : w12_.cell? ⟨g_23, 2, none⟩ = some (.int .i64 (P12 * TM)) := (blk_cell HL_23_12.out 2).trans rfl); (have HT_12 := Aside0.mk (below_step HT_11.out HB_12.out)); (have HR_B25_12 := Aside0.mk (hC)); clear HR_U_11 HR_B12_11 HR_B16_11 HR_G_11 HR_B23_11 HL_12_11 c_12_0_11 c_12_1_11 c_12_2_11 HL_14_11 c_14_0_11 c_14_1_11 c_14_2_11 HL_16_11 c_16_0_11 c_16_1_11 c_16_2_11 HL_18_11 c_18_0_11 c_18_1_11 c_18_2_11 HL_23_11 c_23_0_11 c_23_1_11 c_23_2_11 hb)
                | ((with_reducible refine gate_store (t := 29) (p := 25) rfl ?_); refine wpList_store_row rfl 29 (.tmp 25) (.tmp 183) rfl w12_.heap.size #[.slice A25 (n + 1) c25, .int .i64 (B25 : Int), .int .i64 P25] rfl rfl 29 _ (blk_new _ _) loadInfo rfl (by simp [Value.oneCell']) ?_; (obtain ⟨w13_, hx_13⟩ : ∃ w13_, (w12_.alloc (.cells #[.slice none 0 0, .int .i64 0, .int .i64 0] 29)).setRow w12_.heap.size #[.slice A25 (n + 1) c25, .int .i64 (B25 : Int), .int .i64 P25] = w13_ := ⟨_, rfl⟩); (obtain ⟨g_25, hg_13⟩ : ∃ g_25, w12_.heap.size = g_25 := ⟨_, rfl⟩); (have HB_13 := Aside0.mk (show Below w12_.heap.size w12_ w13_ from hx_13 ▸ below_row9 ((Below.refl _ w12_).alloc (Nat.le_refl _) _) (Nat.le_refl _) _)); (have HL_25_13 := Aside0.mk (show w13_.heap[g_25]? = some (.cells #[.slice A25 (n + 1) c25, .int .i64 (B25 : Int), .int .i64 P25] 29 (0, 0)) from hx_13 ▸ hg_13 ▸ setRow_heap9 _ _ _ _ _ (blk_new _ _))); rw [hx_13]; (try rw [hg_13]); (have c_25_0_13 : w13_.cell? ⟨g_25, 0, none⟩ = some (.slice A25 (n + 1) c25) := (blk_cell HL_25_13.out 0).trans rfl); (have c_25_1_13 : w13_.cell? ⟨g_25, 1, none⟩ = some (.int .i64 (B25 : Int)) := (blk_cell HL_25_13.out 1).trans rfl); (have c_25_2_13 : w13_.cell? ⟨g_25, 2, none⟩ = some (.int .i64 P25) := (blk_cell HL_25_13.out 2).trans rfl); (have HR_U_13 := Aside0.mk (Kd.C_below HR_U_12.out HB_13.out)); (have HR_B12_13 := Aside0.mk (Kd.C_below HR_B12_12.out HB_13.out)); (have HR_B16_13 := Aside0.mk (Kd.C_below HR_B16_12.out HB_13.out)); (have HR_G_13 := Aside0.mk (Kd.C_below HR_G_12.out HB_13.out)); (have HR_B23_13 := Aside0.mk (Kd.C_below HR_B23_12.out HB_13.out)); (have HR_B25_13 := Aside0.mk (Kd.C_below HR_B25_12.out HB_13.out)); (have HL_12_13 := Aside0.mk (blk_below HL_12_12.out HB_13.out)); (have c_12_0_13 : w13_.cell? ⟨g_12, 0, none⟩ = some (.slice A12 n c12) := (blk_cell HL_12_13.out 0).trans rfl); (have c_12_1_13 : w13_.cell? ⟨g_12, 1, none⟩ = some (.int .i64 (B12 : Int)) := (blk_cell HL_12_13.out 1).trans rfl); (have c_12_2_13 : w13_.cell? ⟨g_12, 2, none⟩ = some (.int .i64 P12) := (blk_cell HL_12_13.out 2).trans rfl); (have HL_14_13 := Aside0.mk (blk_below HL_14_12.out HB_13.out)); (have c_14_0_13 : w13_.cell? ⟨g_14, 0, none⟩ = some (.slice A_14 n k_14) := (blk_cell HL_14_13.out 0).trans rfl); (have c_14_1_13 : w13_.cell? ⟨g_14, 1, none⟩ = some (.int .i64 (B12 : Int)) := (blk_cell HL_14_13.out 1).trans rfl); (have c_14_2_13 : w13_.cell? ⟨g_14, 2, none⟩ = some (.int .i64 P12) := (blk_cell HL_14_13.out 2).trans rfl); (have HL_16_13 := Aside0.mk (blk_below HL_16_12.out HB_13.out)); (have c_16_0_13 : w13_.cell? ⟨g_16, 0, none⟩ = some (.slice A16 n c16) := (blk_cell HL_16_13.out 0).trans rfl); (have c_16_1_13 : w13_.cell? ⟨g_16, 1, none⟩ = some (.int .i64 (B16 : Int)) := (blk_cell HL_16_13.out 1).trans rfl); (have c_16_2_13 : w13_.cell? ⟨g_16, 2, none⟩ = some (.int .i64 P16) := (blk_cell HL_16_13.out 2).trans rfl); (have HL_18_13 := Aside0.mk (blk_below HL_18_12.out HB_13.out)); (have c_18_0_13 : w13_.cell? ⟨g_18, 0, none⟩ = some (.slice A_18 n k_18) := (blk_cell HL_18_13.out 0).trans rfl); (have c_18_1_13 : w13_.cell? ⟨g_18, 1, none⟩ = some (.int .i64 (B16 : Int)) := (blk_cell HL_18_13.out 1).trans rfl); (have c_18_2_13 : w13_.cell? ⟨g_18, 2, none⟩ = some (.int .i64 P16) := (blk_cell HL_18_13.out 2).trans rfl); (have HL_23_13 := Aside0.mk (blk_below HL_23_12.out HB_13.out)); (have c_23_0_13 : w13_.cell? ⟨g_23, 0, none⟩ = some (.slice A23 n c23) := (blk_cell HL_23_13.out 0).trans rfl); (have c_23_1_13 : w13_.cell? ⟨g_23, 1, none⟩ = some (.int .i64 (B12 : Int)) := (blk_cell HL_23_13.out 1).trans rfl); (have c_23_2_13 : w13_.cell? ⟨g_23, 2, none⟩ = some (.int .i64 (P12 * TM)) := (blk_cell HL_23_13.out 2).trans rfl); (have HT_13 := Aside0.mk (below_step HT_12.out HB_13.out)); clear HR_U_12 HR_B12_12 HR_B16_12 HR_G_12 HR_B23_12 HR_B25_12 HL_12_12 c_12_0_12 c_12_1_12 c_12_2_12 HL_14_12 c_14_0_12 c_14_1_12 c_14_2_12 HL_16_12 c_16_0_12 c_16_1_12 c_16_2_12 HL_18_12 c_18_0_12 c_18_1_12 c_18_2_12 HL_23_12 c_23_0_12 c_23_1_12 c_23_2_12 hx_13 hg_13)
                | (go_at_call 12; (with_reducible refine (ints_same A23 c23 A12 c12 n bb w13_ HLBB.out (by have := HN.out; omega) HR_B23_13.out HK_23.out HR_B12_13.out HK_12.out).mono ?_); rintro e w14_ ⟨rfl, hd⟩; (have hb : Below w13_.heap.size w13_ w14_ := by obtain ⟨d, rfl⟩ := hd; exact belowd (Below.refl _ _) d); clear hd; (have HB_14 := Aside0.mk (show Below w13_.heap.size w13_ w14_ from hb)); (have HR_U_14 := Aside0.mk (Kd.C_below HR_U_13.out HB_14.out)); (have HR_B12_14 := Aside0.mk (Kd.C_below HR_B12_13.out HB_14.out)); (have HR_B16_14 := Aside0.mk (Kd.C_below HR_B16_13.out HB_14.out)); (have HR_G_14 := Aside0.mk (Kd.C_below HR_G_13.out HB_14.out)); (have HR_B23_14 := Aside0.mk (Kd.C_below HR_B23_13.out HB_14.out)); (have HR_B25_14 := Aside0.mk (Kd.C_below HR_B25_13.out HB_14.out)); (have HL_12_14 := Aside0.mk (blk_below HL_12_13.out HB_14.out)); (have c_12_0_14 : w14_.cell? ⟨g_12, 0, none⟩ = some (.slice A12 n c12) := (blk_cell HL_12_14.out 0).trans rfl); (have c_12_1_14 : w14_.cell? ⟨g_12, 1, none⟩ = some (.int .i64 (B12 : Int)) := (blk_cell HL_12_14.out 1).trans rfl); (have c_12_2_14 : w14_.cell? ⟨g_12, 2, none⟩ = some (.int .i64 P12) := (blk_cell HL_12_14.out 2).trans rfl); (have HL_14_14 := Aside0.mk (blk_below HL_14_13.out HB_14.out)); (have c_14_0_14 : w14_.cell? ⟨g_14, 0, none⟩ = some (.slice A_14 n k_14) := (blk_cell HL_14_14.out 0).trans rfl); (have c_14_1_14 : w14_.cell? ⟨g_14, 1, none⟩ = some (.int .i64 (B12 : Int)) := (blk_cell HL_14_14.out 1).trans rfl); (have c_14_2_14 : w14_.cell? ⟨g_14, 2, none⟩ = some (.int .i64 P12) := (blk_cell HL_14_14.out 2).trans rfl); (have HL_16_14 := Aside0.mk (blk_below HL_16_13.out HB_14.out)); (have c_16_0_14 : w14_.cell? ⟨g_16, 0, none⟩ = some (.slice A16 n c16) := (blk_cell HL_16_14.out 0).trans rfl); (have c_16_1_14 : w14_.cell? ⟨g_16, 1, none⟩ = some (.int .i64 (B16 : Int)) := (blk_cell HL_16_14.out 1).trans rfl); (have c_16_2_14 : w14_.cell? ⟨g_16, 2, none⟩ = some (.int .i64 P16) := (blk_cell HL_16_14.out 2).trans rfl); (have HL_18_14 := Aside0.mk (blk_below HL_18_13.out HB_14.out)); (have c_18_0_14 : w14_.cell? ⟨g_18, 0, none⟩ = some (.slice A_18 n k_18) := (blk_cell HL_18_14.out 0).trans rfl); (have c_18_1_14 : w14_.cell? ⟨g_18, 1, none⟩ = some (.int .i64 (B16 : Int)) := (blk_cell HL_18_14.out 1).trans rfl); (have c_18_2_14 : w14_.cell? ⟨g_18, 2, none⟩ = some (.int .i64 P16) := (blk_cell HL_18_14.out 2).trans rfl); (have HL_23_14 := Aside0.mk (blk_below HL_23_13.out HB_14.out)); (have c_23_0_14 : w14_.cell? ⟨g_23, 0, none⟩ = some (.slice A23 n c23) := (blk_cell HL_23_14.out 0).trans rfl); (have c_23_1_14 : w14_.cell? ⟨g_23, 1, none⟩ = some (.int .i64 (B12 : Int)) := (blk_cell HL_23_14.out 1).trans rfl); (have c_23_2_14 : w14_.cell? ⟨g_23, 2, none⟩ = some (.int .i64 (P12 * TM)) := (blk_cell HL_23_14.out 2).trans rfl); (have HL_25_14 := Aside0.mk (blk_below HL_25_13.out HB_14.out)); (have c_25_0_14 : w14_.cell? ⟨g_25, 0, none⟩ = some (.slice A25 (n + 1) c25) := (blk_cell HL_25_14.out 0).trans rfl); (have c_25_1_14 : w14_.cell? ⟨g_25, 1, none⟩ = some (.int .i64 (B25 : Int)) := (blk_cell HL_25_14.out 1).trans rfl); (have c_25_2_14 : w14_.cell? ⟨g_25, 2, none⟩ = some (.int .i64 P25) := (blk_cell HL_25_14.out 2).trans rfl); (have HT_14 := Aside0.mk (below_step HT_13.out HB_14.out)); clear HR_U_13 HR_B12_13 HR_B16_13 HR_G_13 HR_B23_13 HR_B25_13 HL_12_13 c_12_0_13 c_12_1_13 c_12_2_13 HL_14_13 c_14_0_13 c_14_1_13 c_14_2_13 HL_16_13 c_16_0_13 c_16_1_13 c_16_2_13 HL_18_13 c_18_0_13 c_18_1_13 c_18_2_13 HL_23_13 c_23_0_13 c_23_1_13 c_23_2_13 HL_25_13 c_25_0_13 c_25_1_13 c_25_2_13 hb)
                | (go_at_call 13; (with_reducible refine (awake_calls w14_).mono ?_); rintro e w15_ ⟨rfl, hb⟩; (have HB_15 := Aside0.mk hb); (have HR_U_15 := Aside0.mk (Kd.C_below HR_U_14.out HB_15.out)); (have HR_B12_15 := Aside0.mk (Kd.C_below HR_B12_14.out HB_15.out)); (have HR_B16_15 := Aside0.mk (Kd.C_below HR_B16_14.out HB_15.out)); (have HR_G_15 := Aside0.mk (Kd.C_below HR_G_14.out HB_15.out)); (have HR_B23_15 := Aside0.mk (Kd.C_below HR_B23_14.out HB_15.out)); (have HR_B25_15 := Aside0.mk (Kd.C_below HR_B25_14.out HB_15.out)); (have HL_12_15 := Aside0.mk (blk_below HL_12_14.out HB_15.out)); (have c_12_0_15 : w15_.cell? ⟨g_12, 0, none⟩ = some (.slice A12 n c12) := (blk_cell HL_12_15.out 0).trans rfl); (have c_12_1_15 : w15_.cell? ⟨g_12, 1, none⟩ = some (.int .i64 (B12 : Int)) := (blk_cell HL_12_15.out 1).trans rfl); (have c_12_2_15 : w15_.cell? ⟨g_12, 2, none⟩ = some (.int .i64 P12) := (blk_cell HL_12_15.out 2).trans rfl); (have HL_14_15 := Aside0.mk (blk_below HL_14_14.out HB_15.out)); (have c_14_0_15 : w15_.cell? ⟨g_14, 0, none⟩ = some (.slice A_14 n k_14) := (blk_cell HL_14_15.out 0).trans rfl); (have c_14_1_15 : w15_.cell? ⟨g_14, 1, none⟩ = some (.int .i64 (B12 : Int)) := (blk_cell HL_14_15.out 1).trans rfl); (have c_14_2_15 : w15_.cell? ⟨g_14, 2, none⟩ = some (.int .i64 P12) := (blk_cell HL_14_15.out 2).trans rfl); (have HL_16_15 := Aside0.mk (blk_below HL_16_14.out HB_15.out)); (have c_16_0_15 : w15_.cell? ⟨g_16, 0, none⟩ = some (.slice A16 n c16) := (blk_cell HL_16_15.out 0).trans rfl); (have c_16_1_15 : w15_.cell? ⟨g_16, 1, none⟩ = some (.int .i64 (B16 : Int)) := (blk_cell HL_16_15.out 1).trans rfl); (have c_16_2_15 : w15_.cell? ⟨g_16, 2, none⟩ = some (.int .i64 P16) := (blk_cell HL_16_15.out 2).trans rfl); (have HL_18_15 := Aside0.mk (blk_below HL_18_14.out HB_15.out)); (have c_18_0_15 : w15_.cell? ⟨g_18, 0, none⟩ = some (.slice A_18 n k_18) := (blk_cell HL_18_15.out 0).trans rfl); (have c_18_1_15 : w15_.cell? ⟨g_18, 1, none⟩ = some (.int .i64 (B16 : Int)) := (blk_cell HL_18_15.out 1).trans rfl); (have c_18_2_15 : w15_.cell? ⟨g_18, 2, none⟩ = some (.int .i64 P16) := (blk_cell HL_18_15.out 2).trans rfl); (have HL_23_15 := Aside0.mk (blk_below HL_23_14.out HB_15.out)); (have c_23_0_15 : w15_.cell? ⟨g_23, 0, none⟩ = some (.slice A23 n c23) := (blk_cell HL_23_15.out 0).trans rfl); (have c_23_1_15 : w15_.cell? ⟨g_23, 1, none⟩ = some (.int .i64 (B12 : Int)) := (blk_cell HL_23_15.out 1).trans rfl); (have c_23_2_15 : w15_.cell? ⟨g_23, 2, none⟩ = some (.int .i64 (P12 * TM)) := (blk_cell HL_23_15.out 2).trans rfl); (have HL_25_15 := Aside0.mk (blk_below HL_25_14.out HB_15.out)); (have c_25_0_15 : w15_.cell? ⟨g_25, 0, none⟩ = some (.slice A25 (n + 1) c25) := (blk_cell HL_25_15.out 0).trans rfl); (have c_25_1_15 : w15_.cell? ⟨g_25, 1, none⟩ = some (.int .i64 (B25 : Int)) := (blk_cell HL_25_15.out 1).trans rfl); (have c_25_2_15 : w15_.cell? ⟨g_25, 2, none⟩ = some (.int .i64 P25) := (blk_cell HL_25_15.out 2).trans rfl); (have HT_15 := Aside0.mk (below_step HT_14.out HB_15.out)); clear HR_U_14 HR_B12_14 HR_B16_14 HR_G_14 HR_B23_14 HR_B25_14 HL_12_14 c_12_0_14 c_12_1_14 c_12_2_14 HL_14_14 c_14_0_14 c_14_1_14 c_14_2_14 HL_16_14 c_16_0_14 c_16_1_14 c_16_2_14 HL_18_14 c_18_0_14 c_18_1_14 c_18_2_14 HL_23_14 c_23_0_14 c_23_1_14 c_23_2_14 HL_25_14 c_25_0_14 c_25_1_14 c_25_2_14 hb))
              go_ret
              exact ⟨rfl, HT_15.out⟩
end Go.Proofs.Ytgmaiknbogcpgaa.Pure
