/- TempoPhases. -/
import Derived.Test.YtjhapibelhakdaaFogx0
import Derived.Test.YtjhapibelhakdaaPhaseBoth
import Derived.Test.YtjhapibelhakdaaPureTempoSlips
namespace Go.Proofs.Ytjhapibelhakdaa.Pure
open Go.RowKit Go.Proofs.Ytjhapibelhakdaa.Fog Go.Proofs.YtjhapibelhakdaaW.PrintWords Go.Proofs.YtjhapibelhakdaaW.PrintLast Go.Proofs.YtjhapibelhakdaaW.PrintMore Go.Proofs.Ytjhapibelhakdaa.Kit
set_option linter.unusedVariables false
set_option linter.unusedSimpArgs false
structure PhST (g1 n n3 : Nat) (SA A3 : Option Addr) (gb c3 : Nat) (l : List Smp) (l3 : List Nat) (p F cnt : Int) (W : World) : Prop where
  m : Kd.C KS W (some ⟨g1, 0, none⟩) (n + 1) (l ++ [mkS])
  r : Kd.C KS W SA n l
  y : Kd.C KF W A3 n3 l3
  x : W.heap[gb]? = some (.cells #[.int .i64 p, .int .i64 F, .int .i64 cnt, .slice A3 n3 c3] 57)
theorem PhST.at {g1 n n3 gb c3 : Nat} {SA A3 : Option Addr} {l : List Smp} {l3 : List Nat} {p F cnt : Int} {W W' : World} (h : PhST g1 n n3 SA A3 gb c3 l l3 p F cnt W) (hb : Below W.heap.size W W') : PhST g1 n n3 SA A3 gb c3 l l3 p F cnt W' :=
  ⟨Kd.C_below h.m hb, Kd.C_below h.r hb, Kd.C_below h.y hb, blk_below h.x hb⟩
theorem fl_hcc {T base : Nat} {wr : World} {ok : Nat → Prop} {g n c : Nat} {L : List Nat} (h : Kd.R KF T wr base ok (.slice (some ⟨g, 0, none⟩) n c) L) (hl : L.length = n) (k : Nat) (hk : k < n) :
    ∀ (j : Nat) (u : Value), ([.float .f64 (L.getD k 0)] : List Value)[j]? = some u → wr.cell? ⟨g, (k : Int).toNat * KF.sz + j, none⟩ = some u := by
  subst hl
  have hsm := (Kd.R_reads' h).2.2
  obtain ⟨ad, had, hc0⟩ := fl_at hsm k hk
  injection had with had
  subst had
  rw [add_zero_form] at hc0
  intro j u hj
  rw [Int.toNat_natCast]
  match j, hj with
  | 0, hj => obtain rfl : Value.float .f64 (L.getD k 0) = u := by simpa using hj
             have e : k * KF.sz + 0 = k := by show k * 1 + 0 = k; omega
             rw [e]
             exact hc0
def mkF : Nat := 4635118810238550016
theorem take_mkF {w : World} {A : Option Addr} {n : Nat} {l : List Nat} (hl : l.length = n) (h : Kd.C KF w A (n + 1) (l ++ [mkF])) : Kd.C KF w A n l := by
  refine ⟨hl, by have := h.2.1; omega, fun hp => ?_⟩
  obtain ⟨ad, e, hc⟩ := h.2.2 (by omega)
  refine ⟨ad, e, fun j q hj => hc j q ?_⟩
  rw [List.getElem?_append_left (List.getElem?_eq_some_iff.1 hj).1]
  exact hj
set_option maxHeartbeats 4000000 in
set_option maxRecDepth 100000 in
theorem phases_walk (p F cnt : Int) (A3 : Option Addr) (c3 n3 : Nat) (l3 : List Nat) (A1 : Option Addr) (c1 n : Nat) (l1 : List Prt) (w : World) (hn1 : l1.length = n) (hr1 : Kd.C KP w A1 n l1) (hy1 : n * 24 ≤ 140737488351232) (hn3 : l3.length = n3) (hr3 : Kd.C KF w A3 n3 l3) (hy3 : n3 * 8 ≤ 140737488351232) :
    Calls Try.prog 7 #[.agg #[.int .i64 p, .int .i64 F, .int .i64 cnt, .slice A3 n3 c3], .slice A1 n c1] w fun e w' => e = .returned (.bool true) ∧ Below w.heap.size w w' := by
  obtain ⟨l, hl⟩ : ∃ l, l1.map smpOf = l := ⟨_, rfl⟩
  have hna : l.length = n := by rw [← hl, List.length_map, hn1]
  have HSA := Aside0.mk (show ∀ W, Below w.heap.size w W → Calls Try.prog 15 #[.slice A1 n c1] W fun e w' => ∃ (A : Option Addr) (c : Nat), e = .returned (.slice A n c) ∧ n ≤ c ∧ Kd.C KS w' A n l ∧ Below W.heap.size W w' from fun W hW => by
    refine (samples_calls A1 c1 n l1 W hn1 (Kd.C_below hr1 hW) hy1).mono ?_
    rintro e w' ⟨v, rfl, hR, hB⟩
    rw [hl] at hR
    obtain ⟨A', c', rfl, h1, h2⟩ := smp_res hna hR
    exact ⟨A', c', rfl, h1, h2, hB⟩)
  obtain ⟨N, o, r, hN, he1, he2⟩ := energies_both l n p F cnt hna
  obtain ⟨r1, r2, hp1, hp2⟩ := phase_both l3 n3 (by omega)
  unfold EnAs at he1 he2
  unfold PhAs at hp1 hp2
  have HE1 := Aside0.mk he1
  have HE2 := Aside0.mk he2
  have HP1 := Aside0.mk hp1
  have HP2 := Aside0.mk hp2
  have HNA := Aside0.mk hna
  have HN3 := Aside0.mk hn3
  have HY3 := Aside0.mk hr3
  have HLN := Aside0.mk (show n < 140737488355000 ∧ n * 24 ≤ 140737488351232 ∧ N ≤ 8 ∧ n3 * 8 ≤ 140737488351232 ∧ n3 < 140737488355000 by omega)
  clear hr1 hy1 he1 he2 hp1 hp2 hna hn1 hl hN hr3 hy3 hn3
  have HB0 := Aside0.mk ((Below.refl w.heap.size w).alloc (Nat.le_refl _) (.cells #[.int .i64 p, .int .i64 F, .int .i64 cnt, .slice A3 n3 c3] 57))
  have HX0 := Aside0.mk (blk_new w (.cells #[.int .i64 p, .int .i64 F, .int .i64 cnt, .slice A3 n3 c3] 57))
  go_enter Try.func7, Try.ntmps7
  go_wp2_with (first
    | (go_at_call 15; (with_reducible refine (HSA.out _ HB0.out).mono ?_); rintro e w1 ⟨SA, sc1, rfl, hsc1, hC, hb⟩; (have HB1 := Aside0.mk (below_step HB0.out hb)); (have HC1 := Aside0.mk hC); (have HX1 := Aside0.mk (blk_below HX0.out hb)); clear hb hC)
    | (go_at_call 16; (with_reducible refine (lent_calls SA sc1 n l w1 HNA.out HC1.out hsc1 HLN.out.2.1).mono ?_); rintro e w2 ⟨g1, k1, rfl, hk1, hg1, hg1_, hR, hb⟩; (have HB2 := Aside0.mk (below_step HB1.out hb)); (have HST2 := Aside0.mk (show PhST g1 n n3 SA A3 w.heap.size c3 l l3 p F cnt w2 from ⟨by (have h := (Kd.R_reads' hR).2.2; rw [List.length_append, HNA.out, List.length_singleton] at h; exact h), Kd.C_below HC1.out hb, Kd.C_below HY3.out HB2.out, blk_below HX1.out hb⟩)); (have z0 := (blk_cell HST2.out.x 0).trans rfl); (have z1 := (blk_cell HST2.out.x 1).trans rfl); (have z2 := (blk_cell HST2.out.x 2).trans rfl); (have z3 := (blk_cell HST2.out.x 3).trans rfl); clear hb hR hg1 hg1_)
    | (go_at_call 24; (with_reducible refine (HE1.out w2 (some ⟨g1, 0, none⟩) k1 (by omega) (take_mk HNA.out HST2.out.m)).mono ?_); rintro e w3 ⟨CA, cc, bs, rfl, hbl, hrel, hR, hb⟩; (have HD3 := Aside0.mk hb); (have HR3 := Aside0.mk hR); (have HQ3 := Aside0.mk (And.intro hbl hrel)); (have HST3 := Aside0.mk (HST2.out.at hb)); (have HG3 := Aside0.mk (fun i hi => ((Kd.R_bound hR).1 i hi).2.2.1 : ∀ i, (Value.slice CA N cc).ownBlock = some i → i < w3.heap.size)); (have z0 := (blk_cell HST3.out.x 0).trans rfl); (have z1 := (blk_cell HST3.out.x 1).trans rfl); (have z2 := (blk_cell HST3.out.x 2).trans rfl); (have z3 := (blk_cell HST3.out.x 3).trans rfl); clear hb hR hbl hrel)
    | (go_at_call 25; (with_reducible refine (HE2.out w3 SA sc1 hsc1 HST3.out.r).mono ?_); rintro e w4 ⟨DA, dc, ds, rfl, hbl, hrel, hR, hb⟩; (have HD4 := Aside0.mk (below_step HD3.out hb)); (have HR4 := Aside0.mk (Kd.R_below HR3.out hb)); (have HE4 := Aside0.mk hR); (have HQ4 := Aside0.mk (And.intro hbl hrel)); (have HST4 := Aside0.mk (HST3.out.at hb)); (have HG4 := Aside0.mk (fun i hi => ((Kd.R_bound hR).1 i hi).2.1 : ∀ i, (Value.slice DA N dc).ownBlock = some i → w3.heap.size ≤ i)); clear hb hR hbl hrel)
    | (go_at_call 26; (with_reducible refine (floats_calls CA DA cc dc N bs ds w4 (by (have h := (Kd.R_reads' HR4.out).2.2; rw [HQ3.out.1] at h; exact h)) (by (have h := (Kd.R_reads' HE4.out).2.2; rw [HQ4.out.1] at h; exact h)) (fun i hi => same_rel (HQ3.out.2 i hi) (HQ4.out.2 i hi)) (by (have h := HLN.out.2.2.1; omega))).mono ?_); rintro e w5 ⟨rfl, hd⟩; (have hb := below_of_drew hd); (have HD5 := Aside0.mk (below_step HD4.out hb)); (have HR5 := Aside0.mk (Kd.R_below HR4.out hb)); (have HE5 := Aside0.mk (Kd.R_below HE4.out hb)); (have HST5 := Aside0.mk (HST4.out.at hb)); clear hb hd)
    | (go_at_call 18; (with_reducible refine (kept_calls g1 k1 n SA sc1 l w5 HNA.out HST5.out.m hk1 HST5.out.r HLN.out.1).mono ?_); rintro e w6 ⟨rfl, hd⟩; (have hb := below_of_drew hd); (have HD6 := Aside0.mk (below_step HD5.out hb)); (have HR6 := Aside0.mk (Kd.R_below HR5.out hb)); (have HE6 := Aside0.mk (Kd.R_below HE5.out hb)); clear hb hd))
  go_loopw [11] (fun i wr => ∃ k : Nat, k ≤ N ∧ i = .int .i64 (k : Int) ∧ Aside0 (∃ L', L'.length = N ∧ Kd.R KF 41 wr w2.heap.size (fun _ => True) (.slice CA N cc) L') ∧ Aside0 (Kd.R KF 41 wr w3.heap.size (fun _ => True) (.slice DA N dc) ds) ∧ Aside0 (Below w2.heap.size w2 wr)) (fun i _ => N - (intOf i).toNat)
  case atStart => exact ⟨0, Nat.zero_le _, rfl, ⟨bs, HQ3.out.1, HR6.out⟩, HE6, HD6⟩
  case round =>
    obtain ⟨k, hk, rfl, HR, HE, HD⟩ := hrel
    have hkN := HLN.out.2.2.1
    by_cases hlt : k < N
    · have q1 : (k : Int) < (N : Int) := by omega
      have hks : IntKind.i64.wrap ((k : Int) + 1) = (k : Int) + 1 := by rw [IntKind.wrap_i64]; omega
      obtain ⟨L', hL', hR⟩ := HR.out
      obtain ⟨g, c', hv, hgb2, hgl, _⟩ := Kd.R_form hR (by omega)
      simp only [Value.slice.injEq] at hv
      obtain ⟨rfl, hlen_, rfl⟩ := hv
      clear hlen_
      have HCC := Aside0.mk (fl_hcc hR hL' k hlt)
      have HX := Aside0.mk hR
      have HL' := Aside0.mk hL'
      have HNE := Aside0.mk (show some g ≠ (Value.slice DA N dc).ownBlock from fun h9 => by have h1 := HG3.out g rfl; have h2 := HG4.out g h9.symm; omega)
      clear hR hL' HR
      have HK := Aside0.mk hlt
      go_wp2_with ((with_reducible refine gate_ (.store 41 (.tmp 68) (.const (.float .f64 13830554455654793216))) rfl ?_); (refine Kd.R_store KF (w0 := w2) w2.heap.size rfl rfl 41 _ _ rfl 41 (k : Int) 0 _ 13830554455654793216 (.float .f64 13830554455654793216) [.float .f64 13830554455654793216] [.float .f64 (L'.getD k 0)] (fun _ => True) (fun _ => False) rfl ?ho rfl rfl ?ht ?h1 HX.out (by omega) (by (have h2 := HK.out; omega)) rfl HCC.out (by decide) ?hM (fun _ hk => hk.elim) HD.out ?_); (case ho => rw [Int.toNat_natCast]; show k = k * 1 + 0; omega); (case ht => rfl); (case h1 => intro q hq; obtain rfl := List.mem_singleton.1 hq; rfl); (case hM => exact rfl); intro w13 hx3 hb3 hg3; (have HE4 := Aside0.mk (Kd.R_grown1 HE.out rfl hg3 HNE.out)); clear hg3; (have HX3 := Aside0.mk hx3); (have HM3 := Aside0.mk hb3); clear hx3 hb3)
      exact ⟨⟨k + 1, hlt, by go_num, ⟨_, by rw [List.length_set]; exact HL'.out, HX3.out⟩, HE4, HM3⟩, by show N - ((k : Int) + 1).toNat < N - (k : Int).toNat; omega⟩
    · have hkn : k = N := by omega
      subst hkn
      have HSTw := Aside0.mk (HST2.out.at HD.out)
      have z0 := (blk_cell HSTw.out.x 0).trans rfl
      have z1 := (blk_cell HSTw.out.x 1).trans rfl
      have z2 := (blk_cell HSTw.out.x 2).trans rfl
      have HBw := Aside0.mk (below_step HB2.out HD.out)
      go_wp2_with (first
        | (go_at_call 24; (with_reducible refine (HE1.out _ (some ⟨g1, 0, none⟩) k1 (by omega) (take_mk HNA.out HSTw.out.m)).mono ?_); rintro e w7 ⟨EA, ec, es, rfl, hbl, hrel, hR, hb⟩; (have HB7 := Aside0.mk (below_step HBw.out hb)); (have HR7 := Aside0.mk (Kd.R_reads' hR).2.2); (have HQ7 := Aside0.mk (And.intro hbl hrel)); (have HE7 := Aside0.mk (Kd.C_below (Kd.R_reads' HE.out).2.2 hb)); (have HST7 := Aside0.mk (HSTw.out.at hb)); clear hb hR hbl hrel)
        | ((with_reducible refine gate_dst (N := 80) rfl ?_); refine Kd.R_lit KF (w0 := w7) w7.heap.size 41 ?hg (N := 80) ?hd (xs := ([] : List Nat)) (inner := []) (ok := fun _ => True) (okp := fun _ => True) ?hr ?hp (fun _ hk => hk) trivial (Below.refl _ _) (Nat.le_refl _) (by simp) ?_; (case hd => rfl); (case hg => rfl); (case hr => first | (go_simp; done) | (go_simp; rfl)); (case hp => exact (Reps.none _ _)); intro v8 w8 ho hb hg_ hnew_; clear hg_ hnew_; (have HO8 := Aside0.mk ho); (have HB8 := Aside0.mk hb); (have HST8 := Aside0.mk (HST7.out.at hb)); (have z3 := (blk_cell HST8.out.x 3).trans rfl); clear ho hb)
        | ((with_reducible refine gate_builtin (b := .append) (xs := #[.tmp 80, .tmp 82]) rfl ?_); at_builtin; (refine Kd.R_append_rows KF (w0 := w7) w7.heap.size rfl (.tmp 80) (.tmp 82) 55 41 (.float .f64 0) 8 rfl underF floatInfo rfl (by decide) (by omega) v8 [] l3 _ _ _ (fun _ => True) (fun _ => False) rfl rfl ?aO ?aR (fun _ _ h => h) (fun _ h => h.elim) ?aF ?aB ?aS ?aL ?_); (case aR => exact HST8.out.y); (case aB => exact HB8.out); (case aF => exact (fun _ _ => trivial)); (case aO => exact HO8.out); (case aS => exact HB8.out.size); (case aL => have h1 := HLN.out; have h2 := HN3.out; simp; omega); intro v9 w9 ho hb hg hat; clear hg hat; (have HO9 := Aside0.mk ho); (have HB9 := Aside0.mk hb); clear ho hb)
        | ((with_reducible refine gate_builtin (b := .append) (xs := #[.tmp 83, .tmp 84]) rfl ?_); at_builtin; refine Kd.R_append KF (w0 := w7) w7.heap.size rfl (.tmp 83) (.tmp 84) 55 41 (.float .f64 0) 8 rfl underF floatInfo rfl (by decide) (by omega) v9 ([] ++ l3) mkF [.float .f64 4635118810238550016] (fun _ => True) (fun _ => False) rfl rfl ?aP (fun _ hk => hk.elim) ?aF ?aO ?aB ?aS ?aL ?_; (case aP => exact rfl); (case aB => exact HB9.out); (case aF => exact (fun _ _ => trivial)); (case aO => exact HO9.out); (case aS => exact HB9.out.size); (case aL => have h1 := HLN.out; have h2 := HN3.out; simp; omega); intro v10 w10 ho hb hg_ hat; clear hg_ hat; (obtain ⟨g5, k5, hv, hb4, hg4, _⟩ := Kd.R_form ho (by simp)); (rw [show (([] : List Nat) ++ l3 ++ [mkF]).length = n3 + 1 from by have h9 := HN3.out; simp [h9]] at hv); subst hv; (have hrd := (Kd.R_reads' ho).2); (have HL10 := Aside0.mk (show Kd.C KF w10 (some ⟨g5, 0, none⟩) (n3 + 1) (l3 ++ [mkF]) from by (have h := hrd.2; rw [show (([] : List Nat) ++ l3 ++ [mkF]).length = n3 + 1 from by have h9 := HN3.out; simp [h9]] at h; exact h))); (have hroom : (n3 : Int) ≤ (k5 : Int) := by have h9 := HN3.out; have h8 := hrd.1; (try simp at h8); omega); (have hroom2 : n3 ≤ k5 := by omega); (have HST10 := Aside0.mk (HST7.out.at hb)); (have z3 := (blk_cell HST10.out.x 3).trans rfl); (have HR10 := Aside0.mk (Kd.C_below HR7.out hb)); (have HE10 := Aside0.mk (Kd.C_below HE7.out hb)); (have HB10 := Aside0.mk (below_step HB7.out hb)); clear ho hb hb4 hg4 hrd)
        | (go_at_call 27; (with_reducible refine (HP1.out _ (some ⟨g5, 0, none⟩) k5 (take_mkF HN3.out HL10.out)).mono ?_); rintro e w11 ⟨rfl, hb⟩; (have HB11 := Aside0.mk (below_step HB10.out hb)); (have HD11 := Aside0.mk hb); (have HST11 := Aside0.mk (HST10.out.at hb)); (have z3 := (blk_cell HST11.out.x 3).trans rfl); clear hb)
        | (go_at_call 28; (with_reducible refine (HP2.out _ A3 c3 HST11.out.y).mono ?_); rintro e w12 ⟨rfl, hb⟩; (have HB12 := Aside0.mk (below_step HB11.out hb)); (have HD12 := Aside0.mk (below_step HD11.out hb)); clear hb))
      have o2 : FloatKind.f64.format.order 4635118810238550016 4635118810238550016 = some Ordering.eq := by decide +kernel
      have hgm : (l3 ++ [mkF]).getD n3 0 = mkF := by have h9 := HN3.out; rw [List.getD_eq_getElem?_getD, List.getElem?_append_right (by omega), h9, Nat.sub_self]; rfl
      have HGM := Aside0.mk hgm
      have q77 : (n3 : Int) < (n3 : Int) + 1 := by omega
      clear hgm
      refine start_ (n := 36) (S := fun w' => Below w10.heap.size w10 w') (ds := []) #[false, false, false, false, false, false, false, false, false, false, false, false, false, false, false, false, false, false, false, false, false, false, false, false, false, false, false, false, false, false, false, false, false, false, false, false] (by kernel_rfl) rfl rfl (HD12.out.drew) (fun hHeld => ?_)
      generalize w12.drew = w13 at hHeld ⊢
      refine pure_ (i := 0) (N := some 101) (v := ?_) (a' := ?_) #[true, false, false, false, false, false, false, false, false, false, false, false, false, false, false, false, false, false, false, false, false, false, false, false, false, false, false, false, false, false, false, false, false, false, false, false] rfl rfl (by kernel_rfl) (fun _ _ _ h => h) (Or.inl ⟨by rfl, ?_⟩) ?_ ?_
      rotate_left
      · intro w'
        go_simp
        with_reducible rfl
      rotate_left
      · (try show Act.put _ _ _ = _); simp only [Act.put, List.setIfInBounds_toArray, List.set_cons_zero, List.set_cons_succ, i64_w, i32_w]
        rfl
      refine pure_ (i := 1) (N := some 102) (v := ?_) (a' := ?_) #[true, true, false, false, false, false, false, false, false, false, false, false, false, false, false, false, false, false, false, false, false, false, false, false, false, false, false, false, false, false, false, false, false, false, false, false] rfl rfl (by kernel_rfl) (fun _ _ _ h => h) (Or.inl ⟨by rfl, ?_⟩) ?_ ?_
      rotate_left
      · intro w'
        go_simp
        with_reducible rfl
      rotate_left
      · (try show Act.put _ _ _ = _); simp only [Act.put, List.setIfInBounds_toArray, List.set_cons_zero, List.set_cons_succ, i64_w, i32_w]
        rfl
      refine one_ (i := 2) (N := some 103) #[true, true, true, false, false, false, false, false, false, false, false, false, false, false, false, false, false, false, false, false, false, false, false, false, false, false, false, false, false, false, false, false, false, false, false, false] rfl rfl (by kernel_rfl) (by decide) (fun K hK => ?_)
      refine goes_ Try.func26 (by kernel_rfl) rfl #[.slice EA k ec, .slice DA k dc] (by rfl) rfl rfl (by (try simp only [List.map_toArray, List.map_cons, List.map_nil]); first | done | rfl) ?_
      refine (floats_calls EA DA ec dc k es ds _ (by (have h := Kd.C_below HR10.out hHeld; rw [HQ7.out.1] at h; exact h)) (by (have h := Kd.C_below HE10.out hHeld; rw [HQ4.out.1] at h; exact h)) (fun i hi => same_rel (HQ7.out.2 i hi) (HQ4.out.2 i hi)) (by (have h := HLN.out.2.2.1; omega))).mono ?_
      rintro e w' ⟨rfl, hd⟩
      refine ⟨_, rfl, ?_⟩
      have hHeld2 := below_step hHeld (below_of_drew hd)
      clear hd hHeld
      refine hK.out _ _ (hHeld2) (fun hHeld => ?_)
      clear hK K
      refine norm_ (a' := ?_) ?_ ?_
      rotate_left
      · show Act.put _ (some 103) _ = _
        simp only [Act.put, List.setIfInBounds_toArray, List.set_cons_zero, List.set_cons_succ, i64_w, i32_w]
        rfl
      refine pure_ (i := 3) (N := some 104) (v := ?_) (a' := ?_) #[true, true, true, true, false, false, false, false, false, false, false, false, false, false, false, false, false, false, false, false, false, false, false, false, false, false, false, false, false, false, false, false, false, false, false, false] rfl rfl (by kernel_rfl) (fun _ _ _ h => h) (Or.inl ⟨by rfl, ?_⟩) ?_ ?_
      rotate_left
      · intro w'
        go_simp
        with_reducible rfl
      rotate_left
      · (try show Act.put _ _ _ = _); simp only [Act.put, List.setIfInBounds_toArray, List.set_cons_zero, List.set_cons_succ, i64_w, i32_w]
        rfl
      refine pure_ (i := 4) (N := some 105) (v := ?_) (a' := ?_) #[true, true, true, true, true, false, false, false, false, false, false, false, false, false, false, false, false, false, false, false, false, false, false, false, false, false, false, false, false, false, false, false, false, false, false, false] rfl rfl (by kernel_rfl) (fun _ _ _ h => h) (Or.inl ⟨by rfl, ?_⟩) ?_ ?_
      rotate_left
      · intro w'
        go_simp
        with_reducible rfl
      rotate_left
      · (try show Act.put _ _ _ = _); simp only [Act.put, List.setIfInBounds_toArray, List.set_cons_zero, List.set_cons_succ, i64_w, i32_w]
        rfl
      refine pure_ (i := 5) (N := some 106) (v := ?_) (a' := ?_) #[true, true, true, true, true, true, false, false, false, false, false, false, false, false, false, false, false, false, false, false, false, false, false, false, false, false, false, false, false, false, false, false, false, false, false, false] rfl rfl (by kernel_rfl) (fun _ _ _ h => h) (Or.inl ⟨by rfl, ?_⟩) ?_ ?_
      rotate_left
      · intro w'
        go_simp
        with_reducible rfl
      rotate_left
      · (try show Act.put _ _ _ = _); simp only [Act.put, List.setIfInBounds_toArray, List.set_cons_zero, List.set_cons_succ, i64_w, i32_w]
        rfl
      refine pure_ (i := 6) (N := some 107) (v := ?_) (a' := ?_) #[true, true, true, true, true, true, true, false, false, false, false, false, false, false, false, false, false, false, false, false, false, false, false, false, false, false, false, false, false, false, false, false, false, false, false, false] rfl rfl (by kernel_rfl) (fun _ _ _ h => h) (Or.inl ⟨by rfl, ?_⟩) ?_ ?_
      rotate_left
      · intro w'
        go_simp
        with_reducible rfl
      rotate_left
      · (try show Act.put _ _ _ = _); simp only [Act.put, List.setIfInBounds_toArray, List.set_cons_zero, List.set_cons_succ, i64_w, i32_w]
        rfl
      refine pure_ (i := 7) (N := some 108) (v := ?_) (a' := ?_) #[true, true, true, true, true, true, true, true, false, false, false, false, false, false, false, false, false, false, false, false, false, false, false, false, false, false, false, false, false, false, false, false, false, false, false, false] rfl rfl (by kernel_rfl) (fun _ _ _ h => h) (Or.inl ⟨by rfl, ?_⟩) ?_ ?_
      rotate_left
      · intro w'
        go_simp
        with_reducible rfl
      rotate_left
      · (try show Act.put _ _ _ = _); simp only [Act.put, List.setIfInBounds_toArray, List.set_cons_zero, List.set_cons_succ, i64_w, i32_w]
        rfl
      refine pure_ (i := 8) (N := some 109) (v := ?_) (a' := ?_) #[true, true, true, true, true, true, true, true, true, false, false, false, false, false, false, false, false, false, false, false, false, false, false, false, false, false, false, false, false, false, false, false, false, false, false, false] rfl rfl (by kernel_rfl) (fun _ _ _ h => h) (Or.inl ⟨by rfl, ?_⟩) ?_ ?_
      rotate_left
      · intro w'
        go_simp
        with_reducible rfl
      rotate_left
      · (try show Act.put _ _ _ = _); simp only [Act.put, List.setIfInBounds_toArray, List.set_cons_zero, List.set_cons_succ, i64_w, i32_w]
        rfl
      refine pure_ (i := 9) (N := some 110) (v := ?_) (a' := ?_) #[true, true, true, true, true, true, true, true, true, true, false, false, false, false, false, false, false, false, false, false, false, false, false, false, false, false, false, false, false, false, false, false, false, false, false, false] rfl rfl (by kernel_rfl) (fun _ _ _ h => h) (Or.inl ⟨by rfl, ?_⟩) ?_ ?_
      rotate_left
      · intro w'
        go_simp
        with_reducible rfl
      rotate_left
      · (try show Act.put _ _ _ = _); simp only [Act.put, List.setIfInBounds_toArray, List.set_cons_zero, List.set_cons_succ, i64_w, i32_w]
        rfl
      refine pure_ (i := 10) (N := some 111) (v := ?_) (a' := ?_) #[true, true, true, true, true, true, true, true, true, true, true, false, false, false, false, false, false, false, false, false, false, false, false, false, false, false, false, false, false, false, false, false, false, false, false, false] rfl rfl (by kernel_rfl) (fun _ _ _ h => h) (Or.inl ⟨by rfl, ?_⟩) ?_ ?_
      rotate_left
      · intro w'
        go_simp
        with_reducible rfl
      rotate_left
      · (try show Act.put _ _ _ = _); simp only [Act.put, List.setIfInBounds_toArray, List.set_cons_zero, List.set_cons_succ, i64_w, i32_w]
        rfl
      refine pure_ (i := 11) (N := some 112) (v := ?_) (a' := ?_) #[true, true, true, true, true, true, true, true, true, true, true, true, false, false, false, false, false, false, false, false, false, false, false, false, false, false, false, false, false, false, false, false, false, false, false, false] rfl rfl (by kernel_rfl) (fun _ _ _ h => h) (Or.inl ⟨by rfl, ?_⟩) ?_ ?_
      rotate_left
      · intro w'
        go_simp
        with_reducible rfl
      rotate_left
      · (try show Act.put _ _ _ = _); simp only [Act.put, List.setIfInBounds_toArray, List.set_cons_zero, List.set_cons_succ, i64_w, i32_w]
        rfl
      refine pure_ (i := 12) (N := some 113) (v := ?_) (a' := ?_) #[true, true, true, true, true, true, true, true, true, true, true, true, true, false, false, false, false, false, false, false, false, false, false, false, false, false, false, false, false, false, false, false, false, false, false, false] rfl rfl (by kernel_rfl) (fun _ _ _ h => h) (Or.inl ⟨by rfl, ?_⟩) ?_ ?_
      rotate_left
      · intro w'
        go_simp
        with_reducible rfl
      rotate_left
      · (try show Act.put _ _ _ = _); simp only [Act.put, List.setIfInBounds_toArray, List.set_cons_zero, List.set_cons_succ, i64_w, i32_w]
        rfl
      refine pure_ (i := 13) (N := some 114) (v := ?_) (a' := ?_) #[true, true, true, true, true, true, true, true, true, true, true, true, true, true, false, false, false, false, false, false, false, false, false, false, false, false, false, false, false, false, false, false, false, false, false, false] rfl rfl (by kernel_rfl) (fun _ _ _ h => h) (Or.inl ⟨by rfl, ?_⟩) ?_ ?_
      rotate_left
      · intro w'
        go_simp
        with_reducible rfl
      rotate_left
      · (try show Act.put _ _ _ = _); simp only [Act.put, List.setIfInBounds_toArray, List.set_cons_zero, List.set_cons_succ, i64_w, i32_w]
        rfl
      refine pure_ (i := 14) (N := some 115) (v := ?_) (a' := ?_) #[true, true, true, true, true, true, true, true, true, true, true, true, true, true, true, false, false, false, false, false, false, false, false, false, false, false, false, false, false, false, false, false, false, false, false, false] rfl rfl (by kernel_rfl) (fun _ _ _ h => h) (Or.inl ⟨by rfl, ?_⟩) ?_ ?_
      rotate_left
      · intro w'
        go_simp
        with_reducible rfl
      rotate_left
      · (try show Act.put _ _ _ = _); simp only [Act.put, List.setIfInBounds_toArray, List.set_cons_zero, List.set_cons_succ, i64_w, i32_w]
        rfl
      refine pure_ (i := 15) (N := some 116) (v := ?_) (a' := ?_) #[true, true, true, true, true, true, true, true, true, true, true, true, true, true, true, true, false, false, false, false, false, false, false, false, false, false, false, false, false, false, false, false, false, false, false, false] rfl rfl (by kernel_rfl) (fun _ _ _ h => h) (Or.inl ⟨by rfl, ?_⟩) ?_ ?_
      rotate_left
      · intro w'
        go_simp
        with_reducible rfl
      rotate_left
      · (try show Act.put _ _ _ = _); simp only [Act.put, List.setIfInBounds_toArray, List.set_cons_zero, List.set_cons_succ, i64_w, i32_w]
        rfl
      refine pure_ (i := 19) (N := some 120) (v := ?_) (a' := ?_) #[true, true, true, true, true, true, true, true, true, true, true, true, true, true, true, true, false, false, false, true, false, false, false, false, false, false, false, false, false, false, false, false, false, false, false, false] rfl rfl (by kernel_rfl) (fun _ _ _ h => h) (Or.inl ⟨by rfl, ?_⟩) ?_ ?_
      rotate_left
      · intro w'
        go_simp
        with_reducible rfl
      rotate_left
      · (try show Act.put _ _ _ = _); simp only [Act.put, List.setIfInBounds_toArray, List.set_cons_zero, List.set_cons_succ, i64_w, i32_w]
        rfl
      refine take_ (i := 16) (N := some 117) (v := ?_) (a' := ?_) #[true, true, true, true, true, true, true, true, true, true, true, true, true, true, true, true, true, false, false, true, false, false, false, false, false, false, false, false, false, false, false, false, false, false, false, false] rfl rfl (by kernel_rfl) (fun _ _ _ h => h) (Or.inl ⟨by rfl, ?_⟩) hHeld ?_ ?_
      rotate_left
      · intro w' hS_
        have z3 := (blk_cell (HST10.out.at hS_).x 3).trans rfl
        obtain ⟨ad_, ha_, zl⟩ := fl_at (Kd.C_below HL10.out hS_) n3 (by omega)
        cases ha_
        rw [HGM.out, add_zero_form] at zl
        go_simp
        with_reducible rfl
      rotate_left
      · (try show Act.put _ _ _ = _); simp only [Act.put, List.setIfInBounds_toArray, List.set_cons_zero, List.set_cons_succ, i64_w, i32_w]
        rfl
      refine pure_ (i := 17) (N := some 118) (v := ?_) (a' := ?_) #[true, true, true, true, true, true, true, true, true, true, true, true, true, true, true, true, true, true, false, true, false, false, false, false, false, false, false, false, false, false, false, false, false, false, false, false] rfl rfl (by kernel_rfl) (fun _ _ _ h => h) (Or.inl ⟨by rfl, ?_⟩) ?_ ?_
      rotate_left
      · intro w'
        go_simp
        with_reducible rfl
      rotate_left
      · (try show Act.put _ _ _ = _); simp only [Act.put, List.setIfInBounds_toArray, List.set_cons_zero, List.set_cons_succ, i64_w, i32_w]
        rfl
      refine pure_ (i := 18) (N := some 119) (v := ?_) (a' := ?_) #[true, true, true, true, true, true, true, true, true, true, true, true, true, true, true, true, true, true, true, true, false, false, false, false, false, false, false, false, false, false, false, false, false, false, false, false] rfl rfl (by kernel_rfl) (fun _ _ _ h => h) (Or.inl ⟨by rfl, ?_⟩) ?_ ?_
      rotate_left
      · intro w'
        go_simp
        with_reducible rfl
      rotate_left
      · (try show Act.put _ _ _ = _); simp only [Act.put, List.setIfInBounds_toArray, List.set_cons_zero, List.set_cons_succ, i64_w, i32_w]
        rfl
      refine take_ (i := 20) (N := some 121) (v := ?_) (a' := ?_) #[true, true, true, true, true, true, true, true, true, true, true, true, true, true, true, true, true, true, true, true, true, false, false, false, false, false, false, false, false, false, false, false, false, false, false, false] rfl rfl (by kernel_rfl) (fun _ _ _ h => h) (Or.inl ⟨by rfl, ?_⟩) hHeld ?_ ?_
      rotate_left
      · intro w' hS_
        have z3 := (blk_cell (HST10.out.at hS_).x 3).trans rfl
        obtain ⟨ad_, ha_, zl⟩ := fl_at (Kd.C_below HL10.out hS_) n3 (by omega)
        cases ha_
        rw [HGM.out, add_zero_form] at zl
        go_simp
        with_reducible rfl
      rotate_left
      · (try show Act.put _ _ _ = _); simp only [Act.put, List.setIfInBounds_toArray, List.set_cons_zero, List.set_cons_succ, i64_w, i32_w]
        rfl
      refine one_ (i := 21) (N := some 122) #[true, true, true, true, true, true, true, true, true, true, true, true, true, true, true, true, true, true, true, true, true, true, false, false, false, false, false, false, false, false, false, false, false, false, false, false] rfl rfl (by kernel_rfl) (by decide) (fun K hK => ?_)
      refine goes_ Try.func26 (by kernel_rfl) rfl #[.slice (some ⟨g5, 0, none⟩) n3 k5, .slice A3 n3 c3] (by rfl) rfl rfl (by (try simp only [List.map_toArray, List.map_cons, List.map_nil]); first | done | rfl) ?_
      refine (floats_calls (some ⟨g5, 0, none⟩) A3 k5 c3 n3 l3 l3 _ (take_mkF HN3.out (Kd.C_below HL10.out hHeld)) (HST10.out.at hHeld).y (fun i _ => same_refl _) HLN.out.2.2.2.2).mono ?_
      rintro e w' ⟨rfl, hd⟩
      refine ⟨_, rfl, ?_⟩
      have hHeld2 := below_step hHeld (below_of_drew hd)
      clear hd hHeld
      refine hK.out _ _ (hHeld2) (fun hHeld => ?_)
      clear hK K
      refine norm_ (a' := ?_) ?_ ?_
      rotate_left
      · show Act.put _ (some 122) _ = _
        simp only [Act.put, List.setIfInBounds_toArray, List.set_cons_zero, List.set_cons_succ, i64_w, i32_w]
        rfl
      refine pure_ (i := 22) (N := some 123) (v := ?_) (a' := ?_) #[true, true, true, true, true, true, true, true, true, true, true, true, true, true, true, true, true, true, true, true, true, true, true, false, false, false, false, false, false, false, false, false, false, false, false, false] rfl rfl (by kernel_rfl) (fun _ _ _ h => h) (Or.inl ⟨by rfl, ?_⟩) ?_ ?_
      rotate_left
      · intro w'
        go_simp
        with_reducible rfl
      rotate_left
      · (try show Act.put _ _ _ = _); simp only [Act.put, List.setIfInBounds_toArray, List.set_cons_zero, List.set_cons_succ, i64_w, i32_w]
        rfl
      refine pure_ (i := 23) (N := some 124) (v := ?_) (a' := ?_) #[true, true, true, true, true, true, true, true, true, true, true, true, true, true, true, true, true, true, true, true, true, true, true, true, false, false, false, false, false, false, false, false, false, false, false, false] rfl rfl (by kernel_rfl) (fun _ _ _ h => h) (Or.inl ⟨by rfl, ?_⟩) ?_ ?_
      rotate_left
      · intro w'
        go_simp
        with_reducible rfl
      rotate_left
      · (try show Act.put _ _ _ = _); simp only [Act.put, List.setIfInBounds_toArray, List.set_cons_zero, List.set_cons_succ, i64_w, i32_w]
        rfl
      refine pure_ (i := 24) (N := some 125) (v := ?_) (a' := ?_) #[true, true, true, true, true, true, true, true, true, true, true, true, true, true, true, true, true, true, true, true, true, true, true, true, true, false, false, false, false, false, false, false, false, false, false, false] rfl rfl (by kernel_rfl) (fun _ _ _ h => h) (Or.inl ⟨by rfl, ?_⟩) ?_ ?_
      rotate_left
      · intro w'
        go_simp
        with_reducible rfl
      rotate_left
      · (try show Act.put _ _ _ = _); simp only [Act.put, List.setIfInBounds_toArray, List.set_cons_zero, List.set_cons_succ, i64_w, i32_w]
        rfl
      refine pure_ (i := 25) (N := some 126) (v := ?_) (a' := ?_) #[true, true, true, true, true, true, true, true, true, true, true, true, true, true, true, true, true, true, true, true, true, true, true, true, true, true, false, false, false, false, false, false, false, false, false, false] rfl rfl (by kernel_rfl) (fun _ _ _ h => h) (Or.inl ⟨by rfl, ?_⟩) ?_ ?_
      rotate_left
      · intro w'
        go_simp
        with_reducible rfl
      rotate_left
      · (try show Act.put _ _ _ = _); simp only [Act.put, List.setIfInBounds_toArray, List.set_cons_zero, List.set_cons_succ, i64_w, i32_w]
        rfl
      refine take_ (i := 26) (N := some 127) (v := ?_) (a' := ?_) #[true, true, true, true, true, true, true, true, true, true, true, true, true, true, true, true, true, true, true, true, true, true, true, true, true, true, true, false, false, false, false, false, false, false, false, false] rfl rfl (by kernel_rfl) (fun _ _ _ h => h) (Or.inl ⟨by rfl, ?_⟩) hHeld ?_ ?_
      rotate_left
      · intro w' hS_
        have z3 := (blk_cell (HST10.out.at hS_).x 3).trans rfl
        obtain ⟨ad_, ha_, zl⟩ := fl_at (Kd.C_below HL10.out hS_) n3 (by omega)
        cases ha_
        rw [HGM.out, add_zero_form] at zl
        go_simp
        with_reducible rfl
      rotate_left
      · (try show Act.put _ _ _ = _); simp only [Act.put, List.setIfInBounds_toArray, List.set_cons_zero, List.set_cons_succ, i64_w, i32_w]
        rfl
      refine pure_ (i := 27) (N := some 128) (v := ?_) (a' := ?_) #[true, true, true, true, true, true, true, true, true, true, true, true, true, true, true, true, true, true, true, true, true, true, true, true, true, true, true, true, false, false, false, false, false, false, false, false] rfl rfl (by kernel_rfl) (fun _ _ _ h => h) (Or.inl ⟨by rfl, ?_⟩) ?_ ?_
      rotate_left
      · intro w'
        go_simp
        with_reducible rfl
      rotate_left
      · (try show Act.put _ _ _ = _); simp only [Act.put, List.setIfInBounds_toArray, List.set_cons_zero, List.set_cons_succ, i64_w, i32_w]
        rfl
      refine pure_ (i := 28) (N := some 129) (v := ?_) (a' := ?_) #[true, true, true, true, true, true, true, true, true, true, true, true, true, true, true, true, true, true, true, true, true, true, true, true, true, true, true, true, true, false, false, false, false, false, false, false] rfl rfl (by kernel_rfl) (fun _ _ _ h => h) (Or.inl ⟨by rfl, ?_⟩) ?_ ?_
      rotate_left
      · intro w'
        go_simp
        with_reducible rfl
      rotate_left
      · (try show Act.put _ _ _ = _); simp only [Act.put, List.setIfInBounds_toArray, List.set_cons_zero, List.set_cons_succ, i64_w, i32_w]
        rfl
      refine take_ (i := 29) (N := some 130) (v := ?_) (a' := ?_) #[true, true, true, true, true, true, true, true, true, true, true, true, true, true, true, true, true, true, true, true, true, true, true, true, true, true, true, true, true, true, false, false, false, false, false, false] rfl rfl (by kernel_rfl) (fun _ _ _ h => h) (Or.inl ⟨by rfl, ?_⟩) hHeld ?_ ?_
      rotate_left
      · intro w' hS_
        have z3 := (blk_cell (HST10.out.at hS_).x 3).trans rfl
        obtain ⟨ad_, ha_, zl⟩ := fl_at (Kd.C_below HL10.out hS_) n3 (by omega)
        cases ha_
        rw [HGM.out, add_zero_form] at zl
        go_simp
        with_reducible rfl
      rotate_left
      · (try show Act.put _ _ _ = _); simp only [Act.put, List.setIfInBounds_toArray, List.set_cons_zero, List.set_cons_succ, i64_w, i32_w]
        rfl
      refine pure_ (i := 30) (N := some 131) (v := ?_) (a' := ?_) #[true, true, true, true, true, true, true, true, true, true, true, true, true, true, true, true, true, true, true, true, true, true, true, true, true, true, true, true, true, true, true, false, false, false, false, false] rfl rfl (by kernel_rfl) (fun _ _ _ h => h) (Or.inl ⟨by rfl, ?_⟩) ?_ ?_
      rotate_left
      · intro w'
        go_simp
        with_reducible rfl
      rotate_left
      · (try show Act.put _ _ _ = _); simp only [Act.put, List.setIfInBounds_toArray, List.set_cons_zero, List.set_cons_succ, i64_w, i32_w]
        rfl
      refine pure_ (i := 31) (N := some 132) (v := ?_) (a' := ?_) #[true, true, true, true, true, true, true, true, true, true, true, true, true, true, true, true, true, true, true, true, true, true, true, true, true, true, true, true, true, true, true, true, false, false, false, false] rfl rfl (by kernel_rfl) (fun _ _ _ h => h) (Or.inl ⟨by rfl, ?_⟩) ?_ ?_
      rotate_left
      · intro w'
        go_simp
        with_reducible rfl
      rotate_left
      · (try show Act.put _ _ _ = _); simp only [Act.put, List.setIfInBounds_toArray, List.set_cons_zero, List.set_cons_succ, i64_w, i32_w]
        rfl
      refine pure_ (i := 32) (N := some 133) (v := ?_) (a' := ?_) #[true, true, true, true, true, true, true, true, true, true, true, true, true, true, true, true, true, true, true, true, true, true, true, true, true, true, true, true, true, true, true, true, true, false, false, false] rfl rfl (by kernel_rfl) (fun _ _ _ h => h) (Or.inl ⟨by rfl, ?_⟩) ?_ ?_
      rotate_left
      · intro w'
        go_simp
        with_reducible rfl
      rotate_left
      · (try show Act.put _ _ _ = _); simp only [Act.put, List.setIfInBounds_toArray, List.set_cons_zero, List.set_cons_succ, i64_w, i32_w]
        rfl
      refine one_ (i := 33) (N := some 134) #[true, true, true, true, true, true, true, true, true, true, true, true, true, true, true, true, true, true, true, true, true, true, true, true, true, true, true, true, true, true, true, true, true, true, false, false] rfl rfl (by kernel_rfl) (by decide) (fun K hK => ?_)
      refine goes_ Try.func12 (by kernel_rfl) rfl #[] (by rfl) rfl rfl (by (try simp only [List.map_toArray, List.map_cons, List.map_nil]); first | done | rfl) ?_
      refine (awake_calls _).mono ?_
      rintro e w' ⟨rfl, hb⟩
      refine ⟨_, rfl, ?_⟩
      have hHeld2 := below_step hHeld hb
      clear hb hHeld
      refine hK.out _ _ (hHeld2) (fun hHeld => ?_)
      clear hK K
      refine norm_ (a' := ?_) ?_ ?_
      rotate_left
      · show Act.put _ (some 134) _ = _
        simp only [Act.put, List.setIfInBounds_toArray, List.set_cons_zero, List.set_cons_succ, i64_w, i32_w]
        rfl
      refine pure_ (i := 34) (N := some 135) (v := ?_) (a' := ?_) #[true, true, true, true, true, true, true, true, true, true, true, true, true, true, true, true, true, true, true, true, true, true, true, true, true, true, true, true, true, true, true, true, true, true, true, false] rfl rfl (by kernel_rfl) (fun _ _ _ h => h) (Or.inl ⟨by rfl, ?_⟩) ?_ ?_
      rotate_left
      · intro w'
        go_simp
        with_reducible rfl
      rotate_left
      · (try show Act.put _ _ _ = _); simp only [Act.put, List.setIfInBounds_toArray, List.set_cons_zero, List.set_cons_succ, i64_w, i32_w]
        rfl
      refine pure_ (i := 35) (N := some 4) (v := ?_) (a' := ?_) #[true, true, true, true, true, true, true, true, true, true, true, true, true, true, true, true, true, true, true, true, true, true, true, true, true, true, true, true, true, true, true, true, true, true, true, true] rfl rfl (by kernel_rfl) (fun _ _ _ h => h) (Or.inl ⟨by rfl, ?_⟩) ?_ ?_
      rotate_left
      · intro w'
        go_simp
        with_reducible rfl
      rotate_left
      · (try show Act.put _ _ _ = _); simp only [Act.put, List.setIfInBounds_toArray, List.set_cons_zero, List.set_cons_succ, i64_w, i32_w]
        rfl
      refine done_ (by kernel_rfl) ?_
      try go_wp2
      go_ret
      exact ⟨rfl, below_step HB10.out hHeld⟩
theorem TempoPhases_walk (p F cnt : Int) (A3 : Option Addr) (c3 : Nat) (l3 : List Nat) (A1 : Option Addr) (c1 : Nat) (l1 : List Prt) (w : World) (w0 : (Lit.int .i64 p).wf = true) (w1 : (Lit.int .i64 F).wf = true) (w2 : (Lit.int .i64 cnt).wf = true)
    (hr3 : Kd.C KF w A3 l3.length l3) (hc3 : l3.length ≤ c3) (hy3 : l3.length * 8 ≤ 140737488351232) (hg3 : ∀ y ∈ l3, (Lit.float .f64 y).wf = true) (hr1 : Kd.C KP w A1 l1.length l1) (hc1 : l1.length ≤ c1) (hy1 : l1.length * 24 ≤ 140737488351232) (hg1 : ∀ y ∈ l1, (Lit.float .f64 y.1).wf = true ∧ (Lit.float .f64 y.2.1).wf = true) :
    Calls Try.prog 7 #[.agg #[.int .i64 p, .int .i64 F, .int .i64 cnt, .slice A3 l3.length c3], .slice A1 l1.length c1] w fun e w' => e = .returned (.bool true) ∧ Below w.heap.size w w' :=
  phases_walk p F cnt A3 c3 l3.length l3 A1 c1 l1.length l1 w rfl hr1 hy1 rfl hr3 hy3
end Go.Proofs.Ytjhapibelhakdaa.Pure
