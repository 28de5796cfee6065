/- PointsBack: any bits, any set: the row of points, and the bits again. -/
import Derived.Test.YtopmlhihfchdhaaFogx0
import Derived.Test.YtopmlhihfchdhaaFogx6
import Derived.Test.YtopmlhihfchdhaaWorks
import Derived.Test.YtopmlhihfchdhaaBack
namespace Go.Proofs.Ytopmlhihfchdhaa.Pure
open Go.RowKit Go.Proofs.Ytopmlhihfchdhaa.Fog Go.Proofs.YtopmlhihfchdhaaW.PrintWords Go.Proofs.YtopmlhihfchdhaaW.PrintLast Go.Proofs.YtopmlhihfchdhaaW.PrintMore Go.Proofs.Ytopmlhihfchdhaa.Kit
set_option linter.unusedVariables false
set_option linter.unusedSimpArgs false
theorem same_l0 (l : List Bool) (hl : l.length ≤ 9223372036854775806) : ∀ (d i : Nat), i + d = l.length → Ev (fun k => foghornlaw04_sameBits.l0 k l l (i : Int)) true
  | 0, i, h => by
    refine Ev.step (fun k => by simp only [foghornlaw04_sameBits.l0]; rfl) ?_
    exact Ev.ifn (by omega) (Ev.now _)
  | d + 1, i, h => by
    refine Ev.step (fun k => by simp only [foghornlaw04_sameBits.l0]; rfl) ?_
    refine Ev.ifp (by omega) (Ev.ifp (by omega) (Ev.ifp (by omega) (Ev.ifn (by simp) ?_)))
    rw [show ((i : Int) + 1) = ((i + 1 : Nat) : Int) by omega, w64n (by omega)]
    exact same_l0 l hl d (i + 1) (by omega)
theorem same_n (A : Option Addr) (c : Nat) (B : Option Addr) (d n : Nat) (l : List Bool) (w : World) (hn : l.length = n) (h1 : Kd.C Kd.bool w A n l) (hc : n ≤ c) (h2 : Kd.C Kd.bool w B n l) (hd : n ≤ d) (hl : n ≤ 9223372036854775806) :
    Calls Try.prog 36 #[.slice A n c, .slice B n d] w fun e w' => e = .returned (.bool true) ∧ Below w.heap.size w w' := by
  subst hn
  have he : Ev (fun k => foghornlaw04_sameBits.f k l l) true := by
    unfold foghornlaw04_sameBits.f
    refine Ev.ifp rfl ?_
    exact same_l0 l hl l.length 0 (by omega)
  obtain ⟨k, hk⟩ := he.rounds
  refine (foghornlaw04_sameBits.calls k A c l B d l true w h1 hc h2 hd hk).mono ?_
  rintro e w' ⟨rfl, ⟨nd, rfl⟩⟩
  exact ⟨rfl, pw_below_drewN (Below.refl _ _) _⟩
theorem bool_at {w : World} {A : Option Addr} {n : Nat} {l : List Bool} (h : Kd.C Kd.bool w A n l) (i : Nat) (hi : i < n) : ∃ ad, A = some ad ∧ w.cell? (ad.add i) = some (.bool (l.getD i false)) := by
  have hl : l.length = n := h.1
  obtain ⟨ad, rfl, hc⟩ := h.2.2 (by omega)
  have hg : l[i]? = some (l.getD i false) := by
    rw [List.getD_eq_getElem?_getD, List.getElem?_eq_getElem (by omega)]; rfl
  obtain ⟨cs, hcl, hK, hcell⟩ := hc i _ hg
  have e : cs = [.bool (l.getD i false)] := hK
  subst e
  have h0 := hcell 0 _ rfl
  have e1 : i * Kd.bool.sz + 0 = i := by show i * 1 + 0 = i; omega
  rw [e1] at h0
  exact ⟨ad, rfl, h0⟩
theorem blk_stay {w w' : World} {a : Addr} {v : Value} (h : w.cell? a = some v) (hb : Below w.heap.size w w') : w'.cell? a = some v := by
  by_cases hl : a.block < w.heap.size
  · exact (hb.cell hl).trans h
  · have e : w.heap[a.block]? = none := by simp; omega
    unfold World.cell? at h
    simp [e] at h
theorem wr_ok {x y : Int} (h : x = y) (h1 : 0 ≤ y ∧ y ≤ 140737488355328) : IntKind.i64.wrap x = y ∧ wrap64 x = y := by
  subst h
  exact ⟨by rw [IntKind.wrap_i64]; omega, by unfold wrap64; omega⟩
theorem labV_pt (n i : Nat) (h : isSz n) (hi : i < n) : labV n (zAt n i) = i := by
  have hl := labV_le n (zAt n i)
  rcases Nat.lt_trichotomy (labV n (zAt n i)) i with h1 | h1 | h1
  · have h2 := labV_yes n (zAt n i) (by omega)
    rw [hit_pt n i _ h hi (by omega)] at h2
    exact (of_decide_eq_true h2).symm
  · exact h1
  · have h2 := labV_no n (zAt n i) i h1
    rw [hit_pt n i i h hi hi] at h2
    exact absurd rfl (of_decide_eq_false h2)
/-- A row of words' points: the bits again. -/
theorem back_row (n b : Nat) (h : isSz n) (hb : szB n = (b : Int)) (hb1 : 1 ≤ b) (hb2 : b ≤ 8) (l : List Bool) (q : Nat) (hl : l.length = q * b) (h3 : l.length ≤ 32768) :
    wordsV l (b : Int) = ((List.range q).map (wordK l b), 0) ∧ backV n (rowP n ((List.range q).map (wordK l b))) = (l, 0) ∧ ∀ i, i < q → ∃ v : Nat, wordK l b i = (v : Int) ∧ v < n := by
  have hq : l.length / b = q := by rw [hl]; exact Nat.mul_div_cancel _ (by omega)
  have hw : wordsV l (b : Int) = ((List.range q).map (wordK l b), 0) := by
    unfold wordsV
    rw [if_pos ⟨by omega, by omega, h3, by rw [Int.toNat_natCast, hl]; exact Nat.mul_mod_left _ _⟩, Int.toNat_natCast, hq]
  have hs := words_small n h l
  rw [hb, hw] at hs
  have hsm : ∀ i, i < q → ∃ v : Nat, wordK l b i = (v : Int) ∧ v < n := by
    intro i hi
    obtain ⟨v, hv, hvn⟩ := hs i (by simp only [List.length_map, List.length_range]; exact hi)
    refine ⟨v, ?_, hvn⟩
    rw [← hv, List.getD_eq_getElem?_getD, List.getElem?_map, List.getElem?_range hi]
    rfl
  refine ⟨hw, ?_, hsm⟩
  have hlen : (rowP n ((List.range q).map (wordK l b))).length = q := by rw [rowP_length, List.length_map, List.length_range]
  have hget : ∀ i, i < q → ∃ v : Nat, (rowP n ((List.range q).map (wordK l b))).getD i (0, 0) = zAt n v ∧ wordK l b i = (v : Int) ∧ v < n := by
    intro i hi
    obtain ⟨v, hv, hvn⟩ := hsm i hi
    refine ⟨v, ?_, hv, hvn⟩
    unfold rowP
    rw [List.getD_eq_getElem?_getD, List.getElem?_map, List.getElem?_map, List.getElem?_range hi]
    show zAt n (wordK l b i).toNat = _
    rw [hv]; rfl
  have hqb : q ≤ 32768 / b := (Nat.le_div_iff_mul_le (by omega)).2 (by rw [← hl]; exact h3)
  rw [backV_good n _ (by rw [hb, hlen, show (32768 : Int) / (b : Int) = ((32768 / b : Nat) : Int) by rw [Int.natCast_ediv]; rfl]; omega) (fun k hk => by
    rw [hlen] at hk
    obtain ⟨v, e, _, hvn⟩ := hget k hk
    rw [e, labV_pt n v h hvn]; exact hvn)]
  have e : (rowP n ((List.range q).map (wordK l b))).map (labI n) = (List.range q).map (wordK l b) := by
    unfold rowP
    rw [List.map_map, List.map_map]
    refine List.map_congr_left fun i hi => ?_
    obtain ⟨v, hv, hvn⟩ := hsm i (List.mem_range.1 hi)
    show labI n (zAt n (wordK l b i).toNat) = wordK l b i
    rw [hv, Int.toNat_natCast]
    unfold labI
    rw [labV_pt n v h hvn]
  rw [e, hb]
  exact row_words l b q hb1 (by omega) h3 hl
theorem rowP_getD (n b : Nat) (l : List Bool) (q i v : Nat) (hi : i < q) (hv : wordK l b i = (v : Int)) : (rowP n ((List.range q).map (wordK l b))).getD i (0, 0) = zAt n v := by
  unfold rowP
  rw [List.getD_eq_getElem?_getD, List.getElem?_map, List.getElem?_map, List.getElem?_range hi]
  show zAt n (wordK l b i).toNat = _
  rw [hv]; rfl
set_option maxHeartbeats 8000000 in
set_option maxRecDepth 100000 in
theorem pback_walk (st : Int) (n b : Nat) (h : isSz n) (hb : szB n = (b : Int)) (hb1 : 1 ≤ b) (hb2 : b ≤ 8) (hsz : ∀ w, Calls Try.prog 39 #[.int .i64 st] w fun r w' => r = .returned (.int .i64 (n : Int)) ∧ Below w.heap.size w w')
    (A0 : Option Addr) (c0 L M q N : Nat) (l0 l1 : List Bool) (hL : l0.length = L) (hc0 : L ≤ c0) (hMm : M = if 32768 < L then 32768 else L) (hq : M / b = q) (hN : q * b = N) (hl1 : l0.take N = l1) (w : World) (hr0 : Kd.C Kd.bool w A0 L l0) (hLm : L ≤ 140737488351232) :
    Calls Try.prog 9 #[.slice A0 L c0, .int .i64 st] w fun e w' => e = .returned (.bool true) ∧ Below w.heap.size w w' := by
  have hM1 : M ≤ L ∧ M ≤ 32768 := by rw [hMm]; split <;> omega
  have hNM : N ≤ M := by rw [← hN, ← hq]; exact Nat.div_mul_le_self _ _
  have hqN : q ≤ N := by rw [← hN]; exact Nat.le_mul_of_pos_right _ hb1
  have hl1n : l1.length = N := by rw [← hl1, List.length_take]; omega
  obtain ⟨hwv, hbv, hsm⟩ := back_row n b h hb hb1 hb2 l1 q (by rw [hl1n, hN]) (by omega)
  have hb0 : (b : Int) ≠ 0 := by omega
  have hb1i : decide ((b : Int) < 1) = false := decide_eq_false (by omega)
  have s1 : (0 : Int) ≤ (N : Int) := by omega
  have s2 : (N : Int) ≤ (c0 : Int) := by omega
  have hmulE : (q : Int) * (b : Int) = (N : Int) := by rw [← Int.natCast_mul, hN]
  have g1 : ∀ (x y : Int), (x : Int) = y → 0 ≤ y → y ≤ 32768 → IntKind.i64.wrap x = y ∧ wrap64 x = y := by
    rintro x y rfl h1 h2
    exact ⟨by rw [IntKind.wrap_i64]; omega, by unfold wrap64; omega⟩
  have g2 : (M : Int) / (b : Int) = (q : Int) := by rw [← Int.natCast_ediv, hq]
  have g3 : Int.tdiv (M : Int) (b : Int) = (q : Int) := by rw [Int.tdiv_eq_ediv_of_nonneg (by omega), g2]
  have g4 : (0 : Int) ≤ (q : Int) ∧ (q : Int) ≤ 32768 ∧ (N : Int) ≤ 32768 := by omega
  have hmin1 : (if (32768 : Int) < (L : Int) then (32768 : Int) else (L : Int)) = (M : Int) := by rw [hMm]; split <;> split <;> omega
  have hmin2 : min (L : Int) 32768 = (M : Int) := by clear hmin1; rw [hMm]; split <;> omega
  obtain ⟨hdiv, _⟩ := g1 _ _ g3 g4.1 g4.2.1
  obtain ⟨hdiv1, hdiv2⟩ := g1 _ _ g2 g4.1 g4.2.1
  obtain ⟨hmul, hmul2⟩ := g1 _ _ hmulE s1 g4.2.2
  clear g1 g2 g3 g4
  have HTK := Aside0.mk (show ∀ W, Below w.heap.size w W → Kd.C Kd.bool W A0 N l1 from fun W hB => by
    have h9 := Kd.C_below hr0 hB
    rw [← hL] at h9
    have h8 := Kd.C_take (m := N) h9 (by clear hdiv hdiv1 hdiv2 hmul hmul2 hmin1 hmin2; omega)
    rw [hl1, hl1n] at h8
    exact h8)
  have CS := Aside0.mk hsz
  have CB := Aside0.mk (fun w => Bits_any n h w)
  rw [hb] at CB
  have CR := Aside0.mk (fun (A : Option Addr) (c : Nat) (W : World) (x : Kd.C Kd.bool W A N l1) (y : N ≤ c) => row_any n h A c N l1 hl1n W x y)
  rw [hb, hwv] at CR
  simp only at CR
  obtain ⟨zs, hzs⟩ : ∃ zs, rowP n ((List.range q).map (wordK l1 b)) = zs := ⟨_, rfl⟩
  have hzl : zs.length = q := by rw [← hzs, rowP_length, List.length_map, List.length_range]
  have HGET := Aside0.mk (fun i v hi hv => (hzs ▸ rowP_getD n b l1 q i v hi hv : zs.getD i (0, 0) = zAt n v))
  rw [hzs] at CR hbv
  have CK := Aside0.mk (fun (A : Option Addr) (c : Nat) (W : World) (x : Kd.C KC W A q zs) (y : q ≤ c) => back_any n h A c q zs hzl W x y)
  rw [hbv] at CK
  simp only at CK
  have CAt := Aside0.mk (fun v (hv : v < n) w => at_any n v h hv w)
  have HFI := Aside0.mk (fun v (hv : v < n) => zAt_fine n v h hv)
  have HSM := Aside0.mk hsm
  have HL1 := Aside0.mk hl1n
  have HZL := Aside0.mk hzl
  have HNN := Aside0.mk hN
  have HQN := Aside0.mk (And.intro hqN (show N ≤ 32768 from Nat.le_trans hNM hM1.2))
  have HB0 := Aside0.mk (Below.refl w.heap.size w)
  have HBB := Aside0.mk hb2
  clear hr0 hsz h hb hMm hq hN hl1 hM1 hNM hqN hwv hbv hsm hzs hzl hb1 hb2 hl1n hL hc0 hmulE hLm
  go_enter Try.func9, Try.ntmps9
  go_wp2_with (first
    | (go_at_call 38; (with_reducible refine (works_calls _).mono ?_); rintro e w1 ⟨rfl, hb⟩; (have HB1 := Aside0.mk (below_step HB0.out hb)); clear hb)
    | (go_at_call 39; (with_reducible refine (CS.out _).mono ?_); rintro e w2 ⟨rfl, hb⟩; (have HB2 := Aside0.mk (below_step HB1.out hb)); clear hb)
    | (go_at_call 15; (with_reducible refine (CB.out _).mono ?_); rintro e w3 ⟨rfl, hb⟩; (have HB3 := Aside0.mk (below_step HB2.out hb)); clear hb)
    | ((with_reducible refine gate_dst (N := 31) rfl ?_); refine Kd.R_lit Kd.bool _ 4 ?hg (N := 31) ?hd (xs := ([] : List Bool)) (inner := []) (ok := fun _ => True) (okp := fun _ => True) ?hr ?hp (fun _ hk => hk) trivial (Below.refl _ _) (Nat.le_refl _) (by simp) ?_; (case hd => rfl); (case hg => rfl); (case hr => first | (go_simp; done) | (go_simp; rfl)); (case hp => exact (Reps.none _ _)); intro vl wl ho hb hg_ hnew_; clear hg_ hnew_; have HLo := Aside0.mk ho; have HLb := Aside0.mk hb; clear ho hb)
    | ((with_reducible refine gate_builtin (b := .append) (xs := #[.tmp 31, .tmp 40]) rfl ?_); at_builtin; refine Kd.R_append_rows Kd.bool (w0 := w3) w3.heap.size rfl (.tmp 31) (.tmp 40) 41 4 (.bool false) 1 rfl Try.underlying41 info4 rfl (by decide) (by clear hdiv hdiv1 hdiv2 hmul hmul2 hmin1 hmin2; omega) vl [] l1 _ _ _ (fun _ => True) (fun _ => False) rfl rfl ?aO ?aR (fun _ _ h => h) (fun _ h => h.elim) ?aF ?aB ?aS ?aL ?_; (case aR => exact HTK.out _ (below_step HB3.out HLb.out)); (case aB => exact HLb.out); (case aF => exact (fun _ _ => trivial)); (case aO => exact HLo.out); (case aS => exact HLb.out.size); (case aL => clear hdiv hdiv1 hdiv2 hmul hmul2 hmin1 hmin2; have h9 := HL1.out; have h8 := HQN.out; simp; omega); intro vn w4 ho hb hg hat; clear hg hat; have hR : Kd.R Kd.bool 4 w4 w3.heap.size (fun _ => True) vn l1 := ho; clear ho; obtain ⟨A4, c4, rfl⟩ := Kd.R_slice hR; (have hrd := Kd.R_reads' hR); (rw [HL1.out] at hrd ⊢); (have HC4 := Aside0.mk hrd.2.2); (have HK4 := Aside0.mk hrd.2.1); (have HB4 := Aside0.mk (below_step HB3.out hb)); clear hb hR hrd)
    | (go_at_call 32; (with_reducible refine (CR.out A4 c4 _ HC4.out HK4.out).mono ?_); rintro e w5 ⟨v5, rfl, hR, hb⟩; (obtain ⟨A5, c5, rfl⟩ := Kd.R_slice hR); (have hrd := Kd.R_reads' hR); (rw [HZL.out] at hrd ⊢); (have HC5 := Aside0.mk hrd.2.2); (have HK5 := Aside0.mk hrd.2.1); (have HB5 := Aside0.mk (below_step HB4.out hb)); (have HD5 := Aside0.mk (Kd.C_below HC4.out hb)); clear hb hR hrd)
    | (go_at_call 34; (with_reducible refine (CK.out A5 c5 _ HC5.out HK5.out).mono ?_); rintro e w6 ⟨v6, rfl, hR, hb⟩; (obtain ⟨A6, c6, rfl⟩ := Kd.R_slice hR); (have hrd := Kd.R_reads' hR); (rw [HL1.out] at hrd ⊢); (have HC6 := Aside0.mk hrd.2.2); (have HK6 := Aside0.mk hrd.2.1); (have HB6 := Aside0.mk (below_step HB5.out hb)); (have HD6 := Aside0.mk (Kd.C_below HD5.out hb)); (have HE6 := Aside0.mk (Kd.C_below HC5.out hb)); clear hb hR hrd)
    | (go_at_call 36; (with_reducible refine (same_n A6 c6 A4 c4 N l1 _ HL1.out HC6.out HK6.out HD6.out HK4.out (Nat.le_trans HQN.out.2 (by decide))).mono ?_); rintro e w7 ⟨rfl, hb⟩; (have HB7 := Aside0.mk (below_step HB6.out hb)); (have HD7 := Aside0.mk (Kd.C_below HD6.out hb)); (have HE7 := Aside0.mk (Kd.C_below HE6.out hb)); clear hb))
  clear hmin1 hmin2 hdiv hdiv1 hdiv2 hmul hmul2
  go_loopw [11] (fun i wr => ∃ j : Nat, j ≤ q ∧ i = .int .i64 (j : Int) ∧ Aside0 (Below w7.heap.size w7 wr)) (fun i _ => q - (intOf i).toNat)
  case atStart => exact ⟨0, Nat.zero_le _, rfl, Aside0.mk (Below.refl _ _)⟩
  case round =>
    obtain ⟨j, hj, rfl, HBo⟩ := hrel
    obtain ⟨wo, rfl⟩ : ∃ wo : World, wo = wr := ⟨_, rfl⟩
    by_cases hlj : j < q
    · have t1 : (j : Int) < (q : Int) := by omega
      have t0 : (0 : Int) ≤ (j : Int) := by omega
      have hjb : j * b + b ≤ N := by rw [← HNN.out, ← Nat.succ_mul]; exact Nat.mul_le_mul_right _ hlj
      obtain ⟨p, hp⟩ : ∃ p, j * b = p := ⟨_, rfl⟩
      rw [hp] at hjb
      have hpe : (j : Int) * (b : Int) = (p : Int) := by rw [← Int.natCast_mul, hp]
      have b1 : 0 ≤ (j : Int) + 1 ∧ (j : Int) + 1 ≤ 140737488355328 := by have := HQN.out; omega
      have b2 : 0 ≤ (p : Int) ∧ (p : Int) ≤ 140737488355328 := by have := HQN.out; omega
      obtain ⟨hjs, _⟩ := wr_ok rfl b1
      obtain ⟨hpw, hpw2⟩ := wr_ok hpe b2
      have HJ := Aside0.mk hlj
      have HP := Aside0.mk hp
      have HJB := Aside0.mk hjb
      clear hp hpe hlj hjb b1 b2
      go_wp2
      go_loopw [12, 13] (fun v i wx => ∃ k u : Nat, k ≤ b ∧ i = .int .i64 (k : Int) ∧ v = .int .i64 (u : Int) ∧ Aside0 (wordOf ((l1.drop p).take k) = (u : Int)) ∧ wx = wo) (fun _ i _ => b - (intOf i).toNat)
      case atStart => exact ⟨0, 0, Nat.zero_le _, rfl, rfl, ⟨by simp [wordOf]⟩, by first | rfl | trivial⟩
      case round =>
        obtain ⟨k, u, hk, rfl, rfl, HV, rfl⟩ := hrel
        by_cases hlk : k < b
        · have t2 : (k : Int) < (b : Int) := by omega
          have hu : u < 32768 := by
            obtain ⟨v', e, h9⟩ := wordOf_bound k (l1.drop p)
            rw [HV.out] at e
            have h7 : 2 ^ k ≤ 2 ^ 15 := Nat.pow_le_pow_right (by decide) (Nat.le_trans hk (Nat.le_trans HBB.out (by decide)))
            have h6 : v' < 2 ^ 15 := Nat.lt_of_lt_of_le h9 h7
            have h5 : u = v' := Int.ofNat.inj e
            rw [h5]; exact h6
          have hjn := HJB.out
          have hnn := HQN.out.2
          have hb8 := HBB.out
          obtain ⟨P, hP⟩ : ∃ P, p + k = P := ⟨_, rfl⟩
          obtain ⟨U, hU⟩ : ∃ U, 2 * u = U := ⟨_, rfl⟩
          have hPN : P < N ∧ P < l1.length + 1 ∧ P ≤ 32768 := by clear hpw hpw2 hjs; have := HL1.out; omega
          have hUb : U + 1 ≤ 70000 := by clear hpw hpw2 hjs; omega
          have e1 : (k : Int) + 1 = ((k + 1 : Nat) : Int) := by clear hpw hpw2 hjs; omega
          have e2 : (p : Int) + (k : Int) = (P : Int) := by clear hpw hpw2 hjs; omega
          have e3 : 2 * (u : Int) = (U : Int) := by clear hpw hpw2 hjs; omega
          have e4 : (U : Int) + 1 = ((U + 1 : Nat) : Int) := by clear hpw hpw2 hjs; omega
          have d1 : 0 ≤ ((k + 1 : Nat) : Int) ∧ ((k + 1 : Nat) : Int) ≤ 140737488355328 := by clear hpw hpw2 hjs; omega
          have d2 : 0 ≤ (P : Int) ∧ (P : Int) ≤ 140737488355328 := by clear hpw hpw2 hjs; omega
          have d3 : 0 ≤ (U : Int) ∧ (U : Int) ≤ 140737488355328 := by clear hpw hpw2 hjs; omega
          have d4 : 0 ≤ ((U + 1 : Nat) : Int) ∧ ((U + 1 : Nat) : Int) ≤ 140737488355328 := by clear hpw hpw2 hjs; omega
          have i1 : (0 : Int) ≤ (P : Int) := d2.1
          have i2 : (P : Int) < (N : Int) := by clear hpw hpw2 hjs; omega
          have htk : ∀ bt, l1.getD P false = bt → (l1.drop p).take (k + 1) = (l1.drop p).take k ++ [bt] := by
            clear hpw hpw2 hjs
            intro bt hbt
            have hl9 := HL1.out
            subst hP
            rw [List.take_succ_eq_append_getElem (by rw [List.length_drop]; omega), ← hbt]
            simp [List.getD_eq_getElem?_getD, show p + k < l1.length by omega]
          obtain ⟨ad, hA, kc⟩ := bool_at (Kd.C_below HD7.out HBo.out) P hPN.1
          subst hA
          obtain ⟨bt, hbt⟩ : ∃ bt, l1.getD P false = bt := ⟨_, rfl⟩
          rw [hbt] at kc
          have HTK2 := Aside0.mk (htk bt hbt)
          have HU := Aside0.mk hU
          have HM2 := Aside0.mk (show b - (k + 1) < b - k by clear hpw hpw2 hjs; omega)
          obtain ⟨hks, _⟩ := wr_ok e1 d1
          obtain ⟨hpk, hpk2⟩ := wr_ok e2 d2
          obtain ⟨h2u, h2u2⟩ := wr_ok e3 d3
          obtain ⟨h2v, h2v2⟩ := wr_ok e4 d4
          have HLK := Aside0.mk hlk
          clear htk hbt hu hP hU hPN hUb e1 e2 e3 e4 d1 d2 d3 d4 hjn hnn hb8 hlk
          cases bt
          · go_wp2
            go_roundw
            case rel => exact ⟨k + 1, U, HLK.out, rfl, rfl, ⟨by rw [HTK2.out, wordOf_snoc, HV.out, ← HU.out]; simp⟩, by first | rfl | trivial⟩
            case measure => exact HM2.out
          · go_wp2
            go_roundw
            case rel => exact ⟨k + 1, U + 1, HLK.out, rfl, rfl, ⟨by rw [HTK2.out, wordOf_snoc, HV.out, ← HU.out]; simp⟩, by first | rfl | trivial⟩
            case measure => exact HM2.out
        · obtain rfl : k = b := by omega
          have hwk : wordK l1 k j = (u : Int) := by unfold wordK; rw [HP.out]; exact HV.out
          clear hpw hpw2
          obtain ⟨v', hv', hvn⟩ := HSM.out j HJ.out
          rw [hwk] at hv'
          have hun : u < n := by clear hjs; omega
          have HGZ := Aside0.mk (HGET.out j u HJ.out hwk)
          obtain ⟨o1, o2⟩ := HFI.out u hun
          have CA := Aside0.mk (CAt.out u hun)
          have hE := HE7.out
          obtain ⟨ad, hA, kc⟩ := cx_at (Kd.C_below HE7.out HBo.out) j HJ.out
          subst hA
          rw [HGZ.out] at kc
          obtain ⟨⟨y1, y2⟩, hy⟩ : ∃ y, zAt n u = y := ⟨_, rfl⟩
          rw [hy] at kc o1 o2 CA
          simp only at kc o1 o2 CA
          clear hwk hv' hvn hun hy hE
          go_wp2_with (go_at_call 23; (with_reducible refine (CA.out _).mono ?_); rintro e w8 ⟨rfl, hb⟩; (have HB8 := Aside0.mk (below_step HBo.out hb)); (have kc8 := blk_stay kc hb); clear hb)
          go_roundw
          case rel => exact ⟨j + 1, HJ.out, by go_num, HB8⟩
          case measure => have := HJ.out; simp [intOf]; omega
    · obtain rfl : j = q := by omega
      go_wp2
      go_ret
      exact ⟨rfl, below_step HB7.out HBo.out⟩
theorem PointsBack_walk (A0 : Option Addr) (c0 : Nat) (l0 : List Bool) (st : Int) (w : World) (hr : Kd.C Kd.bool w A0 l0.length l0) (hc : l0.length ≤ c0) (hy : l0.length * 1 ≤ 140737488351232) (hg : ∀ y ∈ l0, True) (f1 : (Lit.int .i64 st).wf = true) :
    Calls Try.prog 9 #[.slice A0 l0.length c0, .int .i64 st] w fun e w' => e = .returned (.bool true) ∧ Below w.heap.size w w' := by
  obtain ⟨j, hj, hs⟩ := size_any st
  obtain ⟨b, hb, hb1, hb8⟩ := szB_nat (szN j) (szN_sz j hj)
  exact pback_walk st (szN j) b (szN_sz j hj) hb hb1 hb8 hs A0 c0 _ _ _ _ l0 _ rfl hc rfl rfl rfl rfl w hr (by omega)
end Go.Proofs.Ytopmlhihfchdhaa.Pure
