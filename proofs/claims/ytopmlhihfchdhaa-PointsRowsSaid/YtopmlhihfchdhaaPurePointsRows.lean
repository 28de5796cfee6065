/- PointsRows: rows of points, there and back; what the caller holds is unhurt. -/
import Derived.Test.YtopmlhihfchdhaaFogx0
import Derived.Test.YtopmlhihfchdhaaFogx6
import Derived.Test.YtopmlhihfchdhaaRefBack
import Derived.Test.YtopmlhihfchdhaaTurned
import Derived.Test.YtopmlhihfchdhaaNum
namespace Go.Proofs.Ytopmlhihfchdhaa.Pure
open Go.RowKit Go.Proofs.Ytopmlhihfchdhaa.Fog Go.Proofs.YtopmlhihfchdhaaW.PrintWords Go.Proofs.YtopmlhihfchdhaaW.PrintLast Go.Proofs.YtopmlhihfchdhaaW.PrintMore Go.Proofs.Ytopmlhihfchdhaa.Kit
set_option linter.unusedVariables false
set_option linter.unusedSimpArgs false
/-- A literal row of one-cell values. -/
theorem lit_scalar {α : Type} (enc : α → Value) (h1 : ∀ x, (enc x).oneCell' = true) (w : World) (T : TypeId) (xs : List α) (hn : xs.length ≤ 9223372036854775807) : Kd.C (Kd.scalar enc h1) (w.alloc (.cells (xs.map enc).toArray T)) (some ⟨w.heap.size, 0, none⟩) xs.length xs := by
  refine ⟨rfl, hn, fun _ => ⟨_, rfl, fun j p hj => ⟨[enc p], rfl, rfl, fun i u hu => ?_⟩⟩⟩
  obtain ⟨rfl, rfl⟩ : i = 0 ∧ enc p = u := by
    match i, hu with
    | 0, hu => exact ⟨rfl, by simpa using hu⟩
  rw [add_zero_form, blk_cell (blk_new w _)]
  show ((xs.map enc).toArray)[j * 1 + 0]? = _
  rw [List.getElem?_toArray, Nat.mul_one, Nat.add_zero, List.getElem?_map, hj]
  rfl
def mk1 : Nat × Nat := (4635118810238550016, 0)
def mk2 : Nat × Nat := (0, 4635189178982727680)
theorem marks_lit (w : World) : Kd.C KC (w.alloc (.cells #[.complex .f64 4635118810238550016 0, .complex .f64 0 4635189178982727680] 31)) (some ⟨w.heap.size, 0, none⟩) 2 [mk1, mk2] := lit_scalar cx (fun _ => rfl) w 31 [mk1, mk2] (by decide)
set_option maxHeartbeats 2000000 in
set_option maxRecDepth 100000 in
theorem lent_calls (A0 : Option Addr) (c0 n : Nat) (l0 : List (Nat × Nat)) (w : World) (hln : l0.length = n) (hr0 : Kd.C KC w A0 n l0) (hc0 : n ≤ c0) (hl : n * 16 ≤ 140737488351232) :
    Calls Try.prog 31 #[.slice A0 n c0] w fun e w' => ∃ g c : Nat, e = .returned (.tuple #[.slice (some ⟨g, 0, none⟩) n c, .slice (some ⟨g, 0, none⟩) (n + 2) c]) ∧ n + 2 ≤ c ∧ w.heap.size ≤ g ∧ g < w'.heap.size ∧ Kd.R KC 31 w' w.heap.size (fun _ => True) (.slice (some ⟨g, 0, none⟩) (n + 2) c) (l0 ++ [mk1, mk2]) ∧ Below w.heap.size w w' := by
  have HR0 := Aside0.mk hr0
  have HL := Aside0.mk hl
  have HLN := Aside0.mk hln
  clear hr0 hl hln
  go_enter Try.func31, Try.ntmps31
  go_wp2_with (first
    | ((with_reducible refine gate_dst (N := 5) rfl ?_); refine Kd.R_lit KC _ 31 ?hg (N := 5) ?hd (xs := ([] : List (Nat × Nat))) (inner := []) (ok := fun _ => True) (okp := fun _ => True) ?hr ?hp (fun _ hk => hk) trivial (Below.refl _ _) (Nat.le_refl _) (by simp) ?_; (case hd => rfl); (case hg => rfl); (case hr => first | (go_simp; done) | (go_simp; rfl)); (case hp => exact (Reps.none _ _)); intro v1 w1 ho hb hg_ hnew_; clear hg_ hnew_; have HO1 := Aside0.mk ho; have HB1 := Aside0.mk hb; clear ho hb)
    | ((with_reducible refine gate_builtin (b := .append) (xs := #[.tmp 5, .tmp 6]) rfl ?_); at_builtin; (refine Kd.R_append_rows KC (w0 := w) w.heap.size rfl (.tmp 5) (.tmp 6) 24 31 (.complex .f64 0 0) 16 rfl Try.underlying24 cxInfo rfl (by decide) (by decide) v1 [] l0 _ _ _ (fun _ => True) (fun _ => False) rfl rfl ?aO ?aR (fun _ _ h => h) (fun _ h => h.elim) ?aF ?aB ?aS ?aL ?_); (case aR => first | exact Kd.C_below HR0.out HB1.out | (rw [HLN.out]; exact Kd.C_below HR0.out HB1.out)); (case aB => exact HB1.out); (case aF => exact (fun _ _ => trivial)); (case aO => exact HO1.out); (case aS => exact HB1.out.size); (case aL => have h1 := HL.out; have h2 := HLN.out; simp; omega); intro v2 w2 ho hb hg hat; clear hg hat; have HO2 := Aside0.mk (show Kd.R KC 31 w2 w.heap.size (fun _ => True) v2 l0 from ho); have HB2 := Aside0.mk hb; have HB3 := Aside0.mk (below_step hb ((Below.refl w2.heap.size w2).alloc (Nat.le_refl _) (.cells #[.complex .f64 4635118810238550016 0, .complex .f64 0 4635189178982727680] 31))); have HO3 := Aside0.mk (Kd.R_below (show Kd.R KC 31 w2 w.heap.size (fun _ => True) v2 l0 from ho) ((Below.refl w2.heap.size w2).alloc (Nat.le_refl _) (.cells #[.complex .f64 4635118810238550016 0, .complex .f64 0 4635189178982727680] 31))); have HM3 := Aside0.mk (marks_lit w2); clear ho hb)
    | ((with_reducible refine gate_builtin (b := .append) (xs := #[.tmp 8, .tmp 9]) rfl ?_); at_builtin; refine Kd.R_append_rows KC (w0 := w) w.heap.size rfl (.tmp 8) (.tmp 9) 24 31 (.complex .f64 0 0) 16 rfl Try.underlying24 cxInfo rfl (by decide) (by decide) v2 l0 [mk1, mk2] _ _ _ (fun _ => True) (fun _ => False) rfl rfl ?aO ?aR (fun _ _ h => h) (fun _ h => h.elim) ?aF ?aB ?aS ?aL ?_; (case aR => exact HM3.out); (case aB => exact HB3.out); (case aF => exact (fun _ _ => trivial)); (case aO => exact HO3.out); (case aS => exact HB3.out.size); (case aL => have h1 := HL.out; have h2 := HLN.out; rw [h2]; omega); intro v3 w3 ho hb hg_ hat; clear hg_ hat; (obtain ⟨g4, c4, hv, hb4, hg4, _⟩ := Kd.R_form ho (by rw [List.length_append]; exact Nat.succ_pos _)); (rw [show (l0 ++ [mk1, mk2]).length = n + 2 from by rw [List.length_append, HLN.out]; rfl] at hv); subst hv; (have hrd : n + 2 ≤ c4 := by have h9 := (Kd.R_reads' ho).2.1; have h8 := HLN.out; (try rw [List.length_append, h8] at h9); exact h9); (have HO4 := Aside0.mk ho); (have HB4 := Aside0.mk hb); (have HG4 := Aside0.mk (And.intro hb4 hg4)); (have HROOM := Aside0.mk hrd); (have hroom : (n : Int) ≤ (c4 : Int) := by omega); (have hroom2 : n ≤ c4 := by omega); clear ho hb hb4 hg4 hrd))
  go_ret2
  exact ⟨g4, c4, rfl, HROOM.out, HG4.out.1, HG4.out.2, HO4.out, HB4.out⟩
theorem below_of_drew4 {w w' : World} (h : ∃ d, w' = w.drewN d) : Below w.heap.size w w' := by
  obtain ⟨d, rfl⟩ := h
  exact pw_below_drewN (Below.refl _ _) d
theorem cell_stay4 {w w' : World} {a : Addr} {v : Value} (h : w.cell? a = some v) (hb : Below w.heap.size w w') : w'.cell? a = some v := by
  by_cases hl : a.block < w.heap.size
  · exact (hb.cell hl).trans h
  · have e : w.heap[a.block]? = none := by simp; omega
    unfold World.cell? at h
    simp [e] at h
theorem marks_at (l : List (Nat × Nat)) (n : Nat) (h : l.length = n) : (l ++ [mk1, mk2]).getD n (0, 0) = mk1 ∧ (l ++ [mk1, mk2]).getD (n + 1) (0, 0) = mk2 := by
  subst h
  constructor
  · rw [List.getD_eq_getElem?_getD, List.getElem?_append_right (Nat.le_refl _), Nat.sub_self]; rfl
  · rw [List.getD_eq_getElem?_getD, List.getElem?_append_right (by omega), show l.length + 1 - l.length = 1 by omega]; rfl
/-- The cut of a row. -/
theorem C_cut {w : World} {ad : Addr} {n : Nat} {l xs : List (Nat × Nat)} (h : Kd.C KC w (some ad) (n + 2) (l ++ xs)) (hl : l.length = n) : Kd.C KC w (some ad) n l := by
  refine ⟨hl, by have := h.2.1; omega, fun hn => ?_⟩
  obtain ⟨ad', he, hc⟩ := h.2.2 (by omega)
  refine ⟨ad', he, fun j p hj => hc j p ?_⟩
  rw [List.getElem?_append_left (by rcases Nat.lt_or_ge j l.length with h9 | h9
                                    · exact h9
                                    · rw [List.getElem?_eq_none h9] at hj; cases hj)]
  exact hj
set_option maxHeartbeats 2000000 in
set_option maxRecDepth 100000 in
theorem unhurt_calls (ad : Addr) (c n : Nat) (B : Option Addr) (cb : Nat) (l : List (Nat × Nat)) (w : World) (hl : l.length = n) (h1 : Kd.C KC w (some ad) (n + 2) (l ++ [mk1, mk2])) (hc : n + 2 ≤ c) (h2 : Kd.C KC w B n l) (hf : ∀ i, i < n → fine (l.getD i (0, 0))) (hn : n < 140737488355000) :
    Calls Try.prog 37 #[.slice (some ad) (n + 2) c, .slice B n cb] w fun e w' => e = .returned (.bool true) ∧ Below w.heap.size w w' := by
  have HS := Aside0.mk (fun ca => same_points (some ad) B ca cb n l w hl (C_cut h1 hl) h2 hf hn)
  obtain ⟨m1, m2⟩ := marks_at l n hl
  obtain ⟨a1, hA1, k1⟩ := cx_at h1 n (by omega)
  obtain ⟨a2, hA2, k2⟩ := cx_at h1 (n + 1) (by omega)
  obtain rfl := Option.some.inj hA1
  obtain rfl := Option.some.inj hA2
  rw [m1] at k1
  rw [m2] at k2
  unfold mk1 at k1
  unfold mk2 at k2
  simp only at k1 k2
  have HK1 := Aside0.mk k1
  have HK2 := Aside0.mk k2
  have e1 : IntKind.i64.wrap ((n : Int) + 2) = (n : Int) + 2 := by rw [IntKind.wrap_i64]; omega
  have e2 : IntKind.i64.wrap ((n : Int) + 1) = (n : Int) + 1 := by rw [IntKind.wrap_i64]; omega
  have b1 : n ≤ c := by omega
  have b2 : (n : Int) ≤ (c : Int) := by omega
  have b3 : n < n + 2 := by omega
  have b4 : n + 1 < n + 2 := by omega
  have b5 : (n : Int) < (n : Int) + 2 := by omega
  have b6 : (n : Int) + 1 < (n : Int) + 2 := by omega
  have b7 : (0 : Int) ≤ (n : Int) := by omega
  have b8 : (0 : Int) ≤ (n : Int) + 1 := by omega
  have o1 : FloatKind.f64.format.order 4635118810238550016 4635118810238550016 = some .eq := by decide +kernel
  have o2 : FloatKind.f64.format.order 4635189178982727680 4635189178982727680 = some .eq := by decide +kernel
  have o3 : FloatKind.f64.format.order 0 0 = some .eq := by decide +kernel
  clear h1 h2 hf m1 m2 hA1 hA2 k1 k2 hl
  go_enter Try.func37, Try.ntmps37
  go_wp2_with (go_at_call 21; (with_reducible refine (HS.out _).mono ?_); rintro e w1 ⟨rfl, hd⟩; (have HB := Aside0.mk (below_of_drew4 hd)); (have k1 := cell_stay4 HK1.out HB.out); (have k2 := cell_stay4 HK2.out HB.out); (have k3 := k2); (rw [show ad.add (n + 1) = (⟨ad.block, ad.off + (n + 1), none⟩ : Addr) from by unfold Addr.add; rw [if_neg (Nat.succ_ne_zero n)]] at k3); clear hd)
  go_ret
  exact ⟨rfl, HB.out⟩
theorem rowP_fine (n : Nat) (h : isSz n) (ws : List Int) (hs : Small n ws) (i : Nat) (hi : i < ws.length) : fine ((rowP n ws).getD i (0, 0)) := by
  obtain ⟨v, hv, hv2⟩ := hs i hi
  have e : (rowP n ws).getD i (0, 0) = zAt n v := by
    unfold rowP
    rw [List.getD_eq_getElem?_getD] at hv
    rw [List.getD_eq_getElem?_getD, List.getElem?_map]
    rw [List.getElem?_eq_getElem hi] at hv ⊢
    simp only [Option.getD_some, Option.map_some] at hv ⊢
    rw [hv]; rfl
  rw [e]
  exact zAt_fine n v h hv2
theorem row_both (l : List Bool) (n : Int) : ∃ (zs : List (Nat × Nat)) (e : Int), zs.length ≤ 32768 ∧ (∀ i, i < zs.length → fine (zs.getD i (0, 0))) ∧
    (∀ (A : Option Addr) (c m : Nat) (w : World), l.length = m → Kd.C Kd.bool w A m l → m ≤ c → Calls Try.prog 32 #[.slice A m c, .int .i64 n] w fun r w' => ∃ v, r = .returned (.tuple #[v, .int .i64 e]) ∧ Kd.R KC 31 w' w.heap.size (fun _ => True) v zs ∧ Below w.heap.size w w') ∧
    (∀ (A : Option Addr) (c m : Nat) (w : World), l.length = m → Kd.C Kd.bool w A m l → m ≤ c → Calls Try.prog 33 #[.slice A m c, .int .i64 n] w fun r w' => ∃ v, r = .returned (.tuple #[v, .int .i64 e]) ∧ Kd.R KC 31 w' w.heap.size (fun _ => True) v zs ∧ Below w.heap.size w w') := by
  rcases sz_or n with h | ⟨k, rfl, h⟩
  · refine ⟨[], 1, Nat.zero_le _, fun i hi => absurd hi (Nat.not_lt_zero _), fun A c m w _ _ _ => ?_, fun A c m w _ _ _ => ?_⟩
    · refine (row_no n h A c m w).mono ?_
      rintro r w' ⟨rfl, hb⟩
      exact ⟨_, rfl, Kd.R_nil _ _ _ _ _, hb⟩
    · refine (refrowp_no n h A c m w).mono ?_
      rintro r w' ⟨rfl, hb⟩
      exact ⟨_, rfl, Kd.R_nil _ _ _ _ _, hb⟩
  · refine ⟨rowP k (wordsV l (szB k)).1, (wordsV l (szB k)).2, by rw [rowP_length]; exact wordsV_length _ _, fun i hi => rowP_fine k h _ (words_small k h l) i (by rw [rowP_length] at hi; exact hi), fun A c m w hl h1 hc => row_any k h A c m l hl w h1 hc, fun A c m w hl h1 hc => refrowp_any k h A c m l hl w h1 hc⟩
theorem rowV_len (ws : List Int) (a : Int) : (rowV ws a).1.length ≤ 524288 := by
  unfold rowV
  split
  · rename_i hc
    split
    · obtain ⟨h1, h2, h3⟩ := hc
      obtain ⟨k, rfl⟩ : ∃ k : Nat, a = (k : Int) := ⟨a.toNat, by omega⟩
      show (ws.flatMap (rowBits _)).length ≤ _
      rw [flat_length]
      have h4 : ws.length ≤ 32768 := by
        have h5 : (32768 : Int) / (k : Int) ≤ 32768 := Int.ediv_le_self _ (by decide)
        omega
      have h6 : (k : Int).toNat ≤ 16 := by omega
      exact Nat.mul_le_mul h6 h4
    · exact Nat.zero_le _
  · exact Nat.zero_le _
theorem backV_len (n : Nat) (zs : List (Nat × Nat)) : (backV n zs).1.length ≤ 524288 := by
  unfold backV
  split
  · exact Nat.zero_le _
  · split
    · exact rowV_len _ _
    · exact Nat.zero_le _
theorem back_both (zs : List (Nat × Nat)) (n : Int) : ∃ (l : List Bool) (e : Int), l.length ≤ 524288 ∧
    (∀ (A : Option Addr) (c m : Nat) (w : World), zs.length = m → Kd.C KC w A m zs → m ≤ c → Calls Try.prog 34 #[.slice A m c, .int .i64 n] w fun r w' => ∃ v, r = .returned (.tuple #[v, .int .i64 e]) ∧ Kd.R Kd.bool 4 w' w.heap.size (fun _ => True) v l ∧ Below w.heap.size w w') ∧
    (∀ (A : Option Addr) (c m : Nat) (w : World), zs.length = m → Kd.C KC w A m zs → m ≤ c → Calls Try.prog 35 #[.slice A m c, .int .i64 n] w fun r w' => ∃ v, r = .returned (.tuple #[v, .int .i64 e]) ∧ Kd.R Kd.bool 4 w' w.heap.size (fun _ => True) v l ∧ Below w.heap.size w w') := by
  rcases sz_or n with h | ⟨k, rfl, h⟩
  · refine ⟨[], 1, Nat.zero_le _, fun A c m w _ _ _ => ?_, fun A c m w _ _ _ => ?_⟩
    · refine (back_no n h A c m w).mono ?_
      rintro r w' ⟨rfl, hb⟩
      exact ⟨_, rfl, Kd.R_nil _ _ _ _ _, hb⟩
    · refine (refback_no n h A c m w).mono ?_
      rintro r w' ⟨rfl, hb⟩
      exact ⟨_, rfl, Kd.R_nil _ _ _ _ _, hb⟩
  · exact ⟨(backV k zs).1, (backV k zs).2, backV_len k zs, fun A c m w hl h1 hc => back_any k h A c m zs hl w h1 hc, fun A c m w hl h1 hc => refback_any k h A c m zs hl w h1 hc⟩
theorem same_l0 (l : List Bool) (hl : l.length ≤ 9223372036854775806) : ∀ (d i : Nat), i + d = l.length → Ev (fun k => foghornlaw04_sameBits.l0 k l l (i : Int)) true
  | 0, i, h => by
    refine Ev.step (fun k => by simp only [foghornlaw04_sameBits.l0]; rfl) ?_
    exact Ev.ifn (by omega) (Ev.now _)
  | d + 1, i, h => by
    refine Ev.step (fun k => by simp only [foghornlaw04_sameBits.l0]; rfl) ?_
    refine Ev.ifp (by omega) (Ev.ifp (by omega) (Ev.ifp (by omega) (Ev.ifn (by simp) ?_)))
    rw [show ((i : Int) + 1) = ((i + 1 : Nat) : Int) by omega, w64n (by omega)]
    exact same_l0 l hl d (i + 1) (by omega)
theorem same_n (A : Option Addr) (c : Nat) (B : Option Addr) (d n : Nat) (l : List Bool) (w : World) (hn : l.length = n) (h1 : Kd.C Kd.bool w A n l) (hc : n ≤ c) (h2 : Kd.C Kd.bool w B n l) (hd : n ≤ d) (hl : n ≤ 9223372036854775806) :
    Calls Try.prog 36 #[.slice A n c, .slice B n d] w fun e w' => e = .returned (.bool true) ∧ Below w.heap.size w w' := by
  subst hn
  have he : Ev (fun k => foghornlaw04_sameBits.f k l l) true := by
    unfold foghornlaw04_sameBits.f
    refine Ev.ifp rfl ?_
    exact same_l0 l hl l.length 0 (by omega)
  obtain ⟨k, hk⟩ := he.rounds
  refine (foghornlaw04_sameBits.calls k A c l B d l true w h1 hc h2 hd hk).mono ?_
  rintro e w' ⟨rfl, ⟨nd, rfl⟩⟩
  exact ⟨rfl, pw_below_drewN (Below.refl _ _) _⟩
theorem bool_at {w : World} {A : Option Addr} {n : Nat} {l : List Bool} (h : Kd.C Kd.bool w A n l) (i : Nat) (hi : i < n) : ∃ ad, A = some ad ∧ w.cell? (ad.add i) = some (.bool (l.getD i false)) := by
  have hl : l.length = n := h.1
  obtain ⟨ad, rfl, hc⟩ := h.2.2 (by omega)
  have hg : l[i]? = some (l.getD i false) := by
    rw [List.getD_eq_getElem?_getD, List.getElem?_eq_getElem (by omega)]; rfl
  obtain ⟨cs, hcl, hK, hcell⟩ := hc i _ hg
  have e : cs = [.bool (l.getD i false)] := hK
  subst e
  have h0 := hcell 0 _ rfl
  have e1 : i * Kd.bool.sz + 0 = i := by show i * 1 + 0 = i; omega
  rw [e1] at h0
  exact ⟨ad, rfl, h0⟩
def allN (zs : List (Nat × Nat)) : Prop := ∀ z ∈ zs, notNan z.1 ∧ notNan z.2
theorem allN_fine {zs : List (Nat × Nat)} (h : allN zs) (i : Nat) (hi : i < zs.length) : fine (zs.getD i (0, 0)) := by
  have e : zs.getD i (0, 0) = zs[i] := by rw [List.getD_eq_getElem?_getD, List.getElem?_eq_getElem hi]; rfl
  rw [e]
  obtain ⟨h1, h2⟩ := h _ (List.getElem_mem hi)
  exact ⟨notNan_order _ h1, notNan_order _ h2⟩
theorem allN_snoc {zs : List (Nat × Nat)} (h : allN zs) (x y : Nat) (hx : notNan x) (hy : notNan y) : allN (zs ++ [(x, y)]) := by
  intro z hz
  rcases List.mem_append.1 hz with h1 | h1
  · exact h z h1
  · obtain rfl := List.mem_singleton.1 h1
    exact ⟨hx, hy⟩
theorem notNan_iff (b : Nat) : notNan b ↔ b % 9223372036854775808 ≤ 9218868437227405312 := by
  unfold notNan Ieee.Format.read
  simp only [fmt1, fmt2, fmt3]
  by_cases h1 : b % 9223372036854775808 < 4503599627370496
  · rw [if_pos h1]
    exact ⟨fun _ => by omega, fun _ => rfl⟩
  · rw [if_neg h1]
    by_cases h2 : b % 9223372036854775808 < 9218868437227405312
    · rw [if_pos h2]
      exact ⟨fun _ => by omega, fun _ => rfl⟩
    · rw [if_neg h2]
      by_cases h3 : b % 9223372036854775808 = 9218868437227405312
      · rw [if_pos h3]
        exact ⟨fun _ => (by omega), fun _ => rfl⟩
      · rw [if_neg h3]
        exact ⟨fun h => (by cases h), fun h => (by omega)⟩
theorem ng_notNan (b : Nat) (h : notNan b) : notNan (ngF b) := by
  rw [notNan_iff] at h ⊢
  have e : ngF b = b ^^^ 2 ^ 63 := rfl
  have e2 : (9223372036854775808 : Nat) = 2 ^ 63 := by decide
  rw [e, e2, Nat.xor_mod_two_pow, Nat.mod_self, Nat.xor_zero, ← e2]
  exact h
theorem exec_store {P : Program} {a : Act} {w w1 : World} {t : TypeId} {p x : Operand} {o : Oper} (ho : o.op = .store t p x) (pv u : Value) (hp : a.eval p = pv) (hx : a.eval x = u) (h : (Instr.storeAt t pv u).run P w = .ok () w1) : (execOp a.eval o).run P w = .ok .skip w1 := by
  unfold execOp
  simp only [ho, hp, hx, Sem.run_bind, Sem.run_pure, Result.andThen_ok, h]
theorem allN_set {zs : List (Nat × Nat)} (h : allN zs) (m x y : Nat) (hx : notNan x) (hy : notNan y) : allN (zs.set m (x, y)) := by
  intro z hz
  rcases List.mem_or_eq_of_mem_set hz with h1 | h1
  · exact h z h1
  · subst h1; exact ⟨hx, hy⟩
theorem put_marks {base g k c m x y x' y' : Nat} {W : World} {zs : List (Nat × Nat)} (h : Kd.R KC 31 W base (fun _ => True) (.slice (some ⟨g, 0, none⟩) (k + 2) c) (zs ++ [mk1, mk2])) (hl : zs.length = k) (hm : m < k) (hc : W.cell? ⟨g, m, none⟩ = some (.complex .f64 x y)) :
    Kd.R KC 31 (W.setCells g m [.complex .f64 x' y']) base (fun _ => True) (.slice (some ⟨g, 0, none⟩) (k + 2) c) (zs.set m (x', y') ++ [mk1, mk2]) ∧ W.grownBy (W.setCells g m [.complex .f64 x' y']) (some g) := by
  have e : (m : Int).toNat * KC.sz + 0 = m := by rw [Int.toNat_natCast]; show m * 1 + 0 = m; omega
  have h9 := Kd.R_seg h (m : Int) (by omega) (by omega) (c := [.complex .f64 x y]) (seg := [.complex .f64 x' y']) (j := 0) rfl (fun j u hj => by
    match j, hj with
    | 0, hj => obtain rfl : Value.complex .f64 x y = u := by simpa using hj
               rw [e]; exact hc) (Nat.le_refl _) (x' := (x', y')) rfl (okp := fun _ => False) (fun _ h => h.elim)
  rw [e, Int.toNat_natCast, List.set_append_left _ _ (by omega)] at h9
  exact h9
theorem half_ok (k h0 : Nat) (hk : k < 140737488355000) (h1 : ¬ k = 0) (hh : k / 2 = h0) : Int.tdiv (k : Int) 2 = (h0 : Int) ∧ (k : Int) / 2 = (h0 : Int) ∧ wrap64 (h0 : Int) = (h0 : Int) ∧ IntKind.i64.wrap (h0 : Int) = (h0 : Int) ∧ (h0 : Int) < (k : Int) ∧ (0 : Int) ≤ (h0 : Int) ∧ h0 < k := by
  have d0 : Int.tdiv (k : Int) 2 = (h0 : Int) := by rw [Int.tdiv_eq_ediv_of_nonneg (by omega)]; omega
  refine ⟨d0, by omega, by unfold wrap64; omega, by rw [IntKind.wrap_i64]; omega, by omega, by omega, by omega⟩
theorem tmod4_ok (wh t : Int) (ht : Int.tmod wh 4 = t) : IntKind.i64.wrap t = t ∧ wrap64 t = t := by
  have htb : -4 < t ∧ t < 4 := by
    have h1 := Int.tmod_lt_of_pos wh (show (0 : Int) < 4 by decide)
    have h2 := Int.lt_tmod_of_pos wh (show (0 : Int) < 4 by decide)
    omega
  refine ⟨by rw [IntKind.wrap_i64]; omega, by unfold wrap64; omega⟩
theorem two_le (n k : Nat) (hk : 0 < k) (h : 2 * k ≤ n) : (0 : Int) < (n : Int) ∧ (1 : Int) < (n : Int) ∧ 0 < n ∧ 1 < n := by omega
def Ap (v u : Value) : Prop := ∀ k, v.ownBlock = some k → u.ownBlock = some k → False
theorem Ap.symm {v u : Value} (h : Ap v u) : Ap u v := fun k h1 h2 => h k h2 h1
theorem ap_new {α β : Type} {d : Kd α} {d' : Kd β} {e e' base : Nat} {w w' : World} {v u : Value} {xs : List α} {ys : List β} {ok ok' : Nat → Prop} (h : d.R e w base ok v xs) (h' : d'.R e' w' w.heap.size ok' u ys) : Ap v u := fun k h1 h2 => by
  have a1 := Kd.R_lt h k h1
  have a2 := Kd.R_base h' k h2
  omega
theorem lentC {T base : Nat} {W : World} {ok : Nat → Prop} {g k c : Nat} {zs : List (Nat × Nat)} (h : Kd.R KC T W base ok (.slice (some ⟨g, 0, none⟩) (k + 2) c) (zs ++ [mk1, mk2])) (hl : zs.length = k) : Kd.C KC W (some ⟨g, 0, none⟩) (k + 2) (zs ++ [mk1, mk2]) := by
  have h9 := (Kd.R_reads' h).2.2
  rw [List.length_append, hl] at h9
  exact h9
theorem rowC {α : Type} {d : Kd α} {T base : Nat} {W : World} {ok : Nat → Prop} {A : Option Addr} {n c : Nat} {l : List α} (h : d.R T W base ok (.slice A n c) l) (hl : l.length = n) : d.C W A n l := by
  subst hl
  exact (Kd.R_reads' h).2.2
theorem rowLe {α : Type} {d : Kd α} {T base : Nat} {W : World} {ok : Nat → Prop} {A : Option Addr} {n c : Nat} {l : List α} (h : d.R T W base ok (.slice A n c) l) (hl : l.length = n) : n ≤ c := by
  subst hl
  exact (Kd.R_reads' h).2.1
theorem bool_hcc {T base : Nat} {wr : World} {ok : Nat → Prop} {g n c : Nat} {L : List Bool} (h : Kd.R Kd.bool T wr base ok (.slice (some ⟨g, 0, none⟩) n c) L) (hl : L.length = n) (k : Nat) (hk : k < n) :
    ∀ (j : Nat) (u : Value), ([.bool (L.getD k false)] : List Value)[j]? = some u → wr.cell? ⟨g, (k : Int).toNat * Kd.bool.sz + j, none⟩ = some u := by
  subst hl
  have hsm := (Kd.R_reads' h).2.2
  obtain ⟨ad, had, hc0⟩ := bool_at hsm k hk
  injection had with had
  subst had
  rw [add_zero_form] at hc0
  intro j u hj
  rw [Int.toNat_natCast]
  match j, hj with
  | 0, hj => obtain rfl : Value.bool (L.getD k false) = u := by simpa using hj
             have e : k * Kd.bool.sz + 0 = k := by show k * 1 + 0 = k; omega
             rw [e]
             exact hc0
theorem int_at4 {w : World} {A : Option Addr} {n : Nat} {l : List Int} (h : Kd.C (Kd.int .i64) w A n l) (i : Nat) (hi : i < n) : ∃ ad, A = some ad ∧ w.cell? (ad.add i) = some (.int .i64 (l.getD i 0)) := int_at h i hi
set_option maxHeartbeats 8000000 in
set_option maxRecDepth 100000 in
theorem prows_walk (A0 : Option Addr) (c0 n0 : Nat) (l0 : List Bool) (st : Int) (A2 : Option Addr) (c2 n2 : Nat) (l2 : List Int) (od : Nat) (wh : Int) (w : World) (hl0 : l0.length = n0) (hr0 : Kd.C Kd.bool w A0 n0 l0) (hc0 : n0 ≤ c0) (hy0 : n0 * 1 ≤ 140737488351232) (hl2 : l2.length = n2) (hr2 : Kd.C (Kd.int .i64) w A2 n2 l2) (hc2 : n2 ≤ c2) (hy2 : n2 * 8 ≤ 140737488351232) :
    Calls Try.prog 5 #[.slice A0 n0 c0, .int .i64 st, .slice A2 n2 c2, .float .f64 od, .int .i64 wh] w fun e w' => e = .returned (.bool true) ∧ Below w.heap.size w w' := by
  have HR0 := Aside0.mk hr0
  have HL0 := Aside0.mk hl0
  have HR2 := Aside0.mk hr2
  have HL2 := Aside0.mk hl2
  have HY0 := Aside0.mk hy0
  have HY2 := Aside0.mk hy2
  clear hr0 hl0 hr2 hl2 hy0 hy2
  go_enter Try.func5, Try.ntmps5
  go_wp2_with (first
    | ((with_reducible refine gate_dst (N := 36) rfl ?_); refine Kd.R_lit Kd.bool _ 4 ?hg (N := 36) ?hd (xs := ([] : List Bool)) (inner := []) (ok := fun _ => True) (okp := fun _ => True) ?hr ?hp (fun _ hk => hk) trivial (Below.refl _ _) (Nat.le_refl _) (by simp) ?_; (case hd => rfl); (case hg => rfl); (case hr => first | (go_simp; done) | (go_simp; rfl)); (case hp => exact (Reps.none _ _)); intro vl0 wl0 ho hb hg_ hnew_; clear hg_ hnew_; have HLo0 := Aside0.mk ho; have HLb0 := Aside0.mk hb; clear ho hb)
    | ((with_reducible refine gate_builtin (b := .append) (xs := #[.tmp 36, .tmp 37]) rfl ?_); at_builtin; refine Kd.R_append_rows Kd.bool (w0 := w) w.heap.size rfl (.tmp 36) (.tmp 37) 41 4 (.bool false) 1 rfl Try.underlying41 info4 rfl (by decide) (by decide) vl0 [] l0 _ _ _ (fun _ => True) (fun _ => False) rfl rfl ?aO ?aR (fun _ _ h => h) (fun _ h => h.elim) ?aF ?aB ?aS ?aL ?_; (case aR => first | exact Kd.C_below HR0.out HLb0.out | (rw [HL0.out]; exact Kd.C_below HR0.out HLb0.out)); (case aB => exact HLb0.out); (case aF => exact (fun _ _ => trivial)); (case aO => exact HLo0.out); (case aS => exact HLb0.out.size); (case aL => have h1 := HY0.out; have h2 := HL0.out; simp; omega); intro vo w1 ho hb hg hat; clear hg hat; (have hR := (show Kd.R Kd.bool 4 w1 w.heap.size (fun _ => True) vo l0 from ho)); (obtain ⟨Ao, co, rfl⟩ := Kd.R_slice hR); (rw [HL0.out] at hR ⊢); (have HOw := Aside0.mk hR); (have HB1 := Aside0.mk hb); clear ho hb hR))
  go_loopw [12, 13] (fun v i wr => ∃ (j k : Nat) (zs : List (Nat × Nat)), j ≤ n2 ∧ i = .int .i64 (j : Int) ∧ j = 2 * k ∧ zs.length = k ∧ allN zs ∧ Aside0 (Kd.R KC 31 wr w1.heap.size (fun _ => True) v zs) ∧ Aside0 (Below w1.heap.size w1 wr)) (fun _ i _ => n2 - (intOf i).toNat)
  case atStart => exact ⟨0, 0, [], Nat.zero_le _, rfl, rfl, rfl, (fun z hz => absurd hz (List.not_mem_nil)), Aside0.mk (Kd.R_nil _ _ _ _ _), Aside0.mk (Below.refl _ _)⟩
  case round =>
    obtain ⟨j, k, zs, hj, rfl, hjk, hzl, hN, HZr, HBz⟩ := hrel
    obtain ⟨wz, rfl⟩ : ∃ wz : World, wz = wr := ⟨_, rfl⟩
    have hn2 := HY2.out
    have hj1 : IntKind.i64.wrap ((j : Int) + 1) = (j : Int) + 1 := by rw [IntKind.wrap_i64]; omega
    by_cases hlt : j + 1 < n2
    · have u1 : (j : Int) + 1 < (n2 : Int) := by omega
      have u2 : (j : Int) < (n2 : Int) := by omega
      have u3 : (0 : Int) ≤ (j : Int) := by omega
      have u4 : (0 : Int) ≤ (j : Int) + 1 := by omega
      have u5 : j < n2 := by omega
      have hj2 : IntKind.i64.wrap ((j : Int) + 2) = (j : Int) + 2 := by rw [IntKind.wrap_i64]; omega
      have HLIM := Aside0.mk (show (zs.length + 1) * 16 ≤ 140737488355328 by omega)
      obtain ⟨ad, hA, k1⟩ := int_at4 HR2.out j u5
      subst hA
      obtain ⟨ad', hA', k2⟩ := int_at4 HR2.out (j + 1) hlt
      obtain rfl := Option.some.inj hA'
      obtain ⟨p, hp⟩ : ∃ p, l2.getD j 0 = p := ⟨_, rfl⟩
      obtain ⟨q, hq⟩ : ∃ p, l2.getD (j + 1) 0 = p := ⟨_, rfl⟩
      rw [hp] at k1
      rw [hq] at k2
      rw [show ad.add (j + 1) = (⟨ad.block, ad.off + (j + 1), none⟩ : Addr) from by unfold Addr.add; rw [if_neg (Nat.succ_ne_zero j)]] at k2
      have HP1 := Aside0.mk (fun W (hb : Below w1.heap.size w1 W) => cell_stay4 k1 (below_step HB1.out hb))
      have HP2 := Aside0.mk (fun W (hb : Below w1.heap.size w1 W) => cell_stay4 k2 (below_step HB1.out hb))
      obtain ⟨x, y, hxy, CN0⟩ := number_any (wrap64 (2 * p)) (wrap64 (2 * q)) od 0
      have CN := Aside0.mk CN0
      have HXY := Aside0.mk (hxy rfl)
      have HNN := Aside0.mk hN
      have HZL := Aside0.mk hzl
      have HJK := Aside0.mk hjk
      have HLT := Aside0.mk hlt
      obtain ⟨vz, rfl⟩ : ∃ vz, vz = u12 := ⟨_, rfl⟩
      clear k1 k2 hA' hp hq hxy CN0 hN hzl hjk hlt
      go_wp2
      refine start_ (n := 17) (S := fun w' => Below w1.heap.size w1 w') (ds := []) #[false, false, false, false, false, false, false, false, false, false, false, false, false, false, false, false, false] (by kernel_rfl) rfl rfl (HBz.out.drew) (fun hHeld => ?_)
      obtain ⟨wq, hwq⟩ : ∃ wq, wz.drew = wq := ⟨_, rfl⟩; (have HOq := Aside0.mk (Kd.R_drew HZr.out)); (have HBq := Aside0.mk hHeld); rw [hwq] at hHeld HOq HBq ⊢; clear hwq
      refine pure_ (i := 0) (N := some 46) (v := ?_) (a' := ?_) #[true, false, false, false, false, false, false, false, false, false, false, false, false, false, false, false, false] rfl rfl (by kernel_rfl) (fun _ _ _ h => h) (Or.inl ⟨by rfl, ?_⟩) ?_ ?_
      rotate_left
      · intro w'
        go_simp
        with_reducible rfl
      rotate_left
      · (try show Act.put _ _ _ = _); simp only [Act.put, List.setIfInBounds_toArray, List.set_cons_zero, List.set_cons_succ, i64_w, i32_w]
        rfl
      refine pure_ (i := 1) (N := some 47) (v := ?_) (a' := ?_) #[true, true, false, false, false, false, false, false, false, false, false, false, false, false, false, false, false] rfl rfl (by kernel_rfl) (fun _ _ _ h => h) (Or.inl ⟨by rfl, ?_⟩) ?_ ?_
      rotate_left
      · intro w'
        go_simp
        with_reducible rfl
      rotate_left
      · (try show Act.put _ _ _ = _); simp only [Act.put, List.setIfInBounds_toArray, List.set_cons_zero, List.set_cons_succ, i64_w, i32_w]
        rfl
      refine pure_ (i := 2) (N := some 48) (v := ?_) (a' := ?_) #[true, true, true, false, false, false, false, false, false, false, false, false, false, false, false, false, false] rfl rfl (by kernel_rfl) (fun _ _ _ h => h) (Or.inl ⟨by rfl, ?_⟩) ?_ ?_
      rotate_left
      · intro w'
        go_simp
        with_reducible rfl
      rotate_left
      · (try show Act.put _ _ _ = _); simp only [Act.put, List.setIfInBounds_toArray, List.set_cons_zero, List.set_cons_succ, i64_w, i32_w]
        rfl
      refine pure_ (i := 3) (N := some 49) (v := ?_) (a' := ?_) #[true, true, true, true, false, false, false, false, false, false, false, false, false, false, false, false, false] rfl rfl (by kernel_rfl) (fun _ _ _ h => h) (Or.inl ⟨by rfl, ?_⟩) ?_ ?_
      rotate_left
      · intro w'
        go_simp
        with_reducible rfl
      rotate_left
      · (try show Act.put _ _ _ = _); simp only [Act.put, List.setIfInBounds_toArray, List.set_cons_zero, List.set_cons_succ, i64_w, i32_w]
        rfl
      refine pure_ (i := 6) (N := some 52) (v := ?_) (a' := ?_) #[true, true, true, true, false, false, true, false, false, false, false, false, false, false, false, false, false] rfl rfl (by kernel_rfl) (fun _ _ _ h => h) (Or.inl ⟨by rfl, ?_⟩) ?_ ?_
      rotate_left
      · intro w'
        go_simp
        with_reducible rfl
      rotate_left
      · (try show Act.put _ _ _ = _); simp only [Act.put, List.setIfInBounds_toArray, List.set_cons_zero, List.set_cons_succ, i64_w, i32_w]
        rfl
      refine pure_ (i := 7) (N := some 53) (v := ?_) (a' := ?_) #[true, true, true, true, false, false, true, true, false, false, false, false, false, false, false, false, false] rfl rfl (by kernel_rfl) (fun _ _ _ h => h) (Or.inl ⟨by rfl, ?_⟩) ?_ ?_
      rotate_left
      · intro w'
        go_simp
        with_reducible rfl
      rotate_left
      · (try show Act.put _ _ _ = _); simp only [Act.put, List.setIfInBounds_toArray, List.set_cons_zero, List.set_cons_succ, i64_w, i32_w]
        rfl
      refine pure_ (i := 8) (N := some 54) (v := ?_) (a' := ?_) #[true, true, true, true, false, false, true, true, true, false, false, false, false, false, false, false, false] rfl rfl (by kernel_rfl) (fun _ _ _ h => h) (Or.inl ⟨by rfl, ?_⟩) ?_ ?_
      rotate_left
      · intro w'
        go_simp
        with_reducible rfl
      rotate_left
      · (try show Act.put _ _ _ = _); simp only [Act.put, List.setIfInBounds_toArray, List.set_cons_zero, List.set_cons_succ, i64_w, i32_w]
        rfl
      refine pure_ (i := 9) (N := some 55) (v := ?_) (a' := ?_) #[true, true, true, true, false, false, true, true, true, true, false, false, false, false, false, false, false] rfl rfl (by kernel_rfl) (fun _ _ _ h => h) (Or.inl ⟨by rfl, ?_⟩) ?_ ?_
      rotate_left
      · intro w'
        go_simp
        with_reducible rfl
      rotate_left
      · (try show Act.put _ _ _ = _); simp only [Act.put, List.setIfInBounds_toArray, List.set_cons_zero, List.set_cons_succ, i64_w, i32_w]
        rfl
      refine pure_ (i := 12) (N := some 58) (v := ?_) (a' := ?_) #[true, true, true, true, false, false, true, true, true, true, false, false, true, false, false, false, false] rfl rfl (by kernel_rfl) (fun _ _ _ h => h) (Or.inl ⟨by rfl, ?_⟩) ?_ ?_
      rotate_left
      · intro w'
        go_simp
        with_reducible rfl
      rotate_left
      · (try show Act.put _ _ _ = _); simp only [Act.put, List.setIfInBounds_toArray, List.set_cons_zero, List.set_cons_succ, i64_w, i32_w]
        rfl
      refine take_ (i := 4) (N := some 50) (v := ?_) (a' := ?_) #[true, true, true, true, true, false, true, true, true, true, false, false, true, false, false, false, false] rfl rfl (by kernel_rfl) (fun _ _ _ h => h) (Or.inl ⟨by rfl, ?_⟩) hHeld ?_ ?_
      rotate_left
      · intro w' hS_
        have k1 := HP1.out _ hS_
        have k2 := HP2.out _ hS_
        go_simp
        with_reducible rfl
      rotate_left
      · (try show Act.put _ _ _ = _); simp only [Act.put, List.setIfInBounds_toArray, List.set_cons_zero, List.set_cons_succ, i64_w, i32_w]
        rfl
      refine pure_ (i := 5) (N := some 51) (v := ?_) (a' := ?_) #[true, true, true, true, true, true, true, true, true, true, false, false, true, false, false, false, false] rfl rfl (by kernel_rfl) (fun _ _ _ h => h) (Or.inl ⟨by rfl, ?_⟩) ?_ ?_
      rotate_left
      · intro w'
        go_simp
        with_reducible rfl
      rotate_left
      · (try show Act.put _ _ _ = _); simp only [Act.put, List.setIfInBounds_toArray, List.set_cons_zero, List.set_cons_succ, i64_w, i32_w]
        rfl
      refine take_ (i := 10) (N := some 56) (v := ?_) (a' := ?_) #[true, true, true, true, true, true, true, true, true, true, true, false, true, false, false, false, false] rfl rfl (by kernel_rfl) (fun _ _ _ h => h) (Or.inl ⟨by rfl, ?_⟩) hHeld ?_ ?_
      rotate_left
      · intro w' hS_
        have k1 := HP1.out _ hS_
        have k2 := HP2.out _ hS_
        go_simp
        with_reducible rfl
      rotate_left
      · (try show Act.put _ _ _ = _); simp only [Act.put, List.setIfInBounds_toArray, List.set_cons_zero, List.set_cons_succ, i64_w, i32_w]
        rfl
      refine pure_ (i := 11) (N := some 57) (v := ?_) (a' := ?_) #[true, true, true, true, true, true, true, true, true, true, true, true, true, false, false, false, false] rfl rfl (by kernel_rfl) (fun _ _ _ h => h) (Or.inl ⟨by rfl, ?_⟩) ?_ ?_
      rotate_left
      · intro w'
        go_simp
        with_reducible rfl
      rotate_left
      · (try show Act.put _ _ _ = _); simp only [Act.put, List.setIfInBounds_toArray, List.set_cons_zero, List.set_cons_succ, i64_w, i32_w]
        rfl
      refine one_ (i := 13) (N := some 59) #[true, true, true, true, true, true, true, true, true, true, true, true, true, true, false, false, false] rfl rfl (by kernel_rfl) (by decide) (fun K hK => ?_)
      refine goes_ Try.func22 (by kernel_rfl) rfl #[.int .i64 (wrap64 (2 * p)), .int .i64 (wrap64 (2 * q)), .float .f64 od, .int .i64 0] (by rfl) rfl rfl (by (try simp only [List.map_toArray, List.map_cons, List.map_nil]); first | done | rfl) ?_
      refine (CN.out _).mono ?_
      rintro e w4 ⟨rfl, hb⟩
      refine ⟨_, rfl, ?_⟩
      have hHeld2 := below_step hHeld hb
      have HO4 := Aside0.mk (Kd.R_below HOq.out hb)
      have HB4 := Aside0.mk hHeld2
      clear hb hHeld
      refine hK.out _ _ (hHeld2) (fun hHeld => ?_)
      clear hK K
      refine norm_ (a' := ?_) ?_ ?_
      rotate_left
      · show Act.put _ (some 59) _ = _
        simp only [Act.put, List.setIfInBounds_toArray, List.set_cons_zero, List.set_cons_succ, i64_w, i32_w]
        rfl
      refine one_ (i := 14) (N := some 60) #[true, true, true, true, true, true, true, true, true, true, true, true, true, true, true, false, false] rfl rfl (by kernel_rfl) (by decide) (fun K hK => ?_)
      refine value_ (w1 := ?_) (v := ?_) (by rfl) rfl ?_ ?_
      rotate_left 2
      · go_simp
        constructor
        · rfl
        · rfl
      refine hK.out _ _ (hHeld.alloc hHeld.size _) (fun hHeld => ?_)
      clear hK K
      refine norm_ (a' := ?_) ?_ ?_
      rotate_left
      · show Act.put _ (some 60) _ = _
        simp only [Act.put, List.setIfInBounds_toArray, List.set_cons_zero, List.set_cons_succ, i64_w, i32_w]
        rfl
      refine one_ (i := 15) (N := some 61) #[true, true, true, true, true, true, true, true, true, true, true, true, true, true, true, true, false] rfl rfl (by kernel_rfl) (by decide) (fun K hK => ?_)
      refine Kd.R_append_step KC (w0 := w1) w1.heap.size (by rfl) (.tmp 46) (.tmp 60) 24 31 (.complex .f64 0 0) 16 rfl Try.underlying24 cxInfo rfl (by decide) (by decide) vz zs (x, y) [.complex .f64 x y] (fun _ => True) (fun _ => False) rfl rfl ?aP (fun _ hk => hk.elim) ?aF ?aO ?aB ?aS ?aL ?_
      (case aP => exact rfl)
      (case aB => exact HB4.out)
      (case aF => exact (fun _ _ => trivial))
      (case aO => exact HO4.out)
      (case aS => exact HB4.out.size)
      (case aL => exact HLIM.out)
      intro v5 w5 ho hb_ hg_ hat
      clear hg_ hat
      have HO5 := Aside0.mk ho
      have HB5 := Aside0.mk hb_
      clear ho hb_
      refine hK.out _ _ (HB5.out) (fun hHeld => ?_)
      clear hK K
      refine norm_ (a' := ?_) ?_ ?_
      rotate_left
      · show Act.put _ (some 61) _ = _
        simp only [Act.put, List.setIfInBounds_toArray, List.set_cons_zero, List.set_cons_succ, i64_w, i32_w]
        rfl
      refine pure_ (i := 16) (N := some 12) (v := ?_) (a' := ?_) #[true, true, true, true, true, true, true, true, true, true, true, true, true, true, true, true, true] rfl rfl (by kernel_rfl) (fun _ _ _ h => h) (Or.inl ⟨by rfl, ?_⟩) ?_ ?_
      rotate_left
      · intro w'
        go_simp
        with_reducible rfl
      rotate_left
      · (try show Act.put _ _ _ = _); simp only [Act.put, List.setIfInBounds_toArray, List.set_cons_zero, List.set_cons_succ, i64_w, i32_w]
        rfl
      refine done_ (by kernel_rfl) ?_
      go_wp2
      go_roundw
      case rel => exact ⟨j + 2, k + 1, zs ++ [(x, y)], by have := HLT.out; omega, by go_num, by have := HJK.out; omega, by rw [List.length_append, HZL.out]; rfl, allN_snoc HNN.out x y HXY.out.1 HXY.out.2, HO5, HB5⟩
      case measure => have := HLT.out; simp [intOf]; omega
    · have u1 : ¬ ((j : Int) + 1 < (n2 : Int)) := by omega
      have hk16 : k * 16 ≤ 140737488351232 := by omega
      obtain ⟨Az, cz, rfl⟩ := Kd.R_slice HZr.out
      have hzr := HZr.out
      rw [hzl] at hzr ⊢
      have CL := Aside0.mk (lent_calls Az cz k zs wz hzl (by have h9 := (Kd.R_reads' hzr).2.2; (try rw [hzl] at h9); exact h9) (by have h9 := (Kd.R_reads' hzr).2.1; (try rw [hzl] at h9); exact h9) hk16)
      have HNN := Aside0.mk hN
      have HZL := Aside0.mk hzl
      have HK16 := Aside0.mk hk16
      have HJ2 := Aside0.mk (show 2 * k ≤ n2 by omega)
      clear hzr hj hjk hN hk16 hzl
      go_wp2_with (go_at_call 31; (with_reducible refine (CL.out).mono ?_); rintro e w7 ⟨g, cg, rfl, hcg, hg1, hg2, hR, hb⟩; (have HG := Aside0.mk (And.intro hcg (And.intro hg1 hg2))); (have HA7 := Aside0.mk hR); (have HB7 := Aside0.mk (below_step HBz.out hb)); (have HBl := Aside0.mk hb); (have hzlA := Aside0.mk HZL.out); (have hNA := Aside0.mk HNN.out); clear hcg hg1 hg2 hR hb)
      clear HNN HZL
      have ApOA := Aside0.mk (show Ap (.slice Ao n0 co) (.slice (some ⟨g, 0, none⟩) (k + 2) cg) from ap_new (Kd.R_below HOw.out HBz.out) HA7.out)
      go_loopw [16] (fun i wr => ∃ (r : Nat) (lo : List Bool) (zs : List (Nat × Nat)), r ≤ 2 ∧ i = .int .i64 (r : Int) ∧ lo.length = n0 ∧ zs.length = k ∧ allN zs ∧ Aside0 (Kd.R Kd.bool 4 wr w.heap.size (fun _ => True) (.slice Ao n0 co) lo) ∧ Aside0 (Kd.R KC 31 wr wz.heap.size (fun _ => True) (.slice (some ⟨g, 0, none⟩) (k + 2) cg) (zs ++ [mk1, mk2])) ∧ Aside0 (Below w.heap.size w wr)) (fun i _ => 2 - (intOf i).toNat)
      case atStart => exact ⟨0, l0, zs, by omega, rfl, HL0.out, hzlA.out, hNA.out, Aside0.mk (Kd.R_below (Kd.R_below HOw.out HBz.out) HBl.out), HA7, Aside0.mk (below_step HB1.out HB7.out)⟩
      case round =>
        obtain ⟨r, lo, zs, hr, rfl, hlo, hzl, hN, HO_7, HA_7, HB_7⟩ := hrel
        obtain ⟨wx, rfl⟩ : ∃ wx : World, wx = wr := ⟨_, rfl⟩
        have HLO := Aside0.mk hlo
        have HZL := Aside0.mk hzl
        have HNN := Aside0.mk hN
        have HFZ := Aside0.mk (fun i (hi : i < k) => allN_fine hN i (by rw [hzl]; exact hi))
        have HKN := Aside0.mk (show k < 140737488355000 by have := HK16.out; omega)
        have HGC := Aside0.mk HG.out.1
        have HKC := Aside0.mk (show k ≤ cg by have := HG.out.1; omega)
        have hkc := HKC.out
        have hkc2 : (k : Int) ≤ (cg : Int) := by omega
        obtain ⟨zr, er, hzr1, hzr2, hcr1, hcr2⟩ := row_both lo st
        obtain ⟨bl, eb, hbl1, hck1, hck2⟩ := back_both zs st
        obtain ⟨nr, hnr⟩ : ∃ nr, zr.length = nr := ⟨_, rfl⟩
        obtain ⟨nb, hnb⟩ : ∃ nb, bl.length = nb := ⟨_, rfl⟩
        rw [hnr] at hzr1 hzr2
        rw [hnb] at hbl1
        have HZR := Aside0.mk hnr
        have HBL := Aside0.mk hnb
        have HFR := Aside0.mk hzr2
        have HNR := Aside0.mk (show nr < 140737488355000 by omega)
        have HNB := Aside0.mk (show nb ≤ 9223372036854775806 by omega)
        have CR1 := Aside0.mk hcr1
        have CR2 := Aside0.mk hcr2
        have CK1 := Aside0.mk hck1
        have CK2 := Aside0.mk hck2
        clear hlo hzl hN hzr1 hzr2 hcr1 hcr2 hbl1 hck1 hck2 hnr hnb
        by_cases hlr : r < 2
        · have t1 : (r : Int) < 2 := by omega
          have t0 : (0 : Int) ≤ (r : Int) := by omega
          have hrs : IntKind.i64.wrap ((r : Int) + 1) = (r : Int) + 1 := by rw [IntKind.wrap_i64]; omega
          have HLR := Aside0.mk hlr
          clear hlr
          go_wp2_with (first
    | ((with_reducible refine gate_dst (N := 71) rfl ?_); refine Kd.R_lit KC _ 31 ?hg (N := 71) ?hd (xs := ([] : List (Nat × Nat))) (inner := []) (ok := fun _ => True) (okp := fun _ => True) ?hr ?hp (fun _ hk => hk) trivial (Below.refl _ _) (Nat.le_refl _) (by simp) ?_; (case hd => rfl); (case hg => rfl); (case hr => first | (go_simp; done) | (go_simp; rfl)); (case hp => exact (Reps.none _ _)); intro vl71 wl71 ho hb hg_ hnew_; clear hg_ hnew_; have HLo71 := Aside0.mk ho; have HLb71 := Aside0.mk hb; clear ho hb)
    | ((with_reducible refine gate_builtin (b := .append) (xs := #[.tmp 71, .tmp 72]) rfl ?_); at_builtin; refine Kd.R_append_rows KC (w0 := wx) wx.heap.size rfl (.tmp 71) (.tmp 72) 24 31 (.complex .f64 0 0) 16 rfl Try.underlying24 cxInfo rfl (by decide) (by decide) vl71 [] zs _ _ _ (fun _ => True) (fun _ => False) rfl rfl ?aO ?aR (fun _ _ h => h) (fun _ h => h.elim) ?aF ?aB ?aS ?aL ?_; (case aR => first | exact C_cut (Kd.C_below (lentC HA_7.out HZL.out) HLb71.out) HZL.out | (rw [HZL.out]; exact C_cut (Kd.C_below (lentC HA_7.out HZL.out) HLb71.out) HZL.out)); (case aB => exact HLb71.out); (case aF => exact (fun _ _ => trivial)); (case aO => exact HLo71.out); (case aS => exact HLb71.out.size); (case aL => have h1 := HK16.out; have h2 := HZL.out; simp; omega); intro vn w8 ho hb hg hat; clear hg hat; (have hR := (show Kd.R KC 31 w8 wx.heap.size (fun _ => True) vn zs from ho)); clear ho; (have HO_8 := Aside0.mk (Kd.R_below HO_7.out hb)); (have HA_8 := Aside0.mk (Kd.R_below HA_7.out hb)); (have HB_8 := Aside0.mk (below_step HB_7.out hb)); (have HE_8 := Aside0.mk (Below.refl w8.heap.size w8)); (obtain ⟨AN, cN, rfl⟩ := Kd.R_slice hR); (rw [HZL.out] at hR ⊢); (have HN_8 := Aside0.mk hR); clear hb hR)
    | (go_at_call 32; (with_reducible refine (CR1.out Ao co n0 w8 HLO.out (rowC HO_8.out HLO.out) (rowLe HO_8.out HLO.out)).mono ?_); rintro e w9 ⟨va, rfl, hR, hb⟩; (have HO_9 := Aside0.mk (Kd.R_below HO_8.out hb)); (have HA_9 := Aside0.mk (Kd.R_below HA_8.out hb)); (have HN_9 := Aside0.mk (Kd.R_below HN_8.out hb)); (have HB_9 := Aside0.mk (below_step HB_8.out hb)); (have HE_9 := Aside0.mk (below_step HE_8.out hb)); (obtain ⟨Aa, ca, rfl⟩ := Kd.R_slice hR); (rw [HZR.out] at hR ⊢); (have Ha_9 := Aside0.mk hR); (have ApOa := Aside0.mk (ap_new HO_8.out hR)); (have ApAa := Aside0.mk (ap_new HA_8.out hR)); clear hR; clear hb)
    | (go_at_call 32; (with_reducible refine (CR1.out Ao co n0 w9 HLO.out (rowC HO_9.out HLO.out) (rowLe HO_9.out HLO.out)).mono ?_); rintro e w10 ⟨vb, rfl, hR, hb⟩; (have HO_10 := Aside0.mk (Kd.R_below HO_9.out hb)); (have HA_10 := Aside0.mk (Kd.R_below HA_9.out hb)); (have HN_10 := Aside0.mk (Kd.R_below HN_9.out hb)); (have Ha_10 := Aside0.mk (Kd.R_below Ha_9.out hb)); (have HB_10 := Aside0.mk (below_step HB_9.out hb)); (have HE_10 := Aside0.mk (below_step HE_9.out hb)); (obtain ⟨Ab, cb, rfl⟩ := Kd.R_slice hR); (rw [HZR.out] at hR ⊢); (have Hb_10 := Aside0.mk hR); (have Apab := Aside0.mk (ap_new Ha_9.out hR)); (have ApOb := Aside0.mk (ap_new HO_9.out hR)); (have ApAb := Aside0.mk (ap_new HA_9.out hR)); clear hR; clear hb)
    | (go_at_call 33; (with_reducible refine (CR2.out Ao co n0 w10 HLO.out (rowC HO_10.out HLO.out) (rowLe HO_10.out HLO.out)).mono ?_); rintro e w11 ⟨vc, rfl, hR, hb⟩; (have HO_11 := Aside0.mk (Kd.R_below HO_10.out hb)); (have HA_11 := Aside0.mk (Kd.R_below HA_10.out hb)); (have HN_11 := Aside0.mk (Kd.R_below HN_10.out hb)); (have Ha_11 := Aside0.mk (Kd.R_below Ha_10.out hb)); (have Hb_11 := Aside0.mk (Kd.R_below Hb_10.out hb)); (have HB_11 := Aside0.mk (below_step HB_10.out hb)); (have HE_11 := Aside0.mk (below_step HE_10.out hb)); (obtain ⟨Ac, cc, rfl⟩ := Kd.R_slice hR); (rw [HZR.out] at hR ⊢); (have Hc_11 := Aside0.mk hR); (have Apac := Aside0.mk (ap_new Ha_10.out hR)); (have ApOc := Aside0.mk (ap_new HO_10.out hR)); (have ApAc := Aside0.mk (ap_new HA_10.out hR)); clear hR; clear hb)
    | (go_at_call 34; (with_reducible refine (CK1.out (some ⟨g, 0, none⟩) cg k w11 HZL.out (C_cut (lentC HA_11.out HZL.out) HZL.out) HKC.out).mono ?_); rintro e w12 ⟨vx, rfl, hR, hb⟩; (have HO_12 := Aside0.mk (Kd.R_below HO_11.out hb)); (have HA_12 := Aside0.mk (Kd.R_below HA_11.out hb)); (have HN_12 := Aside0.mk (Kd.R_below HN_11.out hb)); (have Ha_12 := Aside0.mk (Kd.R_below Ha_11.out hb)); (have Hb_12 := Aside0.mk (Kd.R_below Hb_11.out hb)); (have Hc_12 := Aside0.mk (Kd.R_below Hc_11.out hb)); (have HB_12 := Aside0.mk (below_step HB_11.out hb)); (have HE_12 := Aside0.mk (below_step HE_11.out hb)); (obtain ⟨Ax, cx, rfl⟩ := Kd.R_slice hR); (rw [HBL.out] at hR ⊢); (have Hx_12 := Aside0.mk hR); clear hR; clear hb)
    | (go_at_call 35; (with_reducible refine (CK2.out AN cN k w12 HZL.out (rowC HN_12.out HZL.out) (rowLe HN_12.out HZL.out)).mono ?_); rintro e w13 ⟨vy, rfl, hR, hb⟩; (have HO_13 := Aside0.mk (Kd.R_below HO_12.out hb)); (have HA_13 := Aside0.mk (Kd.R_below HA_12.out hb)); (have HN_13 := Aside0.mk (Kd.R_below HN_12.out hb)); (have Ha_13 := Aside0.mk (Kd.R_below Ha_12.out hb)); (have Hb_13 := Aside0.mk (Kd.R_below Hb_12.out hb)); (have Hc_13 := Aside0.mk (Kd.R_below Hc_12.out hb)); (have Hx_13 := Aside0.mk (Kd.R_below Hx_12.out hb)); (have HB_13 := Aside0.mk (below_step HB_12.out hb)); (have HE_13 := Aside0.mk (below_step HE_12.out hb)); (obtain ⟨Ay, cy, rfl⟩ := Kd.R_slice hR); (rw [HBL.out] at hR ⊢); (have Hy_13 := Aside0.mk hR); clear hR; clear hb)
    | (go_at_call 21; (with_reducible refine (same_points Aa Ac ca cc nr zr w13 HZR.out (rowC Ha_13.out HZR.out) (rowC Hc_13.out HZR.out) HFR.out HNR.out).mono ?_); rintro e w14 ⟨rfl, hd⟩; (have hb := below_of_drew4 hd); clear hd; (have HO_14 := Aside0.mk (Kd.R_below HO_13.out hb)); (have HA_14 := Aside0.mk (Kd.R_below HA_13.out hb)); (have HN_14 := Aside0.mk (Kd.R_below HN_13.out hb)); (have Ha_14 := Aside0.mk (Kd.R_below Ha_13.out hb)); (have Hb_14 := Aside0.mk (Kd.R_below Hb_13.out hb)); (have Hc_14 := Aside0.mk (Kd.R_below Hc_13.out hb)); (have Hx_14 := Aside0.mk (Kd.R_below Hx_13.out hb)); (have Hy_14 := Aside0.mk (Kd.R_below Hy_13.out hb)); (have HB_14 := Aside0.mk (below_step HB_13.out hb)); (have HE_14 := Aside0.mk (below_step HE_13.out hb)); clear hb)
    | (go_at_call 36; (with_reducible refine (same_n Ax cx Ay cy nb bl w14 HBL.out (rowC Hx_14.out HBL.out) (rowLe Hx_14.out HBL.out) (rowC Hy_14.out HBL.out) (rowLe Hy_14.out HBL.out) HNB.out).mono ?_); rintro e w15 ⟨rfl, hb⟩; (have HO_15 := Aside0.mk (Kd.R_below HO_14.out hb)); (have HA_15 := Aside0.mk (Kd.R_below HA_14.out hb)); (have HN_15 := Aside0.mk (Kd.R_below HN_14.out hb)); (have Ha_15 := Aside0.mk (Kd.R_below Ha_14.out hb)); (have Hb_15 := Aside0.mk (Kd.R_below Hb_14.out hb)); (have Hc_15 := Aside0.mk (Kd.R_below Hc_14.out hb)); (have HB_15 := Aside0.mk (below_step HB_14.out hb)); (have HE_15 := Aside0.mk (below_step HE_14.out hb)); clear hb)
    | (go_at_call 37; (with_reducible refine (unhurt_calls ⟨g, 0, none⟩ cg k AN cN zs w15 HZL.out (lentC HA_15.out HZL.out) HGC.out (rowC HN_15.out HZL.out) HFZ.out HKN.out).mono ?_); rintro e w16 ⟨rfl, hb⟩; (have HO_16 := Aside0.mk (Kd.R_below HO_15.out hb)); (have HA_16 := Aside0.mk (Kd.R_below HA_15.out hb)); (have Ha_16 := Aside0.mk (Kd.R_below Ha_15.out hb)); (have Hb_16 := Aside0.mk (Kd.R_below Hb_15.out hb)); (have Hc_16 := Aside0.mk (Kd.R_below Hc_15.out hb)); (have HB_16 := Aside0.mk (below_step HB_15.out hb)); (have HE_16 := Aside0.mk (below_step HE_15.out hb)); clear hb))
          go_loopw [28] (fun i wy => ∃ m : Nat, m ≤ nr ∧ i = .int .i64 (m : Int) ∧ Aside0 (∃ L', L'.length = nr ∧ Kd.R KC 31 wy w8.heap.size (fun _ => True) (.slice Aa nr ca) L') ∧ Aside0 (Kd.R Kd.bool 4 wy w.heap.size (fun _ => True) (.slice Ao n0 co) lo) ∧ Aside0 (Kd.R KC 31 wy wz.heap.size (fun _ => True) (.slice (some ⟨g, 0, none⟩) (k + 2) cg) (zs ++ [mk1, mk2])) ∧ Aside0 (Kd.R KC 31 wy w9.heap.size (fun _ => True) (.slice Ab nr cb) zr) ∧ Aside0 (Kd.R KC 31 wy w10.heap.size (fun _ => True) (.slice Ac nr cc) zr) ∧ Aside0 (Below w8.heap.size w8 wy)) (fun i _ => nr - (intOf i).toNat)
          case atStart => exact ⟨0, Nat.zero_le _, rfl, Aside0.mk ⟨zr, HZR.out, Ha_16.out⟩, HO_16, HA_16, Hb_16, Hc_16, HE_16⟩
          case round =>
            obtain ⟨m, hm, rfl, HAx, HOx, HAAx, HBx, HCx, HDx⟩ := hrel
            obtain ⟨wy, rfl⟩ : ∃ wy : World, wy = wr := ⟨_, rfl⟩
            have hnrb := HNR.out
            by_cases hlm : m < nr
            · have t2 : (m : Int) < (nr : Int) := by omega
              have t3 : (0 : Int) ≤ (m : Int) := by omega
              have hms : IntKind.i64.wrap ((m : Int) + 1) = (m : Int) + 1 := by rw [IntKind.wrap_i64]; omega
              obtain ⟨L', hL', hR⟩ := HAx.out
              obtain ⟨ga, c', hv, hgb2, hgl, _⟩ := Kd.R_form hR (by omega)
              simp only [Value.slice.injEq] at hv
              obtain ⟨rfl, hlen_, rfl⟩ := hv
              clear hlen_
              have HCC := Aside0.mk (cx_hcc hR hL' m hlm)
              have HX := Aside0.mk hR
              have HL' := Aside0.mk hL'
              have HNb := Aside0.mk (show some ga ≠ (Value.slice Ab nr cb).ownBlock from fun e => Apab.out ga rfl e.symm)
              have HNc := Aside0.mk (show some ga ≠ (Value.slice Ac nr cc).ownBlock from fun e => Apac.out ga rfl e.symm)
              have HNo := Aside0.mk (show some ga ≠ (Value.slice Ao n0 co).ownBlock from fun e => ApOa.out ga e.symm rfl)
              have HNa := Aside0.mk (show some ga ≠ (Value.slice (some ⟨g, 0, none⟩) (k + 2) cg).ownBlock from fun e => ApAa.out ga e.symm rfl)
              clear hR hL' HAx
              have HM := Aside0.mk hlm
              go_wp2_with (((with_reducible refine gate_ (.store 31 (.tmp 138) (.const (.complex .f64 4636666922610458624 0))) rfl ?_); (refine Kd.R_store KC (w0 := w8) w8.heap.size rfl rfl 31 _ _ rfl 31 (m : Int) 0 _ (4636666922610458624, 0) (.complex .f64 4636666922610458624 0) [.complex .f64 4636666922610458624 0] [.complex .f64 (L'.getD m (0, 0)).1 (L'.getD m (0, 0)).2] (fun _ => True) (fun _ => False) rfl ?ho rfl rfl ?ht ?h1 HX.out (by omega) (by (have h := HL'.out; have h2 := HM.out; omega)) rfl HCC.out (by first | decide | exact Nat.le_refl 1) ?hM (fun _ hk => hk.elim) HDx.out ?_); (case ho => rw [Int.toNat_natCast]; show m = m * 1 + 0; omega); (case ht => rfl); (case h1 => intro q hq; obtain rfl := List.mem_singleton.1 hq; rfl); (case hM => exact rfl); intro w17 hx3 hb3 hg3; (have HB4 := Aside0.mk (Kd.R_grown1 HBx.out rfl hg3 HNb.out)); (have HC4 := Aside0.mk (Kd.R_grown1 HCx.out rfl hg3 HNc.out)); (have HO4 := Aside0.mk (Kd.R_grown1 HOx.out rfl hg3 HNo.out)); (have HA4 := Aside0.mk (Kd.R_grown1 HAAx.out rfl hg3 HNa.out)); clear hg3; (have HX3 := Aside0.mk hx3); (have HM3 := Aside0.mk hb3); clear hx3 hb3))
              exact ⟨⟨m + 1, hlm, by go_num, Aside0.mk ⟨_, by rw [List.length_set]; exact HL'.out, HX3.out⟩, HO4, HA4, HB4, HC4, HM3⟩, by show nr - ((m : Int) + 1).toNat < nr - (m : Int).toNat; omega⟩
            · obtain rfl : nr = m := by omega
              have HF_16 := Aside0.mk (below_step HB_8.out HDx.out)
              go_wp2_with (go_at_call 21; (with_reducible refine (same_points Ab Ac cb cc nr zr wy HZR.out (rowC HBx.out HZR.out) (rowC HCx.out HZR.out) HFR.out HNR.out).mono ?_); rintro e w18 ⟨rfl, hd⟩; (have hb := below_of_drew4 hd); (have HO_18 := Aside0.mk (Kd.R_below HOx.out hb)); (have HA_18 := Aside0.mk (Kd.R_below HAAx.out hb)); (have HB_18 := Aside0.mk (below_step HF_16.out hb)); clear hb hd)
              go_loopw [29] (fun i wy => ∃ m : Nat, m ≤ n0 ∧ i = .int .i64 (m : Int) ∧ Aside0 (∃ L', L'.length = n0 ∧ Kd.R Kd.bool 4 wy w.heap.size (fun _ => True) (.slice Ao n0 co) L') ∧ Aside0 (Kd.R KC 31 wy wz.heap.size (fun _ => True) (.slice (some ⟨g, 0, none⟩) (k + 2) cg) (zs ++ [mk1, mk2])) ∧ Aside0 (Below w.heap.size w wy)) (fun i _ => n0 - (intOf i).toNat)
              case atStart => exact ⟨0, Nat.zero_le _, rfl, Aside0.mk ⟨lo, HLO.out, HO_18.out⟩, HA_18, HB_18⟩
              case round =>
                obtain ⟨m2, hm2, rfl, HOy, HAy, HBy⟩ := hrel
                obtain ⟨wv, rfl⟩ : ∃ wv : World, wv = wr := ⟨_, rfl⟩
                have hn0 := HY0.out
                by_cases hlm2 : m2 < n0
                · have t4 : (m2 : Int) < (n0 : Int) := by omega
                  have t5 : (0 : Int) ≤ (m2 : Int) := by omega
                  have hms2 : IntKind.i64.wrap ((m2 : Int) + 1) = (m2 : Int) + 1 := by rw [IntKind.wrap_i64]; omega
                  obtain ⟨L', hL', hR⟩ := HOy.out
                  obtain ⟨go, c', hv, hgb2, hgl, _⟩ := Kd.R_form hR (by omega)
                  simp only [Value.slice.injEq] at hv
                  obtain ⟨rfl, hlen_, rfl⟩ := hv
                  clear hlen_
                  have HCC := Aside0.mk (bool_hcc hR hL' m2 hlm2)
                  have kc := HCC.out 0 _ rfl
                  rw [show (m2 : Int).toNat * Kd.bool.sz + 0 = m2 from by rw [Int.toNat_natCast]; show m2 * 1 + 0 = m2; omega] at kc
                  have HX := Aside0.mk hR
                  have HL' := Aside0.mk hL'
                  have HNa := Aside0.mk (show some go ≠ (Value.slice (some ⟨g, 0, none⟩) (k + 2) cg).ownBlock from fun e => ApOA.out go rfl e.symm)
                  obtain ⟨bv, hbv⟩ : ∃ b, L'.getD m2 false = b := ⟨_, rfl⟩
                  rw [hbv] at HCC kc
                  have HM := Aside0.mk hlm2
                  clear hR hL' HOy hbv
                  go_wp2_with (((with_reducible refine gate_ (.store 4 (.tmp 156) (.tmp 155)) rfl ?_); (refine Kd.R_store Kd.bool (w0 := w) w.heap.size rfl rfl 4 _ _ rfl 4 (m2 : Int) 0 _ (!bv) (.bool (!bv)) [.bool (!bv)] [.bool bv] (fun _ => True) (fun _ => False) rfl ?ho rfl rfl ?ht ?h1 HX.out (by omega) (by (have h := HL'.out; have h2 := HM.out; omega)) rfl HCC.out (by first | decide | exact Nat.le_refl 1) ?hM (fun _ hk => hk.elim) HBy.out ?_); (case ho => rw [Int.toNat_natCast]; show m2 = m2 * 1 + 0; omega); (case ht => rfl); (case h1 => intro q hq; obtain rfl := List.mem_singleton.1 hq; rfl); (case hM => exact rfl); intro w19 hx3 hb3 hg3; (have HA4 := Aside0.mk (Kd.R_grown1 HAy.out rfl hg3 HNa.out)); clear hg3; (have HX3 := Aside0.mk hx3); (have HM3 := Aside0.mk hb3); clear hx3 hb3))
                  exact ⟨⟨m2 + 1, hlm2, by go_num, Aside0.mk ⟨_, by rw [List.length_set]; exact HL'.out, HX3.out⟩, HA4, HM3⟩, by show n0 - ((m2 : Int) + 1).toNat < n0 - (m2 : Int).toNat; omega⟩
                · obtain rfl : n0 = m2 := by omega
                  clear hm2 hn0
                  go_wp2
                  go_loopw [30] (fun i wy => ∃ (m : Nat) (zs2 : List (Nat × Nat)), m ≤ k ∧ i = .int .i64 (m : Int) ∧ zs2.length = k ∧ allN zs2 ∧ Aside0 (∃ L', L'.length = n0 ∧ Kd.R Kd.bool 4 wy w.heap.size (fun _ => True) (.slice Ao n0 co) L') ∧ Aside0 (Kd.R KC 31 wy wz.heap.size (fun _ => True) (.slice (some ⟨g, 0, none⟩) (k + 2) cg) (zs2 ++ [mk1, mk2])) ∧ Aside0 (Below w.heap.size w wy)) (fun i _ => k - (intOf i).toNat)
                  case atStart => exact ⟨0, zs, Nat.zero_le _, rfl, HZL.out, HNN.out, HOy, HAy, HBy⟩
                  case round =>
                    clear HOy HAy HBy
                    obtain ⟨m3, zs2, hm3, rfl, hzl2, hN2, HOy, HAy, HBy⟩ := hrel
                    obtain ⟨wv, rfl⟩ : ∃ wv : World, wv = wr := ⟨_, rfl⟩
                    have hkn := HKN.out
                    by_cases hlm3 : m3 < k
                    · have t6 : (m3 : Int) < (k : Int) := by omega
                      have t7 : (0 : Int) ≤ (m3 : Int) := by omega
                      have hms3 : IntKind.i64.wrap ((m3 : Int) + 1) = (m3 : Int) + 1 := by rw [IntKind.wrap_i64]; omega
                      obtain ⟨x, y, hxy⟩ : ∃ x y : Nat, zs2.getD m3 (0, 0) = (x, y) := ⟨_, _, rfl⟩
                      have hnn : notNan x ∧ notNan y := by
                        have h9 := hN2 (zs2.getD m3 (0, 0)) (by rw [List.getD_eq_getElem?_getD, List.getElem?_eq_getElem (by omega)]; exact List.getElem_mem _)
                        rw [hxy] at h9
                        exact h9
                      obtain ⟨ad, hA, kz⟩ := cx_at (lentC HAy.out hzl2) m3 (by omega)
                      obtain rfl := Option.some.inj hA
                      rw [List.getD_eq_getElem?_getD, List.getElem?_append_left (by omega), ← List.getD_eq_getElem?_getD, hxy, add_zero_form] at kz
                      simp only at kz
                      have HCEL := Aside0.mk (fun W (hb : Below wv.heap.size wv W) => cell_stay4 kz hb)
                      have HXY := Aside0.mk hnn
                      have HZ2 := Aside0.mk hzl2
                      have HN2 := Aside0.mk hN2
                      have HLM := Aside0.mk hlm3
                      have hng : ∀ (b : Nat) (W : World), Sem.run Try.prog (Op.unary UnOp.neg (Value.float .f64 b)) W = .ok (.float .f64 (ngF b)) W := fun b W => rfl
                      clear hxy hnn hA kz hN2 hzl2 hlm3
                      go_wp2
                      refine start_ (n := 16) (S := fun w' => Below wv.heap.size wv w') (ds := [15]) #[false, false, false, false, false, false, false, false, false, false, false, false, false, false, false, false] (by kernel_rfl) rfl rfl ((Below.refl wv.heap.size wv).drew) (fun hHeld => ?_)
                      generalize wv.drew = wd at hHeld ⊢
                      refine pure_ (i := 0) (N := some 163) (v := ?_) (a' := ?_) #[true, false, false, false, false, false, false, false, false, false, false, false, false, false, false, false] rfl rfl (by kernel_rfl) (fun _ _ _ h => h) (Or.inl ⟨by rfl, ?_⟩) ?_ ?_
                      rotate_left
                      · intro w'
                        go_simp
                        with_reducible rfl
                      rotate_left
                      · (try show Act.put _ _ _ = _); simp only [Act.put, List.setIfInBounds_toArray, List.set_cons_zero, List.set_cons_succ, i64_w, i32_w]
                        rfl
                      refine pure_ (i := 1) (N := some 164) (v := ?_) (a' := ?_) #[true, true, false, false, false, false, false, false, false, false, false, false, false, false, false, false] rfl rfl (by kernel_rfl) (fun _ _ _ h => h) (Or.inl ⟨by rfl, ?_⟩) ?_ ?_
                      rotate_left
                      · intro w'
                        go_simp
                        with_reducible rfl
                      rotate_left
                      · (try show Act.put _ _ _ = _); simp only [Act.put, List.setIfInBounds_toArray, List.set_cons_zero, List.set_cons_succ, i64_w, i32_w]
                        rfl
                      refine pure_ (i := 2) (N := some 165) (v := ?_) (a' := ?_) #[true, true, true, false, false, false, false, false, false, false, false, false, false, false, false, false] rfl rfl (by kernel_rfl) (fun _ _ _ h => h) (Or.inl ⟨by rfl, ?_⟩) ?_ ?_
                      rotate_left
                      · intro w'
                        go_simp
                        with_reducible rfl
                      rotate_left
                      · (try show Act.put _ _ _ = _); simp only [Act.put, List.setIfInBounds_toArray, List.set_cons_zero, List.set_cons_succ, i64_w, i32_w]
                        rfl
                      refine pure_ (i := 3) (N := some 166) (v := ?_) (a' := ?_) #[true, true, true, true, false, false, false, false, false, false, false, false, false, false, false, false] rfl rfl (by kernel_rfl) (fun _ _ _ h => h) (Or.inl ⟨by rfl, ?_⟩) ?_ ?_
                      rotate_left
                      · intro w'
                        go_simp
                        with_reducible rfl
                      rotate_left
                      · (try show Act.put _ _ _ = _); simp only [Act.put, List.setIfInBounds_toArray, List.set_cons_zero, List.set_cons_succ, i64_w, i32_w]
                        rfl
                      refine pure_ (i := 4) (N := some 167) (v := ?_) (a' := ?_) #[true, true, true, true, true, false, false, false, false, false, false, false, false, false, false, false] rfl rfl (by kernel_rfl) (fun _ _ _ h => h) (Or.inl ⟨by rfl, ?_⟩) ?_ ?_
                      rotate_left
                      · intro w'
                        go_simp
                        with_reducible rfl
                      rotate_left
                      · (try show Act.put _ _ _ = _); simp only [Act.put, List.setIfInBounds_toArray, List.set_cons_zero, List.set_cons_succ, i64_w, i32_w]
                        rfl
                      refine pure_ (i := 8) (N := some 171) (v := ?_) (a' := ?_) #[true, true, true, true, true, false, false, false, true, false, false, false, false, false, false, false] rfl rfl (by kernel_rfl) (fun _ _ _ h => h) (Or.inl ⟨by rfl, ?_⟩) ?_ ?_
                      rotate_left
                      · intro w'
                        go_simp
                        with_reducible rfl
                      rotate_left
                      · (try show Act.put _ _ _ = _); simp only [Act.put, List.setIfInBounds_toArray, List.set_cons_zero, List.set_cons_succ, i64_w, i32_w]
                        rfl
                      refine pure_ (i := 9) (N := some 172) (v := ?_) (a' := ?_) #[true, true, true, true, true, false, false, false, true, true, false, false, false, false, false, false] rfl rfl (by kernel_rfl) (fun _ _ _ h => h) (Or.inl ⟨by rfl, ?_⟩) ?_ ?_
                      rotate_left
                      · intro w'
                        go_simp
                        with_reducible rfl
                      rotate_left
                      · (try show Act.put _ _ _ = _); simp only [Act.put, List.setIfInBounds_toArray, List.set_cons_zero, List.set_cons_succ, i64_w, i32_w]
                        rfl
                      refine pure_ (i := 10) (N := some 173) (v := ?_) (a' := ?_) #[true, true, true, true, true, false, false, false, true, true, true, false, false, false, false, false] rfl rfl (by kernel_rfl) (fun _ _ _ h => h) (Or.inl ⟨by rfl, ?_⟩) ?_ ?_
                      rotate_left
                      · intro w'
                        go_simp
                        with_reducible rfl
                      rotate_left
                      · (try show Act.put _ _ _ = _); simp only [Act.put, List.setIfInBounds_toArray, List.set_cons_zero, List.set_cons_succ, i64_w, i32_w]
                        rfl
                      refine take_ (i := 5) (N := some 168) (v := ?_) (a' := ?_) #[true, true, true, true, true, true, false, false, true, true, true, false, false, false, false, false] rfl rfl (by kernel_rfl) (fun _ _ _ h => h) (Or.inl ⟨by rfl, ?_⟩) hHeld ?_ ?_
                      rotate_left
                      · intro w' hS_
                        have kz_ := HCEL.out _ hS_
                        go_simp
                        with_reducible rfl
                      rotate_left
                      · (try show Act.put _ _ _ = _); simp only [Act.put, List.setIfInBounds_toArray, List.set_cons_zero, List.set_cons_succ, i64_w, i32_w]
                        rfl
                      refine pure_ (i := 6) (N := some 169) (v := ?_) (a' := ?_) #[true, true, true, true, true, true, true, false, true, true, true, false, false, false, false, false] rfl rfl (by kernel_rfl) (fun _ _ _ h => h) (Or.inl ⟨by rfl, ?_⟩) ?_ ?_
                      rotate_left
                      · intro w'
                        go_simp
                        with_reducible rfl
                      rotate_left
                      · (try show Act.put _ _ _ = _); simp only [Act.put, List.setIfInBounds_toArray, List.set_cons_zero, List.set_cons_succ, i64_w, i32_w]
                        rfl
                      refine pure_ (i := 7) (N := some 170) (v := ?_) (a' := ?_) #[true, true, true, true, true, true, true, true, true, true, true, false, false, false, false, false] rfl rfl (by kernel_rfl) (fun _ _ _ h => h) (Or.inl ⟨by rfl, ?_⟩) ?_ ?_
                      rotate_left
                      · intro w'
                        go_simp
                        with_reducible rfl
                      rotate_left
                      · (try show Act.put _ _ _ = _); simp only [Act.put, List.setIfInBounds_toArray, List.set_cons_zero, List.set_cons_succ, i64_w, i32_w]
                        rfl
                      refine take_ (i := 11) (N := some 174) (v := ?_) (a' := ?_) #[true, true, true, true, true, true, true, true, true, true, true, true, false, false, false, false] rfl rfl (by kernel_rfl) (fun _ _ _ h => h) (Or.inl ⟨by rfl, ?_⟩) hHeld ?_ ?_
                      rotate_left
                      · intro w' hS_
                        have kz_ := HCEL.out _ hS_
                        go_simp
                        with_reducible rfl
                      rotate_left
                      · (try show Act.put _ _ _ = _); simp only [Act.put, List.setIfInBounds_toArray, List.set_cons_zero, List.set_cons_succ, i64_w, i32_w]
                        rfl
                      refine pure_ (i := 12) (N := some 175) (v := ?_) (a' := ?_) #[true, true, true, true, true, true, true, true, true, true, true, true, true, false, false, false] rfl rfl (by kernel_rfl) (fun _ _ _ h => h) (Or.inl ⟨by rfl, ?_⟩) ?_ ?_
                      rotate_left
                      · intro w'
                        go_simp
                        with_reducible rfl
                      rotate_left
                      · (try show Act.put _ _ _ = _); simp only [Act.put, List.setIfInBounds_toArray, List.set_cons_zero, List.set_cons_succ, i64_w, i32_w]
                        rfl
                      refine pure_ (i := 13) (N := some 176) (v := ?_) (a' := ?_) #[true, true, true, true, true, true, true, true, true, true, true, true, true, true, false, false] rfl rfl (by kernel_rfl) (fun _ _ _ h => h) (Or.inl ⟨by rfl, ?_⟩) ?_ ?_
                      rotate_left
                      · intro w'
                        go_simp
                        with_reducible rfl
                      rotate_left
                      · (try show Act.put _ _ _ = _); simp only [Act.put, List.setIfInBounds_toArray, List.set_cons_zero, List.set_cons_succ, i64_w, i32_w]
                        rfl
                      refine pure_ (i := 14) (N := some 177) (v := ?_) (a' := ?_) #[true, true, true, true, true, true, true, true, true, true, true, true, true, true, true, false] rfl rfl (by kernel_rfl) (fun _ _ _ h => h) (Or.inl ⟨by rfl, ?_⟩) ?_ ?_
                      rotate_left
                      · intro w'
                        go_simp
                        with_reducible rfl
                      rotate_left
                      · (try show Act.put _ _ _ = _); simp only [Act.put, List.setIfInBounds_toArray, List.set_cons_zero, List.set_cons_succ, i64_w, i32_w]
                        rfl
                      refine last_ (i := 15) (N := none) #[true, true, true, true, true, true, true, true, true, true, true, true, true, true, true, true] rfl rfl (by kernel_rfl) (by decide) (fun K hK => ?_)
                      have hRW := Kd.R_below HAy.out hHeld
                      obtain ⟨g9, c9, hv9, _, _, cells, hcs⟩ := Kd.R_form hRW (by rw [List.length_append]; exact Nat.succ_pos _)
                      obtain rfl : g = g9 := by (simp only [Value.slice.injEq, Option.some.injEq, Addr.mk.injEq] at hv9; exact hv9.1.1)
                      clear hv9
                      have hf4 : wd.frozen? ⟨g, m3, none⟩ = false := blk_frozen hcs m3
                      have hc4 := HCEL.out _ hHeld
                      have hsz : m3 < cells.size := by (have h9 := (blk_cell hcs m3).symm.trans hc4; exact (Array.getElem?_eq_some_iff.1 h9).1)
                      have hst := run_store_run (P := Try.prog) (w := wd) (g := g) (o := m3) 31 (.complex .f64 (ngF y) x) [.complex .f64 (ngF y) x] hcs rfl rfl hsz (by intro q hq; obtain rfl := List.mem_singleton.1 hq; rfl)
                      have HRW := Aside0.mk hRW
                      clear hRW
                      refine skip_ (w1 := wd.setCells g m3 [.complex .f64 (ngF y) x]) (by rfl) rfl ?_ ?_
                      · exact exec_store rfl _ _ rfl rfl hst
                      clear hst
                      refine hK.out _ _ ?_
                      clear hK K
                      refine done_ (by kernel_rfl) ?_
                      obtain ⟨L', hL', hR'⟩ := HOy.out
                      obtain ⟨hrow, hgr⟩ := put_marks (x' := ngF y) (y' := x) HRW.out HZ2.out HLM.out hc4
                      have hown := Kd.R_grown1 (Kd.R_below hR' hHeld) rfl hgr (fun e => ApOA.out g e.symm rfl)
                      have hbel := (below_step HBy.out hHeld).setCell (p := ⟨g, m3, none⟩) (Nat.le_trans (below_step HB1.out HBz.out).size HG.out.2.1) (.complex .f64 (ngF y) x)
                      have HROW := Aside0.mk hrow
                      have HOWN := Aside0.mk hown
                      have HBEL := Aside0.mk (show Below w.heap.size w (wd.setCells g m3 [.complex .f64 (ngF y) x]) from hbel)
                      have HL' := Aside0.mk hL'
                      clear hrow hgr hown hbel hL' hR' hc4 hf4 hcs hsz hHeld
                      obtain ⟨wf, hwf⟩ : ∃ wf, wd.setCells g m3 [.complex .f64 (ngF y) x] = wf := ⟨_, rfl⟩
                      rw [hwf] at HROW HOWN HBEL ⊢
                      clear hwf
                      go_wp2
                      go_roundw
                      case rel => exact ⟨m3 + 1, zs2.set m3 (ngF y, x), HLM.out, by go_num, by rw [List.length_set]; exact HZ2.out, allN_set HN2.out m3 _ _ (ng_notNan y HXY.out.2) HXY.out.1, Aside0.mk ⟨L', HL'.out, HOWN.out⟩, HROW, HBEL⟩
                      case measure => have := HLM.out; simp [intOf]; omega
                    · obtain rfl : k = m3 := by omega
                      clear hm3 hkn
                      go_wp2
                      go_roundw
                      case rel => obtain ⟨L', hL', hR'⟩ := HOy.out; exact ⟨r + 1, L', zs2, HLR.out, by go_num, hL', hzl2, hN2, Aside0.mk hR', HAy, HBy⟩
                      case measure => have := HLR.out; simp [intOf]; omega
        · obtain rfl : r = 2 := by omega
          obtain ⟨t, ht⟩ : ∃ t, Int.tmod wh 4 = t := ⟨_, rfl⟩
          obtain ⟨htw, htw2⟩ := tmod4_ok wh t ht
          rcases Nat.eq_zero_or_pos k with hk0 | hk0
          · have q1 : decide (k = 0) = true := decide_eq_true hk0
            have q2 : (k : Int) = 0 := by rw [hk0]; rfl
            have q3 : decide ((k : Int) = 0) = true := decide_eq_true q2
            go_wp2
            go_ret
            exact ⟨rfl, HB_7.out⟩
          · have q1 : ¬ k = 0 := Nat.pos_iff_ne_zero.1 hk0
            have q2 : decide (k = 0) = false := decide_eq_false q1
            have q4 : ¬ (k : Int) = 0 := fun e => q1 (Int.ofNat.inj e)
            have q3 : decide ((k : Int) = 0) = false := decide_eq_false q4
            by_cases ht0 : t = 0
            · have s1 : decide (t = 0) = true := decide_eq_true ht0
              go_wp2
              go_ret
              exact ⟨rfl, HB_7.out⟩
            · have s1 : decide (t = 0) = false := decide_eq_false ht0
              have s2 : (t == 0) = false := by simpa using ht0
              have s3 : ((k : Int) == 0) = false := by simpa using q1
              go_wp2
              have hj2 := HJ2.out
              obtain ⟨ad, hA, k1⟩ := int_at4 HR2.out 0 (two_le n2 k hk0 hj2).2.2.1
              subst hA
              obtain ⟨ad', hA', k2⟩ := int_at4 HR2.out 1 (two_le n2 k hk0 hj2).2.2.2
              obtain rfl := Option.some.inj hA'
              obtain ⟨p, hp⟩ : ∃ p, l2.getD 0 0 = p := ⟨_, rfl⟩
              obtain ⟨q, hq⟩ : ∃ p, l2.getD 1 0 = p := ⟨_, rfl⟩
              rw [hp] at k1
              rw [hq] at k2
              have k3 := k1
              rw [show ad.add 0 = ad from by unfold Addr.add; rw [if_pos rfl]] at k3
              have k4 := k2
              rw [show ad.add 1 = (⟨ad.block, ad.off + 1, none⟩ : Addr) from by unfold Addr.add; rw [if_neg (by decide)]] at k4
              have HP1 := Aside0.mk (fun W (hb : Below wx.heap.size wx W) => cell_stay4 k1 (below_step HB_7.out hb))
              have HP2 := Aside0.mk (fun W (hb : Below wx.heap.size wx W) => cell_stay4 k2 (below_step HB_7.out hb))
              have HP3 := Aside0.mk (fun W (hb : Below wx.heap.size wx W) => cell_stay4 k3 (below_step HB_7.out hb))
              have HP4 := Aside0.mk (fun W (hb : Below wx.heap.size wx W) => cell_stay4 k4 (below_step HB_7.out hb))
              obtain ⟨x, y, _, CN0⟩ := number_any (wrap64 (2 * p)) (wrap64 (2 * q)) od wh
              have CN := Aside0.mk CN0
              obtain ⟨n2a, n2b, n2c, n2d⟩ := two_le n2 k hk0 hj2
              obtain ⟨h0, hh0⟩ : ∃ h0, k / 2 = h0 := ⟨_, rfl⟩
              obtain ⟨d1, d2, d3, d4, d5, d6, d7⟩ := half_ok k h0 HKN.out q1 hh0
              have HD7 := Aside0.mk d7
              obtain ⟨ag, hAg, kz⟩ := cx_at (lentC HA_7.out HZL.out) h0 (Nat.lt_succ_of_lt (Nat.lt_succ_of_lt d7))
              obtain rfl := Option.some.inj hAg
              rw [add_zero_form] at kz
              obtain ⟨⟨ox, oy⟩, hox⟩ : ∃ o, (zs ++ [mk1, mk2]).getD h0 (0, 0) = o := ⟨_, rfl⟩
              rw [hox] at kz
              simp only at kz
              have HCEL := Aside0.mk (fun W (hb : Below wx.heap.size wx W) => cell_stay4 kz hb)
              clear k1 k2 k3 k4 hA' hp hq CN0 hh0 hj2 hAg kz hox
              refine start_ (n := 17) (S := fun w' => Below wx.heap.size wx w') (ds := [16]) #[false, false, false, false, false, false, false, false, false, false, false, false, false, false, false, false, false] (by kernel_rfl) rfl rfl ((Below.refl wx.heap.size wx).drew) (fun hHeld => ?_)
              generalize wx.drew = wq at hHeld ⊢
              refine pure_ (i := 0) (N := some 186) (v := ?_) (a' := ?_) #[true, false, false, false, false, false, false, false, false, false, false, false, false, false, false, false, false] rfl rfl (by kernel_rfl) (fun _ _ _ h => h) (Or.inl ⟨by rfl, ?_⟩) ?_ ?_
              rotate_left
              · intro w'
                go_simp
                with_reducible rfl
              rotate_left
              · (try show Act.put _ _ _ = _); simp only [Act.put, List.setIfInBounds_toArray, List.set_cons_zero, List.set_cons_succ, i64_w, i32_w]
                rfl
              refine pure_ (i := 1) (N := some 187) (v := ?_) (a' := ?_) #[true, true, false, false, false, false, false, false, false, false, false, false, false, false, false, false, false] rfl rfl (by kernel_rfl) (fun _ _ _ h => h) (Or.inl ⟨by rfl, ?_⟩) ?_ ?_
              rotate_left
              · intro w'
                go_simp
                with_reducible rfl
              rotate_left
              · (try show Act.put _ _ _ = _); simp only [Act.put, List.setIfInBounds_toArray, List.set_cons_zero, List.set_cons_succ, i64_w, i32_w]
                rfl
              refine pure_ (i := 2) (N := some 188) (v := ?_) (a' := ?_) #[true, true, true, false, false, false, false, false, false, false, false, false, false, false, false, false, false] rfl rfl (by kernel_rfl) (fun _ _ _ h => h) (Or.inl ⟨by rfl, ?_⟩) ?_ ?_
              rotate_left
              · intro w'
                go_simp
                with_reducible rfl
              rotate_left
              · (try show Act.put _ _ _ = _); simp only [Act.put, List.setIfInBounds_toArray, List.set_cons_zero, List.set_cons_succ, i64_w, i32_w]
                rfl
              refine pure_ (i := 3) (N := some 189) (v := ?_) (a' := ?_) #[true, true, true, true, false, false, false, false, false, false, false, false, false, false, false, false, false] rfl rfl (by kernel_rfl) (fun _ _ _ h => h) (Or.inl ⟨by rfl, ?_⟩) ?_ ?_
              rotate_left
              · intro w'
                go_simp
                with_reducible rfl
              rotate_left
              · (try show Act.put _ _ _ = _); simp only [Act.put, List.setIfInBounds_toArray, List.set_cons_zero, List.set_cons_succ, i64_w, i32_w]
                rfl
              refine pure_ (i := 4) (N := some 190) (v := ?_) (a' := ?_) #[true, true, true, true, true, false, false, false, false, false, false, false, false, false, false, false, false] rfl rfl (by kernel_rfl) (fun _ _ _ h => h) (Or.inl ⟨by rfl, ?_⟩) ?_ ?_
              rotate_left
              · intro w'
                go_simp
                with_reducible rfl
              rotate_left
              · (try show Act.put _ _ _ = _); simp only [Act.put, List.setIfInBounds_toArray, List.set_cons_zero, List.set_cons_succ, i64_w, i32_w]
                rfl
              refine pure_ (i := 5) (N := some 191) (v := ?_) (a' := ?_) #[true, true, true, true, true, true, false, false, false, false, false, false, false, false, false, false, false] rfl rfl (by kernel_rfl) (fun _ _ _ h => h) (Or.inl ⟨by rfl, ?_⟩) ?_ ?_
              rotate_left
              · intro w'
                go_simp
                with_reducible rfl
              rotate_left
              · (try show Act.put _ _ _ = _); simp only [Act.put, List.setIfInBounds_toArray, List.set_cons_zero, List.set_cons_succ, i64_w, i32_w]
                rfl
              refine pure_ (i := 8) (N := some 194) (v := ?_) (a' := ?_) #[true, true, true, true, true, true, false, false, true, false, false, false, false, false, false, false, false] rfl rfl (by kernel_rfl) (fun _ _ _ h => h) (Or.inl ⟨by rfl, ?_⟩) ?_ ?_
              rotate_left
              · intro w'
                go_simp
                with_reducible rfl
              rotate_left
              · (try show Act.put _ _ _ = _); simp only [Act.put, List.setIfInBounds_toArray, List.set_cons_zero, List.set_cons_succ, i64_w, i32_w]
                rfl
              refine pure_ (i := 9) (N := some 195) (v := ?_) (a' := ?_) #[true, true, true, true, true, true, false, false, true, true, false, false, false, false, false, false, false] rfl rfl (by kernel_rfl) (fun _ _ _ h => h) (Or.inl ⟨by rfl, ?_⟩) ?_ ?_
              rotate_left
              · intro w'
                go_simp
                with_reducible rfl
              rotate_left
              · (try show Act.put _ _ _ = _); simp only [Act.put, List.setIfInBounds_toArray, List.set_cons_zero, List.set_cons_succ, i64_w, i32_w]
                rfl
              refine pure_ (i := 12) (N := some 198) (v := ?_) (a' := ?_) #[true, true, true, true, true, true, false, false, true, true, false, false, true, false, false, false, false] rfl rfl (by kernel_rfl) (fun _ _ _ h => h) (Or.inl ⟨by rfl, ?_⟩) ?_ ?_
              rotate_left
              · intro w'
                go_simp
                with_reducible rfl
              rotate_left
              · (try show Act.put _ _ _ = _); simp only [Act.put, List.setIfInBounds_toArray, List.set_cons_zero, List.set_cons_succ, i64_w, i32_w]
                rfl
              refine pure_ (i := 13) (N := some 199) (v := ?_) (a' := ?_) #[true, true, true, true, true, true, false, false, true, true, false, false, true, true, false, false, false] rfl rfl (by kernel_rfl) (fun _ _ _ h => h) (Or.inl ⟨by rfl, ?_⟩) ?_ ?_
              rotate_left
              · intro w'
                go_simp
                with_reducible rfl
              rotate_left
              · (try show Act.put _ _ _ = _); simp only [Act.put, List.setIfInBounds_toArray, List.set_cons_zero, List.set_cons_succ, i64_w, i32_w]
                rfl
              refine take_ (i := 6) (N := some 192) (v := ?_) (a' := ?_) #[true, true, true, true, true, true, true, false, true, true, false, false, true, true, false, false, false] rfl rfl (by kernel_rfl) (fun _ _ _ h => h) (Or.inl ⟨by rfl, ?_⟩) hHeld ?_ ?_
              rotate_left
              · intro w' hS_
                have kp1 := HP1.out _ hS_
                have kp2 := HP2.out _ hS_
                have kp3 := HP3.out _ hS_
                have kp4 := HP4.out _ hS_
                go_simp
                with_reducible rfl
              rotate_left
              · (try show Act.put _ _ _ = _); simp only [Act.put, List.setIfInBounds_toArray, List.set_cons_zero, List.set_cons_succ, i64_w, i32_w]
                rfl
              refine pure_ (i := 7) (N := some 193) (v := ?_) (a' := ?_) #[true, true, true, true, true, true, true, true, true, true, false, false, true, true, false, false, false] rfl rfl (by kernel_rfl) (fun _ _ _ h => h) (Or.inl ⟨by rfl, ?_⟩) ?_ ?_
              rotate_left
              · intro w'
                go_simp
                with_reducible rfl
              rotate_left
              · (try show Act.put _ _ _ = _); simp only [Act.put, List.setIfInBounds_toArray, List.set_cons_zero, List.set_cons_succ, i64_w, i32_w]
                rfl
              refine take_ (i := 10) (N := some 196) (v := ?_) (a' := ?_) #[true, true, true, true, true, true, true, true, true, true, true, false, true, true, false, false, false] rfl rfl (by kernel_rfl) (fun _ _ _ h => h) (Or.inl ⟨by rfl, ?_⟩) hHeld ?_ ?_
              rotate_left
              · intro w' hS_
                have kp1 := HP1.out _ hS_
                have kp2 := HP2.out _ hS_
                have kp3 := HP3.out _ hS_
                have kp4 := HP4.out _ hS_
                go_simp
                with_reducible rfl
              rotate_left
              · (try show Act.put _ _ _ = _); simp only [Act.put, List.setIfInBounds_toArray, List.set_cons_zero, List.set_cons_succ, i64_w, i32_w]
                rfl
              refine pure_ (i := 11) (N := some 197) (v := ?_) (a' := ?_) #[true, true, true, true, true, true, true, true, true, true, true, true, true, true, false, false, false] rfl rfl (by kernel_rfl) (fun _ _ _ h => h) (Or.inl ⟨by rfl, ?_⟩) ?_ ?_
              rotate_left
              · intro w'
                go_simp
                with_reducible rfl
              rotate_left
              · (try show Act.put _ _ _ = _); simp only [Act.put, List.setIfInBounds_toArray, List.set_cons_zero, List.set_cons_succ, i64_w, i32_w]
                rfl
              refine one_ (i := 14) (N := some 200) #[true, true, true, true, true, true, true, true, true, true, true, true, true, true, true, false, false] rfl rfl (by kernel_rfl) (by decide) (fun K hK => ?_)
              refine goes_ Try.func22 (by kernel_rfl) rfl #[.int .i64 (wrap64 (2 * p)), .int .i64 (wrap64 (2 * q)), .float .f64 od, .int .i64 wh] (by rfl) rfl rfl (by (try simp only [List.map_toArray, List.map_cons, List.map_nil]); first | done | rfl) ?_
              refine (CN.out _).mono ?_
              rintro e wd ⟨rfl, hb⟩
              refine ⟨_, rfl, ?_⟩
              have hHeld2 := below_step hHeld hb
              clear hb hHeld
              refine hK.out _ _ (hHeld2) (fun hHeld => ?_)
              clear hK K
              refine norm_ (a' := ?_) ?_ ?_
              rotate_left
              · show Act.put _ (some 200) _ = _
                simp only [Act.put, List.setIfInBounds_toArray, List.set_cons_zero, List.set_cons_succ, i64_w, i32_w]
                rfl
              refine pure_ (i := 15) (N := some 201) (v := ?_) (a' := ?_) #[true, true, true, true, true, true, true, true, true, true, true, true, true, true, true, true, false] rfl rfl (by kernel_rfl) (fun _ _ _ h => h) (Or.inl ⟨by rfl, ?_⟩) ?_ ?_
              rotate_left
              · intro w'
                go_simp
                with_reducible rfl
              rotate_left
              · (try show Act.put _ _ _ = _); simp only [Act.put, List.setIfInBounds_toArray, List.set_cons_zero, List.set_cons_succ, i64_w, i32_w]
                rfl
              refine last_ (i := 16) (N := none) #[true, true, true, true, true, true, true, true, true, true, true, true, true, true, true, true, true] rfl rfl (by kernel_rfl) (by decide) (fun K hK => ?_)
              have hRW := Kd.R_below HA_7.out hHeld
              obtain ⟨g9, c9, hv9, _, _, cells, hcs⟩ := Kd.R_form hRW (by rw [List.length_append]; exact Nat.succ_pos _)
              obtain rfl : g = g9 := by (simp only [Value.slice.injEq, Option.some.injEq, Addr.mk.injEq] at hv9; exact hv9.1.1)
              clear hv9
              have hc4 := HCEL.out _ hHeld
              have hsz : h0 < cells.size := by (have h9 := (blk_cell hcs h0).symm.trans hc4; exact (Array.getElem?_eq_some_iff.1 h9).1)
              have hst := run_store_run (P := Try.prog) (w := wd) (g := g) (o := h0) 31 (.complex .f64 x y) [.complex .f64 x y] hcs rfl rfl hsz (by intro q hq; obtain rfl := List.mem_singleton.1 hq; rfl)
              have HRW := Aside0.mk hRW
              clear hRW
              refine skip_ (w1 := wd.setCells g h0 [.complex .f64 x y]) (by rfl) rfl ?_ ?_
              · exact exec_store rfl _ _ rfl rfl hst
              clear hst
              refine hK.out _ _ ?_
              clear hK K
              refine done_ (by kernel_rfl) ?_
              obtain ⟨hrow, hgr⟩ := put_marks (x' := x) (y' := y) HRW.out HZL.out HD7.out hc4
              have hbel := (below_step HB_7.out hHeld).setCell (p := ⟨g, h0, none⟩) (Nat.le_trans (below_step HB1.out HBz.out).size HG.out.2.1) (.complex .f64 x y)
              have HBEL := Aside0.mk (show Below w.heap.size w (wd.setCells g h0 [.complex .f64 x y]) from hbel)
              have HROW := Aside0.mk hrow
              clear hrow hgr hbel hc4 hcs hsz hHeld
              obtain ⟨wf, hwf⟩ : ∃ wf, wd.setCells g h0 [.complex .f64 x y] = wf := ⟨_, rfl⟩
              rw [hwf] at HROW HBEL ⊢
              clear hwf
              obtain ⟨zq, hzq⟩ : ∃ zq, zs.set h0 (x, y) = zq := ⟨_, rfl⟩
              have hzql : zq.length = k := by rw [← hzq, List.length_set]; exact HZL.out
              rw [hzq] at HROW
              clear hzq
              obtain ⟨bq, eq_, hbq1, hcq1, hcq2⟩ := back_both zq st
              obtain ⟨nq_, hnq⟩ : ∃ nb, bq.length = nb := ⟨_, rfl⟩
              rw [hnq] at hbq1
              have HZQ := Aside0.mk hzql
              have HBQ := Aside0.mk hnq
              have HNQ := Aside0.mk (show nq_ ≤ 9223372036854775806 by omega)
              have CQ1 := Aside0.mk hcq1
              have CQ2 := Aside0.mk hcq2
              clear hzql hnq hbq1 hcq1 hcq2
              go_wp2_with (first
                | ((with_reducible refine gate_dst (N := 202) rfl ?_); refine Kd.R_lit KC _ 31 ?hg (N := 202) ?hd (xs := ([] : List (Nat × Nat))) (inner := []) (ok := fun _ => True) (okp := fun _ => True) ?hr ?hp (fun _ hk => hk) trivial (Below.refl _ _) (Nat.le_refl _) (by simp) ?_; (case hd => rfl); (case hg => rfl); (case hr => first | (go_simp; done) | (go_simp; rfl)); (case hp => exact (Reps.none _ _)); intro vl202 wl202 ho hb hg_ hnew_; clear hg_ hnew_; have HLo202 := Aside0.mk ho; have HLb202 := Aside0.mk hb; clear ho hb)
                | ((with_reducible refine gate_builtin (b := .append) (xs := #[.tmp 202, .tmp 203]) rfl ?_); at_builtin; refine Kd.R_append_rows KC (w0 := wf) wf.heap.size rfl (.tmp 202) (.tmp 203) 24 31 (.complex .f64 0 0) 16 rfl Try.underlying24 cxInfo rfl (by decide) (by decide) vl202 [] zq _ _ _ (fun _ => True) (fun _ => False) rfl rfl ?aO ?aR (fun _ _ h => h) (fun _ h => h.elim) ?aF ?aB ?aS ?aL ?_; (case aR => first | exact C_cut (Kd.C_below (lentC HROW.out HZQ.out) HLb202.out) HZQ.out | (rw [HZQ.out]; exact C_cut (Kd.C_below (lentC HROW.out HZQ.out) HLb202.out) HZQ.out)); (case aB => exact HLb202.out); (case aF => exact (fun _ _ => trivial)); (case aO => exact HLo202.out); (case aS => exact HLb202.out.size); (case aL => have h1 := HK16.out; have h2 := HZQ.out; simp; omega); intro vn w30 ho hb hg hat; clear hg hat; (have hR := (show Kd.R KC 31 w30 wf.heap.size (fun _ => True) vn zq from ho)); clear ho; (obtain ⟨AN, cN, rfl⟩ := Kd.R_slice hR); (rw [HZQ.out] at hR ⊢); (have HN_30 := Aside0.mk hR); (have HA_30 := Aside0.mk (Kd.R_below HROW.out hb)); (have HB_30 := Aside0.mk (below_step HBEL.out hb)); clear hb hR)
                | (go_at_call 34; (with_reducible refine (CQ1.out (some ⟨g, 0, none⟩) cg k w30 HZQ.out (C_cut (lentC HA_30.out HZQ.out) HZQ.out) HKC.out).mono ?_); rintro e w31 ⟨vx, rfl, hR, hb⟩; (obtain ⟨Ax, cx, rfl⟩ := Kd.R_slice hR); (rw [HBQ.out] at hR ⊢); (have Hx_31 := Aside0.mk hR); (have HN_31 := Aside0.mk (Kd.R_below HN_30.out hb)); (have HB_31 := Aside0.mk (below_step HB_30.out hb)); clear hb hR)
                | (go_at_call 35; (with_reducible refine (CQ2.out AN cN k w31 HZQ.out (rowC HN_31.out HZQ.out) (rowLe HN_31.out HZQ.out)).mono ?_); rintro e w32 ⟨vy, rfl, hR, hb⟩; (obtain ⟨Ay, cy, rfl⟩ := Kd.R_slice hR); (rw [HBQ.out] at hR ⊢); (have Hy_32 := Aside0.mk hR); (have Hx_32 := Aside0.mk (Kd.R_below Hx_31.out hb)); (have HB_32 := Aside0.mk (below_step HB_31.out hb)); clear hb hR)
                | (go_at_call 36; (with_reducible refine (same_n Ax cx Ay cy nq_ bq w32 HBQ.out (rowC Hx_32.out HBQ.out) (rowLe Hx_32.out HBQ.out) (rowC Hy_32.out HBQ.out) (rowLe Hy_32.out HBQ.out) HNQ.out).mono ?_); rintro e w33 ⟨rfl, hb⟩; (have HB_33 := Aside0.mk (below_step HB_32.out hb)); clear hb))
              go_ret
              exact ⟨rfl, HB_33.out⟩
theorem PointsRows_walk (A0 : Option Addr) (c0 : Nat) (l0 : List Bool) (a1 : Int) (A2 : Option Addr) (c2 : Nat) (l2 : List Int) (a3 : Nat) (a4 : Int) (w : World) {P0 P1 P2 P3 P4 : Prop} (hr0 : Kd.C Kd.bool w A0 l0.length l0) (hc0 : l0.length ≤ c0) (hy0 : l0.length * 1 ≤ 140737488351232) (hg0 : P0) (w1 : P1) (hr2 : Kd.C (Kd.int .i64) w A2 l2.length l2) (hc2 : l2.length ≤ c2) (hy2 : l2.length * 8 ≤ 140737488351232) (hg2 : P2) (w3 : P3) (w4 : P4) :
    Calls Try.prog 5 #[.slice A0 l0.length c0, .int .i64 a1, .slice A2 l2.length c2, .float .f64 a3, .int .i64 a4] w fun e w' => e = .returned (.bool true) ∧ Below w.heap.size w w' :=
  prows_walk A0 c0 _ l0 a1 A2 c2 _ l2 a3 a4 w rfl hr0 hc0 hy0 rfl hr2 hc2 hy2
end Go.Proofs.Ytopmlhihfchdhaa.Pure
