/- All points of a set. -/
import Derived.Test.YtgmaiknbogcpgaaFogx0
import Derived.Test.YtgmaiknbogcpgaaOf
namespace Go.Proofs.Ytgmaiknbogcpgaa.Pure
open Go.RowKit Go.Proofs.Ytgmaiknbogcpgaa.Fog Go.Proofs.YtgmaiknbogcpgaaW.PrintWords Go.Proofs.YtgmaiknbogcpgaaW.PrintLast Go.Proofs.YtgmaiknbogcpgaaW.PrintMore Go.Proofs.Ytgmaiknbogcpgaa.Kit
set_option linter.unusedVariables false
set_option linter.unusedSimpArgs false
@[go_sem] theorem run_store_cx {P : Program} {w : World} {ad : Addr} {m : Mode} (k : FloatKind) (a b : Nat) : (store ad (.complex k a b) m).run P w = stored P w ad (.complex k a b) m := run_store P w ad _ m rfl
def cx (z : Nat × Nat) : Value := .complex .f64 z.1 z.2
def KC : Kd (Nat × Nat) := Kd.scalar cx (fun _ => rfl)
theorem KC_sz : KC.sz = 1 := rfl
theorem cxInfo : (Try.prog.info? 103).map (fun i => (i.zero, i.size, i.bytes)) = some (some (.complex .f64 0 0), 1, 16) := by kernel_rfl
theorem cx_at {w : World} {A : Option Addr} {n : Nat} {l : List (Nat × Nat)} (h : Kd.C KC w A n l) (i : Nat) (hi : i < n) : ∃ ad, A = some ad ∧ w.cell? (ad.add i) = some (.complex .f64 (l.getD i (0, 0)).1 (l.getD i (0, 0)).2) := by
  have hl : l.length = n := h.1
  obtain ⟨ad, rfl, hc⟩ := h.2.2 (by omega)
  have hg : l[i]? = some (l.getD i (0, 0)) := by
    rw [List.getD_eq_getElem?_getD, List.getElem?_eq_getElem (by omega)]; rfl
  obtain ⟨cs, hcl, hK, hcell⟩ := hc i _ hg
  have e : cs = [cx (l.getD i (0, 0))] := hK
  subst e
  have h0 := hcell 0 _ rfl
  have e1 : i * KC.sz + 0 = i := by show i * 1 + 0 = i; omega
  rw [e1] at h0
  exact ⟨ad, rfl, h0⟩
theorem add_zero_form (g k : Nat) : Addr.add ⟨g, 0, none⟩ k = ⟨g, k, none⟩ := by
  unfold Addr.add
  by_cases h : k = 0
  · subst h; simp
  · simp [h]
theorem cx_hcc {T base : Nat} {wr : World} {ok : Nat → Prop} {g n c : Nat} {L : List (Nat × Nat)} (h : Kd.R KC T wr base ok (.slice (some ⟨g, 0, none⟩) n c) L) (hl : L.length = n) (k : Nat) (hk : k < n) :
    ∀ (j : Nat) (u : Value), ([.complex .f64 (L.getD k (0, 0)).1 (L.getD k (0, 0)).2] : List Value)[j]? = some u → wr.cell? ⟨g, (k : Int).toNat * KC.sz + j, none⟩ = some u := by
  subst hl
  have hsm := (Kd.R_reads' h).2.2
  obtain ⟨ad, had, hc0⟩ := cx_at hsm k hk
  injection had with had
  subst had
  rw [add_zero_form] at hc0
  intro j u hj
  rw [Int.toNat_natCast]
  match j, hj with
  | 0, hj => obtain rfl : Value.complex .f64 (L.getD k (0, 0)).1 (L.getD k (0, 0)).2 = u := by simpa using hj
             have e : k * KC.sz + 0 = k := by show k * 1 + 0 = k; omega
             rw [e]
             exact hc0
def zAt (n lb : Nat) : Nat × Nat := (fI (ptP n lb).1, fI (ptP n lb).2)
def zt (n k : Nat) : List (Nat × Nat) := (List.range k).map (zAt n)
theorem zt_length (n k : Nat) : (zt n k).length = k := by unfold zt; simp
theorem zt_succ (n k : Nat) : zt n (k + 1) = zt n k ++ [zAt n k] := by unfold zt; rw [List.range_succ, List.map_append]; rfl
theorem zt_getD (n k i : Nat) (h : i < k) : (zt n k).getD i (0, 0) = zAt n i := by
  unfold zt
  rw [List.getD_eq_getElem?_getD, List.getElem?_map, List.getElem?_range h]; rfl
theorem set_mid (a : List (Nat × Nat)) (x y : Nat × Nat) (b : List (Nat × Nat)) (k : Nat) (h : a.length = k) : (a ++ x :: b).set k y = (a ++ [y]) ++ b := by
  rw [List.set_append_right _ _ (by omega), h, Nat.sub_self, List.set_cons_zero, List.append_assoc]; rfl
theorem zt_mid (n k : Nat) (b : List (Nat × Nat)) : (zt n k ++ (0, 0) :: b).getD k (0, 0) = (0, 0) := by
  rw [List.getD_eq_getElem?_getD, List.getElem?_append_right (by rw [zt_length]; exact Nat.le_refl _), zt_length, Nat.sub_self]; rfl
set_option maxHeartbeats 4000000 in
set_option maxRecDepth 100000 in
theorem all_Sq (n : Nat) (b e : Int) (hof : OfSq n b e) (hn : n ≤ 256) (w : World) :
    Calls Try.prog 67 #[.int .i64 (n : Int)] w fun r w' => ∃ v, r = .returned (.tuple #[v, .int .i64 0]) ∧ Kd.R KC 103 w' w.heap.size (fun _ => True) v (zt n n) ∧ Below w.heap.size w w' := by
  unfold OfSq at hof
  have HOF := Aside0.mk hof
  have HN := Aside0.mk hn
  clear hof hn
  go_enter Try.func67, Try.ntmps67
  go_wp2_with (first
    | (go_at_call 66; (with_reducible refine (HOF.out _).mono ?_); rintro r1 w1 ⟨bn, bf, rfl, hp, hb⟩; (have HB1 := Aside0.mk hb); (have HPT := Aside0.mk hp); clear hp hb)
    | ((with_reducible refine gate_dst (N := 16) rfl ?_); (obtain ⟨w2, hw2⟩ : ∃ w2, w1.alloc (.cells #[.int .i64 b, .int .i64 e, .func (.func 72) #[] #[.pointer (some ⟨bn, 0, none⟩), .pointer (some ⟨bf, 0, none⟩)]] 97) = w2 := ⟨_, rfl⟩); (have HS2 := Aside0.mk (show w2.heap[w1.heap.size]? = some (.cells #[.int .i64 b, .int .i64 e, .func (.func 72) #[] #[.pointer (some ⟨bn, 0, none⟩), .pointer (some ⟨bf, 0, none⟩)]] 97) from hw2 ▸ blk_new w1 _)); (have HB12 := Aside0.mk (show Below w1.heap.size w1 w2 from hw2 ▸ (Below.refl _ _).alloc (Nat.le_refl _) _)); (rw [hw2]); (have HB2 := Aside0.mk (below_step HB1.out HB12.out)); clear hw2; refine Kd.R_make KC (w0 := w2) w2.heap.size 103 rfl (N := 16) rfl 100 _ _ rfl (n : Int) rfl rfl Try.underlying100 (.complex .f64 0 0) 16 cxInfo rfl (by decide) (by omega) (0, 0) (ok := fun _ => True) (okp := fun _ => True) ?z (fun _ hk => hk) trivial ?h0 ?hl (Below.refl _ _) (Nat.le_refl _) ?_; (case z => exact rfl); (case h0 => omega); (case hl => have h9 := HN.out; omega); intro v3 w3 ho hb hg_ hnew_; clear hg_ hnew_; (rw [Int.toNat_natCast] at ho); (obtain ⟨GA, gc, hv⟩ := Kd.R_slice ho); (rw [List.length_replicate] at hv); subst hv; (have HO := Aside0.mk ho); (have HM := Aside0.mk hb); clear ho hb))
  go_loopw [19] (fun i wr => ∃ k : Nat, k ≤ n ∧ i = .int .i64 (k : Int) ∧ Aside0 (Kd.R KC 103 wr w2.heap.size (fun _ => True) (.slice GA n gc) (zt n k ++ List.replicate (n - k) (0, 0))) ∧ Aside0 (Below w2.heap.size w2 wr)) (fun i _ => n - (intOf i).toNat)
  case atStart => exact ⟨0, Nat.zero_le _, rfl, HO, HM⟩
  case round =>
    obtain ⟨k, hk, rfl, HX, HMK⟩ := hrel
    have hn := HN.out
    by_cases hlt : k < n
    · have q1 : (k : Int) < (n : Int) := by omega
      have hks : IntKind.i64.wrap ((k : Int) + 1) = (k : Int) + 1 := by rw [IntKind.wrap_i64]; omega
      have hrp : List.replicate (n - k) ((0, 0) : Nat × Nat) = (0, 0) :: List.replicate (n - (k + 1)) (0, 0) := by
        rw [show n - k = (n - (k + 1)) + 1 by omega, List.replicate_succ]
      have hX := HX.out
      rw [hrp] at hX
      have hlen : (zt n k ++ (0, 0) :: List.replicate (n - (k + 1)) (0, 0)).length = n := by simp [zt_length]; omega
      obtain ⟨g, cc, hv, hgb, hgl, _⟩ := Kd.R_form hX (by omega)
      simp only [Value.slice.injEq] at hv
      obtain ⟨rfl, hlen_, hgc_⟩ := hv
      have HLEN := Aside0.mk hlen
      have HK := Aside0.mk hlt
      have HXX := Aside0.mk hX
      have hs := blk_below (blk_below HS2.out (Below.refl _ _)) HMK.out
      have z2 := (blk_cell hs 2).trans rfl
      have HPTW := Aside0.mk (show Calls Try.prog 72 #[.int .i64 (k : Int), .pointer (some ⟨bn, 0, none⟩), .pointer (some ⟨bf, 0, none⟩)] wr (fun r w' => r = .returned (.complex .f64 (zAt n k).1 (zAt n k).2) ∧ ∃ d, w' = wr.drewN d) from (HPT.out.at HB12.out) wr HMK.out k hlt)
      clear hrp hX hlen hlen_ hgc_ hs
      go_wp2_with (first
        | (go_at_call 72; (with_reducible refine HPTW.out.mono ?_); rintro r1 w4 ⟨rfl, d, hd⟩; (have hbd : Below wr.heap.size wr w4 := hd ▸ pw_below_drewN (Below.refl _ _) d); (have HXD := Aside0.mk (Kd.R_below HXX.out hbd)); (have HMD := Aside0.mk (below_step HMK.out hbd)); (have hcc := cx_hcc HXD.out HLEN.out k HK.out); (rw [zt_mid] at hcc); (have HCC := Aside0.mk hcc); clear hd hbd hcc)
        | (with_reducible refine gate_ (.store 103 (.tmp 28) (.tmp 27)) rfl ?_); (refine Kd.R_store KC (w0 := w2) w2.heap.size rfl rfl 103 _ _ rfl 103 (k : Int) 0 _ (zAt n k) (.complex .f64 (zAt n k).1 (zAt n k).2) [.complex .f64 (zAt n k).1 (zAt n k).2] [.complex .f64 0 0] (fun _ => True) (fun _ => False) rfl ?ho rfl rfl ?ht ?h1 HXD.out (by omega) (by (have h2 := HK.out; omega)) rfl HCC.out (by first | decide | exact Nat.le_refl 1) ?hM (fun _ hk => hk.elim) HMD.out ?_); (case ho => rw [Int.toNat_natCast]; show k = k * 1 + 0; omega); (case ht => rfl); (case h1 => intro q hq; obtain rfl := List.mem_singleton.1 hq; rfl); (case hM => exact rfl); intro w13 hx3 hb3 hg3; clear hg3; (rw [Int.toNat_natCast, set_mid _ _ _ _ _ (zt_length n k), ← zt_succ] at hx3); (have HX3 := Aside0.mk hx3); (have HM3 := Aside0.mk hb3); clear hx3 hb3)
      exact ⟨⟨k + 1, hlt, by go_num, HX3, HM3⟩, by show n - ((k : Int) + 1).toNat < n - (k : Int).toNat; omega⟩
    · have hkn : k = n := by omega
      subst hkn
      go_wp2
      go_ret2
      refine ⟨_, rfl, ?_, below_step HB2.out HMK.out⟩
      have h := HX.out
      rw [Nat.sub_self, List.replicate_zero, List.append_nil] at h
      exact Kd.R_lower h HB2.out.size
set_option maxHeartbeats 4000000 in
set_option maxRecDepth 100000 in
theorem all_Cr (n : Nat) (b e : Int) (hof : OfCr n b e) (hn : n ≤ 256) (w : World) :
    Calls Try.prog 67 #[.int .i64 (n : Int)] w fun r w' => ∃ v, r = .returned (.tuple #[v, .int .i64 0]) ∧ Kd.R KC 103 w' w.heap.size (fun _ => True) v (zt n n) ∧ Below w.heap.size w w' := by
  unfold OfCr at hof
  have HOF := Aside0.mk hof
  have HN := Aside0.mk hn
  clear hof hn
  go_enter Try.func67, Try.ntmps67
  go_wp2_with (first
    | (go_at_call 66; (with_reducible refine (HOF.out _).mono ?_); rintro r1 w1 ⟨bn, bf, rfl, hp, hb⟩; (have HB1 := Aside0.mk hb); (have HPT := Aside0.mk hp); clear hp hb)
    | ((with_reducible refine gate_dst (N := 16) rfl ?_); (obtain ⟨w2, hw2⟩ : ∃ w2, w1.alloc (.cells #[.int .i64 b, .int .i64 e, .func (.func 73) #[] #[.pointer (some ⟨bn, 0, none⟩), .pointer (some ⟨bf, 0, none⟩)]] 97) = w2 := ⟨_, rfl⟩); (have HS2 := Aside0.mk (show w2.heap[w1.heap.size]? = some (.cells #[.int .i64 b, .int .i64 e, .func (.func 73) #[] #[.pointer (some ⟨bn, 0, none⟩), .pointer (some ⟨bf, 0, none⟩)]] 97) from hw2 ▸ blk_new w1 _)); (have HB12 := Aside0.mk (show Below w1.heap.size w1 w2 from hw2 ▸ (Below.refl _ _).alloc (Nat.le_refl _) _)); (rw [hw2]); (have HB2 := Aside0.mk (below_step HB1.out HB12.out)); clear hw2; refine Kd.R_make KC (w0 := w2) w2.heap.size 103 rfl (N := 16) rfl 100 _ _ rfl (n : Int) rfl rfl Try.underlying100 (.complex .f64 0 0) 16 cxInfo rfl (by decide) (by omega) (0, 0) (ok := fun _ => True) (okp := fun _ => True) ?z (fun _ hk => hk) trivial ?h0 ?hl (Below.refl _ _) (Nat.le_refl _) ?_; (case z => exact rfl); (case h0 => omega); (case hl => have h9 := HN.out; omega); intro v3 w3 ho hb hg_ hnew_; clear hg_ hnew_; (rw [Int.toNat_natCast] at ho); (obtain ⟨GA, gc, hv⟩ := Kd.R_slice ho); (rw [List.length_replicate] at hv); subst hv; (have HO := Aside0.mk ho); (have HM := Aside0.mk hb); clear ho hb))
  go_loopw [19] (fun i wr => ∃ k : Nat, k ≤ n ∧ i = .int .i64 (k : Int) ∧ Aside0 (Kd.R KC 103 wr w2.heap.size (fun _ => True) (.slice GA n gc) (zt n k ++ List.replicate (n - k) (0, 0))) ∧ Aside0 (Below w2.heap.size w2 wr)) (fun i _ => n - (intOf i).toNat)
  case atStart => exact ⟨0, Nat.zero_le _, rfl, HO, HM⟩
  case round =>
    obtain ⟨k, hk, rfl, HX, HMK⟩ := hrel
    have hn := HN.out
    by_cases hlt : k < n
    · have q1 : (k : Int) < (n : Int) := by omega
      have hks : IntKind.i64.wrap ((k : Int) + 1) = (k : Int) + 1 := by rw [IntKind.wrap_i64]; omega
      have hrp : List.replicate (n - k) ((0, 0) : Nat × Nat) = (0, 0) :: List.replicate (n - (k + 1)) (0, 0) := by
        rw [show n - k = (n - (k + 1)) + 1 by omega, List.replicate_succ]
      have hX := HX.out
      rw [hrp] at hX
      have hlen : (zt n k ++ (0, 0) :: List.replicate (n - (k + 1)) (0, 0)).length = n := by simp [zt_length]; omega
      obtain ⟨g, cc, hv, hgb, hgl, _⟩ := Kd.R_form hX (by omega)
      simp only [Value.slice.injEq] at hv
      obtain ⟨rfl, hlen_, hgc_⟩ := hv
      have HLEN := Aside0.mk hlen
      have HK := Aside0.mk hlt
      have HXX := Aside0.mk hX
      have hs := blk_below (blk_below HS2.out (Below.refl _ _)) HMK.out
      have z2 := (blk_cell hs 2).trans rfl
      have HPTW := Aside0.mk (show Calls Try.prog 73 #[.int .i64 (k : Int), .pointer (some ⟨bn, 0, none⟩), .pointer (some ⟨bf, 0, none⟩)] wr (fun r w' => r = .returned (.complex .f64 (zAt n k).1 (zAt n k).2) ∧ ∃ d, w' = wr.drewN d) from (HPT.out.at HB12.out) wr HMK.out k hlt)
      clear hrp hX hlen hlen_ hgc_ hs
      go_wp2_with (first
        | (go_at_call 73; (with_reducible refine HPTW.out.mono ?_); rintro r1 w4 ⟨rfl, d, hd⟩; (have hbd : Below wr.heap.size wr w4 := hd ▸ pw_below_drewN (Below.refl _ _) d); (have HXD := Aside0.mk (Kd.R_below HXX.out hbd)); (have HMD := Aside0.mk (below_step HMK.out hbd)); (have hcc := cx_hcc HXD.out HLEN.out k HK.out); (rw [zt_mid] at hcc); (have HCC := Aside0.mk hcc); clear hd hbd hcc)
        | (with_reducible refine gate_ (.store 103 (.tmp 28) (.tmp 27)) rfl ?_); (refine Kd.R_store KC (w0 := w2) w2.heap.size rfl rfl 103 _ _ rfl 103 (k : Int) 0 _ (zAt n k) (.complex .f64 (zAt n k).1 (zAt n k).2) [.complex .f64 (zAt n k).1 (zAt n k).2] [.complex .f64 0 0] (fun _ => True) (fun _ => False) rfl ?ho rfl rfl ?ht ?h1 HXD.out (by omega) (by (have h2 := HK.out; omega)) rfl HCC.out (by first | decide | exact Nat.le_refl 1) ?hM (fun _ hk => hk.elim) HMD.out ?_); (case ho => rw [Int.toNat_natCast]; show k = k * 1 + 0; omega); (case ht => rfl); (case h1 => intro q hq; obtain rfl := List.mem_singleton.1 hq; rfl); (case hM => exact rfl); intro w13 hx3 hb3 hg3; clear hg3; (rw [Int.toNat_natCast, set_mid _ _ _ _ _ (zt_length n k), ← zt_succ] at hx3); (have HX3 := Aside0.mk hx3); (have HM3 := Aside0.mk hb3); clear hx3 hb3)
      exact ⟨⟨k + 1, hlt, by go_num, HX3, HM3⟩, by show n - ((k : Int) + 1).toNat < n - (k : Int).toNat; omega⟩
    · have hkn : k = n := by omega
      subst hkn
      go_wp2
      go_ret2
      refine ⟨_, rfl, ?_, below_step HB2.out HMK.out⟩
      have h := HX.out
      rw [Nat.sub_self, List.replicate_zero, List.append_nil] at h
      exact Kd.R_lower h HB2.out.size
end Go.Proofs.Ytgmaiknbogcpgaa.Pure
