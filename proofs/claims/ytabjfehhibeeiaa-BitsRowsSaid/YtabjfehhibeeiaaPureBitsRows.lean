/- BitsRows: bytes, words, rows, both ways; memory; asked again. No condition. -/
import Derived.Test.YtabjfehhibeeiaaFogx0
import Derived.Test.YtabjfehhibeeiaaKit
import Derived.Test.YtabjfehhibeeiaaRefRowsIn
import Derived.Test.YtabjfehhibeeiaaHandTurn
namespace Go.Proofs.Ytabjfehhibeeiaa.Pure
open Go.RowKit Go.Proofs.Ytabjfehhibeeiaa.Fog Go.Proofs.YtabjfehhibeeiaaW.PrintWords Go.Proofs.YtabjfehhibeeiaaW.PrintLast Go.Proofs.YtabjfehhibeeiaaW.PrintMore Go.Proofs.Ytabjfehhibeeiaa.Kit
set_option linter.unusedVariables false
set_option linter.unusedSimpArgs false
def Ap (v u : Value) : Prop := ∀ k, v.ownBlock = some k → u.ownBlock = some k → False
theorem Ap.symm {v u : Value} (h : Ap v u) : Ap u v := fun k h1 h2 => h k h2 h1
theorem ap_new {α β : Type} {d : Kd α} {d' : Kd β} {e e' base : Nat} {w w' : World} {v u : Value} {xs : List α} {ys : List β} {ok ok' : Nat → Prop} (h : d.R e w base ok v xs) (h' : d'.R e' w' w.heap.size ok' u ys) : Ap v u := fun k h1 h2 => by
  have a1 := Kd.R_lt h k h1
  have a2 := Kd.R_base h' k h2
  omega
theorem R_keptG {α : Type} {d : Kd α} {e base : Nat} {w w' : World} {v u : Value} {xs : List α} (h : d.R e w base (fun _ => True) v xs) (hE : d.E = [] := by rfl) (hk : Kept w w' (fun k => some k = u.ownBlock)) (ha : Ap v u) : d.R e w' base (fun _ => True) v xs := by
  have h1 := Kd.R_bound (Kd.R_tight hE h)
  refine Kd.R_mono (Kd.R_move h1 ?_) (fun _ _ => trivial)
  rintro k ⟨hk1, _, hk3, _⟩
  exact hk.2 k hk3 (fun e => ha k hk1.symm e.symm)
theorem kept_own {w w' : World} {g n c : Nat} (h : Kept w w' (fun k => k = g)) : Kept w w' (fun k => some k = (Value.slice (some ⟨g, 0, none⟩) n c).ownBlock) :=
  ⟨h.1, fun i hi hn => h.2 i hi (fun e => hn (by rw [e]; rfl))⟩
theorem below_size {B : Nat} {w w' : World} (h : Below B w w') : w.heap.size ≤ w'.heap.size := h.size
section
variable {w : World} {base g c : Nat} {l : List Bool}
theorem lent_all (h : Kd.R Kd.bool 4 w base (fun _ => True) (.slice (some ⟨g, 0, none⟩) (l.length + 4) c) (l ++ marks)) : Kd.C Kd.bool w (some ⟨g, 0, none⟩) (l ++ marks).length (l ++ marks) := (Kd.R_reads' h).2.2
theorem lent_reads4 (h : Kd.R Kd.bool 4 w base (fun _ => True) (.slice (some ⟨g, 0, none⟩) (l.length + 4) c) (l ++ marks)) : Kd.C Kd.bool w (some ⟨g, 0, none⟩) l.length l := lent_reads (lent_all h)
theorem turn_lent4 (g c : Nat) (l : List Bool) (base : Nat) (w : World) (hR : Kd.R Kd.bool 4 w base (fun _ => True) (.slice (some ⟨g, 0, none⟩) (l.length + 4) c) (l ++ marks)) (hl : l.length ≤ 140737488355328) :
    Calls Try.prog 20 #[.slice (some ⟨g, 0, none⟩) l.length c] w fun e w' => e = .returned (.tuple #[]) ∧ Kd.R Kd.bool 4 w' base (fun _ => True) (.slice (some ⟨g, 0, none⟩) (l.length + 4) c) (l.map not ++ marks) ∧ Below g w w' ∧ Kept w w' (fun k => k = g) := by
  have hlen : (l ++ marks).length = l.length + 4 := by simp [marks]
  have h := turn_lent g c l.length l marks base w rfl (by rw [hlen]; exact hR) hl
  rw [hlen] at h
  exact h
end
theorem ofV_length (s : ByteArray) : (ofV s).1.length ≤ 9223372036854775806 := by
  unfold ofV
  split
  · simp
  · rw [ofB_length]; omega
theorem flat_length (n : Nat) : ∀ ws : List Int, (ws.flatMap (rowBits n)).length = n * ws.length
  | [] => rfl
  | x :: ws => by rw [List.flatMap_cons, List.length_append, flat_length n ws, rowBits_length, List.length_cons, Nat.mul_succ]; omega
theorem rowV_length (ws : List Int) (a : Int) : (rowV ws a).1.length ≤ 9223372036854775806 := by
  unfold rowV
  split
  · rename_i h
    obtain ⟨h1, h2, h3⟩ := h
    obtain ⟨n, rfl⟩ := Int.eq_ofNat_of_zero_le (show 0 ≤ a by omega)
    split
    · rw [flat_length, Int.toNat_natCast]
      rw [show (32768 : Int) / (n : Int) = ((32768 / n : Nat) : Int) from rfl] at h3
      have h4 : ws.length ≤ 32768 / n := by omega
      have h5 := Nat.mul_le_mul_left n h4
      have h6 := Nat.mul_div_le 32768 n
      omega
    · simp
  · simp
set_option maxHeartbeats 8000000 in
set_option maxRecDepth 100000 in
theorem BitsRows_walk (a0 : ByteArray) (A1 : Option Addr) (c1 : Nat) (l1 : List Bool) (A2 : Option Addr) (c2 : Nat) (l2 : List Int) (a3 : Int) (w : World) (hs0 : a0.size ≤ 140737488351232) (hr1 : Kd.C Kd.bool w A1 l1.length l1) (hc1 : l1.length ≤ c1) (hy1 : l1.length * 1 ≤ 140737488351232) (hg1 : ∀ y ∈ l1, True) (hr2 : Kd.C (Kd.int .i64) w A2 l2.length l2) (hc2 : l2.length ≤ c2) (hy2 : l2.length * 8 ≤ 140737488351232) (hg2 : ∀ y ∈ l2, (Lit.int .i64 y).wf = true) (wf3 : (Lit.int .i64 a3).wf = true) :
    Calls Try.prog 7 #[.string a0, .slice A1 l1.length c1, .slice A2 l2.length c2, .int .i64 a3] w fun e w' => e = .returned (.bool true) ∧ Below w.heap.size w w' := by
  have HR1 := Aside0.mk hr1
  have HR2 := Aside0.mk hr2
  have HL1 := Aside0.mk (show l1.length ≤ 140737488351232 by omega)
  have HL2 := Aside0.mk (show l2.length * 8 ≤ 140737488351232 by omega)
  have HOFL := Aside0.mk (show (ofV a0).1.length ≤ 9223372036854775806 by exact ofV_length a0)
  obtain ⟨i0, hi0, _, hs0', _⟩ := info_parts info4
  clear hr1 hr2 hy1 hy2 hg1 hg2 hs0 wf3
  go_enter Try.func7, Try.ntmps7
  go_wp2_with (first | (go_at_call 22; (with_reducible refine (lent_calls A1 c1 l1 w HR1.out hc1 (by have := HL1.out; omega)).mono ?_); rintro e w1 ⟨gA, cA, rfl, hgc, hg1, hg2, hR, hb⟩; have HA_1 := Aside0.mk hR; have HB_1 := Aside0.mk (below_step (Below.refl w.heap.size w) hb); have HGC0 := Aside0.mk hgc; have HGB := Aside0.mk hg1; clear hb hR hgc hg1 hg2) | ((with_reducible refine gate_dst (N := 38) rfl ?_); refine Kd.R_lit (Kd.int .i64) _ 3 ?hg (N := 38) ?hd (xs := ([] : List Int)) (inner := []) (ok := fun _ => True) (okp := fun _ => True) ?hr ?hp (fun _ hk => hk) trivial (Below.refl _ _) (Nat.le_refl _) (by simp) ?_; (case hd => rfl); (case hg => rfl); (case hr => first | (go_simp; done) | (go_simp; rfl)); (case hp => exact (Reps.none _ _)); intro vl2 wl2 ho hb hg_ hnew_; clear hg_ hnew_; have HLo2 := Aside0.mk ho; have HLb2 := Aside0.mk hb; clear ho hb) | ((with_reducible refine gate_builtin (b := .append) (xs := #[.tmp 38, .tmp 39]) rfl ?_); at_builtin; refine Kd.R_append_rows (Kd.int .i64) (w0 := w1) w1.heap.size rfl (.tmp 38) (.tmp 39) 49 3 (.int .i64 0) 8 rfl Try.underlying49 info3 rfl (by decide) (by omega) vl2 [] l2 _ _ _ (fun _ => True) (fun _ => False) rfl rfl ?aO ?aR (fun _ _ h => h) (fun _ h => h.elim) ?aF ?aB ?aS ?aL ?_; (case aR => exact Kd.C_below HR2.out (below_step HB_1.out HLb2.out)); (case aB => exact HLb2.out); (case aF => exact (fun _ _ => trivial)); (case aO => exact HLo2.out); (case aS => exact HLb2.out.size); (case aL => have := HL2.out; simp; omega); intro vn2 w2 ho hb hg hat; clear hg hat; have hR : Kd.R (Kd.int .i64) 3 w2 w1.heap.size (fun _ => True) vn2 l2 := ho; clear ho; obtain ⟨A_W, c_W, rfl⟩ := Kd.R_slice hR; have HW_2 := Aside0.mk hR; have HA_2 := Aside0.mk (Kd.R_below HA_1.out hb); have HB_2 := Aside0.mk (below_step HB_1.out hb); clear hb hR))
  obtain ⟨n, hn⟩ : ∃ n, l1.length = n := ⟨_, rfl⟩
  obtain ⟨m, hm⟩ : ∃ m, l2.length = m := ⟨_, rfl⟩
  have HGC1 := Aside0.mk (show n + 4 ≤ cA by have := HGC0.out; omega)
  have HLn := Aside0.mk (show n ≤ 140737488351232 by have := HL1.out; omega)
  have HLm := Aside0.mk (show m ≤ 140737488351232 by have := HL2.out; omega)
  have HA0 : Aside0 (Kd.R Kd.bool 4 w2 w.heap.size (fun _ => True) (.slice (some ⟨gA, 0, none⟩) (n + 4) cA) (l1 ++ marks)) := ⟨by
    have h := HA_2.out
    rw [show (l1 ++ marks).length = l1.length + 4 by simp [marks], hn] at h
    exact h⟩
  have HW0 : Aside0 (Kd.R (Kd.int .i64) 3 w2 w.heap.size (fun _ => True) (.slice A_W m c_W) l2) := ⟨by
    have h := Kd.R_lower HW_2.out HB_1.out.size
    rw [hm] at h
    exact h⟩
  have HApWA : Aside0 (Ap (.slice A_W m c_W) (.slice (some ⟨gA, 0, none⟩) (n + 4) cA)) := ⟨by
    have h := ap_new HA_1.out HW_2.out
    rw [hm] at h
    exact fun k h1 h2 => h k h2 h1⟩
  clear HA_1 HA_2 HW_2 HGC0
  rw [hn, hm]
  go_loopw [12] (fun i wr => ∃ (r : Nat) (l : List Bool) (ws : List Int), r ≤ 2 ∧ i = .int .i64 (r : Int) ∧ l.length = n ∧ ws.length = m ∧ Aside0 (Kd.R Kd.bool 4 wr w.heap.size (fun _ => True) (.slice (some ⟨gA, 0, none⟩) (n + 4) cA) (l ++ marks)) ∧ Aside0 (Kd.R (Kd.int .i64) 3 wr w.heap.size (fun _ => True) (.slice A_W m c_W) ws) ∧ Aside0 (Below w.heap.size w wr)) (fun i _ => 2 - (intOf i).toNat)
  case atStart => exact ⟨0, l1, l2, by omega, rfl, hn, hm, HA0, HW0, ⟨HB_2.out⟩⟩
  case round =>
    obtain ⟨r, l, ws, hr, rfl, hln, hwm, HA_0, HW_0, HBr⟩ := hrel
    by_cases hlt : r < 2
    · clear HA0 HW0 hn hm
      subst hln
      subst hwm
      have HL := HLn
      have HGC := HGC1
      have HROL := Aside0.mk (show (rowV ws a3).1.length ≤ 9223372036854775806 by exact rowV_length ws a3)
      obtain ⟨wo, rfl⟩ : ∃ wo : World, wo = wr := ⟨_, rfl⟩
      go_wp2_with (first | ((with_reducible refine gate_dst (N := 45) rfl ?_); refine Kd.R_lit Kd.bool _ 4 ?hg (N := 45) ?hd (xs := ([] : List Bool)) (inner := []) (ok := fun _ => True) (okp := fun _ => True) ?hr ?hp (fun _ hk => hk) trivial (Below.refl _ _) (Nat.le_refl _) (by simp) ?_; (case hd => rfl); (case hg => rfl); (case hr => first | (go_simp; done) | (go_simp; rfl)); (case hp => exact (Reps.none _ _)); intro vl1 wl1 ho hb hg_ hnew_; clear hg_ hnew_; have HLo1 := Aside0.mk ho; have HLb1 := Aside0.mk hb; clear ho hb) | ((with_reducible refine gate_builtin (b := .append) (xs := #[.tmp 45, .tmp 46]) rfl ?_); at_builtin; refine Kd.R_append_rows Kd.bool (w0 := wo) wo.heap.size rfl (.tmp 45) (.tmp 46) 26 4 (.bool false) 1 rfl Try.underlying26 info4 rfl (by decide) (by omega) vl1 [] l _ _ _ (fun _ => True) (fun _ => False) rfl rfl ?aO ?aR (fun _ _ h => h) (fun _ h => h.elim) ?aF ?aB ?aS ?aL ?_; (case aR => exact lent_reads4 (Kd.R_below HA_0.out HLb1.out)); (case aB => exact HLb1.out); (case aF => exact (fun _ _ => trivial)); (case aO => exact HLo1.out); (case aS => exact HLb1.out.size); (case aL => have := HL.out; simp; omega); intro vn1 w1 ho hb hg hat; clear hg hat; have hR : Kd.R Kd.bool 4 w1 wo.heap.size (fun _ => True) vn1 l := ho; clear ho; obtain ⟨A_N, c_N, rfl⟩ := Kd.R_slice hR; have HN_1 := Aside0.mk hR; have HA_1 := Aside0.mk (Kd.R_below HA_0.out hb); have HW_1 := Aside0.mk (Kd.R_below HW_0.out hb); have HB_1 := Aside0.mk (below_step HBr.out hb); clear hb hR) | (go_at_call 36; (with_reducible refine (of_in a0 w1).mono ?_); rintro e w2 ⟨vP, rfl, hR, hb⟩; obtain ⟨A_P, c_P, rfl⟩ := Kd.R_slice hR; have HP_2 := Aside0.mk hR; have HA_2 := Aside0.mk (Kd.R_below HA_1.out hb); have HW_2 := Aside0.mk (Kd.R_below HW_1.out hb); have HN_2 := Aside0.mk (Kd.R_below HN_1.out hb); have HB_2 := Aside0.mk (below_step HB_1.out hb); have HAp_A_P := Aside0.mk (ap_new HA_1.out hR); have HAp_W_P := Aside0.mk (ap_new HW_1.out hR); have HAp_N_P := Aside0.mk (ap_new HN_1.out hR); have HPlo := Aside0.mk (below_size HB_1.out); clear hb hR) | (go_at_call 36; (with_reducible refine (of_in a0 w2).mono ?_); rintro e w3 ⟨vG, rfl, hR, hb⟩; obtain ⟨A_G, c_G, rfl⟩ := Kd.R_slice hR; have HG_3 := Aside0.mk hR; have HA_3 := Aside0.mk (Kd.R_below HA_2.out hb); have HW_3 := Aside0.mk (Kd.R_below HW_2.out hb); have HN_3 := Aside0.mk (Kd.R_below HN_2.out hb); have HP_3 := Aside0.mk (Kd.R_below HP_2.out hb); have HB_3 := Aside0.mk (below_step HB_2.out hb); have HAp_P_G := Aside0.mk (ap_new HP_2.out hR); clear hb hR) | (go_at_call 37; (with_reducible refine (refof_in a0 w3).mono ?_); rintro e w4 ⟨vX, rfl, hR, hb⟩; obtain ⟨A_X, c_X, rfl⟩ := Kd.R_slice hR; have HX_4 := Aside0.mk hR; have HA_4 := Aside0.mk (Kd.R_below HA_3.out hb); have HW_4 := Aside0.mk (Kd.R_below HW_3.out hb); have HN_4 := Aside0.mk (Kd.R_below HN_3.out hb); have HP_4 := Aside0.mk (Kd.R_below HP_3.out hb); have HG_4 := Aside0.mk (Kd.R_below HG_3.out hb); have HB_4 := Aside0.mk (below_step HB_3.out hb); have HAp_P_X := Aside0.mk (ap_new HP_3.out hR); clear hb hR) | (go_at_call 38; (with_reducible refine (bytes_in (some ⟨gA, 0, none⟩) cA l w4 (lent_reads4 HA_4.out) (by have := HGC.out; omega)).mono ?_); rintro e w5 ⟨rfl, hb⟩; have HA_5 := Aside0.mk (Kd.R_below HA_4.out hb); have HW_5 := Aside0.mk (Kd.R_below HW_4.out hb); have HN_5 := Aside0.mk (Kd.R_below HN_4.out hb); have HP_5 := Aside0.mk (Kd.R_below HP_4.out hb); have HG_5 := Aside0.mk (Kd.R_below HG_4.out hb); have HX_5 := Aside0.mk (Kd.R_below HX_4.out hb); have HB_5 := Aside0.mk (below_step HB_4.out hb); clear hb) | (go_at_call 39; (with_reducible refine (refbytes_in A_N c_N l w5 (Kd.R_reads' HN_5.out).2.2 (Kd.R_reads' HN_5.out).2.1).mono ?_); rintro e w6 ⟨rfl, hb⟩; have HA_6 := Aside0.mk (Kd.R_below HA_5.out hb); have HW_6 := Aside0.mk (Kd.R_below HW_5.out hb); have HN_6 := Aside0.mk (Kd.R_below HN_5.out hb); have HP_6 := Aside0.mk (Kd.R_below HP_5.out hb); have HG_6 := Aside0.mk (Kd.R_below HG_5.out hb); have HX_6 := Aside0.mk (Kd.R_below HX_5.out hb); have HB_6 := Aside0.mk (below_step HB_5.out hb); clear hb) | (go_at_call 40; (with_reducible refine (words_in (some ⟨gA, 0, none⟩) cA l a3 w6 (lent_reads4 HA_6.out) (by have := HGC.out; omega)).mono ?_); rintro e w7 ⟨vV, rfl, hR, hb⟩; obtain ⟨A_V, c_V, rfl⟩ := Kd.R_slice hR; have HV_7 := Aside0.mk hR; have HA_7 := Aside0.mk (Kd.R_below HA_6.out hb); have HW_7 := Aside0.mk (Kd.R_below HW_6.out hb); have HN_7 := Aside0.mk (Kd.R_below HN_6.out hb); have HP_7 := Aside0.mk (Kd.R_below HP_6.out hb); have HG_7 := Aside0.mk (Kd.R_below HG_6.out hb); have HX_7 := Aside0.mk (Kd.R_below HX_6.out hb); have HB_7 := Aside0.mk (below_step HB_6.out hb); clear hb hR) | (go_at_call 41; (with_reducible refine (refwords_in A_N c_N l a3 w7 (Kd.R_reads' HN_7.out).2.2 (Kd.R_reads' HN_7.out).2.1).mono ?_); rintro e w8 ⟨vY, rfl, hR, hb⟩; obtain ⟨A_Y, c_Y, rfl⟩ := Kd.R_slice hR; have HY_8 := Aside0.mk hR; have HA_8 := Aside0.mk (Kd.R_below HA_7.out hb); have HW_8 := Aside0.mk (Kd.R_below HW_7.out hb); have HN_8 := Aside0.mk (Kd.R_below HN_7.out hb); have HP_8 := Aside0.mk (Kd.R_below HP_7.out hb); have HG_8 := Aside0.mk (Kd.R_below HG_7.out hb); have HX_8 := Aside0.mk (Kd.R_below HX_7.out hb); have HV_8 := Aside0.mk (Kd.R_below HV_7.out hb); have HB_8 := Aside0.mk (below_step HB_7.out hb); clear hb hR) | (go_at_call 42; (with_reducible refine (row_in A_W c_W ws a3 w8 (Kd.R_reads' HW_8.out).2.2 (Kd.R_reads' HW_8.out).2.1).mono ?_); rintro e w9 ⟨vC, rfl, hR, hb⟩; obtain ⟨A_C, c_C, rfl⟩ := Kd.R_slice hR; have HC_9 := Aside0.mk hR; have HA_9 := Aside0.mk (Kd.R_below HA_8.out hb); have HW_9 := Aside0.mk (Kd.R_below HW_8.out hb); have HN_9 := Aside0.mk (Kd.R_below HN_8.out hb); have HP_9 := Aside0.mk (Kd.R_below HP_8.out hb); have HG_9 := Aside0.mk (Kd.R_below HG_8.out hb); have HX_9 := Aside0.mk (Kd.R_below HX_8.out hb); have HV_9 := Aside0.mk (Kd.R_below HV_8.out hb); have HY_9 := Aside0.mk (Kd.R_below HY_8.out hb); have HB_9 := Aside0.mk (below_step HB_8.out hb); have HAp_A_C := Aside0.mk (ap_new HA_8.out hR); have HAp_W_C := Aside0.mk (ap_new HW_8.out hR); have HAp_N_C := Aside0.mk (ap_new HN_8.out hR); have HAp_G_C := Aside0.mk (ap_new HG_8.out hR); have HAp_X_C := Aside0.mk (ap_new HX_8.out hR); have HAp_P_C := Aside0.mk (ap_new HP_8.out hR); have HClo := Aside0.mk (below_size HB_8.out); clear hb hR) | (go_at_call 43; (with_reducible refine (refrow_in A_W c_W ws a3 w9 (Kd.R_reads' HW_9.out).2.2 (Kd.R_reads' HW_9.out).2.1).mono ?_); rintro e w10 ⟨vZ, rfl, hR, hb⟩; obtain ⟨A_Z, c_Z, rfl⟩ := Kd.R_slice hR; have HZ_10 := Aside0.mk hR; have HA_10 := Aside0.mk (Kd.R_below HA_9.out hb); have HW_10 := Aside0.mk (Kd.R_below HW_9.out hb); have HN_10 := Aside0.mk (Kd.R_below HN_9.out hb); have HP_10 := Aside0.mk (Kd.R_below HP_9.out hb); have HG_10 := Aside0.mk (Kd.R_below HG_9.out hb); have HX_10 := Aside0.mk (Kd.R_below HX_9.out hb); have HV_10 := Aside0.mk (Kd.R_below HV_9.out hb); have HY_10 := Aside0.mk (Kd.R_below HY_9.out hb); have HC_10 := Aside0.mk (Kd.R_below HC_9.out hb); have HB_10 := Aside0.mk (below_step HB_9.out hb); clear hb hR) | (go_at_call 21; (with_reducible refine (same_in A_P c_P A_X c_X (ofV a0).1 w10 (Kd.R_reads' HP_10.out).2.2 (Kd.R_reads' HP_10.out).2.1 (Kd.R_reads' HX_10.out).2.2 (Kd.R_reads' HX_10.out).2.1 HOFL.out).mono ?_); rintro e w11 ⟨rfl, hb⟩; have HA_11 := Aside0.mk (Kd.R_below HA_10.out hb); have HW_11 := Aside0.mk (Kd.R_below HW_10.out hb); have HN_11 := Aside0.mk (Kd.R_below HN_10.out hb); have HP_11 := Aside0.mk (Kd.R_below HP_10.out hb); have HG_11 := Aside0.mk (Kd.R_below HG_10.out hb); have HX_11 := Aside0.mk (Kd.R_below HX_10.out hb); have HV_11 := Aside0.mk (Kd.R_below HV_10.out hb); have HY_11 := Aside0.mk (Kd.R_below HY_10.out hb); have HC_11 := Aside0.mk (Kd.R_below HC_10.out hb); have HZ_11 := Aside0.mk (Kd.R_below HZ_10.out hb); have HB_11 := Aside0.mk (below_step HB_10.out hb); clear hb) | (go_at_call 44; (with_reducible refine (sameI_in A_V c_V A_Y c_Y (wordsV l a3).1 w11 (Kd.R_reads' HV_11.out).2.2 (Kd.R_reads' HV_11.out).2.1 (Kd.R_reads' HY_11.out).2.2 (Kd.R_reads' HY_11.out).2.1 (by have := wordsV_length l a3; omega)).mono ?_); rintro e w12 ⟨rfl, hb⟩; have HA_12 := Aside0.mk (Kd.R_below HA_11.out hb); have HW_12 := Aside0.mk (Kd.R_below HW_11.out hb); have HN_12 := Aside0.mk (Kd.R_below HN_11.out hb); have HP_12 := Aside0.mk (Kd.R_below HP_11.out hb); have HG_12 := Aside0.mk (Kd.R_below HG_11.out hb); have HX_12 := Aside0.mk (Kd.R_below HX_11.out hb); have HC_12 := Aside0.mk (Kd.R_below HC_11.out hb); have HZ_12 := Aside0.mk (Kd.R_below HZ_11.out hb); have HB_12 := Aside0.mk (below_step HB_11.out hb); clear hb) | (go_at_call 21; (with_reducible refine (same_in A_C c_C A_Z c_Z (rowV ws a3).1 w12 (Kd.R_reads' HC_12.out).2.2 (Kd.R_reads' HC_12.out).2.1 (Kd.R_reads' HZ_12.out).2.2 (Kd.R_reads' HZ_12.out).2.1 HROL.out).mono ?_); rintro e w13 ⟨rfl, hb⟩; have HA_13 := Aside0.mk (Kd.R_below HA_12.out hb); have HW_13 := Aside0.mk (Kd.R_below HW_12.out hb); have HN_13 := Aside0.mk (Kd.R_below HN_12.out hb); have HP_13 := Aside0.mk (Kd.R_below HP_12.out hb); have HG_13 := Aside0.mk (Kd.R_below HG_12.out hb); have HX_13 := Aside0.mk (Kd.R_below HX_12.out hb); have HC_13 := Aside0.mk (Kd.R_below HC_12.out hb); have HB_13 := Aside0.mk (below_step HB_12.out hb); clear hb) | (go_at_call 31; (with_reducible refine (unhurt_in gA cA A_N c_N l w13 (lent_all HA_13.out) HGC.out (Kd.R_reads' HN_13.out).2.2 (Kd.R_reads' HN_13.out).2.1 (by have := HL.out; omega)).mono ?_); rintro e w14 ⟨rfl, hb⟩; have HA_14 := Aside0.mk (Kd.R_below HA_13.out hb); have HW_14 := Aside0.mk (Kd.R_below HW_13.out hb); have HN_14 := Aside0.mk (Kd.R_below HN_13.out hb); have HP_14 := Aside0.mk (Kd.R_below HP_13.out hb); have HG_14 := Aside0.mk (Kd.R_below HG_13.out hb); have HX_14 := Aside0.mk (Kd.R_below HX_13.out hb); have HC_14 := Aside0.mk (Kd.R_below HC_13.out hb); have HB_14 := Aside0.mk (below_step HB_13.out hb); clear hb) | (go_at_call 20; (with_reducible refine (turn_in (.slice A_P (ofV a0).1.length c_P) (ofV a0).1 w w14 HB_14.out (Kd.R_lower HP_14.out HPlo.out) HOFL.out).mono ?_); rintro e w15 ⟨rfl, hb, hk, hR⟩; have HA_15 := Aside0.mk (R_keptG HA_14.out rfl hk HAp_A_P.out); have HW_15 := Aside0.mk (R_keptG HW_14.out rfl hk HAp_W_P.out); have HN_15 := Aside0.mk (R_keptG HN_14.out rfl hk HAp_N_P.out); have HG_15 := Aside0.mk (R_keptG HG_14.out rfl hk HAp_P_G.out.symm); have HX_15 := Aside0.mk (R_keptG HX_14.out rfl hk HAp_P_X.out.symm); have HC_15 := Aside0.mk (R_keptG HC_14.out rfl hk HAp_P_C.out.symm); have HB_15 := Aside0.mk (HB_14.out.trans hb); clear hb hk hR) | (go_at_call 20; (with_reducible refine (turn_in (.slice A_C (rowV ws a3).1.length c_C) (rowV ws a3).1 w w15 HB_15.out (Kd.R_lower HC_15.out HClo.out) HROL.out).mono ?_); rintro e w16 ⟨rfl, hb, hk, hR⟩; have HA_16 := Aside0.mk (R_keptG HA_15.out rfl hk HAp_A_C.out); have HW_16 := Aside0.mk (R_keptG HW_15.out rfl hk HAp_W_C.out); have HN_16 := Aside0.mk (R_keptG HN_15.out rfl hk HAp_N_C.out); have HG_16 := Aside0.mk (R_keptG HG_15.out rfl hk HAp_G_C.out); have HX_16 := Aside0.mk (R_keptG HX_15.out rfl hk HAp_X_C.out); have HB_16 := Aside0.mk (HB_15.out.trans hb); clear hb hk hR) | (go_at_call 21; (with_reducible refine (same_in A_G c_G A_X c_X (ofV a0).1 w16 (Kd.R_reads' HG_16.out).2.2 (Kd.R_reads' HG_16.out).2.1 (Kd.R_reads' HX_16.out).2.2 (Kd.R_reads' HX_16.out).2.1 HOFL.out).mono ?_); rintro e w17 ⟨rfl, hb⟩; have HA_17 := Aside0.mk (Kd.R_below HA_16.out hb); have HW_17 := Aside0.mk (Kd.R_below HW_16.out hb); have HN_17 := Aside0.mk (Kd.R_below HN_16.out hb); have HB_17 := Aside0.mk (below_step HB_16.out hb); clear hb) | (go_at_call 31; (with_reducible refine (unhurt_in gA cA A_N c_N l w17 (lent_all HA_17.out) HGC.out (Kd.R_reads' HN_17.out).2.2 (Kd.R_reads' HN_17.out).2.1 (by have := HL.out; omega)).mono ?_); rintro e w18 ⟨rfl, hb⟩; have HA_18 := Aside0.mk (Kd.R_below HA_17.out hb); have HW_18 := Aside0.mk (Kd.R_below HW_17.out hb); have HB_18 := Aside0.mk (below_step HB_17.out hb); clear hb) | (go_at_call 20; (with_reducible refine (turn_lent4 gA cA l w.heap.size w18 HA_18.out (by have := HL.out; omega)).mono ?_); rintro e w19 ⟨rfl, hR, hbg, hk⟩; have HT_19 := Aside0.mk hR; have HW_19 := Aside0.mk (R_keptG (u := .slice (some ⟨gA, 0, none⟩) (l.length + 4) cA) HW_18.out rfl (kept_own hk) HApWA.out); have HB_19 := Aside0.mk (HB_18.out.trans (hbg.mono HGB.out)); clear hR hbg hk))
      go_loopw [32] (fun i wy => ∃ (j : Nat) (xs : List Int), j ≤ ws.length ∧ i = .int .i64 (j : Int) ∧ xs.length = ws.length ∧ Aside0 (Kd.R Kd.bool 4 wy w.heap.size (fun _ => True) (.slice (some ⟨gA, 0, none⟩) (l.length + 4) cA) (l.map not ++ marks)) ∧ Aside0 (Kd.R (Kd.int .i64) 3 wy w.heap.size (fun _ => True) (.slice A_W ws.length c_W) xs) ∧ Aside0 (Below w.heap.size w wy)) (fun i _ => ws.length - (intOf i).toNat)
      case atStart => exact ⟨0, ws, Nat.zero_le _, rfl, rfl, HT_19, HW_19, HB_19⟩
      case round =>
        obtain ⟨j, xs, hj, rfl, hxl, HAy, HWy, HBy⟩ := hrel
        by_cases hjm : j < ws.length
        · obtain ⟨g2, c2', e, hg2, _⟩ := Kd.R_form HWy.out (by omega)
          injection e with e1 e2 e3
          subst e1
          obtain ⟨hx0, hf0⟩ := Kd.R_celln (0 : Int) HWy.out (j : Int) (by omega) (by omega)
          simp only [Int.toNat_natCast] at hx0 hf0
          obtain ⟨V, hV⟩ : ∃ V : Int, rdOf 0 xs (j : Int) = V := ⟨_, rfl⟩
          rw [hV] at hx0
          have HP := Aside0.mk (fun x => Kd.R_putn HWy.out (j : Int) x)
          have hmix : Try.prog.follows .mixedOrders = true := by kernel_rfl
          have HXL := Aside0.mk hxl
          have q1 : (j : Int) < (ws.length : Int) := by omega
          have hlm := HLm.out
          clear hV hxl
          go_wp2
          go_roundw
          case rel =>
            refine ⟨j + 1, xs.set j (wrap64 (V.tdiv 2)), by omega, by go_num, by have := HXL.out; simpa using this, ⟨R_keptG (u := .slice (some ⟨g2, 0, none⟩) ws.length c_W) HAy.out rfl ⟨by simp, fun i hi hn => Below.heap_setCell _ _ _ i (fun e => hn (by subst e; rfl))⟩ HApWA.out.symm⟩, ⟨?_⟩, ⟨HBy.out.setCell (p := ⟨g2, j, none⟩) hg2 _⟩⟩
            have h := HP.out
            simp only [Int.toNat_natCast] at h
            exact h _
          case measure => simp [intOf]; omega
        · obtain rfl : j = ws.length := by omega
          go_wp2
          go_roundw
          case rel => exact ⟨r + 1, l.map not, xs, by omega, by go_num, by rw [List.length_map], hxl, HAy, HWy, HBy⟩
          case measure => simp [intOf]; omega
    · obtain rfl : r = 2 := by omega
      go_wp2
      go_ret
      exact ⟨rfl, HBr.out⟩
end Go.Proofs.Ytabjfehhibeeiaa.Pure
