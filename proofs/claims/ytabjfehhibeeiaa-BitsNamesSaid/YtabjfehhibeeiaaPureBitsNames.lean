/- BitsNames: the greatest row, and one bit more. Closed. -/
import Derived.Test.YtabjfehhibeeiaaFogx0
import Derived.Test.YtabjfehhibeeiaaHandOf
import Derived.Test.YtabjfehhibeeiaaHandRow
import Derived.Test.YtabjfehhibeeiaaHandWords
import Derived.Test.YtabjfehhibeeiaaHandWorks
import Derived.Test.YtabjfehhibeeiaaKit
import Derived.Test.YtabjfehhibeeiaaPureBitsBack
namespace Go.Proofs.Ytabjfehhibeeiaa.Pure
open Go.RowKit Go.Proofs.Ytabjfehhibeeiaa.Fog Go.Proofs.YtabjfehhibeeiaaW.PrintWords Go.Proofs.YtabjfehhibeeiaaW.PrintLast Go.Proofs.YtabjfehhibeeiaaW.PrintMore Go.Proofs.Ytabjfehhibeeiaa.Kit
set_option linter.unusedVariables false
set_option linter.unusedSimpArgs false
theorem kept_grown {w w' : World} {row : Option Nat} (h : w.grownBy w' row) : Kept w w' (fun k => some k = row) := ⟨h.size, fun i hi hn => h.block i hi hn⟩
theorem xor_far (A : Option Addr) (c : Nat) (a : List Bool) (B : Option Addr) (d : Nat) (w : World) (h1 : Kd.C Kd.bool w A a.length a) (hc : a.length ≤ c) (h : 32768 < a.length) :
    Calls Try.prog 23 #[.slice A a.length c, .slice A a.length c] w fun e w' => ∃ v0_ : Value, e = .returned (.tuple #[v0_, .int .i64 1]) ∧ Kd.R Kd.bool 4 w' w.heap.size (fun _ => True) v0_ [] ∧ Below w.heap.size w w' := by
  have h' := xor_in A c a A c a w h1 hc h1 hc
  have e : xorV a a = ([], 1) := by unfold xorV; rw [if_neg (by omega)]
  rw [e] at h'
  exact h'
def PadFits (a : List Bool) (n : Nat) (m r : Int) : Prop := a.length = n ∧ (padV a m).2 = r
theorem pad_at2 (A : Option Addr) (c : Nat) (a : List Bool) (n : Nat) (m r : Int) (w : World) (h1 : Kd.C Kd.bool w A n a) (hc : n ≤ c) (h : PadFits a n m r) :
    Calls Try.prog 27 #[.slice A n c, .int .i64 m] w fun e w' => ∃ v0_ : Value, e = .returned (.tuple #[v0_, .int .i64 r]) ∧ Below w.heap.size w w' := by
  obtain ⟨rfl, rfl⟩ := h
  refine (pad_in A c a m w h1 hc).mono ?_
  rintro e w' ⟨v, rfl, _, hb⟩
  exact ⟨v, rfl, hb⟩
theorem weight_at3 (A : Option Addr) (c : Nat) (a : List Bool) (X : Int) (w : World) (h1 : Kd.C Kd.bool w A a.length a) (hc : a.length ≤ c) (hl : a.length ≤ 40000) (h : (wgt a : Int) = X) :
    Calls Try.prog 29 #[.slice A a.length c] w fun e w' => e = .returned (.int .i64 X) ∧ Below w.heap.size w w' := by
  rw [← h]
  exact weight_in A c a w h1 hc (by omega)
theorem parse_far (l : List Bool) (w : World) (hl : 32768 < l.length) :
    Calls Try.prog 32 #[.string (textOf l)] w fun e w' => ∃ v0_ : Value, e = .returned (.tuple #[v0_, .int .i64 32768, .int .i64 4]) ∧ Below w.heap.size w w' := by
  have h := parse_walk (textOf l) w
  rw [parse_more l hl] at h
  refine h.mono ?_
  rintro e w' ⟨v, rfl, _, hb⟩
  exact ⟨v, rfl, hb⟩
def NamesFit (M MC MN : List Bool) (S : ByteArray) (WS WX : List Int) (F : List Bool) : Prop :=
  MN = M ++ [true] ∧ WX = WS ++ [0] ∧ M.length = 32768 ∧ (∀ k : Nat, k < 32768 → M.getD k false = (k % 3 == 0)) ∧ bytesV M = (S, 0) ∧ S.size = 4096 ∧ bits_Of.f S = some (M, 0) ∧ bits_Of.f (S ++ ⟨#[120]⟩) = some ([], 1) ∧ bits_Words.f MN 1 = some ([], 1) ∧ bits_Words.f M 16 = some (WS, 0) ∧ bits_Row.f WS 16 = some (M, 0) ∧ bits_Row.f WX 16 = some ([], 1) ∧ WS.length ≤ 32768 ∧ XorFits M M F ∧ F.length ≤ 32768 ∧ wgt F = 0 ∧ PadFits M M.length 4096 0 ∧ MC = M.take 32767 ∧ PadFits MC 32767 4095 1 ∧ (wgt MN : Int) = 10924
set_option maxHeartbeats 16000000 in
set_option maxRecDepth 100000 in
theorem names_walk (M MC MN : List Bool) (S : ByteArray) (WS WX : List Int) (F : List Bool) (w : World) (h : NamesFit M MC MN S WS WX F) :
    Calls Try.prog 13 #[] w fun e w' => e = .returned (.bool true) ∧ Below w.heap.size w w' := by
  obtain ⟨hmn, hwx, hM, hMg, hby, hS, hof, hox, hwn, hwm, hrw, hrx, hwsl, hxm, hfl, hfw, hp1, hmc, hp2, hnw⟩ := h
  have HMN := Aside0.mk hmn
  have HWX := Aside0.mk hwx
  have HM32 := Aside0.mk hM
  have HMG := Aside0.mk hMg
  have HBY := Aside0.mk hby
  have HOF := Aside0.mk hof
  have HOX := Aside0.mk hox
  have HWN := Aside0.mk hwn
  have HWM := Aside0.mk hwm
  have HRW := Aside0.mk hrw
  have HRX := Aside0.mk hrx
  have HWSL := Aside0.mk hwsl
  have HXM := Aside0.mk hxm
  have HFL := Aside0.mk hfl
  have HFW := Aside0.mk hfw
  have HP1 := Aside0.mk hp1
  have HP2 := Aside0.mk hp2
  have HNW := Aside0.mk hnw
  have HML := Aside0.mk (show M.length ≤ 40000 by omega)
  have HMB := Aside0.mk (show M.length ≤ 9223372036854775806 by omega)
  have HMT := Aside0.mk (show M.length < 140737488355328 by omega)
  have HMS := Aside0.mk (show M.length ≤ 32768 by omega)
  have HNL := Aside0.mk (show MN.length ≤ 40000 by rw [hmn, List.length_append]; simp; omega)
  have HNF := Aside0.mk (show 32768 < MN.length by rw [hmn, List.length_append]; simp; omega)
  have HNP := Aside0.mk HNF.out
  have HNT := Aside0.mk (show MN.length < 140737488355328 by rw [hmn, List.length_append]; simp; omega)
  have HMC0 := Aside0.mk hmc
  clear hmn hwx hM hMg hby hof hox hwn hwm hrw hrx hwsl hxm hfl hfw hp1 hmc hp2 hnw
  go_enter Try.func13, Try.ntmps13
  go_wp2_with (first
    | (go_at_call 45; (with_reducible refine (foghornlaw01_works.calls true _ rfl).mono ?_); rintro e w1 ⟨rfl, hb⟩; have HB_1 := Aside0.mk hb; clear hb)
    | ((with_reducible refine gate_dst (N := 33) rfl ?_); refine Kd.R_make Kd.bool _ 4 rfl (N := 33) rfl 26 _ _ rfl 32768 rfl rfl Try.underlying26 (.bool false) 1 info4 rfl (by decide) (by omega) false (ok := fun _ => True) (okp := fun _ => True) rfl (fun _ hk => hk) trivial (by decide) (by decide) (Below.refl _ _) (Nat.le_refl _) ?_; intro v2 w2 ho hb hg_ hnew_; clear hg_ hnew_; (obtain ⟨Z, hZ⟩ : ∃ Z, Z = List.replicate (32768 : Int).toNat false := ⟨_, rfl⟩); rw [← hZ] at ho; (have hZl : Z.length = M.length := (by rw [hZ, HM32.out]; simp)); clear hZ; obtain ⟨g, c_M, rfl, hgb, hgl, _⟩ := Kd.R_form ho (by rw [hZl, HM32.out]; decide); rw [hZl] at ho ⊢; have HZL := Aside0.mk hZl; have HZ_2 := Aside0.mk ho; have HBz := Aside0.mk (below_step HB_1.out hb); have HGB := Aside0.mk hgb; clear ho hb hgb hgl hZl))
  go_loopw [2] (fun i wr => ∃ (k : Nat) (X : List Bool), k ≤ M.length ∧ i = .int .i64 (k : Int) ∧ Aside0 (X.length = M.length) ∧ Aside0 (X.take k = M.take k) ∧ Aside0 (Kd.R Kd.bool 4 wr w1.heap.size (fun _ => True) (.slice (some ⟨g, 0, none⟩) M.length c_M) X) ∧ Aside0 (Below w.heap.size w wr)) (fun i _ => M.length - (intOf i).toNat)
  case atStart => exact ⟨0, Z, Nat.zero_le _, rfl, HZL, ⟨rfl⟩, HZ_2, HBz⟩
  case round =>
    obtain ⟨k, X, hk, rfl, HXL, HXT, HX, HBw⟩ := hrel
    by_cases hlt : k < M.length
    · have q1 : (k : Int) < (M.length : Int) := by omega
      have hkk : (k : Int) < 32768 := by have := HM32.out; omega
      obtain ⟨hx0, hf0⟩ := Kd.R_celln false HX.out (k : Int) (by omega) q1
      simp only [Int.toNat_natCast] at hx0 hf0
      obtain ⟨V, hV⟩ : ∃ V : Bool, ((k : Int) % 3 == 0) = V := ⟨_, rfl⟩
      have hV2 : ((k : Int).tmod 3 == 0) = V := by rw [Int.tmod_eq_emod_of_nonneg (by omega)]; exact hV
      have HV := Aside0.mk (show M.getD k false = V by
        rw [HMG.out k (by omega), ← hV]
        rw [Bool.eq_iff_iff]
        simp
        omega)
      go_wp2
      go_roundw
      case rel =>
        refine ⟨k + 1, X.set k V, by omega, by go_num, ⟨by rw [List.length_set]; exact HXL.out⟩, ⟨?_⟩, ⟨?_⟩, ⟨HBw.out.setCell (p := ⟨g, k, none⟩) (Nat.le_trans HB_1.out.size HGB.out) _⟩⟩
        · rw [List.take_succ_eq_append_getElem (by rw [List.length_set]; have := HXL.out; omega), List.take_set_of_le (Nat.le_refl _), HXT.out, List.getElem_set_self, List.take_succ_eq_append_getElem hlt]
          have hg := HV.out
          rw [List.getD_eq_getElem?_getD, List.getElem?_eq_getElem hlt] at hg
          rw [← hg]
          rfl
        · exact Kd.R_putn HX.out (k : Int) V
      case measure => simp [intOf]; omega
    · obtain rfl : k = M.length := by omega
      have hXM : M = X := by
        have h := HXT.out
        rw [List.take_length, List.take_of_length_le (by have := HXL.out; omega)] at h
        exact h.symm
      obtain rfl := hXM
      have HM_2 := HX
      have HB_2 := HBw
      obtain ⟨w2, rfl⟩ : ∃ w2 : World, w2 = wr := ⟨_, rfl⟩
      obtain ⟨A_M, hAM⟩ : ∃ A_M : Option Addr, A_M = some ⟨g, 0, none⟩ := ⟨_, rfl⟩
      rw [← hAM] at HM_2 ⊢
      clear hAM
      have hcap : 32767 ≤ c_M := by have := (Kd.R_reads' HM_2.out).2.1; have := HM32.out; omega
      have HMCC := Aside0.mk hcap
      have HMC := Aside0.mk (show ∀ w' : World, Kd.C Kd.bool w' A_M M.length M → Kd.C Kd.bool w' A_M 32767 MC from fun w' h => by rw [HMC0.out]; exact C_to h 32767 (by have := HM32.out; omega))
      clear HX HBw HXT HXL
      go_wp2_with (first | ((with_reducible refine gate_dst (N := 46) rfl ?_); refine Kd.R_lit Kd.bool _ 4 ?hg (N := 46) ?hd (xs := ([] : List Bool)) (inner := []) (ok := fun _ => True) (okp := fun _ => True) ?hr ?hp (fun _ hk => hk) trivial (Below.refl _ _) (Nat.le_refl _) (by simp) ?_; (case hd => rfl); (case hg => rfl); (case hr => first | (go_simp; done) | (go_simp; rfl)); (case hp => exact (Reps.none _ _)); intro vl3 wl3 ho hb hg_ hnew_; clear hg_ hnew_; have HLo3 := Aside0.mk ho; have HLb3 := Aside0.mk hb; clear ho hb) | ((with_reducible refine gate_builtin (b := .append) (xs := #[.tmp 46, .tmp 47]) rfl ?_); at_builtin; refine Kd.R_append_rows Kd.bool (w0 := w2) w2.heap.size rfl (.tmp 46) (.tmp 47) 26 4 (.bool false) 1 rfl Try.underlying26 info4 rfl (by decide) (by omega) vl3 [] M _ _ _ (fun _ => True) (fun _ => False) rfl rfl ?aO ?aR (fun _ _ h => h) (fun _ h => h.elim) ?aF ?aB ?aS ?aL ?_; (case aR => exact (Kd.R_reads' (Kd.R_below HM_2.out HLb3.out)).2.2); (case aB => exact HLb3.out); (case aF => exact (fun _ _ => trivial)); (case aO => exact HLo3.out); (case aS => exact HLb3.out.size); (case aL => have := HML.out; simp; omega); intro vn3 w3 ho hb hg hat; clear hg hat; have hR : Kd.R Kd.bool 4 w3 w2.heap.size (fun _ => True) vn3 M := ho; clear ho; obtain ⟨A_CP, c_CP, rfl⟩ := Kd.R_slice hR; have HCP_3 := Aside0.mk hR; have HM_3 := Aside0.mk (Kd.R_below HM_2.out hb); have HW23 := Aside0.mk hb; have HB_3 := Aside0.mk (below_step HB_2.out hb); clear hb hR) | ((with_reducible refine gate_builtin (b := .append) (xs := #[.tmp 48, .tmp 49]) rfl ?_); at_builtin; refine Kd.R_append Kd.bool (w0 := w2) w2.heap.size rfl (.tmp 48) (.tmp 49) 26 4 (.bool false) 1 rfl Try.underlying26 info4 rfl (by decide) (by omega) (.slice A_CP M.length c_CP) M true [.bool true] (fun _ => True) (fun _ => False) rfl rfl ?aP (fun _ hk => hk.elim) ?aF ?aO ?aB ?aS ?aL ?_; (case aP => exact rfl); (case aB => exact HW23.out); (case aF => exact (fun _ _ => trivial)); (case aO => exact HCP_3.out); (case aS => exact HW23.out.size); (case aL => have := HML.out; omega); intro v4 w4 ho hb hg hat; clear hg hat; have hR : Kd.R Kd.bool 4 w4 w2.heap.size (fun _ => True) v4 MN := HMN.out.symm ▸ ho; clear ho; obtain ⟨A_N, c_N, rfl⟩ := Kd.R_slice hR; have HN_4 := Aside0.mk hR; have HM_4 := Aside0.mk (Kd.R_below HM_2.out hb); have HB_4 := Aside0.mk (below_step HB_2.out hb); clear hb hR) | (go_at_call 38; (with_reducible refine (bytes_at A_M c_M M S _ (Kd.R_reads' HM_4.out).2.2 (Kd.R_reads' HM_4.out).2.1 HBY.out).mono ?_); rintro e w5 ⟨rfl, hb⟩; have HM_5 := Aside0.mk (Kd.R_below HM_4.out hb); have HN_5 := Aside0.mk (Kd.R_below HN_4.out hb); have HB_5 := Aside0.mk (below_step HB_4.out hb); clear hb) | (go_at_call 36; (with_reducible refine (bits_Of.calls S M 0 _ HOF.out).mono ?_); rintro e w6 ⟨vT, rfl, hR, hb⟩; obtain ⟨A_T, c_T, rfl⟩ := Kd.R_slice hR; have HT_6 := Aside0.mk hR; have HM_6 := Aside0.mk (Kd.R_below HM_5.out hb); have HN_6 := Aside0.mk (Kd.R_below HN_5.out hb); have HB_6 := Aside0.mk (below_step HB_5.out hb); clear hb hR) | (go_at_call 36; (with_reducible refine (bits_Of.calls _ [] 1 _ HOX.out).mono ?_); rintro e w7 ⟨vG, rfl, hR, hb⟩; have HM_7 := Aside0.mk (Kd.R_below HM_6.out hb); have HN_7 := Aside0.mk (Kd.R_below HN_6.out hb); have HT_7 := Aside0.mk (Kd.R_below HT_6.out hb); have HB_7 := Aside0.mk (below_step HB_6.out hb); clear hb hR) | (go_at_call 40; (with_reducible refine (bits_Words.calls A_N c_N MN 1 [] 1 _ (Kd.R_reads' HN_7.out).2.2 (Kd.R_reads' HN_7.out).2.1 HWN.out).mono ?_); rintro e w8 ⟨vH, rfl, hR, hb⟩; have HM_8 := Aside0.mk (Kd.R_below HM_7.out hb); have HN_8 := Aside0.mk (Kd.R_below HN_7.out hb); have HT_8 := Aside0.mk (Kd.R_below HT_7.out hb); have HB_8 := Aside0.mk (below_step HB_7.out hb); clear hb hR) | (go_at_call 40; (with_reducible refine (bits_Words.calls A_M c_M M 16 WS 0 _ (Kd.R_reads' HM_8.out).2.2 (Kd.R_reads' HM_8.out).2.1 HWM.out).mono ?_); rintro e w9 ⟨vW, rfl, hR, hb⟩; obtain ⟨A_W, c_W, rfl⟩ := Kd.R_slice hR; have HW_9 := Aside0.mk hR; have HM_9 := Aside0.mk (Kd.R_below HM_8.out hb); have HN_9 := Aside0.mk (Kd.R_below HN_8.out hb); have HT_9 := Aside0.mk (Kd.R_below HT_8.out hb); have HB_9 := Aside0.mk (below_step HB_8.out hb); have HW89 := Aside0.mk hb; clear hb hR) | (go_at_call 42; (with_reducible refine (bits_Row.calls A_W c_W WS 16 M 0 _ (Kd.R_reads' HW_9.out).2.2 (Kd.R_reads' HW_9.out).2.1 HRW.out).mono ?_); rintro e w10 ⟨vR, rfl, hR, hb⟩; obtain ⟨A_R, c_R, rfl⟩ := Kd.R_slice hR; have HR_10 := Aside0.mk hR; have HM_10 := Aside0.mk (Kd.R_below HM_9.out hb); have HN_10 := Aside0.mk (Kd.R_below HN_9.out hb); have HT_10 := Aside0.mk (Kd.R_below HT_9.out hb); have HW_10 := Aside0.mk (Kd.R_below HW_9.out hb); have HB_10 := Aside0.mk (below_step HB_9.out hb); have HW8A := Aside0.mk (below_step HW89.out hb); have HWL := Aside0.mk (fun k hk => ((Kd.R_bound HW_9.out).1 k hk).2.2.1); have HRG := Aside0.mk (own_ge hR); clear hb hR) | ((with_reducible refine gate_builtin (b := .append) (xs := #[.tmp 83, .tmp 84]) rfl ?_); at_builtin; refine Kd.R_append (Kd.int .i64) (w0 := w8) w8.heap.size rfl (.tmp 83) (.tmp 84) 49 3 (.int .i64 0) 8 rfl Try.underlying49 info3 rfl (by decide) (by omega) (.slice A_W WS.length c_W) WS 0 [.int .i64 0] (fun _ => True) (fun _ => False) rfl rfl ?aP (fun _ hk => hk.elim) ?aF ?aO ?aB ?aS ?aL ?_; (case aP => exact rfl); (case aB => exact HW8A.out); (case aF => exact (fun _ _ => trivial)); (case aO => exact HW_10.out); (case aS => exact HW8A.out.size); (case aL => have := HWSL.out; omega); intro v11 w11 ho hb hg hat; clear hat; have hR : Kd.R (Kd.int .i64) 3 w11 w8.heap.size (fun _ => True) v11 WX := HWX.out.symm ▸ ho; clear ho; obtain ⟨A_V, c_V, rfl⟩ := Kd.R_slice hR; have HV_11 := Aside0.mk hR; have HM_11 := Aside0.mk (Kd.R_below HM_8.out hb); have HN_11 := Aside0.mk (Kd.R_below HN_8.out hb); have HT_11 := Aside0.mk (Kd.R_below HT_8.out hb); have HR_11 := Aside0.mk (R_kept HR_10.out (kept_grown hg) (fun k hk1 hk2 => by have h1 := HRG.out k hk1; have h2 := HWL.out k hk2.symm; omega)); have HB_11 := Aside0.mk (below_step HB_8.out hb); clear hb hg hR) | (go_at_call 42; (with_reducible refine (bits_Row.calls A_V c_V WX 16 [] 1 _ (Kd.R_reads' HV_11.out).2.2 (Kd.R_reads' HV_11.out).2.1 HRX.out).mono ?_); rintro e w12 ⟨vK, rfl, hR, hb⟩; have HM_12 := Aside0.mk (Kd.R_below HM_11.out hb); have HN_12 := Aside0.mk (Kd.R_below HN_11.out hb); have HT_12 := Aside0.mk (Kd.R_below HT_11.out hb); have HR_12 := Aside0.mk (Kd.R_below HR_11.out hb); have HV_12 := Aside0.mk (Kd.R_below HV_11.out hb); have HB_12 := Aside0.mk (below_step HB_11.out hb); clear hb hR) | (go_at_call 21; (with_reducible refine (same_in A_T c_T A_M c_M M _ (Kd.R_reads' HT_12.out).2.2 (Kd.R_reads' HT_12.out).2.1 (Kd.R_reads' HM_12.out).2.2 (Kd.R_reads' HM_12.out).2.1 HMB.out).mono ?_); rintro e w13 ⟨rfl, hb⟩; have HM_13 := Aside0.mk (Kd.R_below HM_12.out hb); have HN_13 := Aside0.mk (Kd.R_below HN_12.out hb); have HT_13 := Aside0.mk (Kd.R_below HT_12.out hb); have HR_13 := Aside0.mk (Kd.R_below HR_12.out hb); have HV_13 := Aside0.mk (Kd.R_below HV_12.out hb); have HB_13 := Aside0.mk (below_step HB_12.out hb); clear hb) | (go_at_call 21; (with_reducible refine (same_in A_R c_R A_M c_M M _ (Kd.R_reads' HR_13.out).2.2 (Kd.R_reads' HR_13.out).2.1 (Kd.R_reads' HM_13.out).2.2 (Kd.R_reads' HM_13.out).2.1 HMB.out).mono ?_); rintro e w14 ⟨rfl, hb⟩; have HM_14 := Aside0.mk (Kd.R_below HM_13.out hb); have HN_14 := Aside0.mk (Kd.R_below HN_13.out hb); have HR_14 := Aside0.mk (Kd.R_below HR_13.out hb); have HB_14 := Aside0.mk (below_step HB_13.out hb); clear hb) | (go_at_call 23; (with_reducible refine (xor_far A_N c_N MN A_N c_N _ (Kd.R_reads' HN_14.out).2.2 (Kd.R_reads' HN_14.out).2.1 HNF.out).mono ?_); rintro e w15 ⟨vX, rfl, hR, hb⟩; have HM_15 := Aside0.mk (Kd.R_below HM_14.out hb); have HN_15 := Aside0.mk (Kd.R_below HN_14.out hb); have HB_15 := Aside0.mk (below_step HB_14.out hb); clear hb hR) | (go_at_call 23; (with_reducible refine (xor_at2 A_M c_M M A_M c_M M F _ (Kd.R_reads' HM_15.out).2.2 (Kd.R_reads' HM_15.out).2.1 (Kd.R_reads' HM_15.out).2.2 (Kd.R_reads' HM_15.out).2.1 HXM.out).mono ?_); rintro e w16 ⟨vX, rfl, hR, hb⟩; obtain ⟨A_X, c_X, rfl⟩ := Kd.R_slice hR; have HX_16 := Aside0.mk hR; have HM_16 := Aside0.mk (Kd.R_below HM_15.out hb); have HN_16 := Aside0.mk (Kd.R_below HN_15.out hb); have HB_16 := Aside0.mk (below_step HB_15.out hb); clear hb hR) | (go_at_call 27; (with_reducible refine (pad_at2 A_M c_M M M.length 4096 0 _ (Kd.R_reads' HM_16.out).2.2 (Kd.R_reads' HM_16.out).2.1 HP1.out).mono ?_); rintro e w17 ⟨vP, rfl, hb⟩; have HM_17 := Aside0.mk (Kd.R_below HM_16.out hb); have HN_17 := Aside0.mk (Kd.R_below HN_16.out hb); have HX_17 := Aside0.mk (Kd.R_below HX_16.out hb); have HB_17 := Aside0.mk (below_step HB_16.out hb); clear hb) | (go_at_call 27; (with_reducible refine (pad_at2 A_M c_M MC 32767 4095 1 _ (HMC.out _ (Kd.R_reads' HM_17.out).2.2) HMCC.out HP2.out).mono ?_); rintro e w18 ⟨vP2, rfl, hb⟩; have HM_18 := Aside0.mk (Kd.R_below HM_17.out hb); have HN_18 := Aside0.mk (Kd.R_below HN_17.out hb); have HX_18 := Aside0.mk (Kd.R_below HX_17.out hb); have HB_18 := Aside0.mk (below_step HB_17.out hb); clear hb) | (go_at_call 29; (with_reducible refine (weight_at' A_X c_X F 0 _ (Kd.R_reads' HX_18.out).2.2 (Kd.R_reads' HX_18.out).2.1 HFL.out HFW.out).mono ?_); rintro e w19 ⟨rfl, hb⟩; have HM_19 := Aside0.mk (Kd.R_below HM_18.out hb); have HN_19 := Aside0.mk (Kd.R_below HN_18.out hb); have HX_19 := Aside0.mk (Kd.R_below HX_18.out hb); have HB_19 := Aside0.mk (below_step HB_18.out hb); clear hb) | (go_at_call 29; (with_reducible refine (weight_at3 A_N c_N MN 10924 _ (Kd.R_reads' HN_19.out).2.2 (Kd.R_reads' HN_19.out).2.1 HNL.out HNW.out).mono ?_); rintro e w20 ⟨rfl, hb⟩; have HM_20 := Aside0.mk (Kd.R_below HM_19.out hb); have HN_20 := Aside0.mk (Kd.R_below HN_19.out hb); have HX_20 := Aside0.mk (Kd.R_below HX_19.out hb); have HB_20 := Aside0.mk (below_step HB_19.out hb); clear hb) | (go_at_call 34; (with_reducible refine (text_in A_M c_M M _ (Kd.R_reads' HM_20.out).2.2 (Kd.R_reads' HM_20.out).2.1 HMT.out).mono ?_); rintro e w21 ⟨rfl, hb⟩; have HM_21 := Aside0.mk (Kd.R_below HM_20.out hb); have HN_21 := Aside0.mk (Kd.R_below HN_20.out hb); have HX_21 := Aside0.mk (Kd.R_below HX_20.out hb); have HB_21 := Aside0.mk (below_step HB_20.out hb); clear hb) | (go_at_call 32; (with_reducible refine (parse_at M _ HMS.out).mono ?_); rintro e w22 ⟨vS, rfl, hR, hb⟩; obtain ⟨A_S, c_S, rfl⟩ := Kd.R_slice hR; have HS_22 := Aside0.mk hR; have HM_22 := Aside0.mk (Kd.R_below HM_21.out hb); have HN_22 := Aside0.mk (Kd.R_below HN_21.out hb); have HX_22 := Aside0.mk (Kd.R_below HX_21.out hb); have HB_22 := Aside0.mk (below_step HB_21.out hb); clear hb hR) | (go_at_call 34; (with_reducible refine (text_in A_N c_N MN _ (Kd.R_reads' HN_22.out).2.2 (Kd.R_reads' HN_22.out).2.1 HNT.out).mono ?_); rintro e w23 ⟨rfl, hb⟩; have HM_23 := Aside0.mk (Kd.R_below HM_22.out hb); have HN_23 := Aside0.mk (Kd.R_below HN_22.out hb); have HX_23 := Aside0.mk (Kd.R_below HX_22.out hb); have HS_23 := Aside0.mk (Kd.R_below HS_22.out hb); have HB_23 := Aside0.mk (below_step HB_22.out hb); clear hb) | (go_at_call 32; (with_reducible refine (parse_far MN _ HNP.out).mono ?_); rintro e w24 ⟨vS2, rfl, hb⟩; have HM_24 := Aside0.mk (Kd.R_below HM_23.out hb); have HN_24 := Aside0.mk (Kd.R_below HN_23.out hb); have HX_24 := Aside0.mk (Kd.R_below HX_23.out hb); have HS_24 := Aside0.mk (Kd.R_below HS_23.out hb); have HB_24 := Aside0.mk (below_step HB_23.out hb); clear hb) | (go_at_call 21; (with_reducible refine (same_in A_S c_S A_M c_M M _ (Kd.R_reads' HS_24.out).2.2 (Kd.R_reads' HS_24.out).2.1 (Kd.R_reads' HM_24.out).2.2 (Kd.R_reads' HM_24.out).2.1 HMB.out).mono ?_); rintro e w25 ⟨rfl, hb⟩; have HM_25 := Aside0.mk (Kd.R_below HM_24.out hb); have HN_25 := Aside0.mk (Kd.R_below HN_24.out hb); have HX_25 := Aside0.mk (Kd.R_below HX_24.out hb); have HS_25 := Aside0.mk (Kd.R_below HS_24.out hb); have HB_25 := Aside0.mk (below_step HB_24.out hb); clear hb))
      go_ret
      exact ⟨rfl, HB_25.out⟩
theorem byte_row : ∀ c : Nat, c < 256 → ofByte (c : Int) = rowBits 8 (c : Int) := by decide +kernel
theorem bt_str (ws : List Int) (k : Nat) (h : k < ws.length) : bt (strOfNums (ws.map (· % 256))) (k : Int) = ws[k] % 256 := by
  have hs : k < (strOfNums (ws.map (· % 256))).size := by rw [strOfNums_size, List.length_map]; exact h
  have := bt_at (strOfNums (ws.map (· % 256))) (k : Int)
  simp only [Int.toNat_natCast] at this
  rw [← this hs]
  have e : (strOfNums (ws.map (· % 256)))[k]'hs = UInt8.ofNat (ws[k] % 256).toNat := by
    show (((ws.map (· % 256)).map fun n => UInt8.ofNat n.toNat).toArray)[k]'_ = _
    simp
  rw [e, UInt8.toNat_ofNat']
  have h1 := Int.emod_nonneg ws[k] (show (256 : Int) ≠ 0 by decide)
  have h2 := Int.emod_lt_of_pos ws[k] (show (0 : Int) < 256 by decide)
  rw [show 2 ^ 8 = 256 by decide, Nat.mod_eq_of_lt (by omega)]
  omega
theorem of_bytes (l : List Bool) (n : Nat) (hl : l.length = n * 8) : ofB (strOfNums (((List.range n).map (wordK l 8)).map (· % 256))) n = l := by
  have hlen : ∀ k, k < n → ((l.drop (k * 8)).take 8).length = 8 := by
    intro k hk
    rw [List.length_take, List.length_drop]
    omega
  have e : ofB (strOfNums (((List.range n).map (wordK l 8)).map (· % 256))) n = (List.range n).flatMap (fun k => (l.drop (k * 8)).take 8) := by
    unfold ofB
    rw [List.flatMap_def, List.flatMap_def]
    congr 1
    refine List.map_congr_left fun k hk => ?_
    have hk' : k < n := by simpa using hk
    rw [bt_str _ k (by simpa using hk')]
    obtain ⟨v, hv, hlt⟩ := wordOf_nat ((l.drop (k * 8)).take 8)
    rw [hlen k hk'] at hlt
    have hw : ((List.range n).map (wordK l 8))[k]'(by simpa using hk') = (v : Int) := by
      rw [List.getElem_map, List.getElem_range]
      exact hv
    rw [hw, show (v : Int) % 256 = (v : Int) by omega, byte_row v (by omega), ← hv]
    exact rowBits_word 8 _ (hlen k hk') (by omega)
  rw [e, chunks, ← hl, List.take_length]
theorem third : ∀ m : Nat, wgt ((List.range (3 * m)).map fun k => k % 3 == 0) = m
  | 0 => rfl
  | m + 1 => by
    have ih := third m
    rw [show 3 * (m + 1) = 3 * m + 1 + 1 + 1 by omega, List.range_succ, List.range_succ, List.range_succ, List.map_append, List.map_append, List.map_append]
    unfold wgt at ih ⊢
    rw [List.count_append, List.count_append, List.count_append, ih]
    have h0 : (3 * m % 3 == 0) = true := by simp
    have h1 : ((3 * m + 1) % 3 == 0) = false := by first | (simp; done) | (simp; omega)
    have h2 : ((3 * m + 1 + 1) % 3 == 0) = false := by first | (simp; done) | (simp; omega)
    simp only [List.map_cons, List.map_nil, h0, h1, h2]
    rfl
theorem third_all (n : Nat) (h : n = 32768) : wgt ((List.range n).map fun k => k % 3 == 0) = 10923 := by
  have ih := third 10922
  rw [show n = 3 * 10922 + 1 + 1 by omega, List.range_succ, List.range_succ, List.map_append, List.map_append]
  unfold wgt at ih ⊢
  rw [List.count_append, List.count_append, ih]
  rfl
theorem names_fit (n : Nat) (hn : n = 32768) (M : List Bool) (hM : M = (List.range n).map fun k => k % 3 == 0) :
    NamesFit M (M.take 32767) (M ++ [true]) (strOfNums (((List.range 4096).map (wordK M 8)).map (· % 256))) ((List.range 2048).map (wordK M 16)) ((List.range 2048).map (wordK M 16) ++ [0]) (List.replicate M.length false) := by
  have hl : M.length = 32768 := by rw [hM, List.length_map, List.length_range, hn]
  have hw : wgt M = 10923 := by rw [hM]; exact third_all n hn
  have hg : ∀ k : Nat, k < 32768 → M.getD k false = (k % 3 == 0) := by
    intro k hk
    rw [hM, List.getD_eq_getElem?_getD, List.getElem?_map, List.getElem?_range (by omega)]
    rfl
  clear hM hn
  generalize hr8 : (List.range 4096).map (wordK M 8) = W8
  have h8l : W8.length = 4096 := by rw [← hr8, List.length_map, List.length_range]
  generalize hr16 : (List.range 2048).map (wordK M 16) = W16
  have h16l : W16.length = 2048 := by rw [← hr16, List.length_map, List.length_range]
  have hsz : (strOfNums (W8.map (· % 256))).size = 4096 := by rw [strOfNums_size, List.length_map, h8l]
  have w8 : wordsV M 8 = (W8, 0) := by
    unfold wordsV
    rw [if_pos ⟨by decide, by decide, by omega, by rw [hl]; rfl⟩, hl, ← hr8]
    rfl
  have w16 : wordsV M 16 = (W16, 0) := by
    unfold wordsV
    rw [if_pos ⟨by decide, by decide, by omega, by rw [hl]; rfl⟩, hl, ← hr16]
    rfl
  refine ⟨rfl, rfl, hl, hg, ?_, hsz, ?_, ?_, ?_, ?_, ?_, ?_, by omega, ⟨⟨rfl, by omega⟩, xorB_self M⟩, by rw [List.length_replicate]; omega, wgt_none _, ⟨rfl, ?_⟩, rfl, ⟨by rw [List.length_take]; omega, ?_⟩, ?_⟩
  · unfold bytesV
    rw [w8, if_pos rfl]
  · unfold bits_Of.f
    rw [if_neg (by omega), hsz, ← hr8, of_bytes M 4096 (by omega)]
  · unfold bits_Of.f
    rw [if_pos]
    rw [ByteArray.size_append, hsz]
    decide
  · unfold bits_Words.f wordsV
    rw [if_neg]
    rintro ⟨_, _, h, _⟩
    rw [List.length_append, hl] at h
    simp at h
  · unfold bits_Words.f
    rw [w16]
  · unfold bits_Row.f
    have h := row_words M 16 2048 (by decide) (by decide) (by omega) (by omega)
    rw [hr16] at h
    exact congrArg some h
  · unfold bits_Row.f rowV
    rw [if_neg]
    rintro ⟨_, _, h⟩
    rw [List.length_append, h16l] at h
    revert h
    decide
  · unfold padV
    rw [if_pos ⟨by omega, by decide, by decide⟩, hl, if_pos (by decide)]
  · unfold padV
    rw [if_pos ⟨by rw [List.length_take]; omega, by decide, by decide⟩, List.length_take, hl, if_neg (by decide)]
  · unfold wgt at hw ⊢
    rw [List.count_append, hw]
    rfl
theorem BitsNames_walk (w : World) : Calls Try.prog 13 #[] w fun e w' => e = .returned (.bool true) ∧ Below w.heap.size w w' := by
  obtain ⟨n, hn⟩ : ∃ n : Nat, n = 32768 := ⟨_, rfl⟩
  exact names_walk _ _ _ _ _ _ _ w (names_fit n hn _ rfl)
end Go.Proofs.Ytabjfehhibeeiaa.Pure
