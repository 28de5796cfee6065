/- FrameBack: any frames: their bytes, one behind the other, are scanned as those frames; each is parsed with anything behind it, and packed again. No condition. -/
import Derived.Test.YtclhkbjcemgmnaaFogx0
import Derived.Test.YtclhkbjcemgmnaaFogx11
import Derived.Test.YtclhkbjcemgmnaaFogx4
import Derived.Test.YtclhkbjcemgmnaaHandPack
import Derived.Test.YtclhkbjcemgmnaaHandWorks
import Derived.Test.YtclhkbjcemgmnaaHandScan
import Derived.Test.YtclhkbjcemgmnaaPieces
import Derived.Test.YtclhkbjcemgmnaaSeqRows
import Derived.Test.YtclhkbjcemgmnaaHandWorks
namespace Go.Proofs.Ytclhkbjcemgmnaa.Pure
open Go.RowKit Go.Shelf Go.Proofs.Ytclhkbjcemgmnaa.Fog Go.Proofs.YtclhkbjcemgmnaaW.PrintWords Go.Proofs.YtclhkbjcemgmnaaW.PrintLast Go.Proofs.YtclhkbjcemgmnaaW.PrintMore Go.Proofs.Ytclhkbjcemgmnaa.Kit Go.Proofs.Ytclhkbjcemgmnaa.Seq
set_option linter.unusedVariables false
set_option linter.unusedSimpArgs false
attribute [local go_sem] Oper.semAt_some
theorem fit_f (x : S30) (h0 : 0 ≤ x.f0 ∧ x.f0 < 256) : foghornlaw25_fit.f x.f0 x.f1 x.f2 x.f3 = some ((fitF x).f0, (fitF x).f1, (fitF x).f2, (fitF x).f3) := by
  obtain ⟨u, hu⟩ := Int.eq_ofNat_of_zero_le h0.1
  unfold foghornlaw25_fit.f fitF
  rw [show (240 : Int) = ((240 : Nat) : Int) from rfl, mn_nat, if_pos (by omega), if_pos (by omega), Int.toNat_natCast, hu, show (15 : Int) = ((15 : Nat) : Int) from rfl, tmod_nat]
  show some ((1 + ((u % 15 : Nat) : Int)) % 256, _) = some (1 + (u : Int) % ((15 : Nat) : Int), _)
  rw [show (1 + ((u % 15 : Nat) : Int)) % 256 = 1 + (u : Int) % ((15 : Nat) : Int) by omega]
theorem lsame_self (a b : Int) (m : Bool) (s : ByteArray) : foghornlaw25_same.f a b m s a b m s = some true := by
  unfold foghornlaw25_same.f
  rw [if_pos rfl, if_pos rfl, if_pos (by simp)]
  simp
theorem pack_good (x : S30) (h : GoodF x) : frame_Pack.f x.f0 x.f1 x.f2 x.f3 = some (packF x, 0) := by
  have hmay : mayB x.f0 x.f3 = true := by
    unfold mayB
    rw [decide_eq_true h.1.1, decide_eq_true h.1.2, decide_eq_true (by have := h.2.2; omega : (x.f3.size : Int) ≤ 240)]
    rfl
  rw [pack_f, if_pos hmay]
  rfl
theorem parse_good (x : S30) (t : ByteArray) (h : GoodF x) (hs : (packF x ++ t).size ≤ 140737488355328) (w : World) : Calls Try.prog 17 #[.string (packF x ++ t)] w fun e w' => e = .returned (.tuple #[.agg #[.int .u8 x.f0, .int .u8 x.f1, .bool x.f2, .string x.f3], .int .i64 ((packF x).size : Int), .int .i64 0]) ∧ Below w.heap.size w w' := by
  obtain ⟨k, hk⟩ := (parse_evL (packF x ++ t) hs).rounds
  have hp : parsed (packF x ++ t) = (x.f0, x.f1, x.f2, x.f3, 9 + (x.f3.size : Int), 0) := parsed_packed x.f0 x.f1 x.f2 x.f3 t h.1 h.2.1 h.2.2
  rw [hp] at hk
  have h2 := frame_Parse.calls k (packF x ++ t) _ _ _ _ _ _ w hk
  rw [packF_size, show ((9 + x.f3.size : Nat) : Int) = 9 + (x.f3.size : Int) by omega]
  exact h2
theorem infoI : (Try.prog.info? 3).map (fun i => (i.zero, i.size, i.bytes)) = some (some (.int .i64 0), 1, 8) := by kernel_rfl
/-! What stands between two rounds of the first loop. -/
def Ap (v u : Value) : Prop := ∀ k, v.ownBlock = some k → u.ownBlock = some k → False
structure FB (w : World) (n0 : Nat) (vO vA : Value) (L : List S30) (P : List Int) (X : World) : Prop where
  res : Boxed X w.heap.size 4 (.bool false)
  own : Boxed X n0 22 vO
  ats : Boxed X (n0 + 1) 47 vA
  rowO : Kd.R k30 30 X (n0 + 2) (fun _ => True) vO L
  rowA : Kd.R (Kd.int .i64) 3 X (n0 + 2) (fun _ => True) vA P
  bel : Below w.heap.size w X
  size : n0 + 2 ≤ X.heap.size
  ap : Ap vO vA
  lo : w.heap.size < n0
variable {w X Y : World} {n0 B : Nat} {vO vA : Value} {L : List S30} {P : List Int}
theorem FB.grow (h : FB w n0 vO vA L P X) (hb : Below X.heap.size X Y) : FB w n0 vO vA L P Y :=
  ⟨(hb.block _ h.res.lt).trans h.res, (hb.block _ h.own.lt).trans h.own, (hb.block _ h.ats.lt).trans h.ats, Kd.R_below h.rowO hb, Kd.R_below h.rowA hb, below_step h.bel hb, Nat.le_trans h.size hb.size, h.ap, h.lo⟩
theorem FB.lasts (hB : w.heap.size ≤ B) : Lasts B (FB w n0 vO vA L P) :=
  ⟨fun X Y h hb => h.grow hb, fun X l o o' hl ho hc h => ⟨(Lasts.boxed B _ _ _).put X l o o' hl ho hc h.res, (Lasts.boxed B _ _ _).put X l o o' hl ho hc h.own, (Lasts.boxed B _ _ _).put X l o o' hl ho hc h.ats,
    (Lasts.row (B := B) (d := k30)).put X l o o' hl ho hc h.rowO, (Lasts.row (B := B) (d := Kd.int .i64)).put X l o o' hl ho hc h.rowA,
    h.bel.trans ⟨rfl, rfl, rfl, by simp, fun k hk => World.putObj_heap_other (by omega)⟩, by simpa using h.size, h.ap, h.lo⟩⟩
theorem R_setbox {α : Type} {d : Kd α} {e base b : Nat} {v u : Value} {xs : List α} (h : d.R e X base (fun _ => True) v xs) (hb : b < base) (hE : d.E = [] := by rfl) : d.R e (X.setCell ⟨b, 0, none⟩ u) base (fun _ => True) v xs := by
  refine Kd.R_mono (Kd.R_move (Kd.R_bound (Kd.R_tight hE h)) ?_) (fun _ _ => trivial)
  rintro k ⟨_, hk, _⟩
  exact Below.heap_setCell _ _ _ k (fun e => by have : k = b := e; omega)
theorem R_other {α : Type} {d : Kd α} {e base : Nat} {v u : Value} {xs : List α} (h : d.R e X base (fun _ => True) v xs) (hg : X.grownBy Y u.ownBlock) (ha : Ap v u) (hE : d.E = [] := by rfl) : d.R e Y base (fun _ => True) v xs :=
  Kd.R_mono (Kd.R_grown (Kd.R_tight hE h) hg (fun k hk e => ha k hk.symm e.symm)) (fun _ _ => trivial)
theorem ap_grown {α : Type} {d : Kd α} {e base : Nat} {v u u' : Value} {xs : List α} (h : d.R e X base (fun _ => True) v xs) (ha : Ap v u) (hat : u'.ownBlock = u.ownBlock ∨ ∃ b, u'.ownBlock = some b ∧ X.heap.size ≤ b) : Ap v u' := by
  intro k h1 h2
  rcases hat with e | ⟨b, e, hb⟩
  · exact ha k h1 (by rw [← e]; exact h2)
  · have := Kd.R_lt h k h1
    rw [e] at h2
    cases h2
    omega
/-- A store into a box behind all these. -/
theorem FB.setK (h : FB w n0 vO vA L P X) {b : Nat} (hb : n0 + 2 ≤ b) (hO : ∀ k, vO.ownBlock = some k → k < b) (hA : ∀ k, vA.ownBlock = some k → k < b) (u : Value) : FB w n0 vO vA L P (X.setCell ⟨b, 0, none⟩ u) := by
  have hlo := h.lo
  refine ⟨h.res.other (by omega) _, h.own.other (by omega) _, h.ats.other (by omega) _, ?_, ?_, h.bel.setCell (p := ⟨b, 0, none⟩) (by show w.heap.size ≤ b; omega) _, Nat.le_trans h.size (by simp), h.ap, hlo⟩
  · refine Kd.R_mono (Kd.R_move (Kd.R_tight rfl h.rowO) ?_) (fun _ _ => trivial)
    intro k hk
    exact Below.heap_setCell _ _ _ k (fun e => by have h1 : k = b := e; have := hO k hk.symm; omega)
  · refine Kd.R_mono (Kd.R_move (Kd.R_tight rfl h.rowA) ?_) (fun _ _ => trivial)
    intro k hk
    exact Below.heap_setCell _ _ _ k (fun e => by have h1 : k = b := e; have := hA k hk.symm; omega)
/-- at = append(at, ..). -/
theorem FB.app_at (h : FB w n0 vO vA L P X) {u : Value} {P' : List Int} (ho : Kd.R (Kd.int .i64) 3 Y (n0 + 2) (fun _ => True) u P') (hb : Below (n0 + 2) X Y) (hg : X.grownBy Y vA.ownBlock) (hat : u.ownBlock = vA.ownBlock ∨ ∃ b, u.ownBlock = some b ∧ X.heap.size ≤ b) : FB w n0 vO u L P' (Y.setCell ⟨n0 + 1, 0, none⟩ u) := by
  have hlo := h.lo
  have b1 : Boxed Y w.heap.size 4 (.bool false) := (hb.block _ (by omega)).trans h.res
  have b2 : Boxed Y n0 22 vO := (hb.block _ (by omega)).trans h.own
  have b3 : Boxed Y (n0 + 1) 47 vA := (hb.block _ (by omega)).trans h.ats
  exact ⟨b1.other (by omega) _, b2.other (by omega) _, b3.set u, R_setbox (R_other h.rowO hg h.ap) (by omega), R_setbox ho (by omega), (h.bel.trans (hb.mono (by omega))).setCell (p := ⟨n0 + 1, 0, none⟩) (by show w.heap.size ≤ n0 + 1; omega) _, Nat.le_trans h.size (Nat.le_trans hb.size (by simp)), ap_grown h.rowO h.ap hat, hlo⟩
/-- own = append(own, ..). -/
theorem FB.app_own (h : FB w n0 vO vA L P X) {u : Value} {L' : List S30} (ho : Kd.R k30 30 Y (n0 + 2) (fun _ => True) u L') (hb : Below (n0 + 2) X Y) (hg : X.grownBy Y vO.ownBlock) (hat : u.ownBlock = vO.ownBlock ∨ ∃ b, u.ownBlock = some b ∧ X.heap.size ≤ b) : FB w n0 u vA L' P (Y.setCell ⟨n0, 0, none⟩ u) := by
  have hlo := h.lo
  have b1 : Boxed Y w.heap.size 4 (.bool false) := (hb.block _ (by omega)).trans h.res
  have b2 : Boxed Y n0 22 vO := (hb.block _ (by omega)).trans h.own
  have b3 : Boxed Y (n0 + 1) 47 vA := (hb.block _ (by omega)).trans h.ats
  have hs : Ap vA vO := fun k h1 h2 => h.ap k h2 h1
  exact ⟨b1.other (by omega) _, b2.set u, b3.other (by omega) _, R_setbox ho (by omega), R_setbox (R_other h.rowA hg hs) (by omega), (h.bel.trans (hb.mono (by omega))).setCell (p := ⟨n0, 0, none⟩) (by show w.heap.size ≤ n0; omega) _, Nat.le_trans h.size (Nat.le_trans hb.size (by simp)), fun k h1 h2 => ap_grown h.rowA hs hat k h2 h1, hlo⟩
def fl (l : List S30) (k : Nat) : List S30 := (l.take k).map fitF
def atl (l : List S30) (k : Nat) : List Int := (List.range k).map fun j => ((packAll (fl l j)).size : Int)
theorem atl_succ (l : List S30) (k : Nat) : atl l (k + 1) = atl l k ++ [((packAll (fl l k)).size : Int)] := by
  unfold atl
  rw [List.range_succ, List.map_append]
  rfl
theorem fl_succ (l : List S30) (k : Nat) (h : k < l.length) : fl l (k + 1) = fl l k ++ [fitF (rd_T30 l (k : Int))] := by
  unfold fl
  rw [List.take_succ_eq_append_getElem h, List.map_append]
  simp [rd_T30, List.getD_eq_getElem?_getD, h]
theorem packAll_one (l : List S30) (x : S30) : packAll (l ++ [x]) = packAll l ++ packF x := by
  rw [packAll_append]
  show _ ++ (packF x ++ (⟨#[]⟩ : ByteArray)) = _
  rw [ba_nil_r]
set_option maxRecDepth 100000 in
set_option maxHeartbeats 8000000 in
theorem FrameBack_walk (A0 : Option Addr) (c0 : Nat) (l0 : List S30) (a1 : ByteArray) (w : World) (hr0 : Kd.C k30 w A0 l0.length l0) (hc0 : l0.length ≤ c0) (hy0 : l0.length * 24 ≤ 140737488351232) (hg0 : ∀ x ∈ l0, (Lit.int .u8 x.f0).wf = true ∧ (Lit.int .u8 x.f1).wf = true ∧ True ∧ x.f3.size ≤ 140737488351232) (w1 : a1.size ≤ 140737488351232) :
    Calls Try.prog 7 #[.slice A0 l0.length c0, .string a1] w fun e w' => e = .returned (.bool true) ∧ Below w.heap.size w w' := by
  have HR0 := Aside0.mk hr0
  have HG0 := Aside0.mk hg0
  have HL0 := Aside0.mk (show l0.length ≤ 140737488351232 by omega)
  have HL1 := Aside0.mk w1
  clear hr0 hg0 hy0 w1
  refine (callsIn_wide (n := 5)).1 ?_
  refine callsIn_of_wp_marks Try.func7 rfl trivial ?_ rfl
  refine wpIn_wide.2 ?_
  simp only [Try.ntmps7, List.size_toArray, List.length_cons, List.length_nil, Nat.reduceAdd, Nat.reduceSub, Array.replicate_succ, Array.replicate_zero, List.push_toArray, List.append_toArray, List.nil_append, List.cons_append]
  have HBX := Aside0.mk (Boxed.new w 4 (.bool false))
  go_wp2_with (go_at_call 22; (with_reducible refine (foghornlaw25_works.calls true _ rfl).mono ?_); rintro e w1 ⟨rfl, hb⟩; have HB1 := Aside0.mk hb; clear hb)
  obtain ⟨n0, hn0⟩ : ∃ n0, w1.heap.size = n0 := ⟨_, rfl⟩
  have HF : Aside0 (FB w n0 (.slice none 0 0) (.slice none 0 0) (fl l0 0) (atl l0 0) ((w1.alloc (.cells #[.slice none 0 0] 22)).alloc (.cells #[.slice none 0 0] 47))) := ⟨by
    have h2 := Boxed.new w1 22 (.slice none 0 0)
    have h3 := Boxed.new (w1.alloc (.cells #[.slice none 0 0] 22)) 47 (.slice none 0 0)
    rw [World.size_alloc, hn0] at h3
    rw [hn0] at h2
    have hb1 := HB1.out
    have hsz := hb1.size
    rw [World.size_alloc, hn0] at hsz
    refine ⟨Boxed.alloc (Boxed.alloc ((hb1.block _ (by simp)).trans HBX.out) _) _, h2.alloc _, h3, Kd.R_nil _ _ _ _ _, Kd.R_nil _ _ _ _ _, ?_, ?_, fun k h => by simp [Value.ownBlock] at h, by omega⟩
    · exact below_alloc (below_alloc (below_step (below_alloc (Below.refl _ _) _) hb1) _) _
    · simp; omega⟩
  obtain ⟨W0, hW0⟩ : ∃ W0, (w1.alloc (.cells #[.slice none 0 0] 22)).alloc (.cells #[.slice none 0 0] 47) = W0 := ⟨_, rfl⟩
  rw [hW0] at HF ⊢
  rw [hn0]
  clear hW0 HBX HB1 hn0
  go_loopw [5, 8] (fun av i wr => ∃ (k : Nat) (vO vA : Value), k ≤ l0.length ∧ k ≤ 50 ∧ i = .int .i64 (k : Int) ∧ av = .string (packAll (fl l0 k)) ∧ Aside0 (FB w n0 vO vA (fl l0 k) (atl l0 k) wr)) (fun _ i _ => 50 - (intOf i).toNat)
  case atStart => exact ⟨0, _, _, Nat.zero_le _, Nat.zero_le _, rfl, rfl, HF⟩
  case round =>
    obtain ⟨k, vO, vA, hk1, hk2, rfl, rfl, HS⟩ := hrel
    by_cases hlt : k < l0.length ∧ k < 50
    · obtain ⟨h1, h2⟩ := hlt
      obtain ⟨ad, rfl, x0, x1, x2, x3⟩ := at_T30 (Kd.C_below HR0.out HS.out.bel) (k : Int) (by omega) (by omega)
      simp only [Int.toNat_natCast] at x0 x1 x2 x3
      obtain ⟨X, hX⟩ : ∃ X, rd_T30 l0 (k : Int) = X := ⟨_, rfl⟩
      have hmem : X ∈ l0 := by
        rw [← hX]
        simp [rd_T30, List.getD_eq_getElem?_getD, h1]
      obtain ⟨hw0, hw1, _, _⟩ := HG0.out X hmem
      have hu0 : 0 ≤ X.f0 ∧ X.f0 < 256 := by simp [Lit.wf, IntKind.min, IntKind.max, IntKind.signed, IntKind.bits] at hw0; omega
      have hu1 : 0 ≤ X.f1 ∧ X.f1 < 256 := by simp [Lit.wf, IntKind.min, IntKind.max, IntKind.signed, IntKind.bits] at hw1; omega
      have HFL := Aside0.mk (fl_succ l0 k h1)
      have HAT := Aside0.mk (atl_succ l0 k)
      rw [hX] at x0 x1 x2 x3 HFL
      have HGD := Aside0.mk (fitF_good X hu0.1 hu1)
      have HFIT := Aside0.mk (fit_f X hu0)
      obtain ⟨F, hF⟩ : ∃ F, fitF X = F := ⟨_, rfl⟩
      rw [hF] at HFL HGD HFIT
      have hps := packF_size F
      have HPK := Aside0.mk (pack_good F HGD.out)
      have hal := packAll_size (fl l0 k) (by
        intro y hy
        unfold fl at hy
        obtain ⟨z, hz, rfl⟩ := List.mem_map.1 hy
        obtain ⟨hw0, hw1, _, _⟩ := HG0.out z (List.mem_of_mem_take hz)
        simp [Lit.wf, IntKind.min, IntKind.max, IntKind.signed, IntKind.bits] at hw0 hw1
        exact fitF_good z (by omega) (by omega))
      have hfll : (fl l0 k).length ≤ 50 := by unfold fl; rw [List.length_map, List.length_take]; omega
      have hb240 : F.f3.size ≤ 240 := HGD.out.2.2
      have HPA := Aside0.mk (parse_good F a1 HGD.out (by rw [ByteArray.size_append]; have := HL1.out; omega))
      have HP1 := Aside0.mk (packAll_one (fl l0 k) F)
      obtain ⟨AL, hAL⟩ : ∃ AL, packAll (fl l0 k) = AL := ⟨_, rfl⟩
      obtain ⟨S, hSS⟩ : ∃ S, packF F = S := ⟨_, rfl⟩
      rw [hSS] at HPK HPA hps HP1
      rw [hAL] at HP1 HAT hal ⊢
      have hsz : (S.size : Int) = 9 + (F.f3.size : Int) := by omega
      have hb241 : (F.f3.size : Int) ≤ 240 := by omega
      have ha1 : (a1.size : Int) ≤ 140737488351232 := by have := HL1.out; omega
      have hal2 : (AL.size : Int) ≤ 12450 := by have := Nat.mul_le_mul_left 249 hfll; omega
      have hk3 : (k : Int) < (l0.length : Int) := by omega
      have hk4 : (k : Int) < 50 := by omega
      have HLK := Aside0.mk (show (atl l0 k).length ≤ 50 by unfold atl; rw [List.length_map, List.length_range]; omega)
      have HLF := Aside0.mk hfll
      obtain ⟨P1, hP1⟩ : ∃ P1, atl l0 k ++ [(AL.size : Int)] = P1 := ⟨_, rfl⟩
      obtain ⟨L1, hL1⟩ : ∃ L1, fl l0 k ++ [F] = L1 := ⟨_, rfl⟩
      have HQ := Aside0.mk hP1
      have HQL := Aside0.mk hL1
      clear hps hX hF hSS hAL hal hmem hw0 hw1 hfll hb240 hP1 hL1
      go_wp2_with (first
        | (go_at_call 23; (with_reducible refine (foghornlaw25_fit.calls X.f0 X.f1 X.f2 X.f3 _ _ _ _ wr HFIT.out).mono ?_); rintro e w1 ⟨rfl, hb⟩; have H1 := Aside0.mk (HS.out.grow hb); clear hb)
        | (go_at_call 15; (with_reducible refine (frame_Pack.calls F.f0 F.f1 F.f2 F.f3 S 0 (w1.alloc (.cells #[.int .u8 F.f0, .int .u8 F.f1, .bool F.f2, .string F.f3] 30)) HPK.out).mono ?_); rintro e w2 ⟨rfl, hb⟩; have H2 := Aside0.mk ((H1.out.grow (below_alloc (Below.refl _ _) _)).grow hb); have B2 := Aside0.mk (blk_below (blk_new w1 (.cells #[.int .u8 F.f0, .int .u8 F.f1, .bool F.f2, .string F.f3] 30)) hb); clear hb)
        | (go_at_call 17; (with_reducible refine (HPA.out w2).mono ?_); rintro e w3 ⟨rfl, hb⟩; have H3 := Aside0.mk (H2.out.grow hb); have B3 := Aside0.mk (blk_below B2.out hb); clear hb)
        | (go_at_call 15; (with_reducible refine (frame_Pack.calls F.f0 F.f1 F.f2 F.f3 S 0 (w3.alloc (.cells #[.int .u8 F.f0, .int .u8 F.f1, .bool F.f2, .string F.f3] 30)) HPK.out).mono ?_); rintro e w4 ⟨rfl, hb⟩; have H4 := Aside0.mk ((H3.out.grow (below_alloc (Below.refl _ _) _)).grow hb); have B4 := Aside0.mk (blk_below (blk_alloc B3.out (.cells #[.int .u8 F.f0, .int .u8 F.f1, .bool F.f2, .string F.f3] 30)) hb); have G4 := Aside0.mk (blk_below (blk_new w3 (.cells #[.int .u8 F.f0, .int .u8 F.f1, .bool F.f2, .string F.f3] 30)) hb); clear hb; have p0 := (blk_cell B4.out 0).trans rfl; have p1 := (blk_cell B4.out 1).trans rfl; have p2 := (blk_cell B4.out 2).trans rfl; have p3 := (blk_cell B4.out 3).trans rfl; have q0 := (blk_cell G4.out 0).trans rfl; have q1 := (blk_cell G4.out 1).trans rfl; have q2 := (blk_cell G4.out 2).trans rfl; have q3 := (blk_cell G4.out 3).trans rfl)
        | (go_at_call 24; (with_reducible refine (foghornlaw25_same.calls F.f0 F.f1 F.f2 F.f3 F.f0 F.f1 F.f2 F.f3 true w4 (lsame_self _ _ _ _)).mono ?_); rintro e w5 ⟨rfl, hb⟩; have H5 := Aside0.mk (H4.out.grow hb); have B5 := Aside0.mk (blk_below B4.out hb); clear hb p0 p1 p2 p3 q0 q1 q2 q3; have cA := H5.out.ats.cell)
        | ((with_reducible refine gate_builtin (b := .append) (xs := #[.tmp 90, .tmp 93]) rfl ?_); at_builtin; refine Kd.R_append (Kd.int .i64) (w0 := w5) (n0 + 2) rfl (.tmp 90) (.tmp 93) 47 3 (.int .i64 0) 8 rfl Try.underlying47 infoI rfl (by decide) (by omega) vA (atl l0 k) (AL.size : Int) [.int .i64 (AL.size : Int)] (fun _ => True) (fun _ => False) rfl rfl ?aP (fun _ hk => hk.elim) ?aF ?aO ?aB ?aS ?aL ?_; (case aP => exact rfl); (case aF => exact (fun _ _ => trivial)); (case aO => exact H5.out.rowA); (case aB => exact Below.refl _ _); (case aS => exact H5.out.size); (case aL => have := HLK.out; omega); intro u6 w6 ho hb hg hat; rw [HQ.out] at ho; obtain ⟨gA, cpA, rfl, _⟩ := Kd.R_form ho (by rw [← HQ.out]; simp); have H6 := Aside0.mk (H5.out.app_at ho hb hg hat); have hbx : Boxed w6 (n0 + 1) 47 vA := (hb.block _ (by omega)).trans H5.out.ats; have B6 := Aside0.mk (blk_far (blk_grown B5.out hg (fun e => Nat.lt_irrefl _ (Kd.R_lt H1.out.rowA _ e.symm))) (p := ⟨n0 + 1, 0, none⟩) (by show w1.heap.size ≠ n0 + 1; have := H1.out.size; omega) (.slice (some ⟨gA, 0, none⟩) P1.length cpA)); clear ho hb hg hat cA; have y1 := hbx.cell; have y2 := hbx.frozen; clear hbx)
        | ((with_reducible refine gate_store (t := 47) (p := 7) rfl ?_); refine store_event (t := 47) (p := 7) (v := .tmp 94) (w1 := w6.setCell ⟨n0 + 1, 0, none⟩ (.slice (some ⟨gA, 0, none⟩) P1.length cpA)) ?hg ?ho ?hn ?hr ?_; (case ho => rfl); (case hg => rfl); (case hn => rfl); (case hr => first | (go_simp; done) | (go_simp; rfl)); intro wS hw; rw [← hw] at H6 B6; clear hw y1 y2; have cO := H6.out.own.cell; have p0 := (blk_cell B6.out 0).trans rfl; have p1 := (blk_cell B6.out 1).trans rfl; have p2 := (blk_cell B6.out 2).trans rfl; have p3 := (blk_cell B6.out 3).trans rfl)
        | ((with_reducible refine gate_builtin (b := .append) (xs := #[.tmp 95, .tmp 97]) rfl ?_); at_builtin; refine Kd.R_append k30 (w0 := wS) (n0 + 2) rfl (.tmp 95) (.tmp 97) 22 30 (.agg #[(.int .u8 0), (.int .u8 0), (.bool false), (.string ⟨#[]⟩)]) 24 rfl Try.underlying22 info30 rfl (by decide) (by omega) vO (fl l0 k) F [.int .u8 F.f0, .int .u8 F.f1, .bool F.f2, .string F.f3] (fun _ => True) (fun _ => False) rfl rfl ?aP (fun _ hk => hk.elim) ?aF ?aO ?aB ?aS ?aL ?_; (case aP => exact k30_mkM _ _ _ F); (case aF => exact (fun _ _ => trivial)); (case aO => exact H6.out.rowO); (case aB => exact Below.refl _ _); (case aS => exact H6.out.size); (case aL => have := HLF.out; omega); intro u7 w7 ho hb hg hat; rw [HQL.out] at ho; obtain ⟨gO, cpO, rfl, _⟩ := Kd.R_form ho (by rw [← HQL.out]; simp); have H7 := Aside0.mk (H6.out.app_own ho hb hg hat); have hbx : Boxed w7 n0 22 vO := (hb.block _ (by omega)).trans H6.out.own; clear ho hb hg hat cO p0 p1 p2 p3; have y1 := hbx.cell; have y2 := hbx.frozen; clear hbx))
      go_roundw
      case rel => exact ⟨k + 1, _, _, by omega, by omega, by go_num, by rw [HFL.out, HP1.out], ⟨by rw [HFL.out, HAT.out, HQ.out, HQL.out]; exact H7.out⟩⟩
      case measure => simp [intOf]; omega
    · rcases (show l0.length ≤ k ∨ (k < l0.length ∧ 50 ≤ k) by omega) with hc | hc
      · have hk3 : (l0.length : Int) ≤ (k : Int) := by omega
        go_wp2_with (go_at_call 21; (with_reducible refine (scan_calls _ _).mono ?_); rintro e w2 ⟨rfl, rfl⟩)
        refine (wpIn_wide (n := 5)).1 ?_
        have hFB := HS.out
        obtain ⟨AO, cO, rfl⟩ := Kd.R_slice hFB.rowO
        obtain ⟨AA, cA, rfl⟩ := Kd.R_slice hFB.rowA
        have hO := Kd.R_lt hFB.rowO
        have hA := Kd.R_lt hFB.rowA
        have HF1 := Aside0.mk ((hFB.grow (below_alloc (Below.refl _ _) (.cells #[.int .i64 0] 3))).grow (below_alloc (Below.refl _ _) (.cells #[.string (packAll (fl l0 k))] 9)))
        have bk := (Boxed.new wr 3 (.int .i64 0)).alloc (.cells #[.string (packAll (fl l0 k))] 9)
        have bs := Boxed.new (wr.alloc (.cells #[.int .i64 0] 3)) 9 (.string (packAll (fl l0 k)))
        rw [World.size_alloc] at bs
        have hsz : ((wr.alloc (.cells #[.int .i64 0] 3)).alloc (.cells #[.string (packAll (fl l0 k))] 9)).heap.size = wr.heap.size + 2 := by simp
        obtain ⟨Bk, hBk⟩ : ∃ b, wr.heap.size = b := ⟨_, rfl⟩
        have hn02 : n0 + 2 ≤ Bk := hBk ▸ hFB.size
        have hlo := hFB.lo
        have hgood : ∀ y ∈ fl l0 k, GoodF y := by
          intro y hy
          unfold fl at hy
          obtain ⟨z, hz, rfl⟩ := List.mem_map.1 hy
          obtain ⟨hw0, hw1, _, _⟩ := HG0.out z (List.mem_of_mem_take hz)
          simp [Lit.wf, IntKind.min, IntKind.max, IntKind.signed, IntKind.bits] at hw0 hw1
          exact fitF_good z (by omega) (by omega)
        have hsc := scan_all (fl l0 k) hgood
        have hals := packAll_size (fl l0 k) hgood
        have hll : (fl l0 k).length ≤ 50 := by unfold fl; rw [List.length_map, List.length_take]; omega
        have hflt : ∀ j, j ≤ k → (fl l0 k).take j = fl l0 j := fun j hj => by unfold fl; rw [← List.map_take, List.take_take, Nat.min_eq_left hj]
        have hlk : (fl l0 k).length ≤ k := by unfold fl; rw [List.length_map, List.length_take]; omega
        have hatl : (atl l0 k).length = k := by unfold atl; rw [List.length_map, List.length_range]
        have hatg : ∀ j, j < k → rd (atl l0 k) (j : Int) = ((packAll (fl l0 j)).size : Int) := fun j hj => by unfold atl; simp [rd, hj]
        rw [hBk] at bk bs hsz hO hA ⊢
        clear hFB hBk
        obtain ⟨Wk, hWk⟩ : ∃ Wk, (wr.alloc (.cells #[.int .i64 0] 3)).alloc (.cells #[.string (packAll (fl l0 k))] 9) = Wk := ⟨_, rfl⟩
        rw [hWk] at bk bs HF1 hsz ⊢
        clear hWk
        have hNL : (scanV (packAll (fl l0 k)) 0).length = (fl l0 k).length := by rw [hsc, placed_length]
        refine wpIn_rangeV_out (by decide) (gf := 34) (lb := #[.pointer (some ⟨Bk + 1, 0, none⟩)]) rfl trivial (enters_of Try.func34 (by kernel_rfl) rfl) (scan_seq 4 (by decide) (Bk + 1) (packAll (fl l0 k)) (by omega) Wk bs.cell) (fun h h' => h'.trans h) (fun W l o o' hl _ _ => World.putObj_heap_other (by omega)) (Below.refl _ _) (fun _ => rfl)
          (fun j W => Boxed W Bk 3 (.int .i64 (j : Int)) ∧ FB w n0 (.slice AO (fl l0 k).length cO) (.slice AA (atl l0 k).length cA) (fl l0 k) (atl l0 k) W ∧ Wk.heap.size ≤ W.heap.size) (fun _ _ => False) (fun j => Lasts.and (Lasts.boxed _ _ _ _) (Lasts.and (FB.lasts (by omega)) (Lasts.size _ _))) (fun c => Lasts.const _ False) ⟨bk, HF1.out, Nat.le_refl _⟩ ?round rfl ?done ?stop
        case round =>
          rintro l j ⟨p, F⟩ W hl ⟨hbk, hfb, hws⟩ hx hj
          simp only [plEnc, frEnc]
          gi_wp2
          rw [hNL] at hj
          have hx' : (placed 0 (fl l0 k))[j]? = some (p, F) := by rw [← hsc]; exact hx
          rw [placed_at _ _ _ hj, Nat.zero_add, hflt j (by omega)] at hx'
          have hpe : (packAll (fl l0 j)).size = p := congrArg Prod.fst (Option.some.inj hx')
          have hFe : (fl l0 k)[j] = F := congrArg Prod.snd (Option.some.inj hx')
          have hrA : rd (atl l0 k) (j : Int) = (p : Int) := by rw [hatg j (by omega), hpe]
          have hrO : rd_T30 (fl l0 k) (j : Int) = F := by simp [rd_T30, List.getD_eq_getElem?_getD, hj, hFe]
          refine ⟨(KeepsOthers.alloc _ _).from _, Below.heap_alloc _ _ _ (by omega), fun W2 hrr hT => ?_⟩
          have hbk2 := hT _ (Lasts.boxed _ _ _ _) (hbk.alloc _)
          have hfb2 := hT _ (FB.lasts (by omega)) (hfb.grow (below_alloc (Below.refl _ _) _))
          have hbf := hT _ Lasts.block (blk_new W _)
          have hs2 : Wk.heap.size ≤ W2.heap.size := hT _ (Lasts.size _ _) (by rw [World.size_alloc]; omega)
          obtain ⟨ad7, e7, c7⟩ := Kd.at_int (Kd.R_reads' hfb2.rowA).2.2 (j : Int) (by omega) (by omega)
          obtain ⟨ad6, e6, y0, y1, y2, y3⟩ := at_T30 (Kd.R_reads' hfb2.rowO).2.2 (j : Int) (by omega) (by omega)
          rw [hrA] at c7
          rw [hrO] at y0 y1 y2 y3
          simp only [Int.toNat_natCast] at c7 y0 y1 y2 y3
          subst e7 e6
          have k0 := cell_regrown hbk2.cell
          have k1 := cell_regrown hfb2.own.cell
          have k2 := cell_regrown hfb2.ats.cell
          have k3 := cell_regrown c7
          have z0 := cell_regrown y0
          have z1 := cell_regrown y1
          have z2 := cell_regrown y2
          have z3 := cell_regrown y3
          have f0 := cell_regrown ((blk_cell hbf 0).trans rfl)
          have f1 := cell_regrown ((blk_cell hbf 1).trans rfl)
          have f2 := cell_regrown ((blk_cell hbf 2).trans rfl)
          have f3 := cell_regrown ((blk_cell hbf 3).trans rfl)
          have cS : ∀ d os, CallsIn (Fence.wide.inRound l) (5 - 1 - 1 - 1) Try.prog 24 #[.agg #[.int .u8 F.f0, .int .u8 F.f1, .bool F.f2, .string F.f3], .agg #[.int .u8 F.f0, .int .u8 F.f1, .bool F.f2, .string F.f3]] (Go.Sort.grow (redrawn W2 d) os) fun e w'' => e = .returned (.bool true) ∧ ∃ p : Regrown, w'' = Go.Sort.grow (redrawn W2 p.d) p.os := fun d os => CallsIn.regrown_of (callsIn_wide.2 (foghornlaw25_same.calls F.f0 F.f1 F.f2 F.f3 F.f0 F.f1 F.f2 F.f3 true _ (lsame_self _ _ _ _)))
          have g1 : (j : Int) < ((fl l0 k).length : Int) := by omega
          have g2 : (j : Int) < ((atl l0 k).length : Int) := by omega
          have g3 : (j : Int) < 50 := by omega
          have g4 : ¬ ((j : Int) = ((fl l0 k).length : Int)) := by omega
          have g5 : ¬ (j = (fl l0 k).length) := by omega
          have g6 : j < k := by omega
          have g7 : (j : Int) < (k : Int) := by omega
          have HFB2 := Aside0.mk hfb2
          have HBK2 := Aside0.mk hbk2
          have HBF := Aside0.mk hbf
          clear hfb2 hbk2 hbf hx hx' hpe hFe hrA hrO c7 y0 y1 y2 y3 hT hbk hfb
          gi_wp2
          refine wpIn_below_round (by kernel_rfl) (by kernel_rfl) (by kernel_rfl) ?_
          repeat (refine wpQuietIn_step (fun _ _ _ _ => trivial) (fun K hK => ?_); go_simp; first | (refine hK _ ?_; clear hK K) | (apply Exists.intro; refine ⟨fun _ => ?_, hK _ ?_⟩; (first | exact cS _ _ | exact ⟨fun h => (by cases h), cS _ _⟩); clear hK K))
          refine wpQuietIn_nil ?_
          intro _ hw'
          obtain ⟨⟨dq, osq⟩, hw''⟩ := hw'
          subst hw''
          have HB3 := Aside0.mk (below_regrown W2 dq osq)
          obtain ⟨W3, hW3⟩ : ∃ W3, Go.Sort.grow (redrawn W2 dq) osq = W3 := ⟨_, rfl⟩
          rw [hW3] at HB3 ⊢
          have hbk3 : Boxed W3 Bk 3 (.int .i64 (j : Int)) := (HB3.out.block _ HBK2.out.lt).trans HBK2.out
          have ck := hbk3.cell
          have fk := hbk3.frozen
          have HFB3 := Aside0.mk (HFB2.out.grow HB3.out)
          have HBK3 := Aside0.mk hbk3
          clear k0 k1 k2 k3 z0 z1 z2 z3 f0 f1 f2 f3 hbk3 hW3 cS
          gi_wp2
          refine ⟨(keeps_below HB3.out).trans ((KeepsOthers.setCell _ _ _).from _), (Below.heap_setCell _ _ _ _ (by show Bk + 1 ≠ Bk; omega)).trans (HB3.out.block _ (by omega)), ?_, ?_, ?_⟩
          · have h := HBK3.out.set (.int .i64 ((j + 1 : Nat) : Int))
            rw [show ((j + 1 : Nat) : Int) = (j : Int) + 1 by omega] at h ⊢
            exact h
          · exact HFB3.out.setK hn02 hO hA _
          · exact Nat.le_trans hs2 (Nat.le_trans HB3.out.size (by simp))
        case done =>
          rintro D W hD ⟨hbk, hfb, hws⟩ hK
          rw [hNL] at hbk
          have c1 := hbk.cell
          have c2 := hfb.own.cell
          have c3 := hfb.res.cell
          have c4 := hfb.res.frozen
          have HFB := Aside0.mk hfb
          have HKD := Aside0.mk hK
          clear hbk hfb hK
          go_wp2
          have hK2 := (KeepsOthers.setCell W ⟨w.heap.size, 0, none⟩ (.bool true)).same D _ HKD.out rfl
          refine ⟨by simp, .inl ⟨_, _, rfl, run_takeDeferred hK2, ?_⟩⟩
          have c5 : ((W.setCell ⟨w.heap.size, 0, none⟩ (.bool true)).putObj D (.deferred none)).cell? ⟨w.heap.size, 0, none⟩ = some (.bool true) := (World.cell?_of_block (a := ⟨w.heap.size, 0, none⟩) (World.putObj_heap_other (by show w.heap.size ≠ D; omega))).trans (HFB.out.res.set (.bool true)).cell
          refine ⟨_, results_bool rfl Try.underlying4 _ _ _ true rfl c5, rfl, ?_⟩
          exact (HFB.out.bel.setCell (p := ⟨w.heap.size, 0, none⟩) (Nat.le_refl _) _).trans (belowK_b (w := w) (Nat.le_refl _) _ D _ _ (by omega) hK2 rfl rfl)
        case stop =>
          intro D c W _ h _
          exact h.elim
      · have hk3 : (k : Int) < (l0.length : Int) := by omega
        have hk4 : (50 : Int) ≤ (k : Int) := by omega
        go_wp2_with (go_at_call 21; (with_reducible refine (scan_calls _ _).mono ?_); rintro e w2 ⟨rfl, rfl⟩)
        refine (wpIn_wide (n := 5)).1 ?_
        have hFB := HS.out
        obtain ⟨AO, cO, rfl⟩ := Kd.R_slice hFB.rowO
        obtain ⟨AA, cA, rfl⟩ := Kd.R_slice hFB.rowA
        have hO := Kd.R_lt hFB.rowO
        have hA := Kd.R_lt hFB.rowA
        have HF1 := Aside0.mk ((hFB.grow (below_alloc (Below.refl _ _) (.cells #[.int .i64 0] 3))).grow (below_alloc (Below.refl _ _) (.cells #[.string (packAll (fl l0 k))] 9)))
        have bk := (Boxed.new wr 3 (.int .i64 0)).alloc (.cells #[.string (packAll (fl l0 k))] 9)
        have bs := Boxed.new (wr.alloc (.cells #[.int .i64 0] 3)) 9 (.string (packAll (fl l0 k)))
        rw [World.size_alloc] at bs
        have hsz : ((wr.alloc (.cells #[.int .i64 0] 3)).alloc (.cells #[.string (packAll (fl l0 k))] 9)).heap.size = wr.heap.size + 2 := by simp
        obtain ⟨Bk, hBk⟩ : ∃ b, wr.heap.size = b := ⟨_, rfl⟩
        have hn02 : n0 + 2 ≤ Bk := hBk ▸ hFB.size
        have hlo := hFB.lo
        have hgood : ∀ y ∈ fl l0 k, GoodF y := by
          intro y hy
          unfold fl at hy
          obtain ⟨z, hz, rfl⟩ := List.mem_map.1 hy
          obtain ⟨hw0, hw1, _, _⟩ := HG0.out z (List.mem_of_mem_take hz)
          simp [Lit.wf, IntKind.min, IntKind.max, IntKind.signed, IntKind.bits] at hw0 hw1
          exact fitF_good z (by omega) (by omega)
        have hsc := scan_all (fl l0 k) hgood
        have hals := packAll_size (fl l0 k) hgood
        have hll : (fl l0 k).length ≤ 50 := by unfold fl; rw [List.length_map, List.length_take]; omega
        have hflt : ∀ j, j ≤ k → (fl l0 k).take j = fl l0 j := fun j hj => by unfold fl; rw [← List.map_take, List.take_take, Nat.min_eq_left hj]
        have hlk : (fl l0 k).length ≤ k := by unfold fl; rw [List.length_map, List.length_take]; omega
        have hatl : (atl l0 k).length = k := by unfold atl; rw [List.length_map, List.length_range]
        have hatg : ∀ j, j < k → rd (atl l0 k) (j : Int) = ((packAll (fl l0 j)).size : Int) := fun j hj => by unfold atl; simp [rd, hj]
        rw [hBk] at bk bs hsz hO hA ⊢
        clear hFB hBk
        obtain ⟨Wk, hWk⟩ : ∃ Wk, (wr.alloc (.cells #[.int .i64 0] 3)).alloc (.cells #[.string (packAll (fl l0 k))] 9) = Wk := ⟨_, rfl⟩
        rw [hWk] at bk bs HF1 hsz ⊢
        clear hWk
        have hNL : (scanV (packAll (fl l0 k)) 0).length = (fl l0 k).length := by rw [hsc, placed_length]
        refine wpIn_rangeV_out (by decide) (gf := 34) (lb := #[.pointer (some ⟨Bk + 1, 0, none⟩)]) rfl trivial (enters_of Try.func34 (by kernel_rfl) rfl) (scan_seq 4 (by decide) (Bk + 1) (packAll (fl l0 k)) (by omega) Wk bs.cell) (fun h h' => h'.trans h) (fun W l o o' hl _ _ => World.putObj_heap_other (by omega)) (Below.refl _ _) (fun _ => rfl)
          (fun j W => Boxed W Bk 3 (.int .i64 (j : Int)) ∧ FB w n0 (.slice AO (fl l0 k).length cO) (.slice AA (atl l0 k).length cA) (fl l0 k) (atl l0 k) W ∧ Wk.heap.size ≤ W.heap.size) (fun _ _ => False) (fun j => Lasts.and (Lasts.boxed _ _ _ _) (Lasts.and (FB.lasts (by omega)) (Lasts.size _ _))) (fun c => Lasts.const _ False) ⟨bk, HF1.out, Nat.le_refl _⟩ ?round rfl ?done ?stop
        case round =>
          rintro l j ⟨p, F⟩ W hl ⟨hbk, hfb, hws⟩ hx hj
          simp only [plEnc, frEnc]
          gi_wp2
          rw [hNL] at hj
          have hx' : (placed 0 (fl l0 k))[j]? = some (p, F) := by rw [← hsc]; exact hx
          rw [placed_at _ _ _ hj, Nat.zero_add, hflt j (by omega)] at hx'
          have hpe : (packAll (fl l0 j)).size = p := congrArg Prod.fst (Option.some.inj hx')
          have hFe : (fl l0 k)[j] = F := congrArg Prod.snd (Option.some.inj hx')
          have hrA : rd (atl l0 k) (j : Int) = (p : Int) := by rw [hatg j (by omega), hpe]
          have hrO : rd_T30 (fl l0 k) (j : Int) = F := by simp [rd_T30, List.getD_eq_getElem?_getD, hj, hFe]
          refine ⟨(KeepsOthers.alloc _ _).from _, Below.heap_alloc _ _ _ (by omega), fun W2 hrr hT => ?_⟩
          have hbk2 := hT _ (Lasts.boxed _ _ _ _) (hbk.alloc _)
          have hfb2 := hT _ (FB.lasts (by omega)) (hfb.grow (below_alloc (Below.refl _ _) _))
          have hbf := hT _ Lasts.block (blk_new W _)
          have hs2 : Wk.heap.size ≤ W2.heap.size := hT _ (Lasts.size _ _) (by rw [World.size_alloc]; omega)
          obtain ⟨ad7, e7, c7⟩ := Kd.at_int (Kd.R_reads' hfb2.rowA).2.2 (j : Int) (by omega) (by omega)
          obtain ⟨ad6, e6, y0, y1, y2, y3⟩ := at_T30 (Kd.R_reads' hfb2.rowO).2.2 (j : Int) (by omega) (by omega)
          rw [hrA] at c7
          rw [hrO] at y0 y1 y2 y3
          simp only [Int.toNat_natCast] at c7 y0 y1 y2 y3
          subst e7 e6
          have k0 := cell_regrown hbk2.cell
          have k1 := cell_regrown hfb2.own.cell
          have k2 := cell_regrown hfb2.ats.cell
          have k3 := cell_regrown c7
          have z0 := cell_regrown y0
          have z1 := cell_regrown y1
          have z2 := cell_regrown y2
          have z3 := cell_regrown y3
          have f0 := cell_regrown ((blk_cell hbf 0).trans rfl)
          have f1 := cell_regrown ((blk_cell hbf 1).trans rfl)
          have f2 := cell_regrown ((blk_cell hbf 2).trans rfl)
          have f3 := cell_regrown ((blk_cell hbf 3).trans rfl)
          have cS : ∀ d os, CallsIn (Fence.wide.inRound l) (5 - 1 - 1 - 1) Try.prog 24 #[.agg #[.int .u8 F.f0, .int .u8 F.f1, .bool F.f2, .string F.f3], .agg #[.int .u8 F.f0, .int .u8 F.f1, .bool F.f2, .string F.f3]] (Go.Sort.grow (redrawn W2 d) os) fun e w'' => e = .returned (.bool true) ∧ ∃ p : Regrown, w'' = Go.Sort.grow (redrawn W2 p.d) p.os := fun d os => CallsIn.regrown_of (callsIn_wide.2 (foghornlaw25_same.calls F.f0 F.f1 F.f2 F.f3 F.f0 F.f1 F.f2 F.f3 true _ (lsame_self _ _ _ _)))
          have g1 : (j : Int) < ((fl l0 k).length : Int) := by omega
          have g2 : (j : Int) < ((atl l0 k).length : Int) := by omega
          have g3 : (j : Int) < 50 := by omega
          have g4 : ¬ ((j : Int) = ((fl l0 k).length : Int)) := by omega
          have g5 : ¬ (j = (fl l0 k).length) := by omega
          have g6 : j < k := by omega
          have g7 : (j : Int) < (k : Int) := by omega
          have HFB2 := Aside0.mk hfb2
          have HBK2 := Aside0.mk hbk2
          have HBF := Aside0.mk hbf
          clear hfb2 hbk2 hbf hx hx' hpe hFe hrA hrO c7 y0 y1 y2 y3 hT hbk hfb
          gi_wp2
          refine wpIn_below_round (by kernel_rfl) (by kernel_rfl) (by kernel_rfl) ?_
          repeat (refine wpQuietIn_step (fun _ _ _ _ => trivial) (fun K hK => ?_); go_simp; first | (refine hK _ ?_; clear hK K) | (apply Exists.intro; refine ⟨fun _ => ?_, hK _ ?_⟩; (first | exact cS _ _ | exact ⟨fun h => (by cases h), cS _ _⟩); clear hK K))
          refine wpQuietIn_nil ?_
          intro _ hw'
          obtain ⟨⟨dq, osq⟩, hw''⟩ := hw'
          subst hw''
          have HB3 := Aside0.mk (below_regrown W2 dq osq)
          obtain ⟨W3, hW3⟩ : ∃ W3, Go.Sort.grow (redrawn W2 dq) osq = W3 := ⟨_, rfl⟩
          rw [hW3] at HB3 ⊢
          have hbk3 : Boxed W3 Bk 3 (.int .i64 (j : Int)) := (HB3.out.block _ HBK2.out.lt).trans HBK2.out
          have ck := hbk3.cell
          have fk := hbk3.frozen
          have HFB3 := Aside0.mk (HFB2.out.grow HB3.out)
          have HBK3 := Aside0.mk hbk3
          clear k0 k1 k2 k3 z0 z1 z2 z3 f0 f1 f2 f3 hbk3 hW3 cS
          gi_wp2
          refine ⟨(keeps_below HB3.out).trans ((KeepsOthers.setCell _ _ _).from _), (Below.heap_setCell _ _ _ _ (by show Bk + 1 ≠ Bk; omega)).trans (HB3.out.block _ (by omega)), ?_, ?_, ?_⟩
          · have h := HBK3.out.set (.int .i64 ((j + 1 : Nat) : Int))
            rw [show ((j + 1 : Nat) : Int) = (j : Int) + 1 by omega] at h ⊢
            exact h
          · exact HFB3.out.setK hn02 hO hA _
          · exact Nat.le_trans hs2 (Nat.le_trans HB3.out.size (by simp))
        case done =>
          rintro D W hD ⟨hbk, hfb, hws⟩ hK
          rw [hNL] at hbk
          have c1 := hbk.cell
          have c2 := hfb.own.cell
          have c3 := hfb.res.cell
          have c4 := hfb.res.frozen
          have HFB := Aside0.mk hfb
          have HKD := Aside0.mk hK
          clear hbk hfb hK
          go_wp2
          have hK2 := (KeepsOthers.setCell W ⟨w.heap.size, 0, none⟩ (.bool true)).same D _ HKD.out rfl
          refine ⟨by simp, .inl ⟨_, _, rfl, run_takeDeferred hK2, ?_⟩⟩
          have c5 : ((W.setCell ⟨w.heap.size, 0, none⟩ (.bool true)).putObj D (.deferred none)).cell? ⟨w.heap.size, 0, none⟩ = some (.bool true) := (World.cell?_of_block (a := ⟨w.heap.size, 0, none⟩) (World.putObj_heap_other (by show w.heap.size ≠ D; omega))).trans (HFB.out.res.set (.bool true)).cell
          refine ⟨_, results_bool rfl Try.underlying4 _ _ _ true rfl c5, rfl, ?_⟩
          exact (HFB.out.bel.setCell (p := ⟨w.heap.size, 0, none⟩) (Nat.le_refl _) _).trans (belowK_b (w := w) (Nat.le_refl _) _ D _ _ (by omega) hK2 rfl rfl)
        case stop =>
          intro D c W _ h _
          exact h.elim
end Go.Proofs.Ytclhkbjcemgmnaa.Pure
