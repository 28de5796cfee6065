/- FrameScans: the frames in any bytes, gone through again, one round within another, left early. -/
import Derived.Test.YtclhkbjcemgmnaaFogx0
import Derived.Test.YtclhkbjcemgmnaaFogx10
import Derived.Test.YtclhkbjcemgmnaaFogx5
import Derived.Test.YtclhkbjcemgmnaaHandScan
import Derived.Laws.EntriesVeiled
import Derived.Test.YtclhkbjcemgmnaaSeqRows
import Derived.Test.YtclhkbjcemgmnaaHandWorks
namespace Go.Proofs.Ytclhkbjcemgmnaa.Pure
open Go.RowKit Go.Shelf Go.Proofs.Ytclhkbjcemgmnaa.Fog Go.Proofs.YtclhkbjcemgmnaaW.PrintWords Go.Proofs.YtclhkbjcemgmnaaW.PrintLast Go.Proofs.YtclhkbjcemgmnaaW.PrintMore Go.Proofs.Ytclhkbjcemgmnaa.Kit Go.Proofs.Ytclhkbjcemgmnaa.Seq
set_option linter.unusedVariables false
set_option linter.unusedSimpArgs false
attribute [local go_sem] Oper.semAt_some
theorem rsame_selfS (x : S30) : foghornref25_Same.f x.f0 x.f1 x.f2 x.f3 x.f0 x.f1 x.f2 x.f3 = some true := by
  unfold foghornref25_Same.f
  rw [if_pos rfl, if_pos rfl, if_pos (by simp)]
  simp
def wantL (s : ByteArray) : List S43 := (scanV s 0).map fun x => ⟨(x.1 : Int), x.2⟩
theorem rd_want (s : ByteArray) (j p : Nat) (F : S30) (h : (scanV s 0)[j]? = some (p, F)) : rd_T43 (wantL s) (j : Int) = ⟨(p : Int), F⟩ := by
  simp [rd_T43, wantL, List.getD_eq_getElem?_getD, h]
theorem refscan_l0 (s : ByteArray) (hs : s.size ≤ 140737488351232) (hb : s.size ≤ 1048576) : ∀ (d p : Nat) (acc : List S43), s.size - p = d → p ≤ s.size → acc.length ≤ p → Ev (fun k => foghornref25_Scan.l0 k s acc (p : Int)) (acc ++ (scanV s p).map fun x => ⟨(x.1 : Int), x.2⟩)
  | d, p, acc, hd, hp, ha => by
    rcases Nat.lt_or_ge p s.size with h | h
    · have hl := (len_le (cutB s p)).1
      refine Ev.step (fun k => by simp only [foghornref25_Scan.l0]; rfl) (Ev.ifp (by omega) (Ev.ifp (by omega) (Ev.ifp (by omega) ?_)))
      rw [Int.toNat_natCast]
      refine Ev.bind (parse_ref (cutB s p) (by unfold cutB; rw [ByteArray.size_extract]; omega)) ?_
      cases ho : okB s p
      · rw [parsed_no s p ho]
        refine Ev.ifn (by decide) ?_
        rw [show ((p : Int) + 1) = ((p + 1 : Nat) : Int) by omega, w64n (by omega), scanV_no s p h ho]
        exact refscan_l0 s hs hb (s.size - (p + 1)) (p + 1) acc rfl (by omega) (by omega)
      · rw [parsed_ok s p ho]
        have hle := okB_len s p ho
        refine Ev.ifp rfl (Ev.ifp (by omega) ?_)
        dsimp only
        rw [show ((p : Int) + (lenOf (cutB s p) : Int)) = ((p + lenOf (cutB s p) : Nat) : Int) by omega, w64n (by omega), scanV_ok s p h ho, List.map_cons]
        have ih := refscan_l0 s hs hb (s.size - (p + lenOf (cutB s p))) (p + lenOf (cutB s p)) (acc ++ [⟨(p : Int), frB s p⟩]) rfl hle (by rw [List.length_append, List.length_singleton]; omega)
        rw [List.append_assoc, List.singleton_append] at ih
        exact ih
    · refine Ev.step (fun k => by simp only [foghornref25_Scan.l0]; rfl) (Ev.ifn (by omega) (Ev.val ?_))
      rw [scanV_end s p h, List.map_nil, List.append_nil]
  termination_by d => d
theorem refscan_ev (s : ByteArray) (hs : s.size ≤ 140737488351232) (hb : s.size ≤ 1048576) : Ev (fun k => foghornref25_Scan.f k s) (wantL s) := by
  have := refscan_l0 s hs hb s.size 0 [] rfl (Nat.zero_le _) (Nat.le_refl _)
  simpa [foghornref25_Scan.f, wantL] using this
structure FS (w : World) (s : ByteArray) (st : Int) (bw bf bs : Nat) (A : Option Addr) (c : Nat) (L : List S43) (n9 : Nat) (Ds : List Nat) (X : World) : Prop where
  st : Boxed X w.heap.size 3 (.int .i64 st)
  res : Boxed X (w.heap.size + 1) 4 (.bool false)
  want : Boxed X bw 37 (.slice A L.length c)
  row : Kd.R k43 43 X w.heap.size (fun _ => True) (.slice A L.length c) L
  fn : Boxed X bf 40 (.func (.func 34) #[] #[.pointer (some ⟨bs, 0, none⟩)])
  str : Boxed X bs 9 (.string s)
  ds : ∀ D ∈ Ds, X.heap[D]? = some (.deferred (some []))
  bel : Below w.heap.size w X
  size : n9 ≤ X.heap.size
  lo : w.heap.size + 1 < n9 ∧ bw < n9 ∧ bf < n9 ∧ bs < n9
  own : ∀ k, (Value.slice A L.length c).ownBlock = some k → k < n9
variable {w X Y : World} {s : ByteArray} {st : Int} {bw bf bs c n9 B : Nat} {A : Option Addr} {L : List S43} {Ds : List Nat}
theorem FS.grow (h : FS w s st bw bf bs A c L n9 Ds X) (hb : Below X.heap.size X Y) : FS w s st bw bf bs A c L n9 Ds Y :=
  ⟨(hb.block _ h.st.lt).trans h.st, (hb.block _ h.res.lt).trans h.res, (hb.block _ h.want.lt).trans h.want, Kd.R_below h.row hb, (hb.block _ h.fn.lt).trans h.fn, (hb.block _ h.str.lt).trans h.str, fun D hD => (hb.block _ (Array.getElem?_eq_some_iff.1 (h.ds D hD)).1).trans (h.ds D hD), below_step h.bel hb, Nat.le_trans h.size hb.size, h.lo, h.own⟩
theorem FS.more (h : FS w s st bw bf bs A c L n9 [] X) {D : Nat} (hD : X.heap[D]? = some (.deferred (some []))) : FS w s st bw bf bs A c L n9 [D] X :=
  ⟨h.st, h.res, h.want, h.row, h.fn, h.str, fun D' hd => (List.mem_singleton.1 hd) ▸ hD, h.bel, h.size, h.lo, h.own⟩
theorem FS.lasts (hB : w.heap.size ≤ B) (hD : ∀ D ∈ Ds, D < B) : Lasts B (FS w s st bw bf bs A c L n9 Ds) :=
  ⟨fun X Y h hb => h.grow hb, fun X l o o' hl ho hc h => ⟨(Lasts.boxed B _ _ _).put X l o o' hl ho hc h.st, (Lasts.boxed B _ _ _).put X l o o' hl ho hc h.res, (Lasts.boxed B _ _ _).put X l o o' hl ho hc h.want,
    (Lasts.row (B := B) (d := k43)).put X l o o' hl ho hc h.row, (Lasts.boxed B _ _ _).put X l o o' hl ho hc h.fn, (Lasts.boxed B _ _ _).put X l o o' hl ho hc h.str,
    fun D hd => (World.putObj_heap_other (by have := hD D hd; omega)).trans (h.ds D hd),
    h.bel.trans ⟨rfl, rfl, rfl, by simp, fun k hk => World.putObj_heap_other (by omega)⟩, by simpa using h.size, h.lo, h.own⟩⟩
/-- A store into a box behind all these. -/
theorem FS.setK (h : FS w s st bw bf bs A c L n9 Ds X) {b : Nat} (hb : n9 ≤ b) (hD : ∀ D ∈ Ds, D < b) (u : Value) : FS w s st bw bf bs A c L n9 Ds (X.setCell ⟨b, 0, none⟩ u) := by
  have hlo := h.lo
  refine ⟨h.st.other (by omega) _, h.res.other (by omega) _, h.want.other (by omega) _, ?_, h.fn.other (by omega) _, h.str.other (by omega) _, fun D hd => (Below.heap_setCell _ _ _ D (by have := hD D hd; show D ≠ b; omega)).trans (h.ds D hd), h.bel.setCell (p := ⟨b, 0, none⟩) (by show w.heap.size ≤ b; omega) _, Nat.le_trans h.size (by simp), hlo, h.own⟩
  refine Kd.R_mono (Kd.R_move (Kd.R_tight rfl h.row) ?_) (fun _ _ => trivial)
  intro k hk
  exact Below.heap_setCell _ _ _ k (fun e => by have h1 : k = b := e; have := h.own k hk.symm; omega)
theorem scan_is_nil (p : Value) (W : World) : (binOp .eql 40 (.func (.func 34) #[] #[p]) .nilFunc).run Try.prog W = .ok (.bool false) W := by
  kernel_rfl
set_option maxRecDepth 100000 in
set_option maxHeartbeats 8000000 in
theorem FrameScans_walk (s : ByteArray) (st : Int) (w : World) (w0 : s.size ≤ 140737488351232) (hu0 : s.size ≤ 1048576) (w1 : (Lit.int .i64 st).wf = true) :
    Calls Try.prog 5 #[.string s, .int .i64 st] w fun e w' => e = .returned (.bool true) ∧ Below w.heap.size w w' := by
  obtain ⟨kr, hkr⟩ := (refscan_ev s w0 hu0).rounds
  have HKR := Aside0.mk hkr
  have HSZ := Aside0.mk w0
  have HU := Aside0.mk hu0
  clear hkr w0 hu0 w1
  refine (callsIn_wide (n := 5)).1 ?_
  refine callsIn_of_wp_marks Try.func5 rfl trivial ?_ rfl
  refine wpIn_wide.2 ?_
  simp only [Try.ntmps5, List.size_toArray, List.length_cons, List.length_nil, Nat.reduceAdd, Nat.reduceSub, Array.replicate_succ, Array.replicate_zero, List.push_toArray, List.append_toArray, List.nil_append, List.cons_append]
  have HB0 := Aside0.mk (below_alloc (below_alloc (Below.refl w.heap.size w) (.cells #[.int .i64 st] 3)) (.cells #[.bool false] 4))
  have H1 := Aside0.mk ((Boxed.new w 3 (.int .i64 st)).alloc (.cells #[.bool false] 4))
  have h2 := Boxed.new (w.alloc (.cells #[.int .i64 st] 3)) 4 (.bool false)
  rw [World.size_alloc] at h2
  have H2 := Aside0.mk h2
  have hnil := scan_is_nil
  clear h2
  go_wp2_with (first
    | (go_at_call 20; (with_reducible refine (foghornref25_Scan.calls kr s (wantL s) _ HKR.out).mono ?_); rintro e w1 ⟨v1, rfl, hR, hb⟩; obtain ⟨A, c, rfl⟩ := Kd.R_slice hR; have HR1 := Aside0.mk hR; have HB1 := Aside0.mk hb; clear hR hb)
    | (go_at_call 21; (with_reducible refine (scan_calls _ _).mono ?_); rintro e w2 ⟨rfl, rfl⟩; have hbn := Boxed.new ((w1.alloc (.cells #[.slice A (wantL s).length c] 37)).alloc (.cells #[.string s] 9)) 40 (.func (.func 34) #[] #[.pointer (some ⟨w1.heap.size + 1, 0, none⟩)]); simp only [World.size_alloc] at hbn; have HBN := Aside0.mk hbn; have cfn := hbn.cell; clear hbn))
  obtain ⟨WX, HW0⟩ : ∃ WX, ((w1.alloc (.cells #[.slice A (wantL s).length c] 37)).alloc (.cells #[.string s] 9)).alloc (.cells #[.func (.func 34) #[] #[.pointer (some ⟨w1.heap.size + 1, 0, none⟩)]] 40) = WX := ⟨_, rfl⟩
  have HW := Aside0.mk HW0
  rw [HW0] at HBN ⊢
  clear cfn HW0
  have HFS : Aside0 (FS w s st w1.heap.size (w1.heap.size + 1 + 1) (w1.heap.size + 1) A c (wantL s) (w1.heap.size + 3) [] WX) := ⟨by
    have hw := HW.out
    have hb1 := HB1.out
    have hs1 := hb1.size
    simp only [World.size_alloc] at hs1
    have b0 : Boxed w1 w.heap.size 3 (.int .i64 st) := (hb1.block _ H1.out.lt).trans H1.out
    have b1 : Boxed w1 (w.heap.size + 1) 4 (.bool false) := (hb1.block _ H2.out.lt).trans H2.out
    have b2 := Boxed.new w1 37 (.slice A (wantL s).length c)
    have b3 := Boxed.new (w1.alloc (.cells #[.slice A (wantL s).length c] 37)) 9 (.string s)
    rw [World.size_alloc] at b3
    have hR := Kd.R_lower HR1.out (show w.heap.size ≤ _ by simp; omega)
    have hbn := HBN.out
    rw [← hw] at hbn ⊢
    refine ⟨((b0.alloc _).alloc _).alloc _, ((b1.alloc _).alloc _).alloc _, (b2.alloc _).alloc _, Kd.R_alloc (Kd.R_alloc (Kd.R_alloc (Kd.R_lower HR1.out (show w.heap.size ≤ _ by simp; omega)) _) _) _, hbn, b3.alloc _, fun D hD => (by cases hD), ?_, ?_, by omega, ?_⟩
    · exact below_alloc (below_alloc (below_alloc (below_step HB0.out hb1) _) _) _
    · simp
    · intro k hk
      have := Kd.R_lt hR k hk
      omega⟩
  obtain ⟨bw, hbw⟩ : ∃ b, w1.heap.size = b := ⟨_, rfl⟩
  rw [hbw] at HFS ⊢
  obtain ⟨L, hL⟩ : ∃ L, wantL s = L := ⟨_, rfl⟩
  have HLE : Aside0 (L = wantL s) := ⟨hL.symm⟩
  have HNL : Aside0 ((scanV s 0).length = L.length) := ⟨by rw [← hL]; simp [wantL]⟩
  have HLN : Aside0 (L.length ≤ 1048576) := ⟨by have h1 := scanV_len s s.size 0 rfl; have h2 := HNL.out; have h3 := HU.out; omega⟩
  rw [hL] at HFS ⊢
  obtain ⟨bf, hbf⟩ : ∃ b, bw + 1 + 1 = b := ⟨_, rfl⟩
  obtain ⟨bs, hbs⟩ : ∃ b, bw + 1 = b := ⟨_, rfl⟩
  obtain ⟨n9, hn9⟩ : ∃ b, bw + 3 = b := ⟨_, rfl⟩
  rw [hbf, hbs, hn9] at HFS
  rw [hbf, hbs] at ⊢
  clear hbw hL hbf hbs hn9 HB0 H1 H2 HR1 HB1 HW HBN
  refine wp_loop_rounds 3 ?_
  rw [rounds_succ]
  have cf := (HFS.out.grow (below_alloc (Below.refl _ _) (.cells #[.int .i64 0] 3))).fn.cell
  go_wp2
  refine (wpIn_wide (n := 5)).1 ?_
  have HF1 := Aside0.mk (HFS.out.grow (below_alloc (Below.refl _ _) (.cells #[.int .i64 0] 3)))
  have bk := Boxed.new WX 3 (.int .i64 0)
  have hsz : (WX.alloc (.cells #[.int .i64 0] 3)).heap.size = WX.heap.size + 1 := by simp
  obtain ⟨Bk, hBk⟩ : ∃ b, WX.heap.size = b := ⟨_, rfl⟩
  have hn9 : n9 ≤ Bk := hBk ▸ HFS.out.size
  have hlo := HFS.out.lo
  have hDs : ∀ D ∈ [], D < Bk := fun D hD => hBk ▸ (Array.getElem?_eq_some_iff.1 (HFS.out.ds D hD)).1
  rw [hBk] at bk hsz ⊢
  clear HFS cf hBk
  obtain ⟨Wk, hWk⟩ : ∃ Wk, WX.alloc (.cells #[.int .i64 0] 3) = Wk := ⟨_, rfl⟩
  rw [hWk] at bk HF1 hsz ⊢
  clear hWk
  refine wpIn_rangeV_out (by decide) (gf := 34) (lb := #[.pointer (some ⟨bs, 0, none⟩)]) rfl trivial (enters_of Try.func34 (by kernel_rfl) rfl) (scan_seq 4 (by decide) bs s HSZ.out Wk HF1.out.str.cell) (fun h h' => h'.trans h) (fun W l o o' hl _ _ => World.putObj_heap_other (by omega)) (Below.refl _ _) (fun _ => rfl)
    (fun j W => Boxed W Bk 3 (.int .i64 (j : Int)) ∧ FS w s st bw bf bs A c L n9 [] W ∧ Wk.heap.size ≤ W.heap.size) (fun _ _ => False) (fun j => Lasts.and (Lasts.boxed _ _ _ _) (Lasts.and (FS.lasts (by omega) (fun D hD => by have := hDs D hD; omega)) (Lasts.size _ _))) (fun c => Lasts.const _ False) ⟨bk, HF1.out, Nat.le_refl _⟩ ?round rfl ?done ?stop
  case stop =>
    intro D c W _ h _
    exact h.elim
  case round =>
    rintro l j ⟨p, F⟩ W hl ⟨hbk, hfs, hws⟩ hx hj
    simp only [plEnc, frEnc]
    have hjL : j < L.length := by rw [← HNL.out]; exact hj
    have hL20 : L.length ≤ 1048576 := HLN.out
    have hrW : rd_T43 L (j : Int) = ⟨(p : Int), F⟩ := by rw [HLE.out]; exact rd_want s j p F hx
    gi_wp2
    refine ⟨(KeepsOthers.alloc _ _).from _, Below.heap_alloc _ _ _ (by omega), fun W2 hrr hT => ?_⟩
    have hbk2 := hT _ (Lasts.boxed _ _ _ _) (hbk.alloc _)
    have hfs2 := hT _ (FS.lasts (Ds := []) (by omega) (fun D hD => by have := hDs D hD; omega)) (hfs.grow (below_alloc (Below.refl _ _) _))
    have hbf := hT _ Lasts.block (blk_new W _)
    have hs2 : Wk.heap.size ≤ W2.heap.size := hT _ (Lasts.size _ _) (by rw [World.size_alloc]; omega)
    obtain ⟨ad, eA, y0, y1, y2, y3, y4⟩ := at_T43 (Kd.R_reads' hfs2.row).2.2 (j : Int) (by omega) (by omega)
    rw [hrW] at y0 y1 y2 y3 y4
    simp only [Int.toNat_natCast] at y0 y1 y2 y3 y4
    have k0 := cell_regrown hbk2.cell
    have k1 := cell_regrown hfs2.want.cell
    have z0 := cell_regrown y0
    have z1 := cell_regrown y1
    have z2 := cell_regrown y2
    have z3 := cell_regrown y3
    have z4 := cell_regrown y4
    have f0 := cell_regrown ((blk_cell hbf 0).trans rfl)
    have f1 := cell_regrown ((blk_cell hbf 1).trans rfl)
    have f2 := cell_regrown ((blk_cell hbf 2).trans rfl)
    have f3 := cell_regrown ((blk_cell hbf 3).trans rfl)
    have cS : ∀ d os, CallsIn (Fence.wide.inRound l) (5 - 1 - 1 - 1) Try.prog 19 #[.agg #[.int .u8 F.f0, .int .u8 F.f1, .bool F.f2, .string F.f3], .agg #[.int .u8 F.f0, .int .u8 F.f1, .bool F.f2, .string F.f3]] (Go.Sort.grow (redrawn W2 d) os) fun e w'' => e = .returned (.bool true) ∧ ∃ p : Regrown, w'' = Go.Sort.grow (redrawn W2 p.d) p.os := fun d os => CallsIn.regrown_of (callsIn_wide.2 (foghornref25_Same.calls F.f0 F.f1 F.f2 F.f3 F.f0 F.f1 F.f2 F.f3 true _ (rsame_selfS F)))
    have g1 : (j : Int) < (L.length : Int) := by omega
    have g4 : ¬ ((j : Int) = (L.length : Int)) := by omega
    have g5 : ¬ (j = L.length) := by omega
    have kW := cell_regrown (show W2.cell? ⟨bw, 0, none⟩ = some (.slice (some ad) L.length c) from eA ▸ hfs2.want.cell)
    have HFS2 := Aside0.mk hfs2
    have HBK2 := Aside0.mk hbk2
    have HEA := Aside0.mk eA
    clear k1 hfs2 hbk2 hbf hx hrW y0 y1 y2 y3 y4 hT hbk hfs eA
    gi_wp2
    refine wpIn_below_round (by kernel_rfl) (by kernel_rfl) (by kernel_rfl) ?_
    repeat (refine wpQuietIn_step (fun _ _ _ _ => trivial) (fun K hK => ?_); go_simp; first | (refine hK _ ?_; clear hK K) | (apply Exists.intro; refine ⟨fun _ => ?_, hK _ ?_⟩; (first | exact cS _ _ | exact ⟨fun h => (by cases h), cS _ _⟩); clear hK K))
    refine wpQuietIn_nil ?_
    intro _ hw'
    obtain ⟨⟨dq, osq⟩, hw''⟩ := hw'
    subst hw''
    have HB3 := Aside0.mk (below_regrown W2 dq osq)
    obtain ⟨W3, hW3⟩ : ∃ W3, Go.Sort.grow (redrawn W2 dq) osq = W3 := ⟨_, rfl⟩
    rw [hW3] at HB3 ⊢
    have HFS3 := Aside0.mk (HFS2.out.grow HB3.out)
    have hbk3 : Boxed W3 Bk 3 (.int .i64 (j : Int)) := (HB3.out.block _ HBK2.out.lt).trans HBK2.out
    have ck := hbk3.cell
    have fk := hbk3.frozen
    have cst := HFS3.out.st.cell
    have HBK3 := Aside0.mk hbk3
    clear k0 kW z0 z1 z2 z3 z4 f0 f1 f2 f3 hbk3 hW3 cS
    have cf3 := (HFS3.out.grow (below_alloc (Below.refl _ _) (.cells #[.int .i64 0] 3))).fn.cell
    have FIN : ∀ V, Boxed V Bk 3 (.int .i64 (j : Int)) → FS w s st bw bf bs A c L n9 [] V → Wk.heap.size ≤ V.heap.size → KeepsFrom Wk.heap.size W2 V → (KeepsFrom Wk.heap.size W2 (V.setCell ⟨Bk, 0, none⟩ (.int .i64 ((j : Int) + 1))) ∧ (V.setCell ⟨Bk, 0, none⟩ (.int .i64 ((j : Int) + 1))).heap[bs]? = W2.heap[bs]? ∧ (Boxed (V.setCell ⟨Bk, 0, none⟩ (.int .i64 ((j : Int) + 1))) Bk 3 (.int .i64 ((j + 1 : Nat) : Int)) ∧ FS w s st bw bf bs A c L n9 [] (V.setCell ⟨Bk, 0, none⟩ (.int .i64 ((j : Int) + 1))) ∧ Wk.heap.size ≤ (V.setCell ⟨Bk, 0, none⟩ (.int .i64 ((j : Int) + 1))).heap.size)) := by
      intro V h1 h2 h3 h4
      have h5 := h2.setK hn9 hDs (.int .i64 ((j : Int) + 1))
      have h6 := h1.set (.int .i64 ((j : Int) + 1))
      rw [show ((j + 1 : Nat) : Int) = (j : Int) + 1 by omega]
      exact ⟨h4.trans ((KeepsOthers.setCell _ _ _).from _), (show _ = _ from h5.str).trans (show _ = _ from HFS2.out.str).symm, h6, h5, Nat.le_trans h3 (by simp)⟩
    have HRR := Aside0.mk hrr
    clear hrr
    gi_wp2
    · have HFj := Aside0.mk (HFS3.out.grow (below_alloc (Below.refl _ _) (.cells #[.int .i64 0] 3)))
      have hbj := Boxed.new W3 3 (.int .i64 0)
      have hbkj := HBK3.out.alloc (.cells #[.int .i64 0] 3)
      have hszj : (W3.alloc (.cells #[.int .i64 0] 3)).heap.size = W3.heap.size + 1 := by simp
      have hkj : KeepsFrom Wk.heap.size W2 (W3.alloc (.cells #[.int .i64 0] 3)) := (keeps_below HB3.out).trans ((KeepsOthers.alloc _ _).from _)
      obtain ⟨r0, hr0⟩ := HRR.out
      have hr1 : (W3.alloc (.cells #[.int .i64 0] 3)).heap[l]? = some (.loop r0) := (Below.heap_alloc _ _ _ (by have := (Array.getElem?_eq_some_iff.1 hr0).1; have := HB3.out.size; omega)).trans ((HB3.out.block _ (Array.getElem?_eq_some_iff.1 hr0).1).trans hr0)
      have hs3 : W2.heap.size ≤ W3.heap.size := HB3.out.size
      obtain ⟨Bj, hBj⟩ : ∃ b, W3.heap.size = b := ⟨_, rfl⟩
      have hn9j : n9 ≤ Bj := hBj ▸ HFS3.out.size
      have hBkj : Bk < Bj := hBj ▸ HBK3.out.lt
      have hDj : ∀ D ∈ [], D < Bj := fun D hD => Nat.lt_trans (hDs D hD) hBkj
      rw [hBj] at hbj hszj hs3 ⊢
      clear cf3 ck fk cst hBj
      obtain ⟨Wj, hWj⟩ : ∃ Wj, W3.alloc (.cells #[.int .i64 0] 3) = Wj := ⟨_, rfl⟩
      rw [hWj] at HFj hbj hbkj hszj hkj hr1 ⊢
      clear hWj
      refine wpIn_rangeV_in (by decide) (gf := 34) (lb := #[.pointer (some ⟨bs, 0, none⟩)]) rfl trivial (enters_of Try.func34 (by kernel_rfl) rfl) (SeqV.inRound l (scan_seq 2 (by decide) bs s HSZ.out Wj HFj.out.str.cell)) (fun h h' => h'.trans h) (fun W l o o' hl _ _ => World.putObj_heap_other (by omega)) (Below.refl _ _) (fun _ => rfl)
        (fun i V => Boxed V Bj 3 (.int .i64 (i : Int)) ∧ (Boxed V Bk 3 (.int .i64 (j : Int)) ∧ (FS w s st bw bf bs A c L n9 [] V ∧ (Wj.heap.size ≤ V.heap.size ∧ KeepsFrom Wk.heap.size W2 V))))
        (fun cd V => cd = .exit 4 ∧ (Boxed V Bk 3 (.int .i64 (j : Int)) ∧ (FS w s st bw bf bs A c L n9 [] V ∧ (Wj.heap.size ≤ V.heap.size ∧ KeepsFrom Wk.heap.size W2 V))))
        (fun i => Lasts.and (Lasts.boxed _ _ _ _) (Lasts.and (Lasts.boxed _ _ _ _) (Lasts.and (FS.lasts (by omega) (fun D hD => by have := hDj D hD; omega)) (Lasts.and (Lasts.size _ _) (Lasts.keeps (by omega))))))
        (fun cd => Lasts.and (Lasts.const _ _) (Lasts.and (Lasts.boxed _ _ _ _) (Lasts.and (FS.lasts (by omega) (fun D hD => by have := hDj D hD; omega)) (Lasts.and (Lasts.size _ _) (Lasts.keeps (by omega))))))
        ⟨hbj, hbkj, HFj.out, Nat.le_refl _, hkj⟩ ?round2 rfl hr1 ?done2 ?stop2
      case done2 =>
        rintro V ⟨hbj, hbk, hfs, hws, hkf⟩
        have ck := hbk.cell
        have fk := hbk.frozen
        have HE := Aside0.mk (FIN V hbk hfs (by omega) hkf)
        clear hbj hbk hfs hkf hkj hbkj
        gi_wp2
        exact HE.out
      case stop2 =>
        rintro cd V ⟨rfl, hbk, hfs, hws, hkf⟩
        have ck := hbk.cell
        have fk := hbk.frozen
        have HE := Aside0.mk (FIN V hbk hfs (by omega) hkf)
        clear hbk hfs hkf hkj hbkj
        gi_wp2
        exact HE.out
      case round2 =>
        rintro l2 i ⟨p2, F⟩ V hl2 ⟨hbj, hbk, hfs, hws, hkf⟩ hx hi
        simp only [plEnc, frEnc]
        have hiL : i < L.length := by rw [← HNL.out]; exact hi
        have hrW : rd_T43 L (i : Int) = ⟨(p2 : Int), F⟩ := by rw [HLE.out]; exact rd_want s i p2 F hx
        clear hbkj hkj
        gi_wp2
        refine ⟨(KeepsOthers.alloc _ _).from _, Below.heap_alloc _ _ _ (by omega), fun V2 hrr hT => ?_⟩
        have hbj2 := hT _ (Lasts.boxed _ _ _ _) (hbj.alloc _)
        have hbk2 := hT _ (Lasts.boxed _ _ _ _) (hbk.alloc _)
        have hfs2 := hT _ (FS.lasts (Ds := []) (by omega) (fun D hD => by have := hDj D hD; omega)) (hfs.grow (below_alloc (Below.refl _ _) _))
        have hbf := hT _ Lasts.block (blk_new V _)
        have hs2 : Wj.heap.size ≤ V2.heap.size := hT _ (Lasts.size _ _) (by rw [World.size_alloc]; omega)
        have hkf2 := hT _ (Lasts.keeps (B := Wk.heap.size) (X := W2) (by omega)) (hkf.trans ((KeepsOthers.alloc _ _).from _))
        obtain ⟨ad, eA, y0, y1, y2, y3, y4⟩ := at_T43 (Kd.R_reads' hfs2.row).2.2 (i : Int) (by omega) (by omega)
        rw [hrW] at y0 y1 y2 y3 y4
        simp only [Int.toNat_natCast] at y0 y1 y2 y3 y4
        have k0 := cell_regrown hbj2.cell
        have k1 := cell_regrown hfs2.want.cell
        have z0 := cell_regrown y0
        have z1 := cell_regrown y1
        have z2 := cell_regrown y2
        have z3 := cell_regrown y3
        have z4 := cell_regrown y4
        have f0 := cell_regrown ((blk_cell hbf 0).trans rfl)
        have f1 := cell_regrown ((blk_cell hbf 1).trans rfl)
        have f2 := cell_regrown ((blk_cell hbf 2).trans rfl)
        have f3 := cell_regrown ((blk_cell hbf 3).trans rfl)
        have cS : ∀ d os, CallsIn ((Fence.wide.inRound l).inRound l2) (5 - 1 - 1 - 1 - 1 - 1) Try.prog 19 #[.agg #[.int .u8 F.f0, .int .u8 F.f1, .bool F.f2, .string F.f3], .agg #[.int .u8 F.f0, .int .u8 F.f1, .bool F.f2, .string F.f3]] (Go.Sort.grow (redrawn V2 d) os) fun e w'' => e = .returned (.bool true) ∧ ∃ p : Regrown, w'' = Go.Sort.grow (redrawn V2 p.d) p.os := fun d os => CallsIn.regrown_of (callsIn_wide.2 (foghornref25_Same.calls F.f0 F.f1 F.f2 F.f3 F.f0 F.f1 F.f2 F.f3 true _ (rsame_selfS F)))
        have g1 : (i : Int) < (L.length : Int) := by omega
        have g4 : ¬ ((i : Int) = (L.length : Int)) := by omega
        have g5 : ¬ (i = L.length) := by omega
        have kW := cell_regrown (show V2.cell? ⟨bw, 0, none⟩ = some (.slice (some ad) L.length c) from eA ▸ hfs2.want.cell)
        have HFV2 := Aside0.mk hfs2
        have HBJ2 := Aside0.mk hbj2
        have HBV2 := Aside0.mk hbk2
        have HKF2 := Aside0.mk hkf2
        have HEA2 := Aside0.mk eA
        clear k1 hfs2 hbk2 hbj2 hbf hx hrW y0 y1 y2 y3 y4 hT hbk hbj hfs eA hkf hkf2 hrr
        gi_wp2
        refine wpIn_below_round (by kernel_rfl) (by kernel_rfl) (by kernel_rfl) ?_
        repeat (refine wpQuietIn_step (fun _ _ _ _ => trivial) (fun K hK => ?_); go_simp; first | (refine hK _ ?_; clear hK K) | (apply Exists.intro; refine ⟨fun _ => ?_, hK _ ?_⟩; (first | exact cS _ _ | exact ⟨fun h => (by cases h), cS _ _⟩); clear hK K))
        refine wpQuietIn_nil ?_
        intro _ hw'
        obtain ⟨⟨dq, osq⟩, hw''⟩ := hw'
        subst hw''
        have HC3 := Aside0.mk (below_regrown V2 dq osq)
        obtain ⟨V3, hV3⟩ : ∃ V3, Go.Sort.grow (redrawn V2 dq) osq = V3 := ⟨_, rfl⟩
        rw [hV3] at HC3 ⊢
        have HFV3 := Aside0.mk (HFV2.out.grow HC3.out)
        have hbj3 : Boxed V3 Bj 3 (.int .i64 (i : Int)) := (HC3.out.block _ HBJ2.out.lt).trans HBJ2.out
        have HBV3 : Aside0 (Boxed V3 Bk 3 (.int .i64 (j : Int))) := ⟨(HC3.out.block _ HBV2.out.lt).trans HBV2.out⟩
        have cj := hbj3.cell
        have fj := hbj3.frozen
        have HV4 := Aside0.mk (HFV3.out.setK hn9j hDj (.int .i64 ((i : Int) + 1)))
        have HJ4 := Aside0.mk (hbj3.set (.int .i64 ((i : Int) + 1)))
        have HK4 := Aside0.mk (HBV3.out.other (show Bk ≠ Bj by omega) (.int .i64 ((i : Int) + 1)))
        have HQ4 : Aside0 (KeepsFrom Wk.heap.size W2 (V3.setCell ⟨Bj, 0, none⟩ (.int .i64 ((i : Int) + 1)))) := ⟨(HKF2.out.trans (keeps_below HC3.out)).trans ((KeepsOthers.setCell _ _ _).from _)⟩
        have HQ5 : Aside0 (KeepsFrom Wj.heap.size V2 (V3.setCell ⟨Bj, 0, none⟩ (.int .i64 ((i : Int) + 1)))) := ⟨(keeps_below HC3.out).trans ((KeepsOthers.setCell _ _ _).from _)⟩
        have HZ4 : Aside0 (Wj.heap.size ≤ (V3.setCell ⟨Bj, 0, none⟩ (.int .i64 ((i : Int) + 1))).heap.size) := ⟨Nat.le_trans hs2 (Nat.le_trans HC3.out.size (by simp))⟩
        have cst4 := HV4.out.st.cell
        have cj4 := HJ4.out.cell
        clear k0 kW z0 z1 z2 z3 z4 f0 f1 f2 f3 hbj3 hV3 cS
        gi_wp2
        · exact ⟨HQ5.out, rfl, HK4.out, HV4.out, HZ4.out, HQ4.out⟩
        · refine ⟨HQ5.out, (show _ = _ from HV4.out.str).trans (show _ = _ from HFV2.out.str).symm, ?_, HK4.out, HV4.out, HZ4.out, HQ4.out⟩
          rw [show ((i + 1 : Nat) : Int) = (i : Int) + 1 by omega]
          exact HJ4.out
    · exact FIN W3 HBK3.out HFS3.out (Nat.le_trans hs2 HB3.out.size) (keeps_below HB3.out)
  case done =>
    rintro D1 W hD ⟨hbk, hfs, hws⟩ hK
    rw [HNL.out] at hbk
    have c1 := hbk.cell
    have c2 := hfs.want.cell
    have HFSD := Aside0.mk hfs
    have HKD := Aside0.mk hK
    clear hbk hfs hK
    go_wp2
    have HFS : Aside0 (FS w s st bw bf bs A c L n9 [D1] W) := ⟨HFSD.out.more HKD.out⟩
    have hD1n : n9 ≤ D1 := by omega
    clear c1 c2 HFSD HKD bk HF1 hDs hD hws hn9 hlo hsz
    obtain ⟨WX, rfl⟩ : ∃ WX : World, WX = W := ⟨_, rfl⟩
    rw [rounds_succ]
    have cf := (HFS.out.grow (below_alloc (Below.refl _ _) (.cells #[.int .i64 0] 3))).fn.cell
    go_wp2
    refine (wpIn_wide (n := 5)).1 ?_
    have HF1 := Aside0.mk (HFS.out.grow (below_alloc (Below.refl _ _) (.cells #[.int .i64 0] 3)))
    have bk := Boxed.new WX 3 (.int .i64 0)
    have hsz : (WX.alloc (.cells #[.int .i64 0] 3)).heap.size = WX.heap.size + 1 := by simp
    obtain ⟨Bk, hBk⟩ : ∃ b, WX.heap.size = b := ⟨_, rfl⟩
    have hn9 : n9 ≤ Bk := hBk ▸ HFS.out.size
    have hlo := HFS.out.lo
    have hDs : ∀ D ∈ [D1], D < Bk := fun D hD => hBk ▸ (Array.getElem?_eq_some_iff.1 (HFS.out.ds D hD)).1
    rw [hBk] at bk hsz ⊢
    clear HFS cf hBk
    obtain ⟨Wk, hWk⟩ : ∃ Wk, WX.alloc (.cells #[.int .i64 0] 3) = Wk := ⟨_, rfl⟩
    rw [hWk] at bk HF1 hsz ⊢
    clear hWk
    refine wpIn_rangeV_out (by decide) (gf := 34) (lb := #[.pointer (some ⟨bs, 0, none⟩)]) rfl trivial (enters_of Try.func34 (by kernel_rfl) rfl) (scan_seq 4 (by decide) bs s HSZ.out Wk HF1.out.str.cell) (fun h h' => h'.trans h) (fun W l o o' hl _ _ => World.putObj_heap_other (by omega)) (Below.refl _ _) (fun _ => rfl)
      (fun j W => Boxed W Bk 3 (.int .i64 (j : Int)) ∧ FS w s st bw bf bs A c L n9 [D1] W ∧ Wk.heap.size ≤ W.heap.size) (fun _ _ => False) (fun j => Lasts.and (Lasts.boxed _ _ _ _) (Lasts.and (FS.lasts (by omega) (fun D hD => by have := hDs D hD; omega)) (Lasts.size _ _))) (fun c => Lasts.const _ False) ⟨bk, HF1.out, Nat.le_refl _⟩ ?round rfl ?done ?stop
    case stop =>
      intro D c W _ h _
      exact h.elim
    case round =>
      rintro l j ⟨p, F⟩ W hl ⟨hbk, hfs, hws⟩ hx hj
      simp only [plEnc, frEnc]
      have hjL : j < L.length := by rw [← HNL.out]; exact hj
      have hL20 : L.length ≤ 1048576 := HLN.out
      have hrW : rd_T43 L (j : Int) = ⟨(p : Int), F⟩ := by rw [HLE.out]; exact rd_want s j p F hx
      gi_wp2
      refine ⟨(KeepsOthers.alloc _ _).from _, Below.heap_alloc _ _ _ (by omega), fun W2 hrr hT => ?_⟩
      have hbk2 := hT _ (Lasts.boxed _ _ _ _) (hbk.alloc _)
      have hfs2 := hT _ (FS.lasts (Ds := [D1]) (by omega) (fun D hD => by have := hDs D hD; omega)) (hfs.grow (below_alloc (Below.refl _ _) _))
      have hbf := hT _ Lasts.block (blk_new W _)
      have hs2 : Wk.heap.size ≤ W2.heap.size := hT _ (Lasts.size _ _) (by rw [World.size_alloc]; omega)
      obtain ⟨ad, eA, y0, y1, y2, y3, y4⟩ := at_T43 (Kd.R_reads' hfs2.row).2.2 (j : Int) (by omega) (by omega)
      rw [hrW] at y0 y1 y2 y3 y4
      simp only [Int.toNat_natCast] at y0 y1 y2 y3 y4
      have k0 := cell_regrown hbk2.cell
      have k1 := cell_regrown hfs2.want.cell
      have z0 := cell_regrown y0
      have z1 := cell_regrown y1
      have z2 := cell_regrown y2
      have z3 := cell_regrown y3
      have z4 := cell_regrown y4
      have f0 := cell_regrown ((blk_cell hbf 0).trans rfl)
      have f1 := cell_regrown ((blk_cell hbf 1).trans rfl)
      have f2 := cell_regrown ((blk_cell hbf 2).trans rfl)
      have f3 := cell_regrown ((blk_cell hbf 3).trans rfl)
      have cS : ∀ d os, CallsIn (Fence.wide.inRound l) (5 - 1 - 1 - 1) Try.prog 19 #[.agg #[.int .u8 F.f0, .int .u8 F.f1, .bool F.f2, .string F.f3], .agg #[.int .u8 F.f0, .int .u8 F.f1, .bool F.f2, .string F.f3]] (Go.Sort.grow (redrawn W2 d) os) fun e w'' => e = .returned (.bool true) ∧ ∃ p : Regrown, w'' = Go.Sort.grow (redrawn W2 p.d) p.os := fun d os => CallsIn.regrown_of (callsIn_wide.2 (foghornref25_Same.calls F.f0 F.f1 F.f2 F.f3 F.f0 F.f1 F.f2 F.f3 true _ (rsame_selfS F)))
      have g1 : (j : Int) < (L.length : Int) := by omega
      have g4 : ¬ ((j : Int) = (L.length : Int)) := by omega
      have g5 : ¬ (j = L.length) := by omega
      have kW := cell_regrown (show W2.cell? ⟨bw, 0, none⟩ = some (.slice (some ad) L.length c) from eA ▸ hfs2.want.cell)
      have HFS2 := Aside0.mk hfs2
      have HBK2 := Aside0.mk hbk2
      have HEA := Aside0.mk eA
      clear k1 hfs2 hbk2 hbf hx hrW y0 y1 y2 y3 y4 hT hbk hfs eA
      gi_wp2
      refine wpIn_below_round (by kernel_rfl) (by kernel_rfl) (by kernel_rfl) ?_
      repeat (refine wpQuietIn_step (fun _ _ _ _ => trivial) (fun K hK => ?_); go_simp; first | (refine hK _ ?_; clear hK K) | (apply Exists.intro; refine ⟨fun _ => ?_, hK _ ?_⟩; (first | exact cS _ _ | exact ⟨fun h => (by cases h), cS _ _⟩); clear hK K))
      refine wpQuietIn_nil ?_
      intro _ hw'
      obtain ⟨⟨dq, osq⟩, hw''⟩ := hw'
      subst hw''
      have HB3 := Aside0.mk (below_regrown W2 dq osq)
      obtain ⟨W3, hW3⟩ : ∃ W3, Go.Sort.grow (redrawn W2 dq) osq = W3 := ⟨_, rfl⟩
      rw [hW3] at HB3 ⊢
      have HFS3 := Aside0.mk (HFS2.out.grow HB3.out)
      have hbk3 : Boxed W3 Bk 3 (.int .i64 (j : Int)) := (HB3.out.block _ HBK2.out.lt).trans HBK2.out
      have ck := hbk3.cell
      have fk := hbk3.frozen
      have cst := HFS3.out.st.cell
      have HBK3 := Aside0.mk hbk3
      clear k0 kW z0 z1 z2 z3 z4 f0 f1 f2 f3 hbk3 hW3 cS
      have cf3 := (HFS3.out.grow (below_alloc (Below.refl _ _) (.cells #[.int .i64 0] 3))).fn.cell
      have FIN : ∀ V, Boxed V Bk 3 (.int .i64 (j : Int)) → FS w s st bw bf bs A c L n9 [D1] V → Wk.heap.size ≤ V.heap.size → KeepsFrom Wk.heap.size W2 V → (KeepsFrom Wk.heap.size W2 (V.setCell ⟨Bk, 0, none⟩ (.int .i64 ((j : Int) + 1))) ∧ (V.setCell ⟨Bk, 0, none⟩ (.int .i64 ((j : Int) + 1))).heap[bs]? = W2.heap[bs]? ∧ (Boxed (V.setCell ⟨Bk, 0, none⟩ (.int .i64 ((j : Int) + 1))) Bk 3 (.int .i64 ((j + 1 : Nat) : Int)) ∧ FS w s st bw bf bs A c L n9 [D1] (V.setCell ⟨Bk, 0, none⟩ (.int .i64 ((j : Int) + 1))) ∧ Wk.heap.size ≤ (V.setCell ⟨Bk, 0, none⟩ (.int .i64 ((j : Int) + 1))).heap.size)) := by
        intro V h1 h2 h3 h4
        have h5 := h2.setK hn9 hDs (.int .i64 ((j : Int) + 1))
        have h6 := h1.set (.int .i64 ((j : Int) + 1))
        rw [show ((j + 1 : Nat) : Int) = (j : Int) + 1 by omega]
        exact ⟨h4.trans ((KeepsOthers.setCell _ _ _).from _), (show _ = _ from h5.str).trans (show _ = _ from HFS2.out.str).symm, h6, h5, Nat.le_trans h3 (by simp)⟩
      have HRR := Aside0.mk hrr
      clear hrr
      gi_wp2
      · have HFj := Aside0.mk (HFS3.out.grow (below_alloc (Below.refl _ _) (.cells #[.int .i64 0] 3)))
        have hbj := Boxed.new W3 3 (.int .i64 0)
        have hbkj := HBK3.out.alloc (.cells #[.int .i64 0] 3)
        have hszj : (W3.alloc (.cells #[.int .i64 0] 3)).heap.size = W3.heap.size + 1 := by simp
        have hkj : KeepsFrom Wk.heap.size W2 (W3.alloc (.cells #[.int .i64 0] 3)) := (keeps_below HB3.out).trans ((KeepsOthers.alloc _ _).from _)
        obtain ⟨r0, hr0⟩ := HRR.out
        have hr1 : (W3.alloc (.cells #[.int .i64 0] 3)).heap[l]? = some (.loop r0) := (Below.heap_alloc _ _ _ (by have := (Array.getElem?_eq_some_iff.1 hr0).1; have := HB3.out.size; omega)).trans ((HB3.out.block _ (Array.getElem?_eq_some_iff.1 hr0).1).trans hr0)
        have hs3 : W2.heap.size ≤ W3.heap.size := HB3.out.size
        obtain ⟨Bj, hBj⟩ : ∃ b, W3.heap.size = b := ⟨_, rfl⟩
        have hn9j : n9 ≤ Bj := hBj ▸ HFS3.out.size
        have hBkj : Bk < Bj := hBj ▸ HBK3.out.lt
        have hDj : ∀ D ∈ [D1], D < Bj := fun D hD => Nat.lt_trans (hDs D hD) hBkj
        rw [hBj] at hbj hszj hs3 ⊢
        clear cf3 ck fk cst hBj
        obtain ⟨Wj, hWj⟩ : ∃ Wj, W3.alloc (.cells #[.int .i64 0] 3) = Wj := ⟨_, rfl⟩
        rw [hWj] at HFj hbj hbkj hszj hkj hr1 ⊢
        clear hWj
        refine wpIn_rangeV_in (by decide) (gf := 34) (lb := #[.pointer (some ⟨bs, 0, none⟩)]) rfl trivial (enters_of Try.func34 (by kernel_rfl) rfl) (SeqV.inRound l (scan_seq 2 (by decide) bs s HSZ.out Wj HFj.out.str.cell)) (fun h h' => h'.trans h) (fun W l o o' hl _ _ => World.putObj_heap_other (by omega)) (Below.refl _ _) (fun _ => rfl)
          (fun i V => Boxed V Bj 3 (.int .i64 (i : Int)) ∧ (Boxed V Bk 3 (.int .i64 (j : Int)) ∧ (FS w s st bw bf bs A c L n9 [D1] V ∧ (Wj.heap.size ≤ V.heap.size ∧ KeepsFrom Wk.heap.size W2 V))))
          (fun cd V => cd = .exit 4 ∧ (Boxed V Bk 3 (.int .i64 (j : Int)) ∧ (FS w s st bw bf bs A c L n9 [D1] V ∧ (Wj.heap.size ≤ V.heap.size ∧ KeepsFrom Wk.heap.size W2 V))))
          (fun i => Lasts.and (Lasts.boxed _ _ _ _) (Lasts.and (Lasts.boxed _ _ _ _) (Lasts.and (FS.lasts (by omega) (fun D hD => by have := hDj D hD; omega)) (Lasts.and (Lasts.size _ _) (Lasts.keeps (by omega))))))
          (fun cd => Lasts.and (Lasts.const _ _) (Lasts.and (Lasts.boxed _ _ _ _) (Lasts.and (FS.lasts (by omega) (fun D hD => by have := hDj D hD; omega)) (Lasts.and (Lasts.size _ _) (Lasts.keeps (by omega))))))
          ⟨hbj, hbkj, HFj.out, Nat.le_refl _, hkj⟩ ?round2 rfl hr1 ?done2 ?stop2
        case done2 =>
          rintro V ⟨hbj, hbk, hfs, hws, hkf⟩
          have ck := hbk.cell
          have fk := hbk.frozen
          have HE := Aside0.mk (FIN V hbk hfs (by omega) hkf)
          clear hbj hbk hfs hkf hkj hbkj
          gi_wp2
          exact HE.out
        case stop2 =>
          rintro cd V ⟨rfl, hbk, hfs, hws, hkf⟩
          have ck := hbk.cell
          have fk := hbk.frozen
          have HE := Aside0.mk (FIN V hbk hfs (by omega) hkf)
          clear hbk hfs hkf hkj hbkj
          gi_wp2
          exact HE.out
        case round2 =>
          rintro l2 i ⟨p2, F⟩ V hl2 ⟨hbj, hbk, hfs, hws, hkf⟩ hx hi
          simp only [plEnc, frEnc]
          have hiL : i < L.length := by rw [← HNL.out]; exact hi
          have hrW : rd_T43 L (i : Int) = ⟨(p2 : Int), F⟩ := by rw [HLE.out]; exact rd_want s i p2 F hx
          clear hbkj hkj
          gi_wp2
          refine ⟨(KeepsOthers.alloc _ _).from _, Below.heap_alloc _ _ _ (by omega), fun V2 hrr hT => ?_⟩
          have hbj2 := hT _ (Lasts.boxed _ _ _ _) (hbj.alloc _)
          have hbk2 := hT _ (Lasts.boxed _ _ _ _) (hbk.alloc _)
          have hfs2 := hT _ (FS.lasts (Ds := [D1]) (by omega) (fun D hD => by have := hDj D hD; omega)) (hfs.grow (below_alloc (Below.refl _ _) _))
          have hbf := hT _ Lasts.block (blk_new V _)
          have hs2 : Wj.heap.size ≤ V2.heap.size := hT _ (Lasts.size _ _) (by rw [World.size_alloc]; omega)
          have hkf2 := hT _ (Lasts.keeps (B := Wk.heap.size) (X := W2) (by omega)) (hkf.trans ((KeepsOthers.alloc _ _).from _))
          obtain ⟨ad, eA, y0, y1, y2, y3, y4⟩ := at_T43 (Kd.R_reads' hfs2.row).2.2 (i : Int) (by omega) (by omega)
          rw [hrW] at y0 y1 y2 y3 y4
          simp only [Int.toNat_natCast] at y0 y1 y2 y3 y4
          have k0 := cell_regrown hbj2.cell
          have k1 := cell_regrown hfs2.want.cell
          have z0 := cell_regrown y0
          have z1 := cell_regrown y1
          have z2 := cell_regrown y2
          have z3 := cell_regrown y3
          have z4 := cell_regrown y4
          have f0 := cell_regrown ((blk_cell hbf 0).trans rfl)
          have f1 := cell_regrown ((blk_cell hbf 1).trans rfl)
          have f2 := cell_regrown ((blk_cell hbf 2).trans rfl)
          have f3 := cell_regrown ((blk_cell hbf 3).trans rfl)
          have cS : ∀ d os, CallsIn ((Fence.wide.inRound l).inRound l2) (5 - 1 - 1 - 1 - 1 - 1) Try.prog 19 #[.agg #[.int .u8 F.f0, .int .u8 F.f1, .bool F.f2, .string F.f3], .agg #[.int .u8 F.f0, .int .u8 F.f1, .bool F.f2, .string F.f3]] (Go.Sort.grow (redrawn V2 d) os) fun e w'' => e = .returned (.bool true) ∧ ∃ p : Regrown, w'' = Go.Sort.grow (redrawn V2 p.d) p.os := fun d os => CallsIn.regrown_of (callsIn_wide.2 (foghornref25_Same.calls F.f0 F.f1 F.f2 F.f3 F.f0 F.f1 F.f2 F.f3 true _ (rsame_selfS F)))
          have g1 : (i : Int) < (L.length : Int) := by omega
          have g4 : ¬ ((i : Int) = (L.length : Int)) := by omega
          have g5 : ¬ (i = L.length) := by omega
          have kW := cell_regrown (show V2.cell? ⟨bw, 0, none⟩ = some (.slice (some ad) L.length c) from eA ▸ hfs2.want.cell)
          have HFV2 := Aside0.mk hfs2
          have HBJ2 := Aside0.mk hbj2
          have HBV2 := Aside0.mk hbk2
          have HKF2 := Aside0.mk hkf2
          have HEA2 := Aside0.mk eA
          clear k1 hfs2 hbk2 hbj2 hbf hx hrW y0 y1 y2 y3 y4 hT hbk hbj hfs eA hkf hkf2 hrr
          gi_wp2
          refine wpIn_below_round (by kernel_rfl) (by kernel_rfl) (by kernel_rfl) ?_
          repeat (refine wpQuietIn_step (fun _ _ _ _ => trivial) (fun K hK => ?_); go_simp; first | (refine hK _ ?_; clear hK K) | (apply Exists.intro; refine ⟨fun _ => ?_, hK _ ?_⟩; (first | exact cS _ _ | exact ⟨fun h => (by cases h), cS _ _⟩); clear hK K))
          refine wpQuietIn_nil ?_
          intro _ hw'
          obtain ⟨⟨dq, osq⟩, hw''⟩ := hw'
          subst hw''
          have HC3 := Aside0.mk (below_regrown V2 dq osq)
          obtain ⟨V3, hV3⟩ : ∃ V3, Go.Sort.grow (redrawn V2 dq) osq = V3 := ⟨_, rfl⟩
          rw [hV3] at HC3 ⊢
          have HFV3 := Aside0.mk (HFV2.out.grow HC3.out)
          have hbj3 : Boxed V3 Bj 3 (.int .i64 (i : Int)) := (HC3.out.block _ HBJ2.out.lt).trans HBJ2.out
          have HBV3 : Aside0 (Boxed V3 Bk 3 (.int .i64 (j : Int))) := ⟨(HC3.out.block _ HBV2.out.lt).trans HBV2.out⟩
          have cj := hbj3.cell
          have fj := hbj3.frozen
          have HV4 := Aside0.mk (HFV3.out.setK hn9j hDj (.int .i64 ((i : Int) + 1)))
          have HJ4 := Aside0.mk (hbj3.set (.int .i64 ((i : Int) + 1)))
          have HK4 := Aside0.mk (HBV3.out.other (show Bk ≠ Bj by omega) (.int .i64 ((i : Int) + 1)))
          have HQ4 : Aside0 (KeepsFrom Wk.heap.size W2 (V3.setCell ⟨Bj, 0, none⟩ (.int .i64 ((i : Int) + 1)))) := ⟨(HKF2.out.trans (keeps_below HC3.out)).trans ((KeepsOthers.setCell _ _ _).from _)⟩
          have HQ5 : Aside0 (KeepsFrom Wj.heap.size V2 (V3.setCell ⟨Bj, 0, none⟩ (.int .i64 ((i : Int) + 1)))) := ⟨(keeps_below HC3.out).trans ((KeepsOthers.setCell _ _ _).from _)⟩
          have HZ4 : Aside0 (Wj.heap.size ≤ (V3.setCell ⟨Bj, 0, none⟩ (.int .i64 ((i : Int) + 1))).heap.size) := ⟨Nat.le_trans hs2 (Nat.le_trans HC3.out.size (by simp))⟩
          have cst4 := HV4.out.st.cell
          have cj4 := HJ4.out.cell
          clear k0 kW z0 z1 z2 z3 z4 f0 f1 f2 f3 hbj3 hV3 cS
          gi_wp2
          · exact ⟨HQ5.out, rfl, HK4.out, HV4.out, HZ4.out, HQ4.out⟩
          · refine ⟨HQ5.out, (show _ = _ from HV4.out.str).trans (show _ = _ from HFV2.out.str).symm, ?_, HK4.out, HV4.out, HZ4.out, HQ4.out⟩
            rw [show ((i + 1 : Nat) : Int) = (i : Int) + 1 by omega]
            exact HJ4.out
      · exact FIN W3 HBK3.out HFS3.out (Nat.le_trans hs2 HB3.out.size) (keeps_below HB3.out)
    case done =>
      rintro D2 W hD ⟨hbk, hfs, hws⟩ hK
      rw [HNL.out] at hbk
      have c1 := hbk.cell
      have c2 := hfs.want.cell
      have HFSD := Aside0.mk hfs
      have HKD := Aside0.mk hK
      clear hbk hfs hK
      go_wp2
      have r1 := HFSD.out.res.cell
      have r2 := HFSD.out.res.frozen
      rw [rounds_succ]
      go_wp2
      have hK2 := (KeepsOthers.setCell W ⟨w.heap.size + 1, 0, none⟩ (.bool true)).same D2 _ HKD.out rfl
      have hD12 : D1 < Bk := hDs D1 (by simp)
      have hK1 : ((W.setCell ⟨w.heap.size + 1, 0, none⟩ (.bool true)).putObj D2 (.deferred none)).heap[D1]? = some (.deferred (some [])) := (World.putObj_heap_other (by omega)).trans ((KeepsOthers.setCell W ⟨w.heap.size + 1, 0, none⟩ (.bool true)).same D1 _ (HFSD.out.ds D1 (by simp)) rfl)
      refine ⟨by simp, .inl ⟨_, _, rfl, run_takeDeferred hK2, ?_⟩⟩
      refine ⟨by simp, .inl ⟨_, _, rfl, run_takeDeferred hK1, ?_⟩⟩
      have hd1 : n9 ≤ D1 := hD1n
      have c5 : (((W.setCell ⟨w.heap.size + 1, 0, none⟩ (.bool true)).putObj D2 (.deferred none)).putObj D1 (.deferred none)).cell? ⟨w.heap.size + 1, 0, none⟩ = some (.bool true) := (World.cell?_of_block (a := ⟨w.heap.size + 1, 0, none⟩) ((World.putObj_heap_other (by show w.heap.size + 1 ≠ D1; omega)).trans (World.putObj_heap_other (by show w.heap.size + 1 ≠ D2; omega)))).trans (HFSD.out.res.set (.bool true)).cell
      refine ⟨_, results_bool rfl Try.underlying4 _ _ _ true rfl c5, rfl, ?_⟩
      exact ((HFSD.out.bel.setCell (p := ⟨w.heap.size + 1, 0, none⟩) (by show w.heap.size ≤ w.heap.size + 1; omega) _).trans (belowK_b (w := w) (Nat.le_refl _) _ D2 _ _ (by omega) hK2 rfl rfl)).trans (belowK_b (w := w) (Nat.le_refl _) _ D1 _ _ (by omega) hK1 rfl rfl)
  

end Go.Proofs.Ytclhkbjcemgmnaa.Pure
