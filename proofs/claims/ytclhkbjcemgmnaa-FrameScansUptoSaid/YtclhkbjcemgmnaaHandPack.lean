-- FOREIGN foghorn/frame.Pack making plain
-- ALSO foghorn/sums.Bytes16
-- ALSO foghorn/sums.Bytes32
-- ALSO foghorn/frame.may
import Derived.Test.YtclhkbjcemgmnaaFogx0
import Derived.Test.YtclhkbjcemgmnaaFogx1
import Derived.Test.YtclhkbjcemgmnaaFogx2
import Derived.Test.YtclhkbjcemgmnaaFogx3
namespace Go.Proofs.Ytclhkbjcemgmnaa.Fog
open Go.RowKit Go.Proofs.YtclhkbjcemgmnaaW.PrintWords Go.Proofs.YtclhkbjcemgmnaaW.PrintLast Go.Proofs.YtclhkbjcemgmnaaW.PrintMore
set_option linter.unusedVariables false
set_option linter.unusedSimpArgs false
theorem conv_cells {P : Program} {src dst e t : TypeId} (hs : P.underlying src = some (.slice e)) (he : P.underlying e = some (.int .u8)) (hd : P.underlying dst = some .string)
    (W : World) (g : Nat) (cs : Array Value) (hg : W.heap[g]? = some (.cells cs t (0, 0))) (n cap : Nat) (xs : List Int) (hl : xs.length = n) (hc : ∀ i, i < n → cs[i]? = some (.int .u8 (xs.getD i 0))) :
    (convert src dst (.slice (some ⟨g, 0, none⟩) n cap)).run P W = .ok (.string (strOfNums xs)) W := by
  refine run_convert_bytes_arg W src e hs he g 0 n cap xs hl (fun i hi => ?_) dst hd
  rw [Nat.zero_add, blk_cell hg, hc i hi]
theorem five {W : World} {g : Nat} {t : TypeId} {a0 a1 a2 a3 a4 : Value} (hg : W.heap[g]? = some (.cells #[a0, a1, a2, a3, a4] t (0, 0))) (v0 v1 v2 v3 v4 : Value) :
    (((((W.setCell ⟨g, 0, none⟩ v0).setCell ⟨g, 1, none⟩ v1).setCell ⟨g, 2, none⟩ v2).setCell ⟨g, 3, none⟩ v3).setCell ⟨g, 4, none⟩ v4).heap[g]? = some (.cells #[v0, v1, v2, v3, v4] t (0, 0)) :=
  heap_setCell_same _ g 4 _ t v4 (heap_setCell_same _ g 3 _ t v3 (heap_setCell_same _ g 2 _ t v2 (heap_setCell_same _ g 1 _ t v1 (heap_setCell_same _ g 0 _ t v0 hg))))
/-- A head's first byte. -/
def head0 (a0 : Int) (m : Bool) : Int := if m then Go.bits .or .u8 (a0 * 16 % 256) 1 else a0 * 16 % 256
set_option maxHeartbeats 1000000 in
set_option maxRecDepth 100000 in
theorem head_calls (a0 a1 : Int) (m : Bool) (s : ByteArray) (x : Int) (w : World) (hx : sums_Bytes16.f (strOfNums [head0 a0 m, a1, (s.size : Int) % 256]) = some x) :
    Calls Try.prog 30 #[.agg #[.int .u8 a0, .int .u8 a1, .bool m, .string s]] w fun e w' =>
      e = .returned (.agg #[.int .u8 (head0 a0 m), .int .u8 a1, .int .u8 ((s.size : Int) % 256), .int .u8 (x / 256 % 256), .int .u8 (x % 256)]) ∧ Below w.heap.size w w' := by
  have HX := Aside0.mk hx
  clear hx
  have kc : ∀ (c d : Array Value) (h0 h1 h2 h3 h4 : Int), (convert 46 9 (.slice (some ⟨w.heap.size + 1 + 1, 0, none⟩) 3 5)).run Try.prog (((w.alloc (.cells c 30)).alloc (.cells d 64)).alloc (.cells #[.int .u8 h0, .int .u8 h1, .int .u8 h2, .int .u8 h3, .int .u8 h4] 64)) = .ok (.string (strOfNums [h0, h1, h2])) (((w.alloc (.cells c 30)).alloc (.cells d 64)).alloc (.cells #[.int .u8 h0, .int .u8 h1, .int .u8 h2, .int .u8 h3, .int .u8 h4] 64)) := by
    intro c d h0 h1 h2 h3 h4
    refine conv_cells (t := 64) Try.underlying46 Try.underlying5 Try.underlying9 _ _ #[.int .u8 h0, .int .u8 h1, .int .u8 h2, .int .u8 h3, .int .u8 h4] ?_ 3 5 [h0, h1, h2] rfl ?_
    · have := blk_new ((w.alloc (.cells c 30)).alloc (.cells d 64)) (.cells #[.int .u8 h0, .int .u8 h1, .int .u8 h2, .int .u8 h3, .int .u8 h4] 64)
      simpa using this
    · intro i hi
      match i, hi with
      | 0, _ => rfl
      | 1, _ => rfl
      | 2, _ => rfl
  have fin : ∀ (h0 : Int) (cs : Array Value) (w1 : World), Below ((((w.alloc (.cells cs 30)).alloc (.cells #[.int .u8 0, .int .u8 0, .int .u8 0, .int .u8 0, .int .u8 0] 64)).alloc (.cells #[.int .u8 h0, .int .u8 a1, .int .u8 ((s.size : Int) % 256), .int .u8 0, .int .u8 0] 64)).heap.size) (((w.alloc (.cells cs 30)).alloc (.cells #[.int .u8 0, .int .u8 0, .int .u8 0, .int .u8 0, .int .u8 0] 64)).alloc (.cells #[.int .u8 h0, .int .u8 a1, .int .u8 ((s.size : Int) % 256), .int .u8 0, .int .u8 0] 64)) w1 →
      Below w.heap.size w w1 ∧ w1.heap[w.heap.size + 1]? = some (.cells #[.int .u8 0, .int .u8 0, .int .u8 0, .int .u8 0, .int .u8 0] 64 (0, 0)) ∧ w1.heap[w.heap.size + 1 + 1]? = some (.cells #[.int .u8 h0, .int .u8 a1, .int .u8 ((s.size : Int) % 256), .int .u8 0, .int .u8 0] 64 (0, 0)) := by
    intro h0 cs w1 hb
    refine ⟨below_step (below_alloc (below_alloc (below_alloc (Below.refl _ _) _) _) _) hb, blk_below ?_ hb, blk_below ?_ hb⟩
    · rw [heap_alloc_old _ _ (show w.heap.size + 1 < _ by simp)]
      have := blk_new (w.alloc (.cells cs 30)) (.cells #[.int .u8 0, .int .u8 0, .int .u8 0, .int .u8 0, .int .u8 0] 64)
      simpa using this
    · have := blk_new ((w.alloc (.cells cs 30)).alloc (.cells #[.int .u8 0, .int .u8 0, .int .u8 0, .int .u8 0, .int .u8 0] 64)) (.cells #[.int .u8 h0, .int .u8 a1, .int .u8 ((s.size : Int) % 256), .int .u8 0, .int .u8 0] 64)
      simpa using this
  have FIN := Aside0.mk fin
  clear fin
  cases m with
  | false =>
    have HX1 := Aside0.mk (show sums_Bytes16.f (strOfNums [a0 * 16 % 256, a1, (s.size : Int) % 256]) = some x from HX.out)
    clear HX
    go_enter Try.func30, Try.ntmps30
    go_wp2_with (go_at_call 36; (with_reducible refine (sums_Bytes16.calls _ x _ HX1.out).mono ?_); rintro e w1 ⟨rfl, hb⟩; obtain ⟨hB, hr, hh⟩ := FIN.out _ _ w1 hb; clear hb kc FIN; have HB1 := Aside0.mk hB; have HR1 := Aside0.mk hr; have HH1 := Aside0.mk hh; have hc0 := (blk_cell hh 0).trans rfl; have hc1 := (blk_cell hh 1).trans rfl; have hc2 := (blk_cell hh 2).trans rfl; have hc3 := (blk_cell hh 3).trans rfl; have hc4 := (blk_cell hh 4).trans rfl; have hf0 := blk_frozen hh 0; have hf1 := blk_frozen hh 1; have hf2 := blk_frozen hh 2; have hf3 := blk_frozen hh 3; have hf4 := blk_frozen hh 4; have hg0 := (blk_cell hr 0).trans rfl; have hg1 := (blk_cell hr 1).trans rfl; have hg2 := (blk_cell hr 2).trans rfl; have hg3 := (blk_cell hr 3).trans rfl; have hg4 := (blk_cell hr 4).trans rfl; have hk0 := blk_frozen hr 0; have hk1 := blk_frozen hr 1; have hk2 := blk_frozen hr 2; have hk3 := blk_frozen hr 3; have hk4 := blk_frozen hr 4; clear hB hr hh)
    refine bodyPost_ret (v := .agg #[.int .u8 (a0 * 16 % 256), .int .u8 a1, .int .u8 ((s.size : Int) % 256), .int .u8 (x / 256 % 256), .int .u8 (x % 256)]) ?hr rfl ⟨rfl, ?_⟩
    · refine results_cell_row (p := 2) (ty := 64) rfl _ _ (w.heap.size + 1) 64 #[.int .u8 (a0 * 16 % 256), .int .u8 a1, .int .u8 ((s.size : Int) % 256), .int .u8 (x / 256 % 256), .int .u8 (x % 256)] (0, 0) _ rfl ?_ Try.underlying64 rfl (by kernel_rfl)
      refine five (a0 := .int .u8 0) (a1 := .int .u8 0) (a2 := .int .u8 0) (a3 := .int .u8 0) (a4 := .int .u8 0) ?_ _ _ _ _ _
      rw [heap_setCell_other _ _ _ _ (by simp), heap_setCell_other _ _ _ _ (by simp)]
      exact HR1.out
    · exact (((((((HB1.out.setCell (by simp; omega) _).setCell (by simp; omega) _).setCell (by simp) _).setCell (by simp) _).setCell (by simp) _).setCell (by simp) _).setCell (by simp) _)
  | true =>
    have HX1 := Aside0.mk (show sums_Bytes16.f (strOfNums [Go.bits .or .u8 (a0 * 16 % 256) 1, a1, (s.size : Int) % 256]) = some x from HX.out)
    clear HX
    go_enter Try.func30, Try.ntmps30
    go_wp2_with (go_at_call 36; (with_reducible refine (sums_Bytes16.calls _ x _ HX1.out).mono ?_); rintro e w1 ⟨rfl, hb⟩; obtain ⟨hB, hr, hh⟩ := FIN.out _ _ w1 hb; clear hb kc FIN; have HB1 := Aside0.mk hB; have HR1 := Aside0.mk hr; have HH1 := Aside0.mk hh; have hc0 := (blk_cell hh 0).trans rfl; have hc1 := (blk_cell hh 1).trans rfl; have hc2 := (blk_cell hh 2).trans rfl; have hc3 := (blk_cell hh 3).trans rfl; have hc4 := (blk_cell hh 4).trans rfl; have hf0 := blk_frozen hh 0; have hf1 := blk_frozen hh 1; have hf2 := blk_frozen hh 2; have hf3 := blk_frozen hh 3; have hf4 := blk_frozen hh 4; have hg0 := (blk_cell hr 0).trans rfl; have hg1 := (blk_cell hr 1).trans rfl; have hg2 := (blk_cell hr 2).trans rfl; have hg3 := (blk_cell hr 3).trans rfl; have hg4 := (blk_cell hr 4).trans rfl; have hk0 := blk_frozen hr 0; have hk1 := blk_frozen hr 1; have hk2 := blk_frozen hr 2; have hk3 := blk_frozen hr 3; have hk4 := blk_frozen hr 4; clear hB hr hh)
    refine bodyPost_ret (v := .agg #[.int .u8 (Go.bits .or .u8 (a0 * 16 % 256) 1), .int .u8 a1, .int .u8 ((s.size : Int) % 256), .int .u8 (x / 256 % 256), .int .u8 (x % 256)]) ?hrB rfl ⟨rfl, ?_⟩
    · refine results_cell_row (p := 2) (ty := 64) rfl _ _ (w.heap.size + 1) 64 #[.int .u8 (Go.bits .or .u8 (a0 * 16 % 256) 1), .int .u8 a1, .int .u8 ((s.size : Int) % 256), .int .u8 (x / 256 % 256), .int .u8 (x % 256)] (0, 0) _ rfl ?_ Try.underlying64 rfl (by kernel_rfl)
      refine five (a0 := .int .u8 0) (a1 := .int .u8 0) (a2 := .int .u8 0) (a3 := .int .u8 0) (a4 := .int .u8 0) ?_ _ _ _ _ _
      rw [heap_setCell_other _ _ _ _ (by simp), heap_setCell_other _ _ _ _ (by simp)]
      exact HR1.out
    · exact (((((((HB1.out.setCell (by simp; omega) _).setCell (by simp; omega) _).setCell (by simp) _).setCell (by simp) _).setCell (by simp) _).setCell (by simp) _).setCell (by simp) _)
def frame_Pack.f (a0_0 : Int) (a0_1 : Int) (a0_2 : Bool) (a0_3 : ByteArray) : Option (ByteArray × Int) :=
  (frame_may.f a0_0 a0_1 a0_2 a0_3).bind fun m => if m = true then ((sums_Bytes16.f (strOfNums [head0 a0_0 a0_2, a0_1, (a0_3.size : Int) % 256])).bind fun x => (sums_Bytes32.f a0_3).bind fun y =>
    if a0_3.size ≤ 140737488355328 then some (strOfNums [head0 a0_0 a0_2, a0_1, (a0_3.size : Int) % 256, x / 256 % 256, x % 256] ++ a0_3 ++ strOfNums [y / 16777216 % 256, y / 65536 % 256, y / 256 % 256, y % 256], 0) else none) else some (⟨#[]⟩, 1)
set_option maxHeartbeats 2000000 in
set_option maxRecDepth 100000 in
theorem frame_Pack.calls (a0_0 : Int) (a0_1 : Int) (a0_2 : Bool) (a0_3 : ByteArray) (r1 : ByteArray) (r2 : Int) (w : World) (h : frame_Pack.f a0_0 a0_1 a0_2 a0_3 = some (r1, r2)) :
    Calls Try.prog 15 #[.agg #[.int .u8 a0_0, .int .u8 a0_1, .bool a0_2, .string a0_3]] w fun e w' => e = .returned (.tuple #[.string r1, .int .i64 r2]) ∧ Below w.heap.size w w' := by
  unfold frame_Pack.f at h
  replace h := Option.bind_eq_some_iff.mp h
  obtain ⟨m, hm, h⟩ := h
  have HM := Aside0.mk hm
  clear hm
  have f0 : ∀ w1, Below (w.alloc (.cells #[.int .u8 a0_0, .int .u8 a0_1, .bool a0_2, .string a0_3] 30)).heap.size (w.alloc (.cells #[.int .u8 a0_0, .int .u8 a0_1, .bool a0_2, .string a0_3] 30)) w1 → Below w.heap.size w w1 ∧ w1.heap[w.heap.size]? = some (.cells #[.int .u8 a0_0, .int .u8 a0_1, .bool a0_2, .string a0_3] 30 (0, 0)) :=
    fun w1 hb => ⟨below_step (below_alloc (Below.refl _ _) _) hb, blk_below (blk_new w _) hb⟩
  have F0 := Aside0.mk f0
  clear f0
  cases m with
  | false =>
    rw [if_neg (by decide)] at h
    have H := Aside0.mk h
    clear h
    go_enter Try.func15, Try.ntmps15
    go_wp2_with (go_at_call 25; (with_reducible refine (frame_may.calls _ _ _ _ _ _ HM.out).mono ?_); rintro e w1 ⟨rfl, hb⟩; obtain ⟨hB, hf⟩ := F0.out w1 hb; clear hb F0; have HB1 := Aside0.mk hB; clear hB hf)
    go_ret2
    have h := H.out
    simp only [Option.some.injEq, Prod.mk.injEq] at h
    obtain ⟨rfl, rfl⟩ := h
    exact ⟨rfl, HB1.out⟩
  | true =>
    rw [if_pos rfl] at h
    replace h := Option.bind_eq_some_iff.mp h
    obtain ⟨x, hx, h⟩ := h
    replace h := Option.bind_eq_some_iff.mp h
    obtain ⟨y, hy, h⟩ := h
    have hs : a0_3.size ≤ 140737488355328 := by
      rcases Decidable.em (a0_3.size ≤ 140737488355328) with hs | hs
      · exact hs
      · rw [if_neg hs] at h; cases h
    rw [if_pos hs] at h
    have HX := Aside0.mk hx
    have HY := Aside0.mk hy
    have H := Aside0.mk h
    clear hx hy h
    have h := H.out
    simp only [Option.some.injEq, Prod.mk.injEq] at h
    obtain ⟨rfl, rfl⟩ := h
    clear H
    go_enter Try.func15, Try.ntmps15
    go_wp2_with (first
      | (go_at_call 25; (with_reducible refine (frame_may.calls _ _ _ _ _ _ HM.out).mono ?_); rintro e w1 ⟨rfl, hb⟩; obtain ⟨hB, hf⟩ := F0.out w1 hb; clear hb F0; have HB1 := Aside0.mk hB; have HF1 := Aside0.mk hf; have hc0 := (blk_cell hf 0).trans rfl; have hc1 := (blk_cell hf 1).trans rfl; have hc2 := (blk_cell hf 2).trans rfl; have hc3 := (blk_cell hf 3).trans rfl; clear hB hf)
      | (go_at_call 30; (with_reducible refine (head_calls _ _ _ _ _ _ HX.out).mono ?_); rintro e w2 ⟨rfl, hb⟩; have HB2 := Aside0.mk (below_step HB1.out hb); have HF2 := Aside0.mk (blk_below HF1.out hb); clear hb hc0 hc1 hc2 hc3; have hc3 := (blk_cell HF2.out 3).trans rfl; have hlt2 : w.heap.size < w2.heap.size := blk_lt HF2.out)
      | (go_at_call 31; (with_reducible refine (sums_Bytes32.calls _ _ _ HY.out).mono ?_); rintro e w3 ⟨rfl, hb⟩; have HA3 := Aside0.mk (blk_below (blk_new w2 _) hb); have HF3 := Aside0.mk (blk_below ((heap_alloc_old _ _ hlt2).trans HF2.out) hb); have HB3 := Aside0.mk (below_step (below_alloc HB2.out _) hb); clear hb hc3 hlt2; have hc3 := (blk_cell HF3.out 3).trans rfl; have kc := fun n => conv_cells Try.underlying46 Try.underlying5 Try.underlying9 (w3.drewN n) w2.heap.size _ HA3.out 5 5 [head0 a0_0 a0_2, a0_1, (a0_3.size : Int) % 256, x / 256 % 256, x % 256] rfl (fun i hi => match i, hi with | 0, _ => rfl | 1, _ => rfl | 2, _ => rfl | 3, _ => rfl | 4, _ => rfl)))
    have ka : ∀ (o : Obj), (convert 46 9 (.slice (some ⟨w2.heap.size, 0, none⟩) 5 5)).run Try.prog (w3.alloc o).drew = .ok (.string (strOfNums [head0 a0_0 a0_2, a0_1, (a0_3.size : Int) % 256, x / 256 % 256, x % 256])) (w3.alloc o).drew := fun o => conv_cells Try.underlying46 Try.underlying5 Try.underlying9 (w3.alloc o).drew w2.heap.size _ ((heap_alloc_old _ _ (blk_lt HA3.out)).trans HA3.out) 5 5 [head0 a0_0 a0_2, a0_1, (a0_3.size : Int) % 256, x / 256 % 256, x % 256] rfl (fun i hi => match i, hi with | 0, _ => rfl | 1, _ => rfl | 2, _ => rfl | 3, _ => rfl | 4, _ => rfl)
    have kb : (convert 46 9 (.slice (some ⟨w2.heap.size, 0, none⟩) 5 5)).run Try.prog w3.drew = .ok (.string (strOfNums [head0 a0_0 a0_2, a0_1, (a0_3.size : Int) % 256, x / 256 % 256, x % 256])) w3.drew := conv_cells Try.underlying46 Try.underlying5 Try.underlying9 w3.drew w2.heap.size _ HA3.out 5 5 [head0 a0_0 a0_2, a0_1, (a0_3.size : Int) % 256, x / 256 % 256, x % 256] rfl (fun i hi => match i, hi with | 0, _ => rfl | 1, _ => rfl | 2, _ => rfl | 3, _ => rfl | 4, _ => rfl)
    have kd : ∀ (p q r s : Int), (convert 46 9 (.slice (some ⟨w3.heap.size, 0, none⟩) 4 4)).run Try.prog (w3.alloc (.cells #[.int .u8 p, .int .u8 q, .int .u8 r, .int .u8 s] 5)).drew = .ok (.string (strOfNums [p, q, r, s])) (w3.alloc (.cells #[.int .u8 p, .int .u8 q, .int .u8 r, .int .u8 s] 5)).drew := fun p q r s => conv_cells Try.underlying46 Try.underlying5 Try.underlying9 _ w3.heap.size _ (show (w3.alloc (.cells #[.int .u8 p, .int .u8 q, .int .u8 r, .int .u8 s] 5)).drew.heap[w3.heap.size]? = _ from blk_new w3 _) 4 4 [p, q, r, s] rfl (fun i hi => match i, hi with | 0, _ => rfl | 1, _ => rfl | 2, _ => rfl | 3, _ => rfl)
    clear kc
    have hlt3 : w.heap.size < w3.heap.size := blk_lt HF3.out
    have hs1 : (strOfNums [head0 a0_0 a0_2, a0_1, (a0_3.size : Int) % 256, x / 256 % 256, x % 256]).size = 5 := rfl
    have hs2 : (strOfNums [y / 16777216 % 256, y / 65536 % 256, y / 256 % 256, y % 256]).size = 4 := rfl
    go_region_with (fail)
    all_goals (go_wp2_with (fail); go_ret2; exact ⟨rfl, by repeat (first | exact HB3.out | apply below_drew | apply below_alloc)⟩)
end Go.Proofs.Ytclhkbjcemgmnaa.Fog
