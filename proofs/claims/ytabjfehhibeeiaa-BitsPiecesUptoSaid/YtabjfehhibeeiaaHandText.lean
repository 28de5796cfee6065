-- FOREIGN foghorn/bits.Text plain
import Derived.Test.YtabjfehhibeeiaaFogx0
import Derived.Lib.Builder
import Derived.Lib.AppendStr
import Derived.Maps.AppendAt
import Derived.Laws.Externs
import Derived.Test.YtabjfehhibeeiaaShelf
namespace Go.Proofs.Ytabjfehhibeeiaa.Fog
open Go.RowKit Go.Proofs.YtabjfehhibeeiaaW.PrintWords Go.Proofs.YtabjfehhibeeiaaW.PrintLast Go.Proofs.YtabjfehhibeeiaaW.PrintMore
set_option linter.unusedVariables false
set_option linter.unusedSimpArgs false
theorem builder_size : (Try.prog.info? 69).map (·.size) = some 2 := by kernel_rfl
theorem builder_lies : liesAt Try.prog Try.prog.depth 69 (2 / Try.prog.cellsOf 69) 0 69 1 = true := by kernel_rfl
set_option maxHeartbeats 1000000 in
set_option maxRecDepth 100000 in
theorem check_used (b : Nat) (w : World) (h0 : w.cell? ⟨b, 0, none⟩ = some (.pointer (some ⟨b, 0, none⟩))) :
    Calls Try.prog 53 #[.pointer (some ⟨b, 0, none⟩)] w fun e w' => e = .returned (.tuple #[]) ∧ w' = w := by
  obtain ⟨j, hj, _⟩ := Option.map_eq_some_iff.1 builder_size
  go_enter Try.func53, Try.ntmps53
  go_wp2
  rw [Lib.run_neq_ptr_same w _ Try.underlying66 hj]
  go_wp2
  go_end0
  exact ⟨rfl, rfl⟩
set_option maxHeartbeats 1000000 in
set_option maxRecDepth 100000 in
theorem check_fresh (b : Nat) (w : World) (h0 : w.cell? ⟨b, 0, none⟩ = some (.pointer none)) (hsh : w.shape? b = some (69, 2)) (hfz : w.frozen? ⟨b, 0, none⟩ = false) :
    Calls Try.prog 53 #[.pointer (some ⟨b, 0, none⟩)] w fun e w' => e = .returned (.tuple #[]) ∧ w' = w.setCell ⟨b, 0, none⟩ (.pointer (some ⟨b, 0, none⟩)) := by
  obtain ⟨j, hj, hjs⟩ := Option.map_eq_some_iff.1 builder_size
  go_enter Try.func53, Try.ntmps53
  go_wp2
  rw [Lib.run_to_unsafe w ⟨b, 0, none⟩ Try.underlying66 Try.underlying79 hj (by rw [hjs]; decide) hsh (Nat.zero_lt_succ 1)]
  simp only [Result.andThen]
  rw [Oper.upon_value]
  go_wp2
  rw [run_callFunc_extern Try.func55 (by kernel_rfl) (by kernel_rfl) (by kernel_rfl) (e := Extern.AbiNoEscape.same) (by kernel_rfl)]
  rw [Lib.run_noEscape]
  simp only [Result.andThen]
  rw [Oper.upon_value]
  go_wp2
  rw [Lib.run_from_unsafe w ⟨b, 0, none⟩ Try.underlying79 Try.underlying66 hj hsh builder_lies]
  simp only [Result.andThen]
  rw [Oper.upon_value]
  go_wp2
  go_end0
  exact ⟨rfl, rfl⟩
theorem check_calls (B b : Nat) (bs : List Value) (w : World) (h : Lib.IsBuilder 69 5 B b bs w) :
    Calls Try.prog 53 #[.pointer (some ⟨b, 0, none⟩)] w fun e w' => e = .returned (.tuple #[]) ∧ (Lib.BuilderAt 69 5 B b (.pointer (some ⟨b, 0, none⟩)) bs w' ∧ Below B w w') := by
  rcases h with h | h
  · refine (check_fresh b w h.cell0 h.shape h.frozen0).mono ?_
    rintro e w' ⟨rfl, rfl⟩
    exact ⟨rfl, h.used _, (Below.refl B w).setCell (p := ⟨b, 0, none⟩) h.1 _⟩
  · refine (check_used b w h.cell0).mono ?_
    rintro e w' ⟨rfl, rfl⟩
    exact ⟨rfl, h, Below.refl B _⟩
theorem builderAt_below {T e B b : Nat} {p : Value} {bs : List Value} {w w' : World} (h : Lib.BuilderAt T e B b p bs w) (hb : Below w.heap.size w w') : Lib.BuilderAt T e B b p bs w' := by
  obtain ⟨hB, v, hk, ho, hne⟩ := h
  exact ⟨hB, v, blk_below hk hb, own_move ho (fun k hk => hb.block k (own_lt ho k hk)), hne⟩
theorem isBuilder_below {T e B b : Nat} {bs : List Value} {w w' : World} (h : Lib.IsBuilder T e B b bs w) (hb : Below w.heap.size w w') : Lib.IsBuilder T e B b bs w' := by
  rcases h with h | h
  · exact .inl (builderAt_below h hb)
  · exact .inr (builderAt_below h hb)
set_option maxHeartbeats 2000000 in
set_option maxRecDepth 100000 in
theorem writeByte_calls (B b : Nat) (bs : List Value) (c : Int) (hc0 : 0 ≤ c) (hc1 : c < 256) (w : World) (h : Lib.IsBuilder 69 5 B b bs w) (hlen : bs.length + 1 ≤ 140737488355328) (hBw : B ≤ w.heap.size) :
    Calls Try.prog 50 #[.pointer (some ⟨b, 0, none⟩), .int .u8 c] w fun e w' => (∃ v, e = .returned v) ∧ Lib.IsBuilder 69 5 B b (bs ++ [.int .u8 c]) w' ∧ Below B w w' := by
  obtain ⟨i0, hi, hz0, hz1, hz2⟩ := info_parts info5
  go_enter Try.func50, Try.ntmps50
  go_wp2_with (go_at_call 53; refine (check_calls B b bs _ h).mono ?_)
  rintro e w1 ⟨rfl, h1, hb1⟩
  obtain ⟨hB, v, hbk, hown, hne⟩ := h1
  have c0 : w1.cell? ⟨b, 0, none⟩ = some (.pointer (some ⟨b, 0, none⟩)) := by rw [Lib.cell_of_heap hbk]; rfl
  have c1 : w1.cell? ⟨b, 1, none⟩ = some v := by rw [Lib.cell_of_heap hbk]; rfl
  go_wp2_with (at_builtin; refine wpList_append_own _ rfl _ _ 67 rfl B 5 i0 (.int .u8 0) 1 1 Try.underlying67 hi hz0 hz1 hz2 rfl (by decide) _ _ _ rfl (hown.alloc _) ⟨w1.heap.size, 0, none⟩ 1 1 [.int .u8 c] rfl rfl (cell_one_new _ _ _) (by simp [Value.oneCell']) ?c3 ?c4 ?c5 ?_)
  case c3 => unfold maxLen; omega
  case c4 => omega
  case c5 => have := hb1.size; simp; omega
  intro v' w2 hown' hgrow _
  have hlt : b < w1.heap.size := blk_lt hbk
  have hb2 : w2.heap[b]? = some (.cells #[.pointer (some ⟨b, 0, none⟩), v] 69 (0, 0)) := by
    rw [hgrow.block b (by simp; omega) (fun e => hne e.symm), Below.heap_alloc _ _ _ hlt]
    exact hbk
  have d0 : w2.cell? ⟨b, 0, none⟩ = some (.pointer (some ⟨b, 0, none⟩)) := by rw [Lib.cell_of_heap hb2]; rfl
  have d1 : w2.cell? ⟨b, 1, none⟩ = some v := by rw [Lib.cell_of_heap hb2]; rfl
  have f1 : w2.frozen? ⟨b, 1, none⟩ = false := Lib.frozen_of_heap hb2 1
  obtain ⟨ao, n', cap, rfl⟩ : ∃ ao n' cap, v' = .slice ao n' cap := by
    rcases hown'.2 with ⟨hv, _⟩ | ⟨g, cap, cur, hv, _⟩
    · exact ⟨_, _, _, hv⟩
    · exact ⟨_, _, _, hv⟩
  go_wp2
  go_ret
  have hba := hb1.alloc (by have := hb1.size; omega) (.cells #[.int .u8 c] 5)
  refine ⟨⟨_, rfl⟩, .inr ?_, ?_⟩
  · exact Lib.BuilderAt.put (T := 69) (e := 5) hB hb2 (bs' := bs ++ [.int .u8 c]) (by simpa using hown') (by decide)
  · exact (hba.grown hgrow (by have := hb1.size; simp; omega) (fun k hk => (hown.lt k hk).1)).setCell (p := ⟨b, 1, none⟩) hB _
def bitByte (b : Bool) : UInt8 := if b then 49 else 48
def textOf (l : List Bool) : ByteArray := ⟨(l.map bitByte).toArray⟩
def bits_Text.f (l0 : List Bool) : Option ByteArray := if l0.length < 140737488355328 then some (textOf l0) else none
set_option maxHeartbeats 2000000 in
set_option maxRecDepth 100000 in
theorem bits_Text.calls (A0 : Option Addr) (c0 : Nat) (l0 : List Bool) (r : ByteArray) (w : World) (hr0 : Kd.C Kd.bool w A0 l0.length l0) (hc0 : l0.length ≤ c0) (h : bits_Text.f l0 = some r) :
    Calls Try.prog 34 #[.slice A0 l0.length c0] w fun e w' => e = .returned (.string r) ∧ Below w.heap.size w w' := by
  unfold bits_Text.f at h
  split at h
  case isFalse => cases h
  case isTrue hl =>
  cases h
  have HR := Aside0.mk hr0
  have HB := Aside0.mk (below_alloc (Below.refl w.heap.size w) (.cells #[.pointer none, .slice none 0 0] 69))
  have HI := Aside0.mk (Lib.fresh_isBuilder 69 5 w)
  clear hr0
  go_enter Try.func34, Try.ntmps34
  go_wp2
  obtain ⟨b, hb⟩ : ∃ b, b = w.heap.size := ⟨_, rfl⟩
  rw [← hb] at HI ⊢
  obtain ⟨W3, hW3⟩ : ∃ W3, w.alloc (.cells #[.pointer none, .slice none 0 0] 69) = W3 := ⟨_, rfl⟩
  rw [hW3] at HB HI ⊢
  have HLB := Aside0.mk (show b ≤ W3.heap.size by rw [hb, ← hW3]; simp)
  have HWB := Aside0.mk (show w.heap.size ≤ b by rw [hb]; exact Nat.le_refl _)
  clear hW3 hb
  go_loopw [8] (fun i wr => ∃ k : Nat, k ≤ l0.length ∧ i = .int .i64 (k : Int) ∧ Aside0 (Below w.heap.size w wr) ∧ Aside0 (Lib.IsBuilder 69 5 b b (Lib.byteCells ((l0.take k).map bitByte)) wr) ∧ Aside0 (b ≤ wr.heap.size)) (fun i _ => l0.length - (intOf i).toNat)
  case atStart => exact ⟨0, Nat.zero_le _, rfl, HB, HI, HLB⟩
  case round =>
    obtain ⟨k, hk, rfl, HB4, HI4, HL4⟩ := hrel
    by_cases hlt : k < l0.length
    · obtain ⟨ad, rfl, hc⟩ := Kd.at_bool (Kd.C_below HR.out HB4.out) (k : Int) (by omega) (by omega)
      obtain ⟨x, hx⟩ : ∃ x, rdOf false l0 (k : Int) = x := ⟨_, rfl⟩
      rw [hx] at hc
      simp only [Int.toNat_natCast] at hc
      have htk : l0.take (k + 1) = l0.take k ++ [x] := by
        rw [List.take_succ_eq_append_getElem hlt, ← hx]
        simp [rdOf, List.getD_eq_getElem?_getD, hlt]
      have hlen : (Lib.byteCells ((l0.take k).map bitByte)).length + 1 ≤ 140737488355328 := by
        rw [Lib.byteCells_length, List.length_map, List.length_take]; omega
      have HLen := Aside0.mk hlen
      have HTK := Aside0.mk (show Lib.byteCells ((l0.take (k + 1)).map bitByte) = Lib.byteCells ((l0.take k).map bitByte) ++ [.int .u8 ((bitByte x).toNat : Int)] by rw [htk]; simp [Lib.byteCells])
      clear htk hlen hx
      cases x
      · go_wp2_with (go_at_call 50; (with_reducible refine (writeByte_calls b b (Lib.byteCells ((l0.take k).map bitByte)) 48 (by decide) (by decide) wr HI4.out HLen.out HL4.out).mono ?_); rintro e w1 ⟨⟨v1, rfl⟩, hi, hb6⟩; have HI6 := Aside0.mk hi; have HB6 := Aside0.mk (below_weaken HB4.out HWB.out hb6); have HL7 := Aside0.mk (Nat.le_trans HL4.out hb6.size); clear hi hb6 hc)
        go_roundw
        case rel => exact ⟨k + 1, by omega, by go_num, HB6, ⟨by rw [HTK.out]; exact HI6.out⟩, HL7⟩
        case measure => simp [intOf]; omega
      · go_wp2_with (go_at_call 50; (with_reducible refine (writeByte_calls b b (Lib.byteCells ((l0.take k).map bitByte)) 49 (by decide) (by decide) wr HI4.out HLen.out HL4.out).mono ?_); rintro e w1 ⟨⟨v1, rfl⟩, hi, hb6⟩; have HI6 := Aside0.mk hi; have HB6 := Aside0.mk (below_weaken HB4.out HWB.out hb6); have HL7 := Aside0.mk (Nat.le_trans HL4.out hb6.size); clear hi hb6 hc)
        go_roundw
        case rel => exact ⟨k + 1, by omega, by go_num, HB6, ⟨by rw [HTK.out]; exact HI6.out⟩, HL7⟩
        case measure => simp [intOf]; omega
    · obtain rfl : k = l0.length := by omega
      go_wp2_with (go_at_call 51; (with_reducible refine (Shelf.Try.Builder_String_any b b ((l0.take l0.length).map bitByte) _ HI4.out HL4.out).mono ?_); rintro e w1 ⟨rfl, hb6⟩; have HB6 := Aside0.mk (below_weaken HB4.out HWB.out hb6); clear hb6)
      go_ret
      exact ⟨rfl, HB6.out⟩
end Go.Proofs.Ytabjfehhibeeiaa.Fog
