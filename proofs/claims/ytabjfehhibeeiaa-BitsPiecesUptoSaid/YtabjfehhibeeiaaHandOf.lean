-- FOREIGN foghorn/bits.Of making plain
import Derived.Test.YtabjfehhibeeiaaFogx0
namespace Go.Proofs.Ytabjfehhibeeiaa.Fog
open Go.RowKit Go.Proofs.YtabjfehhibeeiaaW.PrintWords Go.Proofs.YtabjfehhibeeiaaW.PrintLast Go.Proofs.YtabjfehhibeeiaaW.PrintMore
set_option linter.unusedVariables false
set_option linter.unusedSimpArgs false
def ofBit (c : Int) (b : Nat) : Bool := Go.bits .and .u8 (c / 2 ^ (7 - b)) 1 == 1
def ofByte (c : Int) : List Bool := (List.range 8).map (ofBit c)
def ofB (s : ByteArray) (i : Nat) : List Bool := (List.range i).flatMap fun k : Nat => ofByte (bt s (k : Int))
theorem ofB_length (s : ByteArray) : ∀ i, (ofB s i).length = 8 * i
  | 0 => rfl
  | i + 1 => by
    have h := ofB_length s i
    unfold ofB at h ⊢
    rw [List.range_succ, List.flatMap_append, List.length_append, h]
    simp [ofByte]
    omega
theorem ofB_succ (s : ByteArray) (i : Nat) : ofB s (i + 1) = ofB s i ++ ofByte (bt s (i : Int)) := by
  unfold ofB
  rw [List.range_succ, List.flatMap_append]
  simp
theorem ofByte_take (c : Int) (b : Nat) (h : b < 8) : (ofByte c).take (b + 1) = (ofByte c).take b ++ [ofBit c b] := by
  rw [List.take_succ_eq_append_getElem (by simpa [ofByte] using h)]
  simp [ofByte]
def bits_Of.f (a0 : ByteArray) : Option (List Bool × Int) := some (if 4096 < a0.size then ([], 1) else (ofB a0 a0.size, 0))
set_option maxHeartbeats 2000000 in
set_option maxRecDepth 100000 in
theorem bits_Of.calls (a0 : ByteArray) (r1 : List Bool) (r2 : Int) (w : World) (h : bits_Of.f a0 = some (r1, r2)) :
    Calls Try.prog 36 #[.string a0] w fun e w' => ∃ v0_ : Value, e = .returned (.tuple #[v0_, .int .i64 r2]) ∧ Kd.R Kd.bool 4 w' w.heap.size (fun _ => True) v0_ r1 ∧ Below w.heap.size w w' := by
  unfold bits_Of.f at h
  by_cases hs : 4096 < a0.size
  · rw [if_pos hs] at h
    simp only [Option.some.injEq, Prod.mk.injEq] at h
    obtain ⟨rfl, rfl⟩ := h
    have hs' : (4096 : Int) < (a0.size : Int) := by omega
    go_enter Try.func36, Try.ntmps36
    go_wp2
    go_ret2
    exact ⟨_, rfl, Kd.R_nil _ _ _ _ _, Below.refl _ _⟩
  · rw [if_neg hs] at h
    simp only [Option.some.injEq, Prod.mk.injEq] at h
    obtain ⟨rfl, rfl⟩ := h
    have hs' : (a0.size : Int) ≤ 4096 := by omega
    obtain ⟨i0, hi0, hz0, hs0, hb0⟩ := info_parts info4
    obtain ⟨w0, hrun, hown, hgr⟩ := run_make_own (P := Try.prog) w w.heap.size 26 4 i0 (.bool false) 1 Try.underlying26 hi0 hz0 hs0 .i64 .i64 (8 * a0.size) (by rw [hb0]; omega) (by unfold maxLen; omega) (Nat.le_refl _)
    have hmk : (Instr.makeSlice 26 (.int .i64 0) (.int .i64 (8 * (a0.size : Int)))).run Try.prog w = .ok (.slice (some ⟨w.heap.size, 0, none⟩) 0 (8 * a0.size)) w0 := by
      have h := hrun
      rwa [show ((8 * a0.size : Nat) : Int) = 8 * (a0.size : Int) by omega] at h
    have HRO := Aside0.mk (show Kd.R Kd.bool 4 w0 w.heap.size (fun _ => True) (.slice (some ⟨w.heap.size, 0, none⟩) 0 (8 * a0.size)) [] from ⟨fun _ _ => trivial, [], hown, Reps.none _ _⟩)
    have HB0 := Aside0.mk (pw_below_grown (Below.refl w.heap.size w) none (Nat.le_refl _) hgr (fun k hk => by cases hk))
    clear hrun hown hgr hi0 hz0 hb0 hs0
    go_enter Try.func36, Try.ntmps36
    go_wp2
    clear hmk
    go_loopw [4, 16] (fun v i wr => ∃ k : Nat, k ≤ a0.size ∧ i = .int .i64 (k : Int) ∧ Aside0 (Kd.R Kd.bool 4 wr w.heap.size (fun _ => True) v (ofB a0 k)) ∧ Aside0 (Below w.heap.size w wr)) (fun _ i _ => a0.size - (intOf i).toNat)
    case atStart => exact ⟨0, Nat.zero_le _, rfl, HRO, HB0⟩
    case round =>
      obtain ⟨k, hk, rfl, HR, HB⟩ := hrel
      by_cases hlt : k < a0.size
      · have hx : ∀ h : k < a0.size, ((a0[k]'h).toNat : Int) = bt a0 (k : Int) := fun h => by have := bt_at a0 (k : Int); simp only [Int.toNat_natCast] at this; exact this h
        have hbr := bt_range a0 (k : Int)
        have hb0 := hbr.1
        have hb1 := hbr.2
        clear hbr
        go_wp2
        obtain ⟨wo, rfl⟩ : ∃ wo : World, wo = wr := ⟨_, rfl⟩
        obtain ⟨vo, rfl⟩ : ∃ vo : Value, vo = u4 := ⟨_, rfl⟩
        go_loopw [4, 19] (fun v2 i2 wr2 => ∃ b : Nat, b ≤ 8 ∧ i2 = .int .i64 (b : Int) ∧ Aside0 (Kd.R Kd.bool 4 wr2 w.heap.size (fun _ => True) v2 (ofB a0 k ++ (ofByte (bt a0 (k : Int))).take b)) ∧ Aside0 (Below w.heap.size w wr2)) (fun _ i2 _ => 8 - (intOf i2).toNat)
        case atStart => exact ⟨0, by omega, rfl, ⟨by simpa using HR.out⟩, HB⟩
        case round =>
          obtain ⟨b, hb8, rfl, HR2, HB2⟩ := hrel
          by_cases hb : b < 8
          · have hlen : (ofB a0 k ++ (ofByte (bt a0 (k : Int))).take b).length ≤ 32776 := by rw [List.length_append, ofB_length, List.length_take]; simp [ofByte]; omega
            have HL := Aside0.mk hlen
            clear hlen
            go_wp2_with ((with_reducible refine gate_builtin (b := .append) (xs := #[.tmp 22, .tmp 31]) rfl ?_); at_builtin; refine Kd.R_append Kd.bool (w0 := w) w.heap.size rfl (.tmp 22) (.tmp 31) 26 4 (.bool false) 1 rfl Try.underlying26 info4 rfl (by decide) (by omega) u4 (ofB a0 k ++ (ofByte (bt a0 (k : Int))).take b) (Go.bits .and .u8 (bt a0 (k : Int) / 2 ^ (7 - b)) 1 == 1) [.bool (Go.bits .and .u8 (bt a0 (k : Int) / 2 ^ (7 - b)) 1 == 1)] (fun _ => True) (fun _ => False) rfl rfl ?aP (fun _ hk => hk.elim) ?aF ?aO ?aB ?aS ?aL ?_; (case aP => exact rfl); (case aB => exact HB2.out); (case aF => exact (fun _ _ => trivial)); (case aO => exact HR2.out); (case aS => exact HB2.out.size); (case aL => have := HL.out; omega); intro v3 w3 ho hb_ hg hat; have HO3 := Aside0.mk ho; have HB3 := Aside0.mk hb_; clear ho hb_ hg hat)
            go_roundw
            case rel =>
              refine ⟨b + 1, by omega, by go_num, ⟨?_⟩, HB3⟩
              rw [ofByte_take _ _ hb, ← List.append_assoc]
              exact HO3.out
            case measure => simp [intOf]; omega
          · obtain rfl : b = 8 := by omega
            go_wp2
            go_roundw
            case rel =>
              refine ⟨k + 1, by omega, by go_num, ⟨?_⟩, HB2⟩
              rw [ofB_succ]
              have h := HR2.out
              rwa [List.take_of_length_le (by simp [ofByte])] at h
            case measure => simp [intOf]; omega
      · obtain rfl : k = a0.size := by omega
        go_wp2
        go_ret2
        exact ⟨_, rfl, HR.out, HB.out⟩
end Go.Proofs.Ytabjfehhibeeiaa.Fog
