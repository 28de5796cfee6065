-- ALSO foghorn/sums.step[uint16]
-- ALSO foghorn/sums.step[uint32]
-- FOREIGN foghorn/sums.bytes[uint16] making plain
-- FOREIGN foghorn/sums.bytes[uint32] making plain
import Derived.Test.YtclhkbjcemgmnaaFogx0
import Derived.Test.YtclhkbjcemgmnaaFogx1
namespace Go.Proofs.Ytclhkbjcemgmnaa.Fog
open Go.RowKit Go.Proofs.YtclhkbjcemgmnaaW.PrintWords Go.Proofs.YtclhkbjcemgmnaaW.PrintLast Go.Proofs.YtclhkbjcemgmnaaW.PrintMore
set_option linter.unusedVariables false
set_option linter.unusedSimpArgs false

theorem bytesWorld_below (w : World) (e : TypeId) (s : ByteArray) : Below w.heap.size w (Lib.bytesWorld w e s) :=
  ⟨rfl, rfl, rfl, by rw [Lib.bytesWorld_size]; omega, fun i hi => Lib.bytesWorld_at_old w e s i hi⟩
theorem bytesWorld_bt (w : World) (e : TypeId) (s : ByteArray) (j : Nat) (hj : j < s.size) : (Lib.bytesWorld w e s).cell? ⟨w.heap.size, j, none⟩ = some (.int .u8 (bt s (j : Int))) := by
  rw [Lib.bytesWorld_cell w e s j hj]
  unfold bt
  rw [dif_pos (by simpa using hj)]
  simp only [List.getD]
  congr 3
  simp [hj]
  rfl

/-! ### sums.bytes[uint16] -/
def st16 (s p : Int) (b : Bool) : Int := (sums_step_uint16.f s p b).getD 0
theorem st16_f (s p : Int) (b : Bool) : sums_step_uint16.f s p b = some (st16 s p b) := by
  unfold st16 sums_step_uint16.f
  split <;> rfl
/-- The bits of a byte, from the mask m down. -/
def inner16 (p c : Int) : Nat → Nat → Int → Int
  | 0, _, s => s
  | f + 1, m, s => if m = 0 then s else inner16 p c f (m / 2) (st16 s p (decide (0 < Go.bits .and .u8 c (m : Int))))
theorem inner16_zero (p c s : Int) : ∀ f, inner16 p c f 0 s = s
  | 0 => rfl
  | f + 1 => by simp only [inner16]; rfl
theorem inner16_pos (p c s : Int) (f m : Nat) (h : 0 < m) (hf : m < 2 ^ f) : ∃ f', m / 2 < 2 ^ f' ∧ inner16 p c f m s = inner16 p c f' (m / 2) (st16 s p (decide (0 < Go.bits .and .u8 c (m : Int)))) := by
  cases f with
  | zero => simp at hf; omega
  | succ f => exact ⟨f, by rw [Nat.pow_succ] at hf; omega, by simp only [inner16]; rw [if_neg (by omega)]⟩
/-- The first k bytes. -/
def outer16 (p : Int) (s : ByteArray) : Nat → Int
  | 0 => 0
  | k + 1 => inner16 p (bt s (k : Int)) 8 128 (outer16 p s k)
def sums_bytes_uint16.f (a0 : Int) (a1 : ByteArray) : Option Int := if a1.size ≤ 140737488355328 then some (outer16 a0 a1 a1.size) else none
set_option maxHeartbeats 1000000 in
set_option maxRecDepth 100000 in
theorem sums_bytes_uint16.calls (a0 : Int) (a1 : ByteArray) (r : Int) (w : World) (h : sums_bytes_uint16.f a0 a1 = some r) :
    Calls Try.prog 40 #[.int .u16 a0, .string a1] w fun e w' => e = .returned (.int .u16 r) ∧ Below w.heap.size w w' := by
  unfold sums_bytes_uint16.f at h
  by_cases hs : a1.size ≤ 140737488355328
  · rw [if_pos hs] at h
    obtain rfl := Option.some.inj h
    clear h
    have kc := fun w : World => Lib.run_convert_string_bytes (P := Try.prog) w 9 46 5 a1 Try.underlying9 Try.underlying46 Try.underlying5
    go_enter Try.func40, Try.ntmps40
    go_wp2
    clear kc
    have HB0 := bytesWorld_below w 5 a1
    have HC0 : ∀ j, j < a1.size → (Lib.bytesWorld w 5 a1).cell? ⟨w.heap.size, j, none⟩ = some (.int .u8 (bt a1 (j : Int))) := fun j hj => bytesWorld_bt w 5 a1 j hj
    obtain ⟨W0, hW0⟩ : ∃ W0, Lib.bytesWorld w 5 a1 = W0 := ⟨_, rfl⟩
    rw [hW0] at HB0 HC0 ⊢
    clear hW0
    generalize Go.grownCap w a1.size 0 5 = cap0
    have HC := Aside0.mk HC0
    have HB := Aside0.mk HB0
    clear HC0 HB0
    go_loopw [5, 13] (fun s i wr => ∃ (k n : Nat), k ≤ a1.size ∧ i = .int .i64 (k : Int) ∧ s = .int .u16 (outer16 a0 a1 k) ∧ wr = W0.drewN n) (fun _ i _ => a1.size - (intOf i).toNat)
    case atStart => exact ⟨0, 0, Nat.zero_le _, rfl, rfl, rfl⟩
    case round =>
      obtain ⟨k, n, hk, rfl, rfl, rfl⟩ := hrel
      by_cases hlt : k < a1.size
      · have hc : (W0.drewN n).cell? ⟨w.heap.size, k, none⟩ = some (.int .u8 (bt a1 (k : Int))) := HC.out k hlt
        go_wp2_with (fail)
        go_loopw [5, 8] (fun s m wr => ∃ (f' m' j : Nat) (s' : Int), m' < 2 ^ f' ∧ m' ≤ 128 ∧ m = .int .u8 (m' : Int) ∧ s = .int .u16 s' ∧ Aside0 (inner16 a0 (bt a1 (k : Int)) f' m' s' = inner16 a0 (bt a1 (k : Int)) 8 128 (outer16 a0 a1 k)) ∧ wr = W0.drewN j) (fun _ m _ => (intOf m).toNat)
        case atStart => exact ⟨8, 128, n, _, by decide, Nat.le_refl _, rfl, rfl, ⟨rfl⟩, rfl⟩
        case round =>
          obtain ⟨f', m', j, s', hf, hm, rfl, rfl, HI, rfl⟩ := hrel
          by_cases hm0 : 0 < m'
          · obtain ⟨f2, hf2, hi2⟩ := inner16_pos a0 (bt a1 (k : Int)) s' f' m' hm0 hf
            have HI2 := Aside0.mk hi2
            have HF2 := Aside0.mk hf2
            clear hi2 hf2 hf
            go_wp2_with (go_at_call 42; (with_reducible refine (sums_step_uint16.calls _ _ _ _ _ (st16_f _ _ _)).mono ?_); rintro e w' ⟨rfl, ⟨nd, rfl⟩⟩)
            go_roundw
            case rel => exact ⟨f2, m' / 2, _, _, HF2.out, by omega, by go_num, rfl, ⟨by rw [← HI2.out]; exact HI.out⟩, rfl⟩
            case measure => simp [intOf]; omega
          · obtain rfl : m' = 0 := by omega
            have hi := HI.out
            rw [inner16_zero] at hi
            have HS := Aside0.mk hi
            clear hi HI hf
            go_wp2
            go_roundw
            case rel => exact ⟨k + 1, j, by omega, by go_num, by rw [HS.out]; rfl, rfl⟩
            case measure => simp [intOf]; omega
      · obtain rfl : k = a1.size := by omega
        go_wp2
        go_ret
        exact ⟨rfl, pw_below_drewN HB.out _⟩
  · rw [if_neg hs] at h
    cases h

/-! ### sums.bytes[uint32] -/
def st32 (s p : Int) (b : Bool) : Int := (sums_step_uint32.f s p b).getD 0
theorem st32_f (s p : Int) (b : Bool) : sums_step_uint32.f s p b = some (st32 s p b) := by
  unfold st32 sums_step_uint32.f
  split <;> rfl
/-- The bits of a byte, from the mask m down. -/
def inner32 (p c : Int) : Nat → Nat → Int → Int
  | 0, _, s => s
  | f + 1, m, s => if m = 0 then s else inner32 p c f (m / 2) (st32 s p (decide (0 < Go.bits .and .u8 c (m : Int))))
theorem inner32_zero (p c s : Int) : ∀ f, inner32 p c f 0 s = s
  | 0 => rfl
  | f + 1 => by simp only [inner32]; rfl
theorem inner32_pos (p c s : Int) (f m : Nat) (h : 0 < m) (hf : m < 2 ^ f) : ∃ f', m / 2 < 2 ^ f' ∧ inner32 p c f m s = inner32 p c f' (m / 2) (st32 s p (decide (0 < Go.bits .and .u8 c (m : Int)))) := by
  cases f with
  | zero => simp at hf; omega
  | succ f => exact ⟨f, by rw [Nat.pow_succ] at hf; omega, by simp only [inner32]; rw [if_neg (by omega)]⟩
/-- The first k bytes. -/
def outer32 (p : Int) (s : ByteArray) : Nat → Int
  | 0 => 0
  | k + 1 => inner32 p (bt s (k : Int)) 8 128 (outer32 p s k)
def sums_bytes_uint32.f (a0 : Int) (a1 : ByteArray) : Option Int := if a1.size ≤ 140737488355328 then some (outer32 a0 a1 a1.size) else none
set_option maxHeartbeats 1000000 in
set_option maxRecDepth 100000 in
theorem sums_bytes_uint32.calls (a0 : Int) (a1 : ByteArray) (r : Int) (w : World) (h : sums_bytes_uint32.f a0 a1 = some r) :
    Calls Try.prog 37 #[.int .u32 a0, .string a1] w fun e w' => e = .returned (.int .u32 r) ∧ Below w.heap.size w w' := by
  unfold sums_bytes_uint32.f at h
  by_cases hs : a1.size ≤ 140737488355328
  · rw [if_pos hs] at h
    obtain rfl := Option.some.inj h
    clear h
    have kc := fun w : World => Lib.run_convert_string_bytes (P := Try.prog) w 9 46 5 a1 Try.underlying9 Try.underlying46 Try.underlying5
    go_enter Try.func37, Try.ntmps37
    go_wp2
    clear kc
    have HB0 := bytesWorld_below w 5 a1
    have HC0 : ∀ j, j < a1.size → (Lib.bytesWorld w 5 a1).cell? ⟨w.heap.size, j, none⟩ = some (.int .u8 (bt a1 (j : Int))) := fun j hj => bytesWorld_bt w 5 a1 j hj
    obtain ⟨W0, hW0⟩ : ∃ W0, Lib.bytesWorld w 5 a1 = W0 := ⟨_, rfl⟩
    rw [hW0] at HB0 HC0 ⊢
    clear hW0
    generalize Go.grownCap w a1.size 0 5 = cap0
    have HC := Aside0.mk HC0
    have HB := Aside0.mk HB0
    clear HC0 HB0
    go_loopw [5, 13] (fun s i wr => ∃ (k n : Nat), k ≤ a1.size ∧ i = .int .i64 (k : Int) ∧ s = .int .u32 (outer32 a0 a1 k) ∧ wr = W0.drewN n) (fun _ i _ => a1.size - (intOf i).toNat)
    case atStart => exact ⟨0, 0, Nat.zero_le _, rfl, rfl, rfl⟩
    case round =>
      obtain ⟨k, n, hk, rfl, rfl, rfl⟩ := hrel
      by_cases hlt : k < a1.size
      · have hc : (W0.drewN n).cell? ⟨w.heap.size, k, none⟩ = some (.int .u8 (bt a1 (k : Int))) := HC.out k hlt
        go_wp2_with (fail)
        go_loopw [5, 8] (fun s m wr => ∃ (f' m' j : Nat) (s' : Int), m' < 2 ^ f' ∧ m' ≤ 128 ∧ m = .int .u8 (m' : Int) ∧ s = .int .u32 s' ∧ Aside0 (inner32 a0 (bt a1 (k : Int)) f' m' s' = inner32 a0 (bt a1 (k : Int)) 8 128 (outer32 a0 a1 k)) ∧ wr = W0.drewN j) (fun _ m _ => (intOf m).toNat)
        case atStart => exact ⟨8, 128, n, _, by decide, Nat.le_refl _, rfl, rfl, ⟨rfl⟩, rfl⟩
        case round =>
          obtain ⟨f', m', j, s', hf, hm, rfl, rfl, HI, rfl⟩ := hrel
          by_cases hm0 : 0 < m'
          · obtain ⟨f2, hf2, hi2⟩ := inner32_pos a0 (bt a1 (k : Int)) s' f' m' hm0 hf
            have HI2 := Aside0.mk hi2
            have HF2 := Aside0.mk hf2
            clear hi2 hf2 hf
            go_wp2_with (go_at_call 41; (with_reducible refine (sums_step_uint32.calls _ _ _ _ _ (st32_f _ _ _)).mono ?_); rintro e w' ⟨rfl, ⟨nd, rfl⟩⟩)
            go_roundw
            case rel => exact ⟨f2, m' / 2, _, _, HF2.out, by omega, by go_num, rfl, ⟨by rw [← HI2.out]; exact HI.out⟩, rfl⟩
            case measure => simp [intOf]; omega
          · obtain rfl : m' = 0 := by omega
            have hi := HI.out
            rw [inner32_zero] at hi
            have HS := Aside0.mk hi
            clear hi HI hf
            go_wp2
            go_roundw
            case rel => exact ⟨k + 1, j, by omega, by go_num, by rw [HS.out]; rfl, rfl⟩
            case measure => simp [intOf]; omega
      · obtain rfl : k = a1.size := by omega
        go_wp2
        go_ret
        exact ⟨rfl, pw_below_drewN HB.out _⟩
  · rw [if_neg hs] at h
    cases h

end Go.Proofs.Ytclhkbjcemgmnaa.Fog
