-- FOREIGN strings.Clone making plain
import Derived.Test.YtclhkbjcemgmnaaFogx0
import Derived.Lib.BufferWrite
import Derived.Lib.UnsafeStr
namespace Go.Proofs.Ytclhkbjcemgmnaa.Fog
open Go.RowKit Go.Proofs.YtclhkbjcemgmnaaW.PrintWords Go.Proofs.YtclhkbjcemgmnaaW.PrintLast Go.Proofs.YtclhkbjcemgmnaaW.PrintMore
set_option linter.unusedVariables false
set_option linter.unusedSimpArgs false
theorem bytes_nil (a : ByteArray) (h : a.size = 0) : a = ⟨#[]⟩ := by
  cases a with
  | mk d =>
    have : d = #[] := Array.eq_empty_of_size_eq_zero h
    rw [this]
/-- What the three steps that make memory do: the row, the bytes in it, the string over it. -/
theorem clone_steps (a0 : ByteArray) (hs : a0.size ≤ 140737488355328) (h0 : 0 < a0.size) (w : World) : ∃ W1 W2 W3,
    (Instr.makeSlice 46 (.int .i64 (a0.size : Int)) (.int .i64 (a0.size : Int))).run Try.prog w = .ok (.slice (some ⟨w.heap.size, 0, none⟩) a0.size a0.size) W1 ∧
    (Builtin.copy_ #[46, 9] 3 #[.slice (some ⟨w.heap.size, 0, none⟩) a0.size a0.size, .string a0]).run Try.prog W1 = .ok (goInt a0.size) W2 ∧
    (Builtin.unsafeString_ #[71, 3] 9 #[.pointer (some ⟨w.heap.size, 0, none⟩), .int .i64 (a0.size : Int)]).run Try.prog W2 = .ok (.string a0) W3 ∧ Below w.heap.size w W3 := by
  obtain ⟨i0, hi, hzz⟩ := Option.map_eq_some_iff.1 info5
  simp only [Prod.mk.injEq] at hzz
  obtain ⟨hz0, hz1, hz2⟩ := hzz
  have h1 := run_make (P := Try.prog) w 46 5 i0 (.int .u8 0) Try.underlying46 hi hz0 .i64 .i64 (a0.size : Int) (a0.size : Int) (by omega) (by omega) (by rw [hz2]; omega) (by omega)
  simp only [Int.toNat_natCast, hz1, Nat.mul_one] at h1
  have hg1 := blk_new w (.cells (madeCells (Value.int .u8 0).cells a0.size) 5)
  have h2 := Lib.run_copy_row_string (P := Try.prog) (w.alloc (.cells (madeCells (Value.int .u8 0).cells a0.size) 5)) 46 9 3 5 w.heap.size 0 a0.size a0.size a0 _ 5 Try.underlying46 (by rw [hi]; simp [hz1]) hg1 (Nat.le_refl _) (by rw [size_madeCells]; omega)
  simp only [List.take_zero, List.nil_append, Nat.zero_add] at h2
  have hdrop : (madeCells (Value.int .u8 0).cells a0.size).toList.drop a0.size = [] := List.drop_eq_nil_of_le (by rw [Array.length_toList, size_madeCells]; exact Nat.le_refl _)
  rw [hdrop, List.append_nil] at h2
  have hg2 := setRow_heap _ w.heap.size _ (Lib.byteCells a0.data.toList).toArray 5 (0, 0) hg1
  have hl : a0.data.toList.length = a0.size := by rw [Array.length_toList]; rfl
  have h3 := Lib.run_unsafeString_row (P := Try.prog) ((w.alloc (.cells (madeCells (Value.int .u8 0).cells a0.size) 5)).setRow w.heap.size (Lib.byteCells a0.data.toList).toArray) 71 3 9 5 Try.underlying71 (by kernel_rfl) w.heap.size a0.size (by unfold World.shape?; rw [hg2]; simp [Lib.byteCells, hl]) a0.data.toList (by intro e; rw [e] at hl; simp at hl; omega) (by omega) (by omega) ?_
  · rw [hl] at h3
    have e : (⟨a0.data.toList.toArray⟩ : ByteArray) = a0 := by cases a0; simp
    rw [e] at h3
    refine ⟨_, _, _, h1, h2, h3, ?_⟩
    have hB2 : Below w.heap.size w ((w.alloc (.cells (madeCells (Value.int .u8 0).cells a0.size) 5)).setRow w.heap.size (Lib.byteCells a0.data.toList).toArray) :=
      Below.trans (below_alloc (Below.refl w.heap.size w) (.cells (madeCells (Value.int .u8 0).cells a0.size) 5)) ⟨rfl, rfl, rfl, by simp [World.setRow], fun k hk => setRow_other _ w.heap.size k _ (by omega)⟩
    exact Lib.below_freeze hB2 (Nat.le_refl _) _
  · intro j x hj
    have hadd : (⟨w.heap.size, 0, none⟩ : Addr).add j = ⟨w.heap.size, j, none⟩ := by unfold Addr.add; split <;> simp_all
    rw [hadd, blk_cell hg2]
    simp [Lib.byteCells, hj]
theorem clone_calls (a0 : ByteArray) (hs : a0.size ≤ 140737488355328) (w : World) :
    Calls Try.prog 38 #[.string a0] w fun e w' => e = .returned (.string a0) ∧ Below w.heap.size w w' := by
  rcases Nat.eq_zero_or_pos a0.size with h0 | h0
  · obtain rfl := bytes_nil a0 h0
    go_enter Try.func38, Try.ntmps38
    go_wp2
    go_ret
    exact ⟨rfl, Below.refl _ _⟩
  · obtain ⟨W1, W2, W3, h1, h2, h3, hB⟩ := clone_steps a0 hs h0 w
    have HB := Aside0.mk hB
    clear hB
    go_enter Try.func38, Try.ntmps38
    go_wp2
    go_ret
    exact ⟨rfl, HB.out⟩
def strings_Clone.f (a0 : ByteArray) : Option ByteArray := if a0.size ≤ 140737488355328 then some a0 else none
theorem strings_Clone.calls (a0 : ByteArray) (r : ByteArray) (w : World) (h : strings_Clone.f a0 = some r) :
    Calls Try.prog 33 #[.string a0] w fun e w' => e = .returned (.string r) ∧ Below w.heap.size w w' := by
  unfold strings_Clone.f at h
  by_cases hs : a0.size ≤ 140737488355328
  · rw [if_pos hs] at h
    obtain rfl := Option.some.inj h
    clear h
    go_enter Try.func33, Try.ntmps33
    go_wp2_with (go_at_call 38; (with_reducible refine (clone_calls a0 hs _).mono ?_); rintro e w1 ⟨rfl, hb⟩; have HB := Aside0.mk hb; clear hb)
    go_ret
    exact ⟨rfl, HB.out⟩
  · rw [if_neg hs] at h
    cases h
end Go.Proofs.Ytclhkbjcemgmnaa.Fog
