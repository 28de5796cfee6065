/- The table in memory. -/
import Derived.Test.YtgmaiknbogcpgaaFogx0
import Derived.StillTailTactics
import Derived.Test.YtgmaiknbogcpgaaCost
import Derived.Test.YtgmaiknbogcpgaaTailR
import Derived.Test.YtgmaiknbogcpgaaLdT
namespace Go.Proofs.Ytgmaiknbogcpgaa.Pure
open Go.RowKit Go.Proofs.Ytgmaiknbogcpgaa.Fog Go.Proofs.YtgmaiknbogcpgaaW.PrintWords Go.Proofs.YtgmaiknbogcpgaaW.PrintLast Go.Proofs.YtgmaiknbogcpgaaW.PrintMore Go.Proofs.Ytgmaiknbogcpgaa.Kit
set_option linter.unusedVariables false
set_option linter.unusedSimpArgs false
theorem arrInfo : (Try.prog.info? 65).map (fun i => (i.zero, i.size, i.bytes)) = some (some (.agg (Array.replicate 2049 (.int .i64 0))), 2049, 16392) := by kernel_rfl
/-- A block of numbers. -/
def NdAt (w : World) (g N : Nat) (f : Nat → Int) : Prop := ∃ cs : Array Value, w.heap[g]? = some (.cells cs 65 (0, 0)) ∧ cs.size = N ∧ ∀ j, j < N → cs[j]? = some (.int .i64 (f j))
theorem NdAt.cell {w : World} {g N : Nat} {f : Nat → Int} (h : NdAt w g N f) (j : Nat) (hj : j < N) : w.cell? ⟨g, j, none⟩ = some (.int .i64 (f j)) := by
  obtain ⟨cs, h1, h2, h3⟩ := h
  exact (blk_cell h1 j).trans (h3 j hj)
theorem NdAt.frozen {w : World} {g N : Nat} {f : Nat → Int} (h : NdAt w g N f) (j : Nat) : w.frozen? ⟨g, j, none⟩ = false := by
  obtain ⟨cs, h1, h2, h3⟩ := h
  exact blk_frozen h1 j
theorem NdAt.lt {w : World} {g N : Nat} {f : Nat → Int} (h : NdAt w g N f) : g < w.heap.size := by
  obtain ⟨cs, h1, h2, h3⟩ := h
  exact (Array.getElem?_eq_some_iff.1 h1).1
theorem NdAt.same {w w' : World} {g N : Nat} {f : Nat → Int} (h : NdAt w g N f) (e : w'.heap[g]? = w.heap[g]?) : NdAt w' g N f := by
  obtain ⟨cs, h1, h2, h3⟩ := h
  exact ⟨cs, e.trans h1, h2, h3⟩
theorem NdAt.below {w w' : World} {g N : Nat} {f : Nat → Int} (h : NdAt w g N f) (hb : Below w.heap.size w w') : NdAt w' g N f := h.same (hb.block g h.lt)
theorem NdAt.put {w : World} {g N : Nat} {f : Nat → Int} (h : NdAt w g N f) (j : Nat) (v : Int) : NdAt (w.setCell ⟨g, j, none⟩ (.int .i64 v)) g N (fun i => if i = j then v else f i) := by
  obtain ⟨cs, h1, h2, h3⟩ := h
  refine ⟨_, setCell_heap9 w g j cs _ (.int .i64 v) h1, by simpa using h2, fun i hi => ?_⟩
  rw [Array.getElem?_setIfInBounds]
  by_cases e : j = i
  · subst e
    rw [if_pos rfl, if_pos (by omega)]
    show _ = some (Value.int .i64 (if j = j then v else f j))
    rw [if_pos rfl]
  · rw [if_neg e]
    show _ = some (Value.int .i64 (if i = j then v else f i))
    rw [if_neg (fun h => e h.symm)]
    exact h3 i hi
theorem NdAt.congr {w : World} {g N : Nat} {f f' : Nat → Int} (h : NdAt w g N f) (e : ∀ j, j < N → f j = f' j) : NdAt w g N f' := by
  obtain ⟨cs, h1, h2, h3⟩ := h
  exact ⟨cs, h1, h2, fun j hj => by rw [← e j hj]; exact h3 j hj⟩
def zerosN (N : Nat) : Array Value := madeCells (Value.agg (Array.replicate 2049 (.int .i64 0))).cells N
theorem NdAt.zeros (N : Nat) (cs : Array Value) (hcs : cs = zerosN N) : cs.size = N ∧ ∀ j, j < N → cs[j]? = some (.int .i64 0) := by
  subst hcs
  refine ⟨size_madeCells _ _, fun j hj => ?_⟩
  have e : (Value.agg (Array.replicate 2049 (Value.int .i64 0))).cells = Array.replicate 2049 (Value.int .i64 0) := rfl
  unfold zerosN madeCells
  rw [e]
  have hm : j % 2049 < 2049 := Nat.mod_lt _ (by decide)
  simp [hj, hm]
theorem run_mk (n : Nat) (hn : n ≤ 256) (W : World) : (Instr.makeSlice 66 (.int .i64 ((n : Int) + 1)) (.int .i64 ((n : Int) + 1))).run Try.prog W = .ok (.slice (some ⟨W.heap.size, 0, none⟩) (n + 1) (n + 1)) (W.alloc (.cells (zerosN ((n + 1) * 2049)) 65)) := by
  obtain ⟨i0, hi, hzz⟩ := Option.map_eq_some_iff.1 arrInfo
  simp only [Prod.mk.injEq] at hzz
  obtain ⟨hz0, hz1, hz2⟩ := hzz
  have h := run_make (P := Try.prog) W 66 65 i0 _ Try.underlying66 hi hz0 .i64 .i64 ((n : Int) + 1) ((n : Int) + 1) (by omega) (Int.le_refl _) (by rw [hz2]; omega) (by omega)
  rw [hz1] at h
  have e : ((n : Int) + 1).toNat = n + 1 := by omega
  rw [e] at h
  exact h
end Go.Proofs.Ytgmaiknbogcpgaa.Pure
