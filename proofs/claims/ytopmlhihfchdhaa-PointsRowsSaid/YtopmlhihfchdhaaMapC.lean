/- A map whose keys are complex numbers: made, stored into at a new key, asked. -/
import Derived.Test.YtopmlhihfchdhaaFogx0
import Derived.MapKept
import Derived.Test.YtopmlhihfchdhaaTurned
namespace Go.Proofs.Ytopmlhihfchdhaa.Pure
open Go.RowKit Go.Proofs.Ytopmlhihfchdhaa.Fog Go.Proofs.YtopmlhihfchdhaaW.PrintWords Go.Proofs.YtopmlhihfchdhaaW.PrintLast Go.Proofs.YtopmlhihfchdhaaW.PrintMore Go.Proofs.Ytopmlhihfchdhaa.Kit
set_option linter.unusedVariables false
set_option linter.unusedSimpArgs false
/-- Does a key equal the asked number? -/
def keyEq (z : Nat × Nat) : Value → Bool
  | .complex .f64 c d => (FloatKind.f64.format.order z.1 c == some .eq) && (FloatKind.f64.format.order z.2 d == some .eq)
  | _ => false
def findE (z : Nat × Nat) : List MapEntry → Nat → Option (Nat × Value)
  | [], _ => none
  | e :: es, i => if keyEq z e.key = true then some (i, e.val) else findE z es (i + 1)
theorem run_equalIn_cx (w : World) (n : Nat) (z u : Nat × Nat) : (Op.equalIn (n + 1) 31 (cx z) (cx u)).run Try.prog w = .ok (keyEq z (cx u)) w := by
  unfold Op.equalIn
  simp only [Sem.run_bind, run_underlying Try.underlying31, Result.andThen, cx]
  rfl
theorem run_equal_cx (w : World) (z u : Nat × Nat) : (Op.equal 31 (cx z) (cx u)).run Try.prog w = .ok (keyEq z (cx u)) w := run_equalIn_cx w 9999 z u
theorem run_findAsking_cx (w : World) (z : Nat × Nat) : ∀ (es : List MapEntry) (i : Nat), (∀ e ∈ es, ∃ u, e.key = cx u) → (Instr.findAsking 31 (cx z) es i).run Try.prog w = .ok (findE z es i) w
  | [], _, _ => rfl
  | e :: es, i, h => by
    obtain ⟨u, hu⟩ := h e (.head _)
    have ih := run_findAsking_cx w z es (i + 1) (fun x hx => h x (.tail _ hx))
    simp only [Instr.findAsking, findE, Sem.run_bind, hu, run_equal_cx, Result.andThen]
    by_cases hk : keyEq z (cx u) = true
    · rw [if_pos hk, if_pos hk]; rfl
    · rw [if_neg hk, if_neg hk]; exact ih
theorem run_findKey_cx (w : World) (z : Nat × Nat) (es : List MapEntry) (h : ∀ e ∈ es, ∃ u, e.key = cx u) : (Instr.findKey 31 (cx z) es).run Try.prog w = .ok (findE z es 0) w := by
  simp only [Instr.findKey, Sem.run_bind, run_underlying Try.underlying31, Result.andThen]
  cases es with
  | nil => rfl
  | cons e es =>
    have e1 : Instr.findNow (.complex .f64) (cx z) (e :: es) 0 = none := by
      obtain ⟨u, hu⟩ := h e (.head _)
      simp only [Instr.findNow, hu, cx, Instr.sameNow]
    rw [e1]
    exact run_findAsking_cx w z _ 0 h
theorem run_checkKeyIn_cx (w : World) (em : Bool) (n : Nat) (z : Nat × Nat) : (Instr.checkKey em (n + 1) 31 (cx z)).run Try.prog w = .ok () w := by
  unfold Instr.checkKey
  simp only [Sem.run_bind, run_underlying Try.underlying31, Result.andThen, cx]
  rfl
theorem run_checkKey_cx (w : World) (em : Bool) (z : Nat × Nat) : (Instr.checkKey em 10000 31 (cx z)).run Try.prog w = .ok () w := run_checkKeyIn_cx w em 9999 z
theorem run_lookup_cx (w : World) (B clock : Nat) (es : List MapEntry) (z : Nat × Nat) (hb : w.heap[B]? = some (.map es.toArray clock)) (h : ∀ e ∈ es, ∃ u, e.key = cx u) :
    (Instr.lookup 68 (.map (some B)) (cx z) true).run Try.prog w = .ok (.tuple #[((findE z es 0).map (·.2)).getD (.int .i64 0), .bool (findE z es 0).isSome]) w := by
  have hz : (zeroValue 3).run Try.prog w = .ok (.int .i64 0) w := by rfl
  simp only [Instr.lookup, Sem.run_bind, run_underlying Try.underlying68, MapKept.run_getObj_map hb, Result.andThen, Sem.run_pure, run_checkKey_cx, run_findKey_cx w z es h]
  cases findE z es 0 with
  | none => simp only [Sem.run_bind, hz, Result.andThen, Sem.run_pure, Option.map_none, Option.getD_none, Option.isSome_none]; rfl
  | some p => rfl
/-- A block's new content. -/
def mapSet (w : World) (B : Nat) (o : Obj) : World := { w with heap := w.heap.setIfInBounds B o }
theorem mapSet_at {w : World} {B : Nat} {o : Obj} (h : B < w.heap.size) : (mapSet w B o).heap[B]? = some o := by
  show (w.heap.setIfInBounds B o)[B]? = some o
  simp [h]
theorem mapSet_block {w : World} {B : Nat} {o : Obj} (k : Nat) (h : k ≠ B) : (mapSet w B o).heap[k]? = w.heap[k]? := by
  show (w.heap.setIfInBounds B o)[k]? = w.heap[k]?
  simp [Ne.symm h]
theorem mapSet_below {n : Nat} {a w : World} {B : Nat} {o : Obj} (h : Below n a w) (hB : n ≤ B) : Below n a (mapSet w B o) :=
  ⟨h.os, h.tape, h.output, by show _ ≤ (w.heap.setIfInBounds B o).size; rw [Array.size_setIfInBounds]; exact h.size, fun k hk => (mapSet_block k (by omega)).trans (h.block k hk)⟩
theorem run_mapUpdate_cx (w : World) (B clock : Nat) (es : List MapEntry) (z : Nat × Nat) (v : Value) (hb : w.heap[B]? = some (.map es.toArray clock)) (h : ∀ e ∈ es, ∃ u, e.key = cx u) (hf : findE z es 0 = none) :
    (Instr.mapUpdate 68 (.map (some B)) (cx z) v).run Try.prog w = .ok () (mapSet w B (.map (es ++ [({ key := cx z, val := v, born := clock } : MapEntry)]).toArray (clock + 1))) := by
  simp only [Instr.mapUpdate, Sem.run_bind, run_underlying Try.underlying68, MapKept.run_getObj_map hb, Result.andThen, Sem.run_pure, run_checkKey_cx, run_findKey_cx w z es h, hf, MapKept.run_setObj_map _ hb, List.push_toArray]
  rfl
theorem run_makeMap_n (w : World) (n : Nat) : (Instr.makeMap 68 (some (.int .i64 (n : Int)))).run Try.prog w = .ok (.map (some w.heap.size)) (w.alloc (.map #[] 0)) := by
  simp only [Instr.makeMap, Sem.run_bind, run_underlying Try.underlying68, Result.andThen]
  rfl
/-- The points of a set by their labels. -/
def entC (n k : Nat) : List MapEntry := (List.range k).map fun i => { key := cx (zAt n i), val := .int .i64 (i : Int), born := i }
theorem entC_succ (n k : Nat) : entC n (k + 1) = entC n k ++ [{ key := cx (zAt n k), val := .int .i64 (k : Int), born := k }] := by unfold entC; rw [List.range_succ, List.map_append]; rfl
theorem entC_key (n k : Nat) : ∀ e ∈ entC n k, ∃ u, e.key = cx u := by
  intro e he
  unfold entC at he
  obtain ⟨i, _, rfl⟩ := List.mem_map.1 he
  exact ⟨_, rfl⟩
theorem findE_append (z : Nat × Nat) : ∀ (l m : List MapEntry) (i : Nat), (∀ e ∈ l, keyEq z e.key = false) → findE z (l ++ m) i = findE z m (i + l.length)
  | [], m, i, _ => by simp
  | e :: l, m, i, h => by
    rw [List.cons_append, findE, if_neg (by rw [h e (.head _)]; decide), findE_append z l m (i + 1) (fun x hx => h x (.tail _ hx)), List.length_cons]
    congr 1; omega
theorem findE_none (z : Nat × Nat) (l : List MapEntry) (i : Nat) (h : ∀ e ∈ l, keyEq z e.key = false) : findE z l i = none := by
  have := findE_append z l [] i h
  rw [List.append_nil] at this
  rw [this]; rfl
theorem entC_none (n k : Nat) (z : Nat × Nat) (h : ∀ j, j < k → keyEq z (cx (zAt n j)) = false) : findE z (entC n k) 0 = none := by
  refine findE_none z _ 0 fun e he => ?_
  unfold entC at he
  obtain ⟨i, hi, rfl⟩ := List.mem_map.1 he
  exact h i (List.mem_range.1 hi)
theorem entC_some (n k : Nat) (z : Nat × Nat) (i : Nat) (hi : i < k) (h : ∀ j, j < i → keyEq z (cx (zAt n j)) = false) (hk : keyEq z (cx (zAt n i)) = true) : findE z (entC n k) 0 = some (i, .int .i64 (i : Int)) := by
  have e : entC n k = entC n i ++ ((List.range' i (k - i)).map fun i => ({ key := cx (zAt n i), val := .int .i64 (i : Int), born := i } : MapEntry)) := by
    unfold entC
    rw [← List.map_append]
    congr 1
    rw [List.range_eq_range', List.range_eq_range', show k = i + (k - i) by omega, ← List.range'_append_1]
    simp
  have h2 : List.range' i (k - i) = i :: List.range' (i + 1) (k - i - 1) := by rw [show k - i = (k - i - 1) + 1 by omega, List.range'_succ]; simp
  rw [e, findE_append z _ _ 0 (fun e he => by
    unfold entC at he
    obtain ⟨j, hj, rfl⟩ := List.mem_map.1 he
    exact h j (List.mem_range.1 hj)), h2, List.map_cons, findE, if_pos hk]
  simp [entC]
/-- Being the same number goes both ways. -/
theorem cmp_eq (a b : Int) : (some (compare a b) == some Ordering.eq) = decide (a = b) := by
  rcases Int.lt_trichotomy a b with h | h | h
  · rw [Int.compare_eq_lt.2 h, decide_eq_false (by omega)]; rfl
  · rw [Int.compare_eq_eq.2 h, decide_eq_true h]; rfl
  · rw [Int.compare_eq_gt.2 h, decide_eq_false (by omega)]; rfl
theorem order_swap_eq (a b : Nat) : (FloatKind.f64.format.order a b == some .eq) = (FloatKind.f64.format.order b a == some .eq) := by
  unfold Ieee.Format.order
  generalize FloatKind.f64.format.read a = x
  generalize FloatKind.f64.format.read b = y
  rcases x with ⟨s, m, i⟩ | s | _ <;> rcases y with ⟨t, n, j⟩ | t | _
  · show (some (compare (Ieee.signed s m (i - min i j).toNat) (Ieee.signed t n (j - min i j).toNat)) == some Ordering.eq) = (some (compare (Ieee.signed t n (j - min j i).toNat) (Ieee.signed s m (i - min j i).toNat)) == some Ordering.eq)
    rw [Int.min_comm j i, cmp_eq, cmp_eq]
    congr 1
    exact propext ⟨Eq.symm, Eq.symm⟩
  · cases t <;> rfl
  · rfl
  · cases s <;> rfl
  · cases s <;> cases t <;> decide +kernel
  · cases s <;> rfl
  · rfl
  · cases t <;> rfl
  · rfl
theorem keyEq_hit (n : Nat) (z : Nat × Nat) (i : Nat) : keyEq z (cx (zAt n i)) = hit n z i := by
  show ((FloatKind.f64.format.order z.1 (zAt n i).1 == some .eq) && (FloatKind.f64.format.order z.2 (zAt n i).2 == some .eq)) = _
  rw [order_swap_eq z.1, order_swap_eq z.2]; rfl
/-- Points of a set are apart. -/
theorem fI_eq : ∀ i j : Fin 31, (FloatKind.f64.format.order (fI ((i.val : Int) - 15)) (fI ((j.val : Int) - 15)) == some .eq) = decide (i = j) := by decide +kernel
theorem fI_ne (a b : Int) (h0 : -15 ≤ a ∧ a ≤ 15) (h1 : -15 ≤ b ∧ b ≤ 15) : (FloatKind.f64.format.order (fI a) (fI b) == some .eq) = decide (a = b) := by
  have h := fI_eq ⟨(a + 15).toNat, by omega⟩ ⟨(b + 15).toNat, by omega⟩
  have e1 : (((⟨(a + 15).toNat, by omega⟩ : Fin 31).val : Int)) - 15 = a := by simp only; omega
  have e2 : (((⟨(b + 15).toNat, by omega⟩ : Fin 31).val : Int)) - 15 = b := by simp only; omega
  rw [e1, e2] at h
  rw [h]
  congr 1
  rw [Fin.mk.injEq]
  exact propext ⟨fun h => by omega, fun h => by omega⟩
/-- The label of a point, by search. -/
def labF (n : Nat) (p : Int × Int) : Nat := ((List.range n).find? fun i => decide (ptP n i = p)).getD n
def labOk (n : Nat) : Bool := (List.range n).all fun i => labF n (ptP n i) == i
theorem lab_all : ∀ n ∈ [4, 16, 32, 64, 128, 256], labOk n = true := by decide +kernel
theorem pt_inj (n i j : Nat) (h : isSz n) (hi : i < n) (hj : j < n) (he : ptP n i = ptP n j) : i = j := by
  have h1 := lab_all n (by rcases h with rfl | rfl | rfl | rfl | rfl | rfl <;> decide)
  unfold labOk at h1
  rw [List.all_eq_true] at h1
  have a := h1 i (List.mem_range.2 hi)
  have b := h1 j (List.mem_range.2 hj)
  rw [beq_iff_eq] at a b
  rw [he] at a
  omega
theorem hit_pt (n i j : Nat) (h : isSz n) (hi : i < n) (hj : j < n) : hit n (zAt n i) j = decide (i = j) := by
  obtain ⟨p1, p2, p3, p4⟩ := pt_le n i h hi
  obtain ⟨q1, q2, q3, q4⟩ := pt_le n j h hj
  show ((FloatKind.f64.format.order (fI (ptP n j).1) (fI (ptP n i).1) == some .eq) && (FloatKind.f64.format.order (fI (ptP n j).2) (fI (ptP n i).2) == some .eq)) = _
  rw [fI_ne _ _ ⟨q1, q2⟩ ⟨p1, p2⟩, fI_ne _ _ ⟨q3, q4⟩ ⟨p3, p4⟩]
  by_cases e : i = j
  · subst e; simp
  · have : ptP n j ≠ ptP n i := fun h2 => e (pt_inj n i j h hi hj h2.symm)
    have h3 : ¬ ((ptP n j).1 = (ptP n i).1 ∧ (ptP n j).2 = (ptP n i).2) := fun h4 => this (Prod.ext h4.1 h4.2)
    rw [← Bool.decide_and, decide_eq_false h3, decide_eq_false e]
end Go.Proofs.Ytopmlhihfchdhaa.Pure
