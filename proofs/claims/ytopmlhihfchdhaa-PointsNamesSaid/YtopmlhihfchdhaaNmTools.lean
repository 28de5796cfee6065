/- For PointsNames: sums and norms of a set's points; rows of zeros made and grown. -/
import Derived.Laws.ComplexArith
import Derived.Deep.OwnRows
import Derived.Test.YtopmlhihfchdhaaFogx0
import Derived.Test.YtopmlhihfchdhaaWorks
import Derived.Test.YtopmlhihfchdhaaBack
import Derived.Test.YtopmlhihfchdhaaPurePointsBack
namespace Go.Proofs.Ytopmlhihfchdhaa.Pure
open Go.RowKit Go.Proofs.Ytopmlhihfchdhaa.Fog Go.Proofs.YtopmlhihfchdhaaW.PrintWords Go.Proofs.YtopmlhihfchdhaaW.PrintLast Go.Proofs.YtopmlhihfchdhaaW.PrintMore Go.Proofs.Ytopmlhihfchdhaa.Kit
set_option linter.unusedVariables false
set_option linter.unusedSimpArgs false
/-- The sum of the first points. -/
def sS (n : Nat) : Nat → Int × Int
  | 0 => (0, 0)
  | k + 1 => ((sS n k).1 + (ptP n k).1, (sS n k).2 + (ptP n k).2)
def chkS (n e : Nat) : Nat → Nat → Int → Int → Bool
  | 0, _, a, b => decide (a = 0 ∧ b = 0)
  | m + 1, k, a, b => decide (floatBits .add .f64 (fI a) (fI (ptP n k).1) = some (fI (a + (ptP n k).1)) ∧ floatBits .add .f64 (fI b) (fI (ptP n k).2) = some (fI (b + (ptP n k).2)) ∧ (ptP n k).1 * (ptP n k).1 + (ptP n k).2 * (ptP n k).2 ≤ 2 * (e : Int) * (e : Int)) && chkS n e m (k + 1) (a + (ptP n k).1) (b + (ptP n k).2)
theorem chkS_at (n e : Nat) : ∀ (m k : Nat), chkS n e m k (sS n k).1 (sS n k).2 = true → (∀ i, k ≤ i → i < k + m → floatBits .add .f64 (fI (sS n i).1) (fI (ptP n i).1) = some (fI (sS n (i + 1)).1) ∧ floatBits .add .f64 (fI (sS n i).2) (fI (ptP n i).2) = some (fI (sS n (i + 1)).2) ∧ (ptP n i).1 * (ptP n i).1 + (ptP n i).2 * (ptP n i).2 ≤ 2 * (e : Int) * (e : Int)) ∧ sS n (k + m) = (0, 0)
  | 0, k, h => ⟨fun i h1 h2 => by omega, by
    have := of_decide_eq_true h
    exact Prod.ext this.1 this.2⟩
  | m + 1, k, h => by
    unfold chkS at h
    rw [Bool.and_eq_true] at h
    obtain ⟨h1, h2⟩ := h
    have h3 := of_decide_eq_true h1
    obtain ⟨a1, a2⟩ := chkS_at n e m (k + 1) h2
    refine ⟨fun i g1 g2 => ?_, by rw [show k + (m + 1) = k + 1 + m by omega]; exact a2⟩
    by_cases hik : i = k
    · subst hik; exact h3
    · exact a1 i (by omega) (by omega)
def edN (n : Nat) : Nat := (szE n).toNat
set_option maxRecDepth 100000 in
theorem chk_all : ∀ n ∈ [4, 16, 32, 64, 128, 256], chkS n (edN n) n 0 0 0 = true := by decide +kernel
theorem sum_at (n : Nat) (h : isSz n) : (∀ i, i < n → floatBits .add .f64 (fI (sS n i).1) (fI (ptP n i).1) = some (fI (sS n (i + 1)).1) ∧ floatBits .add .f64 (fI (sS n i).2) (fI (ptP n i).2) = some (fI (sS n (i + 1)).2) ∧ (ptP n i).1 * (ptP n i).1 + (ptP n i).2 * (ptP n i).2 ≤ 2 * (edN n : Int) * (edN n : Int)) ∧ sS n n = (0, 0) := by
  have h1 := chk_all n (by rcases h with rfl | rfl | rfl | rfl | rfl | rfl <;> decide)
  obtain ⟨a1, a2⟩ := chkS_at n (edN n) n 0 h1
  rw [Nat.zero_add] at a2
  exact ⟨fun i hi => a1 i (Nat.zero_le _) (by omega), a2⟩
theorem ed_ok (n : Nat) (h : isSz n) : szE n = (edN n : Int) ∧ edN n ∈ [1, 3, 5, 7, 11, 15] := by
  rcases h with rfl | rfl | rfl | rfl | rfl | rfl <;> exact ⟨rfl, by decide⟩
theorem gt_all : ∀ e ∈ [1, 3, 5, 7, 11, 15], ∀ v : Fin 451, v.val ≤ 2 * e * e → (FloatKind.f64.format.order (fI (v.val : Int)) (fI ((2 * e * e : Nat) : Int)) == some .gt) = false := by decide +kernel
theorem ord_some (a b : Nat) (ha : notNan a) (hb : notNan b) : ∃ o, FloatKind.f64.format.order a b = some o := by
  unfold notNan at ha hb
  unfold Ieee.Format.order
  generalize FloatKind.f64.format.read a = x at ha ⊢
  generalize FloatKind.f64.format.read b = y at hb ⊢
  rcases x with ⟨s, m, i⟩ | ⟨s⟩ | ⟨s, f⟩ <;> rcases y with ⟨t, n, j⟩ | ⟨t⟩ | ⟨t, g⟩
  · exact ⟨_, rfl⟩
  · exact ⟨_, rfl⟩
  · cases hb
  · exact ⟨_, rfl⟩
  · exact ⟨_, rfl⟩
  · cases hb
  · cases ha
  · cases ha
  · cases ha
theorem max_two_fl (P : Program) (t1 t2 t3 : TypeId) (m x : Nat) (ho : ∃ o, FloatKind.f64.format.order m x = some o) : ∃ r, (∀ w, (Builtin.max_ #[t1, t2] t3 #[.float .f64 m, .float .f64 x]).run P w = .ok (.float .f64 r) w) ∧ (r = m ∨ r = x) := by
  obtain ⟨o, ho⟩ := ho
  cases o
  · exact ⟨x, fun w => by simp [Builtin.max_, Builtin.max2, ho], .inr rfl⟩
  · by_cases hd : (FloatKind.f64.decode m).neg = true
    · exact ⟨x, fun w => by simp [Builtin.max_, Builtin.max2, ho, hd], .inr rfl⟩
    · exact ⟨m, fun w => by simp [Builtin.max_, Builtin.max2, ho, hd], .inl rfl⟩
  · exact ⟨m, fun w => by simp [Builtin.max_, Builtin.max2, ho], .inl rfl⟩
/-- So many bits, none set, made. -/
theorem make_bools (N : Nat) (hN : N ≤ 140737488355328) (w : World) : ∃ w1, (Instr.makeSlice 41 (.int .i64 (N : Int)) (.int .i64 (N : Int))).run Try.prog w = .ok (.slice (some ⟨w.heap.size, 0, none⟩) N N) w1 ∧ Kd.R Kd.bool 4 w1 w.heap.size (fun _ => True) (.slice (some ⟨w.heap.size, 0, none⟩) N N) (List.replicate N false) ∧ Below w.heap.size w w1 := by
  refine ⟨_, run_make_row' 41 4 (.bool false) 1 Try.underlying41 info4 rfl .i64 .i64 N (by omega) (by omega) w, ?_, (Below.refl _ _).alloc (Nat.le_refl _) _⟩
  have hr : Reps (Kd.bool.M w w.heap.size (fun _ => True)) 1 (List.replicate N false) (madeCells #[.bool false] (N * 1)).toList := Kd.reps_made (z := .bool false) (z0 := false) rfl (by decide) rfl N
  rw [Nat.mul_one] at hr
  have ho := World.ownsRow_lit (base := w.heap.size) (e := 4) (size := 1) w (madeCells #[.bool false] N) N (Nat.le_refl _) (by unfold maxLen; omega) (by rw [size_madeCells, Nat.mul_one])
  refine ⟨fun _ _ => trivial, (madeCells #[.bool false] N).toList, ?_, hr⟩
  rw [List.length_replicate]
  exact ho
/-- A full row of bits grown by zeros: a new row; nothing else is written. -/
theorem zeros_grow (N m : Nat) (hN : N + m ≤ 140737488355328) (hm : 0 < m) (base g : Nat) (w : World) (h : Kd.R Kd.bool 4 w base (fun _ => True) (.slice (some ⟨g, 0, none⟩) N N) (List.replicate N false)) (hbase : base ≤ w.heap.size) :
    ∃ (v1 : Value) (w1 : World), (∀ ty, (Builtin.append_ #[41, 3] ty #[.slice (some ⟨g, 0, none⟩) N N, .int .i64 (m : Int)]).run Try.prog w = .ok v1 w1) ∧ Kd.R Kd.bool 4 w1 w.heap.size (fun _ => True) v1 (List.replicate (N + m) false) ∧ Below w.heap.size w w1 := by
  obtain ⟨i0, hi, hz0, hz1, hz2⟩ := info_parts info4
  obtain ⟨_, inner, hown, hr⟩ := h
  rw [List.length_replicate] at hown
  have hl : inner.length = N := by have h9 : inner.length = N * 1 := hown.1; omega
  have holds : ∀ j u, inner[j]? = some u → w.cell? ((⟨g, 0, none⟩ : Addr).add j) = some u := hown.cells (g := g) rfl
  have hfo := run_firstCells_some (P := Try.prog) w.drew 1 N ⟨g, 0, none⟩ N N inner (by rw [hl, Nat.mul_one]) (by simpa using holds)
  have hw : IntKind.i64.wrap (m : Int) = m := by rw [IntKind.wrap_i64]; omega
  have hneg : ¬ ((m : Int) < 0) := by omega
  have hbig : ¬ (281474976710656 < (m : Int)) := by omega
  have hn : ¬ (N + m ≤ N) := by omega
  have h63 : ¬ (9223372036854775807 < ((N : Int) + (m : Int))) := by omega
  have hfit := growslice_fits (show N < N + m by omega) (show (N + m) * 1 ≤ 140737488355328 by omega)
  have h48 : ¬ (281474976710656 < Builtin.nextslicecap (N + m) N) := by rw [Nat.mul_one] at hfit; omega
  have hmz : m ≠ 0 := by omega
  obtain ⟨news, hnews⟩ : ∃ news, news = (Builtin.zeroCells #[.bool false] m).toList := ⟨_, rfl⟩
  have hna : Builtin.zeroCells #[.bool false] m = news.toArray := by rw [hnews]
  have hnl : news.length = m := by rw [hnews, Array.length_toList, size_zeroCells]; simp
  refine ⟨.slice (some ⟨w.heap.size, 0, none⟩) (N + m) (grownCap w (N + m) N 4), w.drew.alloc (.cells (inner.toArray ++ news.toArray ++ Builtin.zeroCells #[.bool false] (grownCap w (N + m) N 4 - (N + m))) 4), fun ty => ?_, ?_, ⟨rfl, rfl, rfl, by simp, fun k hk => heap_alloc_old w.drew _ hk⟩⟩
  · have hcz : (Value.bool false).cells = #[.bool false] := rfl
    simp [Builtin.append_, run_underlying Try.underlying41, run_underlying Try.underlying3, run_underlying Try.underlying4, sizeOf, typeInfo, zeroValue, hi, hz0, hz1, hz2, asInt, asIntOf, hw, hneg, hbig, hn, h63, h48, Question.forced, hfo, newRow, grownCap, hmz, hcz, hna]
    congr 2
    apply Array.ext'
    simp [List.append_assoc]
  · have hge := grownCap_ge w (N + m) N 4
    have hcm : grownCap w (N + m) N 4 ≤ maxLen := grownCap_le_maxLen w (N + m) N 4 (by unfold maxLen; omega)
    have hlen : (inner ++ news).length = N + m := by rw [List.length_append, hl, hnl]
    refine ⟨fun _ _ => trivial, inner ++ news, ?_, ?_⟩
    · rw [List.length_replicate]
      refine ⟨by rw [hlen]; exact (Nat.mul_one _).symm, .inr ⟨w.heap.size, _, _, rfl, Nat.le_refl _, heap_alloc_new w.drew _, hge, hcm, ?_, ?_⟩⟩
      · simp only [Array.size_append, List.size_toArray, size_zeroCells, hl, hnl]
        show N + m + (grownCap w (N + m) N 4 - (N + m)) * 1 = grownCap w (N + m) N 4 * 1
        omega
      · simp only [Array.toList_append, List.append_assoc]
        rw [← List.append_assoc, show (N + m) * Kd.bool.sz = (inner ++ news).length by rw [hlen]; exact Nat.mul_one _]
        exact List.take_left
    · have hz : Reps (Kd.bool.M w base (fun _ => True)) 1 (List.replicate m false) (Builtin.zeroCells (Value.bool false).cells m).toList := Kd.reps_zeros (z := .bool false) (z0 := false) rfl (by decide) rfl m
      have hz2 : Reps (Kd.bool.M w base (fun _ => True)) 1 (List.replicate m false) news := by rw [hnews]; exact hz
      have hr2 : Reps (Kd.bool.M w base (fun _ => True)) 1 (List.replicate N false) inner := hr
      have h9 := Kd.reps_append hr2 hz2
      rw [List.replicate_append_replicate] at h9
      exact h9
/-- The operation, by what it gives. -/
theorem wp_append_is {P : Program} {ops : Array Oper} {rest : List Oper} {o : Oper} {a : Act} {Q : Exit → Act → World → Prop} {W W1 : World} (hgd : o.guard = none) (s x : Operand) (t ti : TypeId) (ho : o.op = .call { callee := .builtin .append, args := #[s, x], argTypes := #[t, ti] }) (v u v1 : Value) (hs : a.eval s = v) (hx : a.eval x = u)
    (hr1 : (Builtin.append_ #[t, ti] o.type #[v, u]).run P W = .ok v1 W1) (h : wpList P ops Q rest (a.put o.dst v1) W1) : wpList P ops Q (o :: rest) a W := by
  refine wpList_plain hgd fun K hK => ?_
  unfold Oper.wp execOp
  simp only [ho, resolve, invoke, builtin, Sem.run_bind, Sem.run_pure, Result.andThen_ok, List.map_toArray, List.map_cons, List.map_nil, hs, hx, hr1]
  exact hK _ _ h
end Go.Proofs.Ytopmlhihfchdhaa.Pure
