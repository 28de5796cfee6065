import Derived.Test.YtabjfehhibeeiaaFogx0
import Derived.Test.YtabjfehhibeeiaaOpen
import Derived.Test.YtabjfehhibeeiaaRows
import Derived.JoinedCond
namespace Go.Proofs.Ytabjfehhibeeiaa.Open
open Go.RowKit Go.WideShapes Go.ChangeShapes Go.Proofs.YtabjfehhibeeiaaW.PrintWords Go.Proofs.YtabjfehhibeeiaaW.PrintLast 
open Go.Proofs.Ytabjfehhibeeiaa.Rows (uptoBulk uptoBulkAll uptoSmall)
/-! What comes in, opened, and how much it holds. -/
theorem bulk_all {H : Type} : ∀ {l : List (DataW H)} {j : Nat} {d : DataW H}, l[j]? = some d → uptoBulk d ≤ uptoBulkAll l
  | a :: l, 0, d, h => by
    simp only [List.getElem?_cons_zero, Option.some.injEq] at h
    subst h
    simp only [uptoBulkAll]
    omega
  | a :: l, j + 1, d, h => by
    have := bulk_all (l := l) (j := j) (by simpa using h)
    simp only [uptoBulkAll]
    omega
def OpensU {α : Type} (P : Program) (t : TypeId) (d : Kd α) (good : α → Prop) (m : α → Nat) : Prop :=
  ∀ {H : Type} (enc : TypeId × Value → H) (w : World) (base : Nat) (spare : Nat → Bool) (held : Bool) (fuel : Nat) (cs : List Value) (x : DataW H × List MemPlace),
    DataW.trod enc P w base spare held fuel t cs = some x → (∀ n ∈ x.1.weights P t, n ≤ reachBytes) → ∃ y : α, d.K w y cs ∧ good y ∧ m y ≤ uptoBulk x.1
theorem opensU_int {P : Program} {t : TypeId} {k : IntKind} (ht : P.underlying t = some (.int k)) : OpensU P t (Kd.int k) (fun n => (Lit.int k n).wf = true) (fun _ => 1) := by
  intro H enc w base spare held fuel cs x h _
  obtain ⟨n, rfl, rfl, hw⟩ := DataW.trod_int ht h
  exact ⟨n, rfl, hw, by simp [uptoBulk]⟩
theorem opensU_bool {P : Program} {t : TypeId} (ht : P.underlying t = some .bool) : OpensU P t Kd.bool (fun _ => True) (fun _ => 1) := by
  intro H enc w base spare held fuel cs x h _
  obtain ⟨n, rfl, rfl⟩ := DataW.trod_bool ht h
  exact ⟨n, rfl, trivial, by simp [uptoBulk]⟩
theorem opensU_string {P : Program} {t : TypeId} (ht : P.underlying t = some .string) : OpensU P t Kd.string (fun s => s.size ≤ 140737488351232) (fun s => s.size) := by
  intro H enc w base spare held fuel cs x h hw
  obtain ⟨s, rfl, rfl, _⟩ := DataW.trod_string ht h
  refine ⟨s, rfl, ?_, ?_⟩
  · have := hw s.data.toList.length (by simp [DataW.weights])
    simpa [reachBytes] using this
  · simp only [uptoBulk, Array.length_toList]
    exact Nat.le_succ_of_le (Nat.le_refl _)
theorem sum_bulk {α H : Type} {m : α → Nat} : ∀ (ys : List α) (es : List (DataW H)), ys.length = es.length → (∀ (i : Nat) (y : α) (e : DataW H), ys[i]? = some y → es[i]? = some e → m y ≤ uptoBulk e) → (ys.map m).sum ≤ uptoBulkAll es
  | [], [], _, _ => by simp [uptoBulkAll]
  | y :: ys, e :: es, hl, h => by
    have h0 := h 0 y e rfl rfl
    have h1 := sum_bulk ys es (by simpa using hl) (fun i y e hy he => h (i + 1) y e (by simpa using hy) (by simpa using he))
    simp only [List.map_cons, List.sum_cons, uptoBulkAll]
    omega
theorem opensU_slice {α : Type} {P : Program} {t e : TypeId} {d : Kd α} {g : α → Prop} {m : α → Nat} {B : Nat} (ht : P.underlying t = some (.slice e)) (hc : P.cellsOf e = d.sz) (hB : P.bytesOf e = B) (h : OpensU P e d g m) :
    OpensU P t (Kd.slice e d) (fun ys => ys.length * B ≤ 140737488351232 ∧ ∀ y ∈ ys, g y) (fun ys => (ys.map m).sum) := by
  intro H enc w base spare held fuel cs x hx hw
  rcases DataW.trod_slice ht hx with ⟨rfl, rfl⟩ | ⟨a, len, cap, elems, rest, n, _, rfl, rfl, hb, hl, hm, hlen, hel, _, _⟩
  · exact ⟨[], ⟨none, 0, rfl, Nat.le_refl _, rfl, by simp, fun h => absurd h (by simp)⟩, ⟨by simp, fun y hy => by cases hy⟩, by simp⟩
  · have hsz : len * B ≤ 140737488351232 := by
      have h1 := hw ((elems.length + rest.length) * P.bytesOf e) (by simp [DataW.weights, ht])
      rw [hB] at h1
      exact Nat.le_trans (Nat.mul_le_mul_right _ (by omega)) h1
    have each : ∀ i, i < len → ∃ y, ((∃ cs' : List Value, cs'.length = d.sz ∧ d.K w y cs' ∧ ∀ j u, cs'[j]? = some u → w.cell? (a.add (i * d.sz + j)) = some u) ∧ g y) ∧ ∀ z, elems[i]? = some z → m y ≤ uptoBulk z.1 := by
      intro i hi
      have h1 := hel i hi
      rw [List.getElem?_eq_getElem (by omega), Option.bind_eq_some_iff] at h1
      obtain ⟨cs', hcs, hy⟩ := h1
      obtain ⟨y, hK, hg, hbk⟩ := h enc w base spare held n cs' elems[i] hy (fun m hm' => hw m (by
        simp only [DataW.weights, ht, List.mem_cons, List.mem_append]
        exact .inr (.inl (weightsAll_mem (List.mem_map_of_mem (List.getElem_mem _)) m hm'))))
      obtain ⟨_, hlen', hcell⟩ := World.cells?_some hcs
      rw [hc] at hcell hlen'
      refine ⟨y, ⟨⟨cs', hlen', hK, fun j u hj => ?_⟩, hg⟩, fun z hz => ?_⟩
      · have hj' : j < d.sz := by have := (List.getElem?_eq_some_iff.1 hj).1; omega
        have h2 := hcell j hj'
        rw [addr_add_add] at h2
        rw [h2, hj]
      · rw [List.getElem?_eq_getElem (by omega)] at hz
        cases hz
        exact hbk
    obtain ⟨ys, hyl, hyq⟩ := list_of len each
    refine ⟨ys, ⟨some a, cap, by rw [hyl], by omega, rfl, ?_, fun _ => ⟨a, rfl, fun j p hp => (hyq j p hp).1.1⟩⟩, ⟨by rw [hyl]; exact hsz, fun y hy => ?_⟩, ?_⟩
    · rw [hyl]; unfold maxLen at hm; omega
    · obtain ⟨i, hi⟩ := List.getElem?_of_mem hy
      exact (hyq i y hi).1.2
    · have h3 := sum_bulk (m := m) ys (elems.map (·.1)) (by rw [List.length_map]; omega) (fun i y e hy he => by
        rw [List.getElem?_map] at he
        obtain ⟨z, hz, rfl⟩ := Option.map_eq_some_iff.1 he
        exact (hyq i y hy).2 z hz)
      simp only [uptoBulk]
      omega
/-- A parameter that is a slice. -/
theorem openU_sl {α : Type} {H : Type} {enc : TypeId × Value → H} {P : Program} {t e : TypeId} {d : Kd α} {g : α → Prop} {m' : List α → Nat} {B : Nat} {W : World} {base : Nat} {spare : Nat → Bool} {held : Bool} {v : Value} {x : DataW H} {p : List MemPlace} {r : Reach} {b0 : Nat}
    (O : OpensU P t (Kd.slice e d) (fun ys => ys.length * B ≤ 140737488351232 ∧ ∀ y ∈ ys, g y) m') (ht : P.underlying t = some (.slice e)) (hv : Value.okWide P W r b0 t v) (hx : DataW.Trod enc P W base spare held t v x p) (hw : ∀ n ∈ x.weights P t, n ≤ reachBytes) :
    ∃ (A : Option Addr) (c : Nat) (l : List α), v = .slice A l.length c ∧ d.C W A l.length l ∧ l.length ≤ c ∧ l.length * B ≤ 140737488351232 ∧ (∀ y ∈ l, g y) ∧ m' l ≤ uptoBulk x := by
  obtain ⟨a, len, cap, rfl⟩ := okWide_slice ht hv
  obtain ⟨fuel, hf⟩ := hx
  obtain ⟨l, ⟨A, c, hcs, hc, hC⟩, hg, hb⟩ := O enc W base spare held fuel _ _ hf hw
  simp only [Value.cells, List.cons.injEq, and_true] at hcs
  exact ⟨A, c, l, hcs, hC, hc, hg.1, hg.2, hb⟩
/-- A cell that is a slice (a struct's field). -/
theorem openU_sl_cell {α : Type} {H : Type} {enc : TypeId × Value → H} {P : Program} {t e : TypeId} {d : Kd α} {g : α → Prop} {m' : List α → Nat} {B : Nat} {W : World} {base : Nat} {spare : Nat → Bool} {held : Bool} {v : Value} {x : DataW H × List MemPlace} {fuel : Nat}
    (O : OpensU P t (Kd.slice e d) (fun ys => ys.length * B ≤ 140737488351232 ∧ ∀ y ∈ ys, g y) m') (_ht : P.underlying t = some (.slice e)) (hf : DataW.trod enc P W base spare held fuel t [v] = some x) (hw : ∀ n ∈ x.1.weights P t, n ≤ reachBytes) :
    ∃ (A : Option Addr) (c : Nat) (l : List α), [v] = [Value.slice A l.length c] ∧ d.C W A l.length l ∧ l.length ≤ c ∧ l.length * B ≤ 140737488351232 ∧ (∀ y ∈ l, g y) ∧ m' l ≤ uptoBulk x.1 := by
  obtain ⟨l, ⟨A, c, hcs, hc, hC⟩, hg, hb⟩ := O enc W base spare held fuel _ _ hf hw
  exact ⟨A, c, l, hcs, hC, hc, hg.1, hg.2, hb⟩
theorem bulk_agg {H : Type} {ys : List (DataW H × List MemPlace)} {j : Nat} {x : DataW H × List MemPlace} (hx : ys[j]? = some x) : uptoBulk x.1 ≤ uptoBulk (DataW.agg (ys.map (·.1))) := by
  have := bulk_all (l := ys.map (·.1)) (j := j) (d := x.1) (by rw [List.getElem?_map, hx]; rfl)
  simp only [uptoBulk]
  omega
/-- A row whose specification bears the bound on what it reads. -/
theorem returnsInHanded_of_upto {H : Type} {enc : TypeId × Value → H} {a : Assume} {C : Checked} {os : Os} {f : FuncId} {fn : Func} {s : OpenSpec} {k : (H : Type) → List (DataW H) → Bool} (hk : s.cond = some k) {F : Stop.Interp} {conds : List PathCond} {apart fresh handsOn again : Bool}
    (own : ownKnob C.prog.godebug = none) (started : os.Started) (noInit : C.prog.inits.idxOf? f = none) (hfn : C.prog.funcs[f]? = some fn)
    (witness : ∃ (w : World) (tape : Tape) (i : Input), w.os = os ∧ (w.forCall tape i).Shaped C.prog ∧ i.vars = [] ∧ Input.okWide C.prog (w.forCall tape i) .any w.heap.size f i ∧
      s.pre6 enc C.prog fn conds apart (w.forCall tape i).memory i.args ∧ a.holds C.prog (lone (Frame.enter C.prog f i.args .normal) [] (w.forCall tape i)))
    (contract : ∀ (W : World) (base : Nat) (args : Array Value) (ds gs : List (DataW H)) (before : List MemPlace),
      (∀ (j : Nat) t v, fn.params[j]? = some t → args[j]? = some v → Value.okWide C.prog W .any base t v) →
      DataW.Whole enc C.prog fn.params.toList s.vars apart W args.toList ds gs before →
      conds.all (PathCond.test C.prog ⟨fn.params.toList, ds, s.bare.plain.varTypes C.prog, gs⟩) = true → k H (ds ++ gs) = true →
      (DataW.weightsEach C.prog (fn.params.toList ++ s.bare.plain.varTypes C.prog) (ds ++ gs)).all (· ≤ reachBytes) = true →
      a.holds C.prog (lone (Frame.enter C.prog f args .normal) [] W) →
      Calls C.prog f args W fun e W' => ∃ v, e = .returned v ∧ (s.at F).post enc C.prog fn apart fresh handsOn again W args v W') :
    ReturnsInHanded a C os f .any (s.pre6 enc C.prog fn conds apart) ((s.at F).post enc C.prog fn apart fresh handsOn again) := by
  refine returnsInHanded_of_calls own started noInit witness ?_
  intro w tape i _ _ _ hok hpre hholds
  obtain ⟨_, _, _, fn', hfn', _, _, _, _, hval⟩ := hok
  have e : fn' = fn := Option.some.inj (hfn'.symm.trans hfn)
  subst e
  obtain ⟨hpre, hz⟩ := hpre
  obtain ⟨ds, gs, before, hw, hc, hkk⟩ := (OpenSpec.pre_some hk conds apart _ _).1 hpre
  have hw' := DataW.Whole.of_heap (w' := w.forCall tape i) (by rfl) hw
  refine (contract (w.forCall tape i) w.heap.size i.args ds gs before hval hw' hc hkk (hz.weights hw) hholds).mono fun e W' ⟨v, he, hp⟩ => ?_
  subst he
  exact ChangeSpec.post_blind hp
theorem small_of {H : Type} {ds gs : List (DataW H)} (h : uptoSmall H (ds ++ gs) = true) {j : Nat} {d : DataW H} (hd : ds[j]? = some d) : uptoBulk d ≤ 1048576 := by
  have h1 : uptoBulkAll (ds ++ gs) ≤ 1048576 := of_decide_eq_true h
  have h2 := bulk_all (l := ds ++ gs) (j := j) (d := d) (by rw [List.getElem?_append_left (List.getElem?_eq_some_iff.1 hd).1]; exact hd)
  omega
end Go.Proofs.Ytabjfehhibeeiaa.Open
