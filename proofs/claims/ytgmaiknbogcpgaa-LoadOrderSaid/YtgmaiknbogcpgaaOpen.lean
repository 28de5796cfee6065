import Derived.Test.YtgmaiknbogcpgaaFogx0
import Derived.SizedLaws
import Derived.ChangeArms
import Derived.ChangeShapes
import Derived.WideShapes
import Derived.OpenShut
import Derived.Lib.SmallJoins
namespace Go.Proofs.Ytgmaiknbogcpgaa.Open
open Go.RowKit Go.WideShapes Go.ChangeShapes Go.Proofs.YtgmaiknbogcpgaaW.PrintWords Go.Proofs.YtgmaiknbogcpgaaW.PrintLast
/-! What comes in, opened: a value that reads as a datum of type t is a list (a number, a truth, a string ..) in the print's own kinds. -/

def Opens {α : Type} (P : Program) (t : TypeId) (d : Kd α) (good : α → Prop) : Prop :=
  ∀ {H : Type} (enc : TypeId × Value → H) (w : World) (base : Nat) (spare : Nat → Bool) (held : Bool) (fuel : Nat) (cs : List Value) (x : DataW H × List MemPlace),
    DataW.trod enc P w base spare held fuel t cs = some x → (∀ n ∈ x.1.weights P t, n ≤ reachBytes) → ∃ y : α, d.K w y cs ∧ good y

theorem opens_int {P : Program} {t : TypeId} {k : IntKind} (ht : P.underlying t = some (.int k)) : Opens P t (Kd.int k) (fun n => (Lit.int k n).wf = true) := by
  intro H enc w base spare held fuel cs x h _
  obtain ⟨n, rfl, _, hw⟩ := DataW.trod_int ht h
  exact ⟨n, rfl, hw⟩
theorem opens_bool {P : Program} {t : TypeId} (ht : P.underlying t = some .bool) : Opens P t Kd.bool (fun _ => True) := by
  intro H enc w base spare held fuel cs x h _
  obtain ⟨n, rfl, _⟩ := DataW.trod_bool ht h
  exact ⟨n, rfl, trivial⟩
theorem opens_string {P : Program} {t : TypeId} (ht : P.underlying t = some .string) : Opens P t Kd.string (fun s => s.size ≤ 140737488351232) := by
  intro H enc w base spare held fuel cs x h hw
  obtain ⟨s, rfl, hx, _⟩ := DataW.trod_string ht h
  refine ⟨s, rfl, ?_⟩
  have := hw s.data.toList.length (by rw [hx]; simp [DataW.weights])
  simpa [reachBytes] using this

theorem weightsAll_mem {H : Type} {P : Program} {e : TypeId} : ∀ {l : List (DataW H)} {d : DataW H}, d ∈ l → ∀ n ∈ d.weights P e, n ∈ DataW.weightsAll P e l
  | a :: l, d, hd, n, hn => by
    simp only [DataW.weightsAll, List.mem_append]
    rcases List.mem_cons.1 hd with rfl | hd
    · exact .inl hn
    · exact .inr (weightsAll_mem hd n hn)
theorem list_of {α : Type} {Q : Nat → α → Prop} : ∀ n : Nat, (∀ i, i < n → ∃ y, Q i y) → ∃ ys : List α, ys.length = n ∧ ∀ i y, ys[i]? = some y → Q i y
  | 0, _ => ⟨[], rfl, fun i y h => by simp at h⟩
  | n + 1, h => by
    obtain ⟨ys, hl, hq⟩ := list_of n (fun i hi => h i (by omega))
    obtain ⟨y, hy⟩ := h n (by omega)
    refine ⟨ys ++ [y], by simp [hl], fun i z hz => ?_⟩
    rcases Nat.lt_or_ge i ys.length with hi | hi
    · rw [List.getElem?_append_left hi] at hz
      exact hq i z hz
    · rw [List.getElem?_append_right hi] at hz
      have hi0 : i - ys.length = 0 := by
        rcases Nat.eq_zero_or_pos (i - ys.length) with h0 | h0
        · exact h0
        · rw [List.getElem?_eq_none (by simp only [List.length_singleton]; omega)] at hz
          cases hz
      have : i = n := by omega
      subst this
      rw [hi0] at hz
      simp at hz
      exact hz ▸ hy
theorem addr_add_add (a : Addr) (i j : Nat) : (a.add i).add j = a.add (i + j) := by
  unfold Addr.add
  by_cases hi : i = 0 <;> by_cases hj : j = 0 <;> simp [hi, hj, Nat.add_assoc]

theorem opens_slice {α : Type} {P : Program} {t e : TypeId} {d : Kd α} {g : α → Prop} {B : Nat} (ht : P.underlying t = some (.slice e)) (hc : P.cellsOf e = d.sz) (hB : P.bytesOf e = B) (h : Opens P e d g) :
    Opens P t (Kd.slice e d) (fun ys => ys.length * B ≤ 140737488351232 ∧ ∀ y ∈ ys, g y) := by
  intro H enc w base spare held fuel cs x hx hw
  rcases DataW.trod_slice ht hx with ⟨rfl, _⟩ | ⟨a, len, cap, elems, rest, n, _, rfl, rfl, hb, hl, hm, hlen, hel, _, _⟩
  · exact ⟨[], ⟨none, 0, rfl, Nat.le_refl _, rfl, by simp, fun h => absurd h (by simp)⟩, by simp, fun y hy => by cases hy⟩
  · have hsz : len * B ≤ 140737488351232 := by
      have h1 := hw ((elems.length + rest.length) * P.bytesOf e) (by simp [DataW.weights, ht])
      rw [hB] at h1
      exact Nat.le_trans (Nat.mul_le_mul_right _ (by omega)) h1
    have each : ∀ i, i < len → ∃ y, (∃ cs' : List Value, cs'.length = d.sz ∧ d.K w y cs' ∧ ∀ j u, cs'[j]? = some u → w.cell? (a.add (i * d.sz + j)) = some u) ∧ g y := by
      intro i hi
      have h1 := hel i hi
      rw [List.getElem?_eq_getElem (by omega), Option.bind_eq_some_iff] at h1
      obtain ⟨cs', hcs, hy⟩ := h1
      obtain ⟨y, hK, hg⟩ := h enc w base spare held n cs' elems[i] hy (fun m hm' => hw m (by
        simp only [DataW.weights, ht, List.mem_cons, List.mem_append]
        exact .inr (.inl (weightsAll_mem (List.mem_map_of_mem (List.getElem_mem _)) m hm'))))
      obtain ⟨_, hlen', hcell⟩ := World.cells?_some hcs
      rw [hc] at hcell hlen'
      refine ⟨y, ⟨cs', hlen', hK, fun j u hj => ?_⟩, hg⟩
      have hj' : j < d.sz := by have := (List.getElem?_eq_some_iff.1 hj).1; omega
      have h2 := hcell j hj'
      rw [addr_add_add] at h2
      rw [h2, hj]
    obtain ⟨ys, hyl, hyq⟩ := list_of len each
    refine ⟨ys, ⟨some a, cap, by rw [hyl], by omega, rfl, ?_, fun _ => ⟨a, rfl, fun j p hp => (hyq j p hp).1⟩⟩, by rw [hyl]; exact hsz, fun y hy => ?_⟩
    · rw [hyl]; unfold maxLen at hm; omega
    · obtain ⟨i, hi⟩ := List.getElem?_of_mem hy
      exact (hyq i y hi).2

/-- A parameter that is a slice: in the form that the printed contracts ask. -/
theorem open_sl {α : Type} {H : Type} {enc : TypeId × Value → H} {P : Program} {t e : TypeId} {d : Kd α} {g : α → Prop} {B : Nat} {W : World} {base : Nat} {spare : Nat → Bool} {held : Bool} {v : Value} {x : DataW H} {p : List MemPlace} {r : Reach} {b0 : Nat}
    (O : Opens P t (Kd.slice e d) (fun ys => ys.length * B ≤ 140737488351232 ∧ ∀ y ∈ ys, g y)) (ht : P.underlying t = some (.slice e)) (hv : Value.okWide P W r b0 t v) (hx : DataW.Trod enc P W base spare held t v x p) (hw : ∀ n ∈ x.weights P t, n ≤ reachBytes) :
    ∃ (A : Option Addr) (c : Nat) (l : List α), v = .slice A l.length c ∧ d.C W A l.length l ∧ l.length ≤ c ∧ l.length * B ≤ 140737488351232 ∧ ∀ y ∈ l, g y := by
  obtain ⟨a, len, cap, rfl⟩ := okWide_slice ht hv
  obtain ⟨fuel, hf⟩ := hx
  obtain ⟨l, ⟨A, c, hcs, hc, hC⟩, hg⟩ := O enc W base spare held fuel _ _ hf hw
  simp only [Value.cells, List.cons.injEq, and_true] at hcs
  exact ⟨A, c, l, hcs, hC, hc, hg.1, hg.2⟩
/-- What a parameter's datum weighs. -/
theorem weigh {H : Type} {P : Program} {ts : List TypeId} {ds : List (DataW H)} (hsz : (DataW.weightsEach P ts ds).all (· ≤ reachBytes) = true) {j : Nat} {t : TypeId} {d : DataW H} (ht : ts[j]? = some t) (hd : ds[j]? = some d) : ∀ n ∈ d.weights P t, n ≤ reachBytes := by
  intro n hn
  have := List.all_eq_true.1 hsz n (DataW.weights_mem_each ht hd n hn)
  simpa using this

/-- A cell that is a slice (a struct's field). -/
theorem open_sl_cell {α : Type} {H : Type} {enc : TypeId × Value → H} {P : Program} {t e : TypeId} {d : Kd α} {g : α → Prop} {B : Nat} {W : World} {base : Nat} {spare : Nat → Bool} {held : Bool} {v : Value} {x : DataW H × List MemPlace} {fuel : Nat}
    (O : Opens P t (Kd.slice e d) (fun ys => ys.length * B ≤ 140737488351232 ∧ ∀ y ∈ ys, g y)) (_ht : P.underlying t = some (.slice e)) (hf : DataW.trod enc P W base spare held fuel t [v] = some x) (hw : ∀ n ∈ x.1.weights P t, n ≤ reachBytes) :
    ∃ (A : Option Addr) (c : Nat) (l : List α), [v] = [Value.slice A l.length c] ∧ d.C W A l.length l ∧ l.length ≤ c ∧ l.length * B ≤ 140737488351232 ∧ ∀ y ∈ l, g y := by
  obtain ⟨l, ⟨A, c, hcs, hc, hC⟩, hg⟩ := O enc W base spare held fuel _ _ hf hw
  exact ⟨A, c, l, hcs, hC, hc, hg.1, hg.2⟩
theorem weights_field {H : Type} {P : Program} {t tf : TypeId} {fs : Array Field} {ys : List (DataW H × List MemPlace)} {j : Nat} {x : DataW H × List MemPlace} (ht : P.underlying t = some (.struct fs)) (hf : (fs.toList.map (·.type))[j]? = some tf) (hx : ys[j]? = some x) :
    ∀ n ∈ x.1.weights P tf, n ∈ (DataW.agg (ys.map (·.1))).weights P t := by
  intro n hn
  simp only [DataW.weights, ht]
  exact DataW.weights_mem_each hf (by rw [List.getElem?_map, hx]; rfl) n hn
/-- A struct of one-cell fields, by value. -/
theorem open_agg {H : Type} {enc : TypeId × Value → H} {P : Program} {W : World} {base : Nat} {spare : Nat → Bool} {held : Bool} {r : Reach} {b0 : Nat} {t : TypeId} {fs : Array Field} {v : Value} {d : DataW H} {p : List MemPlace}
    (hs : P.underlying t = some (.struct fs)) (hone : Deep.oneCellFields P fs = true) (hC : P.cellsOf t = fs.size) (hv : Value.okWide P W r b0 t v) (h : DataW.Trod enc P W base spare held t v d p) :
    ∃ (vs : List Value) (ys : List (DataW H × List MemPlace)) (n : Nat), v = .agg vs.toArray ∧ vs.length = fs.size ∧ ys.length = fs.size ∧ d = .agg (ys.map (·.1)) ∧
      ∀ (i : Nat) (f : Field) (vi : Value) (yi : DataW H × List MemPlace), fs[i]? = some f → vs[i]? = some vi → ys[i]? = some yi → DataW.trod enc P W base spare held n f.type [vi] = some yi := by
  obtain ⟨cs, rfl, hsz⟩ := okWide_struct hs hv
  obtain ⟨fuel, hf⟩ := h
  obtain ⟨xs, n, _, hx, hl, hlen, hfi⟩ := DataW.trod_struct hs hf
  obtain ⟨l⟩ := cs
  simp only [Prod.mk.injEq] at hx
  refine ⟨l, xs, n, rfl, by rw [← hC]; exact hsz, hlen, hx.1, fun i f vi yi hfi' hvi hyi => ?_⟩
  obtain ⟨o, k⟩ := Deep.hone_of hone i f hfi'
  have := hfi i f hfi'
  rw [hyi, o, k] at this
  simp only [Value.cells] at this
  have e : (l.drop i).take 1 = [vi] := by
    obtain ⟨hi, hv'⟩ := List.getElem?_eq_some_iff.1 hvi
    rw [List.drop_eq_getElem_cons hi, List.take_succ_cons, List.take_zero, hv']
  rw [e] at this
  exact this
theorem list_len1 {α : Type} {l : List α} (h : l.length = 1) : ∃ a, l = [a] := by
  match l, h with
  | [a], _ => exact ⟨a, rfl⟩
theorem list_len2 {α : Type} {l : List α} (h : l.length = 2) : ∃ a b, l = [a, b] := by
  match l, h with
  | [a, b], _ => exact ⟨a, b, rfl⟩
theorem list_len3 {α : Type} {l : List α} (h : l.length = 3) : ∃ a b c, l = [a, b, c] := by
  match l, h with
  | [a, b, c], _ => exact ⟨a, b, c, rfl⟩
theorem list_len4 {α : Type} {l : List α} (h : l.length = 4) : ∃ a b c d, l = [a, b, c, d] := by
  match l, h with
  | [a, b, c, d], _ => exact ⟨a, b, c, d, rfl⟩
theorem list_len5 {α : Type} {l : List α} (h : l.length = 5) : ∃ a b c d e, l = [a, b, c, d, e] := by
  match l, h with
  | [a, b, c, d, e], _ => exact ⟨a, b, c, d, e, rfl⟩
end Go.Proofs.Ytgmaiknbogcpgaa.Open
