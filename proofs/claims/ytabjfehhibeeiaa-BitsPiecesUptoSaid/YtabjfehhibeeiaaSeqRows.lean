/- Rows through the rounds of a range over a function. -/
import Derived.Test.YtabjfehhibeeiaaFogx0
import Derived.Test.YtabjfehhibeeiaaRangeV
namespace Go.Proofs.Ytabjfehhibeeiaa.Seq
open Go.RowKit Go.Proofs.YtabjfehhibeeiaaW.PrintWords
set_option linter.unusedVariables false
set_option linter.unusedSimpArgs false
theorem Lasts.row {α : Type} {d : Kd α} {e base B : Nat} {v : Value} {xs : List α} (hE : d.E = [] := by rfl) : Lasts B (fun W => d.R e W base (fun _ => True) v xs) :=
  ⟨fun X Y hx hb => Kd.R_below hx hb, fun X l o o' hl ho hc hx => by
    refine Kd.R_mono (Kd.R_move (Kd.R_bound (Kd.R_tight hE hx)) ?_) (fun _ _ => trivial)
    rintro k ⟨_, _, _, q, _, cells, hk⟩
    refine World.putObj_heap_other (fun e => ?_)
    subst e
    rw [hk] at ho
    cases ho
    cases hc⟩
theorem Lasts.block {B b : Nat} {cells : Array Value} {t : Nat} {fl : Nat × Nat} : Lasts B (fun W => W.heap[b]? = some (.cells cells t fl)) :=
  ⟨fun X Y hx hb => (hb.block b (Array.getElem?_eq_some_iff.1 hx).1).trans hx, fun X l o o' hl ho hc hx => (World.putObj_heap_other (fun e => by
    subst e
    rw [hx] at ho
    cases ho
    cases hc)).trans hx⟩
theorem Lasts.reads {α : Type} {d : Kd α} {e base B : Nat} {v : Value} {xs : List α} {W W' : World} (hT : ∀ J : World → Prop, Lasts B J → J W → J W') (h : d.R e W base (fun _ => True) v xs) (hE : d.E = [] := by rfl) : d.R e W' base (fun _ => True) v xs :=
  hT _ (Lasts.row (hE := hE)) h
theorem results_bool {P : Program} {fn : Func} {p : Tmp} {ty : TypeId} (h : fn.results = #[.cell p ty]) (hu : P.underlying ty = some .bool) (tmps : Array Value) (w : World) (g : Nat) (v : Bool) (hp : tmps.getD p undef = .pointer (some ⟨g, 0, none⟩)) (hc : w.cell? ⟨g, 0, none⟩ = some (.bool v)) : (results fn tmps).run P w = .ok (.bool v) w := by
  have hp' : tmps[p]?.getD undef = .pointer (some ⟨g, 0, none⟩) := by simpa using hp
  simp [results, h, hp', asAddr, go_sem, isAgg, run_underlying hu, hu, hc, Result.andThen]
/-- append(s, ys...) within a round. -/
theorem append_rows_in {α : Type} {P : Program} {n : Nat} {ops : Array Oper} {Q : Exit → Act → World → Prop} {o : Oper} {rest : List Oper} {a : Act} (lr : Nat) (d : Kd α) {Rr : α → List Value → Prop} {w0 W : World} (base : Nat) (hgd : o.guard = none) (s x : Operand) (t e : TypeId) (z : Value) (bytes : Nat)
    (ho : o.op = .call { callee := .builtin .append, args := #[s, x], argTypes := #[t, t] })
    (ht : P.underlying t = some (.slice e)) (hinfo : (P.info? e).map (fun i => (i.zero, i.size, i.bytes)) = some (some z, d.sz, bytes)) (hz : z.cells.size = d.sz) (hs0 : 0 < d.sz) (hb0 : 0 < bytes)
    (v : Value) (xs ys : List α) (A : Option Addr) (m c : Nat) (ok okp : Nat → Prop) (hs : a.eval s = v) (hx : a.eval x = .slice A m c)
    (HO : d.R e W base ok v xs) (HR : ReadsRow Rr d.sz W A m ys) (hKM : ∀ x cs, Rr x cs → d.M W base okp x cs) (hokp : ∀ k, okp k → ok k ∧ some k ≠ v.ownBlock) (hfresh : ∀ k, W.heap.size ≤ k → ok k)
    (HB : Below base w0 W) (hbase : base ≤ W.heap.size) (hl : (xs.length + m) * bytes ≤ 140737488355328)
    (h : ∀ v1 w1, d.R e w1 base ok v1 (xs ++ ys) → Below base w0 w1 → W.grownBy w1 v.ownBlock → (v1.ownBlock = v.ownBlock ∨ ∃ b, v1.ownBlock = some b ∧ W.heap.size ≤ b) → wpListIn (Fence.wide.inRound lr) n P ops Q rest (a.put o.dst v1) w1) :
    wpListIn (Fence.wide.inRound lr) n P ops Q (o :: rest) a W := by
  refine wpListIn_of_plain lr (fun a' w' => ∃ v1, a' = a.put o.dst v1 ∧ d.R e w' base ok v1 (xs ++ ys) ∧ Below base w0 w' ∧ W.grownBy w' v.ownBlock ∧ (v1.ownBlock = v.ownBlock ∨ ∃ b, v1.ownBlock = some b ∧ W.heap.size ≤ b)) (fun c hc => by rw [ho] at hc; cases hc) (by simp [Region.wanted, hgd])
    (Kd.R_append_rows d base hgd s x t e z bytes ho ht hinfo hz hs0 hb0 v xs ys A m c ok okp hs hx HO HR hKM hokp hfresh HB hbase hl (fun v1 w1 h1 h2 h3 h4 => ⟨rfl, v1, rfl, h1, h2, h3, h4⟩)) ?_
  rintro a' w' ⟨v1, rfl, h1, h2, h3, h4⟩
  exact h v1 w' h1 h2 h3 h4
theorem keeps_grown {α : Type} {d : Kd α} {e base B : Nat} {ok : Nat → Prop} {X Y : World} {v : Value} {xs : List α} (h : d.R e X base ok v xs) (hg : X.grownBy Y v.ownBlock) : KeepsFrom B X Y :=
  ⟨hg.size, fun k o _ hk hc => (hg.block k (Array.getElem?_eq_some_iff.1 hk).1 (fun e => by
    obtain ⟨_, _, _, q, _, cells, h1⟩ := (Kd.R_bound h).1 k e.symm
    rw [hk] at h1
    cases h1
    cases hc)).trans hk⟩
theorem R_setbox {α : Type} {d : Kd α} {e base b : Nat} {X : World} {v u : Value} {xs : List α} (h : d.R e X base (fun _ => True) v xs) (hb : b < base) (hE : d.E = [] := by rfl) : d.R e (X.setCell ⟨b, 0, none⟩ u) base (fun _ => True) v xs := by
  refine Kd.R_mono (Kd.R_move (Kd.R_bound (Kd.R_tight hE h)) ?_) (fun _ _ => trivial)
  rintro k ⟨_, hk, _⟩
  exact Below.heap_setCell _ _ _ k (fun e => by have : k = b := e; omega)
/-- A row all of whose blocks lie below B. -/
theorem R_low {α : Type} {d : Kd α} {e base B : Nat} {X Y : World} {v : Value} {xs : List α} (h : d.R e X base (fun _ => True) v xs) (ho : ∀ k, v.ownBlock = some k → k < B) (hb : Below B X Y) (hE : d.E = [] := by rfl) : d.R e Y base (fun _ => True) v xs := by
  refine Kd.R_mono (Kd.R_move (Kd.R_tight hE h) ?_) (fun _ _ => trivial)
  intro k hk
  exact hb.block k (ho k hk.symm)
theorem R_setoff {α : Type} {d : Kd α} {e base b : Nat} {X : World} {v u : Value} {xs : List α} (h : d.R e X base (fun _ => True) v xs) (ho : ∀ k, v.ownBlock = some k → k ≠ b) (hE : d.E = [] := by rfl) : d.R e (X.setCell ⟨b, 0, none⟩ u) base (fun _ => True) v xs := by
  refine Kd.R_mono (Kd.R_move (Kd.R_tight hE h) ?_) (fun _ _ => trivial)
  intro k hk
  exact Below.heap_setCell _ _ _ k (ho k hk.symm)
end Go.Proofs.Ytabjfehhibeeiaa.Seq
