/- Rows through the rounds of a range over a function. -/
import Derived.Test.YtclhkbjcemgmnaaFogx0
import Derived.Test.YtclhkbjcemgmnaaRangeV
namespace Go.Proofs.Ytclhkbjcemgmnaa.Seq
open Go.RowKit Go.Proofs.YtclhkbjcemgmnaaW.PrintWords
set_option linter.unusedVariables false
set_option linter.unusedSimpArgs false
theorem Lasts.row {α : Type} {d : Kd α} {e base B : Nat} {v : Value} {xs : List α} (hE : d.E = [] := by rfl) : Lasts B (fun W => d.R e W base (fun _ => True) v xs) :=
  ⟨fun X Y hx hb => Kd.R_below hx hb, fun X l o o' hl ho hc hx => by
    refine Kd.R_mono (Kd.R_move (Kd.R_bound (Kd.R_tight hE hx)) ?_) (fun _ _ => trivial)
    rintro k ⟨_, _, _, q, _, cells, hk⟩
    refine World.putObj_heap_other (fun e => ?_)
    subst e
    rw [hk] at ho
    cases ho
    cases hc⟩
theorem Lasts.block {B b : Nat} {cells : Array Value} {t : Nat} {fl : Nat × Nat} : Lasts B (fun W => W.heap[b]? = some (.cells cells t fl)) :=
  ⟨fun X Y hx hb => (hb.block b (Array.getElem?_eq_some_iff.1 hx).1).trans hx, fun X l o o' hl ho hc hx => (World.putObj_heap_other (fun e => by
    subst e
    rw [hx] at ho
    cases ho
    cases hc)).trans hx⟩
theorem Lasts.reads {α : Type} {d : Kd α} {e base B : Nat} {v : Value} {xs : List α} {W W' : World} (hT : ∀ J : World → Prop, Lasts B J → J W → J W') (h : d.R e W base (fun _ => True) v xs) (hE : d.E = [] := by rfl) : d.R e W' base (fun _ => True) v xs :=
  hT _ (Lasts.row (hE := hE)) h
theorem results_bool {P : Program} {fn : Func} {p : Tmp} {ty : TypeId} (h : fn.results = #[.cell p ty]) (hu : P.underlying ty = some .bool) (tmps : Array Value) (w : World) (g : Nat) (v : Bool) (hp : tmps.getD p undef = .pointer (some ⟨g, 0, none⟩)) (hc : w.cell? ⟨g, 0, none⟩ = some (.bool v)) : (results fn tmps).run P w = .ok (.bool v) w := by
  have hp' : tmps[p]?.getD undef = .pointer (some ⟨g, 0, none⟩) := by simpa using hp
  simp [results, h, hp', asAddr, go_sem, isAgg, run_underlying hu, hu, hc, Result.andThen]
end Go.Proofs.Ytclhkbjcemgmnaa.Seq
