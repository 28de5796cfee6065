/- A range over a function whose rounds hand over what stands in the world just then (fresh copies): the law of the statement, outermost and within a round. -/
import Derived.Test.YtgmaiknbogcpgaaFogx0
import Derived.RangeFuncNested
import Derived.RangeFuncBound
import Derived.Sort.QuietIn
import Derived.Lib.QuietBelowIn
namespace Go.Proofs.Ytgmaiknbogcpgaa.Seq
open Go.RowKit
set_option linter.unusedVariables false
/-- What an iterator's closure owes: round k hands over an x with 'V k x' in that very world; N rounds at most. -/
def SeqV {α : Type} (F : Fence) (n : Nat) (P : Program) (g : Nat) (lb : Array Value) (encs : α → Array Value) (V : Nat → α → World → Prop) (Kp : World → World → Prop) (N : Nat) (w : World) : Prop :=
  ∀ (l : Nat) (J : Nat → World → Prop) (Jx : World → Prop) (W : World), Below w.heap.size w W → (∀ k X Y, J k X → Below X.heap.size X Y → J k Y) → (∀ X Y, Jx X → Below X.heap.size X Y → Jx Y) →
    (∀ k x X, J k X → V k x X → k < N → YieldAt F (n - 1) P l (encs x) X fun e Y => (e = .returned (.bool true) ∧ J (k + 1) Y ∧ Kp X Y) ∨ (e = .returned (.bool false) ∧ Jx Y)) →
    J 0 W → CallsIn F n P g (#[.func (.yield l) #[] #[]] ++ lb) W fun e Y => (∃ v, e = .returned v) ∧ (J N Y ∨ Jx Y)
/-- How a round's body may be left. -/
def postV (B : Nat) (Kp : World → World → Prop) (I1 : World → Prop) (Ix : Code → World → Prop) (X : World) : Exit → Act → World → Prop
  | .normal, _, Y => KeepsFrom B X Y ∧ Kp X Y ∧ I1 Y
  | .ret, _, Y => KeepsFrom B X Y ∧ Ix .ret Y
  | .exit id, _, Y => KeepsFrom B X Y ∧ Ix (.exit id) Y
  | .goto t, _, Y => KeepsFrom B X Y ∧ Ix (.goto t) Y
  | .panic _, _, _ => False
  | .outgrown, _, _ => False
/-- What is said of cells of the caller's own: new blocks and a turned record beyond B do not touch it. -/
structure Lasts (B : Nat) (I : World → Prop) : Prop where
  grow : ∀ X Y, I X → Below X.heap.size X Y → I Y
  put : ∀ X l o o', B ≤ l → X.heap[l]? = some o → o.isCells = false → I X → I (X.putObj l o')
variable {F : Fence} {n m : Nat} {P : Program}
theorem Lasts.below {B n₀ : Nat} {w : World} (h : n₀ ≤ B) : Lasts B (fun W => Below n₀ w W ∧ B ≤ W.heap.size) :=
  ⟨fun X Y hx hb => ⟨hx.1.trans (hb.mono (by have := hx.2; omega)), Nat.le_trans hx.2 hb.size⟩,
   fun X l o o' hl ho _ hx => ⟨hx.1.trans ⟨rfl, rfl, rfl, by simp, fun k hk => World.putObj_heap_other (by omega)⟩, by simpa using hx.2⟩⟩
theorem Lasts.and {B : Nat} {I I' : World → Prop} (h : Lasts B I) (h' : Lasts B I') : Lasts B (fun W => I W ∧ I' W) :=
  ⟨fun X Y hx hb => ⟨h.grow X Y hx.1 hb, h'.grow X Y hx.2 hb⟩, fun X l o o' hl ho hc hx => ⟨h.put X l o o' hl ho hc hx.1, h'.put X l o o' hl ho hc hx.2⟩⟩
theorem Lasts.size (B b : Nat) : Lasts B (fun W => b ≤ W.heap.size) := ⟨fun _ _ h hb => Nat.le_trans h hb.size, fun _ _ _ _ _ _ _ h => by simpa using h⟩
theorem keeps_below {B : Nat} {X Y : World} (h : Below X.heap.size X Y) : KeepsFrom B X Y := ⟨h.size, fun k o _ hk _ => (h.block k (Array.getElem?_eq_some_iff.1 hk).1).trans hk⟩
theorem Lasts.keeps {B B' : Nat} {X : World} (h : X.heap.size ≤ B') : Lasts B' (fun W => KeepsFrom B X W) :=
  ⟨fun Y Z hy hb => hy.trans (keeps_below hb), fun Y l o o' hl ho hc hy => ⟨by simpa using hy.size, fun k o1 hk h0 h1 => (World.putObj_heap_other (fun e => by have := (Array.getElem?_eq_some_iff.1 h0).1; omega)).trans (hy.same k o1 hk h0 h1)⟩⟩
theorem Lasts.low {B D : Nat} {o : Obj} (h : D < B) : Lasts B (fun W => W.heap[D]? = some o) :=
  ⟨fun Y Z hy hb => (hb.block D (Array.getElem?_eq_some_iff.1 hy).1).trans hy, fun Y l o1 o' hl ho hc hy => (World.putObj_heap_other (by omega)).trans hy⟩
theorem Lasts.const (B : Nat) (p : Prop) : Lasts B (fun _ => p) := ⟨fun _ _ h _ => h, fun _ _ _ _ _ _ _ h => h⟩
theorem Lasts.ex {B : Nat} {β : Type} {I : β → World → Prop} (h : ∀ b, Lasts B (I b)) : Lasts B (fun W => ∃ b, I b W) :=
  ⟨fun X Y ⟨b, hx⟩ hb => ⟨b, (h b).grow X Y hx hb⟩, fun X l o o' hl ho hc ⟨b, hx⟩ => ⟨b, (h b).put X l o o' hl ho hc hx⟩⟩
theorem Lasts.boxed (B b : Nat) (t : TypeId) (v : Value) : Lasts B (fun W => Boxed W b t v) :=
  ⟨fun X Y hx hb => (hb.block b hx.lt).trans hx, fun X l o o' hl ho hc hx => (World.putObj_heap_other (fun e => by
    subst e; rw [show X.heap[b]? = _ from hx] at ho; cases ho; cases hc)).trans hx⟩
/-- One round, out of its assignments and its body. -/
theorem yield_round {fn : FuncId} (hfn : F.fn fn) {l : Nat} {r : Loop} {args tmps : Array Value} {ps : Array Tmp} {assign body : Code} {W : World} {R : Ending → World → Prop} (hrf : r.fn = fn) (hra : r.assign = assign) (hrb : r.body = body) (hrp : r.params = ps) (hrt : r.tmps = tmps) (hl : W.heap[l]? = some (.loop r)) (hr : r.state = .ready) (hs : args.size = ps.size)
    (h : assign.wpIn (F.inRound l) m P (Exit.then (fun a' W' => W'.heap[l]? = some (.loop r) ∧ body.wpIn (F.inRound l) m P (roundPost P l R) a' (W'.putObj l (.loop { r with state := .busy }))) (fun _ _ _ => False)) { tmps := (ps.zip args).foldl (fun t (p, v) => t.setIfInBounds p v) tmps, defers := [] } W) : YieldAt F m P l args W R := by
  subst hra hrb hrp hrt
  exact ⟨_, _, _, _, run_yield hl hs, roundIn_of_wpIn (hrf ▸ hfn) (wpIn_mono h fun e a' W' hq => by
    cases e with
    | normal => exact ⟨_, run_beginRound hq.1 hr, hq.2⟩
    | _ => exact hq)⟩
/-- A body's end, as the record sees it. -/
theorem roundPost_of {l : Nat} {r : Loop} {B : Nat} (hB : B ≤ l) {Kp : World → World → Prop} {I1 : World → Prop} {Ix : Code → World → Prop} {X : World} {R : Ending → World → Prop} (hl : X.heap[l]? = some (.loop r))
    (h1 : ∀ Y, KeepsFrom B X Y → Kp X Y → I1 Y → Y.heap[l]? = some (.loop r) → R (.returned (.bool true)) (Y.putObj l (.loop { r with state := .ready, pending := none })))
    (h2 : ∀ c Y, KeepsFrom B X Y → Ix c Y → Y.heap[l]? = some (.loop r) → R (.returned (.bool false)) (Y.putObj l (.loop { r with state := .done, pending := some c }))) :
    ∀ e a Y, postV B Kp I1 Ix X e a Y → roundPost P l R e a Y
  | .normal, _, Y, h => by have h3 := h.1.same l _ hB hl rfl; exact ⟨_, _, run_endRound none h3, h1 Y h.1 h.2.1 h.2.2 h3⟩
  | .ret, _, Y, h => by have h3 := h.1.same l _ hB hl rfl; exact ⟨_, _, run_endRound (some .ret) h3, h2 .ret Y h.1 h.2 h3⟩
  | .exit id, _, Y, h => by have h3 := h.1.same l _ hB hl rfl; exact ⟨_, _, run_endRound (some (.exit id)) h3, h2 (.exit id) Y h.1 h.2 h3⟩
  | .goto t, _, Y, h => by have h3 := h.1.same l _ hB hl rfl; exact ⟨_, _, run_endRound (some (.goto t)) h3, h2 (.goto t) Y h.1 h.2 h3⟩
  | .panic _, _, _, h => h.elim
  | .outgrown, _, _, h => h.elim
section law
variable {α : Type} {g : Operand} {ps : Array Tmp} {assign body : Code} {Q : Exit → Act → World → Prop} {a : Act} {w : World}
  (h1 : 1 ≤ n) {gf : Nat} {lb : Array Value} (hg : a.eval g = .func (.func gf) #[] lb) (hFg : F.fn gf) (eg : ∀ args w, (callFunc gf args).run P w = .ok (.enter gf args) w)
  {encs : α → Array Value} {V : Nat → α → World → Prop} {Kp : World → World → Prop} {N : Nat} {w0 : World} (hseq : SeqV F (n - 1) P gf lb encs V Kp N w0)
  (hKt : ∀ {A B C : World}, Kp A B → Kp B C → Kp A C) (hKb : ∀ (W : World) (l : Nat) (o o' : Obj), w.heap.size ≤ l → W.heap[l]? = some o → o.isCells = false → Kp W (W.putObj l o'))
  (hb0 : Below w0.heap.size w0 w) (hps : ∀ x, (encs x).size = ps.size)
  (I : Nat → World → Prop) (Ix : Code → World → Prop) (hI : ∀ k, Lasts w.heap.size (I k)) (hIx : ∀ c, Lasts w.heap.size (Ix c)) (h0 : I 0 w)
  (hround : ∀ (l k : Nat) (x : α) (W : World), w.heap.size ≤ l → I k W → V k x W → k < N →
    assign.wpIn (F.inRound l) (n - 1 - 1) P (Exit.then (fun a' W' => KeepsFrom w.heap.size W W' ∧ Kp W W' ∧ ∀ W'', (∃ r, W''.heap[l]? = some (.loop r)) → (∀ J : World → Prop, Lasts w.heap.size J → J W' → J W'') →
      body.wpIn (F.inRound l) (n - 1 - 1) P (postV w.heap.size Kp (I (k + 1)) Ix W'') a' W'') (fun _ _ _ => False)) { tmps := (ps.zip (encs x)).foldl (fun t (p, v) => t.setIfInBounds p v) a.tmps, defers := [] } W)
include h1 hg hFg eg hseq hKt hKb hb0 hps hI hIx h0 hround
theorem wpIn_rangeV_out (hro : F.round = none)
    (hdone : ∀ (D : Nat) (W : World), w.heap.size ≤ D → I N W → W.heap[D]? = some (.deferred (some [])) → Q .normal { a with defers := { target := .collected D, args := #[] } :: a.defers } W)
    (hstop : ∀ (D : Nat) (c : Code) (W : World), w.heap.size ≤ D → Ix c W → W.heap[D]? = some (.deferred (some [])) → c.wpIn F n P Q { a with defers := { target := .collected D, args := #[] } :: a.defers } W) :
    (Code.rangeFunc g ps assign body).wpIn F n P Q a w := by
  refine wpIn_rangeFunc fun fn hfn => ?_
  rw [hro]
  obtain ⟨r, hr⟩ : ∃ r : Loop, r = { state := .ready, pending := none, fn, tmps := a.tmps, params := ps, assign, body, defers := w.heap.size } := ⟨_, rfl⟩
  obtain ⟨W1, hW1⟩ : ∃ W1, (w.alloc (.deferred (some []))).alloc (.loop r) = W1 := ⟨_, rfl⟩
  have hL1 : W1.heap[w.heap.size + 1]? = some (.loop r) := by
    rw [← hW1]; have := World.alloc_heap_new (w.alloc (.deferred (some []))) (.loop r); rwa [World.size_alloc] at this
  have hK1 : W1.heap[w.heap.size]? = some (.deferred (some [])) := by
    rw [← hW1]; exact (Below.heap_alloc _ _ _ (by simp)).trans (World.alloc_heap_new w _)
  have hgr : Below w.heap.size w W1 := by rw [← hW1]; exact ((Below.refl _ w).alloc (Nat.le_refl _) _).alloc (by simp) _
  refine ⟨w.heap.size + 1, [{ target := .collected w.heap.size, args := #[] }], W1, { target := .fn (.func gf) lb, args := #[.func (.yield (w.heap.size + 1)) #[] #[]] }, W1, gf,
    #[.func (.yield (w.heap.size + 1)) #[] #[]] ++ lb, W1, ?_, ?_, ?_, ?_, fun _ => h1, ?_⟩
  · rw [← hW1, hr]; exact run_enterLoop_outer _ _ _ _ _
  · simp only [resolve, hg]
    simp [go_sem]
  · intro f' hf'; simp [Target.leads] at hf'; subst hf'; exact hFg
  · simp [invoke, go_sem, eg]
  · refine (hseq (w.heap.size + 1) (fun k W => I k W ∧ W.heap[w.heap.size + 1]? = some (.loop r) ∧ W.heap[w.heap.size]? = some (.deferred (some [])))
      (fun W => ∃ c, Ix c W ∧ W.heap[w.heap.size + 1]? = some (.loop { r with state := .done, pending := some c }) ∧ W.heap[w.heap.size]? = some (.deferred (some [])))
      W1 (hb0.trans (hgr.mono hb0.size))
      (fun k X Y h hb => ⟨(hI k).grow X Y h.1 hb, (hb.block _ (Array.getElem?_eq_some_iff.1 h.2.1).1).trans h.2.1, (hb.block _ (Array.getElem?_eq_some_iff.1 h.2.2).1).trans h.2.2⟩)
      (fun X Y ⟨c, h⟩ hb => ⟨c, (hIx c).grow X Y h.1 hb, (hb.block _ (Array.getElem?_eq_some_iff.1 h.2.1).1).trans h.2.1, (hb.block _ (Array.getElem?_eq_some_iff.1 h.2.2).1).trans h.2.2⟩)
      ?_ ⟨(hI 0).grow _ _ h0 hgr, hL1, hK1⟩).mono ?_
    · rintro k x W ⟨hi, hl, hk⟩ hv hlt
      refine yield_round hfn (by rw [hr]) (by rw [hr]) (by rw [hr]) (by rw [hr]) (by rw [hr]) hl (by rw [hr]) (hps x) ?_
      refine wpIn_mono (hround (w.heap.size + 1) k x W (by omega) hi hv hlt) fun e a' W' hq => ?_
      cases e with
      | normal => ?_
      | _ => exact hq
      obtain ⟨hkf0, hkp0, hbody⟩ := hq
      have hl' := hkf0.same _ _ (by omega) hl rfl
      have hk' := hkf0.same _ _ (Nat.le_refl _) hk rfl
      have hl2 : (W'.putObj (w.heap.size + 1) (.loop { r with state := .busy })).heap[w.heap.size + 1]? = some (.loop { r with state := .busy }) := World.putObj_heap_same (Array.getElem?_eq_some_iff.1 hl').1
      have hk2 : (W'.putObj (w.heap.size + 1) (.loop { r with state := .busy })).heap[w.heap.size]? = some (.deferred (some [])) := (World.putObj_heap_other (by omega)).trans hk'
      refine ⟨hl', wpIn_mono (hbody _ ⟨_, hl2⟩ fun J hJ hj => hJ.put _ _ _ _ (by omega) hl' rfl hj) (roundPost_of (by omega) hl2 ?_ ?_)⟩
      · intro Y hkf hkp hi3 hl3
        refine .inl ⟨rfl, ⟨(hI (k + 1)).put _ _ _ _ (by omega) hl3 rfl hi3, ?_, (World.putObj_heap_other (by omega)).trans (hkf.same _ _ (Nat.le_refl _) hk2 rfl)⟩, hKt hkp0 (hKt (hKt (hKb _ _ _ _ (by omega) hl' rfl) hkp) (hKb _ _ _ _ (by omega) hl3 rfl))⟩
        rw [World.putObj_heap_same (Array.getElem?_eq_some_iff.1 hl3).1, hr]
      · intro c Y hkf hx hl3
        exact .inr ⟨rfl, c, (hIx c).put _ _ _ _ (by omega) hl3 rfl hx, World.putObj_heap_same (Array.getElem?_eq_some_iff.1 hl3).1, (World.putObj_heap_other (by omega)).trans (hkf.same _ _ (Nat.le_refl _) hk2 rfl)⟩
    · rintro e W2 ⟨⟨v, rfl⟩, (⟨hi, hl, hk⟩ | ⟨c, hi, hl, hk⟩)⟩
      · exact ⟨none, _, by have := run_endLoop (P := P) hl (by rw [hr]; simp); rw [show r.pending = none by rw [hr]] at this; exact this, hdone _ _ (Nat.le_refl _) ((hI N).put _ _ _ _ (by omega) hl rfl hi) ((World.putObj_heap_other (by omega)).trans hk)⟩
      · exact ⟨some c, _, run_endLoop (P := P) hl (by simp), hstop _ c _ (Nat.le_refl _) ((hIx c).put _ _ _ _ (by omega) hl rfl hi) ((World.putObj_heap_other (by omega)).trans hk)⟩
theorem wpIn_rangeV_in {l₀ : Nat} {r₀ : Loop} (hro : F.round = some l₀) (hl₀ : w.heap[l₀]? = some (.loop r₀))
    (hdone : ∀ (W : World), I N W → Q .normal a W) (hstop : ∀ (c : Code) (W : World), Ix c W → c.wpIn F n P Q a W) :
    (Code.rangeFunc g ps assign body).wpIn F n P Q a w := by
  refine wpIn_rangeFunc fun fn hfn => ?_
  rw [hro]
  obtain ⟨r, hr⟩ : ∃ r : Loop, r = { state := .ready, pending := none, fn, tmps := a.tmps, params := ps, assign, body, defers := r₀.defers } := ⟨_, rfl⟩
  obtain ⟨W1, hW1⟩ : ∃ W1, w.alloc (.loop r) = W1 := ⟨_, rfl⟩
  have hL1 : W1.heap[w.heap.size]? = some (.loop r) := by rw [← hW1]; exact World.alloc_heap_new w _
  have hgr : Below w.heap.size w W1 := by rw [← hW1]; exact (Below.refl _ w).alloc (Nat.le_refl _) _
  refine ⟨w.heap.size, [], W1, { target := .fn (.func gf) lb, args := #[.func (.yield w.heap.size) #[] #[]] }, W1, gf,
    #[.func (.yield w.heap.size) #[] #[]] ++ lb, W1, ?_, ?_, ?_, ?_, fun _ => h1, ?_⟩
  · rw [← hW1, hr]; exact run_enterLoop_inner hl₀ _ _ _ _ _
  · simp only [resolve, hg]
    simp [go_sem]
  · intro f' hf'; simp [Target.leads] at hf'; subst hf'; exact hFg
  · simp [invoke, go_sem, eg]
  · refine (hseq w.heap.size (fun k W => I k W ∧ W.heap[w.heap.size]? = some (.loop r)) (fun W => ∃ c, Ix c W ∧ W.heap[w.heap.size]? = some (.loop { r with state := .done, pending := some c }))
      W1 (hb0.trans (hgr.mono hb0.size))
      (fun k X Y h hb => ⟨(hI k).grow X Y h.1 hb, (hb.block _ (Array.getElem?_eq_some_iff.1 h.2).1).trans h.2⟩)
      (fun X Y ⟨c, h⟩ hb => ⟨c, (hIx c).grow X Y h.1 hb, (hb.block _ (Array.getElem?_eq_some_iff.1 h.2).1).trans h.2⟩)
      ?_ ⟨(hI 0).grow _ _ h0 hgr, hL1⟩).mono ?_
    · rintro k x W ⟨hi, hl⟩ hv hlt
      refine yield_round hfn (by rw [hr]) (by rw [hr]) (by rw [hr]) (by rw [hr]) (by rw [hr]) hl (by rw [hr]) (hps x) ?_
      refine wpIn_mono (hround w.heap.size k x W (Nat.le_refl _) hi hv hlt) fun e a' W' hq => ?_
      cases e with
      | normal => ?_
      | _ => exact hq
      obtain ⟨hkf0, hkp0, hbody⟩ := hq
      have hl' := hkf0.same _ _ (Nat.le_refl _) hl rfl
      have hl2 : (W'.putObj w.heap.size (.loop { r with state := .busy })).heap[w.heap.size]? = some (.loop { r with state := .busy }) := World.putObj_heap_same (Array.getElem?_eq_some_iff.1 hl').1
      refine ⟨hl', wpIn_mono (hbody _ ⟨_, hl2⟩ fun J hJ hj => hJ.put _ _ _ _ (Nat.le_refl _) hl' rfl hj) (roundPost_of (Nat.le_refl _) hl2 ?_ ?_)⟩
      · intro Y hkf hkp hi3 hl3
        refine .inl ⟨rfl, ⟨(hI (k + 1)).put _ _ _ _ (Nat.le_refl _) hl3 rfl hi3, ?_⟩, hKt hkp0 (hKt (hKt (hKb _ _ _ _ (Nat.le_refl _) hl' rfl) hkp) (hKb _ _ _ _ (Nat.le_refl _) hl3 rfl))⟩
        rw [World.putObj_heap_same (Array.getElem?_eq_some_iff.1 hl3).1, hr]
      · intro c Y hkf hx hl3
        exact .inr ⟨rfl, c, (hIx c).put _ _ _ _ (Nat.le_refl _) hl3 rfl hx, World.putObj_heap_same (Array.getElem?_eq_some_iff.1 hl3).1⟩
    · rintro e W2 ⟨⟨v, rfl⟩, (⟨hi, hl⟩ | ⟨c, hi, hl⟩)⟩
      · exact ⟨none, _, by have := run_endLoop (P := P) hl (by rw [hr]; simp); rw [show r.pending = none by rw [hr]] at this; exact this, hdone _ ((hI N).put _ _ _ _ (Nat.le_refl _) hl rfl hi)⟩
      · exact ⟨some c, _, run_endLoop (P := P) hl (by simp), hstop c _ ((hIx c).put _ _ _ _ (Nat.le_refl _) hl rfl hi)⟩
end law
section quiet
variable {ops : Array Oper} {C : World → Prop}
/-- A region that draws its order and only reads, within a round: no operation of it is a defer statement. -/
theorem op_quietR {o : Oper} {a : Act} {K : Act → Prop} {K' : Act → World → Prop} {Q' : Exit → Act → World → Prop} {w : World} (hnd : ∀ c, o.op ≠ .defer c) (hw : C w) (h : ∀ a w', C w' → K a → K' a w')
    (ha : o.askedIn F P a C) (hh : o.quietIn F n P a C K) : o.wpIn F n P a w K' Q' := by
  obtain ⟨v, h1, h2⟩ := hh
  have h3 := h1 w hw
  refine ⟨ha w hw, ?_⟩
  rw [Oper.semAt_eq _ _ _ hnd]
  change Oper.quietUponIn F n P C w v ((execOp a.eval o).run P w) at h3
  generalize (execOp a.eval o).run P w = r at h3 ⊢
  rcases r with ⟨x, w'⟩ | ⟨x, w'⟩
  · cases x with
    | value u => obtain ⟨rfl, rfl⟩ := h3; exact h _ _ hw h2
    | skip => obtain ⟨rfl, rfl⟩ := h3; exact h _ _ hw h2
    | enter f args => obtain ⟨rfl, hd, hc⟩ := h3; exact ⟨hd, hc.mono fun e w'' he => by obtain ⟨rfl, hq⟩ := he; exact h _ _ hq h2⟩
    | _ => exact h3.elim
  · exact h3.elim
theorem any_quietR {Q : Act → Prop} {Q' : Exit → Act → World → Prop} (hnd : ∀ (i : Nat) (o : Oper), ops[i]? = some o → ∀ c, o.op ≠ Op.defer c) (hQ : ∀ a w, C w → Q a → Q' .normal a w) : ∀ (fuel : Nat) (listed : Array Bool) (a : Act) (w : World), C w →
    wpAnyQIn F n P .any ops C Q fuel listed a → wpAnyIn F n P .any ops Q' fuel listed a w
  | 0, _, _, _, hw, h => ⟨h.1, hQ _ _ hw h.2⟩
  | fuel + 1, _, a, w, hw, h => ⟨fun h0 => hQ _ _ hw (h.1 h0), fun i hi => by
    have hq := h.2 i hi
    unfold qOpIn at hq
    unfold wpOpIn
    cases ho : ops[i]? with
    | none => rw [ho] at hq; exact any_quietR hnd hQ fuel _ _ _ hw hq
    | some o =>
      rw [ho] at hq
      obtain ⟨ha, hq⟩ := hq
      dsimp only
      by_cases hwn : Region.wanted o (yielded ops a.tmps) = true
      · rw [if_pos hwn] at hq ⊢
        exact op_quietR (hnd i o ho) hw (fun a' w' hw' h' => any_quietR hnd hQ fuel _ _ _ hw' h') ha hq
      · rw [if_neg hwn] at hq ⊢
        exact ⟨ha w hw, any_quietR hnd hQ fuel _ _ _ hw hq⟩⟩
def noDefer (l : List Oper) : Bool := l.all fun o => match o.op with | .defer _ => false | _ => true
theorem wpIn_quiet_round_of {id : Nat} {Q : Exit → Act → World → Prop} {a : Act} {w : World} {l : List Oper} (hnd : noDefer l = true) (hm : P.follows .mixedOrders = true) (hB : Region.lexB .any l.toArray = true) (hC : C { w with drawn := w.drawn + 1 })
    (h : wpQuietIn F n P l.toArray C (fun a' => ∀ w', C w' → Q .normal a' w') l a) : (Code.region id l.toArray true).wpIn F n P Q a w := by
  simp only [Region.lexB, Bool.and_eq_true] at hB
  have hd : ∀ (i : Nat) (o : Oper), l.toArray[i]? = some o → ∀ c, o.op ≠ Op.defer c := by
    intro i o ho c e
    have h1 := List.all_eq_true.1 hnd o (List.mem_of_getElem? (by simpa using ho))
    rw [e] at h1
    cases h1
  refine wpIn_region_any hm (any_quietR (C := C) (Q := fun a' => ∀ w', C w' → Q .normal a' w') hd (fun _ w' hw' h => h w' hw') _ _ _ _ hC ?_)
  have := wpAnyQIn_lex (F := F) (n := n) (C := C) (md := .any) hB.1 l 0 (Array.replicate l.toArray.size false) a (by simp) (by simpa using hB.2) h
  simpa using this
theorem wpIn_quiet_round {id : Nat} {Q : Exit → Act → World → Prop} {a : Act} {w : World} {l : List Oper} (hnd : noDefer l = true) (hm : P.follows .mixedOrders = true) (hB : Region.lexB .any l.toArray = true)
    (h : wpQuietIn F n P l.toArray (fun w' => ∃ n, w' = w.drewN n) (fun a' => ∀ w', (∃ n, w' = w.drewN n) → Q .normal a' w') l a) : (Code.region id l.toArray true).wpIn F n P Q a w :=
  wpIn_quiet_round_of (C := fun w' => ∃ n, w' = w.drewN n) hnd hm hB ⟨1, rfl⟩ h
/-- The same where the callees lay blocks. -/
theorem wpIn_below_round {id : Nat} {Q : Exit → Act → World → Prop} {a : Act} {w : World} {l : List Oper} (hnd : noDefer l = true) (hm : P.follows .mixedOrders = true) (hB : Region.lexB .any l.toArray = true)
    (h : wpQuietIn F n P l.toArray (fun w' => ∃ p : Regrown, w' = Sort.grow (redrawn w p.d) p.os) (fun a' => ∀ w', (∃ p : Regrown, w' = Sort.grow (redrawn w p.d) p.os) → Q .normal a' w') l a) : (Code.region id l.toArray true).wpIn F n P Q a w :=
  wpIn_quiet_round_of (C := fun w' => ∃ p : Regrown, w' = Sort.grow (redrawn w p.d) p.os) hnd hm hB ⟨⟨w.drawn + 1, #[]⟩, by rw [Sort.grow_empty]; rfl⟩ h
end quiet
/-- One operation by a law of the plain walk. -/
theorem wpListIn_of_plain {ops : Array Oper} {Q : Exit → Act → World → Prop} {o : Oper} {rest : List Oper} {a : Act} {w : World} (l : Nat) (Post : Act → World → Prop) (hnd : ∀ c, o.op ≠ Op.defer c) (hw : Region.wanted o (yielded ops a.tmps) = true)
    (h : wpList P ops (fun e a' w' => e = .normal ∧ Post a' w') [o] a w) (hK : ∀ a' w', Post a' w' → wpListIn (Fence.wide.inRound l) n P ops Q rest a' w') : wpListIn (Fence.wide.inRound l) n P ops Q (o :: rest) a w := by
  unfold wpListIn
  unfold wpList at h
  rw [if_pos hw] at h ⊢
  refine ⟨fun _ _ => trivial, ?_⟩
  rw [Oper.semAt_eq _ _ _ hnd]
  rcases h with h | ⟨_, _, _, h⟩
  · change o.upon P a _ _ ((execOp a.eval o).run P w) at h
    generalize (execOp a.eval o).run P w = r at h ⊢
    rcases r with ⟨x, w'⟩ | ⟨x, w'⟩
    · cases x with
      | value u => exact hK _ _ h.2
      | skip => exact hK _ _ h.2
      | defer d => exact hK _ _ h.2
      | enter f args => exact ⟨fun hd => (by cases hd), callsIn_wide.2 (h.mono fun e w'' he => by
          cases e with
          | returned v => exact hK _ _ he.2
          | panicked c => exact absurd he.1 (by simp)
          | outgrown => obtain ⟨_, _, h1, _⟩ := he; cases h1)⟩
      | row r args => exact ⟨fun hd => (by cases hd), fun c cs _ => let ⟨v, w', hr, hs⟩ := h c cs; ⟨v, w', hK _ _ hr.2, stepsIn_wide.2 hs⟩⟩
      | _ => exact h.elim
    · cases x with
      | panic v => exact absurd h.1 (by simp)
      | _ => exact h.elim
  · cases h.1
/-- What follows where a region ends as it should: no panic of it is borne. -/
def onlyNormal (Q : Exit → Act → World → Prop) : Exit → Act → World → Prop
  | .normal, a, w => Q .normal a w
  | _, _, _ => False
theorem wp_normal {c : Code} {Q : Exit → Act → World → Prop} {a : Act} {w : World} (h : c.wp P (onlyNormal Q) a w) : c.wp P Q a w :=
  wp_mono h fun e a w hq => by cases e <;> first | exact hq | exact hq.elim
theorem SeqV.inRound {α : Type} {g : Nat} {lb : Array Value} {encs : α → Array Value} {V : Nat → α → World → Prop} {Kp : World → World → Prop} {N : Nat} {w₀ : World} (l : Nat)
    (h : SeqV F n P g lb encs V Kp N w₀) : SeqV (F.inRound l) n P g lb encs V Kp N w₀ := h
theorem SeqV.later {α : Type} {g : Nat} {lb : Array Value} {encs : α → Array Value} {V : Nat → α → World → Prop} {Kp : World → World → Prop} {N : Nat} {w w' : World}
    (h : SeqV F n P g lb encs V Kp N w) (hb : Below w.heap.size w w') : SeqV F n P g lb encs V Kp N w' :=
  fun l J Jx W hW hJ hJx hY h0 => h l J Jx W (hb.trans (hW.mono hb.size)) hJ hJx hY h0
end Go.Proofs.Ytgmaiknbogcpgaa.Seq
