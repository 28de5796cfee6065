/- Within a round: a region that draws its order, by a proof over the plain walk's orders; a quiet head and a tail. -/
import Derived.Test.YtgmaiknbogcpgaaFogx0
import Derived.Test.YtgmaiknbogcpgaaQuietTail
import Derived.Test.YtgmaiknbogcpgaaRangeV
namespace Go.Proofs.Ytgmaiknbogcpgaa.Seq
open Go.RowKit Go.Proofs.Ytgmaiknbogcpgaa.QTail
set_option linter.unusedVariables false
variable {P : Program} {n : Nat}
/-- Nothing but the normal way out. -/
def normQ (Post : Act → World → Prop) : Exit → Act → World → Prop := fun e a w => e = .normal ∧ Post a w
theorem op_of_plain (l : Nat) {o : Oper} {a : Act} {w : World} {K K' : Act → World → Prop} {Post : Act → World → Prop} {Q : Exit → Act → World → Prop} (hnd : ∀ c, o.op ≠ Op.defer c) (h : o.wp P a w K (normQ Post)) (hK : ∀ a w, K a w → K' a w) :
    o.wpIn (Fence.wide.inRound l) n P a w K' Q := by
  refine ⟨fun _ _ => trivial, ?_⟩
  rw [Oper.semAt_eq _ _ _ hnd]
  change o.upon P a _ _ ((execOp a.eval o).run P w) at h
  generalize (execOp a.eval o).run P w = r at h ⊢
  rcases r with ⟨x, w'⟩ | ⟨x, w'⟩
  · cases x with
    | value u => exact hK _ _ h
    | skip => exact hK _ _ h
    | defer d => exact hK _ _ h
    | enter f args => exact ⟨fun hd => (by cases hd), callsIn_wide.2 (h.mono fun e w'' he => by
        cases e with
        | returned v => exact hK _ _ he
        | panicked c => exact absurd he.1 (by simp)
        | outgrown => obtain ⟨_, _, h1, _⟩ := he; cases h1)⟩
    | row r args => exact ⟨fun hd => (by cases hd), fun c cs _ => let ⟨v, w', hr, hs⟩ := h c cs; ⟨v, w', hK _ _ hr, stepsIn_wide.2 hs⟩⟩
    | _ => exact h.elim
  · cases x with
    | panic v => exact absurd h.1 (by simp)
    | _ => exact h.elim
theorem any_of_plain (l : Nat) {ops : Array Oper} {md : Region.Mode} {Q : Exit → Act → World → Prop} (hnd : ∀ (i : Nat) (o : Oper), ops[i]? = some o → ∀ c, o.op ≠ Op.defer c) : ∀ (fuel : Nat) (listed : Array Bool) (a : Act) (w : World),
    wpAny P md ops (normQ (Q .normal)) fuel listed a w → wpAnyIn (Fence.wide.inRound l) n P md ops Q fuel listed a w
  | 0, _, _, _, h => ⟨h.1, h.2.2⟩
  | fuel + 1, _, a, w, h => ⟨fun h0 => (h.1 h0).2, fun i hi => by
    have hq := h.2 i hi
    unfold wpOp at hq
    unfold wpOpIn
    cases ho : ops[i]? with
    | none => rw [ho] at hq; exact any_of_plain l hnd fuel _ _ _ hq
    | some o =>
      rw [ho] at hq
      dsimp only at hq ⊢
      by_cases hwn : Region.wanted o (yielded ops a.tmps) = true
      · rw [if_pos hwn] at hq ⊢
        rcases hq with hq | ⟨_, _, _, hq⟩
        · exact op_of_plain l (hnd i o ho) hq (fun a' w' h' => any_of_plain l hnd fuel _ _ _ h')
        · cases hq.1
      · rw [if_neg hwn] at hq ⊢
        exact ⟨fun _ _ => trivial, any_of_plain l hnd fuel _ _ _ hq⟩⟩
theorem noDefer_spec {l : List Oper} (hnd : noDefer l = true) : ∀ (i : Nat) (o : Oper), l.toArray[i]? = some o → ∀ c, o.op ≠ Op.defer c := by
  intro i o ho c e
  have h1 := List.all_eq_true.1 hnd o (List.mem_of_getElem? (by simpa using ho))
  rw [e] at h1
  cases h1
/-- A drawn region within a round: a quiet head of m operations, then a tail. -/
theorem wpIn_region_tail_round (r : Nat) {id : Nat} {Q : Exit → Act → World → Prop} {a : Act} {w : World} {l : List Oper} (m : Nat) (hnd : noDefer l = true) (hm : P.follows .mixedOrders = true) (hB : Region.lexTailB .any l.toArray m = true)
    (h : wpQuiet P l.toArray (fun w' => ∃ n, w' = w.drewN n) (fun a' => ∀ nq, wpList P l.toArray (normQ (Q .normal)) (l.drop m) a' (w.drewN nq)) (l.take m) a) : (Code.region id l.toArray true).wpIn (Fence.wide.inRound r) n P Q a w := by
  simp only [Region.lexTailB, Bool.and_eq_true, decide_eq_true_eq] at hB
  obtain ⟨⟨⟨⟨hsel, hn⟩, hs⟩, hc⟩, hlex⟩ := hB
  have hn' : m < l.length := by simpa using hn
  have htl : (l.take m).length = m := by simp; omega
  have hdl : (l.drop m).length = l.toArray.size - m := by simp
  have inv0 : HeadInv .any l.toArray m (Array.replicate l.toArray.size false) :=
    ⟨by simp, fun j oj _ hl => (by rw [getD_replicate_false] at hl; cases hl), fun t _ ht => getD_in (by simpa using ht) (getD_replicate_false _ _)⟩
  have H := headQ_lex (md := .any) (g := l.toArray.size - m) hsel hs hc hn (l.take m) 0 _ a (fun j hj => by
    have hj' : j < m := by rw [htl] at hj; exact hj
    simp [hj']) (by simpa using htl) inv0 (by rw [htl]; exact hlex) h
  refine wpIn_region_any hm (any_of_plain r (noDefer_spec hnd) _ _ _ _ ?_)
  have := any_of_headQ (Q' := normQ (Q .normal)) (g := l.toArray.size - m) (fun listed a' w' hw' hL => by
    obtain ⟨nq, rfl⟩ := hw'
    have := wpAny_of_seq (md := .any) (Q' := normQ (Q .normal)) (l.drop m) m listed a' (w.drewN nq) (fun j => by simp [List.getElem?_drop]) (by rw [hdl]; exact hL.1) (hL.2 nq)
    rwa [hdl] at this) _ _ _ _ ⟨1, rfl⟩ H
  rw [htl, show m + (l.toArray.size - m) = l.toArray.size by omega] at this
  exact this
end Go.Proofs.Ytgmaiknbogcpgaa.Seq
