/- slices.Backward: what its iterator hands over. -/
import Derived.Test.YtgmaiknbogcpgaaFogx0
import Derived.Test.YtgmaiknbogcpgaaTab
import Derived.RangeFuncCalls
import Derived.RangeFuncLeaves
import Derived.Shelf.Abstract
import Derived.Shelf.RegionOpen
import Derived.WalkKit
import Derived.OwnWalkIn
import Derived.TacticsInMore
import Derived.LoopNIn
import Derived.LoopIn
namespace Go.Proofs.Ytgmaiknbogcpgaa.Pure
open Go.RowKit Go.Shelf Go.Proofs.Ytgmaiknbogcpgaa.Fog Go.Proofs.YtgmaiknbogcpgaaW.PrintWords Go.Proofs.YtgmaiknbogcpgaaW.PrintLast Go.Proofs.YtgmaiknbogcpgaaW.PrintMore Go.Proofs.Ytgmaiknbogcpgaa.Kit Go.Proofs.Ytgmaiknbogcpgaa.Seq
set_option linter.unusedVariables false
set_option linter.unusedSimpArgs false
attribute [local go_sem] Oper.semAt_some
theorem backward_calls (A : Option Addr) (n c : Nat) (w : World) : Calls Try.prog 52 #[.slice A n c] w fun r w' => r = .returned (.func (.func 64) #[] #[.pointer (some ⟨w.heap.size, 0, none⟩)]) ∧ w' = w.alloc (.cells #[.slice A n c] 26) := by
  go_enter Try.func52, Try.ntmps52
  go_wp2
  go_ret
  exact ⟨rfl, rfl⟩
def bwEnc (l0 : List Int) (x : Nat) : Array Value := #[.int .i64 (x : Int), .int .i64 (l0.getD x 0)]
def KpB (Bs bw : Nat) (X Y : World) : Prop := Y.heap[Bs]? = X.heap[Bs]? ∧ Below bw X Y
def BwAt (n k x : Nat) (_ : World) : Prop := x + k + 1 = n
set_option maxRecDepth 100000 in
set_option maxHeartbeats 2000000 in
theorem back1_in (d : Nat) (hd : 1 ≤ d) (l Bs : Nat) (A : Option Addr) (c n : Nat) (hn : n ≤ 256) (l0 : List Int) (wv : World) (hC : Kd.C (Kd.int .i64) wv A n l0) (J : Nat → World → Prop) (Jx : World → Prop) (hJ : ∀ k X Y, J k X → Below X.heap.size X Y → J k Y)
    (hY : ∀ k x X, J k X → BwAt n k x X → k < n → YieldAt Fence.wide (d - 1) Try.prog l (bwEnc l0 x) X fun e Y => (e = .returned (.bool true) ∧ J (k + 1) Y ∧ KpB Bs wv.heap.size X Y) ∨ (e = .returned (.bool false) ∧ Jx Y))
    (W : World) (hb : W.heap[Bs]? = some (.cells #[.slice A n c] 26 (0, 0))) (hbl : Below wv.heap.size wv W) (h0 : J 0 W) :
    CallsIn Fence.wide d Try.prog 64 #[.func (.yield l) #[] #[], .pointer (some ⟨Bs, 0, none⟩)] W fun e Y => (∃ v, e = .returned v) ∧ (J n Y ∨ Jx Y) := by
  have HC := Aside0.mk hC
  have HY := Aside0.mk hY
  have hcb : W.cell? ⟨Bs, 0, none⟩ = some (.slice A n c) := (blk_cell hb 0).trans rfl
  have HBS := Aside0.mk hb
  have HBL := Aside0.mk hbl
  have hw0 : IntKind.i64.wrap ((n : Int) - 1) = (n : Int) - 1 := by rw [IntKind.wrap_i64]; omega
  have HN := Aside0.mk hn
  clear hC hY hb hbl
  refine callsIn_of_wp Try.func64 rfl trivial ?_ rfl
  simp only [Try.ntmps64, List.size_toArray, List.length_cons, List.length_nil, Nat.reduceAdd, Nat.reduceSub, Array.replicate_succ, Array.replicate_zero, List.push_toArray, List.append_toArray, List.nil_append, List.cons_append]
  gi_wp2
  clear hcb
  gi_loopw [3] (fun i wr => ∃ q k : Nat, q + k = n ∧ i = .int .i64 ((q : Int) - 1) ∧ Aside0 (J k wr) ∧ Aside0 (wr.heap[Bs]? = some (.cells #[.slice A n c] 26 (0, 0))) ∧ Aside0 (Below wv.heap.size wv wr)) (fun i _ => (intOf i + 1).toNat)
  case atStart => exact ⟨n, 0, rfl, rfl, ⟨h0⟩, HBS, HBL⟩
  case round =>
    obtain ⟨q, k, hqk, rfl, HJ, HB, HL⟩ := hrel
    cases q with
    | succ q =>
      have em : (((q + 1 : Nat) : Int)) - 1 = (q : Int) := by omega
      rw [em]
      have hcb : wr.cell? ⟨Bs, 0, none⟩ = some (.slice A n c) := (blk_cell HB.out 0).trans rfl
      obtain ⟨ad, hA, hc⟩ := int_at (Kd.C_below HC.out HL.out) q (by omega)
      subst hA
      obtain ⟨x, hx⟩ : ∃ x, l0.getD q 0 = x := ⟨_, rfl⟩
      have q1 : (q : Int) < (n : Int) := by omega
      have hI : IntKind.i64.wrap ((q : Int) - 1) = (q : Int) - 1 := by rw [IntKind.wrap_i64]; have := HN.out; omega
      obtain ⟨fn, tmps, assign, body, hy, hR⟩ := HY.out k q wr HJ.out (show q + k + 1 = n by omega) (by omega)
      dsimp only [bwEnc] at hy
      rw [hx] at hy hc
      have HQK := Aside0.mk hqk
      have HMS := Aside0.mk (show ((q : Int) - 1 + 1).toNat < ((q : Int) + 1).toNat by omega)
      clear hx hqk em
      gi_wp2
      refine hR.mono ?_
      rintro e W3 (⟨rfl, hJ3, hk3⟩ | ⟨rfl, hJx3⟩)
      · have HJ3 := Aside0.mk hJ3
        have HB3 := Aside0.mk (hk3.1.trans HB.out)
        have HL3 := Aside0.mk (HL.out.trans hk3.2)
        clear hJ3 hk3 hR hy
        gi_wp2
        exact ⟨⟨q, k + 1, by have := HQK.out; omega, rfl, HJ3, HB3, HL3⟩, HMS.out⟩
      · gi_wp2
        refine bodyPost_ret (results_none rfl _ _ _) rfl ?_
        exact ⟨⟨_, rfl⟩, .inr hJx3⟩
    | zero =>
      rw [show ((0 : Nat) : Int) - 1 = -1 from rfl]
      obtain rfl : k = n := by omega
      gi_wp2
      go_end0
      exact ⟨⟨_, rfl⟩, .inl HJ.out⟩
theorem back_seq (d : Nat) (hd : 1 ≤ d) (Bs : Nat) (A : Option Addr) (c n : Nat) (hn : n ≤ 256) (l0 : List Int) (wv w : World) (hC : Kd.C (Kd.int .i64) wv A n l0) (hb : w.heap[Bs]? = some (.cells #[.slice A n c] 26 (0, 0))) (hbl : Below wv.heap.size wv w) :
    SeqV Fence.wide d Try.prog 64 #[.pointer (some ⟨Bs, 0, none⟩)] (bwEnc l0) (BwAt n) (KpB Bs wv.heap.size) n w := fun l J Jx W hW hJ _ hY h0 =>
  back1_in d hd l Bs A c n hn l0 wv hC J Jx hJ (fun k x X hj hv hk => hY k x X hj hv hk) W (blk_below hb hW) (hbl.trans (hW.mono hbl.size)) h0
end Go.Proofs.Ytgmaiknbogcpgaa.Pure
