/- What frame.Scan's iterator hands over: the frames that stand in the bytes. -/
import Derived.Test.YtclhkbjcemgmnaaFogx0
import Derived.Test.YtclhkbjcemgmnaaFogx4
import Derived.Test.YtclhkbjcemgmnaaRangeV
import Derived.Test.YtclhkbjcemgmnaaScan
import Derived.RangeFuncCalls
import Derived.RangeFuncLeaves
import Derived.Shelf.Abstract
import Derived.Shelf.RegionOpen
import Derived.WalkKit
import Derived.OwnWalkIn
import Derived.TacticsInMore
import Derived.LoopNIn
import Derived.LoopIn
namespace Go.Proofs.Ytclhkbjcemgmnaa.Pure
open Go.RowKit Go.Shelf Go.Proofs.Ytclhkbjcemgmnaa.Fog Go.Proofs.YtclhkbjcemgmnaaW.PrintWords Go.Proofs.YtclhkbjcemgmnaaW.PrintLast Go.Proofs.YtclhkbjcemgmnaaW.PrintMore Go.Proofs.Ytclhkbjcemgmnaa.Kit Go.Proofs.Ytclhkbjcemgmnaa.Seq
set_option linter.unusedVariables false
set_option linter.unusedSimpArgs false
attribute [local go_sem] Oper.semAt_some
theorem okB_len (s : ByteArray) (p : Nat) (h : okB s p = true) : p + lenOf (cutB s p) ≤ s.size := by
  unfold okB fitsB at h
  simp only [Bool.and_eq_true, decide_eq_true_eq] at h
  have h1 := h.2.1
  have h2 := (len_le (cutB s p)).1
  have h3 : (cutB s p).size = s.size - p := by unfold cutB; rw [ByteArray.size_extract]; omega
  omega
def frEnc (x : S30) : Value := .agg #[.int .u8 x.f0, .int .u8 x.f1, .bool x.f2, .string x.f3]
def plEnc (x : Nat × S30) : Array Value := #[.int .i64 (x.1 : Int), frEnc x.2]
def ScanAt (s : ByteArray) (k : Nat) (x : Nat × S30) (_ : World) : Prop := (scanV s 0)[k]? = some x
theorem parse_at (s : ByteArray) (p : Nat) (hs : s.size ≤ 140737488351232) (w : World) : Calls Try.prog 17 #[.string (s.extract p s.size)] w fun e w' => e = .returned (.tuple #[frEnc ⟨(parsed (cutB s p)).1, (parsed (cutB s p)).2.1, (parsed (cutB s p)).2.2.1, (parsed (cutB s p)).2.2.2.1⟩, .int .i64 (parsed (cutB s p)).2.2.2.2.1, .int .i64 (parsed (cutB s p)).2.2.2.2.2]) ∧ Below w.heap.size w w' := by
  obtain ⟨k, hk⟩ := (parse_ev (cutB s p) (by unfold cutB; rw [ByteArray.size_extract]; omega)).rounds
  exact frame_Parse.calls k (cutB s p) _ _ _ _ _ _ w hk
set_option maxRecDepth 100000 in
set_option maxHeartbeats 2000000 in
theorem scan1_in (d : Nat) (hd : 1 ≤ d) (l Bs : Nat) (s : ByteArray) (hs : s.size ≤ 140737488351232) (J : Nat → World → Prop) (Jx : World → Prop) (hJ : ∀ k X Y, J k X → Below X.heap.size X Y → J k Y)
    (hY : ∀ k x X, J k X → ScanAt s k x X → k < (scanV s 0).length → YieldAt Fence.wide (d - 1) Try.prog l (plEnc x) X fun e Y => (e = .returned (.bool true) ∧ J (k + 1) Y ∧ Y.heap[Bs]? = X.heap[Bs]?) ∨ (e = .returned (.bool false) ∧ Jx Y))
    (W : World) (hb : W.cell? ⟨Bs, 0, none⟩ = some (.string s)) (hB : Bs < W.heap.size) (h0 : J 0 W) :
    CallsIn Fence.wide d Try.prog 34 #[.func (.yield l) #[] #[], .pointer (some ⟨Bs, 0, none⟩)] W fun e Y => (∃ v, e = .returned v) ∧ (J (scanV s 0).length Y ∨ Jx Y) := by
  refine callsIn_of_wp Try.func34 rfl trivial ?_ rfl
  simp only [Try.ntmps34, List.size_toArray, List.length_cons, List.length_nil, Nat.reduceAdd, Nat.reduceSub, Array.replicate_succ, Array.replicate_zero, List.push_toArray, List.append_toArray, List.nil_append, List.cons_append]
  gi_wp2
  gi_loopw [3] (fun i wr => ∃ p k : Nat, p ≤ s.size ∧ k ≤ (scanV s 0).length ∧ i = .int .i64 (p : Int) ∧ Aside0 ((scanV s 0).drop k = scanV s p) ∧ Aside0 (J k wr) ∧ wr.cell? ⟨Bs, 0, none⟩ = some (.string s) ∧ Bs < wr.heap.size) (fun i _ => s.size - (intOf i).toNat)
  case atStart => exact ⟨0, 0, Nat.zero_le _, Nat.zero_le _, rfl, ⟨rfl⟩, ⟨h0⟩, hb, hB⟩
  case round =>
    obtain ⟨p, k, hp, hkN, rfl, HD, HJ, hb', hB'⟩ := hrel
    by_cases hlt : p < s.size
    · cases ho : okB s p
      · have HSN := Aside0.mk (scanV_no s p hlt ho)
        have HP := Aside0.mk (parse_at s p hs)
        have HN := parsed_no s p ho
        have HPN : Aside0 (∀ w, Calls Try.prog 17 #[.string (s.extract p s.size)] w fun e w' => e = .returned (.tuple #[frEnc ⟨0, 0, false, ⟨#[]⟩⟩, .int .i64 0, .int .i64 4]) ∧ Below w.heap.size w w') := ⟨fun w => by
          have h := HP.out w
          rw [HN] at h
          exact h⟩
        unfold frEnc at HPN
        have hlt' : (p : Int) < (s.size : Int) := by omega
        clear HP HN ho
        gi_wp2_with (refine ⟨trivial, ?_⟩; gi_at_call 17; refine (callsIn_wide.2 (HPN.out _)).mono ?_; rintro e w1 ⟨rfl, hbl⟩; have HB1 := Aside0.mk hbl; clear hbl)
        go_roundw
        case rel => exact ⟨p + 1, k, by omega, hkN, by go_num, ⟨HD.out.trans HSN.out⟩, ⟨hJ _ _ _ HJ.out (below_alloc HB1.out _)⟩, ((below_alloc HB1.out _).cell (p := ⟨Bs, 0, none⟩) hB').trans hb', by have := HB1.out.size; simp; omega⟩
        case measure => simp [intOf]; omega
      · have HPO : Aside0 (∀ w, Calls Try.prog 17 #[.string (s.extract p s.size)] w fun e w' => e = .returned (.tuple #[.agg #[.int .u8 (frB s p).f0, .int .u8 (frB s p).f1, .bool (frB s p).f2, .string (frB s p).f3], .int .i64 (lenOf (cutB s p) : Int), .int .i64 0]) ∧ Below w.heap.size w w') := ⟨fun w => by
          have h := parse_at s p hs w
          rw [parsed_ok s p ho] at h
          exact h⟩
        have hlt' : (p : Int) < (s.size : Int) := by omega
        have HSO := Aside0.mk (scanV_ok s p hlt ho)
        have hpn : p + lenOf (cutB s p) ≤ s.size := okB_len s p ho
        have hn9 := (len_le (cutB s p)).1
        obtain ⟨x, hx⟩ : ∃ x, frB s p = x := ⟨_, rfl⟩
        obtain ⟨n, hn⟩ : ∃ n, lenOf (cutB s p) = n := ⟨_, rfl⟩
        rw [hx, hn] at HPO HSO
        rw [hn] at hpn hn9
        clear ho
        have hkl : k < (scanV s 0).length := by
          have h := congrArg List.length (HD.out.trans HSO.out)
          rw [List.length_drop, List.length_cons] at h
          omega
        have hat : (scanV s 0)[k]? = some (p, x) := by
          have h := congrArg (fun l => l[0]?) (HD.out.trans HSO.out)
          rw [List.getElem?_drop] at h
          exact h
        have HD2 : Aside0 ((scanV s 0).drop (k + 1) = scanV s (p + n)) := ⟨by
          have h := congrArg (List.drop 1) (HD.out.trans HSO.out)
          rw [List.drop_drop] at h
          exact h⟩
        have HAT := Aside0.mk hat
        have HY := Aside0.mk hY
        clear hat hY
        gi_wp2_with (refine ⟨trivial, ?_⟩; gi_at_call 17; refine (callsIn_wide.2 (HPO.out _)).mono ?_; rintro e w1 ⟨rfl, hbl⟩; have HB1 := Aside0.mk hbl; clear hbl; obtain ⟨fn, tmps, assign, body, hy, hR⟩ := HY.out k (p, x) (w1.alloc (.cells #[.int .u8 x.f0, .int .u8 x.f1, .bool x.f2, .string x.f3] 30)) (hJ _ _ _ HJ.out (below_alloc HB1.out _)) HAT.out hkl; dsimp only [plEnc, frEnc] at hy)
        refine hR.mono ?_
        rintro e W3 (⟨rfl, hJ3, hk3⟩ | ⟨rfl, hJx3⟩)
        · have hbk : W3.heap[Bs]? = wr.heap[Bs]? := hk3.trans ((below_alloc HB1.out _).block Bs hB')
          have hb3 : W3.cell? ⟨Bs, 0, none⟩ = some (.string s) := (World.cell?_of_block (a := ⟨Bs, 0, none⟩) hbk).trans hb'
          have hB3 : Bs < W3.heap.size := block_lt_of_cell hb3
          have HJ3 := Aside0.mk hJ3
          clear hJ3 hk3 hbk hR hy
          gi_wp2
          go_roundw
          case rel => exact ⟨p + n, k + 1, hpn, hkl, by go_num, HD2, HJ3, hb3, hB3⟩
          case measure => simp [intOf]; omega
        · gi_wp2
          refine bodyPost_ret (results_none rfl _ _ _) rfl ?_
          exact ⟨⟨_, rfl⟩, .inr hJx3⟩
    · obtain rfl : p = s.size := by omega
      have hk0 : k ≥ (scanV s 0).length := by
        have h := congrArg List.length HD.out
        rw [scanV_end s s.size (Nat.le_refl _), List.length_drop, List.length_nil] at h
        omega
      gi_wp2
      go_end0
      exact ⟨⟨_, rfl⟩, .inl (Nat.le_antisymm hkN hk0 ▸ HJ.out)⟩
theorem scan_seq (d : Nat) (hd : 1 ≤ d) (Bs : Nat) (s : ByteArray) (hs : s.size ≤ 140737488351232) (w : World) (hb : w.cell? ⟨Bs, 0, none⟩ = some (.string s)) :
    SeqV Fence.wide d Try.prog 34 #[.pointer (some ⟨Bs, 0, none⟩)] plEnc (ScanAt s) (fun X Y => Y.heap[Bs]? = X.heap[Bs]?) (scanV s 0).length w := fun l J Jx W hW hJ hJx hY h0 => by
  have hlt := block_lt_of_cell hb
  have hb2 : W.cell? ⟨Bs, 0, none⟩ = some (.string s) := (hW.cell (p := ⟨Bs, 0, none⟩) hlt).trans hb
  exact scan1_in d hd l Bs s hs J Jx hJ hY W hb2 (block_lt_of_cell hb2) h0
end Go.Proofs.Ytclhkbjcemgmnaa.Pure
