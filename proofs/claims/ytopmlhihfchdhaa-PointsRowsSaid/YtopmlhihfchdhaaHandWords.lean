-- FOREIGN foghorn/bits.Words making plain
import Derived.RangeFuncNested
import Derived.RangeFuncBound
import Derived.RangeFuncCalls
import Derived.RangeFuncLeaves
import Derived.RangeFuncBox
import Derived.Shelf.Abstract
import Derived.Shelf.RegionOpen
import Derived.WalkKit
import Derived.OwnWalkIn
import Derived.TacticsInMore
import Derived.LoopNIn
import Derived.LoopIn
import Derived.Maps.AppendAt
import Derived.Test.YtopmlhihfchdhaaFogx0
namespace Go.Proofs.Ytopmlhihfchdhaa.Fog
open Go.RowKit Go.Shelf Go.Proofs.YtopmlhihfchdhaaW.PrintWords Go.Proofs.YtopmlhihfchdhaaW.PrintLast Go.Proofs.YtopmlhihfchdhaaW.PrintMore
set_option linter.unusedVariables false
set_option linter.unusedSimpArgs false
attribute [local go_sem] Oper.semAt_some
def KpW (Bs : Nat) (W W' : World) : Prop := W'.heap[Bs]? = W.heap[Bs]? ∧ W'.heap[Bs + 1]? = W.heap[Bs + 1]?
theorem cellW {W W' : World} {b : Nat} (h : W'.heap[b]? = W.heap[b]?) : W'.cell? ⟨b, 0, none⟩ = W.cell? ⟨b, 0, none⟩ := World.cell?_of_block (a := ⟨b, 0, none⟩) h
set_option maxRecDepth 100000 in
set_option maxHeartbeats 2000000 in
theorem chunk1_in (d : Nat) (hd : 1 ≤ d) (l Bs : Nat) (A : Option Addr) (ad : Addr) (c N m n : Nat) (hA : 0 < m → A = some ad) (hN : N = m * n) (hn1 : 1 ≤ n) (hNc : N ≤ c) (hNb : N ≤ 32768) (J Jx : List (Fin m) → World → Prop)
    (hY : ∀ pre (x : Fin m) W, J pre W → pre.length < m → YieldAt Fence.wide (d - 1) Try.prog l #[Value.slice (some (ad.add (x.val * n))) n n] W fun e W' =>
      (e = .returned (.bool true) ∧ J (pre ++ [x]) W' ∧ KpW Bs W W') ∨ (e = .returned (.bool false) ∧ Jx (pre ++ [x]) W'))
    (hJd : ∀ s W m, J s W → J s (W.drewN m))
    (W : World) (hs : W.cell? ⟨Bs, 0, none⟩ = some (.slice A N c)) (hb : W.cell? ⟨Bs + 1, 0, none⟩ = some (.int .i64 (n : Int))) (h0 : J [] W) :
    CallsIn Fence.wide d Try.prog 60 #[.func (.yield l) #[] #[], .pointer (some ⟨Bs, 0, none⟩), .pointer (some ⟨Bs + 1, 0, none⟩)] W fun e W' => (∃ v, e = .returned v) ∧
      ((∃ ys : List (Fin m), ys.map Fin.val = List.range m ∧ J ys W') ∨ (∃ pre, True ∧ Jx pre W')) := by
  refine callsIn_of_wp Try.func60 rfl trivial ?_ rfl
  simp only [Try.ntmps60, List.size_toArray, List.length_cons, List.length_nil, Nat.reduceAdd, Nat.reduceSub, Array.replicate_succ, Array.replicate_zero, List.push_toArray, List.append_toArray, List.nil_append, List.cons_append]
  gi_wp2
  gi_loopw [4] (fun i wr => ∃ (k p : Nat) (ys : List (Fin m)), k ≤ m ∧ Aside0 (p = k * n) ∧ Aside0 (ys.map Fin.val = List.range k) ∧ i = .int .i64 (p : Int) ∧ J ys wr ∧ wr.cell? ⟨Bs, 0, none⟩ = some (.slice A N c) ∧ wr.cell? ⟨Bs + 1, 0, none⟩ = some (.int .i64 (n : Int)))
    (fun i _ => N - (intOf i).toNat)
  case atStart => exact ⟨0, 0, [], Nat.zero_le _, ⟨by simp⟩, ⟨rfl⟩, rfl, h0, hs, hb⟩
  case round =>
    obtain ⟨k, p, ys, hk, hp, hys, rfl, hJs, hs', hb'⟩ := hrel
    by_cases hlt : k < m
    · obtain rfl : A = some ad := hA (by omega)
      have hpn : p + n ≤ N := by
        rw [hp.out, hN, ← Nat.succ_mul]
        exact Nat.mul_le_mul_right _ hlt
      have hyl : ys.length = k := by have := congrArg List.length hys.out; simpa using this
      have hmin : ¬ (N - p < n) := by omega
      have hlt2 : (p : Int) < (N : Int) := by omega
      have HN := Aside0.mk hN
      clear hN
      have hmix : Try.prog.follows .mixedOrders = true := by kernel_rfl
      gi_wp2
      gi_quiet (fail)
      obtain ⟨fn, tmps, assign, body, hy, hR⟩ := hY ys ⟨k, hlt⟩ (wr.drewN nq) (hJd _ _ _ hJs) (by omega)
      dsimp only at hy
      rw [← hp.out] at hy
      gi_wp2
      refine hR.mono ?_
      rintro e W3 (⟨rfl, hJ3, hk3⟩ | ⟨rfl, hJx3⟩)
      · have hs3 : W3.cell? ⟨Bs, 0, none⟩ = some (.slice (some ad) N c) := (cellW hk3.1).trans hs'
        have hb3 : W3.cell? ⟨Bs + 1, 0, none⟩ = some (.int .i64 (n : Int)) := (cellW hk3.2).trans hb'
        gi_wp2
        go_roundw
        case rel => exact ⟨k + 1, p + n, _, hlt, ⟨by rw [hp.out, Nat.succ_mul]⟩, ⟨by rw [List.map_append, hys.out, List.range_succ]; rfl⟩, by go_num, hJ3, hs3, hb3⟩
        case measure => simp [intOf]; omega
      · gi_wp2
        refine bodyPost_ret (results_none rfl _ _ _) rfl ?_
        exact ⟨⟨_, rfl⟩, .inr ⟨_, trivial, hJx3⟩⟩
    · obtain rfl : k = m := by omega
      have HN := Aside0.mk hN
      have hlt2 : (N : Int) ≤ (p : Int) := by rw [hN, hp.out]; exact Int.le_refl _
      clear hN
      gi_wp2
      go_end0
      exact ⟨⟨_, rfl⟩, .inl ⟨_, hys.out, hJs⟩⟩
set_option maxHeartbeats 1000000 in
theorem chunk_in (d : Nat) (hd : 1 ≤ d) (a : Option Addr) (len cap n : Nat) (hn1 : 1 ≤ n) (w : World) :
    CallsIn Fence.wide d Try.prog 52 #[.slice a len cap, .int .i64 (n : Int)] w fun e w' => e = .returned (.func (.func 60) #[] #[.pointer (some ⟨w.heap.size, 0, none⟩), .pointer (some ⟨w.heap.size + 1, 0, none⟩)]) ∧ w' = (w.alloc (.cells #[.slice a len cap] 41)).alloc (.cells #[.int .i64 (n : Int)] 3) := by
  refine callsIn_of_wp Try.func52 rfl trivial ?_ rfl
  simp only [Try.ntmps52, List.size_toArray, List.length_cons, List.length_nil, Nat.reduceAdd, Nat.reduceSub, Array.replicate_succ, Array.replicate_zero, List.push_toArray, List.append_toArray, List.nil_append, List.cons_append]
  have hn2 : (1 : Int) ≤ (n : Int) := by omega
  gi_wp2
  go_ret
  exact ⟨rfl, rfl⟩
theorem chunk_stops (d : Nat) (hd : 1 ≤ d) (Bs : Nat) (A : Option Addr) (ad : Addr) (c N m n : Nat) (hA : 0 < m → A = some ad) (hN : N = m * n) (hn1 : 1 ≤ n) (hNc : N ≤ c) (hNb : N ≤ 32768) (w : World) (hB : Bs + 1 < w.heap.size)
    (hs : w.cell? ⟨Bs, 0, none⟩ = some (.slice A N c)) (hb : w.cell? ⟨Bs + 1, 0, none⟩ = some (.int .i64 (n : Int))) :
    SeqStopsK Fence.wide d Try.prog 60 #[.pointer (some ⟨Bs, 0, none⟩), .pointer (some ⟨Bs + 1, 0, none⟩)] (fun x : Fin m => #[Value.slice (some (ad.add (x.val * n))) n n]) (KpW Bs) (fun ys => ys.map Fin.val = List.range m) (fun _ => True) m w := fun l J Jx W hW hJ _ hY h0 =>
  chunk1_in d hd l Bs A ad c N m n hA hN hn1 hNc hNb J Jx hY (fun s W m hs => hJ s W _ none hs ⟨rfl, rfl, rfl, Nat.le_refl _, fun _ _ _ => rfl⟩ (fun r e => by cases e)) W
    ((hW.cell (p := ⟨Bs, 0, none⟩) (by show Bs < _; omega)).trans hs) ((hW.cell (p := ⟨Bs + 1, 0, none⟩) (by show Bs + 1 < _; omega)).trans hb) h0
def wordStep (x : Int) (b : Bool) : Int := 2 * x + (if b then 1 else 0)
def wordOf (l : List Bool) : Int := l.foldl wordStep 0
def wordK (l : List Bool) (n k : Nat) : Int := wordOf ((l.drop (k * n)).take n)
def wordsV (l : List Bool) (w : Int) : List Int × Int :=
  if 1 ≤ w ∧ w ≤ 16 ∧ l.length ≤ 32768 ∧ l.length % w.toNat = 0 then ((List.range (l.length / w.toNat)).map (wordK l w.toNat), 0) else ([], 1)
theorem wordOf_snoc (l : List Bool) (b : Bool) : wordOf (l ++ [b]) = 2 * wordOf l + (if b then 1 else 0) := by unfold wordOf; rw [List.foldl_append]; rfl
theorem wordOf_bound : ∀ (j : Nat) (l : List Bool), ∃ v : Nat, wordOf (l.take j) = (v : Int) ∧ v < 2 ^ j
  | 0, l => ⟨0, by simp [wordOf], by simp⟩
  | j + 1, l => by
    obtain ⟨v, hv, hlt⟩ := wordOf_bound j l
    by_cases h : j < l.length
    · rw [List.take_succ_eq_append_getElem h, wordOf_snoc, hv]
      by_cases hb : l[j] = true
      · rw [if_pos hb]; exact ⟨2 * v + 1, by omega, by rw [Nat.pow_succ]; omega⟩
      · rw [if_neg hb]; exact ⟨2 * v, by omega, by rw [Nat.pow_succ]; omega⟩
    · rw [List.take_of_length_le (by omega)]
      rw [List.take_of_length_le (by omega)] at hv
      exact ⟨v, hv, by rw [Nat.pow_succ]; omega⟩
theorem or1 (v : Nat) (h : v < 65536) : Go.bits .or .i64 ((2 * v : Nat) : Int) 1 = ((2 * v + 1 : Nat) : Int) := by
  have e : (2 * v) ||| 1 = 2 * v + 1 := by
    have := Nat.two_pow_add_eq_or_of_lt (i := 1) (b := 1) (by decide) v
    simpa using this.symm
  have h1 : ((BitVec.ofInt 64 ((2 * v : Nat) : Int)) ||| (BitVec.ofInt 64 1)).toNat = 2 * v + 1 := by
    rw [BitVec.toNat_or, BitVec.ofInt_natCast, BitVec.toNat_ofNat, show (BitVec.ofInt 64 1).toNat = 1 by decide, Nat.mod_eq_of_lt (by omega), e]
  show IntKind.i64.wrap _ = _
  show IntKind.i64.wrap ((((BitVec.ofInt 64 ((2 * v : Nat) : Int)) ||| (BitVec.ofInt 64 1)).toNat : Nat) : Int) = _
  rw [h1, IntKind.wrap_i64]
  omega
def bits_Words.f (l0 : List Bool) (a1 : Int) : Option (List Int × Int) := some (wordsV l0 a1)
set_option maxHeartbeats 4000000 in
set_option maxRecDepth 100000 in
theorem words_walk (A0 : Option Addr) (c0 : Nat) (l0 : List Bool) (n m : Nat) (w : World) (hr0 : Kd.C Kd.bool w A0 l0.length l0) (hc0 : l0.length ≤ c0) (hn1 : 1 ≤ n) (hn2 : n ≤ 16) (hl : l0.length ≤ 32768) (hN : l0.length = m * n) :
    Calls Try.prog 44 #[.slice A0 l0.length c0, .int .i64 (n : Int)] w fun e w' => ∃ v0_ : Value, e = .returned (.tuple #[v0_, .int .i64 0]) ∧ Kd.R (Kd.int .i64) 3 w' w.heap.size (fun _ => True) v0_ ((List.range m).map (wordK l0 n)) ∧ Below w.heap.size w w' := by
  refine (callsIn_wide (n := 5)).1 ?_
  refine callsIn_of_wp_marks Try.func44 rfl trivial ?_ rfl
  simp only [Try.ntmps44, List.size_toArray, List.length_cons, List.length_nil, Nat.reduceAdd, Nat.reduceSub, Array.replicate_succ, Array.replicate_zero, List.push_toArray, List.append_toArray, List.nil_append, List.cons_append]
  have HN := Aside0.mk hN
  have HC := Aside0.mk hr0
  have hrem : (l0.length : Int).tmod (n : Int) = 0 := by rw [hN, Int.natCast_mul]; simp
  have hrem2 : (l0.length : Int) % (n : Int) = 0 := by rw [hN, Int.natCast_mul]; simp
  have hn1' : (1 : Int) ≤ (n : Int) := by omega
  have hn2' : (n : Int) ≤ 16 := by omega
  have hl' : (l0.length : Int) ≤ 32768 := by omega
  clear hN hr0
  gi_wp2_with (refine ⟨trivial, ?_⟩; gi_at_call 52; refine (chunk_in 4 (by decide) _ _ _ _ hn1 _).mono ?_; rintro e w' ⟨rfl, rfl⟩)
  obtain ⟨ad, hA⟩ : ∃ ad : Addr, 0 < m → A0 = some ad := by
    rcases A0 with _ | ad
    · refine ⟨⟨0, 0, none⟩, fun h => ?_⟩
      obtain ⟨ad, e, _⟩ := Kd.at_bool HC.out 0 (by omega) (by rw [HN.out]; exact_mod_cast Nat.mul_pos h (by omega))
      cases e
    · exact ⟨ad, fun _ => rfl⟩
  have bO := Boxed.new w 22 (.slice none 0 0)
  have b1 := Boxed.new (w.alloc (.cells #[.slice none 0 0] 22)) 41 (.slice A0 l0.length c0)
  have b2 := Boxed.new ((w.alloc (.cells #[.slice none 0 0] 22)).alloc (.cells #[.slice A0 l0.length c0] 41)) 3 (.int .i64 (n : Int))
  rw [World.size_alloc] at b1
  rw [World.size_alloc, World.size_alloc] at b2
  have b1' := b1.alloc (.cells #[.int .i64 (n : Int)] 3)
  have hBl : Below w.heap.size w (((w.alloc (.cells #[.slice none 0 0] 22)).alloc (.cells #[.slice A0 l0.length c0] 41)).alloc (.cells #[.int .i64 (n : Int)] 3)) := (((Below.refl _ w).alloc (Nat.le_refl _) _).alloc (by simp) _).alloc (by simp; omega) _
  obtain ⟨i0, hi, hz0, hz1, hz2⟩ := info_parts info3
  have bO' := (bO.alloc (.cells #[.slice A0 l0.length c0] 41)).alloc (.cells #[.int .i64 (n : Int)] 3)
  obtain ⟨W0, hW0⟩ : ∃ W0 : World, (((w.alloc (.cells #[.slice none 0 0] 22)).alloc (.cells #[.slice A0 l0.length c0] 41)).alloc (.cells #[.int .i64 (n : Int)] 3)) = W0 := ⟨_, rfl⟩
  have hsz0 : W0.heap.size = w.heap.size + 3 := by rw [← hW0]; simp
  rw [hW0] at b1' b2 hBl bO' ⊢
  clear hW0
  refine wpIn_rangeFunc_ownG rfl (by decide) (gf := 60) (lb := #[.pointer (some ⟨w.heap.size + 1, 0, none⟩), .pointer (some ⟨w.heap.size + 1 + 1, 0, none⟩)]) rfl trivial (enters_of Try.func60 (by kernel_rfl) rfl)
    (chunk_stops 4 (by decide) (w.heap.size + 1) A0 ad c0 l0.length m n hA HN.out hn1 hc0 hl _ (by omega) b1'.cell b2.cell)
    (fun h h' => ⟨h'.1.trans h.1, h'.2.trans h.2⟩) (fun W l o o' hl' _ _ _ => ⟨World.putObj_heap_other (by omega), World.putObj_heap_other (by omega)⟩) (Below.refl _ _) (fun _ => rfl)
    (fun (pre : List (Fin m)) W => ((∃ v, Boxed W w.heap.size 22 v ∧ W.ownsRow (w.heap.size + 3) 3 1 v pre.length ((pre.map fun x : Fin m => wordK l0 n x.val).map (Value.int .i64)) ∧ True) ∧ Below w.heap.size w W) ∧ w.heap.size + 3 ≤ W.heap.size)
    (fun _ _ _ => False)
    (OwnFrom.and (OwnFrom.and (Own.from (holdsRow_own (w.heap.size + 3) w.heap.size 22 3 1 (fun pre : List (Fin m) => pre.length) (fun pre => (pre.map fun x : Fin m => wordK l0 n x.val).map (Value.int .i64)) (fun _ _ => True)) _) (ownFrom_below (Nat.le_refl _) (by omega))) (fun s W W' row hs hg _ => Nat.le_trans hs hg.size))
    (fun _ _ _ _ _ hs _ _ => hs)
    ⟨⟨⟨_, bO', World.ownsRow_nil _ _ _ _, trivial⟩, hBl⟩, by omega⟩
    (fun x => { tmps := #[.slice A0 l0.length c0, .int .i64 (n : Int), undef, undef, .slice none 0 0, .int .i64 0, .pointer (some ⟨w.heap.size, 0, none⟩), .slice (some (ad.add (x.val * n))) n n, undef, undef, undef, .int .i64 (n : Int), .bool (decide ((n : Int) < 1)), .bool (decide ((n : Int) < 1)), .int .i64 (n : Int), .bool (decide (16 < (n : Int))), .bool (decide ((n : Int) < 1) || decide (16 < (n : Int))), .bool (decide ((n : Int) < 1) || decide (16 < (n : Int))), .slice A0 l0.length c0, .int .i64 (l0.length : Int), .bool (decide (32768 < (l0.length : Int))), .bool (decide ((n : Int) < 1) || decide (16 < (n : Int)) || decide (32768 < (l0.length : Int))), .bool (decide ((n : Int) < 1) || decide (16 < (n : Int)) || decide (32768 < (l0.length : Int))), .slice A0 l0.length c0, .int .i64 (l0.length : Int), .int .i64 (n : Int), .int .i64 0, .bool false, .bool (decide ((n : Int) < 1) || decide (16 < (n : Int)) || decide (32768 < (l0.length : Int))), .slice A0 l0.length c0, .int .i64 (n : Int), .func (.func 60) #[] #[.pointer (some ⟨w.heap.size + 1, 0, none⟩), .pointer (some ⟨w.heap.size + 1 + 1, 0, none⟩)], .slice (some (ad.add (x.val * n))) n n, undef, undef, undef, undef, undef, undef, undef, undef, undef, undef, undef, undef, undef, undef, undef, undef, undef], defers := [] }) ?assign ?body ?done ?stop
  case assign =>
    intro l x W K hK
    gi_wp2
    exact hK
  case body =>
    rintro l pre x W ⟨⟨⟨v, hv, hrow, -⟩, hB⟩, hsz⟩ hlt
    have hc := hv.cell
    have HOW := Aside0.mk hrow
    have hxn : x.val * n + n ≤ l0.length := by
      rw [HN.out, ← Nat.succ_mul]
      exact Nat.mul_le_mul_right _ x.isLt
    obtain ⟨p, hp⟩ : ∃ p, x.val * n = p := ⟨_, rfl⟩
    have HP := Aside0.mk hp
    rw [hp] at hxn
    simp only [hp]
    have HCW := Aside0.mk (Kd.C_below HC.out hB)
    have HB := Aside0.mk hB
    have hA' := hA (by omega)
    have hcl : ∀ j : Nat, j < n → ∃ b : Bool, rdOf false l0 ((p + j : Nat) : Int) = b ∧ W.cell? ((ad.add p).add j) = some (.bool b) := by
      intro j hj
      obtain ⟨ad', e, h⟩ := Kd.at_bool HCW.out ((p + j : Nat) : Int) (by omega) (by omega)
      rw [hA'] at e
      cases e
      refine ⟨_, rfl, ?_⟩
      rw [add_add]
      exact h
    clear hrow hp hB
    gi_wp2
    gi_loopw [8, 35] (fun y i wr => ∃ j v : Nat, j ≤ n ∧ i = .int .i64 (j : Int) ∧ y = .int .i64 (v : Int) ∧ Aside0 (wordOf ((l0.drop p).take j) = (v : Int)) ∧ wr = W) (fun _ i _ => n - (intOf i).toNat)
    case atStart => exact ⟨0, 0, by omega, rfl, rfl, ⟨by simp [wordOf]⟩, rfl⟩
    case round =>
      obtain ⟨j, v0, hj, rfl, rfl, HV, rfl⟩ := hrel
      by_cases hjn : j < n
      · obtain ⟨b, hb, hcj⟩ := hcl j hjn
        have hv0 : v0 < 32768 := by
          obtain ⟨v', e, h⟩ := wordOf_bound j (l0.drop p)
          rw [HV.out] at e
          have : 2 ^ j ≤ 2 ^ 15 := Nat.pow_le_pow_right (by decide) (by omega)
          omega
        have hrd : rdOf false l0 ((p + j : Nat) : Int) = l0.getD (p + j) false := by unfold rdOf; rw [Int.toNat_natCast]
        have htk : (l0.drop p).take (j + 1) = (l0.drop p).take j ++ [b] := by
          rw [List.take_succ_eq_append_getElem (by rw [List.length_drop]; omega), ← hb, hrd]
          simp [List.getD_eq_getElem?_getD, show p + j < l0.length by omega]
        have HTK := Aside0.mk htk
        have hw1 : wrap64 ((v0 : Int) * 2) = ((2 * v0 : Nat) : Int) := by unfold wrap64; omega
        have hw2 : Go.bits .or .i64 ((v0 : Int) * 2) 1 = ((2 * v0 + 1 : Nat) : Int) := by rw [← or1 v0 (by omega)]; congr 1; omega
        clear htk hb hcl hrd
        cases b
        · gi_wp2
          go_roundw
          case rel => exact ⟨j + 1, 2 * v0, by omega, by go_num, by go_num, ⟨by rw [HTK.out, wordOf_snoc, HV.out]; simp⟩, trivial⟩
          case measure => simp [intOf]; omega
        · gi_wp2
          go_roundw
          case rel => exact ⟨j + 1, 2 * v0 + 1, by omega, by go_num, by go_num, ⟨by rw [HTK.out, wordOf_snoc, HV.out]; simp⟩, trivial⟩
          case measure => simp [intOf]; omega
      · obtain rfl : j = n := by omega
        have hg : wordK l0 j x.val = (v0 : Int) := by unfold wordK; rw [HP.out]; exact HV.out
        have hpl : pre.length ≤ 32768 := by
          have h1 : m * 1 ≤ m * j := Nat.mul_le_mul_left _ hn1
          have := HN.out
          omega
        have HG := Aside0.mk hg
        clear hg hcl
        gi_wp2_with (gi_at_builtin; refine wpListIn_append_own _ rfl _ _ 22 rfl (w.heap.size + 3) 3 i0 (.int .i64 0) 1 8 Try.underlying22 hi hz0 hz1 hz2 rfl (by decide) _ _ _ rfl (HOW.out.alloc _) ⟨wr.heap.size, 0, none⟩ 1 1 [.int .i64 (v0 : Int)] rfl rfl (cell_one_new _ _ _) (by simp [Value.oneCell']) (by unfold maxLen; omega) (by omega) (by simp; omega) ?_; intro v' w1 hown' hgrow _; have hown'' := own_weaken hown' (show w.heap.size ≤ w.heap.size + 3 by omega); obtain ⟨g', cap', rfl⟩ := ownsRow_succ hown'; obtain ⟨hv1, hv2, hr2, hk2, hb2⟩ := hv.appended (by decide) (own_weaken HOW.out (show w.heap.size ≤ w.heap.size + 3 by omega)) HB.out.size (Nat.le_refl _) hown'' hgrow; have hc1 := hv1.cell; have hf1 := hv1.frozen)
        have hne : ∀ k, k < w.heap.size + 3 → some k ≠ v.ownBlock := by
          intro k hk e
          rcases HOW.out.2 with ⟨rfl, _⟩ | ⟨g, cap, cur, rfl, hb, _, _⟩
          · simp [Value.ownBlock] at e
          · have : k = g := by simpa [Value.ownBlock] using e
            omega
        have hsame : ∀ k, k < w.heap.size + 3 → k ≠ w.heap.size → (w1.setCell ⟨w.heap.size, 0, none⟩ (.slice (some ⟨g', 0, none⟩) (pre.length + 1) cap')).heap[k]? = wr.heap[k]? := by
          intro k hk hk2
          rw [Below.heap_setCell _ _ _ k (fun e => hk2 (by rw [e])), hgrow.block k (by simp; omega) (hne k hk), Below.heap_alloc _ _ _ (by omega)]
        refine ⟨hk2.from _, ⟨hsame _ (by omega) (by omega), hsame _ (by omega) (by omega)⟩, ⟨⟨⟨_, hv2, ?_, trivial⟩, HB.out.trans hb2⟩, Nat.le_trans hsz hk2.size⟩⟩
        have h := hown'.kept (grownBy_setCell' w1 w.heap.size (.slice (some ⟨g', 0, none⟩) (pre.length + 1) cap')) (.inr (hv1.not_row (by decide) hown').symm)
        rw [List.length_append, List.map_append, List.map_append]
        show World.ownsRow _ _ _ _ _ _ (_ ++ [Value.int .i64 (wordK l0 j x.val)])
        rw [HG.out]
        exact h
  case done =>
    rintro D ys W hD hys ⟨⟨⟨v, hv, hrow, -⟩, hB⟩, hsz⟩ hK
    have hc := hv.cell
    gi_wp2
    refine ⟨by simp, .inl ⟨_, _, rfl, run_takeDeferred hK, ?_⟩⟩
    refine ⟨_, results_tmp2 rfl _ _ _, v, rfl, ?_, hB.trans (belowK_b (w := w) (Nat.le_refl _) W D _ _ (by omega) hK rfl rfl)⟩
    have e : (ys.map fun x : Fin m => wordK l0 n x.val) = (List.range m).map (wordK l0 n) := by rw [← hys, List.map_map]; rfl
    have h := ownsRow_putObj hrow (.deferred none) hK rfl
    rw [e] at h
    refine Kd.R_lower (Kd.R_of_own (base := w.heap.size + 3) ?_ (fun _ _ => trivial)) (by omega)
    have el : ((List.range m).map (wordK l0 n)).length = ys.length := by rw [← e, List.length_map]
    rw [el]
    exact h
  case stop =>
    rintro D c pre W _ _ h _
    exact h.elim
set_option maxHeartbeats 4000000 in
set_option maxRecDepth 100000 in
theorem words_bad (A0 : Option Addr) (c0 : Nat) (l0 : List Bool) (a1 : Int) (w : World) (hr0 : Kd.C Kd.bool w A0 l0.length l0) (hc0 : l0.length ≤ c0) (hbad : a1 < 1 ∨ 16 < a1 ∨ 32768 < (l0.length : Int) ∨ (l0.length : Int).tmod a1 ≠ 0) :
    Calls Try.prog 44 #[.slice A0 l0.length c0, .int .i64 a1] w fun e w' => ∃ v0_ : Value, e = .returned (.tuple #[v0_, .int .i64 1]) ∧ Kd.R (Kd.int .i64) 3 w' w.heap.size (fun _ => True) v0_ [] ∧ Below w.heap.size w w' := by
  have hmax := Kd.C_max hr0
  by_cases h1 : a1 < 1
  · have d1 : decide (a1 < 1) = true := decide_eq_true h1
    go_enter Try.func44, Try.ntmps44
    go_wp2
    go_ret2
    exact ⟨_, rfl, Kd.R_nil _ _ _ _ _, Below.refl _ _⟩
  have d1 : decide (a1 < 1) = false := decide_eq_false h1
  have h1' : 1 ≤ a1 := by omega
  by_cases h2 : 16 < a1
  · have d2 : decide (16 < a1) = true := decide_eq_true h2
    go_enter Try.func44, Try.ntmps44
    go_wp2
    go_ret2
    exact ⟨_, rfl, Kd.R_nil _ _ _ _ _, Below.refl _ _⟩
  have d2 : decide (16 < a1) = false := decide_eq_false h2
  have h2' : a1 ≤ 16 := by omega
  by_cases h3 : 32768 < (l0.length : Int)
  · have d3 : decide (32768 < (l0.length : Int)) = true := decide_eq_true h3
    go_enter Try.func44, Try.ntmps44
    go_wp2
    go_ret2
    exact ⟨_, rfl, Kd.R_nil _ _ _ _ _, Below.refl _ _⟩
  have d3 : decide (32768 < (l0.length : Int)) = false := decide_eq_false h3
  have h3' : (l0.length : Int) ≤ 32768 := by omega
  obtain ⟨r, hr⟩ : ∃ r : Int, (l0.length : Int).tmod a1 = r := ⟨_, rfl⟩
  have hr2 : (l0.length : Int) % a1 = r := by rw [← Int.tmod_eq_emod_of_nonneg (by omega)]; exact hr
  have hrn : r ≠ 0 := by
    rw [← hr]
    rcases hbad with h | h | h | h
    · omega
    · omega
    · omega
    · exact h
  have hr0' : 0 ≤ r := by rw [← hr2]; exact Int.emod_nonneg _ (by omega)
  have hr1' : r < 17 := by have := Int.emod_lt_of_pos (l0.length : Int) (show 0 < a1 by omega); omega
  have d4 : (r != 0) = true := by simpa using hrn
  clear hrn h1 h2 h3 hbad
  go_enter Try.func44, Try.ntmps44
  go_wp2
  go_ret2
  exact ⟨_, rfl, Kd.R_nil _ _ _ _ _, Below.refl _ _⟩
theorem bits_Words.calls (A0 : Option Addr) (c0 : Nat) (l0 : List Bool) (a1 : Int) (r1 : List Int) (r2 : Int) (w : World) (hr0 : Kd.C Kd.bool w A0 l0.length l0) (hc0 : l0.length ≤ c0) (h : bits_Words.f l0 a1 = some (r1, r2)) :
    Calls Try.prog 44 #[.slice A0 l0.length c0, .int .i64 a1] w fun e w' => ∃ v0_ : Value, e = .returned (.tuple #[v0_, .int .i64 r2]) ∧ Kd.R (Kd.int .i64) 3 w' w.heap.size (fun _ => True) v0_ r1 ∧ Below w.heap.size w w' := by
  have e : wordsV l0 a1 = (r1, r2) := Option.some.inj h
  unfold wordsV at e
  by_cases hg : 1 ≤ a1 ∧ a1 ≤ 16 ∧ l0.length ≤ 32768 ∧ l0.length % a1.toNat = 0
  · rw [if_pos hg] at e
    obtain ⟨h1, h2, h3, h4⟩ := hg
    obtain ⟨n, rfl⟩ := Int.eq_ofNat_of_zero_le (show 0 ≤ a1 by omega)
    rw [Int.toNat_natCast] at e h4
    cases e
    have hN : l0.length = l0.length / n * n := by have := Nat.div_add_mod l0.length n; rw [h4, Nat.mul_comm] at this; omega
    exact words_walk A0 c0 l0 n (l0.length / n) w hr0 hc0 (by omega) (by omega) h3 hN
  · rw [if_neg hg] at e
    cases e
    refine words_bad A0 c0 l0 a1 w hr0 hc0 ?_
    by_cases h1 : a1 < 1
    · exact .inl h1
    by_cases h2 : 16 < a1
    · exact .inr (.inl h2)
    by_cases h3 : 32768 < (l0.length : Int)
    · exact .inr (.inr (.inl h3))
    refine .inr (.inr (.inr fun h4 => hg ⟨by omega, by omega, by omega, ?_⟩))
    obtain ⟨n, rfl⟩ := Int.eq_ofNat_of_zero_le (show 0 ≤ a1 by omega)
    rw [Int.tmod_eq_emod_of_nonneg (by omega)] at h4
    rw [Int.toNat_natCast]
    omega
end Go.Proofs.Ytopmlhihfchdhaa.Fog
