/- What bits.Pieces' iterator hands over: fresh copies of the row's pieces. -/
import Derived.Test.YtabjfehhibeeiaaFogx0
import Derived.Test.YtabjfehhibeeiaaHandClone
import Derived.Test.YtabjfehhibeeiaaSeqRows
import Derived.Test.YtabjfehhibeeiaaHandClone
import Derived.Test.YtabjfehhibeeiaaHandPieces
import Derived.RangeFuncCalls
import Derived.RangeFuncLeaves
import Derived.Shelf.Abstract
import Derived.Shelf.RegionOpen
import Derived.WalkKit
import Derived.OwnWalkIn
import Derived.TacticsInMore
import Derived.LoopNIn
import Derived.LoopIn
namespace Go.Proofs.Ytabjfehhibeeiaa.Pure
open Go.RowKit Go.Shelf Go.Proofs.Ytabjfehhibeeiaa.Fog Go.Proofs.YtabjfehhibeeiaaW.PrintWords Go.Proofs.YtabjfehhibeeiaaW.PrintLast Go.Proofs.YtabjfehhibeeiaaW.PrintMore Go.Proofs.Ytabjfehhibeeiaa.Seq
set_option linter.unusedVariables false
set_option linter.unusedSimpArgs false
attribute [local go_sem] Oper.semAt_some
def pieceL (l : List Bool) (n k : Nat) : List Bool := (l.drop (k * n)).take n
theorem pieceL_length (l : List Bool) (n k : Nat) : (pieceL l n k).length = min n (l.length - k * n) := by unfold pieceL; simp
def pcEnc (n N : Nat) (x : Nat × Option Addr × Nat) : Array Value := #[.int .i64 ((x.1 * n : Nat) : Int), .slice x.2.1 (min n (N - x.1 * n)) x.2.2]
def PieceAt (l : List Bool) (n B k : Nat) (x : Nat × Option Addr × Nat) (X : World) : Prop := x.1 = k ∧ Kd.R Kd.bool 4 X B (fun _ => True) (.slice x.2.1 (min n (l.length - k * n)) x.2.2) (pieceL l n k)
theorem add_block (a : Addr) (k : Nat) : (a.add k).block = a.block := by cases a; simp [Addr.add]; try split <;> rfl
theorem C_piece {W : World} {ad : Addr} {c p q : Nat} {l : List Bool} (h : Kd.C Kd.bool W (some ad) l.length l) (hq : 1 ≤ q) (hp : p + q ≤ l.length) : Kd.C Kd.bool W (some (ad.add p)) q ((l.drop p).take q) := by
  have h1 := Kd.C_drop (m := p) (c := l.length) h (by omega) (Nat.le_refl _)
  rw [if_neg (by omega)] at h1
  have h2 := Kd.C_take (m := q) h1 (by rw [List.length_drop]; omega)
  have hl : ((l.drop p).take q).length = q := by rw [List.length_take, List.length_drop]; omega
  rw [hl, Option.map_some, show Kd.bool.sz = 1 from rfl, Nat.mul_one] at h2
  exact h2
theorem C_stays {W W' : World} {ad : Addr} {n : Nat} {l : List Bool} (h : Kd.C Kd.bool W (some ad) n l) (hb : W'.heap[ad.block]? = W.heap[ad.block]?) : Kd.C Kd.bool W' (some ad) n l := by
  refine ⟨h.1, h.2.1, fun hp => ?_⟩
  obtain ⟨ad', e, hc⟩ := h.2.2 hp
  cases e
  refine ⟨ad, rfl, fun j p hj => ?_⟩
  obtain ⟨cs, h1, h2, h3⟩ := hc j p hj
  exact ⟨cs, h1, h2, fun i u hu => (World.cell?_of_block (a := ad.add (j * Kd.bool.sz + i)) (by rw [add_block]; exact hb)).trans (h3 i u hu)⟩
/-- What the iterator leans on stays. -/
structure KpP (Bn Bo : Nat) (A : Option Addr) (X Y : World) : Prop where
  size : X.heap.size ≤ Y.heap.size
  bn : Y.heap[Bn]? = X.heap[Bn]?
  bo : Y.heap[Bo]? = X.heap[Bo]?
  row : ∀ ad, A = some ad → Y.heap[ad.block]? = X.heap[ad.block]?
theorem KpP.refl (Bn Bo : Nat) (A : Option Addr) (X : World) : KpP Bn Bo A X X := ⟨Nat.le_refl _, rfl, rfl, fun _ _ => rfl⟩
theorem KpP.trans {Bn Bo : Nat} {A : Option Addr} {X Y Z : World} (h : KpP Bn Bo A X Y) (k : KpP Bn Bo A Y Z) : KpP Bn Bo A X Z := ⟨Nat.le_trans h.size k.size, k.bn.trans h.bn, k.bo.trans h.bo, fun ad e => (k.row ad e).trans (h.row ad e)⟩
theorem KpP.of_below {Bn Bo B : Nat} {A : Option Addr} {X Y : World} (h : Below B X Y) (hn : Bn < B) (ho : Bo < B) (hA : ∀ ad, A = some ad → ad.block < B) : KpP Bn Bo A X Y := ⟨h.size, h.block _ hn, h.block _ ho, fun ad e => h.block _ (hA ad e)⟩
theorem KpP.set {Bn Bo b : Nat} {A : Option Addr} (X : World) (u : Value) (hn : Bn ≠ b) (ho : Bo ≠ b) (hA : ∀ ad, A = some ad → ad.block ≠ b) : KpP Bn Bo A X (X.setCell ⟨b, 0, none⟩ u) := ⟨by simp, Below.heap_setCell _ _ _ _ hn, Below.heap_setCell _ _ _ _ ho, fun ad e => Below.heap_setCell _ _ _ _ (hA ad e)⟩
theorem take_min (l : List Bool) (p n : Nat) : (l.drop p).take (min n (l.length - p)) = (l.drop p).take n := by
  rw [List.take_eq_take_iff]
  simp
theorem clone_piece {W : World} {ad : Addr} {c p q : Nat} {l : List Bool} (h : Kd.C Kd.bool W (some ad) l.length l) (hq : 1 ≤ q) (hp : p + q ≤ l.length) (hc : q ≤ c) (hl : l.length < 140737488355328) :
    Calls Try.prog 48 #[.slice (some (ad.add p)) q c] W fun e w' => ∃ (A : Option Addr) (c' : Nat), e = .returned (.slice A q c') ∧ Kd.R Kd.bool 4 w' W.heap.size (fun _ => True) (.slice A q c') ((l.drop p).take q) ∧ Below W.heap.size W w' := by
  have hll : ((l.drop p).take q).length = q := by rw [List.length_take, List.length_drop]; omega
  have h1 := slices_Clone_bool_bool.calls (some (ad.add p)) c ((l.drop p).take q) _ W (by rw [hll]; exact C_piece h hq hp (c := c)) (by omega) (by unfold slices_Clone_bool_bool.f; rw [if_pos (by omega)])
  rw [hll] at h1
  refine h1.mono ?_
  rintro e w' ⟨v, rfl, hR, hb⟩
  obtain ⟨A, c', rfl⟩ := Kd.R_slice hR
  rw [hll] at hR ⊢
  exact ⟨A, c', rfl, hR, hb⟩
set_option maxRecDepth 100000 in
set_option maxHeartbeats 2000000 in
theorem pieces1_in (d : Nat) (hd : 1 ≤ d) (l Bn Bo : Nat) (A : Option Addr) (c n m B : Nat) (l0 : List Bool) (hn : 1 ≤ n) (hm : ∀ k, k < m ↔ k * n < l0.length) (hl : l0.length < 140737488355328) (hnb : n < 9223372036854775808) (J : Nat → World → Prop) (Jx : World → Prop) (hJ : ∀ k X Y, J k X → Below X.heap.size X Y → J k Y)
    (hY : ∀ k x X, J k X → PieceAt l0 n B k x X → k < m → YieldAt Fence.wide (d - 1) Try.prog l (pcEnc n l0.length x) X fun e Y => (e = .returned (.bool true) ∧ J (k + 1) Y ∧ KpP Bn Bo A X Y) ∨ (e = .returned (.bool false) ∧ Jx Y))
    (W : World) (hn1 : W.cell? ⟨Bn, 0, none⟩ = some (.int .i64 (n : Int))) (ho : W.cell? ⟨Bo, 0, none⟩ = some (.slice A l0.length c)) (hC : Kd.C Kd.bool W A l0.length l0) (hc : l0.length ≤ c) (hB : B ≤ W.heap.size) (hBn : Bn < W.heap.size) (hBo : Bo < W.heap.size) (hBa : ∀ ad, A = some ad → ad.block < W.heap.size) (h0 : J 0 W) :
    CallsIn Fence.wide d Try.prog 49 #[.func (.yield l) #[] #[], .pointer (some ⟨Bn, 0, none⟩), .pointer (some ⟨Bo, 0, none⟩)] W fun e Y => (∃ v, e = .returned v) ∧ (J m Y ∨ Jx Y) := by
  refine callsIn_of_wp Try.func49 rfl trivial ?_ rfl
  simp only [Try.ntmps49, List.size_toArray, List.length_cons, List.length_nil, Nat.reduceAdd, Nat.reduceSub, Array.replicate_succ, Array.replicate_zero, List.push_toArray, List.append_toArray, List.nil_append, List.cons_append]
  have hn' : (1 : Int) ≤ (n : Int) := by omega
  gi_wp2
  gi_loopw [4] (fun i wr => ∃ p k : Nat, k ≤ m ∧ Aside0 (p = min (k * n) l0.length) ∧ i = .int .i64 (p : Int) ∧ Aside0 (J k wr) ∧ Aside0 (KpP Bn Bo A W wr)) (fun i _ => l0.length - (intOf i).toNat)
  case atStart => exact ⟨0, 0, Nat.zero_le _, ⟨by simp⟩, rfl, ⟨h0⟩, ⟨KpP.refl _ _ _ _⟩⟩
  case round =>
    obtain ⟨p, k, hk, HP, rfl, HJ, HB⟩ := hrel
    have cn := (World.cell?_of_block (a := ⟨Bn, 0, none⟩) HB.out.bn).trans hn1
    have co := (World.cell?_of_block (a := ⟨Bo, 0, none⟩) HB.out.bo).trans ho
    by_cases hlt : p < l0.length
    · have hkm : k < m := (hm k).2 (by have := HP.out; omega)
      have hpk : k * n = p := by have := HP.out; omega
      obtain ⟨ad, hA, _⟩ := Kd.at_bool hC 0 (by omega) (by omega)
      subst hA
      have hCr : Kd.C Kd.bool wr (some ad) l0.length l0 := C_stays hC (HB.out.row ad rfl)
      have HC := Aside0.mk hCr
      obtain ⟨q, hq⟩ : ∃ q, min n (l0.length - p) = q := ⟨_, rfl⟩
      have hq1 : 1 ≤ q := by omega
      have hq2 : p + q ≤ l0.length := by omega
      have HCL := Aside0.mk (clone_piece (c := c - p) hCr hq1 hq2 (by omega) hl)
      have hlt' : (p : Int) < (l0.length : Int) := by omega
      have HQ := Aside0.mk hq
      have HPK := Aside0.mk hpk
      clear hCr hC hq hpk
      by_cases hnq : n ≤ l0.length - p
      · have hnq' : (n : Int) ≤ (l0.length : Int) - (p : Int) := by omega
        have e1 : ((p : Int) + (n : Int)).toNat - p = q := by have := HQ.out; omega
        gi_wp2
        refine ⟨trivial, ?_⟩
        refine (callsIn_wide.2 HCL.out).mono ?_
        rintro e w1 ⟨A1, c1, rfl, hRc, hbl⟩
        have hBr : B ≤ wr.heap.size := Nat.le_trans hB HB.out.size
        have HB1 : Aside0 (KpP Bn Bo (some ad) W w1) := ⟨HB.out.trans (KpP.of_below hbl (Nat.lt_of_lt_of_le hBn HB.out.size) (Nat.lt_of_lt_of_le hBo HB.out.size) (fun a e => Nat.lt_of_lt_of_le (hBa a e) HB.out.size))⟩
        have hat : PieceAt l0 n B k (k, A1, c1) w1 := ⟨rfl, by
          show Kd.R Kd.bool _ w1 B _ (.slice A1 (min n (l0.length - k * n)) c1) (pieceL l0 n k)
          unfold pieceL
          rw [HPK.out, HQ.out, ← take_min l0 p n, HQ.out]
          exact Kd.R_lower hRc hBr⟩
        obtain ⟨fn, tmps, assign, body, hy, hR⟩ := hY k (k, A1, c1) w1 (hJ _ _ _ HJ.out hbl) hat hkm
        simp only [pcEnc] at hy
        rw [HPK.out, HQ.out] at hy
        clear hat hRc hbl
        gi_wp2
        refine hR.mono ?_
        rintro e W3 (⟨rfl, hJ3, hk3⟩ | ⟨rfl, hJx3⟩)
        · have HJ3 := Aside0.mk hJ3
          have HB3 : Aside0 (KpP Bn Bo (some ad) W W3) := ⟨HB1.out.trans hk3⟩
          clear hJ3 hk3
          have cn3 := (World.cell?_of_block (a := ⟨Bn, 0, none⟩) HB3.out.bn).trans hn1
          have co3 := (World.cell?_of_block (a := ⟨Bo, 0, none⟩) HB3.out.bo).trans ho
          clear cn co hR hy e1
          gi_wp2
          go_roundw
          case rel => exact ⟨p + n, k + 1, hkm, ⟨by rw [Nat.add_mul, Nat.one_mul, HPK.out]; omega⟩, by go_num, HJ3, HB3⟩
          case measure => simp [intOf]; omega
        · gi_wp2
          refine bodyPost_ret (results_none rfl _ _ _) rfl ?_
          exact ⟨⟨_, rfl⟩, .inr hJx3⟩
      · have hnq' : ¬ ((n : Int) ≤ (l0.length : Int) - (p : Int)) := by omega
        have hnq2 : (l0.length : Int) - (p : Int) ≤ (n : Int) := by omega
        have e1 : ((p : Int) + ((l0.length : Int) - (p : Int))).toNat - p = q := by have := HQ.out; omega
        gi_wp2
        refine ⟨trivial, ?_⟩
        refine (callsIn_wide.2 HCL.out).mono ?_
        rintro e w1 ⟨A1, c1, rfl, hRc, hbl⟩
        have hBr : B ≤ wr.heap.size := Nat.le_trans hB HB.out.size
        have HB1 : Aside0 (KpP Bn Bo (some ad) W w1) := ⟨HB.out.trans (KpP.of_below hbl (Nat.lt_of_lt_of_le hBn HB.out.size) (Nat.lt_of_lt_of_le hBo HB.out.size) (fun a e => Nat.lt_of_lt_of_le (hBa a e) HB.out.size))⟩
        have hat : PieceAt l0 n B k (k, A1, c1) w1 := ⟨rfl, by
          show Kd.R Kd.bool _ w1 B _ (.slice A1 (min n (l0.length - k * n)) c1) (pieceL l0 n k)
          unfold pieceL
          rw [HPK.out, HQ.out, ← take_min l0 p n, HQ.out]
          exact Kd.R_lower hRc hBr⟩
        obtain ⟨fn, tmps, assign, body, hy, hR⟩ := hY k (k, A1, c1) w1 (hJ _ _ _ HJ.out hbl) hat hkm
        simp only [pcEnc] at hy
        rw [HPK.out, HQ.out] at hy
        clear hat hRc hbl
        gi_wp2
        refine hR.mono ?_
        rintro e W3 (⟨rfl, hJ3, hk3⟩ | ⟨rfl, hJx3⟩)
        · have HJ3 := Aside0.mk hJ3
          have HB3 : Aside0 (KpP Bn Bo (some ad) W W3) := ⟨HB1.out.trans hk3⟩
          clear hJ3 hk3
          have cn3 := (World.cell?_of_block (a := ⟨Bn, 0, none⟩) HB3.out.bn).trans hn1
          have co3 := (World.cell?_of_block (a := ⟨Bo, 0, none⟩) HB3.out.bo).trans ho
          clear cn co hR hy e1
          gi_wp2
          go_roundw
          case rel => exact ⟨l0.length, k + 1, hkm, ⟨by rw [Nat.add_mul, Nat.one_mul, HPK.out]; omega⟩, by first | rfl | (congr 1; omega), HJ3, HB3⟩
          case measure => simp [intOf]; omega
        · gi_wp2
          refine bodyPost_ret (results_none rfl _ _ _) rfl ?_
          exact ⟨⟨_, rfl⟩, .inr hJx3⟩
    · have hpe : p = l0.length := by have := HP.out; omega
      subst hpe
      have hkm : k = m := by
        have h1 := (hm k).1
        have h2 := HP.out
        rcases Nat.lt_or_ge k m with h3 | h3
        · have := h1 h3; omega
        · omega
      subst hkm
      gi_wp2
      go_end0
      exact ⟨⟨_, rfl⟩, .inl HJ.out⟩
theorem pieces_seq (d : Nat) (hd : 1 ≤ d) (Bn Bo : Nat) (A : Option Addr) (c n m : Nat) (l0 : List Bool) (hn : 1 ≤ n) (hm : ∀ k, k < m ↔ k * n < l0.length) (hl : l0.length < 140737488355328) (hnb : n < 9223372036854775808) (w : World) (hn1 : w.cell? ⟨Bn, 0, none⟩ = some (.int .i64 (n : Int))) (ho : w.cell? ⟨Bo, 0, none⟩ = some (.slice A l0.length c)) (hC : Kd.C Kd.bool w A l0.length l0) (hc : l0.length ≤ c) (hBa : ∀ ad, A = some ad → ad.block < w.heap.size) :
    SeqV Fence.wide d Try.prog 49 #[.pointer (some ⟨Bn, 0, none⟩), .pointer (some ⟨Bo, 0, none⟩)] (pcEnc n l0.length) (PieceAt l0 n w.heap.size) (KpP Bn Bo A) m w := fun l J Jx W hW hJ hJx hY h0 => by
  have hbn := block_lt_of_cell hn1
  have hbo := block_lt_of_cell ho
  refine pieces1_in d hd l Bn Bo A c n m w.heap.size l0 hn hm hl hnb J Jx hJ hY W ((hW.cell (p := ⟨Bn, 0, none⟩) hbn).trans hn1) ((hW.cell (p := ⟨Bo, 0, none⟩) hbo).trans ho) ?_ hc hW.size (Nat.lt_of_lt_of_le hbn hW.size) (Nat.lt_of_lt_of_le hbo hW.size) (fun ad e => Nat.lt_of_lt_of_le (hBa ad e) hW.size) h0
  cases A with
  | none => exact ⟨hC.1, hC.2.1, fun hp => by obtain ⟨ad, e, _⟩ := hC.2.2 hp; cases e⟩
  | some ad => exact C_stays hC (hW.block _ (hBa ad rfl))
end Go.Proofs.Ytabjfehhibeeiaa.Pure
