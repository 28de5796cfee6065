/- A frame's bytes: the program's and the reference's are the same; what bytes begin with, too. -/
import Derived.Test.YtclhkbjcemgmnaaFogx0
import Derived.Test.YtclhkbjcemgmnaaFogx1
import Derived.Test.YtclhkbjcemgmnaaFogx4
import Derived.Test.YtclhkbjcemgmnaaFogx6
import Derived.Test.YtclhkbjcemgmnaaFogx7
import Derived.Test.YtclhkbjcemgmnaaFogx8
import Derived.Test.YtclhkbjcemgmnaaFogx9
import Derived.Test.YtclhkbjcemgmnaaHandClone
import Derived.Test.YtclhkbjcemgmnaaHandPack
import Derived.Test.YtclhkbjcemgmnaaKit
import Derived.Test.YtclhkbjcemgmnaaCrcRef
import Derived.Test.YtclhkbjcemgmnaaHandPack
import Derived.Test.YtclhkbjcemgmnaaHandClone
namespace Go.Proofs.Ytclhkbjcemgmnaa.Pure
open Go.RowKit Go.Proofs.Ytclhkbjcemgmnaa.Fog Go.Proofs.YtclhkbjcemgmnaaW.PrintWords Go.Proofs.YtclhkbjcemgmnaaW.PrintLast Go.Proofs.YtclhkbjcemgmnaaW.PrintMore Go.Proofs.Ytclhkbjcemgmnaa.Kit Go.Proofs.Ytclhkbjcemgmnaa.Crc
set_option linter.unusedSimpArgs false
set_option linter.unusedVariables false

theorem str_append (xs ys : List Int) : strOfNums (xs ++ ys) = strOfNums xs ++ strOfNums ys := by
  apply ByteArray.ext
  simp [strOfNums, ByteArray.data_append]
theorem str_bytes (s : ByteArray) : strOfNums (bytesOf s) = s := by
  apply ByteArray.ext
  apply Array.ext'
  simp only [strOfNums, bytesOf, List.map_map]
  have : ((fun n : Int => UInt8.ofNat n.toNat) ∘ fun b : UInt8 => ((b.toNat : Nat) : Int)) = id := by
    funext b
    simp
  rw [this, List.map_id]
/-- A sum's bytes. -/
def two (x : Nat) : List Int := [(x : Int) / 256 % 256, (x : Int) % 256]
def four (y : Nat) : List Int := [(y : Int) / 16777216 % 256, (y : Int) / 65536 % 256, (y : Int) / 256 % 256, (y : Int) % 256]
def head3 (a0 a1 : Int) (m : Bool) (s : ByteArray) : List Int := [head0 a0 m, a1, (s.size : Int) % 256]
def packed (a0 a1 : Int) (m : Bool) (s : ByteArray) : ByteArray :=
  strOfNums (head3 a0 a1 m s ++ two (B16 (strOfNums (head3 a0 a1 m s))).toNat) ++ s ++ strOfNums (four (B32 s).toNat)
def mayB (a0 : Int) (s : ByteArray) : Bool := decide (1 ≤ a0) && (decide (a0 ≤ 15) && decide ((s.size : Int) ≤ 240))
theorem may_f (a0 a1 : Int) (m : Bool) (s : ByteArray) : frame_may.f a0 a1 m s = some (mayB a0 s) := by
  unfold frame_may.f mayB
  by_cases h1 : a0 ≥ 1
  · rw [if_pos h1, decide_eq_true (show 1 ≤ a0 from h1), Bool.true_and]
    by_cases h2 : a0 ≤ 15
    · rw [if_pos h2, decide_eq_true h2, Bool.true_and]
    · rw [if_neg h2, decide_eq_false h2, Bool.false_and]
  · rw [if_neg h1, decide_eq_false (show ¬ 1 ≤ a0 from h1), Bool.false_and]
theorem may_ref (a0 a1 : Int) (m : Bool) (s : ByteArray) : foghornref25_May.f a0 a1 m s = some (mayB a0 s) := may_f a0 a1 m s
theorem may_size {a0 : Int} {s : ByteArray} (h : mayB a0 s = true) : 1 ≤ a0 ∧ a0 ≤ 15 ∧ s.size ≤ 240 := by
  unfold mayB at h
  simp only [Bool.and_eq_true, decide_eq_true_eq] at h
  omega
theorem pack_f (a0 a1 : Int) (m : Bool) (s : ByteArray) : frame_Pack.f a0 a1 m s = some (if mayB a0 s = true then (packed a0 a1 m s, 0) else ((⟨#[]⟩ : ByteArray), 1)) := by
  unfold frame_Pack.f
  rw [may_f, Option.bind_some]
  by_cases h : mayB a0 s = true
  · obtain ⟨h1, h2, h3⟩ := may_size h
    rw [if_pos h, if_pos h, bytes16_f _ (by rw [strOfNums_size]; simp), Option.bind_some, bytes32_f s (by omega), Option.bind_some, if_pos (by omega)]
    rfl
  · rw [if_neg h, if_neg h]
theorem head0_ref : ∀ n : Nat, n < 16 → ∀ m : Bool, head0 (n : Int) m = (if m then ((16 * (n : Int)) % 256 + 1) % 256 else (16 * (n : Int)) % 256) ∧ head0 (n : Int) m = 16 * (n : Int) + (m.toNat : Int) := by decide +kernel
theorem u64w_nat (x : Nat) (h : x < 18446744073709551616) : IntKind.u64.wrap (x : Int) = x := by rw [IntKind.wrap_u64]; omega
theorem two_ref (x : Nat) (h : x < 65536) : ([(IntKind.u64.wrap (Int.tdiv (x : Int) 256)) % 256, (Int.tmod (x : Int) 256) % 256] : List Int) = two x := by
  unfold two
  rw [show (256 : Int) = ((256 : Nat) : Int) from rfl, tdiv_nat, tmod_nat, u64w_nat _ (by omega)]
  congr 1
  congr 1
  omega
theorem refpack_ev (a0 a1 : Int) (m : Bool) (s : ByteArray) : Ev (fun k => foghornref25_Pack.f k a0 a1 m s) (if mayB a0 s = true then (packed a0 a1 m s, 0) else ((⟨#[]⟩ : ByteArray), 1)) := by
  simp only [foghornref25_Pack.f]
  refine Ev.bindc (may_ref a0 a1 m s) ?_
  by_cases h : mayB a0 s = true
  · rw [if_pos h]
    obtain ⟨h1, h2, h3⟩ := may_size h
    refine Ev.ifp h (Ev.bindc rfl ?_)
    obtain ⟨n, hn⟩ := Int.eq_ofNat_of_zero_le (show 0 ≤ a0 by omega)
    subst hn
    obtain ⟨hh, _⟩ := head0_ref n (by omega) m
    have hb16 := (B16 (strOfNums (head3 (n : Int) a1 m s))).isLt
    have fin : ∀ (y : List Int), y = head3 (n : Int) a1 m s → Ev (fun k => (foghornref25_Sum.f k (strOfNums y) 4129 16).bind fun t162 => ((some (([(IntKind.u64.wrap (Int.tdiv t162 256)) % 256, (Int.tmod t162 256) % 256] : List Int) : List Int)).bind fun y163 => (if y.length + y163.length < 140737488355328 then ((some (y ++ y163 : List Int)).bind fun y166 => (if y166.length + s.size < 140737488355328 then ((some (y166 ++ bytesOf s : List Int)).bind fun y169 => ((foghornref25_Sum.f k s 79764919 32).bind fun t172 => ((some (([(t172 / 16777216) % 256, (t172 / 65536) % 256, (t172 / 256) % 256, (t172) % 256] : List Int) : List Int)).bind fun y173 => (if y169.length + y173.length < 140737488355328 then (some (strOfNums (y169 ++ y173), (0 : Int))) else (none))))) else (none))) else (none)))) (packed (n : Int) a1 m s, (0 : Int)) := by
      intro y hy
      subst hy
      refine Ev.bind (ref_sum16 _ (by rw [strOfNums_size]; simp [head3])) (Ev.bindc (by rw [two_ref _ hb16]) ?_)
      refine Ev.ifp (by simp [head3, two]) (Ev.bindc rfl (Ev.ifp (by simp [head3, two]; omega) (Ev.bindc rfl (Ev.bind (ref_sum32 s (by omega)) (Ev.bindc rfl (Ev.ifp ?_ (Ev.val ?_)))))))
      · simp [head3, two, bytesOf_length]; omega
      · show (strOfNums (head3 (n : Int) a1 m s ++ two (B16 (strOfNums (head3 (n : Int) a1 m s))).toNat ++ bytesOf s ++ four (B32 s).toNat), (0 : Int)) = _
        rw [str_append, str_append, str_bytes]
        rfl
    cases m with
    | false =>
      refine Ev.ifn (by decide) (fin _ ?_)
      rw [if_neg (by decide)] at hh
      unfold head3
      rw [hh]
    | true =>
      refine Ev.ifp rfl (Ev.ifp (by simp) (Ev.bindc rfl (fin _ ?_)))
      rw [if_pos rfl] at hh
      unfold head3
      rw [hh]
      rfl
  · rw [if_neg h]
    exact Ev.ifn h (Ev.now _)
/-- What bytes begin with. -/
def kindOf (s : ByteArray) : Int := bt s 0 / 16
def moreOf (s : ByteArray) : Bool := bt s 0 % 2 == 1
def lenOf (s : ByteArray) : Nat := 9 + (bt s 2).toNat
def bodyOf (s : ByteArray) : ByteArray := s.extract 5 (lenOf s - 4)
def fitsB (s : ByteArray) : Bool := decide (9 ≤ s.size) && (decide (lenOf s ≤ s.size) && (mayB (kindOf s) (bodyOf s) && decide ((packed (kindOf s) (bt s 1) (moreOf s) (bodyOf s)).toList = (s.extract 0 (lenOf s)).toList)))
def parsed (s : ByteArray) : Int × Int × Bool × ByteArray × Int × Int := if fitsB s = true then (kindOf s, bt s 1, moreOf s, bodyOf s, (lenOf s : Int), 0) else (0, 0, false, (⟨#[]⟩ : ByteArray), 0, 4)
theorem len_eq (s : ByteArray) : wrap64 (9 + (wrap64 (bt s 2))) = (lenOf s : Int) := by
  have h := bt_range s 2
  unfold lenOf
  rw [w64 (x := bt s 2) (by omega) (by omega), w64 (by omega) (by omega)]
  omega
theorem len_le (s : ByteArray) : 9 ≤ lenOf s ∧ lenOf s ≤ 264 := by
  have h := bt_range s 2
  unfold lenOf
  omega
theorem byte_facts : ∀ c : Nat, c < 256 → (Int.tdiv (c : Int) 16) % 256 = (c : Int) / 16 ∧ ((Int.tmod (c : Int) 2) == 1) = ((c : Int) % 2 == 1) ∧ ((Go.bits .and .u8 (c : Int) 1) == 1) = ((c : Int) % 2 == 1) ∧ (head0 ((c : Int) / 16) ((c : Int) % 2 == 1) = (c : Int) → (Go.bits .and .u8 (c : Int) 14 != 0) = false) := by decide +kernel
theorem bt_facts (s : ByteArray) : (Int.tdiv (bt s 0) 16) % 256 = kindOf s ∧ ((Int.tmod (bt s 0) 2) == 1) = moreOf s ∧ ((Go.bits .and .u8 (bt s 0) 1) == 1) = moreOf s ∧ (head0 (kindOf s) (moreOf s) = bt s 0 → (Go.bits .and .u8 (bt s 0) 14 != 0) = false) := by
  have h := bt_range s 0
  obtain ⟨c, hc⟩ := Int.eq_ofNat_of_zero_le h.1
  unfold kindOf moreOf
  rw [hc]
  exact byte_facts c (by omega)
/-- A head whose first byte holds what none may hold is no frame's. -/
theorem fits_low (s : ByteArray) (h : fitsB s = true) : (Go.bits .and .u8 (bt s 0) 14 != 0) = false := by
  unfold fitsB at h
  simp only [Bool.and_eq_true, decide_eq_true_eq] at h
  obtain ⟨h9, hl, hm, he⟩ := h
  refine (bt_facts s).2.2.2 ?_
  obtain ⟨m1, m2, m3⟩ := may_size hm
  have hle := len_le s
  have e0 : (packed (kindOf s) (bt s 1) (moreOf s) (bodyOf s)).toList[0]? = (s.extract 0 (lenOf s)).toList[0]? := by rw [he]
  have hp : (packed (kindOf s) (bt s 1) (moreOf s) (bodyOf s)).toList[0]? = some (UInt8.ofNat (head0 (kindOf s) (moreOf s)).toNat) := by
    rw [ByteArray.toList_eq]
    simp only [packed, strOfNums, head3, ByteArray.data_append, List.cons_append, List.map_cons, Array.toList_append, List.getElem?_cons_zero]
  have hx : (s.extract 0 (lenOf s)).toList[0]? = some (UInt8.ofNat (bt s 0).toNat) := by
    rw [ByteArray.toList_eq, ByteArray.data_extract, Array.toList_extract]
    have hs : 0 < s.data.size := by have : s.data.size = s.size := rfl; omega
    have hb : (bt s 0).toNat = (s.data[0]'hs).toNat := by
      unfold bt
      rw [dif_pos (show (0 : Int).toNat < s.size from hs)]
      rfl
    rw [hb]
    simp [List.extract_eq_take_drop, List.getElem?_take, show 0 < lenOf s by omega]
  rw [hp, hx] at e0
  have e1 := congrArg UInt8.toNat (Option.some.inj e0)
  have hb := bt_range s 0
  obtain ⟨n, hn⟩ := Int.eq_ofNat_of_zero_le (show 0 ≤ kindOf s by omega)
  obtain ⟨_, h0⟩ := head0_ref n (by omega) (moreOf s)
  rw [← hn] at h0
  have hmn : ((moreOf s).toNat : Int) ≤ 1 := by cases moreOf s <;> decide
  simp only [UInt8.toNat_ofNat'] at e1
  omega
theorem body_size (s : ByteArray) (h : lenOf s ≤ s.size) : (bodyOf s).size ≤ 255 := by
  have hl := len_le s
  unfold bodyOf
  rw [ByteArray.size_extract]
  omega
/-- The reference's words. -/
theorem parse_ref (s : ByteArray) (hs : s.size ≤ 140737488351232) : Ev (fun k => foghornref25_Parse.f k s) (parsed s) := by
  simp only [foghornref25_Parse.f]
  obtain ⟨f1, f2, f3, f4⟩ := bt_facts s
  by_cases h9 : s.size < 9
  · refine Ev.ifp (by omega) (Ev.step (fun k => by simp only [foghornref25_Parse.j0]; rfl) (Ev.ifp trivial ?_))
    have e : fitsB s = false := by unfold fitsB; rw [decide_eq_false (show ¬ 9 ≤ s.size by omega), Bool.false_and]
    unfold parsed
    rw [e, if_neg (by decide)]
    exact Ev.now _
  · refine Ev.ifn (by omega) (Ev.ifp (by omega) (Ev.step (fun k => by simp only [foghornref25_Parse.j0]; rfl) ?_))
    rw [len_eq, f1, f2]
    have hl := len_le s
    by_cases hn : s.size < lenOf s
    · refine Ev.ifp (by simp; omega) ?_
      have e : fitsB s = false := by unfold fitsB; rw [decide_eq_false (show ¬ lenOf s ≤ s.size by omega), Bool.false_and, Bool.and_false]
      unfold parsed
      rw [e, if_neg (by decide)]
      exact Ev.now _
    · refine Ev.ifn (by simp; omega) (Ev.ifp (by omega) (Ev.ifp (by omega) (Ev.ifp (by omega) ?_)))
      have e4 : wrap64 ((lenOf s : Int) - 4) = ((lenOf s - 4 : Nat) : Int) := by rw [w64 (by omega) (by omega)]; omega
      rw [e4, Int.toNat_natCast, Int.toNat_natCast]
      refine Ev.ifp (by omega) (Ev.ifp (by omega) (Ev.bind (refpack_ev (kindOf s) (bt s 1) (moreOf s) (bodyOf s)) ?_))
      by_cases hm : mayB (kindOf s) (bodyOf s) = true
      · rw [if_pos hm]
        refine Ev.ifp rfl (Ev.ifp (by omega) (Ev.ifp (by omega) ?_))
        by_cases he : (packed (kindOf s) (bt s 1) (moreOf s) (bodyOf s)).toList = (s.extract 0 (lenOf s)).toList
        · have e : fitsB s = true := by unfold fitsB; rw [decide_eq_true (show 9 ≤ s.size by omega), decide_eq_true (show lenOf s ≤ s.size by omega), hm, decide_eq_true he]; rfl
          refine Ev.ifp he ?_
          unfold parsed
          rw [e, if_pos rfl]
          exact Ev.now _
        · have e : fitsB s = false := by unfold fitsB; rw [decide_eq_false he, Bool.and_false, Bool.and_false, Bool.and_false]
          refine Ev.ifn he ?_
          unfold parsed
          rw [e, if_neg (by decide)]
          exact Ev.now _
      · have e : fitsB s = false := by
          have : mayB (kindOf s) (bodyOf s) = false := by simpa using hm
          unfold fitsB; rw [this, Bool.false_and, Bool.and_false, Bool.and_false]
        rw [if_neg hm]
        refine Ev.ifn (by decide) ?_
        unfold parsed
        rw [e, if_neg (by decide)]
        exact Ev.now _
/-- The program's words. -/
theorem parse_evL (s : ByteArray) (hs : s.size ≤ 140737488355328) : Ev (fun k => frame_Parse.f k s) (parsed s) := by
  simp only [frame_Parse.f]
  obtain ⟨f1, f2, f3, f4⟩ := bt_facts s
  have hno : fitsB s = false → Ev (fun _ => some ((0 : Int), (0 : Int), false, (⟨#[]⟩ : ByteArray), (0 : Int), (4 : Int))) (parsed s) := by
    intro e
    unfold parsed
    rw [e, if_neg (by decide)]
    exact Ev.now _
  by_cases h9 : s.size < 9
  · exact Ev.ifp (by omega) (hno (by unfold fitsB; rw [decide_eq_false (show ¬ 9 ≤ s.size by omega), Bool.false_and]))
  · refine Ev.ifn (by omega) (Ev.ifp (by omega) (Ev.ifp (by omega) (Ev.ifp (by omega) ?_)))
    rw [len_eq, f3]
    have hl := len_le s
    by_cases hn : s.size < lenOf s
    · refine Ev.ifp (by omega) (Ev.step (fun k => by simp only [frame_Parse.j0]; rfl) (Ev.ifp trivial (hno ?_)))
      unfold fitsB; rw [decide_eq_false (show ¬ lenOf s ≤ s.size by omega), Bool.false_and, Bool.and_false]
    · refine Ev.ifn (by omega) (Ev.step (fun k => by simp only [frame_Parse.j0]; rfl) ?_)
      by_cases hlow : (Go.bits .and .u8 (bt s 0) 14 != 0) = true
      · refine Ev.ifp hlow (hno ?_)
        cases e : fitsB s with
        | false => rfl
        | true => rw [fits_low s e] at hlow; cases hlow
      · refine Ev.ifn hlow ?_
        have e4 : wrap64 ((lenOf s : Int) - 4) = ((lenOf s - 4 : Nat) : Int) := by rw [w64 (by omega) (by omega)]; omega
        rw [e4, Int.toNat_natCast, Int.toNat_natCast]
        have hb := body_size s (by omega)
        refine Ev.ifp (by omega) (Ev.ifp (by omega) (Ev.bindc (a := bodyOf s) (show strings_Clone.f (bodyOf s) = _ from by unfold strings_Clone.f; rw [if_pos (by omega)]) (Ev.bindc (pack_f (kindOf s) (bt s 1) (moreOf s) (bodyOf s)) ?_)))
        by_cases hm : mayB (kindOf s) (bodyOf s) = true
        · rw [if_pos hm]
          refine Ev.ifp rfl (Ev.ifp (by omega) (Ev.ifp (by omega) ?_))
          by_cases he : (packed (kindOf s) (bt s 1) (moreOf s) (bodyOf s)).toList = (s.extract 0 (lenOf s)).toList
          · have e : fitsB s = true := by unfold fitsB; rw [decide_eq_true (show 9 ≤ s.size by omega), decide_eq_true (show lenOf s ≤ s.size by omega), hm, decide_eq_true he]; rfl
            refine Ev.ifp he ?_
            unfold parsed
            rw [e, if_pos rfl]
            exact Ev.now _
          · exact Ev.ifn he (hno (by unfold fitsB; rw [decide_eq_false he, Bool.and_false, Bool.and_false, Bool.and_false]))
        · rw [if_neg hm]
          refine Ev.ifn (by decide) (hno ?_)
          have : mayB (kindOf s) (bodyOf s) = false := by simpa using hm
          unfold fitsB; rw [this, Bool.false_and, Bool.and_false, Bool.and_false]
theorem parse_ev (s : ByteArray) (hs : s.size ≤ 140737488351232) : Ev (fun k => frame_Parse.f k s) (parsed s) := parse_evL s (by omega)
end Go.Proofs.Ytclhkbjcemgmnaa.Pure
