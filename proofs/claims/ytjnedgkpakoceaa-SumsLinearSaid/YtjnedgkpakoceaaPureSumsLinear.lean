/- SumsLinear: the sum of unlike places is the exclusive or of the sums; false bits ahead change none; two rows' sum is told by their sums; bit by bit. No condition. -/
import Derived.Test.YtjnedgkpakoceaaFogx0
import Derived.Test.YtjnedgkpakoceaaFogx1
import Derived.Test.YtjnedgkpakoceaaFogx4
import Derived.Test.YtjnedgkpakoceaaKit
import Derived.Test.YtjnedgkpakoceaaCrcSums
import Derived.Test.YtjnedgkpakoceaaCrcAwake
namespace Go.Proofs.Ytjnedgkpakoceaa.Pure
open Go.RowKit Go.Proofs.Ytjnedgkpakoceaa.Fog Go.Proofs.YtjnedgkpakoceaaW.PrintWords Go.Proofs.YtjnedgkpakoceaaW.PrintLast Go.Proofs.YtjnedgkpakoceaaW.PrintMore Go.Proofs.Ytjnedgkpakoceaa.Kit Go.Proofs.Ytjnedgkpakoceaa.Crc
set_option linter.unusedSimpArgs false
set_option linter.unusedVariables false

theorem xl_getD (a b : List Bool) (h : a.length = b.length) (q : Nat) (hq : q < a.length) : (xl a b)[q]'(by rw [xl_length _ _ h]; exact hq) = (a.getD q false != b.getD q false) := by
  simp [xl, List.getD_eq_getElem?_getD, hq, show q < b.length by omega]
theorem unlike_l0 (a b : List Bool) (h : a.length = b.length) (ha : a.length ≤ 140737488351232) : ∀ d i : Nat, i + d = a.length →
    Ev (fun k => foghornlaw24_unlike.l0 k a b ((xl a b).take i ++ List.replicate d false) (i : Int)) (xl a b)
  | 0, i, hi => by
    refine Ev.step (fun k => by simp only [foghornlaw24_unlike.l0]; rfl) (Ev.ifn (by omega) ?_)
    refine Ev.val ?_
    rw [List.take_of_length_le (by rw [xl_length _ _ h]; omega)]
    simp
  | d + 1, i, hi => by
    have ih := unlike_l0 a b h ha d (i + 1) (by omega)
    have hl := xl_length a b h
    refine Ev.step (fun k => by simp only [foghornlaw24_unlike.l0]; rfl) (Ev.ifp (by omega) (Ev.ifp (by omega) (Ev.ifp (by omega) (Ev.ifp ?_ ?_))))
    · rw [List.length_append, List.length_take, List.length_replicate]; omega
    rw [Int.toNat_natCast, w64 (by omega) (by omega)]
    have e : ((xl a b).take i ++ List.replicate (d + 1) false).set i (rdOf false a (i : Int) != rdOf false b (i : Int)) = (xl a b).take (i + 1) ++ List.replicate d false := by
      have hti : ((xl a b).take i).length = i := by rw [List.length_take]; omega
      rw [List.set_append_right i _ (by omega), hti, Nat.sub_self, List.replicate_succ, List.set_cons_zero]
      rw [List.take_succ_eq_append_getElem (by omega), xl_getD a b h i (by omega), List.append_assoc]
      rfl
    rw [e]
    exact ih
theorem unlike_ev (a b : List Bool) (h : a.length = b.length) (ha : a.length ≤ 140737488351232) : Ev (fun k => foghornlaw24_unlike.f k a b) (xl a b) := by
  simp only [foghornlaw24_unlike.f]
  refine Ev.ifp (by omega) (Ev.ifp (by omega) ?_)
  rw [Int.toNat_natCast]
  have := unlike_l0 a b h ha a.length 0 (by omega)
  simpa using this
theorem joined_l0 (y : BitVec 32) (n : Nat) (hn : n ≤ 32768) : ∀ (d i : Nat) (x : BitVec 32), i + d = n →
    Ev (fun k => sums_Joined32.l0 k (x.toNat : Int) (y.toNat : Int) (n : Int) (i : Int)) (((crc P32 x (List.replicate d false) ^^^ y).toNat : Int), 0)
  | 0, i, x, h => by
    refine Ev.step (fun k => by simp only [sums_Joined32.l0]; rfl) (Ev.ifn (by omega) ?_)
    refine Ev.val ?_
    rw [u32_xor_nat x.toNat y.toNat x.isLt y.isLt, ← BitVec.toNat_xor]
    rfl
  | d + 1, i, x, h => by
    have ih := joined_l0 y n hn d (i + 1) (Crc.step P32 x false) (by omega)
    refine Ev.step (fun k => by simp only [sums_Joined32.l0]; rfl) (Ev.ifp (by omega) (Ev.bindc (step32_f x false) ?_))
    rw [w64 (by omega) (by omega), List.replicate_succ, crc_cons]
    exact ih
theorem joined_ev (x y : BitVec 32) (n : Nat) (hn : n ≤ 32768) : Ev (fun k => sums_Joined32.f k (x.toNat : Int) (y.toNat : Int) (n : Int)) (((crc P32 x (List.replicate n false) ^^^ y).toNat : Int), 0) := by
  simp only [sums_Joined32.f]
  refine Ev.ifn (by omega) (Ev.step (fun k => by simp only [sums_Joined32.j0]; rfl) (Ev.ifn (by simp; omega) ?_))
  exact joined_l0 y n hn n 0 x (by omega)
theorem xl_zeros : ∀ l : List Bool, xl (List.replicate l.length false) l = l
  | [] => rfl
  | b :: l => by
    rw [List.length_cons, List.replicate_succ]
    show (false != b) :: xl (List.replicate l.length false) l = b :: l
    rw [xl_zeros l]
    cases b <;> rfl
/-- A row's rest goes on from what its beginning left. -/
theorem crc_goes {v : Nat} (p s : BitVec v) (l : List Bool) : crc p s l = crc p s (List.replicate l.length false) ^^^ crc p 0#v l := by
  have h := crc_xor p (List.replicate l.length false) l s 0#v (by simp)
  rw [xl_zeros, BitVec.xor_zero] at h
  exact h
theorem take1 (a : List Bool) (i : Nat) (h : i < a.length) : (a.take (i + 1)).drop i = [a[i]] := by
  rw [List.take_succ_eq_append_getElem h, List.drop_append_of_le_length (by rw [List.length_take]; omega), List.drop_eq_nil_of_le (by rw [List.length_take]; omega)]
  rfl
theorem on16_one (x : BitVec 16) (l : List Bool) (hl : l.length ≤ 32768) : Ev (fun k => sums_On16.f k (x.toNat : Int) l) (((crc P16 x l).toNat : Int), 0) := by
  simp only [sums_On16.f]
  exact Ev.bind (on16_ev x l hl) (Ev.now _)
theorem linear_l0 (a : List Bool) (ha : a.length ≤ 300) : ∀ d i : Nat, i + d = a.length →
    Ev (fun k => foghornlaw24_SumsLinear.l0 k a ((crc P16 0#16 a).toNat : Int) ((crc P16 0#16 (a.take i)).toNat : Int) (i : Int)) true
  | 0, i, h => by
    refine Ev.step (fun k => by simp only [foghornlaw24_SumsLinear.l0]; rfl) (Ev.ifn (by omega) (Ev.ifp ?_ ?_))
    · rw [List.take_of_length_le (by omega)]
    · exact Ev.bind awake_ev (Ev.now _)
  | d + 1, i, h => by
    have ih := linear_l0 a ha d (i + 1) (by omega)
    have hi : i < a.length := by omega
    refine Ev.step (fun k => by simp only [foghornlaw24_SumsLinear.l0]; rfl) ?_
    rw [w64 (x := (i : Int) + 1) (by omega) (by omega), show ((i : Int) + 1) = ((i + 1 : Nat) : Int) by omega, Int.toNat_natCast, Int.toNat_natCast, take1 a i hi]
    refine Ev.ifp (by omega) (Ev.ifp (by omega) (Ev.ifp (by omega) (Ev.ifp (by omega) (Ev.bind (on16_one _ _ (by simp)) (Ev.ifp rfl ?_)))))
    rw [List.take_succ_eq_append_getElem hi, crc_append] at ih
    exact ih
theorem SumsLinear_ev (l0 l1 : List Bool) (a2 : Int) (h2 : (Lit.int .u16 a2).wf = true) (hy0 : l0.length * 1 ≤ 140737488351232) (hy1 : l1.length * 1 ≤ 140737488351232) : Ev (fun k => foghornlaw24_SumsLinear.f k l0 l1 a2) true := by
  obtain ⟨u, rfl, hu⟩ : ∃ u : Nat, a2 = (u : Int) ∧ u < 65536 := by
    simp [Lit.wf, IntKind.min, IntKind.max, IntKind.signed, IntKind.bits] at h2
    exact ⟨a2.toNat, by omega, by omega⟩
  simp only [foghornlaw24_SumsLinear.f]
  have hm : mn (l0.length : Int) 300 = ((min l0.length 300 : Nat) : Int) := by
    unfold mn
    split <;> omega
  rw [hm, Int.toNat_natCast]
  obtain ⟨a, ha⟩ : ∃ a, l0.take (min l0.length 300) = a := ⟨_, rfl⟩
  have hal : a.length ≤ 300 := by rw [← ha, List.length_take]; omega
  rw [ha]
  refine Ev.ifp (by omega) (Ev.ifp (by omega) (Ev.bindc rfl (Ev.ifp (by omega) (Ev.ifp (by omega) (Ev.bindc rfl (Ev.bindc rfl ?_))))))
  rw [Int.toNat_natCast]
  obtain ⟨b, hb⟩ : ∃ b, l1.take (min l1.length (List.replicate a.length false).length) ++ (List.replicate a.length false).drop (min l1.length (List.replicate a.length false).length) = b := ⟨_, rfl⟩
  have hbl : a.length = b.length := by rw [← hb]; simp; omega
  rw [hb]
  have hxl : (xl a b).length = a.length := xl_length a b hbl
  refine Ev.bind (sum32_ev a (by omega)) (Ev.bind (sum32_ev b (by omega)) (Ev.bind (unlike_ev a b hbl (by omega)) (Ev.bind (sum32_ev (xl a b) (by omega)) (Ev.bind (sum16_ev a (by omega)) (Ev.bind (sum16_ev b (by omega)) (Ev.bind (unlike_ev a b hbl (by omega)) (Ev.bind (sum16_ev (xl a b) (by omega)) ?_)))))))
  have e32 := crc_xor P32 a b 0#32 0#32 hbl
  have e16 := crc_xor P16 a b 0#16 0#16 hbl
  rw [BitVec.xor_zero] at e32 e16
  refine Ev.ifp rfl (Ev.ifp rfl (Ev.ifp rfl (Ev.ifp rfl (Ev.ifp rfl (Ev.ifp rfl (Ev.ifp ?_ ?_))))))
  · show ((crc P32 0#32 (xl a b)).toNat : Int) = _
    rw [e32, BitVec.toNat_xor]
    exact (u32_xor_nat _ _ (BitVec.isLt _) (BitVec.isLt _)).symm
  simp only []
  rw [e16, BitVec.toNat_xor, u16_xor_nat (crc P16 0#16 a).toNat (crc P16 0#16 b).toNat (BitVec.isLt _) (BitVec.isLt _)]
  refine Ev.step (fun k => by simp only [foghornlaw24_SumsLinear.j0]; rfl) (Ev.ifn (by simp) ?_)
  rw [w64n (by omega), show (40 : Int) = ((40 : Nat) : Int) from rfl, tmod_nat, Int.toNat_natCast]
  refine Ev.ifp (by omega) (Ev.ifp (by omega) (Ev.bindc rfl (Ev.ifp (by rw [List.length_replicate]; omega) (Ev.bind (sum32_ev _ (by rw [List.length_append, List.length_replicate]; omega)) ?_))))
  rw [crc_append, crc_zeros]
  refine Ev.ifp rfl (Ev.step (fun k => by simp only [foghornlaw24_SumsLinear.j1]; rfl) (Ev.ifn (by simp) ?_))
  rw [w64n (by omega), show ((a.length : Int) + 1) = ((a.length + 1 : Nat) : Int) by omega, w64n (by omega), tmod_nat, Int.toNat_natCast]
  obtain ⟨n, hn⟩ : ∃ n, u % (a.length + 1) = n := ⟨_, rfl⟩
  have hna : n ≤ a.length := by have := Nat.mod_lt u (show 0 < a.length + 1 by omega); omega
  rw [hn]
  refine Ev.ifn (by omega) (Ev.ifp (by omega) (Ev.ifp (by omega) (Ev.bind (sum32_ev _ (by rw [List.length_take]; omega)) (Ev.bind (sum32_ev _ (by rw [List.length_drop]; omega)) ?_))))
  simp only []
  rw [show ((a.length : Int) - (n : Int)) = ((a.length - n : Nat) : Int) by omega, w64n (by omega)]
  refine Ev.bind (joined_ev _ _ (a.length - n) (by omega)) (Ev.ifp trivial (Ev.ifp trivial (Ev.ifp rfl ?_)))
  have hj : crc P32 (crc P32 0#32 (a.take n)) (List.replicate (a.length - n) false) ^^^ crc P32 0#32 (a.drop n) = crc P32 0#32 a := by
    have h := crc_goes P32 (crc P32 0#32 (a.take n)) (a.drop n)
    rw [List.length_drop] at h
    rw [← h, ← crc_append, List.take_append_drop]
  rw [hj]
  refine Ev.step (fun k => by simp only [foghornlaw24_SumsLinear.j2]; rfl) (Ev.ifn (by simp) ?_)
  exact linear_l0 a hal a.length 0 (by omega)
theorem SumsLinear_walk (A0 : Option Addr) (c0 : Nat) (l0 : List Bool) (A1 : Option Addr) (c1 : Nat) (l1 : List Bool) (a2 : Int) (w : World) (hr0 : Kd.C Kd.bool w A0 l0.length l0) (hc0 : l0.length ≤ c0) (hy0 : l0.length * 1 ≤ 140737488351232) (hg0 : ∀ y ∈ l0, True) (hr1 : Kd.C Kd.bool w A1 l1.length l1) (hc1 : l1.length ≤ c1) (hy1 : l1.length * 1 ≤ 140737488351232) (hg1 : ∀ y ∈ l1, True) (w2 : (Lit.int .u16 a2).wf = true) :
    Calls Try.prog 3 #[.slice A0 l0.length c0, .slice A1 l1.length c1, .int .u16 a2] w fun e w' => e = .returned (.bool true) ∧ Below w.heap.size w w' := by
  obtain ⟨k, h⟩ := (SumsLinear_ev l0 l1 a2 w2 hy0 hy1).rounds
  exact foghornlaw24_SumsLinear.calls k A0 c0 l0 A1 c1 l1 a2 true w hr0 hc0 hr1 hc1 h
end Go.Proofs.Ytjnedgkpakoceaa.Pure
