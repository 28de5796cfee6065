/- The reference's Pieces: the pieces of a row, one behind the other. -/
import Derived.Test.YtabjfehhibeeiaaFogx0
import Derived.Test.YtabjfehhibeeiaaFogx2
import Derived.Test.YtabjfehhibeeiaaKit
import Derived.Test.YtabjfehhibeeiaaHandIter
namespace Go.Proofs.Ytabjfehhibeeiaa.Pure
open Go.RowKit Go.Proofs.Ytabjfehhibeeiaa.Fog Go.Proofs.YtabjfehhibeeiaaW.PrintWords Go.Proofs.YtabjfehhibeeiaaW.PrintLast Go.Proofs.YtabjfehhibeeiaaW.PrintMore Go.Proofs.Ytabjfehhibeeiaa.Kit
set_option linter.unusedVariables false
set_option linter.unusedSimpArgs false
def manyP (N n : Nat) : Nat := (N + n - 1) / n
theorem manyP_lt (N n : Nat) (hn : 1 ≤ n) (k : Nat) : k < manyP N n ↔ k * n < N := by
  unfold manyP
  rw [Nat.lt_iff_add_one_le, Nat.le_div_iff_mul_le (by omega), Nat.add_mul, Nat.one_mul]
  omega
theorem manyP_eq (q r n : Nat) (h1 : 1 ≤ r) (h2 : r ≤ n) : manyP (q * n + r) n = q + 1 := by
  have a := manyP_lt (q * n + r) n (by omega) q
  have b := manyP_lt (q * n + r) n (by omega) (q + 1)
  have c : (q + 1) * n = q * n + n := by rw [Nat.add_mul, Nat.one_mul]
  have a' := a.2 (by omega)
  have b' : ¬ (q + 1 < manyP (q * n + r) n) := fun h => by have := b.1 h; omega
  omega
def pcS (l : List Bool) (n k : Nat) : S34 := ⟨((k * n : Nat) : Int), pieceL l n k⟩
def wantP (l : List Bool) (n : Nat) : List S34 := (List.range (manyP l.length n)).map (pcS l n)
def outQ (l : List Bool) (n q r : Nat) : List S34 := (List.range q).map (pcS l n) ++ [⟨((q * n : Nat) : Int), (l.drop (q * n)).take r⟩]
theorem outQ_length (l : List Bool) (n q r : Nat) : (outQ l n q r).length = q + 1 := by simp [outQ]
theorem outQ_last (l : List Bool) (n q r : Nat) : rd_T34 (outQ l n q r) (q : Int) = ⟨((q * n : Nat) : Int), (l.drop (q * n)).take r⟩ := by
  unfold rd_T34 outQ
  rw [Int.toNat_natCast, List.getD_eq_getElem?_getD, List.getElem?_append_right (by simp)]
  simp
theorem set_last (xs : List S34) (a b : S34) : (xs ++ [a]).set xs.length b = xs ++ [b] := by
  rw [List.set_append_right _ _ (Nat.le_refl _), Nat.sub_self]
  rfl
theorem outQ_set (l : List Bool) (n q r : Nat) (b : S34) : (outQ l n q r).set q b = (List.range q).map (pcS l n) ++ [b] := by
  have h := set_last ((List.range q).map (pcS l n)) ⟨((q * n : Nat) : Int), (l.drop (q * n)).take r⟩ b
  rw [List.length_map, List.length_range] at h
  exact h
theorem outQ_full (l : List Bool) (n q : Nat) : outQ l n q n = (List.range (q + 1)).map (pcS l n) := by
  unfold outQ
  rw [List.range_succ, List.map_append]
  rfl
theorem take_one_more (l : List Bool) (p r : Nat) (h : p + r < l.length) : (l.drop p).take (r + 1) = (l.drop p).take r ++ [rdOf false l ((p + r : Nat) : Int)] := by
  have hd : r < (l.drop p).length := by rw [List.length_drop]; omega
  rw [List.take_succ_eq_append_getElem hd]
  unfold rdOf
  rw [Int.toNat_natCast, List.getElem_drop, List.getD_eq_getElem?_getD, List.getElem?_eq_getElem h]
  rfl
theorem outQ_end (l : List Bool) (n q r : Nat) (h : q * n + r = l.length) (h1 : 1 ≤ r) (h2 : r ≤ n) : outQ l n q r = wantP l n := by
  unfold wantP
  rw [← h, manyP_eq q r n h1 h2, ← outQ_full]
  unfold outQ
  have a : (l.drop (q * n)).length = r := by rw [List.length_drop]; omega
  have b : (l.drop (q * n)).take r = l.drop (q * n) := List.take_of_length_le (by omega)
  have c : (l.drop (q * n)).take n = l.drop (q * n) := List.take_of_length_le (by omega)
  rw [b, c]
theorem refp_l0 (l : List Bool) (n : Nat) (hn : 1 ≤ n) (hl : l.length ≤ 1048576) : ∀ d q r : Nat, q * n + r + d = l.length → 1 ≤ r → r ≤ n → Ev (fun k => foghornref01_Pieces.l0 k l (n : Int) (outQ l n q r) ((q * n + r : Nat) : Int)) (wantP l n)
  | 0, q, r, h, h1, h2 => by
    refine Ev.step (fun k => by simp only [foghornref01_Pieces.l0]; rfl) (Ev.ifn (by omega) (Ev.val ?_))
    exact outQ_end l n q r (by omega) h1 h2
  | d + 1, q, r, h, h1, h2 => by
    have hq : q ≤ q * n := Nat.le_mul_of_pos_right q (by omega)
    have e1 : wrap64 (((q + 1 : Nat) : Int) - 1) = (q : Int) := by unfold wrap64; omega
    have hlr : ((l.drop (q * n)).take r).length = r := by rw [List.length_take, List.length_drop]; omega
    refine Ev.step (fun k => by simp only [foghornref01_Pieces.l0]; rfl) (Ev.ifp (by omega) (Ev.ifn (by omega) ?_))
    rw [outQ_length, e1, outQ_last]
    dsimp only
    rw [hlr]
    refine Ev.ifp (by omega) (Ev.ifp (by omega) ?_)
    by_cases hr : r = n
    · subst hr
      have hs : (q + 1) * r = q * r + r := by rw [Nat.add_mul, Nat.one_mul]
      have e2 : wrap64 (((q + 1 + 1 : Nat) : Int) - 1) = ((q + 1 : Nat) : Int) := by unfold wrap64; omega
      have hl2 : (outQ l r q r ++ [(⟨((q * r + r : Nat) : Int), []⟩ : S34)]).length = q + 1 + 1 := by rw [List.length_append, outQ_length]; rfl
      have hrd : rd_T34 (outQ l r q r ++ [(⟨((q * r + r : Nat) : Int), []⟩ : S34)]) ((q + 1 : Nat) : Int) = ⟨((q * r + r : Nat) : Int), []⟩ := by
        unfold rd_T34
        rw [Int.toNat_natCast, List.getD_eq_getElem?_getD, List.getElem?_append_right (by rw [outQ_length]; exact Nat.le_refl _), outQ_length, Nat.sub_self]
        rfl
      refine Ev.ifp rfl (Ev.ifp (by omega) (Ev.bindc rfl ?_))
      rw [hl2, e2, hrd]
      dsimp only
      refine Ev.ifp (by omega) (Ev.ifp (by omega) (Ev.ifp (by omega) (Ev.ifp (by simp) ?_)))
      have ih := refp_l0 l r hn hl d (q + 1) 1 (by omega) (by omega) hn
      have hst : (outQ l r q r ++ [(⟨((q * r + r : Nat) : Int), []⟩ : S34)]).set (((q + 1 : Nat) : Int)).toNat ⟨((q * r + r : Nat) : Int), [] ++ [rdOf false l ((q * r + r : Nat) : Int)]⟩ = outQ l r (q + 1) 1 := by
        have hs2 := set_last (outQ l r q r) ⟨((q * r + r : Nat) : Int), []⟩ ⟨((q * r + r : Nat) : Int), [] ++ [rdOf false l ((q * r + r : Nat) : Int)]⟩
        rw [outQ_length] at hs2
        rw [Int.toNat_natCast, hs2, outQ_full]
        have ht := take_one_more l ((q + 1) * r) 0 (by omega)
        rw [List.take_zero, Nat.add_zero] at ht
        unfold outQ
        rw [ht, hs]
        rfl
      rw [hst, show wrap64 (((q * r + r : Nat) : Int) + 1) = (((q + 1) * r + 1 : Nat) : Int) by unfold wrap64; omega]
      exact ih
    · refine Ev.ifn (by omega) (Ev.ifp (by omega) (Ev.ifp (by omega) ?_))
      have ih := refp_l0 l n hn hl d q (r + 1) (by omega) (by omega) (by omega)
      have hst : (outQ l n q r).set ((q : Int)).toNat ⟨((q * n : Nat) : Int), (l.drop (q * n)).take r ++ [rdOf false l ((q * n + r : Nat) : Int)]⟩ = outQ l n q (r + 1) := by
        rw [Int.toNat_natCast, outQ_set, ← take_one_more l (q * n) r (by omega)]
        rfl
      rw [hst, show wrap64 (((q * n + r : Nat) : Int) + 1) = ((q * n + (r + 1) : Nat) : Int) by unfold wrap64; omega]
      exact ih
theorem refp_ev (l : List Bool) (n : Nat) (hn : 1 ≤ n) (hl : l.length ≤ 1048576) : Ev (fun k => foghornref01_Pieces.f k l (n : Int)) (wantP l n) := by
  unfold foghornref01_Pieces.f
  refine Ev.ifn (by omega) ?_
  rcases Nat.eq_zero_or_pos l.length with h | h
  · refine Ev.step (fun k => by simp only [foghornref01_Pieces.l0]; rfl) (Ev.ifn (by omega) (Ev.val ?_))
    have hm : ¬ (0 < manyP l.length n) := fun hh => by have := (manyP_lt l.length n hn 0).1 hh; omega
    unfold wantP
    rw [show manyP l.length n = 0 by omega]
    rfl
  · refine Ev.step (fun k => by simp only [foghornref01_Pieces.l0]; rfl) (Ev.ifp (by omega) ?_)
    refine Ev.ifp trivial ?_
    refine Ev.ifp (show ([] : List S34).length < 4398046511104 by decide) (Ev.bindc rfl ?_)
    have ih := refp_l0 l n hn hl (l.length - 1) 0 1 (by omega) (by omega) hn
    have hst : (([] : List S34) ++ [(⟨0, ([] : List Bool)⟩ : S34)]).set 0 ⟨0, ([] : List Bool) ++ [rdOf false l 0]⟩ = outQ l n 0 1 := by
      have ht := take_one_more l 0 0 (by omega)
      rw [List.take_zero, List.drop_zero] at ht
      unfold outQ
      rw [Nat.zero_mul, List.drop_zero, ht]
      rfl
    rw [Nat.zero_mul] at ih
    rw [← hst] at ih
    have e1 : wrap64 (((([] : List S34) ++ [(⟨0, ([] : List Bool)⟩ : S34)]).length : Int) - 1) = 0 := by
      rw [List.length_append, List.length_singleton, List.length_nil]
      unfold wrap64
      omega
    have e2 : rd_T34 (([] : List S34) ++ [(⟨0, ([] : List Bool)⟩ : S34)]) 0 = ⟨0, []⟩ := rfl
    rw [e1, e2]
    refine Ev.ifp (by decide) ?_
    refine Ev.ifp (show (0 : Int) < ((([] : List S34) ++ [(⟨0, ([] : List Bool)⟩ : S34)]).length : Int) by simp) ?_
    refine Ev.ifp (by decide) ?_
    refine Ev.ifp (show ([] : List Bool).length < 140737488355328 by decide) ?_
    rw [show wrap64 (0 + 1) = ((0 + 1 : Nat) : Int) by unfold wrap64; omega]
    exact ih
theorem refp_bad (l : List Bool) (a : Int) (h : a < 1) : foghornref01_Pieces.f 0 l a = some [] := by
  unfold foghornref01_Pieces.f
  rw [if_pos h]
end Go.Proofs.Ytabjfehhibeeiaa.Pure
