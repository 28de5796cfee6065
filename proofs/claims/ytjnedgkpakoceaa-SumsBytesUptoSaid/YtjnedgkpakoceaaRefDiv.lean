/- foghornref24: long division, in the words of Crc. -/
import Derived.Test.YtjnedgkpakoceaaFogx0
import Derived.Test.YtjnedgkpakoceaaFogx5
import Derived.Test.YtjnedgkpakoceaaFogx6
import Derived.Test.YtjnedgkpakoceaaKit
import Derived.Test.YtjnedgkpakoceaaCrcLong
import Derived.Test.YtjnedgkpakoceaaCrcSums
namespace Go.Proofs.Ytjnedgkpakoceaa.Crc
open Go.RowKit Go.Proofs.Ytjnedgkpakoceaa.Fog Go.Proofs.YtjnedgkpakoceaaW.PrintWords Go.Proofs.YtjnedgkpakoceaaW.PrintLast Go.Proofs.YtjnedgkpakoceaaW.PrintMore Go.Proofs.Ytjnedgkpakoceaa.Kit
set_option linter.unusedSimpArgs false
set_option linter.unusedVariables false
theorem msb_getD {w : Nat} (x : BitVec w) (i : Nat) (hi : i < w) : (spelt x).getD i false = x.getMsbD i := spelt_get x i hi
theorem spelt_xor {w : Nat} (x y : BitVec w) : spelt (x ^^^ y) = xl (spelt x) (spelt y) := by
  apply ext_getD (by rw [xl_length _ _ (by rw [spelt_length, spelt_length]), spelt_length, spelt_length])
  intro i hi
  rw [spelt_length] at hi
  rw [spelt_get _ i hi, BitVec.getMsbD_xor]
  have h1 := spelt_get x i hi
  have h2 := spelt_get y i hi
  simp only [List.getD_eq_getElem?_getD] at h1 h2
  simp [xl, List.getD_eq_getElem?_getD, List.getElem?_zipWith, h1, h2, spelt_length, hi]
  rw [← h1, ← h2]
  simp [spelt_length, hi]
theorem spelt_sh {w : Nat} (hw : 0 < w) (s : BitVec w) (c : Bool) : spelt ((s <<< 1) ^^^ (if c = true then 1#w else 0#w)) = (spelt s).drop 1 ++ [c] := by
  apply ext_getD (by rw [spelt_length, List.length_append, List.length_drop, spelt_length, List.length_singleton]; omega)
  intro i hi
  rw [spelt_length] at hi
  rw [spelt_get _ i hi, BitVec.getMsbD_xor, BitVec.getMsbD_shiftLeft]
  have hd : ((spelt s).drop 1).length = w - 1 := by rw [List.length_drop, spelt_length]
  rw [List.getD_eq_getElem?_getD]
  rcases Nat.lt_or_ge (i + 1) w with h | h
  · rw [List.getElem?_append_left (by omega), List.getElem?_drop, ← List.getD_eq_getElem?_getD, Nat.add_comm 1 i, spelt_get _ _ h]
    have : (if c = true then 1#w else 0#w).getMsbD i = false := by
      cases c
      · simp
      · rw [if_pos rfl, BitVec.getMsbD_eq_getLsbD]
        simp
        omega
    rw [this, Bool.xor_false]
  · have e : i = w - 1 := by omega
    rw [List.getElem?_append_right (by omega), hd, show i - (w - 1) = 0 by omega]
    have h1 : s.getMsbD (i + 1) = false := by rw [BitVec.getMsbD_eq_getLsbD]; simp; omega
    have h2 : (if c = true then 1#w else 0#w).getMsbD i = c := by
      cases c
      · simp
      · rw [if_pos rfl, BitVec.getMsbD_eq_getLsbD, show w - 1 - i = 0 by omega]
        simp
        omega
    simp [h1, h2]
theorem spelt_ne {w : Nat} (hw : 0 < w) (s : BitVec w) : spelt s = s.msb :: (spelt s).drop 1 := by
  have hl := spelt_length s
  cases h : spelt s with
  | nil => rw [h] at hl; simp at hl; omega
  | cons a l =>
    have := spelt_get s 0 hw
    rw [h] at this
    simp only [List.getD_eq_getElem?_getD, List.getElem?_cons_zero, Option.getD_some] at this
    rw [this, BitVec.msb_eq_getMsbD_zero]
    rfl
/-- A number of the first bits, from nothing on. -/
theorem run0_first {w : Nat} (p : BitVec w) : ∀ n (l : List Bool), l.length = n → n ≤ w → run0 p 0#w l = BitVec.ofNat w (natOf l)
  | 0, l, h, _ => by rw [List.eq_nil_of_length_eq_zero h]; rfl
  | n + 1, l, h, hn => by
    have hne : l ≠ [] := by intro e; simp [e] at h
    obtain ⟨l', b, rfl⟩ : ∃ l' b, l = l' ++ [b] := ⟨l.dropLast, l.getLast hne, (List.dropLast_concat_getLast hne).symm⟩
    have hl : l'.length = n := by simpa using h
    rw [run0_append, run0_first p n l' hl (by omega), natOf_snoc]
    show step0 p (BitVec.ofNat w (natOf l')) b = _
    have hlt := natOf_lt n l' hl
    have hle : 2 ^ n ≤ 2 ^ (w - 1) := Nat.pow_le_pow_right (by omega) (by omega)
    have hpw : 2 ^ (w - 1) * 2 = 2 ^ w := by rw [← Nat.pow_succ]; congr 1; omega
    have hm : (BitVec.ofNat w (natOf l')).msb = false := by
      rw [BitVec.msb_eq_decide, BitVec.toNat_ofNat, Nat.mod_eq_of_lt (by omega)]
      simp
      omega
    unfold step0
    rw [hm, if_neg (c := false = true) (by decide), BitVec.xor_zero]
    apply BitVec.eq_of_toNat_eq
    rw [BitVec.toNat_xor, BitVec.toNat_shiftLeft, BitVec.toNat_ofNat, BitVec.toNat_ofNat, Nat.shiftLeft_eq, Nat.mod_eq_of_lt (show natOf l' < 2 ^ w by omega), Nat.mod_eq_of_lt (show natOf l' * 2 ^ 1 < 2 ^ w by omega)]
    have h2 : 2 * natOf l' + b.toNat < 2 ^ w := by cases b <;> simp <;> omega
    rw [Nat.mod_eq_of_lt h2]
    have e3 : (if b = true then 1#w else 0#w).toNat = b.toNat := by
      cases b
      · simp
      · rw [if_pos rfl]
        simp
        omega
    have hx : (natOf l' * 2 ^ 1 ^^^ b.toNat) = natOf l' * 2 + b.toNat := by
      have h1 : (natOf l' * 2 ^^^ b.toNat) / 2 = natOf l' * 2 / 2 ^^^ b.toNat / 2 := Nat.xor_div_two
      have h2 := bit_xor (natOf l' * 2) b.toNat 0
      have hb2 : b.toNat < 2 := by cases b <;> decide
      rw [show b.toNat / 2 = 0 by omega, Nat.xor_zero] at h1
      simp only [Nat.pow_zero, Nat.div_one, Nat.pow_one] at h2 ⊢
      omega
    rw [e3, hx]
    omega
/-- One bit of the division, the next one brought down. -/
theorem spelt_step0 {w : Nat} (hw : 0 < w) (p s : BitVec w) (c : Bool) : spelt (step0 p s c) = if s.msb = true then xl ((spelt s).drop 1 ++ [c]) (spelt p) else (spelt s).drop 1 ++ [c] := by
  unfold step0
  cases s.msb
  · simp only [Bool.false_eq_true, if_false, BitVec.xor_zero, spelt_sh hw]
  · simp only [if_true, spelt_xor, spelt_sh hw]
theorem spelt_step {w : Nat} (hw : 0 < w) (p s : BitVec w) (b : Bool) : spelt (step p s b) = if (s.msb != b) = true then xl ((spelt s).drop 1 ++ [false]) (spelt p) else (spelt s).drop 1 ++ [false] := by
  have h := spelt_sh hw s false
  rw [if_neg (by decide), BitVec.xor_zero] at h
  unfold step
  cases (s.msb != b)
  · rw [if_neg (by decide), if_neg (by decide), BitVec.xor_zero, h]
  · rw [if_pos rfl, if_pos rfl, spelt_xor, h]
theorem set_mid (A : List Bool) (x y : Bool) (B : List Bool) : (A ++ x :: B).set A.length y = A ++ y :: B := by
  rw [List.set_append_right _ _ (Nat.le_refl _), Nat.sub_self, List.set_cons_zero]
theorem get_mid (A : List Bool) (x : Bool) (B : List Bool) : (A ++ x :: B).getD A.length false = x := by
  simp [List.getD_eq_getElem?_getD]
theorem rd_mid (A : List Bool) (x : Bool) (B : List Bool) (i : Int) (hi : i = (A.length : Int)) : rdOf false (A ++ x :: B) i = x := by
  subst hi
  unfold rdOf
  rw [Int.toNat_natCast]
  exact get_mid A x B
theorem xl_cons (a b : Bool) (A B : List Bool) : xl (a :: A) (b :: B) = (a != b) :: xl A B := rfl
/-! ### the divisor -/
def D16 : List Bool := true :: spelt P16
def D32 : List Bool := true :: spelt P32
theorem divisor16 : Ev (fun k => foghornref24_Divisor.f k 16) D16 := Ev.of (fun k => foghornref24_Divisor.mono 16 k) (k := 20) (by decide +kernel)
theorem divisor32 : Ev (fun k => foghornref24_Divisor.f k 32) D32 := Ev.of (fun k => foghornref24_Divisor.mono 32 k) (k := 20) (by decide +kernel)
/-! ### Sum -/
theorem sum_l1 (w : Nat) (hw : w ≤ 32) (l D : List Bool) (r : List Bool) (i : Nat) (hD : D.length = w + 1) : ∀ (E A B rest : List Bool) (kk : Nat), D.drop kk = E → kk + E.length = w + 1 → A.length = i + kk → B.length = E.length → i + w ≤ 12000000 →
    Ev (fun k => foghornref24_Sum.l0 k (w : Int) l D (A ++ xl B E ++ rest) ((i + 1 : Nat) : Int)) r → Ev (fun k => foghornref24_Sum.l1 k (w : Int) l D (A ++ B ++ rest) (i : Int) (kk : Int)) r
  | [], A, B, rest, kk, hE, hk, hA, hB, hi, h => by
    obtain rfl : B = [] := List.eq_nil_of_length_eq_zero hB
    have hk' : kk = w + 1 := by simpa using hk
    refine Ev.step (fun k => by simp only [foghornref24_Sum.l1]; rfl) (Ev.ifn (by omega) ?_)
    rw [w64 (by omega) (by omega)]
    exact h
  | e :: E, A, b :: B, rest, kk, hE, hk, hA, hB, hi, h => by
    rw [List.length_cons] at hk
    refine Ev.step (fun k => by simp only [foghornref24_Sum.l1]; rfl) (Ev.ifp (by omega) ?_)
    rw [w64 (x := (i : Int) + (kk : Int)) (by omega) (by omega), w64 (x := (kk : Int) + 1) (by omega) (by omega)]
    have e1 : A ++ (b :: B) ++ rest = A ++ b :: (B ++ rest) := by simp
    have e2 : rdOf false D (kk : Int) = e := by
      have : D = D.take kk ++ e :: E := by rw [← hE, List.take_append_drop]
      rw [this]
      refine rd_mid _ _ _ _ ?_
      rw [List.length_take]
      omega
    refine Ev.ifp (by omega) (Ev.ifp (by rw [e1, List.length_append, List.length_cons]; omega) (Ev.ifp (by omega) (Ev.ifp (by omega) ?_)))
    rw [e1, rd_mid A b _ _ (by omega), e2, show ((i : Int) + (kk : Int)).toNat = A.length by omega, set_mid]
    have ih := sum_l1 w hw l D r i hD E (A ++ [b != e]) B rest (kk + 1) (by rw [← List.drop_drop, hE]; rfl) (by omega) (by rw [List.length_append, List.length_singleton]; omega) (by simpa using hB) hi
    have e3 : A ++ [b != e] ++ xl B E ++ rest = A ++ xl (b :: B) (e :: E) ++ rest := by rw [xl_cons]; simp
    have e4 : A ++ [b != e] ++ B ++ rest = A ++ (b != e) :: (B ++ rest) := by simp
    rw [e3, e4] at ih
    have := ih h
    rw [show ((kk + 1 : Nat) : Int) = (kk : Int) + 1 by omega] at this
    exact this
theorem sum_l0 {w : Nat} (hw : 0 < w) (hw2 : w ≤ 32) (P : BitVec w) (l : List Bool) (hl : l.length ≤ 11000000) : ∀ (rest Z : List Bool) (s : BitVec w), Z.length + rest.length = l.length →
    Ev (fun k => foghornref24_Sum.l0 k (w : Int) l (true :: spelt P) (Z ++ spelt s ++ rest) (Z.length : Int)) (spelt (run0 P s rest))
  | [], Z, s, h => by
    have h' : Z.length = l.length := by simpa using h
    refine Ev.step (fun k => by simp only [foghornref24_Sum.l0]; rfl) (Ev.ifn (by omega) (Ev.ifp (by omega) (Ev.ifp (by simp; omega) ?_)))
    refine Ev.val ?_
    rw [Int.toNat_natCast, ← h', List.append_nil, List.drop_left]
    rfl
  | c :: rest, Z, s, h => by
    rw [List.length_cons] at h
    have hne := spelt_ne hw s
    obtain ⟨T, hT⟩ : ∃ T, (spelt s).drop 1 = T := ⟨_, rfl⟩
    have hTl : T.length = w - 1 := by rw [← hT, List.length_drop, spelt_length]
    rw [hT] at hne
    have e1 : Z ++ spelt s ++ c :: rest = Z ++ s.msb :: (T ++ c :: rest) := by rw [hne]; simp
    have ih := sum_l0 hw hw2 P l hl rest (Z ++ [false]) (step0 P s c) (by rw [List.length_append, List.length_singleton]; omega)
    rw [spelt_step0 hw, hT] at ih
    rw [List.length_append, List.length_singleton] at ih
    refine Ev.step (fun k => by simp only [foghornref24_Sum.l0]; rfl) (Ev.ifp (by omega) (Ev.ifp (by omega) (Ev.ifp (by rw [e1, List.length_append, List.length_cons]; omega) ?_)))
    rw [e1, rd_mid Z _ _ _ rfl]
    cases hm : s.msb
    · rw [hm, if_neg (by decide)] at ih
      refine Ev.ifn (by decide) ?_
      rw [w64 (by omega) (by omega)]
      have e2 : Z ++ [false] ++ (T ++ [c]) ++ rest = Z ++ false :: (T ++ c :: rest) := by simp
      rw [e2] at ih
      exact ih
    · rw [hm, if_pos rfl] at ih
      refine Ev.ifp rfl ?_
      have hs := sum_l1 w hw2 l (true :: spelt P) (spelt (run0 P (step0 P s c) rest)) Z.length (by rw [List.length_cons, spelt_length]) (true :: spelt P) Z (true :: (T ++ [c])) rest 0 rfl (by rw [List.length_cons, spelt_length]; omega) (by omega) (by rw [List.length_cons, List.length_cons, List.length_append, spelt_length, List.length_singleton]; omega) (by omega)
      have e2 : Z ++ true :: (T ++ [c]) ++ rest = Z ++ true :: (T ++ c :: rest) := by simp
      have e3 : Z ++ xl (true :: (T ++ [c])) (true :: spelt P) ++ rest = Z ++ [false] ++ xl (T ++ [c]) (spelt P) ++ rest := by rw [xl_cons]; simp
      rw [e2, e3] at hs
      exact hs ih
theorem sum_ev {w : Nat} (hw : 0 < w) (hw2 : w ≤ 32) (P : BitVec w) (h1 : crc P 1#w (List.replicate w false) = P) (l : List Bool) (hl : l.length ≤ 10000000) (hD : Ev (fun k => foghornref24_Divisor.f k (w : Int)) (true :: spelt P)) :
    Ev (fun k => foghornref24_Sum.f k (w : Int) l) (spelt (crc P 0#w l)) := by
  simp only [foghornref24_Sum.f]
  refine Ev.bind hD (Ev.bindc rfl (Ev.ifp (by simp; omega) (Ev.bindc rfl (Ev.ifp (by omega) (Ev.ifp (by simp; omega) ?_)))))
  rw [Int.toNat_natCast, List.nil_append]
  obtain ⟨q, hq⟩ : ∃ q, l ++ List.replicate w false = q := ⟨_, rfl⟩
  have hql : q.length = l.length + w := by rw [← hq, List.length_append, List.length_replicate]
  have hlong := run0_long P h1 l
  rw [hq] at hlong ⊢
  have hsplit : q = q.take w ++ q.drop w := (List.take_append_drop w q).symm
  have htl : (q.take w).length = w := by rw [List.length_take]; omega
  rw [hsplit, run0_append, run0_first P w _ htl (Nat.le_refl _)] at hlong
  have h := sum_l0 hw hw2 P l (by omega) (q.drop w) [] (BitVec.ofNat w (natOf (q.take w))) (by rw [List.length_drop]; simp; omega)
  rw [spelt_ofNat _ htl, hlong, List.nil_append, ← hsplit] at h
  exact h
theorem one16 : crc P16 1#16 (List.replicate 16 false) = P16 := by decide +kernel
theorem one32 : crc P32 1#32 (List.replicate 32 false) = P32 := by decide +kernel
theorem rsum16 (l : List Bool) (hl : l.length ≤ 10000000) : Ev (fun k => foghornref24_Sum.f k 16 l) (spelt (crc P16 0#16 l)) := sum_ev (w := 16) (by omega) (by omega) P16 one16 l hl divisor16
theorem rsum32 (l : List Bool) (hl : l.length ≤ 10000000) : Ev (fun k => foghornref24_Sum.f k 32 l) (spelt (crc P32 0#32 l)) := sum_ev (w := 32) (by omega) (by omega) P32 one32 l hl divisor32
end Go.Proofs.Ytjnedgkpakoceaa.Crc
