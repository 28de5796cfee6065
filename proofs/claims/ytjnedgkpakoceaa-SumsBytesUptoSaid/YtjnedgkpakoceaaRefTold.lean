/- foghornref24's answers, in the words of Crc. -/
import Derived.Test.YtjnedgkpakoceaaFogx0
import Derived.Test.YtjnedgkpakoceaaFogx10
import Derived.Test.YtjnedgkpakoceaaFogx11
import Derived.Test.YtjnedgkpakoceaaFogx5
import Derived.Test.YtjnedgkpakoceaaFogx6
import Derived.Test.YtjnedgkpakoceaaFogx8
import Derived.Test.YtjnedgkpakoceaaFogx9
import Derived.Test.YtjnedgkpakoceaaRefDiv
namespace Go.Proofs.Ytjnedgkpakoceaa.Crc
open Go.RowKit Go.Proofs.Ytjnedgkpakoceaa.Fog Go.Proofs.YtjnedgkpakoceaaW.PrintWords Go.Proofs.YtjnedgkpakoceaaW.PrintLast Go.Proofs.YtjnedgkpakoceaaW.PrintMore Go.Proofs.Ytjnedgkpakoceaa.Kit
set_option linter.unusedSimpArgs false
set_option linter.unusedVariables false
theorem number_l0 (l : List Bool) (hl : l.length ≤ 32) : ∀ (d i : Nat), i + d = l.length → Ev (fun k => foghornref24_Number.l0 k l ((natOf (l.take i) : Nat) : Int) (i : Int)) ((natOf l : Nat) : Int)
  | 0, i, h => by
    refine Ev.step (fun k => by simp only [foghornref24_Number.l0]; rfl) (Ev.ifn (by omega) (Ev.val ?_))
    rw [List.take_of_length_le (by omega)]
  | d + 1, i, h => by
    have ih := number_l0 l hl d (i + 1) (by omega)
    have hi : i < l.length := by omega
    have hlt := natOf_lt (i + 1) (l.take (i + 1)) (by rw [List.length_take]; omega)
    have hp : 2 ^ (i + 1) ≤ 2 ^ 32 := Nat.pow_le_pow_right (by omega) (by omega)
    rw [List.take_succ_eq_append_getElem hi, natOf_snoc] at ih hlt
    refine Ev.step (fun k => by simp only [foghornref24_Number.l0]; rfl) (Ev.ifp (by omega) (Ev.ifp (by omega) ?_))
    rw [w64 (by omega) (by omega), show rdOf false l (i : Int) = l[i] by simp [rdOf, List.getD_eq_getElem?_getD, hi]]
    cases hb : l[i]
    · rw [hb] at ih hlt
      refine Ev.ifn (by decide) ?_
      rw [show (2 * ((natOf (l.take i) : Nat) : Int)) % 4294967296 = ((2 * natOf (l.take i) + false.toNat : Nat) : Int) by simp at hlt ⊢; omega]
      exact ih
    · rw [hb] at ih hlt
      refine Ev.ifp rfl ?_
      rw [show (2 * ((natOf (l.take i) : Nat) : Int) + 1) % 4294967296 = ((2 * natOf (l.take i) + true.toNat : Nat) : Int) by simp at hlt ⊢; omega]
      exact ih
theorem number_ev (l : List Bool) (hl : l.length ≤ 32) : Ev (fun k => foghornref24_Number.f k l) ((natOf l : Nat) : Int) := by
  simp only [foghornref24_Number.f]
  exact number_l0 l hl l.length 0 (by omega)
/-! ### a number's bits -/
theorem bit_u32 (n i : Nat) (hn : n < 4294967296) (hi : i < 32) : (Go.bits .and .u32 (shr .u32 (n : Int) (i : Int)) 1 == 1) = n.testBit i := by
  unfold shr
  rw [Int.toNat_natCast, show IntKind.u32.bits = 32 from rfl, Nat.min_eq_left (by omega), show ((n : Int) / 2 ^ i) = ((n / 2 ^ i : Nat) : Int) by simp]
  have hle : n / 2 ^ i ≤ n := Nat.div_le_self _ _
  have h : Go.bits .and .u32 ((n / 2 ^ i : Nat) : Int) 1 = ((n / 2 ^ i &&& 1 : Nat) : Int) := u32_and_nat (n / 2 ^ i) 1 (by omega) (by omega)
  rw [h, Nat.and_one_is_mod, Nat.testBit_eq_decide_div_mod_eq]
  rcases Nat.mod_two_eq_zero_or_one (n / 2 ^ i) with e | e <;> rw [e] <;> rfl
theorem bits_l0 {w : Nat} (hw : w ≤ 32) (x : BitVec w) : ∀ j : Nat, j ≤ w → Ev (fun k => foghornref24_Bits.l0 k (x.toNat : Int) (pref x (w - j)) ((j : Int) - 1)) (spelt x)
  | 0, _ => by
    refine Ev.step (fun k => by simp only [foghornref24_Bits.l0]; rfl) (Ev.ifn (by omega) (Ev.val ?_))
    rfl
  | j + 1, hj => by
    have ih := bits_l0 hw x j (by omega)
    have hlt := x.isLt
    have hp : 2 ^ w ≤ 2 ^ 32 := Nat.pow_le_pow_right (by omega) hw
    refine Ev.step (fun k => by simp only [foghornref24_Bits.l0]; rfl) (Ev.ifp (by omega) (Ev.ifp (by omega) (Ev.ifp (by rw [pref_length]; omega) ?_)))
    rw [show ((j + 1 : Nat) : Int) - 1 = (j : Int) by omega, bit_u32 _ _ (by omega) (by omega), w64 (by omega) (by omega), BitVec.testBit_toNat]
    rw [show x.getLsbD j = x.getMsbD (w - (j + 1)) by rw [BitVec.getMsbD_eq_getLsbD, show w - 1 - (w - (j + 1)) = j by omega]; simp; omega, ← pref_succ, show w - (j + 1) + 1 = w - j by omega]
    exact ih
theorem bits_ev {w : Nat} (hw0 : 0 < w) (hw : w ≤ 32) (x : BitVec w) : Ev (fun k => foghornref24_Bits.f k (x.toNat : Int) (w : Int)) (spelt x) := by
  simp only [foghornref24_Bits.f]
  have h := bits_l0 hw x w (Nat.le_refl _)
  rw [Nat.sub_self] at h
  rw [w64 (by omega) (by omega)]
  exact h
/-! ### On -/
theorem on_l1 (w : Nat) (hw : w ≤ 32) (l D : List Bool) (r : Int × Int) (i : Nat) (hD : D.length = w + 1) : ∀ (E A B rest : List Bool) (kk : Nat), D.drop kk = E → kk + E.length = w + 1 → A.length = i + kk → B.length = E.length → i + w ≤ 12000000 →
    Ev (fun k => foghornref24_On.l0 k (w : Int) l D (A ++ xl B E ++ rest) ((i + 1 : Nat) : Int)) r → Ev (fun k => foghornref24_On.l1 k (w : Int) l D (A ++ B ++ rest) (i : Int) (kk : Int)) r
  | [], A, B, rest, kk, hE, hk, hA, hB, hi, h => by
    obtain rfl : B = [] := List.eq_nil_of_length_eq_zero hB
    have hk' : kk = w + 1 := by simpa using hk
    refine Ev.step (fun k => by simp only [foghornref24_On.l1]; rfl) (Ev.ifn (by omega) ?_)
    rw [w64 (by omega) (by omega)]
    exact h
  | e :: E, A, b :: B, rest, kk, hE, hk, hA, hB, hi, h => by
    rw [List.length_cons] at hk
    refine Ev.step (fun k => by simp only [foghornref24_On.l1]; rfl) (Ev.ifp (by omega) ?_)
    rw [w64 (x := (i : Int) + (kk : Int)) (by omega) (by omega), w64 (x := (kk : Int) + 1) (by omega) (by omega)]
    have e1 : A ++ (b :: B) ++ rest = A ++ b :: (B ++ rest) := by simp
    have e2 : rdOf false D (kk : Int) = e := by
      have : D = D.take kk ++ e :: E := by rw [← hE, List.take_append_drop]
      rw [this]
      refine rd_mid _ _ _ _ ?_
      rw [List.length_take]
      omega
    refine Ev.ifp (by omega) (Ev.ifp (by rw [e1, List.length_append, List.length_cons]; omega) (Ev.ifp (by omega) (Ev.ifp (by omega) ?_)))
    rw [e1, rd_mid A b _ _ (by omega), e2, show ((i : Int) + (kk : Int)).toNat = A.length by omega, set_mid]
    have ih := on_l1 w hw l D r i hD E (A ++ [b != e]) B rest (kk + 1) (by rw [← List.drop_drop, hE]; rfl) (by omega) (by rw [List.length_append, List.length_singleton]; omega) (by simpa using hB) hi
    have e3 : A ++ [b != e] ++ xl B E ++ rest = A ++ xl (b :: B) (e :: E) ++ rest := by rw [xl_cons]; simp
    have e4 : A ++ [b != e] ++ B ++ rest = A ++ (b != e) :: (B ++ rest) := by simp
    rw [e3, e4] at ih
    have := ih h
    rw [show ((kk + 1 : Nat) : Int) = (kk : Int) + 1 by omega] at this
    exact this
theorem on_l0 {w : Nat} (hw : 0 < w) (hw2 : w ≤ 32) (P : BitVec w) (l : List Bool) (hl : l.length ≤ 11000000) : ∀ (d : Nat) (Z : List Bool) (s : BitVec w), Z.length + d = l.length →
    Ev (fun k => foghornref24_On.l0 k (w : Int) l (true :: spelt P) (Z ++ spelt s ++ List.replicate d false) (Z.length : Int)) (((crc P s (l.drop Z.length)).toNat : Int), 0)
  | 0, Z, s, h => by
    have h' : Z.length = l.length := by simpa using h
    refine Ev.step (fun k => by simp only [foghornref24_On.l0]; rfl) (Ev.ifn (by omega) (Ev.ifp (by omega) (Ev.ifp (by simp; omega) ?_)))
    have e9 : l.drop Z.length = [] := List.drop_eq_nil_of_le (by omega)
    rw [e9, Int.toNat_natCast, ← h', List.replicate_zero, List.append_nil, List.drop_left]
    refine Ev.bind (number_ev (spelt s) (by rw [spelt_length]; exact hw2)) ?_
    rw [natOf_spelt]
    exact Ev.now _
  | d + 1, Z, s, h => by
    have hne := spelt_ne hw s
    obtain ⟨T, hT⟩ : ∃ T, (spelt s).drop 1 = T := ⟨_, rfl⟩
    have hTl : T.length = w - 1 := by rw [← hT, List.length_drop, spelt_length]
    rw [hT] at hne
    have hi : Z.length < l.length := by omega
    have e1 : Z ++ spelt s ++ List.replicate (d + 1) false = Z ++ s.msb :: (T ++ false :: List.replicate d false) := by rw [hne, List.replicate_succ]; simp
    have ih := on_l0 hw hw2 P l hl d (Z ++ [false]) (step P s l[Z.length]) (by rw [List.length_append, List.length_singleton]; omega)
    rw [spelt_step hw, hT] at ih
    rw [List.length_append, List.length_singleton] at ih
    rw [List.drop_eq_getElem_cons hi, crc_cons]
    refine Ev.step (fun k => by simp only [foghornref24_On.l0]; rfl) (Ev.ifp (by omega) (Ev.ifp (by omega) (Ev.ifp (by rw [e1, List.length_append, List.length_cons]; omega) ?_)))
    rw [e1, rd_mid Z _ _ _ rfl, Int.toNat_natCast, set_mid, show rdOf false l (Z.length : Int) = l[Z.length] by simp [rdOf, List.getD_eq_getElem?_getD, hi]]
    refine Ev.bindc rfl ?_
    cases hm : (s.msb != l[Z.length])
    · rw [hm, if_neg (by decide)] at ih
      refine Ev.ifn (by decide) ?_
      rw [w64 (by omega) (by omega)]
      have e2 : Z ++ [false] ++ (T ++ [false]) ++ List.replicate d false = Z ++ false :: (T ++ false :: List.replicate d false) := by simp
      rw [e2] at ih
      exact ih
    · rw [hm, if_pos rfl] at ih
      refine Ev.ifp rfl ?_
      have hs := on_l1 w hw2 l (true :: spelt P) (((crc P (step P s l[Z.length]) (l.drop (Z.length + 1))).toNat : Int), 0) Z.length (by rw [List.length_cons, spelt_length]) (true :: spelt P) Z (true :: (T ++ [false])) (List.replicate d false) 0 rfl (by rw [List.length_cons, spelt_length]; omega) (by omega) (by rw [List.length_cons, List.length_cons, List.length_append, spelt_length, List.length_singleton]; omega) (by omega)
      have e2 : Z ++ true :: (T ++ [false]) ++ List.replicate d false = Z ++ true :: (T ++ false :: List.replicate d false) := by simp
      have e3 : Z ++ xl (true :: (T ++ [false])) (true :: spelt P) ++ List.replicate d false = Z ++ [false] ++ xl (T ++ [false]) (spelt P) ++ List.replicate d false := by rw [xl_cons]; simp
      rw [e2, e3] at hs
      exact hs ih
theorem ron_ev {w : Nat} (hw : 0 < w) (hw2 : w ≤ 32) (P s : BitVec w) (l : List Bool) (hl : l.length ≤ 32768) (hD : Ev (fun k => foghornref24_Divisor.f k (w : Int)) (true :: spelt P)) :
    Ev (fun k => foghornref24_On.f k (w : Int) (s.toNat : Int) l) (((crc P s l).toNat : Int), 0) := by
  simp only [foghornref24_On.f]
  refine Ev.ifn (by omega) (Ev.bind hD (Ev.bind (bits_ev hw hw2 s) (Ev.ifp (by omega) (Ev.ifp (by rw [spelt_length]; omega) ?_))))
  rw [Int.toNat_natCast]
  have h := on_l0 hw hw2 P l (by omega) l.length [] s (by simp)
  exact h
theorem ron16 (s : BitVec 16) (l : List Bool) (hl : l.length ≤ 32768) : Ev (fun k => foghornref24_On.f k 16 (s.toNat : Int) l) (((crc P16 s l).toNat : Int), 0) := ron_ev (w := 16) (by omega) (by omega) P16 s l hl divisor16
theorem ron32 (s : BitVec 32) (l : List Bool) (hl : l.length ≤ 32768) : Ev (fun k => foghornref24_On.f k 32 (s.toNat : Int) l) (((crc P32 s l).toNat : Int), 0) := ron_ev (w := 32) (by omega) (by omega) P32 s l hl divisor32
theorem ron_long (w s : Int) (l : List Bool) (hl : 32768 < l.length) : Ev (fun k => foghornref24_On.f k w s l) (0, 1) := by
  simp only [foghornref24_On.f]
  exact Ev.ifp (by omega) (Ev.now _)
/-! ### Same -/
theorem same_l0 (a b : List Bool) (h : a.length = b.length) (hn : a.length ≤ 140737488355328) : ∀ (d i : Nat), i + d = a.length → a.take i = b.take i → Ev (fun k => foghornref24_Same.l0 k a b (i : Int)) (decide (a = b))
  | 0, i, hi, he => by
    refine Ev.step (fun k => by simp only [foghornref24_Same.l0]; rfl) (Ev.ifn (by omega) (Ev.val ?_))
    rw [List.take_of_length_le (by omega), List.take_of_length_le (by omega)] at he
    simp [he]
  | d + 1, i, hi, he => by
    have h1 : i < a.length := by omega
    have h2 : i < b.length := by omega
    refine Ev.step (fun k => by simp only [foghornref24_Same.l0]; rfl) (Ev.ifp (by omega) (Ev.ifp (by omega) (Ev.ifp (by omega) ?_)))
    rw [show rdOf false a (i : Int) = a[i] by simp [rdOf, List.getD_eq_getElem?_getD, h1], show rdOf false b (i : Int) = b[i] by simp [rdOf, List.getD_eq_getElem?_getD, h2]]
    by_cases e : a[i] = b[i]
    · refine Ev.ifn (by simp [e]) ?_
      rw [w64 (by omega) (by omega)]
      exact same_l0 a b h hn d (i + 1) (by omega) (by rw [List.take_succ_eq_append_getElem h1, List.take_succ_eq_append_getElem h2, he, e])
    · refine Ev.ifp (by simpa using e) (Ev.val ?_)
      rw [eq_comm, decide_eq_false_iff_not]
      intro e2
      subst e2
      exact e rfl
theorem same_ev (a b : List Bool) (hn : a.length ≤ 140737488355328) : Ev (fun k => foghornref24_Same.f k a b) (decide (a = b)) := by
  simp only [foghornref24_Same.f]
  by_cases h : a.length = b.length
  · exact Ev.ifp (by omega) (same_l0 a b h hn a.length 0 (by omega) (by simp))
  · refine Ev.ifn (by omega) (Ev.val ?_)
    rw [eq_comm, decide_eq_false_iff_not]
    intro e
    exact h (by rw [e])
theorem same_rfl (a : List Bool) (hn : a.length ≤ 140737488355328) : Ev (fun k => foghornref24_Same.f k a a) true := Ev.eq (same_ev a a hn) (by simp)
/-! ### Told, Row, Fits -/
theorem rtold_long (w : Int) (l : List Bool) (hl : 32768 < l.length) : Ev (fun k => foghornref24_Told.f k w l) (0, 1) := by
  simp only [foghornref24_Told.f]
  exact Ev.ifp (by omega) (Ev.now _)
theorem rtold16 (l : List Bool) (hl : l.length ≤ 32768) : Ev (fun k => foghornref24_Told.f k 16 l) (((crc P16 0#16 l).toNat : Int), 0) := by
  simp only [foghornref24_Told.f]
  refine Ev.ifn (by omega) (Ev.bind (rsum16 l (by omega)) (Ev.bind (number_ev _ (by rw [spelt_length]; omega)) ?_))
  rw [natOf_spelt]
  exact Ev.now _
theorem rtold32 (l : List Bool) (hl : l.length ≤ 32768) : Ev (fun k => foghornref24_Told.f k 32 l) (((crc P32 0#32 l).toNat : Int), 0) := by
  simp only [foghornref24_Told.f]
  refine Ev.ifn (by omega) (Ev.bind (rsum32 l (by omega)) (Ev.bind (number_ev _ (by rw [spelt_length]; omega)) ?_))
  rw [natOf_spelt]
  exact Ev.now _
theorem rrow16 (l : List Bool) (hl : l.length + 16 ≤ 32768) : Ev (fun k => foghornref24_Row.f k 16 l) (l ++ spelt (crc P16 0#16 l), 0) := by
  simp only [foghornref24_Row.f]
  rw [w64 (by omega) (by omega)]
  refine Ev.ifn (by omega) (Ev.bindc rfl (Ev.ifp (by simp; omega) (Ev.bindc rfl (Ev.bind (rsum16 l (by omega)) (Ev.ifp (by simp [spelt_length]; omega) (Ev.now _))))))
theorem rrow32 (l : List Bool) (hl : l.length + 32 ≤ 32768) : Ev (fun k => foghornref24_Row.f k 32 l) (l ++ spelt (crc P32 0#32 l), 0) := by
  simp only [foghornref24_Row.f]
  rw [w64 (by omega) (by omega)]
  refine Ev.ifn (by omega) (Ev.bindc rfl (Ev.ifp (by simp; omega) (Ev.bindc rfl (Ev.bind (rsum32 l (by omega)) (Ev.ifp (by simp [spelt_length]; omega) (Ev.now _))))))
theorem rrow_long (w : Nat) (hw : w ≤ 32) (l : List Bool) (hl : 32768 < l.length + w) : Ev (fun k => foghornref24_Row.f k (w : Int) l) ([], 1) := by
  simp only [foghornref24_Row.f]
  rw [w64 (by omega) (by omega)]
  exact Ev.ifp (by omega) (Ev.now _)
/-- What its bits themselves leave: nothing, just where they are the sum's. -/
theorem crc_zero_iff {w : Nat} (hw : 0 < w) (p s : BitVec w) (hp : p.getLsbD 0 = true) (l : List Bool) (hl : l.length = w) : crc p s l = 0#w ↔ l = spelt s := by
  constructor
  · intro h
    obtain ⟨y, hy⟩ : ∃ y : BitVec w, spelt y = l := ⟨_, spelt_ofNat l hl⟩
    have hx := crc_xor p (spelt y) (spelt y) s y rfl
    rw [xl_self, spelt_length, crc_spelt, BitVec.xor_zero, hy, h] at hx
    have hz := zeros_inj hw hp w _ hx
    have e : s = y := by
      have := congrArg (· ^^^ y) hz
      simpa [BitVec.xor_assoc] using this
    rw [e, hy]
  · intro h
    rw [h]
    exact crc_spelt p s
theorem fits_iff {w : Nat} (hw : 0 < w) (p : BitVec w) (hp : p.getLsbD 0 = true) (l : List Bool) (hl : w ≤ l.length) : crc p 0#w l = 0#w ↔ spelt (crc p 0#w (l.take (l.length - w))) = l.drop (l.length - w) := by
  have h := crc_append p 0#w (l.take (l.length - w)) (l.drop (l.length - w))
  rw [List.take_append_drop] at h
  rw [h, crc_zero_iff hw p _ hp _ (by rw [List.length_drop]; omega)]
  exact eq_comm
theorem rfits_any (w : Nat) (hw : 0 < w) (hw2 : w ≤ 32) (P : BitVec w) (hp : P.getLsbD 0 = true) (hS : ∀ l : List Bool, l.length ≤ 10000000 → Ev (fun k => foghornref24_Sum.f k (w : Int) l) (spelt (crc P 0#w l))) (l : List Bool) (hb : l.length ≤ 140737488355328) :
    Ev (fun k => foghornref24_Fits.f k (w : Int) l) (decide (l.length ≤ 32768 ∧ w ≤ l.length ∧ crc P 0#w l = 0#w)) := by
  simp only [foghornref24_Fits.f]
  rw [w64 (by omega) (by omega)]
  by_cases h1 : w ≤ l.length
  · refine Ev.ifp (by omega) ?_
    by_cases h2 : l.length ≤ 32768
    · refine Ev.ifp (by omega) (Ev.ifp (by omega) (Ev.ifp (by omega) ?_))
      rw [show ((l.length : Int) - (w : Int)).toNat = l.length - w by omega]
      refine Ev.bind (hS _ (by rw [List.length_take]; omega)) (Ev.bind (same_ev _ _ (by rw [spelt_length]; omega)) (Ev.val ?_))
      rw [decide_eq_decide, ← fits_iff hw P hp l h1]
      exact ⟨fun e => ⟨h2, h1, e⟩, fun e => e.2.2⟩
    · exact Ev.ifn (by omega) (Ev.val (by simp; omega))
  · exact Ev.ifn (by omega) (Ev.val (by simp; omega))
theorem rfits16 (l : List Bool) (hb : l.length ≤ 140737488355328) : Ev (fun k => foghornref24_Fits.f k 16 l) (decide (l.length ≤ 32768 ∧ 16 ≤ l.length ∧ crc P16 0#16 l = 0#16)) := rfits_any 16 (by omega) (by omega) P16 p16_low rsum16 l hb
theorem rfits32 (l : List Bool) (hb : l.length ≤ 140737488355328) : Ev (fun k => foghornref24_Fits.f k 32 l) (decide (l.length ≤ 32768 ∧ 32 ≤ l.length ∧ crc P32 0#32 l = 0#32)) := rfits_any 32 (by omega) (by omega) P32 p32_low rsum32 l hb
end Go.Proofs.Ytjnedgkpakoceaa.Crc
