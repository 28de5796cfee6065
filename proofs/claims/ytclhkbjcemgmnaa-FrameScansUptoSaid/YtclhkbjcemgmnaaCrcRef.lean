/- foghornref25.Sum, in the words of Crc. -/
import Derived.Test.YtclhkbjcemgmnaaFogx0
import Derived.Test.YtclhkbjcemgmnaaFogx7
import Derived.Test.YtclhkbjcemgmnaaKit
import Derived.Test.YtclhkbjcemgmnaaCrcStep
namespace Go.Proofs.Ytclhkbjcemgmnaa.Crc
open Go.RowKit Go.Proofs.Ytclhkbjcemgmnaa.Fog Go.Proofs.YtclhkbjcemgmnaaW.PrintWords Go.Proofs.YtclhkbjcemgmnaaW.PrintLast Go.Proofs.YtclhkbjcemgmnaaW.PrintMore Go.Proofs.Ytclhkbjcemgmnaa.Kit
set_option linter.unusedSimpArgs false
set_option linter.unusedVariables false
theorem or_bit (m b : Nat) (hb : b < 2) : m * 2 ||| b = m * 2 + b := by
  have h := Nat.two_pow_add_eq_or_of_lt (i := 1) (b := b) hb m
  rw [Nat.pow_one, Nat.mul_comm] at h
  exact h.symm
theorem xor_bit_low (m b : Nat) (hb : b < 2) : m * 2 ^^^ b = m * 2 + b := by
  have h1 : (m * 2 ^^^ b) / 2 = m * 2 / 2 ^^^ b / 2 := Nat.xor_div_two
  have h2 := bit_xor (m * 2) b 0
  rw [show b / 2 = 0 by omega, Nat.xor_zero] at h1
  simp only [Nat.pow_zero, Nat.div_one] at h2
  omega
theorem step0_low {w : Nat} {p s : BitVec w} {b : Bool} (h : s.msb = false) : step0 p s b = (s <<< 1) ^^^ (if b = true then 1#w else 0#w) := by
  unfold step0
  rw [h, if_neg (c := false = true) (by decide), BitVec.xor_zero]
theorem step0_high {w : Nat} {p s : BitVec w} {b : Bool} (h : s.msb = true) : step0 p s b = ((s <<< 1) ^^^ (if b = true then 1#w else 0#w)) ^^^ p := by
  unfold step0
  rw [h, if_pos (c := true = true) rfl]
theorem replicate_false (n j : Nat) : (List.replicate n false)[j]?.getD false = false := by
  cases h : (List.replicate n false)[j]? with
  | none => rfl
  | some v => exact (List.mem_replicate.1 (List.mem_of_getElem? h)).2
/-- A bit of a byte, as the reference reads it. -/
theorem ref_bit (c j : Nat) (hc : c < 256) (hj : j ≤ 7) : Go.bits .and .u64 (shr .u64 (IntKind.u64.wrap (c : Int)) (j : Int)) 1 = (((c.testBit j).toNat : Nat) : Int) := by
  rw [IntKind.wrap_u64, Int.emod_eq_of_lt (by omega) (by omega)]
  unfold shr
  rw [Int.toNat_natCast, show IntKind.u64.bits = 64 from rfl, Nat.min_eq_left (by omega), show ((c : Int) / 2 ^ j) = ((c / 2 ^ j : Nat) : Int) by simp]
  have hle : c / 2 ^ j ≤ c := Nat.div_le_self _ _
  have h : Go.bits .and .u64 ((c / 2 ^ j : Nat) : Int) 1 = ((c / 2 ^ j &&& 1 : Nat) : Int) := u64_and_nat (c / 2 ^ j) 1 (by omega) (by omega)
  rw [h, nat_mask1, Nat.testBit_eq_decide_div_mod_eq]
  have := Nat.mod_two_eq_zero_or_one (c / 2 ^ j)
  rcases this with e | e <;> rw [e] <;> rfl

theorem ref_over16 (A : BitVec 16) : (Go.bits .and .u64 (A.toNat : Int) 32768 = 0) ↔ A.msb = false := by
  have hlt := A.isLt
  have h : Go.bits .and .u64 (A.toNat : Int) 32768 = ((A.toNat &&& 32768 : Nat) : Int) := u64_and_nat A.toNat 32768 (by omega) (by omega)
  have hb := nat_bit 15 A.toNat
  simp only [Nat.reducePow] at hb
  rw [h, hb, BitVec.msb_eq_decide]
  simp only [Nat.reduceSub, Nat.reducePow]
  constructor
  · intro e; simp; omega
  · intro e; simp at e; omega
theorem ref_down16 (A : BitVec 16) (b : Bool) : Go.bits .or .u64 (IntKind.u64.wrap ((Go.bits .and .u64 (A.toNat : Int) (IntKind.u64.wrap (32768 - 1))) * 2)) ((b.toNat : Nat) : Int) = (((A <<< 1) ^^^ (if b = true then 1#16 else 0#16)).toNat : Int) := by
  have hlt := A.isLt
  have e1 : IntKind.u64.wrap (32768 - 1) = ((32767 : Nat) : Int) := by rw [IntKind.wrap_u64]; rfl
  have hm := Nat.and_two_pow_sub_one_eq_mod A.toNat 15
  simp only [Nat.reducePow, Nat.reduceSub] at hm
  rw [e1, u64_and_nat A.toNat 32767 (by omega) (by omega), hm, IntKind.wrap_u64]
  have hml := Nat.mod_lt A.toNat (show 0 < 32768 by omega)
  have hb2 : b.toNat < 2 := by cases b <;> decide
  have e2 : (((A.toNat % 32768 : Nat) : Int) * 2) % 18446744073709551616 = ((A.toNat % 32768 * 2 : Nat) : Int) := by omega
  rw [e2, u64_or_nat _ _ (by omega) (by omega), or_bit _ _ hb2, BitVec.toNat_xor, BitVec.toNat_shiftLeft, Nat.shiftLeft_eq]
  have e3 : (if b = true then 1#16 else 0#16).toNat = b.toNat := by cases b <;> rfl
  rw [e3, show A.toNat * 2 ^ 1 % 2 ^ 16 = A.toNat % 32768 * 2 by omega, xor_bit_low _ _ hb2]
theorem ref_l0_16 (s : ByteArray) (hs : s.size ≤ 140737488351232) : ∀ (d i : Nat) (A : BitVec 16), i + d = 8 * s.size + 16 →
    Ev (fun k => foghornref25_Sum.l0 k s 4129 16 (A.toNat : Int) 32768 (i : Int)) ((run0 P16 A ((bitsOf (natsOf s) ++ List.replicate 16 false).drop i)).toNat : Int)
  | 0, i, A, h => by
    have e : wrap64 ((wrap64 (8 * (s.size : Int))) + 16) = ((8 * s.size + 16 : Nat) : Int) := by rw [w64 (x := 8 * (s.size : Int)) (by omega) (by omega), w64 (by omega) (by omega)]; omega
    refine Ev.step (fun k => by simp only [foghornref25_Sum.l0]; rfl) (Ev.ifn (by rw [e]; omega) ?_)
    rw [List.drop_eq_nil_of_le (by rw [List.length_append, bitsOf_length, natsOf_length, List.length_replicate]; omega)]
    exact Ev.now _
  | d + 1, i, A, h => by
    have e : wrap64 ((wrap64 (8 * (s.size : Int))) + 16) = ((8 * s.size + 16 : Nat) : Int) := by rw [w64 (x := 8 * (s.size : Int)) (by omega) (by omega), w64 (by omega) (by omega)]; omega
    have e8 : wrap64 (8 * (s.size : Int)) = ((8 * s.size : Nat) : Int) := by rw [w64 (by omega) (by omega)]; omega
    have hL : (bitsOf (natsOf s) ++ List.replicate 16 false).length = 8 * s.size + 16 := by rw [List.length_append, bitsOf_length, natsOf_length, List.length_replicate]
    obtain ⟨b, hb⟩ : ∃ b, (bitsOf (natsOf s) ++ List.replicate 16 false).getD i false = b := ⟨_, rfl⟩
    have hdrop : (bitsOf (natsOf s) ++ List.replicate 16 false).drop i = b :: (bitsOf (natsOf s) ++ List.replicate 16 false).drop (i + 1) := by
      rw [List.drop_eq_getElem_cons (by rw [hL]; omega)]
      congr 1
      rw [← hb, List.getD_eq_getElem?_getD, List.getElem?_eq_getElem (by rw [hL]; omega), Option.getD_some]
    have ih := ref_l0_16 s hs d (i + 1) (step0 P16 A b) (by omega)
    rw [hdrop, run0_cons]
    have hd := ref_down16 A b
    have hx : Go.bits .xor .u64 ((((A <<< 1) ^^^ (if b = true then 1#16 else 0#16)).toNat : Nat) : Int) 4129 = ((((A <<< 1) ^^^ (if b = true then 1#16 else 0#16)) ^^^ P16).toNat : Int) := by
      have hl := ((A <<< 1) ^^^ (if b = true then 1#16 else 0#16)).isLt
      rw [BitVec.toNat_xor (x := (A <<< 1) ^^^ (if b = true then 1#16 else 0#16))]
      exact u64_xor_nat ((A <<< 1) ^^^ (if b = true then 1#16 else 0#16)).toNat 4129 (by omega) (by omega)
    have hgo : ∀ (g : Int) (hg : g = ((b.toNat : Nat) : Int)), Ev (fun k => if (Go.bits .and .u64 (A.toNat : Int) 32768) = 0 then (foghornref25_Sum.l0 k s 4129 16 (Go.bits .or .u64 (IntKind.u64.wrap ((Go.bits .and .u64 (A.toNat : Int) (IntKind.u64.wrap (32768 - 1))) * 2)) g) 32768 (wrap64 ((i : Int) + 1))) else (foghornref25_Sum.l0 k s 4129 16 (Go.bits .xor .u64 (Go.bits .or .u64 (IntKind.u64.wrap ((Go.bits .and .u64 (A.toNat : Int) (IntKind.u64.wrap (32768 - 1))) * 2)) g) 4129) 32768 (wrap64 ((i : Int) + 1)))) ((run0 P16 (step0 P16 A b) ((bitsOf (natsOf s) ++ List.replicate 16 false).drop (i + 1))).toNat : Int) := by
      intro g hg
      subst hg
      rw [hd, hx, w64 (x := (i : Int) + 1) (by omega) (by omega)]
      cases hm : A.msb with
      | false =>
        refine Ev.ifp ((ref_over16 A).2 hm) ?_
        rw [step0_low hm] at ih ⊢
        exact ih
      | true =>
        refine Ev.ifn (fun e => by rw [(ref_over16 A).1 e] at hm; cases hm) ?_
        rw [step0_high hm] at ih ⊢
        exact ih
    refine Ev.step (fun k => by simp only [foghornref25_Sum.l0]; rfl) (Ev.ifp (by rw [e]; omega) ?_)
    rw [e8]
    rcases Nat.lt_or_ge i (8 * s.size) with hi | hi
    · refine Ev.ifp (by omega) ?_
      have ht : wrap64 (Int.tdiv (i : Int) 8) = ((i / 8 : Nat) : Int) := by rw [show (8 : Int) = ((8 : Nat) : Int) from rfl, tdiv_nat, w64n (by omega)]
      have hm : wrap64 (7 - Int.tmod (i : Int) 8) = ((7 - i % 8 : Nat) : Int) := by rw [show (8 : Int) = ((8 : Nat) : Int) from rfl, tmod_nat, w64 (by omega) (by omega)]; omega
      rw [ht, hm]
      refine Ev.ifp (by omega) (Ev.ifp (by omega) (Ev.ifp (by omega) (hgo _ ?_)))
      have hbv : b = ((natsOf s).getD (i / 8) 0).testBit (7 - i % 8) := by
        rw [← hb, List.getD_eq_getElem?_getD (l := bitsOf (natsOf s) ++ List.replicate 16 false), List.getElem?_append_left (by rw [bitsOf_length, natsOf_length]; exact hi), ← List.getD_eq_getElem?_getD, bitsOf_get _ _ (by rw [natsOf_length]; exact hi)]
      rw [bt_nats s (i / 8) (by omega), ref_bit _ _ (nats_lt s _) (by omega), hbv]
    · refine Ev.ifn (by omega) (hgo _ ?_)
      have : b = false := by
        rw [← hb, List.getD_eq_getElem?_getD, List.getElem?_append_right (by rw [bitsOf_length, natsOf_length]; exact hi)]
        exact replicate_false _ _
      rw [this]
      rfl
theorem ref_sum16 (s : ByteArray) (hs : s.size ≤ 140737488351232) : Ev (fun k => foghornref25_Sum.f k s 4129 16) ((B16 s).toNat : Int) := by
  simp only [foghornref25_Sum.f]
  have e : wrap64 ((16 : Int) - 1) = ((15 : Nat) : Int) := by rw [w64 (by omega) (by omega)]; rfl
  refine Ev.ifp (by omega) ?_
  have h1 : shl .u64 1 (wrap64 ((16 : Int) - 1)) = 32768 := by
    rw [e]
    unfold shl
    rw [Int.toNat_natCast, show IntKind.u64.bits = 64 from rfl, Nat.min_eq_left (by omega), IntKind.wrap_u64]
    rfl
  rw [h1]
  have h := ref_l0_16 s hs (8 * s.size + 16) 0 0#16 (by omega)
  rw [List.drop_zero, run0_long P16 one16] at h
  exact h

theorem ref_over32 (A : BitVec 32) : (Go.bits .and .u64 (A.toNat : Int) 2147483648 = 0) ↔ A.msb = false := by
  have hlt := A.isLt
  have h : Go.bits .and .u64 (A.toNat : Int) 2147483648 = ((A.toNat &&& 2147483648 : Nat) : Int) := u64_and_nat A.toNat 2147483648 (by omega) (by omega)
  have hb := nat_bit 31 A.toNat
  simp only [Nat.reducePow] at hb
  rw [h, hb, BitVec.msb_eq_decide]
  simp only [Nat.reduceSub, Nat.reducePow]
  constructor
  · intro e; simp; omega
  · intro e; simp at e; omega
theorem ref_down32 (A : BitVec 32) (b : Bool) : Go.bits .or .u64 (IntKind.u64.wrap ((Go.bits .and .u64 (A.toNat : Int) (IntKind.u64.wrap (2147483648 - 1))) * 2)) ((b.toNat : Nat) : Int) = (((A <<< 1) ^^^ (if b = true then 1#32 else 0#32)).toNat : Int) := by
  have hlt := A.isLt
  have e1 : IntKind.u64.wrap (2147483648 - 1) = ((2147483647 : Nat) : Int) := by rw [IntKind.wrap_u64]; rfl
  have hm := Nat.and_two_pow_sub_one_eq_mod A.toNat 31
  simp only [Nat.reducePow, Nat.reduceSub] at hm
  rw [e1, u64_and_nat A.toNat 2147483647 (by omega) (by omega), hm, IntKind.wrap_u64]
  have hml := Nat.mod_lt A.toNat (show 0 < 2147483648 by omega)
  have hb2 : b.toNat < 2 := by cases b <;> decide
  have e2 : (((A.toNat % 2147483648 : Nat) : Int) * 2) % 18446744073709551616 = ((A.toNat % 2147483648 * 2 : Nat) : Int) := by omega
  rw [e2, u64_or_nat _ _ (by omega) (by omega), or_bit _ _ hb2, BitVec.toNat_xor, BitVec.toNat_shiftLeft, Nat.shiftLeft_eq]
  have e3 : (if b = true then 1#32 else 0#32).toNat = b.toNat := by cases b <;> rfl
  rw [e3, show A.toNat * 2 ^ 1 % 2 ^ 32 = A.toNat % 2147483648 * 2 by omega, xor_bit_low _ _ hb2]
theorem ref_l0_32 (s : ByteArray) (hs : s.size ≤ 140737488351232) : ∀ (d i : Nat) (A : BitVec 32), i + d = 8 * s.size + 32 →
    Ev (fun k => foghornref25_Sum.l0 k s 79764919 32 (A.toNat : Int) 2147483648 (i : Int)) ((run0 P32 A ((bitsOf (natsOf s) ++ List.replicate 32 false).drop i)).toNat : Int)
  | 0, i, A, h => by
    have e : wrap64 ((wrap64 (8 * (s.size : Int))) + 32) = ((8 * s.size + 32 : Nat) : Int) := by rw [w64 (x := 8 * (s.size : Int)) (by omega) (by omega), w64 (by omega) (by omega)]; omega
    refine Ev.step (fun k => by simp only [foghornref25_Sum.l0]; rfl) (Ev.ifn (by rw [e]; omega) ?_)
    rw [List.drop_eq_nil_of_le (by rw [List.length_append, bitsOf_length, natsOf_length, List.length_replicate]; omega)]
    exact Ev.now _
  | d + 1, i, A, h => by
    have e : wrap64 ((wrap64 (8 * (s.size : Int))) + 32) = ((8 * s.size + 32 : Nat) : Int) := by rw [w64 (x := 8 * (s.size : Int)) (by omega) (by omega), w64 (by omega) (by omega)]; omega
    have e8 : wrap64 (8 * (s.size : Int)) = ((8 * s.size : Nat) : Int) := by rw [w64 (by omega) (by omega)]; omega
    have hL : (bitsOf (natsOf s) ++ List.replicate 32 false).length = 8 * s.size + 32 := by rw [List.length_append, bitsOf_length, natsOf_length, List.length_replicate]
    obtain ⟨b, hb⟩ : ∃ b, (bitsOf (natsOf s) ++ List.replicate 32 false).getD i false = b := ⟨_, rfl⟩
    have hdrop : (bitsOf (natsOf s) ++ List.replicate 32 false).drop i = b :: (bitsOf (natsOf s) ++ List.replicate 32 false).drop (i + 1) := by
      rw [List.drop_eq_getElem_cons (by rw [hL]; omega)]
      congr 1
      rw [← hb, List.getD_eq_getElem?_getD, List.getElem?_eq_getElem (by rw [hL]; omega), Option.getD_some]
    have ih := ref_l0_32 s hs d (i + 1) (step0 P32 A b) (by omega)
    rw [hdrop, run0_cons]
    have hd := ref_down32 A b
    have hx : Go.bits .xor .u64 ((((A <<< 1) ^^^ (if b = true then 1#32 else 0#32)).toNat : Nat) : Int) 79764919 = ((((A <<< 1) ^^^ (if b = true then 1#32 else 0#32)) ^^^ P32).toNat : Int) := by
      have hl := ((A <<< 1) ^^^ (if b = true then 1#32 else 0#32)).isLt
      rw [BitVec.toNat_xor (x := (A <<< 1) ^^^ (if b = true then 1#32 else 0#32))]
      exact u64_xor_nat ((A <<< 1) ^^^ (if b = true then 1#32 else 0#32)).toNat 79764919 (by omega) (by omega)
    have hgo : ∀ (g : Int) (hg : g = ((b.toNat : Nat) : Int)), Ev (fun k => if (Go.bits .and .u64 (A.toNat : Int) 2147483648) = 0 then (foghornref25_Sum.l0 k s 79764919 32 (Go.bits .or .u64 (IntKind.u64.wrap ((Go.bits .and .u64 (A.toNat : Int) (IntKind.u64.wrap (2147483648 - 1))) * 2)) g) 2147483648 (wrap64 ((i : Int) + 1))) else (foghornref25_Sum.l0 k s 79764919 32 (Go.bits .xor .u64 (Go.bits .or .u64 (IntKind.u64.wrap ((Go.bits .and .u64 (A.toNat : Int) (IntKind.u64.wrap (2147483648 - 1))) * 2)) g) 79764919) 2147483648 (wrap64 ((i : Int) + 1)))) ((run0 P32 (step0 P32 A b) ((bitsOf (natsOf s) ++ List.replicate 32 false).drop (i + 1))).toNat : Int) := by
      intro g hg
      subst hg
      rw [hd, hx, w64 (x := (i : Int) + 1) (by omega) (by omega)]
      cases hm : A.msb with
      | false =>
        refine Ev.ifp ((ref_over32 A).2 hm) ?_
        rw [step0_low hm] at ih ⊢
        exact ih
      | true =>
        refine Ev.ifn (fun e => by rw [(ref_over32 A).1 e] at hm; cases hm) ?_
        rw [step0_high hm] at ih ⊢
        exact ih
    refine Ev.step (fun k => by simp only [foghornref25_Sum.l0]; rfl) (Ev.ifp (by rw [e]; omega) ?_)
    rw [e8]
    rcases Nat.lt_or_ge i (8 * s.size) with hi | hi
    · refine Ev.ifp (by omega) ?_
      have ht : wrap64 (Int.tdiv (i : Int) 8) = ((i / 8 : Nat) : Int) := by rw [show (8 : Int) = ((8 : Nat) : Int) from rfl, tdiv_nat, w64n (by omega)]
      have hm : wrap64 (7 - Int.tmod (i : Int) 8) = ((7 - i % 8 : Nat) : Int) := by rw [show (8 : Int) = ((8 : Nat) : Int) from rfl, tmod_nat, w64 (by omega) (by omega)]; omega
      rw [ht, hm]
      refine Ev.ifp (by omega) (Ev.ifp (by omega) (Ev.ifp (by omega) (hgo _ ?_)))
      have hbv : b = ((natsOf s).getD (i / 8) 0).testBit (7 - i % 8) := by
        rw [← hb, List.getD_eq_getElem?_getD (l := bitsOf (natsOf s) ++ List.replicate 32 false), List.getElem?_append_left (by rw [bitsOf_length, natsOf_length]; exact hi), ← List.getD_eq_getElem?_getD, bitsOf_get _ _ (by rw [natsOf_length]; exact hi)]
      rw [bt_nats s (i / 8) (by omega), ref_bit _ _ (nats_lt s _) (by omega), hbv]
    · refine Ev.ifn (by omega) (hgo _ ?_)
      have : b = false := by
        rw [← hb, List.getD_eq_getElem?_getD, List.getElem?_append_right (by rw [bitsOf_length, natsOf_length]; exact hi)]
        exact replicate_false _ _
      rw [this]
      rfl
theorem ref_sum32 (s : ByteArray) (hs : s.size ≤ 140737488351232) : Ev (fun k => foghornref25_Sum.f k s 79764919 32) ((B32 s).toNat : Int) := by
  simp only [foghornref25_Sum.f]
  have e : wrap64 ((32 : Int) - 1) = ((31 : Nat) : Int) := by rw [w64 (by omega) (by omega)]; rfl
  refine Ev.ifp (by omega) ?_
  have h1 : shl .u64 1 (wrap64 ((32 : Int) - 1)) = 2147483648 := by
    rw [e]
    unfold shl
    rw [Int.toNat_natCast, show IntKind.u64.bits = 64 from rfl, Nat.min_eq_left (by omega), IntKind.wrap_u64]
    rfl
  rw [h1]
  have h := ref_l0_32 s hs (8 * s.size + 32) 0 0#32 (by omega)
  rw [List.drop_zero, run0_long P32 one32] at h
  exact h
end Go.Proofs.Ytclhkbjcemgmnaa.Crc
