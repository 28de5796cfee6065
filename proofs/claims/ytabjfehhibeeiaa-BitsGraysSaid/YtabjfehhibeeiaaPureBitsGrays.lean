/- BitsGrays: any number: there and back, neighbours. No condition. -/
import Derived.Test.YtabjfehhibeeiaaFogx0
import Derived.Test.YtabjfehhibeeiaaFogx12
import Derived.Test.YtabjfehhibeeiaaHandRow
import Derived.Test.YtabjfehhibeeiaaKit
import Derived.Test.YtabjfehhibeeiaaRefBits
namespace Go.Proofs.Ytabjfehhibeeiaa.Pure
open Go.RowKit Go.Proofs.Ytabjfehhibeeiaa.Fog Go.Proofs.YtabjfehhibeeiaaW.PrintWords Go.Proofs.YtabjfehhibeeiaaW.PrintLast Go.Proofs.Ytabjfehhibeeiaa.Kit
theorem low16 (a : Int) : ∃ m : Nat, m < 65536 ∧ Go.bits .and .i64 a 65535 = (m : Int) := by
  refine ⟨(BitVec.ofInt 64 a &&& BitVec.ofInt 64 65535).toNat, ?_, ?_⟩
  · rw [BitVec.toNat_and, show (BitVec.ofInt 64 65535).toNat = 65535 by decide]
    exact Nat.lt_of_le_of_lt Nat.and_le_right (by decide)
  · show IntKind.i64.wrap (((BitVec.ofInt 64 a &&& BitVec.ofInt 64 65535).toNat : Nat) : Int) = _
    have h : (BitVec.ofInt 64 a &&& BitVec.ofInt 64 65535).toNat ≤ 65535 := by
      rw [BitVec.toNat_and, show (BitVec.ofInt 64 65535).toNat = 65535 by decide]
      exact Nat.and_le_right
    rw [IntKind.wrap_i64]
    omega
theorem low16_nat (m : Nat) (h : m < 4611686018427387904) : Go.bits .and .i64 (m : Int) 65535 = ((m % 65536 : Nat) : Int) := by
  rw [show (65535 : Int) = ((65535 : Nat) : Int) from rfl, and_i64 _ _ h (by omega)]
  have := Nat.and_two_pow_sub_one_eq_mod m 16
  rw [show (65535 : Nat) = 2 ^ 16 - 1 by decide, this]
theorem row_one (x : Nat) (h : x < 65536) : bits_Row.f [(x : Int)] 16 = some (rowBits 16 (x : Int), 0) := by
  unfold bits_Row.f rowV
  rw [if_pos (by simp)]
  have hg : rowGood 16 (x : Int) = true := by
    unfold rowGood
    rw [decide_eq_true (by omega), decide_eq_true (show (x : Int) / 2 ^ 16 = 0 by omega)]
    rfl
  rw [if_pos (by simp [hg, show (16 : Int).toNat = 16 from rfl])]
  simp [show (16 : Int).toNat = 16 from rfl]
theorem and_one (x : Nat) (h : x < 65536) : Go.bits .and .i64 (x : Int) 1 = ((x % 2 : Nat) : Int) := by
  rw [show (1 : Int) = ((1 : Nat) : Int) from rfl, and_i64 _ _ (by omega) (by omega), Nat.and_one_is_mod]
theorem rowBit_nat (x i : Nat) (h : x < 65536) : rowBit (x : Int) 16 i = (x / 2 ^ (15 - i) % 2 == 1) := by
  unfold rowBit
  have e : ((x : Int) / 2 ^ (16 - 1 - i)) = ((x / 2 ^ (15 - i) : Nat) : Int) := by
    rw [show 16 - 1 - i = 15 - i by omega, Int.natCast_ediv, Int.natCast_pow]; rfl
  have hl : x / 2 ^ (15 - i) ≤ x := Nat.div_le_self _ _
  rw [e, and_one _ (by omega)]
  rcases Nat.mod_two_eq_zero_or_one (x / 2 ^ (15 - i)) with h1 | h1 <;> rw [h1] <;> rfl
theorem row_far (x y t : Nat) (hx : x < 65536) (hy : y < 65536) (ht : x ^^^ y = 2 ^ t) (htl : t < 16) : wgt (xorB (rowBits 16 (x : Int)) (rowBits 16 (y : Int))) = 1 := by
  have e : xorB (rowBits 16 (x : Int)) (rowBits 16 (y : Int)) = (List.range 16).map fun i => decide (2 ^ t / 2 ^ (15 - i) % 2 = 1) := by
    unfold xorB rowBits
    rw [List.zipWith_map, List.zipWith_self]
    refine List.map_congr_left fun i hi => ?_
    rw [rowBit_nat x i hx, rowBit_nat y i hy]
    have hb := bit_xor x y (15 - i)
    rw [ht] at hb
    rw [hb]
    have h1 := Nat.mod_two_eq_zero_or_one (x / 2 ^ (15 - i))
    have h2 := Nat.mod_two_eq_zero_or_one (y / 2 ^ (15 - i))
    rcases h1 with h1 | h1 <;> rcases h2 with h2 | h2 <;> rw [h1, h2] <;> decide
  rw [e]
  have hall : ∀ t, t < 16 → wgt ((List.range 16).map fun i => decide (2 ^ t / 2 ^ (15 - i) % 2 = 1)) = 1 := by decide +kernel
  exact hall t htl
theorem BitsGrays : foghornlaw01_BitsGrays.Pure := by
  intro a0 _
  refine Ev.rounds ?_
  unfold foghornlaw01_BitsGrays.f
  refine Ev.bindc (a := true) rfl ?_
  refine Ev.ifp rfl ?_
  obtain ⟨m, hm, hma⟩ := low16 a0
  rw [hma]
  have hp : (2 : Nat) ^ 16 = 65536 := by decide
  have hg : gr m < 65536 := by have := gr_lt m 16 (by omega); omega
  have hu := ung_lt m hm
  have hug := ung_gr m hm
  have hgu : gr (ung m) = m := by
    have := ung_gray m hm
    rw [Nat.shiftRight_eq_div_pow] at this
    exact this
  have hs : (m + 1) % 65536 < 65536 := Nat.mod_lt _ (by omega)
  obtain ⟨t, ht⟩ := gr_ring 16 m (by omega) (by omega)
  rw [hp] at ht
  have hg2 : gr ((m + 1) % 65536) < 65536 := by have := gr_lt ((m + 1) % 65536) 16 (by omega); omega
  have htl : t < 16 := by
    have h1 : 2 ^ t < 2 ^ 16 := by rw [← ht]; exact Nat.xor_lt_two_pow (by omega) (by omega)
    exact (Nat.pow_lt_pow_iff_right (by decide)).1 h1
  have u1 := ungray_ev (gr m) hg
  have u2 := ungray_ev m hm
  rw [hug] at u1
  refine Ev.bindc (gray_f m hm) ?_
  refine Ev.bind u1 ?_
  refine Ev.bind u2 ?_
  refine Ev.bindc (gray_f (ung m) hu) ?_
  rw [show ((m : Int) + 1) = ((m + 1 : Nat) : Int) by omega, w64n (by omega), low16_nat (m + 1) (by omega)]
  refine Ev.bindc (gray_f _ hs) ?_
  dsimp only
  rw [low16_nat (gr m) (by omega), low16_nat (gr ((m + 1) % 65536)) (by omega), Nat.mod_eq_of_lt hg, Nat.mod_eq_of_lt hg2]
  refine Ev.bindc (row_one (gr m) hg) ?_
  refine Ev.bindc (row_one _ hg2) ?_
  dsimp only
  refine Ev.bind (distance_ev _ _ (by simp [rowBits]) (by simp [rowBits])) ?_
  dsimp only
  rw [hgu, row_far _ _ t hg hg2 ht htl]
  exact Ev.ifp rfl (Ev.ifp rfl (Ev.ifp rfl (Ev.ifp rfl (Ev.ifp rfl (Ev.ifp rfl (Ev.ifp rfl (Ev.ifp rfl (Ev.ifp rfl (Ev.ifp rfl (Ev.now _))))))))))
end Go.Proofs.Ytabjfehhibeeiaa.Pure
