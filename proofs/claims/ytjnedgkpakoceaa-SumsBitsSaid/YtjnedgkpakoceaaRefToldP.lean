/- foghornlaw24.told: true, whatever the bits and the sum. Plain. -/
import Derived.Test.YtjnedgkpakoceaaFogx0
import Derived.Test.YtjnedgkpakoceaaFogx1
import Derived.Test.YtjnedgkpakoceaaFogx10
import Derived.Test.YtjnedgkpakoceaaFogx12
import Derived.Test.YtjnedgkpakoceaaFogx8
import Derived.Test.YtjnedgkpakoceaaRefTold
namespace Go.Proofs.Ytjnedgkpakoceaa.Pure
open Go.RowKit Go.Proofs.Ytjnedgkpakoceaa.Fog Go.Proofs.YtjnedgkpakoceaaW.PrintWords Go.Proofs.YtjnedgkpakoceaaW.PrintLast Go.Proofs.YtjnedgkpakoceaaW.PrintMore Go.Proofs.Ytjnedgkpakoceaa.Kit Go.Proofs.Ytjnedgkpakoceaa.Crc
set_option linter.unusedSimpArgs false
set_option linter.unusedVariables false
def sV16 (s : BitVec 16) (l : List Bool) : Int × Int := if l.length ≤ 32768 then (((crc P16 s l).toNat : Int), 0) else (0, 1)
def sV32 (s : BitVec 32) (l : List Bool) : Int × Int := if l.length ≤ 32768 then (((crc P32 s l).toNat : Int), 0) else (0, 1)
def rV16 (l : List Bool) : List Bool × Int := if l.length + 16 ≤ 32768 then (l ++ spelt (crc P16 0#16 l), 0) else ([], 1)
def rV32 (l : List Bool) : List Bool × Int := if l.length + 32 ≤ 32768 then (l ++ spelt (crc P32 0#32 l), 0) else ([], 1)
theorem rV16_len (l : List Bool) : (rV16 l).1.length ≤ 32768 := by
  unfold rV16
  split
  · rw [List.length_append, spelt_length]; omega
  · simp
theorem rV32_len (l : List Bool) : (rV32 l).1.length ≤ 32768 := by
  unfold rV32
  split
  · rw [List.length_append, spelt_length]; omega
  · simp
theorem sum16_v (l : List Bool) : Ev (fun k => sums_Sum16.f k l) (sV16 0#16 l) := by
  unfold sV16
  split
  · exact sum16_ev l (by assumption)
  · exact sum16_long l (by omega)
theorem sum32_v (l : List Bool) : Ev (fun k => sums_Sum32.f k l) (sV32 0#32 l) := by
  unfold sV32
  split
  · exact sum32_ev l (by assumption)
  · exact sum32_long l (by omega)
theorem told16_v (l : List Bool) : Ev (fun k => foghornref24_Told.f k 16 l) (sV16 0#16 l) := by
  unfold sV16
  split
  · exact rtold16 l (by assumption)
  · exact rtold_long 16 l (by omega)
theorem told32_v (l : List Bool) : Ev (fun k => foghornref24_Told.f k 32 l) (sV32 0#32 l) := by
  unfold sV32
  split
  · exact rtold32 l (by assumption)
  · exact rtold_long 32 l (by omega)
theorem on16_v (s : BitVec 16) (l : List Bool) : Ev (fun k => sums_On16.f k (s.toNat : Int) l) (sV16 s l) := by
  simp only [sums_On16.f]
  unfold sV16
  split
  · exact Ev.bind (on16_ev s l (by assumption)) (Ev.now _)
  · exact Ev.bind (on16_long _ l (by omega)) (Ev.now _)
theorem on32_v (s : BitVec 32) (l : List Bool) : Ev (fun k => sums_On32.f k (s.toNat : Int) l) (sV32 s l) := by
  simp only [sums_On32.f]
  unfold sV32
  split
  · exact Ev.bind (on32_ev s l (by assumption)) (Ev.now _)
  · exact Ev.bind (on32_long _ l (by omega)) (Ev.now _)
theorem ron16_v (s : BitVec 16) (l : List Bool) : Ev (fun k => foghornref24_On.f k 16 (s.toNat : Int) l) (sV16 s l) := by
  unfold sV16
  split
  · exact ron16 s l (by assumption)
  · exact ron_long 16 _ l (by omega)
theorem ron32_v (s : BitVec 32) (l : List Bool) : Ev (fun k => foghornref24_On.f k 32 (s.toNat : Int) l) (sV32 s l) := by
  unfold sV32
  split
  · exact ron32 s l (by assumption)
  · exact ron_long 32 _ l (by omega)
theorem row16_v (l : List Bool) (hb : l.length ≤ 140737488351232) : Ev (fun k => sums_Row16.f k l) (rV16 l) := by
  unfold rV16
  split
  · exact row16_ev l (by assumption)
  · exact row16_long l (by omega) hb
theorem row32_v (l : List Bool) (hb : l.length ≤ 140737488351232) : Ev (fun k => sums_Row32.f k l) (rV32 l) := by
  unfold rV32
  split
  · exact row32_ev l (by assumption)
  · exact row32_long l (by omega) hb
theorem rrow16_v (l : List Bool) : Ev (fun k => foghornref24_Row.f k 16 l) (rV16 l) := by
  unfold rV16
  split
  · exact rrow16 l (by assumption)
  · exact rrow_long 16 (by omega) l (by omega)
theorem rrow32_v (l : List Bool) : Ev (fun k => foghornref24_Row.f k 32 l) (rV32 l) := by
  unfold rV32
  split
  · exact rrow32 l (by assumption)
  · exact rrow_long 32 (by omega) l (by omega)
theorem sV16_small (s : BitVec 16) (l : List Bool) : (sV16 s l).1 % 4294967296 = (sV16 s l).1 := by
  unfold sV16
  split
  · have := (crc P16 s l).isLt
    simp only []
    omega
  · rfl
theorem told_l0 (l y : List Bool) (hb : l.length ≤ 140737488351232) (hy : y = (rV16 l).1) : ∀ (d : Nat) (x : List Bool) (i : Nat), i + d = x.length → x.length ≤ 100000 → Ev (fun k => foghornlaw24_told.l0 k l l x y (i : Int)) true
  | 0, x, i, h, hx => by
    refine Ev.step (fun k => by simp only [foghornlaw24_told.l0]; rfl) (Ev.ifn (by omega) (Ev.bind (row16_v l hb) (Ev.bind (same_ev (rV16 l).1 y (by have := rV16_len l; omega)) ?_)))
    refine Ev.ifp (by simp [hy]) (Ev.bind (fits16_ev l) (Ev.bind (rfits16 l (by omega)) (Ev.ifp (by simp) (Ev.bind (fits32_ev l) (Ev.bind (rfits32 l (by omega)) (Ev.val (by simp)))))))
  | d + 1, x, i, h, hx => by
    refine Ev.step (fun k => by simp only [foghornlaw24_told.l0]; rfl) (Ev.ifp (by omega) (Ev.ifp (by omega) ?_))
    rw [w64 (by omega) (by omega)]
    exact told_l0 l y hb hy d _ (i + 1) (by rw [List.length_set]; omega) (by rw [List.length_set]; omega)
theorem told_ev (l : List Bool) (hb : l.length ≤ 140737488351232) (sum : BitVec 32) : Ev (fun k => foghornlaw24_told.f k l l (sum.toNat : Int)) true := by
  simp only [foghornlaw24_told.f]
  refine Ev.bind (sum16_v l) (Ev.bind (told16_v l) (Ev.bind (sum32_v l) (Ev.bind (told32_v l) (Ev.ifp (sV16_small _ _) (Ev.ifp rfl (Ev.ifp rfl ?_))))))
  refine Ev.step (fun k => by simp only [foghornlaw24_told.j0]; rfl) (Ev.ifn (by simp) ?_)
  have hs := sum.isLt
  have e1 : IntKind.u16.wrap (sum.toNat : Int) = ((BitVec.ofNat 16 sum.toNat).toNat : Int) := by
    rw [IntKind.wrap_u16, BitVec.toNat_ofNat]; omega
  have e2 : Int.tmod (sum.toNat : Int) 65536 = ((BitVec.ofNat 16 sum.toNat).toNat : Int) := by
    rw [show (65536 : Int) = ((65536 : Nat) : Int) from rfl, tmod_nat, BitVec.toNat_ofNat]
  rw [e1, e2]
  refine Ev.bind (on16_v _ l) (Ev.bind (ron16_v _ l) (Ev.bind (on32_v sum l) (Ev.bind (ron32_v sum l) (Ev.ifp (sV16_small _ _) (Ev.ifp rfl (Ev.ifp rfl ?_))))))
  refine Ev.step (fun k => by simp only [foghornlaw24_told.j1]; rfl) (Ev.ifn (by simp) ?_)
  have h16 := rV16_len l
  have h32 := rV32_len l
  refine Ev.bind (row16_v l hb) (Ev.bind (rrow16_v l) (Ev.bind (row32_v l hb) (Ev.bind (rrow32_v l) (Ev.ifp rfl (Ev.bind (same_rfl _ (by omega)) (Ev.ifp rfl (Ev.ifp rfl (Ev.bind (same_rfl _ (by omega)) (Ev.ifp rfl (Ev.bind (fits16_ev _) (Ev.bind (rfits16 _ (by omega)) (Ev.ifn (by simp) (Ev.bind (fits32_ev _) (Ev.bind (rfits32 _ (by omega)) ?_))))))))))))))
  refine Ev.step (fun k => by simp only [foghornlaw24_told.j2]; rfl) (Ev.ifn (by simp) ?_)
  exact told_l0 l _ hb rfl (rV16 l).1.length _ 0 (by omega) (by omega)
end Go.Proofs.Ytjnedgkpakoceaa.Pure
