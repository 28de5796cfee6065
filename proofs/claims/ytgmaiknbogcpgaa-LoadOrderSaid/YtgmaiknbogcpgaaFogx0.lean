-- Written by fog.py, a program of this session, over the kit's print.
import Derived.Test.YtgmaiknbogcpgaaProg
import Derived.Below
import Derived.Deep.Draws
import Derived.Deep.AppendLies
import Derived.Maps.AppendAt
import Derived.OwnWalk
import Derived.Laws.BytesArg
import Derived.Laws.MakeOwn
import Derived.Laws.OwnMore
import Derived.Deep.OwnRows
import Derived.Tactics
import Derived.Lib.ConvBytes
import Derived.Laws.Slices
import Derived.WalkKit
import Derived.KernelRfl
import Derived.RowKit3
import Derived.Deep.LoopGhost
import Derived.Deep.QuietTactic
import Derived.BigQuiet
import Derived.WideLaws
import Derived.Deep.DeepCutAuto
import Derived.Deep.CutBlock
import Derived.Deep.RegionHeld3
import Derived.Laws.Rows
import Derived.Lib.AppendStr
import Derived.ArgAppend
import Derived.Laws.IdiomCopy
import Derived.OrdersHeld
import Derived.Laws.BitsLemmas
import Derived.RowKit
import Derived.Test.YtgmaiknbogcpgaaWWords
import Derived.Test.YtgmaiknbogcpgaaWLast
import Derived.Test.YtgmaiknbogcpgaaWTab
import Derived.Test.YtgmaiknbogcpgaaWFour
import Derived.Test.YtgmaiknbogcpgaaWQPut
import Derived.Test.YtgmaiknbogcpgaaWApart
import Derived.Test.YtgmaiknbogcpgaaWArr
import Derived.Test.YtgmaiknbogcpgaaWZeros
import Derived.Test.YtgmaiknbogcpgaaWFoot
import Derived.Test.YtgmaiknbogcpgaaWKept
import Derived.Test.YtgmaiknbogcpgaaWShare
import Derived.Test.YtgmaiknbogcpgaaWN
import Derived.Test.YtgmaiknbogcpgaaWFootNe
import Derived.Test.YtgmaiknbogcpgaaWAt
import Derived.Test.YtgmaiknbogcpgaaWEqStruct
import Derived.Test.YtgmaiknbogcpgaaWRepsOne
import Derived.Test.YtgmaiknbogcpgaaWInv
import Derived.Test.YtgmaiknbogcpgaaWInvWords
import Derived.Test.YtgmaiknbogcpgaaWGuard
import Derived.Test.YtgmaiknbogcpgaaWNEv
import Derived.Test.YtgmaiknbogcpgaaWMore
namespace Go.Proofs.Ytgmaiknbogcpgaa.Fog
open Go.RowKit Go.Proofs.YtgmaiknbogcpgaaW.PrintWords Go.Proofs.YtgmaiknbogcpgaaW.PrintLast Go.Proofs.YtgmaiknbogcpgaaW.PrintMore
attribute [local go_sem] max2_int min2_int max_two min_two max_three min_three max_four min_four   -- for this text's walks alone
set_option linter.unusedVariables false
set_option linter.unusedSimpArgs false



def errW : Option Int → Value
  | none => .nilIface
  | some c => .iface 0 (.int .i64 c)
theorem errW_none : errW none = .nilIface := rfl
theorem errW_some (c : Int) : errW (some c) = .iface 0 (.int .i64 c) := rfl

theorem info3 : (Try.prog.info? 3).map (fun i => (i.zero, i.size, i.bytes)) = some (some (.int .i64 0), 1, 8) := by kernel_rfl
theorem info4 : (Try.prog.info? 4).map (fun i => (i.zero, i.size, i.bytes)) = some (some (.bool false), 1, 1) := by kernel_rfl
theorem info26 : (Try.prog.info? 26).map (fun i => (i.zero, i.size, i.bytes)) = some (some (.slice none 0 0), 1, 24) := by kernel_rfl
theorem info50 : (Try.prog.info? 50).map (fun i => (i.zero, i.size, i.bytes)) = some (some (.slice none 0 0), 1, 24) := by kernel_rfl
-- the values' own types
def rd_L3 (xs : List (List Int)) (i : Int) : (List Int) := xs.getD i.toNat ([] : List Int)
theorem at_L3 {w : World} {A : Option Addr} {n : Nat} {xs : List (List Int)} (h : Kd.C (Kd.slice 3 (Kd.int .i64)) w A n xs) (i : Int) (h0 : 0 ≤ i) (h1 : i < n) : ∃ ad A0 c0, A = some ad ∧ w.cell? (ad.add i.toNat) = some (.slice A0 (rd_L3 xs i).length c0) ∧ (rd_L3 xs i).length ≤ c0 ∧ (Kd.int .i64).C w A0 (rd_L3 xs i).length (rd_L3 xs i) := by
  obtain ⟨ad, c, e, _, hK, hc0⟩ := Kd.C_get h ([] : List Int) i h0 h1
  have hc : ∀ j u, c[j]? = some u → w.cell? (ad.add (i.toNat * 1 + j)) = some u := hc0
  obtain ⟨A0, c0, rfl, l0, g0⟩ := hK
  exact ⟨ad, A0, c0, e, by have hq := hc 0 _ rfl; rwa [Nat.mul_one, Nat.add_zero] at hq, l0, g0⟩

def rd_L5 (xs : List (List Bool)) (i : Int) : (List Bool) := xs.getD i.toNat ([] : List Bool)
theorem at_L5 {w : World} {A : Option Addr} {n : Nat} {xs : List (List Bool)} (h : Kd.C (Kd.slice 4 Kd.bool) w A n xs) (i : Int) (h0 : 0 ≤ i) (h1 : i < n) : ∃ ad A0 c0, A = some ad ∧ w.cell? (ad.add i.toNat) = some (.slice A0 (rd_L5 xs i).length c0) ∧ (rd_L5 xs i).length ≤ c0 ∧ Kd.bool.C w A0 (rd_L5 xs i).length (rd_L5 xs i) := by
  obtain ⟨ad, c, e, _, hK, hc0⟩ := Kd.C_get h ([] : List Bool) i h0 h1
  have hc : ∀ j u, c[j]? = some u → w.cell? (ad.add (i.toNat * 1 + j)) = some u := hc0
  obtain ⟨A0, c0, rfl, l0, g0⟩ := hK
  exact ⟨ad, A0, c0, e, by have hq := hc 0 _ rfl; rwa [Nat.mul_one, Nat.add_zero] at hq, l0, g0⟩

theorem fog_signed_u8 : IntKind.u8.signed = false := rfl
theorem fog_max_u8 : IntKind.u8.max = 255 := rfl
theorem fog_signed_u16 : IntKind.u16.signed = false := rfl
theorem fog_max_u16 : IntKind.u16.max = 65535 := rfl
theorem fog_signed_u32 : IntKind.u32.signed = false := rfl
theorem fog_max_u32 : IntKind.u32.max = 4294967295 := rfl
theorem fog_signed_u64 : IntKind.u64.signed = false := rfl
theorem fog_max_u64 : IntKind.u64.max = 18446744073709551615 := rfl
theorem fog_signed_i8 : IntKind.i8.signed = true := rfl
theorem fog_max_i8 : IntKind.i8.max = 127 := rfl
theorem fog_signed_i16 : IntKind.i16.signed = true := rfl
theorem fog_max_i16 : IntKind.i16.max = 32767 := rfl
theorem fog_signed_i32 : IntKind.i32.signed = true := rfl
theorem fog_max_i32 : IntKind.i32.max = 2147483647 := rfl
theorem fog_signed_i64 : IntKind.i64.signed = true := rfl
theorem fog_max_i64 : IntKind.i64.max = 9223372036854775807 := rfl

end Go.Proofs.Ytgmaiknbogcpgaa.Fog
