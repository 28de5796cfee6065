-- Written by fog.py, a program of this session, over the kit's print.
import Derived.Test.YtjhapibelhakdaaProg
import Derived.Below
import Derived.Deep.Draws
import Derived.Deep.AppendLies
import Derived.Maps.AppendAt
import Derived.OwnWalk
import Derived.Laws.BytesArg
import Derived.Laws.MakeOwn
import Derived.Laws.OwnMore
import Derived.Deep.OwnRows
import Derived.Tactics
import Derived.Lib.ConvBytes
import Derived.Laws.Slices
import Derived.WalkKit
import Derived.KernelRfl
import Derived.RowKit3
import Derived.Deep.LoopGhost
import Derived.Deep.QuietTactic
import Derived.BigQuiet
import Derived.WideLaws
import Derived.Deep.DeepCutAuto
import Derived.Deep.CutBlock
import Derived.Deep.RegionHeld3
import Derived.Laws.Rows
import Derived.Lib.AppendStr
import Derived.ArgAppend
import Derived.Laws.IdiomCopy
import Derived.OrdersHeld
import Derived.Laws.BitsLemmas
import Derived.RowKit
import Derived.Test.YtjhapibelhakdaaWWords
import Derived.Test.YtjhapibelhakdaaWLast
import Derived.Test.YtjhapibelhakdaaWTab
import Derived.Test.YtjhapibelhakdaaWFour
import Derived.Test.YtjhapibelhakdaaWQPut
import Derived.Test.YtjhapibelhakdaaWApart
import Derived.Test.YtjhapibelhakdaaWArr
import Derived.Test.YtjhapibelhakdaaWZeros
import Derived.Test.YtjhapibelhakdaaWFoot
import Derived.Test.YtjhapibelhakdaaWKept
import Derived.Test.YtjhapibelhakdaaWShare
import Derived.Test.YtjhapibelhakdaaWN
import Derived.Test.YtjhapibelhakdaaWFootNe
import Derived.Test.YtjhapibelhakdaaWAt
import Derived.Test.YtjhapibelhakdaaWEqStruct
import Derived.Test.YtjhapibelhakdaaWRepsOne
import Derived.Test.YtjhapibelhakdaaWInv
import Derived.Test.YtjhapibelhakdaaWInvWords
import Derived.Test.YtjhapibelhakdaaWGuard
import Derived.Test.YtjhapibelhakdaaWNEv
import Derived.Test.YtjhapibelhakdaaWMore
namespace Go.Proofs.Ytjhapibelhakdaa.Fog
open Go.RowKit Go.Proofs.YtjhapibelhakdaaW.PrintWords Go.Proofs.YtjhapibelhakdaaW.PrintLast Go.Proofs.YtjhapibelhakdaaW.PrintMore
attribute [local go_sem] max2_int min2_int max_two min_two max_three min_three max_four min_four   -- for this text's walks alone
set_option linter.unusedVariables false
set_option linter.unusedSimpArgs false



def errW : Option Int → Value
  | none => .nilIface
  | some c => .iface 0 (.int .i64 c)
theorem errW_none : errW none = .nilIface := rfl
theorem errW_some (c : Int) : errW (some c) = .iface 0 (.int .i64 c) := rfl

-- the values' own types

theorem fog_signed_u8 : IntKind.u8.signed = false := rfl
theorem fog_max_u8 : IntKind.u8.max = 255 := rfl
theorem fog_signed_u16 : IntKind.u16.signed = false := rfl
theorem fog_max_u16 : IntKind.u16.max = 65535 := rfl
theorem fog_signed_u32 : IntKind.u32.signed = false := rfl
theorem fog_max_u32 : IntKind.u32.max = 4294967295 := rfl
theorem fog_signed_u64 : IntKind.u64.signed = false := rfl
theorem fog_max_u64 : IntKind.u64.max = 18446744073709551615 := rfl
theorem fog_signed_i8 : IntKind.i8.signed = true := rfl
theorem fog_max_i8 : IntKind.i8.max = 127 := rfl
theorem fog_signed_i16 : IntKind.i16.signed = true := rfl
theorem fog_max_i16 : IntKind.i16.max = 32767 := rfl
theorem fog_signed_i32 : IntKind.i32.signed = true := rfl
theorem fog_max_i32 : IntKind.i32.max = 2147483647 := rfl
theorem fog_signed_i64 : IntKind.i64.signed = true := rfl
theorem fog_max_i64 : IntKind.i64.max = 9223372036854775807 := rfl

end Go.Proofs.Ytjhapibelhakdaa.Fog
