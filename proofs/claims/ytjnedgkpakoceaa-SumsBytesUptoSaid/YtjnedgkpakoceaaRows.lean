/-
  No cell of these rows narrows 'for every input' (looked for: loops, veiled, ifaces, maps, wideKeys, modest, calm, conditions, laid).
  DERIVED. THE GIVEN ROWS OF THIS SEAT. 5 by the template 'for every input the law returns true; each argument reads behind the call as it read before'; 0 by the template 'total and deterministic' (their statements: YtjnedgkpakoceaaTotals.lean).
  GIVEN WITH THE SEED: the statements are not yours to turn. If you find one false, say at which input.
  Laid BY PROGRAM, IN A SANDBOX (cutbox-rows.mjs): the forced cells as the released guide's own fill.sh prints them over the translation 79b2e73ec501d261… (all of the seat's roots in one cut). By AI agents, Wed Nov 11 2026. No macro, syntax, notation, axiom, sorry.
-/
import Derived.Test.YtjnedgkpakoceaaChecked
import GoSem.Claim
import GoSem.ClaimJoined
import GoSem.ClaimMapViews
import Derived.JoinedTies
import Derived.KernelRfl
namespace Go.Proofs.Ytjnedgkpakoceaa
/- THE CELL 'sum', in the pinned program and in every row, IS THE sha256 OF THE DUMP (.gsa) THAT YtjnedgkpakoceaaProg.lean LOADS. Nothing in Lean hashes anything: it is a label: what it is worth is what the hold of that sum in a sandbox is worth. -/
noncomputable def Try.pinned : Pinned := { name := "ytjnedgkpakoceaa", sum := "79b2e73ec501d2612c898808aa30c14be27997a476f40eb7010de0c76e704f3a", checked := Try.checked }
namespace Rows
def none {H : Type} : Left H := { results := [], args := [] }

/-- 'foghornlaw24.SumsLinear': WHATEVER THE INPUT: true; the input reads as it did. -/
def sumsLinearSpec : ChangeSpec := { name := "sumsLinear", fn := fun _ => fun
  | [d1, d2, d3] => { results := [.lit (.bool true)], args := [d1, d2, d3] }
  | _ => none }
def sumsLinearRow : OpenClaim := { program := "ytjnedgkpakoceaa", sum := "79b2e73ec501d2612c898808aa30c14be27997a476f40eb7010de0c76e704f3a", func := "foghorn/foghornlaw24.SumsLinear", spec := "sumsLinear", apart := false }
def SumsLinearSaid : Prop := sumsLinearRow.holds Try.pinned (OpenSpec.ofChange sumsLinearSpec)

/-- ITS FALSE NEIGHBOUR: 'it returns false'. Refute it at one input. -/
def sumsLinearWrong : ChangeSpec := { name := "sumsLinear", fn := fun _ => fun
  | [d1, d2, d3] => { results := [.lit (.bool false)], args := [d1, d2, d3] }
  | _ => none }
def SumsLinearWrongFalsely : Prop := sumsLinearRow.holds Try.pinned (OpenSpec.ofChange sumsLinearWrong)

/-- 'foghornlaw24.SumsBytes': WHATEVER THE INPUT: true; the input reads as it did. -/
def sumsBytesSpec : ChangeSpec := { name := "sumsBytes", fn := fun _ => fun
  | [d1, d2] => { results := [.lit (.bool true)], args := [d1, d2] }
  | _ => none }
def sumsBytesRow : OpenClaim := { program := "ytjnedgkpakoceaa", sum := "79b2e73ec501d2612c898808aa30c14be27997a476f40eb7010de0c76e704f3a", func := "foghorn/foghornlaw24.SumsBytes", spec := "sumsBytes", apart := false }
def SumsBytesSaid : Prop := sumsBytesRow.holds Try.pinned (OpenSpec.ofChange sumsBytesSpec)

/-- ITS FALSE NEIGHBOUR: 'it returns false'. Refute it at one input. -/
def sumsBytesWrong : ChangeSpec := { name := "sumsBytes", fn := fun _ => fun
  | [d1, d2] => { results := [.lit (.bool false)], args := [d1, d2] }
  | _ => none }
def SumsBytesWrongFalsely : Prop := sumsBytesRow.holds Try.pinned (OpenSpec.ofChange sumsBytesWrong)

/-- 'foghornlaw24.SumsBits': WHATEVER THE INPUT: true; the input reads as it did. -/
def sumsBitsSpec : ChangeSpec := { name := "sumsBits", fn := fun _ => fun
  | [d1, d2] => { results := [.lit (.bool true)], args := [d1, d2] }
  | _ => none }
def sumsBitsRow : OpenClaim := { program := "ytjnedgkpakoceaa", sum := "79b2e73ec501d2612c898808aa30c14be27997a476f40eb7010de0c76e704f3a", func := "foghorn/foghornlaw24.SumsBits", spec := "sumsBits", apart := false }
def SumsBitsSaid : Prop := sumsBitsRow.holds Try.pinned (OpenSpec.ofChange sumsBitsSpec)

/-- ITS FALSE NEIGHBOUR: 'it returns false'. Refute it at one input. -/
def sumsBitsWrong : ChangeSpec := { name := "sumsBits", fn := fun _ => fun
  | [d1, d2] => { results := [.lit (.bool false)], args := [d1, d2] }
  | _ => none }
def SumsBitsWrongFalsely : Prop := sumsBitsRow.holds Try.pinned (OpenSpec.ofChange sumsBitsWrong)

/-- 'foghornlaw24.SumsBursts': WHATEVER THE INPUT: true; the input reads as it did. -/
def sumsBurstsSpec : ChangeSpec := { name := "sumsBursts", fn := fun _ => fun
  | [d1, d2, d3] => { results := [.lit (.bool true)], args := [d1, d2, d3] }
  | _ => none }
def sumsBurstsRow : OpenClaim := { program := "ytjnedgkpakoceaa", sum := "79b2e73ec501d2612c898808aa30c14be27997a476f40eb7010de0c76e704f3a", func := "foghorn/foghornlaw24.SumsBursts", spec := "sumsBursts", apart := false }
def SumsBurstsSaid : Prop := sumsBurstsRow.holds Try.pinned (OpenSpec.ofChange sumsBurstsSpec)

/-- ITS FALSE NEIGHBOUR: 'it returns false'. Refute it at one input. -/
def sumsBurstsWrong : ChangeSpec := { name := "sumsBursts", fn := fun _ => fun
  | [d1, d2, d3] => { results := [.lit (.bool false)], args := [d1, d2, d3] }
  | _ => none }
def SumsBurstsWrongFalsely : Prop := sumsBurstsRow.holds Try.pinned (OpenSpec.ofChange sumsBurstsWrong)

/-- 'foghornlaw24.SumsNone': WHATEVER THE INPUT: true; the input reads as it did. -/
def sumsNoneSpec : ChangeSpec := { name := "sumsNone", fn := fun _ => fun
  | [] => { results := [.lit (.bool true)], args := [] }
  | _ => none }
def sumsNoneRow : OpenClaim := { program := "ytjnedgkpakoceaa", sum := "79b2e73ec501d2612c898808aa30c14be27997a476f40eb7010de0c76e704f3a", func := "foghorn/foghornlaw24.SumsNone", spec := "sumsNone", apart := false }
def SumsNoneSaid : Prop := sumsNoneRow.holds Try.pinned (OpenSpec.ofChange sumsNoneSpec)

/-- ITS FALSE NEIGHBOUR: 'it returns false'. Refute it at one input. -/
def sumsNoneWrong : ChangeSpec := { name := "sumsNone", fn := fun _ => fun
  | [] => { results := [.lit (.bool false)], args := [] }
  | _ => none }
def SumsNoneWrongFalsely : Prop := sumsNoneRow.holds Try.pinned (OpenSpec.ofChange sumsNoneWrong)

/- THE SECOND FORM. 'bulk': how many values and letters a reading holds, each counted each time it is reached (what is shared counts as often as it is met; a slice's spare places count too). A statement '..UptoSaid' is the law's where the arguments, and the package variables that the reading takes, are together of bulk at most 1048576: NARROWER than '..Said'. Prove '..Said' where nothing that the law and all that it calls make is longer than what came in: it says more and counts as full. Else prove '..UptoSaid'. A law counts once. -/
mutual
def uptoBulk {H : Type} : DataW H → Nat
  | .lit (.string bytes) => bytes.length + 1
  | .lit _ => 1
  | .nil => 1
  | .ptr d => uptoBulk d + 1
  | .slice elems spare => uptoBulkAll elems + uptoBulkAll spare + 1
  | .agg parts => uptoBulkAll parts + 1
  | .iface _ d => uptoBulk d + 1
  | .map entries => uptoBulkEntries entries + 1
  | .held _ => 1
def uptoBulkAll {H : Type} : List (DataW H) → Nat
  | [] => 0
  | d :: r => uptoBulk d + uptoBulkAll r
def uptoBulkEntries {H : Type} : List (Lit × DataW H) → Nat
  | [] => 0
  | x :: r => uptoBulkEntry x + uptoBulkEntries r
def uptoBulkEntry {H : Type} : Lit × DataW H → Nat
  | (.string bytes, d) => bytes.length + uptoBulk d + 1
  | (_, d) => uptoBulk d + 1
 end
def uptoSmall : (H : Type) → List (DataW H) → Bool := fun _ ds => decide (uptoBulkAll ds ≤ 1048576)
def OpenSpec.upto (s : _root_.Go.ChangeSpec) : _root_.Go.OpenSpec := { _root_.Go.OpenSpec.ofChange s with cond := some uptoSmall }

/-- 'foghornlaw24.SumsLinear', WHERE WHAT IT READS IS OF BULK AT MOST 1048576: true; the input reads as it did. -/
def sumsLinearUptoRow : OpenClaim := { program := "ytjnedgkpakoceaa", sum := "79b2e73ec501d2612c898808aa30c14be27997a476f40eb7010de0c76e704f3a", func := "foghorn/foghornlaw24.SumsLinear", spec := "sumsLinear", apart := false, narrowed := true }
def SumsLinearUptoSaid : Prop := sumsLinearUptoRow.holds Try.pinned (OpenSpec.upto sumsLinearSpec)

/-- 'foghornlaw24.SumsBytes', WHERE WHAT IT READS IS OF BULK AT MOST 1048576: true; the input reads as it did. -/
def sumsBytesUptoRow : OpenClaim := { program := "ytjnedgkpakoceaa", sum := "79b2e73ec501d2612c898808aa30c14be27997a476f40eb7010de0c76e704f3a", func := "foghorn/foghornlaw24.SumsBytes", spec := "sumsBytes", apart := false, narrowed := true }
def SumsBytesUptoSaid : Prop := sumsBytesUptoRow.holds Try.pinned (OpenSpec.upto sumsBytesSpec)

/-- 'foghornlaw24.SumsBits', WHERE WHAT IT READS IS OF BULK AT MOST 1048576: true; the input reads as it did. -/
def sumsBitsUptoRow : OpenClaim := { program := "ytjnedgkpakoceaa", sum := "79b2e73ec501d2612c898808aa30c14be27997a476f40eb7010de0c76e704f3a", func := "foghorn/foghornlaw24.SumsBits", spec := "sumsBits", apart := false, narrowed := true }
def SumsBitsUptoSaid : Prop := sumsBitsUptoRow.holds Try.pinned (OpenSpec.upto sumsBitsSpec)

/-- 'foghornlaw24.SumsBursts', WHERE WHAT IT READS IS OF BULK AT MOST 1048576: true; the input reads as it did. -/
def sumsBurstsUptoRow : OpenClaim := { program := "ytjnedgkpakoceaa", sum := "79b2e73ec501d2612c898808aa30c14be27997a476f40eb7010de0c76e704f3a", func := "foghorn/foghornlaw24.SumsBursts", spec := "sumsBursts", apart := false, narrowed := true }
def SumsBurstsUptoSaid : Prop := sumsBurstsUptoRow.holds Try.pinned (OpenSpec.upto sumsBurstsSpec)

/-- 'foghornlaw24.SumsNone', WHERE WHAT IT READS IS OF BULK AT MOST 1048576: true; the input reads as it did. -/
def sumsNoneUptoRow : OpenClaim := { program := "ytjnedgkpakoceaa", sum := "79b2e73ec501d2612c898808aa30c14be27997a476f40eb7010de0c76e704f3a", func := "foghorn/foghornlaw24.SumsNone", spec := "sumsNone", apart := false, narrowed := true }
def SumsNoneUptoSaid : Prop := sumsNoneUptoRow.holds Try.pinned (OpenSpec.upto sumsNoneSpec)

end Rows
end Go.Proofs.Ytjnedgkpakoceaa
