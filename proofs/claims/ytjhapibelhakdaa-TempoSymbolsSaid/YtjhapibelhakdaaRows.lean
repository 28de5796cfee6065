/-
  No cell of these rows narrows 'for every input' (looked for: loops, veiled, ifaces, maps, wideKeys, modest, calm, conditions, laid).
  DERIVED. THE GIVEN ROWS OF THIS SEAT. 7 by the template 'for every input the law returns true; each argument reads behind the call as it read before'; 0 by the template 'total and deterministic' (their statements: YtjhapibelhakdaaTotals.lean).
  GIVEN WITH THE SEED: the statements are not yours to turn. If you find one false, say at which input.
  Laid BY PROGRAM, IN A SANDBOX (cutbox-rows.mjs): the forced cells as the released guide's own fill.sh prints them over the translation be1433a73d853a14… (all of the seat's roots in one cut). By AI agents, Wed Nov 11 2026. No macro, syntax, notation, axiom, sorry.
-/
import Derived.Test.YtjhapibelhakdaaChecked
import GoSem.Claim
import GoSem.ClaimJoined
import GoSem.ClaimMapViews
import Derived.JoinedTies
import Derived.KernelRfl
namespace Go.Proofs.Ytjhapibelhakdaa
/- THE CELL 'sum', in the pinned program and in every row, IS THE sha256 OF THE DUMP (.gsa) THAT YtjhapibelhakdaaProg.lean LOADS. Nothing in Lean hashes anything: it is a label: what it is worth is what the hold of that sum in a sandbox is worth. -/
noncomputable def Try.pinned : Pinned := { name := "ytjhapibelhakdaa", sum := "be1433a73d853a14d0f3a011b918035f752597bb4a64a0b76b52298d844bce85", checked := Try.checked }
namespace Rows
def none {H : Type} : Left H := { results := [], args := [] }

/-- 'foghornlaw12.TempoInstants': WHATEVER THE INPUT: true; the input reads as it did. -/
def tempoInstantsSpec : ChangeSpec := { name := "tempoInstants", fn := fun _ => fun
  | [d] => { results := [.lit (.bool true)], args := [d] }
  | _ => none }
def tempoInstantsRow : OpenClaim := { program := "ytjhapibelhakdaa", sum := "be1433a73d853a14d0f3a011b918035f752597bb4a64a0b76b52298d844bce85", func := "foghorn/foghornlaw12.TempoInstants", spec := "tempoInstants", unfollowed := true, recurses := true, apart := false }
def TempoInstantsSaid : Prop := tempoInstantsRow.holds Try.pinned (OpenSpec.ofChange tempoInstantsSpec)

/-- ITS FALSE NEIGHBOUR: 'it returns false'. Refute it at one input. -/
def tempoInstantsWrong : ChangeSpec := { name := "tempoInstants", fn := fun _ => fun
  | [d] => { results := [.lit (.bool false)], args := [d] }
  | _ => none }
def TempoInstantsWrongFalsely : Prop := tempoInstantsRow.holds Try.pinned (OpenSpec.ofChange tempoInstantsWrong)

/-- 'foghornlaw12.TempoClocks': WHATEVER THE INPUT: true; the input reads as it did. -/
def tempoClocksSpec : ChangeSpec := { name := "tempoClocks", fn := fun _ => fun
  | [d1, d2, d3] => { results := [.lit (.bool true)], args := [d1, d2, d3] }
  | _ => none }
def tempoClocksRow : OpenClaim := { program := "ytjhapibelhakdaa", sum := "be1433a73d853a14d0f3a011b918035f752597bb4a64a0b76b52298d844bce85", func := "foghorn/foghornlaw12.TempoClocks", spec := "tempoClocks", inPlace := ["math.Float64bits"], unfollowed := true, recurses := true, apart := false }
def TempoClocksSaid : Prop := tempoClocksRow.holds Try.pinned (OpenSpec.ofChange tempoClocksSpec)

/-- ITS FALSE NEIGHBOUR: 'it returns false'. Refute it at one input. -/
def tempoClocksWrong : ChangeSpec := { name := "tempoClocks", fn := fun _ => fun
  | [d1, d2, d3] => { results := [.lit (.bool false)], args := [d1, d2, d3] }
  | _ => none }
def TempoClocksWrongFalsely : Prop := tempoClocksRow.holds Try.pinned (OpenSpec.ofChange tempoClocksWrong)

/-- 'foghornlaw12.TempoFound': WHATEVER THE INPUT: true; the input reads as it did. -/
def tempoFoundSpec : ChangeSpec := { name := "tempoFound", fn := fun _ => fun
  | [d] => { results := [.lit (.bool true)], args := [d] }
  | _ => none }
def tempoFoundRow : OpenClaim := { program := "ytjhapibelhakdaa", sum := "be1433a73d853a14d0f3a011b918035f752597bb4a64a0b76b52298d844bce85", func := "foghorn/foghornlaw12.TempoFound", spec := "tempoFound", unfollowed := true, recurses := true, apart := false }
def TempoFoundSaid : Prop := tempoFoundRow.holds Try.pinned (OpenSpec.ofChange tempoFoundSpec)

/-- ITS FALSE NEIGHBOUR: 'it returns false'. Refute it at one input. -/
def tempoFoundWrong : ChangeSpec := { name := "tempoFound", fn := fun _ => fun
  | [d] => { results := [.lit (.bool false)], args := [d] }
  | _ => none }
def TempoFoundWrongFalsely : Prop := tempoFoundRow.holds Try.pinned (OpenSpec.ofChange tempoFoundWrong)

/-- 'foghornlaw12.TempoSlips': WHATEVER THE INPUT: true; the input reads as it did. -/
def tempoSlipsSpec : ChangeSpec := { name := "tempoSlips", fn := fun _ => fun
  | [d1, d2, d3] => { results := [.lit (.bool true)], args := [d1, d2, d3] }
  | _ => none }
def tempoSlipsRow : OpenClaim := { program := "ytjhapibelhakdaa", sum := "be1433a73d853a14d0f3a011b918035f752597bb4a64a0b76b52298d844bce85", func := "foghorn/foghornlaw12.TempoSlips", spec := "tempoSlips", inPlace := ["math.Float64bits"], unfollowed := true, recurses := true, apart := false }
def TempoSlipsSaid : Prop := tempoSlipsRow.holds Try.pinned (OpenSpec.ofChange tempoSlipsSpec)

/-- ITS FALSE NEIGHBOUR: 'it returns false'. Refute it at one input. -/
def tempoSlipsWrong : ChangeSpec := { name := "tempoSlips", fn := fun _ => fun
  | [d1, d2, d3] => { results := [.lit (.bool false)], args := [d1, d2, d3] }
  | _ => none }
def TempoSlipsWrongFalsely : Prop := tempoSlipsRow.holds Try.pinned (OpenSpec.ofChange tempoSlipsWrong)

/-- 'foghornlaw12.TempoPhases': WHATEVER THE INPUT: true; the input reads as it did. -/
def tempoPhasesSpec : ChangeSpec := { name := "tempoPhases", fn := fun _ => fun
  | [d1, d2] => { results := [.lit (.bool true)], args := [d1, d2] }
  | _ => none }
def tempoPhasesRow : OpenClaim := { program := "ytjhapibelhakdaa", sum := "be1433a73d853a14d0f3a011b918035f752597bb4a64a0b76b52298d844bce85", func := "foghorn/foghornlaw12.TempoPhases", spec := "tempoPhases", inPlace := ["math.Float64bits"], unfollowed := true, recurses := true, apart := false }
def TempoPhasesSaid : Prop := tempoPhasesRow.holds Try.pinned (OpenSpec.ofChange tempoPhasesSpec)

/-- ITS FALSE NEIGHBOUR: 'it returns false'. Refute it at one input. -/
def tempoPhasesWrong : ChangeSpec := { name := "tempoPhases", fn := fun _ => fun
  | [d1, d2] => { results := [.lit (.bool false)], args := [d1, d2] }
  | _ => none }
def TempoPhasesWrongFalsely : Prop := tempoPhasesRow.holds Try.pinned (OpenSpec.ofChange tempoPhasesWrong)

/-- 'foghornlaw12.TempoSymbols': WHATEVER THE INPUT: true; the input reads as it did. -/
def tempoSymbolsSpec : ChangeSpec := { name := "tempoSymbols", fn := fun _ => fun
  | [d1, d2] => { results := [.lit (.bool true)], args := [d1, d2] }
  | _ => none }
def tempoSymbolsRow : OpenClaim := { program := "ytjhapibelhakdaa", sum := "be1433a73d853a14d0f3a011b918035f752597bb4a64a0b76b52298d844bce85", func := "foghorn/foghornlaw12.TempoSymbols", spec := "tempoSymbols", unfollowed := true, recurses := true, apart := false }
def TempoSymbolsSaid : Prop := tempoSymbolsRow.holds Try.pinned (OpenSpec.ofChange tempoSymbolsSpec)

/-- ITS FALSE NEIGHBOUR: 'it returns false'. Refute it at one input. -/
def tempoSymbolsWrong : ChangeSpec := { name := "tempoSymbols", fn := fun _ => fun
  | [d1, d2] => { results := [.lit (.bool false)], args := [d1, d2] }
  | _ => none }
def TempoSymbolsWrongFalsely : Prop := tempoSymbolsRow.holds Try.pinned (OpenSpec.ofChange tempoSymbolsWrong)

/-- 'foghornlaw12.TempoNone': WHATEVER THE INPUT: true; the input reads as it did. -/
def tempoNoneSpec : ChangeSpec := { name := "tempoNone", fn := fun _ => fun
  | [] => { results := [.lit (.bool true)], args := [] }
  | _ => none }
def tempoNoneRow : OpenClaim := { program := "ytjhapibelhakdaa", sum := "be1433a73d853a14d0f3a011b918035f752597bb4a64a0b76b52298d844bce85", func := "foghorn/foghornlaw12.TempoNone", spec := "tempoNone", unfollowed := true, recurses := true, apart := false }
def TempoNoneSaid : Prop := tempoNoneRow.holds Try.pinned (OpenSpec.ofChange tempoNoneSpec)

/-- ITS FALSE NEIGHBOUR: 'it returns false'. Refute it at one input. -/
def tempoNoneWrong : ChangeSpec := { name := "tempoNone", fn := fun _ => fun
  | [] => { results := [.lit (.bool false)], args := [] }
  | _ => none }
def TempoNoneWrongFalsely : Prop := tempoNoneRow.holds Try.pinned (OpenSpec.ofChange tempoNoneWrong)

/- THE SECOND FORM. 'bulk': how many values and letters a reading holds, each counted each time it is reached (what is shared counts as often as it is met; a slice's spare places count too). A statement '..UptoSaid' is the law's where the arguments, and the package variables that the reading takes, are together of bulk at most 1048576: NARROWER than '..Said'. Prove '..Said' where nothing that the law and all that it calls make is longer than what came in: it says more and counts as full. Else prove '..UptoSaid'. A law counts once. -/
mutual
def uptoBulk {H : Type} : DataW H → Nat
  | .lit (.string bytes) => bytes.length + 1
  | .lit _ => 1
  | .nil => 1
  | .ptr d => uptoBulk d + 1
  | .slice elems spare => uptoBulkAll elems + uptoBulkAll spare + 1
  | .agg parts => uptoBulkAll parts + 1
  | .iface _ d => uptoBulk d + 1
  | .map entries => uptoBulkEntries entries + 1
  | .held _ => 1
def uptoBulkAll {H : Type} : List (DataW H) → Nat
  | [] => 0
  | d :: r => uptoBulk d + uptoBulkAll r
def uptoBulkEntries {H : Type} : List (Lit × DataW H) → Nat
  | [] => 0
  | x :: r => uptoBulkEntry x + uptoBulkEntries r
def uptoBulkEntry {H : Type} : Lit × DataW H → Nat
  | (.string bytes, d) => bytes.length + uptoBulk d + 1
  | (_, d) => uptoBulk d + 1
 end
def uptoSmall : (H : Type) → List (DataW H) → Bool := fun _ ds => decide (uptoBulkAll ds ≤ 1048576)
def OpenSpec.upto (s : _root_.Go.ChangeSpec) : _root_.Go.OpenSpec := { _root_.Go.OpenSpec.ofChange s with cond := some uptoSmall }

/-- 'foghornlaw12.TempoInstants', WHERE WHAT IT READS IS OF BULK AT MOST 1048576: true; the input reads as it did. -/
def tempoInstantsUptoRow : OpenClaim := { program := "ytjhapibelhakdaa", sum := "be1433a73d853a14d0f3a011b918035f752597bb4a64a0b76b52298d844bce85", func := "foghorn/foghornlaw12.TempoInstants", spec := "tempoInstants", unfollowed := true, recurses := true, apart := false, narrowed := true }
def TempoInstantsUptoSaid : Prop := tempoInstantsUptoRow.holds Try.pinned (OpenSpec.upto tempoInstantsSpec)

/-- 'foghornlaw12.TempoClocks', WHERE WHAT IT READS IS OF BULK AT MOST 1048576: true; the input reads as it did. -/
def tempoClocksUptoRow : OpenClaim := { program := "ytjhapibelhakdaa", sum := "be1433a73d853a14d0f3a011b918035f752597bb4a64a0b76b52298d844bce85", func := "foghorn/foghornlaw12.TempoClocks", spec := "tempoClocks", inPlace := ["math.Float64bits"], unfollowed := true, recurses := true, apart := false, narrowed := true }
def TempoClocksUptoSaid : Prop := tempoClocksUptoRow.holds Try.pinned (OpenSpec.upto tempoClocksSpec)

/-- 'foghornlaw12.TempoFound', WHERE WHAT IT READS IS OF BULK AT MOST 1048576: true; the input reads as it did. -/
def tempoFoundUptoRow : OpenClaim := { program := "ytjhapibelhakdaa", sum := "be1433a73d853a14d0f3a011b918035f752597bb4a64a0b76b52298d844bce85", func := "foghorn/foghornlaw12.TempoFound", spec := "tempoFound", unfollowed := true, recurses := true, apart := false, narrowed := true }
def TempoFoundUptoSaid : Prop := tempoFoundUptoRow.holds Try.pinned (OpenSpec.upto tempoFoundSpec)

/-- 'foghornlaw12.TempoSlips', WHERE WHAT IT READS IS OF BULK AT MOST 1048576: true; the input reads as it did. -/
def tempoSlipsUptoRow : OpenClaim := { program := "ytjhapibelhakdaa", sum := "be1433a73d853a14d0f3a011b918035f752597bb4a64a0b76b52298d844bce85", func := "foghorn/foghornlaw12.TempoSlips", spec := "tempoSlips", inPlace := ["math.Float64bits"], unfollowed := true, recurses := true, apart := false, narrowed := true }
def TempoSlipsUptoSaid : Prop := tempoSlipsUptoRow.holds Try.pinned (OpenSpec.upto tempoSlipsSpec)

/-- 'foghornlaw12.TempoPhases', WHERE WHAT IT READS IS OF BULK AT MOST 1048576: true; the input reads as it did. -/
def tempoPhasesUptoRow : OpenClaim := { program := "ytjhapibelhakdaa", sum := "be1433a73d853a14d0f3a011b918035f752597bb4a64a0b76b52298d844bce85", func := "foghorn/foghornlaw12.TempoPhases", spec := "tempoPhases", inPlace := ["math.Float64bits"], unfollowed := true, recurses := true, apart := false, narrowed := true }
def TempoPhasesUptoSaid : Prop := tempoPhasesUptoRow.holds Try.pinned (OpenSpec.upto tempoPhasesSpec)

/-- 'foghornlaw12.TempoSymbols', WHERE WHAT IT READS IS OF BULK AT MOST 1048576: true; the input reads as it did. -/
def tempoSymbolsUptoRow : OpenClaim := { program := "ytjhapibelhakdaa", sum := "be1433a73d853a14d0f3a011b918035f752597bb4a64a0b76b52298d844bce85", func := "foghorn/foghornlaw12.TempoSymbols", spec := "tempoSymbols", unfollowed := true, recurses := true, apart := false, narrowed := true }
def TempoSymbolsUptoSaid : Prop := tempoSymbolsUptoRow.holds Try.pinned (OpenSpec.upto tempoSymbolsSpec)

/-- 'foghornlaw12.TempoNone', WHERE WHAT IT READS IS OF BULK AT MOST 1048576: true; the input reads as it did. -/
def tempoNoneUptoRow : OpenClaim := { program := "ytjhapibelhakdaa", sum := "be1433a73d853a14d0f3a011b918035f752597bb4a64a0b76b52298d844bce85", func := "foghorn/foghornlaw12.TempoNone", spec := "tempoNone", unfollowed := true, recurses := true, apart := false, narrowed := true }
def TempoNoneUptoSaid : Prop := tempoNoneUptoRow.holds Try.pinned (OpenSpec.upto tempoNoneSpec)

end Rows
end Go.Proofs.Ytjhapibelhakdaa
