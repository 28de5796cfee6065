/-
  No cell of these rows narrows 'for every input' (looked for: loops, veiled, ifaces, maps, wideKeys, modest, calm, conditions, laid).
  DERIVED. THE GIVEN ROWS OF THIS SEAT. 11 by the template 'for every input the law returns true; each argument reads behind the call as it read before'; 0 by the template 'total and deterministic' (their statements: YtabjfehhibeeiaaTotals.lean).
  GIVEN WITH THE SEED: the statements are not yours to turn. If you find one false, say at which input.
  Laid BY PROGRAM, IN A SANDBOX (cutbox-rows.mjs): the forced cells as the released guide's own fill.sh prints them over the translation 8897e572871a94f9… (all of the seat's roots in one cut). By AI agents, Wed Nov 11 2026. No macro, syntax, notation, axiom, sorry.
-/
import Derived.Test.YtabjfehhibeeiaaChecked
import GoSem.Claim
import GoSem.ClaimJoined
import GoSem.ClaimMapViews
import Derived.JoinedTies
import Derived.KernelRfl
namespace Go.Proofs.Ytabjfehhibeeiaa
/- THE CELL 'sum', in the pinned program and in every row, IS THE sha256 OF THE DUMP (.gsa) THAT YtabjfehhibeeiaaProg.lean LOADS. Nothing in Lean hashes anything: it is a label: what it is worth is what the hold of that sum in a sandbox is worth. -/
noncomputable def Try.pinned : Pinned := { name := "ytabjfehhibeeiaa", sum := "8897e572871a94f90951bdf585d1041cf15a5318ae8c2a9a7c51aeee67fb388e", checked := Try.checked }
namespace Rows
def none {H : Type} : Left H := { results := [], args := [] }

/-- 'foghornlaw01.BitsGray': WHATEVER THE INPUT: true; the input reads as it did. -/
def bitsGraySpec : ChangeSpec := { name := "bitsGray", fn := fun _ => fun
  | [d] => { results := [.lit (.bool true)], args := [d] }
  | _ => none }
def bitsGrayRow : OpenClaim := { program := "ytabjfehhibeeiaa", sum := "8897e572871a94f90951bdf585d1041cf15a5318ae8c2a9a7c51aeee67fb388e", func := "foghorn/foghornlaw01.BitsGray", spec := "bitsGray", apart := false }
def BitsGraySaid : Prop := bitsGrayRow.holds Try.pinned (OpenSpec.ofChange bitsGraySpec)

/-- ITS FALSE NEIGHBOUR: 'it returns false'. Refute it at one input. -/
def bitsGrayWrong : ChangeSpec := { name := "bitsGray", fn := fun _ => fun
  | [d] => { results := [.lit (.bool false)], args := [d] }
  | _ => none }
def BitsGrayWrongFalsely : Prop := bitsGrayRow.holds Try.pinned (OpenSpec.ofChange bitsGrayWrong)

/-- 'foghornlaw01.BitsPieces': WHATEVER THE INPUT: true; the input reads as it did. -/
def bitsPiecesSpec : ChangeSpec := { name := "bitsPieces", fn := fun _ => fun
  | [d1, d2, d3] => { results := [.lit (.bool true)], args := [d1, d2, d3] }
  | _ => none }
def bitsPiecesRow : OpenClaim := { program := "ytabjfehhibeeiaa", sum := "8897e572871a94f90951bdf585d1041cf15a5318ae8c2a9a7c51aeee67fb388e", func := "foghorn/foghornlaw01.BitsPieces", spec := "bitsPieces", unfollowed := true, recurses := true, apart := false }
def BitsPiecesSaid : Prop := bitsPiecesRow.holds Try.pinned (OpenSpec.ofChange bitsPiecesSpec)

/-- ITS FALSE NEIGHBOUR: 'it returns false'. Refute it at one input. -/
def bitsPiecesWrong : ChangeSpec := { name := "bitsPieces", fn := fun _ => fun
  | [d1, d2, d3] => { results := [.lit (.bool false)], args := [d1, d2, d3] }
  | _ => none }
def BitsPiecesWrongFalsely : Prop := bitsPiecesRow.holds Try.pinned (OpenSpec.ofChange bitsPiecesWrong)

/-- 'foghornlaw01.BitsPairs': WHATEVER THE INPUT: true; the input reads as it did. -/
def bitsPairsSpec : ChangeSpec := { name := "bitsPairs", fn := fun _ => fun
  | [d1, d2, d3] => { results := [.lit (.bool true)], args := [d1, d2, d3] }
  | _ => none }
def bitsPairsRow : OpenClaim := { program := "ytabjfehhibeeiaa", sum := "8897e572871a94f90951bdf585d1041cf15a5318ae8c2a9a7c51aeee67fb388e", func := "foghorn/foghornlaw01.BitsPairs", spec := "bitsPairs", apart := false }
def BitsPairsSaid : Prop := bitsPairsRow.holds Try.pinned (OpenSpec.ofChange bitsPairsSpec)

/-- ITS FALSE NEIGHBOUR: 'it returns false'. Refute it at one input. -/
def bitsPairsWrong : ChangeSpec := { name := "bitsPairs", fn := fun _ => fun
  | [d1, d2, d3] => { results := [.lit (.bool false)], args := [d1, d2, d3] }
  | _ => none }
def BitsPairsWrongFalsely : Prop := bitsPairsRow.holds Try.pinned (OpenSpec.ofChange bitsPairsWrong)

/-- 'foghornlaw01.BitsTexts': WHATEVER THE INPUT: true; the input reads as it did. -/
def bitsTextsSpec : ChangeSpec := { name := "bitsTexts", fn := fun _ => fun
  | [d1, d2] => { results := [.lit (.bool true)], args := [d1, d2] }
  | _ => none }
def bitsTextsRow : OpenClaim := { program := "ytabjfehhibeeiaa", sum := "8897e572871a94f90951bdf585d1041cf15a5318ae8c2a9a7c51aeee67fb388e", func := "foghorn/foghornlaw01.BitsTexts", spec := "bitsTexts", inPlace := ["internal/abi.NoEscape"], apart := false }
def BitsTextsSaid : Prop := bitsTextsRow.holds Try.pinned (OpenSpec.ofChange bitsTextsSpec)

/-- ITS FALSE NEIGHBOUR: 'it returns false'. Refute it at one input. -/
def bitsTextsWrong : ChangeSpec := { name := "bitsTexts", fn := fun _ => fun
  | [d1, d2] => { results := [.lit (.bool false)], args := [d1, d2] }
  | _ => none }
def BitsTextsWrongFalsely : Prop := bitsTextsRow.holds Try.pinned (OpenSpec.ofChange bitsTextsWrong)

/-- 'foghornlaw01.BitsRows': WHATEVER THE INPUT: true; the input reads as it did. -/
def bitsRowsSpec : ChangeSpec := { name := "bitsRows", fn := fun _ => fun
  | [d1, d2, d3, d4] => { results := [.lit (.bool true)], args := [d1, d2, d3, d4] }
  | _ => none }
def bitsRowsRow : OpenClaim := { program := "ytabjfehhibeeiaa", sum := "8897e572871a94f90951bdf585d1041cf15a5318ae8c2a9a7c51aeee67fb388e", func := "foghorn/foghornlaw01.BitsRows", spec := "bitsRows", unfollowed := true, recurses := true, apart := false }
def BitsRowsSaid : Prop := bitsRowsRow.holds Try.pinned (OpenSpec.ofChange bitsRowsSpec)

/-- ITS FALSE NEIGHBOUR: 'it returns false'. Refute it at one input. -/
def bitsRowsWrong : ChangeSpec := { name := "bitsRows", fn := fun _ => fun
  | [d1, d2, d3, d4] => { results := [.lit (.bool false)], args := [d1, d2, d3, d4] }
  | _ => none }
def BitsRowsWrongFalsely : Prop := bitsRowsRow.holds Try.pinned (OpenSpec.ofChange bitsRowsWrong)

/-- 'foghornlaw01.BitsRing': WHATEVER THE INPUT: true; the input reads as it did. -/
def bitsRingSpec : ChangeSpec := { name := "bitsRing", fn := fun _ => fun
  | [] => { results := [.lit (.bool true)], args := [] }
  | _ => none }
def bitsRingRow : OpenClaim := { program := "ytabjfehhibeeiaa", sum := "8897e572871a94f90951bdf585d1041cf15a5318ae8c2a9a7c51aeee67fb388e", func := "foghorn/foghornlaw01.BitsRing", spec := "bitsRing", inPlace := ["internal/abi.NoEscape"], unfollowed := true, recurses := true, apart := false }
def BitsRingSaid : Prop := bitsRingRow.holds Try.pinned (OpenSpec.ofChange bitsRingSpec)

/-- ITS FALSE NEIGHBOUR: 'it returns false'. Refute it at one input. -/
def bitsRingWrong : ChangeSpec := { name := "bitsRing", fn := fun _ => fun
  | [] => { results := [.lit (.bool false)], args := [] }
  | _ => none }
def BitsRingWrongFalsely : Prop := bitsRingRow.holds Try.pinned (OpenSpec.ofChange bitsRingWrong)

/-- 'foghornlaw01.BitsCuts': WHATEVER THE INPUT: true; the input reads as it did. -/
def bitsCutsSpec : ChangeSpec := { name := "bitsCuts", fn := fun _ => fun
  | [d1, d2] => { results := [.lit (.bool true)], args := [d1, d2] }
  | _ => none }
def bitsCutsRow : OpenClaim := { program := "ytabjfehhibeeiaa", sum := "8897e572871a94f90951bdf585d1041cf15a5318ae8c2a9a7c51aeee67fb388e", func := "foghorn/foghornlaw01.BitsCuts", spec := "bitsCuts", inPlace := ["internal/abi.NoEscape"], unfollowed := true, recurses := true, apart := false }
def BitsCutsSaid : Prop := bitsCutsRow.holds Try.pinned (OpenSpec.ofChange bitsCutsSpec)

/-- ITS FALSE NEIGHBOUR: 'it returns false'. Refute it at one input. -/
def bitsCutsWrong : ChangeSpec := { name := "bitsCuts", fn := fun _ => fun
  | [d1, d2] => { results := [.lit (.bool false)], args := [d1, d2] }
  | _ => none }
def BitsCutsWrongFalsely : Prop := bitsCutsRow.holds Try.pinned (OpenSpec.ofChange bitsCutsWrong)

/-- 'foghornlaw01.BitsMetric': WHATEVER THE INPUT: true; the input reads as it did. -/
def bitsMetricSpec : ChangeSpec := { name := "bitsMetric", fn := fun _ => fun
  | [d1, d2, d3] => { results := [.lit (.bool true)], args := [d1, d2, d3] }
  | _ => none }
def bitsMetricRow : OpenClaim := { program := "ytabjfehhibeeiaa", sum := "8897e572871a94f90951bdf585d1041cf15a5318ae8c2a9a7c51aeee67fb388e", func := "foghorn/foghornlaw01.BitsMetric", spec := "bitsMetric", inPlace := ["internal/abi.NoEscape"], unfollowed := true, recurses := true, apart := false }
def BitsMetricSaid : Prop := bitsMetricRow.holds Try.pinned (OpenSpec.ofChange bitsMetricSpec)

/-- ITS FALSE NEIGHBOUR: 'it returns false'. Refute it at one input. -/
def bitsMetricWrong : ChangeSpec := { name := "bitsMetric", fn := fun _ => fun
  | [d1, d2, d3] => { results := [.lit (.bool false)], args := [d1, d2, d3] }
  | _ => none }
def BitsMetricWrongFalsely : Prop := bitsMetricRow.holds Try.pinned (OpenSpec.ofChange bitsMetricWrong)

/-- 'foghornlaw01.BitsGrays': WHATEVER THE INPUT: true; the input reads as it did. -/
def bitsGraysSpec : ChangeSpec := { name := "bitsGrays", fn := fun _ => fun
  | [d] => { results := [.lit (.bool true)], args := [d] }
  | _ => none }
def bitsGraysRow : OpenClaim := { program := "ytabjfehhibeeiaa", sum := "8897e572871a94f90951bdf585d1041cf15a5318ae8c2a9a7c51aeee67fb388e", func := "foghorn/foghornlaw01.BitsGrays", spec := "bitsGrays", inPlace := ["internal/abi.NoEscape"], unfollowed := true, recurses := true, apart := false }
def BitsGraysSaid : Prop := bitsGraysRow.holds Try.pinned (OpenSpec.ofChange bitsGraysSpec)

/-- ITS FALSE NEIGHBOUR: 'it returns false'. Refute it at one input. -/
def bitsGraysWrong : ChangeSpec := { name := "bitsGrays", fn := fun _ => fun
  | [d] => { results := [.lit (.bool false)], args := [d] }
  | _ => none }
def BitsGraysWrongFalsely : Prop := bitsGraysRow.holds Try.pinned (OpenSpec.ofChange bitsGraysWrong)

/-- 'foghornlaw01.BitsBack': WHATEVER THE INPUT: true; the input reads as it did. -/
def bitsBackSpec : ChangeSpec := { name := "bitsBack", fn := fun _ => fun
  | [d1, d2, d3] => { results := [.lit (.bool true)], args := [d1, d2, d3] }
  | _ => none }
def bitsBackRow : OpenClaim := { program := "ytabjfehhibeeiaa", sum := "8897e572871a94f90951bdf585d1041cf15a5318ae8c2a9a7c51aeee67fb388e", func := "foghorn/foghornlaw01.BitsBack", spec := "bitsBack", inPlace := ["internal/abi.NoEscape"], unfollowed := true, recurses := true, apart := false }
def BitsBackSaid : Prop := bitsBackRow.holds Try.pinned (OpenSpec.ofChange bitsBackSpec)

/-- ITS FALSE NEIGHBOUR: 'it returns false'. Refute it at one input. -/
def bitsBackWrong : ChangeSpec := { name := "bitsBack", fn := fun _ => fun
  | [d1, d2, d3] => { results := [.lit (.bool false)], args := [d1, d2, d3] }
  | _ => none }
def BitsBackWrongFalsely : Prop := bitsBackRow.holds Try.pinned (OpenSpec.ofChange bitsBackWrong)

/-- 'foghornlaw01.BitsNames': WHATEVER THE INPUT: true; the input reads as it did. -/
def bitsNamesSpec : ChangeSpec := { name := "bitsNames", fn := fun _ => fun
  | [] => { results := [.lit (.bool true)], args := [] }
  | _ => none }
def bitsNamesRow : OpenClaim := { program := "ytabjfehhibeeiaa", sum := "8897e572871a94f90951bdf585d1041cf15a5318ae8c2a9a7c51aeee67fb388e", func := "foghorn/foghornlaw01.BitsNames", spec := "bitsNames", inPlace := ["internal/abi.NoEscape"], unfollowed := true, recurses := true, apart := false }
def BitsNamesSaid : Prop := bitsNamesRow.holds Try.pinned (OpenSpec.ofChange bitsNamesSpec)

/-- ITS FALSE NEIGHBOUR: 'it returns false'. Refute it at one input. -/
def bitsNamesWrong : ChangeSpec := { name := "bitsNames", fn := fun _ => fun
  | [] => { results := [.lit (.bool false)], args := [] }
  | _ => none }
def BitsNamesWrongFalsely : Prop := bitsNamesRow.holds Try.pinned (OpenSpec.ofChange bitsNamesWrong)

/- THE SECOND FORM. 'bulk': how many values and letters a reading holds, each counted each time it is reached (what is shared counts as often as it is met; a slice's spare places count too). A statement '..UptoSaid' is the law's where the arguments, and the package variables that the reading takes, are together of bulk at most 1048576: NARROWER than '..Said'. Prove '..Said' where nothing that the law and all that it calls make is longer than what came in: it says more and counts as full. Else prove '..UptoSaid'. A law counts once. -/
mutual
def uptoBulk {H : Type} : DataW H → Nat
  | .lit (.string bytes) => bytes.length + 1
  | .lit _ => 1
  | .nil => 1
  | .ptr d => uptoBulk d + 1
  | .slice elems spare => uptoBulkAll elems + uptoBulkAll spare + 1
  | .agg parts => uptoBulkAll parts + 1
  | .iface _ d => uptoBulk d + 1
  | .map entries => uptoBulkEntries entries + 1
  | .held _ => 1
def uptoBulkAll {H : Type} : List (DataW H) → Nat
  | [] => 0
  | d :: r => uptoBulk d + uptoBulkAll r
def uptoBulkEntries {H : Type} : List (Lit × DataW H) → Nat
  | [] => 0
  | x :: r => uptoBulkEntry x + uptoBulkEntries r
def uptoBulkEntry {H : Type} : Lit × DataW H → Nat
  | (.string bytes, d) => bytes.length + uptoBulk d + 1
  | (_, d) => uptoBulk d + 1
 end
def uptoSmall : (H : Type) → List (DataW H) → Bool := fun _ ds => decide (uptoBulkAll ds ≤ 1048576)
def OpenSpec.upto (s : _root_.Go.ChangeSpec) : _root_.Go.OpenSpec := { _root_.Go.OpenSpec.ofChange s with cond := some uptoSmall }

/-- 'foghornlaw01.BitsGray', WHERE WHAT IT READS IS OF BULK AT MOST 1048576: true; the input reads as it did. -/
def bitsGrayUptoRow : OpenClaim := { program := "ytabjfehhibeeiaa", sum := "8897e572871a94f90951bdf585d1041cf15a5318ae8c2a9a7c51aeee67fb388e", func := "foghorn/foghornlaw01.BitsGray", spec := "bitsGray", apart := false, narrowed := true }
def BitsGrayUptoSaid : Prop := bitsGrayUptoRow.holds Try.pinned (OpenSpec.upto bitsGraySpec)

/-- 'foghornlaw01.BitsPieces', WHERE WHAT IT READS IS OF BULK AT MOST 1048576: true; the input reads as it did. -/
def bitsPiecesUptoRow : OpenClaim := { program := "ytabjfehhibeeiaa", sum := "8897e572871a94f90951bdf585d1041cf15a5318ae8c2a9a7c51aeee67fb388e", func := "foghorn/foghornlaw01.BitsPieces", spec := "bitsPieces", unfollowed := true, recurses := true, apart := false, narrowed := true }
def BitsPiecesUptoSaid : Prop := bitsPiecesUptoRow.holds Try.pinned (OpenSpec.upto bitsPiecesSpec)

/-- 'foghornlaw01.BitsPairs', WHERE WHAT IT READS IS OF BULK AT MOST 1048576: true; the input reads as it did. -/
def bitsPairsUptoRow : OpenClaim := { program := "ytabjfehhibeeiaa", sum := "8897e572871a94f90951bdf585d1041cf15a5318ae8c2a9a7c51aeee67fb388e", func := "foghorn/foghornlaw01.BitsPairs", spec := "bitsPairs", apart := false, narrowed := true }
def BitsPairsUptoSaid : Prop := bitsPairsUptoRow.holds Try.pinned (OpenSpec.upto bitsPairsSpec)

/-- 'foghornlaw01.BitsTexts', WHERE WHAT IT READS IS OF BULK AT MOST 1048576: true; the input reads as it did. -/
def bitsTextsUptoRow : OpenClaim := { program := "ytabjfehhibeeiaa", sum := "8897e572871a94f90951bdf585d1041cf15a5318ae8c2a9a7c51aeee67fb388e", func := "foghorn/foghornlaw01.BitsTexts", spec := "bitsTexts", inPlace := ["internal/abi.NoEscape"], apart := false, narrowed := true }
def BitsTextsUptoSaid : Prop := bitsTextsUptoRow.holds Try.pinned (OpenSpec.upto bitsTextsSpec)

/-- 'foghornlaw01.BitsRows', WHERE WHAT IT READS IS OF BULK AT MOST 1048576: true; the input reads as it did. -/
def bitsRowsUptoRow : OpenClaim := { program := "ytabjfehhibeeiaa", sum := "8897e572871a94f90951bdf585d1041cf15a5318ae8c2a9a7c51aeee67fb388e", func := "foghorn/foghornlaw01.BitsRows", spec := "bitsRows", unfollowed := true, recurses := true, apart := false, narrowed := true }
def BitsRowsUptoSaid : Prop := bitsRowsUptoRow.holds Try.pinned (OpenSpec.upto bitsRowsSpec)

/-- 'foghornlaw01.BitsRing', WHERE WHAT IT READS IS OF BULK AT MOST 1048576: true; the input reads as it did. -/
def bitsRingUptoRow : OpenClaim := { program := "ytabjfehhibeeiaa", sum := "8897e572871a94f90951bdf585d1041cf15a5318ae8c2a9a7c51aeee67fb388e", func := "foghorn/foghornlaw01.BitsRing", spec := "bitsRing", inPlace := ["internal/abi.NoEscape"], unfollowed := true, recurses := true, apart := false, narrowed := true }
def BitsRingUptoSaid : Prop := bitsRingUptoRow.holds Try.pinned (OpenSpec.upto bitsRingSpec)

/-- 'foghornlaw01.BitsCuts', WHERE WHAT IT READS IS OF BULK AT MOST 1048576: true; the input reads as it did. -/
def bitsCutsUptoRow : OpenClaim := { program := "ytabjfehhibeeiaa", sum := "8897e572871a94f90951bdf585d1041cf15a5318ae8c2a9a7c51aeee67fb388e", func := "foghorn/foghornlaw01.BitsCuts", spec := "bitsCuts", inPlace := ["internal/abi.NoEscape"], unfollowed := true, recurses := true, apart := false, narrowed := true }
def BitsCutsUptoSaid : Prop := bitsCutsUptoRow.holds Try.pinned (OpenSpec.upto bitsCutsSpec)

/-- 'foghornlaw01.BitsMetric', WHERE WHAT IT READS IS OF BULK AT MOST 1048576: true; the input reads as it did. -/
def bitsMetricUptoRow : OpenClaim := { program := "ytabjfehhibeeiaa", sum := "8897e572871a94f90951bdf585d1041cf15a5318ae8c2a9a7c51aeee67fb388e", func := "foghorn/foghornlaw01.BitsMetric", spec := "bitsMetric", inPlace := ["internal/abi.NoEscape"], unfollowed := true, recurses := true, apart := false, narrowed := true }
def BitsMetricUptoSaid : Prop := bitsMetricUptoRow.holds Try.pinned (OpenSpec.upto bitsMetricSpec)

/-- 'foghornlaw01.BitsGrays', WHERE WHAT IT READS IS OF BULK AT MOST 1048576: true; the input reads as it did. -/
def bitsGraysUptoRow : OpenClaim := { program := "ytabjfehhibeeiaa", sum := "8897e572871a94f90951bdf585d1041cf15a5318ae8c2a9a7c51aeee67fb388e", func := "foghorn/foghornlaw01.BitsGrays", spec := "bitsGrays", inPlace := ["internal/abi.NoEscape"], unfollowed := true, recurses := true, apart := false, narrowed := true }
def BitsGraysUptoSaid : Prop := bitsGraysUptoRow.holds Try.pinned (OpenSpec.upto bitsGraysSpec)

/-- 'foghornlaw01.BitsBack', WHERE WHAT IT READS IS OF BULK AT MOST 1048576: true; the input reads as it did. -/
def bitsBackUptoRow : OpenClaim := { program := "ytabjfehhibeeiaa", sum := "8897e572871a94f90951bdf585d1041cf15a5318ae8c2a9a7c51aeee67fb388e", func := "foghorn/foghornlaw01.BitsBack", spec := "bitsBack", inPlace := ["internal/abi.NoEscape"], unfollowed := true, recurses := true, apart := false, narrowed := true }
def BitsBackUptoSaid : Prop := bitsBackUptoRow.holds Try.pinned (OpenSpec.upto bitsBackSpec)

/-- 'foghornlaw01.BitsNames', WHERE WHAT IT READS IS OF BULK AT MOST 1048576: true; the input reads as it did. -/
def bitsNamesUptoRow : OpenClaim := { program := "ytabjfehhibeeiaa", sum := "8897e572871a94f90951bdf585d1041cf15a5318ae8c2a9a7c51aeee67fb388e", func := "foghorn/foghornlaw01.BitsNames", spec := "bitsNames", inPlace := ["internal/abi.NoEscape"], unfollowed := true, recurses := true, apart := false, narrowed := true }
def BitsNamesUptoSaid : Prop := bitsNamesUptoRow.holds Try.pinned (OpenSpec.upto bitsNamesSpec)

end Rows
end Go.Proofs.Ytabjfehhibeeiaa
