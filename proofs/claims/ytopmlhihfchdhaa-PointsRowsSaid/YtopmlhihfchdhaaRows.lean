/-
  No cell of these rows narrows 'for every input' (looked for: loops, veiled, ifaces, maps, wideKeys, modest, calm, conditions, laid).
  DERIVED. THE GIVEN ROWS OF THIS SEAT. 8 by the template 'for every input the law returns true; each argument reads behind the call as it read before'; 0 by the template 'total and deterministic' (their statements: YtopmlhihfchdhaaTotals.lean).
  GIVEN WITH THE SEED: the statements are not yours to turn. If you find one false, say at which input.
  Laid BY PROGRAM, IN A SANDBOX (cutbox-rows.mjs): the forced cells as the released guide's own fill.sh prints them over the translation 303ba29e81d663f6… (all of the seat's roots in one cut). By AI agents, Wed Nov 11 2026. No macro, syntax, notation, axiom, sorry.
-/
import Derived.Test.YtopmlhihfchdhaaChecked
import GoSem.Claim
import GoSem.ClaimJoined
import GoSem.ClaimMapViews
import Derived.JoinedTies
import Derived.KernelRfl
namespace Go.Proofs.Ytopmlhihfchdhaa
/- THE CELL 'sum', in the pinned program and in every row, IS THE sha256 OF THE DUMP (.gsa) THAT YtopmlhihfchdhaaProg.lean LOADS. Nothing in Lean hashes anything: it is a label: what it is worth is what the hold of that sum in a sandbox is worth. -/
noncomputable def Try.pinned : Pinned := { name := "ytopmlhihfchdhaa", sum := "303ba29e81d663f61307fa50d3bb65681237488df644164d8942cceaf672fef0", checked := Try.checked }
namespace Rows
def none {H : Type} : Left H := { results := [], args := [] }

/-- 'foghornlaw04.PointsSets': WHATEVER THE INPUT: true; the input reads as it did. -/
def pointsSetsSpec : ChangeSpec := { name := "pointsSets", fn := fun _ => fun
  | [] => { results := [.lit (.bool true)], args := [] }
  | _ => none }
def pointsSetsRow : OpenClaim := { program := "ytopmlhihfchdhaa", sum := "303ba29e81d663f61307fa50d3bb65681237488df644164d8942cceaf672fef0", func := "foghorn/foghornlaw04.PointsSets", spec := "pointsSets", unfollowed := true, recurses := true, apart := false }
def PointsSetsSaid : Prop := pointsSetsRow.holds Try.pinned (OpenSpec.ofChange pointsSetsSpec)

/-- ITS FALSE NEIGHBOUR: 'it returns false'. Refute it at one input. -/
def pointsSetsWrong : ChangeSpec := { name := "pointsSets", fn := fun _ => fun
  | [] => { results := [.lit (.bool false)], args := [] }
  | _ => none }
def PointsSetsWrongFalsely : Prop := pointsSetsRow.holds Try.pinned (OpenSpec.ofChange pointsSetsWrong)

/-- 'foghornlaw04.PointsAsks': WHATEVER THE INPUT: true; the input reads as it did. -/
def pointsAsksSpec : ChangeSpec := { name := "pointsAsks", fn := fun _ => fun
  | [d1, d2, d3, d4, d5, d6, d7, d8] => { results := [.lit (.bool true)], args := [d1, d2, d3, d4, d5, d6, d7, d8] }
  | _ => none }
def pointsAsksRow : OpenClaim := { program := "ytopmlhihfchdhaa", sum := "303ba29e81d663f61307fa50d3bb65681237488df644164d8942cceaf672fef0", func := "foghorn/foghornlaw04.PointsAsks", spec := "pointsAsks", unfollowed := true, recurses := true, apart := false }
def PointsAsksSaid : Prop := pointsAsksRow.holds Try.pinned (OpenSpec.ofChange pointsAsksSpec)

/-- ITS FALSE NEIGHBOUR: 'it returns false'. Refute it at one input. -/
def pointsAsksWrong : ChangeSpec := { name := "pointsAsks", fn := fun _ => fun
  | [d1, d2, d3, d4, d5, d6, d7, d8] => { results := [.lit (.bool false)], args := [d1, d2, d3, d4, d5, d6, d7, d8] }
  | _ => none }
def PointsAsksWrongFalsely : Prop := pointsAsksRow.holds Try.pinned (OpenSpec.ofChange pointsAsksWrong)

/-- 'foghornlaw04.PointsRows': WHATEVER THE INPUT: true; the input reads as it did. -/
def pointsRowsSpec : ChangeSpec := { name := "pointsRows", fn := fun _ => fun
  | [d1, d2, d3, d4, d5] => { results := [.lit (.bool true)], args := [d1, d2, d3, d4, d5] }
  | _ => none }
def pointsRowsRow : OpenClaim := { program := "ytopmlhihfchdhaa", sum := "303ba29e81d663f61307fa50d3bb65681237488df644164d8942cceaf672fef0", func := "foghorn/foghornlaw04.PointsRows", spec := "pointsRows", unfollowed := true, recurses := true, apart := false }
def PointsRowsSaid : Prop := pointsRowsRow.holds Try.pinned (OpenSpec.ofChange pointsRowsSpec)

/-- ITS FALSE NEIGHBOUR: 'it returns false'. Refute it at one input. -/
def pointsRowsWrong : ChangeSpec := { name := "pointsRows", fn := fun _ => fun
  | [d1, d2, d3, d4, d5] => { results := [.lit (.bool false)], args := [d1, d2, d3, d4, d5] }
  | _ => none }
def PointsRowsWrongFalsely : Prop := pointsRowsRow.holds Try.pinned (OpenSpec.ofChange pointsRowsWrong)

/-- 'foghornlaw04.PointsApart': WHATEVER THE INPUT: true; the input reads as it did. -/
def pointsApartSpec : ChangeSpec := { name := "pointsApart", fn := fun _ => fun
  | [] => { results := [.lit (.bool true)], args := [] }
  | _ => none }
def pointsApartRow : OpenClaim := { program := "ytopmlhihfchdhaa", sum := "303ba29e81d663f61307fa50d3bb65681237488df644164d8942cceaf672fef0", func := "foghorn/foghornlaw04.PointsApart", spec := "pointsApart", unfollowed := true, recurses := true, apart := false }
def PointsApartSaid : Prop := pointsApartRow.holds Try.pinned (OpenSpec.ofChange pointsApartSpec)

/-- ITS FALSE NEIGHBOUR: 'it returns false'. Refute it at one input. -/
def pointsApartWrong : ChangeSpec := { name := "pointsApart", fn := fun _ => fun
  | [] => { results := [.lit (.bool false)], args := [] }
  | _ => none }
def PointsApartWrongFalsely : Prop := pointsApartRow.holds Try.pinned (OpenSpec.ofChange pointsApartWrong)

/-- 'foghornlaw04.PointsTurns': WHATEVER THE INPUT: true; the input reads as it did. -/
def pointsTurnsSpec : ChangeSpec := { name := "pointsTurns", fn := fun _ => fun
  | [d1, d2, d3, d4] => { results := [.lit (.bool true)], args := [d1, d2, d3, d4] }
  | _ => none }
def pointsTurnsRow : OpenClaim := { program := "ytopmlhihfchdhaa", sum := "303ba29e81d663f61307fa50d3bb65681237488df644164d8942cceaf672fef0", func := "foghorn/foghornlaw04.PointsTurns", spec := "pointsTurns", unfollowed := true, recurses := true, apart := false }
def PointsTurnsSaid : Prop := pointsTurnsRow.holds Try.pinned (OpenSpec.ofChange pointsTurnsSpec)

/-- ITS FALSE NEIGHBOUR: 'it returns false'. Refute it at one input. -/
def pointsTurnsWrong : ChangeSpec := { name := "pointsTurns", fn := fun _ => fun
  | [d1, d2, d3, d4] => { results := [.lit (.bool false)], args := [d1, d2, d3, d4] }
  | _ => none }
def PointsTurnsWrongFalsely : Prop := pointsTurnsRow.holds Try.pinned (OpenSpec.ofChange pointsTurnsWrong)

/-- 'foghornlaw04.PointsGray': WHATEVER THE INPUT: true; the input reads as it did. -/
def pointsGraySpec : ChangeSpec := { name := "pointsGray", fn := fun _ => fun
  | [] => { results := [.lit (.bool true)], args := [] }
  | _ => none }
def pointsGrayRow : OpenClaim := { program := "ytopmlhihfchdhaa", sum := "303ba29e81d663f61307fa50d3bb65681237488df644164d8942cceaf672fef0", func := "foghorn/foghornlaw04.PointsGray", spec := "pointsGray", unfollowed := true, recurses := true, apart := false }
def PointsGraySaid : Prop := pointsGrayRow.holds Try.pinned (OpenSpec.ofChange pointsGraySpec)

/-- ITS FALSE NEIGHBOUR: 'it returns false'. Refute it at one input. -/
def pointsGrayWrong : ChangeSpec := { name := "pointsGray", fn := fun _ => fun
  | [] => { results := [.lit (.bool false)], args := [] }
  | _ => none }
def PointsGrayWrongFalsely : Prop := pointsGrayRow.holds Try.pinned (OpenSpec.ofChange pointsGrayWrong)

/-- 'foghornlaw04.PointsBack': WHATEVER THE INPUT: true; the input reads as it did. -/
def pointsBackSpec : ChangeSpec := { name := "pointsBack", fn := fun _ => fun
  | [d1, d2] => { results := [.lit (.bool true)], args := [d1, d2] }
  | _ => none }
def pointsBackRow : OpenClaim := { program := "ytopmlhihfchdhaa", sum := "303ba29e81d663f61307fa50d3bb65681237488df644164d8942cceaf672fef0", func := "foghorn/foghornlaw04.PointsBack", spec := "pointsBack", unfollowed := true, recurses := true, apart := false }
def PointsBackSaid : Prop := pointsBackRow.holds Try.pinned (OpenSpec.ofChange pointsBackSpec)

/-- ITS FALSE NEIGHBOUR: 'it returns false'. Refute it at one input. -/
def pointsBackWrong : ChangeSpec := { name := "pointsBack", fn := fun _ => fun
  | [d1, d2] => { results := [.lit (.bool false)], args := [d1, d2] }
  | _ => none }
def PointsBackWrongFalsely : Prop := pointsBackRow.holds Try.pinned (OpenSpec.ofChange pointsBackWrong)

/-- 'foghornlaw04.PointsNames': WHATEVER THE INPUT: true; the input reads as it did. -/
def pointsNamesSpec : ChangeSpec := { name := "pointsNames", fn := fun _ => fun
  | [] => { results := [.lit (.bool true)], args := [] }
  | _ => none }
def pointsNamesRow : OpenClaim := { program := "ytopmlhihfchdhaa", sum := "303ba29e81d663f61307fa50d3bb65681237488df644164d8942cceaf672fef0", func := "foghorn/foghornlaw04.PointsNames", spec := "pointsNames", unfollowed := true, recurses := true, apart := false }
def PointsNamesSaid : Prop := pointsNamesRow.holds Try.pinned (OpenSpec.ofChange pointsNamesSpec)

/-- ITS FALSE NEIGHBOUR: 'it returns false'. Refute it at one input. -/
def pointsNamesWrong : ChangeSpec := { name := "pointsNames", fn := fun _ => fun
  | [] => { results := [.lit (.bool false)], args := [] }
  | _ => none }
def PointsNamesWrongFalsely : Prop := pointsNamesRow.holds Try.pinned (OpenSpec.ofChange pointsNamesWrong)

/- THE SECOND FORM. 'bulk': how many values and letters a reading holds, each counted each time it is reached (what is shared counts as often as it is met; a slice's spare places count too). A statement '..UptoSaid' is the law's where the arguments, and the package variables that the reading takes, are together of bulk at most 1048576: NARROWER than '..Said'. Prove '..Said' where nothing that the law and all that it calls make is longer than what came in: it says more and counts as full. Else prove '..UptoSaid'. A law counts once. -/
mutual
def uptoBulk {H : Type} : DataW H → Nat
  | .lit (.string bytes) => bytes.length + 1
  | .lit _ => 1
  | .nil => 1
  | .ptr d => uptoBulk d + 1
  | .slice elems spare => uptoBulkAll elems + uptoBulkAll spare + 1
  | .agg parts => uptoBulkAll parts + 1
  | .iface _ d => uptoBulk d + 1
  | .map entries => uptoBulkEntries entries + 1
  | .held _ => 1
def uptoBulkAll {H : Type} : List (DataW H) → Nat
  | [] => 0
  | d :: r => uptoBulk d + uptoBulkAll r
def uptoBulkEntries {H : Type} : List (Lit × DataW H) → Nat
  | [] => 0
  | x :: r => uptoBulkEntry x + uptoBulkEntries r
def uptoBulkEntry {H : Type} : Lit × DataW H → Nat
  | (.string bytes, d) => bytes.length + uptoBulk d + 1
  | (_, d) => uptoBulk d + 1
 end
def uptoSmall : (H : Type) → List (DataW H) → Bool := fun _ ds => decide (uptoBulkAll ds ≤ 1048576)
def OpenSpec.upto (s : _root_.Go.ChangeSpec) : _root_.Go.OpenSpec := { _root_.Go.OpenSpec.ofChange s with cond := some uptoSmall }

/-- 'foghornlaw04.PointsSets', WHERE WHAT IT READS IS OF BULK AT MOST 1048576: true; the input reads as it did. -/
def pointsSetsUptoRow : OpenClaim := { program := "ytopmlhihfchdhaa", sum := "303ba29e81d663f61307fa50d3bb65681237488df644164d8942cceaf672fef0", func := "foghorn/foghornlaw04.PointsSets", spec := "pointsSets", unfollowed := true, recurses := true, apart := false, narrowed := true }
def PointsSetsUptoSaid : Prop := pointsSetsUptoRow.holds Try.pinned (OpenSpec.upto pointsSetsSpec)

/-- 'foghornlaw04.PointsAsks', WHERE WHAT IT READS IS OF BULK AT MOST 1048576: true; the input reads as it did. -/
def pointsAsksUptoRow : OpenClaim := { program := "ytopmlhihfchdhaa", sum := "303ba29e81d663f61307fa50d3bb65681237488df644164d8942cceaf672fef0", func := "foghorn/foghornlaw04.PointsAsks", spec := "pointsAsks", unfollowed := true, recurses := true, apart := false, narrowed := true }
def PointsAsksUptoSaid : Prop := pointsAsksUptoRow.holds Try.pinned (OpenSpec.upto pointsAsksSpec)

/-- 'foghornlaw04.PointsRows', WHERE WHAT IT READS IS OF BULK AT MOST 1048576: true; the input reads as it did. -/
def pointsRowsUptoRow : OpenClaim := { program := "ytopmlhihfchdhaa", sum := "303ba29e81d663f61307fa50d3bb65681237488df644164d8942cceaf672fef0", func := "foghorn/foghornlaw04.PointsRows", spec := "pointsRows", unfollowed := true, recurses := true, apart := false, narrowed := true }
def PointsRowsUptoSaid : Prop := pointsRowsUptoRow.holds Try.pinned (OpenSpec.upto pointsRowsSpec)

/-- 'foghornlaw04.PointsApart', WHERE WHAT IT READS IS OF BULK AT MOST 1048576: true; the input reads as it did. -/
def pointsApartUptoRow : OpenClaim := { program := "ytopmlhihfchdhaa", sum := "303ba29e81d663f61307fa50d3bb65681237488df644164d8942cceaf672fef0", func := "foghorn/foghornlaw04.PointsApart", spec := "pointsApart", unfollowed := true, recurses := true, apart := false, narrowed := true }
def PointsApartUptoSaid : Prop := pointsApartUptoRow.holds Try.pinned (OpenSpec.upto pointsApartSpec)

/-- 'foghornlaw04.PointsTurns', WHERE WHAT IT READS IS OF BULK AT MOST 1048576: true; the input reads as it did. -/
def pointsTurnsUptoRow : OpenClaim := { program := "ytopmlhihfchdhaa", sum := "303ba29e81d663f61307fa50d3bb65681237488df644164d8942cceaf672fef0", func := "foghorn/foghornlaw04.PointsTurns", spec := "pointsTurns", unfollowed := true, recurses := true, apart := false, narrowed := true }
def PointsTurnsUptoSaid : Prop := pointsTurnsUptoRow.holds Try.pinned (OpenSpec.upto pointsTurnsSpec)

/-- 'foghornlaw04.PointsGray', WHERE WHAT IT READS IS OF BULK AT MOST 1048576: true; the input reads as it did. -/
def pointsGrayUptoRow : OpenClaim := { program := "ytopmlhihfchdhaa", sum := "303ba29e81d663f61307fa50d3bb65681237488df644164d8942cceaf672fef0", func := "foghorn/foghornlaw04.PointsGray", spec := "pointsGray", unfollowed := true, recurses := true, apart := false, narrowed := true }
def PointsGrayUptoSaid : Prop := pointsGrayUptoRow.holds Try.pinned (OpenSpec.upto pointsGraySpec)

/-- 'foghornlaw04.PointsBack', WHERE WHAT IT READS IS OF BULK AT MOST 1048576: true; the input reads as it did. -/
def pointsBackUptoRow : OpenClaim := { program := "ytopmlhihfchdhaa", sum := "303ba29e81d663f61307fa50d3bb65681237488df644164d8942cceaf672fef0", func := "foghorn/foghornlaw04.PointsBack", spec := "pointsBack", unfollowed := true, recurses := true, apart := false, narrowed := true }
def PointsBackUptoSaid : Prop := pointsBackUptoRow.holds Try.pinned (OpenSpec.upto pointsBackSpec)

/-- 'foghornlaw04.PointsNames', WHERE WHAT IT READS IS OF BULK AT MOST 1048576: true; the input reads as it did. -/
def pointsNamesUptoRow : OpenClaim := { program := "ytopmlhihfchdhaa", sum := "303ba29e81d663f61307fa50d3bb65681237488df644164d8942cceaf672fef0", func := "foghorn/foghornlaw04.PointsNames", spec := "pointsNames", unfollowed := true, recurses := true, apart := false, narrowed := true }
def PointsNamesUptoSaid : Prop := pointsNamesUptoRow.holds Try.pinned (OpenSpec.upto pointsNamesSpec)

end Rows
end Go.Proofs.Ytopmlhihfchdhaa
