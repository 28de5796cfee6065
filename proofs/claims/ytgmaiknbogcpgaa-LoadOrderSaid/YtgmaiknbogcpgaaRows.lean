/-
  No cell of these rows narrows 'for every input' (looked for: loops, veiled, ifaces, maps, wideKeys, modest, calm, conditions, laid).
  DERIVED. THE GIVEN ROWS OF THIS SEAT. 6 by the template 'for every input the law returns true; each argument reads behind the call as it read before'; 0 by the template 'total and deterministic' (their statements: YtgmaiknbogcpgaaTotals.lean).
  GIVEN WITH THE SEED: the statements are not yours to turn. If you find one false, say at which input.
  Laid BY PROGRAM, IN A SANDBOX (cutbox-rows.mjs): the forced cells as the released guide's own fill.sh prints them over the translation 06b9ca3a5cfa6f1d… (all of the seat's roots in one cut). By AI agents, Wed Nov 11 2026. No macro, syntax, notation, axiom, sorry.
-/
import Derived.Test.YtgmaiknbogcpgaaChecked
import GoSem.Claim
import GoSem.ClaimJoined
import GoSem.ClaimMapViews
import Derived.JoinedTies
import Derived.KernelRfl
namespace Go.Proofs.Ytgmaiknbogcpgaa
/- THE CELL 'sum', in the pinned program and in every row, IS THE sha256 OF THE DUMP (.gsa) THAT YtgmaiknbogcpgaaProg.lean LOADS. Nothing in Lean hashes anything: it is a label: what it is worth is what the hold of that sum in a sandbox is worth. -/
noncomputable def Try.pinned : Pinned := { name := "ytgmaiknbogcpgaa", sum := "06b9ca3a5cfa6f1ddda4f9ea35adf7c3d861a43a9c5f6f15e31f8c904393e7f8", checked := Try.checked }
namespace Rows
def none {H : Type} : Left H := { results := [], args := [] }

/-- 'foghornlaw27.LoadOrder': WHATEVER THE INPUT: true; the input reads as it did. -/
def loadOrderSpec : ChangeSpec := { name := "loadOrder", fn := fun _ => fun
  | [d1, d2] => { results := [.lit (.bool true)], args := [d1, d2] }
  | _ => none }
def loadOrderRow : OpenClaim := { program := "ytgmaiknbogcpgaa", sum := "06b9ca3a5cfa6f1ddda4f9ea35adf7c3d861a43a9c5f6f15e31f8c904393e7f8", func := "foghorn/foghornlaw27.LoadOrder", spec := "loadOrder", unfollowed := true, recurses := true, apart := false }
def LoadOrderSaid : Prop := loadOrderRow.holds Try.pinned (OpenSpec.ofChange loadOrderSpec)

/-- ITS FALSE NEIGHBOUR: 'it returns false'. Refute it at one input. -/
def loadOrderWrong : ChangeSpec := { name := "loadOrder", fn := fun _ => fun
  | [d1, d2] => { results := [.lit (.bool false)], args := [d1, d2] }
  | _ => none }
def LoadOrderWrongFalsely : Prop := loadOrderRow.holds Try.pinned (OpenSpec.ofChange loadOrderWrong)

/-- 'foghornlaw27.LoadBest': WHATEVER THE INPUT: true; the input reads as it did. -/
def loadBestSpec : ChangeSpec := { name := "loadBest", fn := fun _ => fun
  | [d1, d2, d3] => { results := [.lit (.bool true)], args := [d1, d2, d3] }
  | _ => none }
def loadBestRow : OpenClaim := { program := "ytgmaiknbogcpgaa", sum := "06b9ca3a5cfa6f1ddda4f9ea35adf7c3d861a43a9c5f6f15e31f8c904393e7f8", func := "foghorn/foghornlaw27.LoadBest", spec := "loadBest", unfollowed := true, recurses := true, apart := false }
def LoadBestSaid : Prop := loadBestRow.holds Try.pinned (OpenSpec.ofChange loadBestSpec)

/-- ITS FALSE NEIGHBOUR: 'it returns false'. Refute it at one input. -/
def loadBestWrong : ChangeSpec := { name := "loadBest", fn := fun _ => fun
  | [d1, d2, d3] => { results := [.lit (.bool false)], args := [d1, d2, d3] }
  | _ => none }
def LoadBestWrongFalsely : Prop := loadBestRow.holds Try.pinned (OpenSpec.ofChange loadBestWrong)

/-- 'foghornlaw27.LoadTells': WHATEVER THE INPUT: true; the input reads as it did. -/
def loadTellsSpec : ChangeSpec := { name := "loadTells", fn := fun _ => fun
  | [d1, d2] => { results := [.lit (.bool true)], args := [d1, d2] }
  | _ => none }
def loadTellsRow : OpenClaim := { program := "ytgmaiknbogcpgaa", sum := "06b9ca3a5cfa6f1ddda4f9ea35adf7c3d861a43a9c5f6f15e31f8c904393e7f8", func := "foghorn/foghornlaw27.LoadTells", spec := "loadTells", unfollowed := true, recurses := true, apart := false }
def LoadTellsSaid : Prop := loadTellsRow.holds Try.pinned (OpenSpec.ofChange loadTellsSpec)

/-- ITS FALSE NEIGHBOUR: 'it returns false'. Refute it at one input. -/
def loadTellsWrong : ChangeSpec := { name := "loadTells", fn := fun _ => fun
  | [d1, d2] => { results := [.lit (.bool false)], args := [d1, d2] }
  | _ => none }
def LoadTellsWrongFalsely : Prop := loadTellsRow.holds Try.pinned (OpenSpec.ofChange loadTellsWrong)

/-- 'foghornlaw27.LoadDeals': WHATEVER THE INPUT: true; the input reads as it did. -/
def loadDealsSpec : ChangeSpec := { name := "loadDeals", fn := fun _ => fun
  | [d1, d2, d3] => { results := [.lit (.bool true)], args := [d1, d2, d3] }
  | _ => none }
def loadDealsRow : OpenClaim := { program := "ytgmaiknbogcpgaa", sum := "06b9ca3a5cfa6f1ddda4f9ea35adf7c3d861a43a9c5f6f15e31f8c904393e7f8", func := "foghorn/foghornlaw27.LoadDeals", spec := "loadDeals", unfollowed := true, recurses := true, apart := false }
def LoadDealsSaid : Prop := loadDealsRow.holds Try.pinned (OpenSpec.ofChange loadDealsSpec)

/-- ITS FALSE NEIGHBOUR: 'it returns false'. Refute it at one input. -/
def loadDealsWrong : ChangeSpec := { name := "loadDeals", fn := fun _ => fun
  | [d1, d2, d3] => { results := [.lit (.bool false)], args := [d1, d2, d3] }
  | _ => none }
def LoadDealsWrongFalsely : Prop := loadDealsRow.holds Try.pinned (OpenSpec.ofChange loadDealsWrong)

/-- 'foghornlaw27.LoadTurns': WHATEVER THE INPUT: true; the input reads as it did. -/
def loadTurnsSpec : ChangeSpec := { name := "loadTurns", fn := fun _ => fun
  | [d1, d2] => { results := [.lit (.bool true)], args := [d1, d2] }
  | _ => none }
def loadTurnsRow : OpenClaim := { program := "ytgmaiknbogcpgaa", sum := "06b9ca3a5cfa6f1ddda4f9ea35adf7c3d861a43a9c5f6f15e31f8c904393e7f8", func := "foghorn/foghornlaw27.LoadTurns", spec := "loadTurns", unfollowed := true, recurses := true, apart := false }
def LoadTurnsSaid : Prop := loadTurnsRow.holds Try.pinned (OpenSpec.ofChange loadTurnsSpec)

/-- ITS FALSE NEIGHBOUR: 'it returns false'. Refute it at one input. -/
def loadTurnsWrong : ChangeSpec := { name := "loadTurns", fn := fun _ => fun
  | [d1, d2] => { results := [.lit (.bool false)], args := [d1, d2] }
  | _ => none }
def LoadTurnsWrongFalsely : Prop := loadTurnsRow.holds Try.pinned (OpenSpec.ofChange loadTurnsWrong)

/-- 'foghornlaw27.LoadNone': WHATEVER THE INPUT: true; the input reads as it did. -/
def loadNoneSpec : ChangeSpec := { name := "loadNone", fn := fun _ => fun
  | [] => { results := [.lit (.bool true)], args := [] }
  | _ => none }
def loadNoneRow : OpenClaim := { program := "ytgmaiknbogcpgaa", sum := "06b9ca3a5cfa6f1ddda4f9ea35adf7c3d861a43a9c5f6f15e31f8c904393e7f8", func := "foghorn/foghornlaw27.LoadNone", spec := "loadNone", unfollowed := true, recurses := true, apart := false }
def LoadNoneSaid : Prop := loadNoneRow.holds Try.pinned (OpenSpec.ofChange loadNoneSpec)

/-- ITS FALSE NEIGHBOUR: 'it returns false'. Refute it at one input. -/
def loadNoneWrong : ChangeSpec := { name := "loadNone", fn := fun _ => fun
  | [] => { results := [.lit (.bool false)], args := [] }
  | _ => none }
def LoadNoneWrongFalsely : Prop := loadNoneRow.holds Try.pinned (OpenSpec.ofChange loadNoneWrong)

/- THE SECOND FORM. 'bulk': how many values and letters a reading holds, each counted each time it is reached (what is shared counts as often as it is met; a slice's spare places count too). A statement '..UptoSaid' is the law's where the arguments, and the package variables that the reading takes, are together of bulk at most 1048576: NARROWER than '..Said'. Prove '..Said' where nothing that the law and all that it calls make is longer than what came in: it says more and counts as full. Else prove '..UptoSaid'. A law counts once. -/
mutual
def uptoBulk {H : Type} : DataW H → Nat
  | .lit (.string bytes) => bytes.length + 1
  | .lit _ => 1
  | .nil => 1
  | .ptr d => uptoBulk d + 1
  | .slice elems spare => uptoBulkAll elems + uptoBulkAll spare + 1
  | .agg parts => uptoBulkAll parts + 1
  | .iface _ d => uptoBulk d + 1
  | .map entries => uptoBulkEntries entries + 1
  | .held _ => 1
def uptoBulkAll {H : Type} : List (DataW H) → Nat
  | [] => 0
  | d :: r => uptoBulk d + uptoBulkAll r
def uptoBulkEntries {H : Type} : List (Lit × DataW H) → Nat
  | [] => 0
  | x :: r => uptoBulkEntry x + uptoBulkEntries r
def uptoBulkEntry {H : Type} : Lit × DataW H → Nat
  | (.string bytes, d) => bytes.length + uptoBulk d + 1
  | (_, d) => uptoBulk d + 1
 end
def uptoSmall : (H : Type) → List (DataW H) → Bool := fun _ ds => decide (uptoBulkAll ds ≤ 1048576)
def OpenSpec.upto (s : _root_.Go.ChangeSpec) : _root_.Go.OpenSpec := { _root_.Go.OpenSpec.ofChange s with cond := some uptoSmall }

/-- 'foghornlaw27.LoadOrder', WHERE WHAT IT READS IS OF BULK AT MOST 1048576: true; the input reads as it did. -/
def loadOrderUptoRow : OpenClaim := { program := "ytgmaiknbogcpgaa", sum := "06b9ca3a5cfa6f1ddda4f9ea35adf7c3d861a43a9c5f6f15e31f8c904393e7f8", func := "foghorn/foghornlaw27.LoadOrder", spec := "loadOrder", unfollowed := true, recurses := true, apart := false, narrowed := true }
def LoadOrderUptoSaid : Prop := loadOrderUptoRow.holds Try.pinned (OpenSpec.upto loadOrderSpec)

/-- 'foghornlaw27.LoadBest', WHERE WHAT IT READS IS OF BULK AT MOST 1048576: true; the input reads as it did. -/
def loadBestUptoRow : OpenClaim := { program := "ytgmaiknbogcpgaa", sum := "06b9ca3a5cfa6f1ddda4f9ea35adf7c3d861a43a9c5f6f15e31f8c904393e7f8", func := "foghorn/foghornlaw27.LoadBest", spec := "loadBest", unfollowed := true, recurses := true, apart := false, narrowed := true }
def LoadBestUptoSaid : Prop := loadBestUptoRow.holds Try.pinned (OpenSpec.upto loadBestSpec)

/-- 'foghornlaw27.LoadTells', WHERE WHAT IT READS IS OF BULK AT MOST 1048576: true; the input reads as it did. -/
def loadTellsUptoRow : OpenClaim := { program := "ytgmaiknbogcpgaa", sum := "06b9ca3a5cfa6f1ddda4f9ea35adf7c3d861a43a9c5f6f15e31f8c904393e7f8", func := "foghorn/foghornlaw27.LoadTells", spec := "loadTells", unfollowed := true, recurses := true, apart := false, narrowed := true }
def LoadTellsUptoSaid : Prop := loadTellsUptoRow.holds Try.pinned (OpenSpec.upto loadTellsSpec)

/-- 'foghornlaw27.LoadDeals', WHERE WHAT IT READS IS OF BULK AT MOST 1048576: true; the input reads as it did. -/
def loadDealsUptoRow : OpenClaim := { program := "ytgmaiknbogcpgaa", sum := "06b9ca3a5cfa6f1ddda4f9ea35adf7c3d861a43a9c5f6f15e31f8c904393e7f8", func := "foghorn/foghornlaw27.LoadDeals", spec := "loadDeals", unfollowed := true, recurses := true, apart := false, narrowed := true }
def LoadDealsUptoSaid : Prop := loadDealsUptoRow.holds Try.pinned (OpenSpec.upto loadDealsSpec)

/-- 'foghornlaw27.LoadTurns', WHERE WHAT IT READS IS OF BULK AT MOST 1048576: true; the input reads as it did. -/
def loadTurnsUptoRow : OpenClaim := { program := "ytgmaiknbogcpgaa", sum := "06b9ca3a5cfa6f1ddda4f9ea35adf7c3d861a43a9c5f6f15e31f8c904393e7f8", func := "foghorn/foghornlaw27.LoadTurns", spec := "loadTurns", unfollowed := true, recurses := true, apart := false, narrowed := true }
def LoadTurnsUptoSaid : Prop := loadTurnsUptoRow.holds Try.pinned (OpenSpec.upto loadTurnsSpec)

/-- 'foghornlaw27.LoadNone', WHERE WHAT IT READS IS OF BULK AT MOST 1048576: true; the input reads as it did. -/
def loadNoneUptoRow : OpenClaim := { program := "ytgmaiknbogcpgaa", sum := "06b9ca3a5cfa6f1ddda4f9ea35adf7c3d861a43a9c5f6f15e31f8c904393e7f8", func := "foghorn/foghornlaw27.LoadNone", spec := "loadNone", unfollowed := true, recurses := true, apart := false, narrowed := true }
def LoadNoneUptoSaid : Prop := loadNoneUptoRow.holds Try.pinned (OpenSpec.upto loadNoneSpec)

end Rows
end Go.Proofs.Ytgmaiknbogcpgaa
