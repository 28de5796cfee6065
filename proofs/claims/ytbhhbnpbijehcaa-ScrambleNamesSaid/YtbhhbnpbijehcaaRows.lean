/-
  No cell of these rows narrows 'for every input' (looked for: loops, veiled, ifaces, maps, wideKeys, modest, calm, conditions, laid).
  DERIVED. THE GIVEN ROWS OF THIS SEAT. 7 by the template 'for every input the law returns true; each argument reads behind the call as it read before'; 0 by the template 'total and deterministic' (their statements: YtbhhbnpbijehcaaTotals.lean).
  GIVEN WITH THE SEED: the statements are not yours to turn. If you find one false, say at which input.
  Laid BY PROGRAM, IN A SANDBOX (cutbox-rows.mjs): the forced cells as the released guide's own fill.sh prints them over the translation e152fdff96f859c7… (all of the seat's roots in one cut). By AI agents, Wed Nov 11 2026. No macro, syntax, notation, axiom, sorry.
-/
import Derived.Test.YtbhhbnpbijehcaaChecked
import GoSem.Claim
import GoSem.ClaimJoined
import GoSem.ClaimMapViews
import Derived.JoinedTies
import Derived.KernelRfl
namespace Go.Proofs.Ytbhhbnpbijehcaa
/- THE CELL 'sum', in the pinned program and in every row, IS THE sha256 OF THE DUMP (.gsa) THAT YtbhhbnpbijehcaaProg.lean LOADS. Nothing in Lean hashes anything: it is a label: what it is worth is what the hold of that sum in a sandbox is worth. -/
noncomputable def Try.pinned : Pinned := { name := "ytbhhbnpbijehcaa", sum := "e152fdff96f859c7b4b759213377993029162e8340170e6faf848cafed2a14be", checked := Try.checked }
namespace Rows
def none {H : Type} : Left H := { results := [], args := [] }

/-- 'foghornlaw16.ScrambleJumps': WHATEVER THE INPUT: true; the input reads as it did. -/
def scrambleJumpsSpec : ChangeSpec := { name := "scrambleJumps", fn := fun _ => fun
  | [d1, d2, d3, d4, d5, d6] => { results := [.lit (.bool true)], args := [d1, d2, d3, d4, d5, d6] }
  | _ => none }
def scrambleJumpsRow : OpenClaim := { program := "ytbhhbnpbijehcaa", sum := "e152fdff96f859c7b4b759213377993029162e8340170e6faf848cafed2a14be", func := "foghorn/foghornlaw16.ScrambleJumps", spec := "scrambleJumps", apart := false }
def ScrambleJumpsSaid : Prop := scrambleJumpsRow.holds Try.pinned (OpenSpec.ofChange scrambleJumpsSpec)

/-- ITS FALSE NEIGHBOUR: 'it returns false'. Refute it at one input. -/
def scrambleJumpsWrong : ChangeSpec := { name := "scrambleJumps", fn := fun _ => fun
  | [d1, d2, d3, d4, d5, d6] => { results := [.lit (.bool false)], args := [d1, d2, d3, d4, d5, d6] }
  | _ => none }
def ScrambleJumpsWrongFalsely : Prop := scrambleJumpsRow.holds Try.pinned (OpenSpec.ofChange scrambleJumpsWrong)

/-- 'foghornlaw16.ScrambleLinear': WHATEVER THE INPUT: true; the input reads as it did. -/
def scrambleLinearSpec : ChangeSpec := { name := "scrambleLinear", fn := fun _ => fun
  | [d1, d2, d3, d4, d5] => { results := [.lit (.bool true)], args := [d1, d2, d3, d4, d5] }
  | _ => none }
def scrambleLinearRow : OpenClaim := { program := "ytbhhbnpbijehcaa", sum := "e152fdff96f859c7b4b759213377993029162e8340170e6faf848cafed2a14be", func := "foghorn/foghornlaw16.ScrambleLinear", spec := "scrambleLinear", apart := false }
def ScrambleLinearSaid : Prop := scrambleLinearRow.holds Try.pinned (OpenSpec.ofChange scrambleLinearSpec)

/-- ITS FALSE NEIGHBOUR: 'it returns false'. Refute it at one input. -/
def scrambleLinearWrong : ChangeSpec := { name := "scrambleLinear", fn := fun _ => fun
  | [d1, d2, d3, d4, d5] => { results := [.lit (.bool false)], args := [d1, d2, d3, d4, d5] }
  | _ => none }
def ScrambleLinearWrongFalsely : Prop := scrambleLinearRow.holds Try.pinned (OpenSpec.ofChange scrambleLinearWrong)

/-- 'foghornlaw16.ScrambleState': WHATEVER THE INPUT: true; the input reads as it did. -/
def scrambleStateSpec : ChangeSpec := { name := "scrambleState", fn := fun _ => fun
  | [d1, d2, d3] => { results := [.lit (.bool true)], args := [d1, d2, d3] }
  | _ => none }
def scrambleStateRow : OpenClaim := { program := "ytbhhbnpbijehcaa", sum := "e152fdff96f859c7b4b759213377993029162e8340170e6faf848cafed2a14be", func := "foghorn/foghornlaw16.ScrambleState", spec := "scrambleState", apart := false }
def ScrambleStateSaid : Prop := scrambleStateRow.holds Try.pinned (OpenSpec.ofChange scrambleStateSpec)

/-- ITS FALSE NEIGHBOUR: 'it returns false'. Refute it at one input. -/
def scrambleStateWrong : ChangeSpec := { name := "scrambleState", fn := fun _ => fun
  | [d1, d2, d3] => { results := [.lit (.bool false)], args := [d1, d2, d3] }
  | _ => none }
def ScrambleStateWrongFalsely : Prop := scrambleStateRow.holds Try.pinned (OpenSpec.ofChange scrambleStateWrong)

/-- 'foghornlaw16.ScrambleAgain': WHATEVER THE INPUT: true; the input reads as it did. -/
def scrambleAgainSpec : ChangeSpec := { name := "scrambleAgain", fn := fun _ => fun
  | [d1, d2, d3, d4, d5] => { results := [.lit (.bool true)], args := [d1, d2, d3, d4, d5] }
  | _ => none }
def scrambleAgainRow : OpenClaim := { program := "ytbhhbnpbijehcaa", sum := "e152fdff96f859c7b4b759213377993029162e8340170e6faf848cafed2a14be", func := "foghorn/foghornlaw16.ScrambleAgain", spec := "scrambleAgain", apart := false }
def ScrambleAgainSaid : Prop := scrambleAgainRow.holds Try.pinned (OpenSpec.ofChange scrambleAgainSpec)

/-- ITS FALSE NEIGHBOUR: 'it returns false'. Refute it at one input. -/
def scrambleAgainWrong : ChangeSpec := { name := "scrambleAgain", fn := fun _ => fun
  | [d1, d2, d3, d4, d5] => { results := [.lit (.bool false)], args := [d1, d2, d3, d4, d5] }
  | _ => none }
def ScrambleAgainWrongFalsely : Prop := scrambleAgainRow.holds Try.pinned (OpenSpec.ofChange scrambleAgainWrong)

/-- 'foghornlaw16.ScrambleNils': WHATEVER THE INPUT: true; the input reads as it did. -/
def scrambleNilsSpec : ChangeSpec := { name := "scrambleNils", fn := fun _ => fun
  | [] => { results := [.lit (.bool true)], args := [] }
  | _ => none }
def scrambleNilsRow : OpenClaim := { program := "ytbhhbnpbijehcaa", sum := "e152fdff96f859c7b4b759213377993029162e8340170e6faf848cafed2a14be", func := "foghorn/foghornlaw16.ScrambleNils", spec := "scrambleNils", apart := false }
def ScrambleNilsSaid : Prop := scrambleNilsRow.holds Try.pinned (OpenSpec.ofChange scrambleNilsSpec)

/-- ITS FALSE NEIGHBOUR: 'it returns false'. Refute it at one input. -/
def scrambleNilsWrong : ChangeSpec := { name := "scrambleNils", fn := fun _ => fun
  | [] => { results := [.lit (.bool false)], args := [] }
  | _ => none }
def ScrambleNilsWrongFalsely : Prop := scrambleNilsRow.holds Try.pinned (OpenSpec.ofChange scrambleNilsWrong)

/-- 'foghornlaw16.ScrambleNames': WHATEVER THE INPUT: true; the input reads as it did. -/
def scrambleNamesSpec : ChangeSpec := { name := "scrambleNames", fn := fun _ => fun
  | [] => { results := [.lit (.bool true)], args := [] }
  | _ => none }
def scrambleNamesRow : OpenClaim := { program := "ytbhhbnpbijehcaa", sum := "e152fdff96f859c7b4b759213377993029162e8340170e6faf848cafed2a14be", func := "foghorn/foghornlaw16.ScrambleNames", spec := "scrambleNames", apart := false }
def ScrambleNamesSaid : Prop := scrambleNamesRow.holds Try.pinned (OpenSpec.ofChange scrambleNamesSpec)

/-- ITS FALSE NEIGHBOUR: 'it returns false'. Refute it at one input. -/
def scrambleNamesWrong : ChangeSpec := { name := "scrambleNames", fn := fun _ => fun
  | [] => { results := [.lit (.bool false)], args := [] }
  | _ => none }
def ScrambleNamesWrongFalsely : Prop := scrambleNamesRow.holds Try.pinned (OpenSpec.ofChange scrambleNamesWrong)

/-- 'foghornlaw16.ScramblePlays': WHATEVER THE INPUT: true; the input reads as it did. -/
def scramblePlaysSpec : ChangeSpec := { name := "scramblePlays", fn := fun _ => fun
  | [d1, d2, d3, d4, d5] => { results := [.lit (.bool true)], args := [d1, d2, d3, d4, d5] }
  | _ => none }
def scramblePlaysRow : OpenClaim := { program := "ytbhhbnpbijehcaa", sum := "e152fdff96f859c7b4b759213377993029162e8340170e6faf848cafed2a14be", func := "foghorn/foghornlaw16.ScramblePlays", spec := "scramblePlays", apart := false }
def ScramblePlaysSaid : Prop := scramblePlaysRow.holds Try.pinned (OpenSpec.ofChange scramblePlaysSpec)

/-- ITS FALSE NEIGHBOUR: 'it returns false'. Refute it at one input. -/
def scramblePlaysWrong : ChangeSpec := { name := "scramblePlays", fn := fun _ => fun
  | [d1, d2, d3, d4, d5] => { results := [.lit (.bool false)], args := [d1, d2, d3, d4, d5] }
  | _ => none }
def ScramblePlaysWrongFalsely : Prop := scramblePlaysRow.holds Try.pinned (OpenSpec.ofChange scramblePlaysWrong)

/- THE SECOND FORM. 'bulk': how many values and letters a reading holds, each counted each time it is reached (what is shared counts as often as it is met; a slice's spare places count too). A statement '..UptoSaid' is the law's where the arguments, and the package variables that the reading takes, are together of bulk at most 1048576: NARROWER than '..Said'. Prove '..Said' where nothing that the law and all that it calls make is longer than what came in: it says more and counts as full. Else prove '..UptoSaid'. A law counts once. -/
mutual
def uptoBulk {H : Type} : DataW H → Nat
  | .lit (.string bytes) => bytes.length + 1
  | .lit _ => 1
  | .nil => 1
  | .ptr d => uptoBulk d + 1
  | .slice elems spare => uptoBulkAll elems + uptoBulkAll spare + 1
  | .agg parts => uptoBulkAll parts + 1
  | .iface _ d => uptoBulk d + 1
  | .map entries => uptoBulkEntries entries + 1
  | .held _ => 1
def uptoBulkAll {H : Type} : List (DataW H) → Nat
  | [] => 0
  | d :: r => uptoBulk d + uptoBulkAll r
def uptoBulkEntries {H : Type} : List (Lit × DataW H) → Nat
  | [] => 0
  | x :: r => uptoBulkEntry x + uptoBulkEntries r
def uptoBulkEntry {H : Type} : Lit × DataW H → Nat
  | (.string bytes, d) => bytes.length + uptoBulk d + 1
  | (_, d) => uptoBulk d + 1
 end
def uptoSmall : (H : Type) → List (DataW H) → Bool := fun _ ds => decide (uptoBulkAll ds ≤ 1048576)
def OpenSpec.upto (s : _root_.Go.ChangeSpec) : _root_.Go.OpenSpec := { _root_.Go.OpenSpec.ofChange s with cond := some uptoSmall }

/-- 'foghornlaw16.ScrambleJumps', WHERE WHAT IT READS IS OF BULK AT MOST 1048576: true; the input reads as it did. -/
def scrambleJumpsUptoRow : OpenClaim := { program := "ytbhhbnpbijehcaa", sum := "e152fdff96f859c7b4b759213377993029162e8340170e6faf848cafed2a14be", func := "foghorn/foghornlaw16.ScrambleJumps", spec := "scrambleJumps", apart := false, narrowed := true }
def ScrambleJumpsUptoSaid : Prop := scrambleJumpsUptoRow.holds Try.pinned (OpenSpec.upto scrambleJumpsSpec)

/-- 'foghornlaw16.ScrambleLinear', WHERE WHAT IT READS IS OF BULK AT MOST 1048576: true; the input reads as it did. -/
def scrambleLinearUptoRow : OpenClaim := { program := "ytbhhbnpbijehcaa", sum := "e152fdff96f859c7b4b759213377993029162e8340170e6faf848cafed2a14be", func := "foghorn/foghornlaw16.ScrambleLinear", spec := "scrambleLinear", apart := false, narrowed := true }
def ScrambleLinearUptoSaid : Prop := scrambleLinearUptoRow.holds Try.pinned (OpenSpec.upto scrambleLinearSpec)

/-- 'foghornlaw16.ScrambleState', WHERE WHAT IT READS IS OF BULK AT MOST 1048576: true; the input reads as it did. -/
def scrambleStateUptoRow : OpenClaim := { program := "ytbhhbnpbijehcaa", sum := "e152fdff96f859c7b4b759213377993029162e8340170e6faf848cafed2a14be", func := "foghorn/foghornlaw16.ScrambleState", spec := "scrambleState", apart := false, narrowed := true }
def ScrambleStateUptoSaid : Prop := scrambleStateUptoRow.holds Try.pinned (OpenSpec.upto scrambleStateSpec)

/-- 'foghornlaw16.ScrambleAgain', WHERE WHAT IT READS IS OF BULK AT MOST 1048576: true; the input reads as it did. -/
def scrambleAgainUptoRow : OpenClaim := { program := "ytbhhbnpbijehcaa", sum := "e152fdff96f859c7b4b759213377993029162e8340170e6faf848cafed2a14be", func := "foghorn/foghornlaw16.ScrambleAgain", spec := "scrambleAgain", apart := false, narrowed := true }
def ScrambleAgainUptoSaid : Prop := scrambleAgainUptoRow.holds Try.pinned (OpenSpec.upto scrambleAgainSpec)

/-- 'foghornlaw16.ScrambleNils', WHERE WHAT IT READS IS OF BULK AT MOST 1048576: true; the input reads as it did. -/
def scrambleNilsUptoRow : OpenClaim := { program := "ytbhhbnpbijehcaa", sum := "e152fdff96f859c7b4b759213377993029162e8340170e6faf848cafed2a14be", func := "foghorn/foghornlaw16.ScrambleNils", spec := "scrambleNils", apart := false, narrowed := true }
def ScrambleNilsUptoSaid : Prop := scrambleNilsUptoRow.holds Try.pinned (OpenSpec.upto scrambleNilsSpec)

/-- 'foghornlaw16.ScrambleNames', WHERE WHAT IT READS IS OF BULK AT MOST 1048576: true; the input reads as it did. -/
def scrambleNamesUptoRow : OpenClaim := { program := "ytbhhbnpbijehcaa", sum := "e152fdff96f859c7b4b759213377993029162e8340170e6faf848cafed2a14be", func := "foghorn/foghornlaw16.ScrambleNames", spec := "scrambleNames", apart := false, narrowed := true }
def ScrambleNamesUptoSaid : Prop := scrambleNamesUptoRow.holds Try.pinned (OpenSpec.upto scrambleNamesSpec)

/-- 'foghornlaw16.ScramblePlays', WHERE WHAT IT READS IS OF BULK AT MOST 1048576: true; the input reads as it did. -/
def scramblePlaysUptoRow : OpenClaim := { program := "ytbhhbnpbijehcaa", sum := "e152fdff96f859c7b4b759213377993029162e8340170e6faf848cafed2a14be", func := "foghorn/foghornlaw16.ScramblePlays", spec := "scramblePlays", apart := false, narrowed := true }
def ScramblePlaysUptoSaid : Prop := scramblePlaysUptoRow.holds Try.pinned (OpenSpec.upto scramblePlaysSpec)

end Rows
end Go.Proofs.Ytbhhbnpbijehcaa
