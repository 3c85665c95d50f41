/-
  No cell of these rows narrows 'for every input' (looked for: loops, veiled, ifaces, maps, wideKeys, modest, calm, conditions, laid).
  DERIVED. THE GIVEN ROWS OF THIS SEAT. 12 by the template 'for every input the law returns true; each argument reads behind the call as it read before'; 0 by the template 'total and deterministic' (their statements: YtfffobnjdaogaaaTotals.lean).
  GIVEN WITH THE SEED: the statements are not yours to turn. If you find one false, say at which input.
  Laid BY PROGRAM, IN A SANDBOX (cutbox-rows.mjs): the forced cells as the released guide's own fill.sh prints them over the translation 1d0256e969853b17… (all of the seat's roots in one cut). By AI agents, Wed Nov 11 2026. No macro, syntax, notation, axiom, sorry.
-/
import Derived.Test.YtfffobnjdaogaaaChecked
import GoSem.Claim
import GoSem.ClaimJoined
import GoSem.ClaimMapViews
import Derived.JoinedTies
import Derived.KernelRfl
namespace Go.Proofs.Ytfffobnjdaogaaa
/- THE CELL 'sum', in the pinned program and in every row, IS THE sha256 OF THE DUMP (.gsa) THAT YtfffobnjdaogaaaProg.lean LOADS. Nothing in Lean hashes anything: it is a label: what it is worth is what the hold of that sum in a sandbox is worth. -/
noncomputable def Try.pinned : Pinned := { name := "ytfffobnjdaogaaa", sum := "1d0256e969853b17afcab7aedc1793b95c7388ba9f796b2b4d9daf2de41b6e1b", checked := Try.checked }
namespace Rows
def none {H : Type} : Left H := { results := [], args := [] }

/-- 'laws.FnExactIsTree': WHATEVER THE INPUT: true; the input reads as it did. -/
def fnExactIsTreeSpec : ChangeSpec := { name := "fnExactIsTree", fn := fun _ => fun
  | [d] => { results := [.lit (.bool true)], args := [d] }
  | _ => none }
def fnExactIsTreeRow : OpenClaim := { program := "ytfffobnjdaogaaa", sum := "1d0256e969853b17afcab7aedc1793b95c7388ba9f796b2b4d9daf2de41b6e1b", func := "loop.example/g01391/laws.FnExactIsTree", spec := "fnExactIsTree", apart := false }
def FnExactIsTreeSaid : Prop := fnExactIsTreeRow.holds Try.pinned (OpenSpec.ofChange fnExactIsTreeSpec)

/-- ITS FALSE NEIGHBOUR: 'it returns false'. Refute it at one input. -/
def fnExactIsTreeWrong : ChangeSpec := { name := "fnExactIsTree", fn := fun _ => fun
  | [d] => { results := [.lit (.bool false)], args := [d] }
  | _ => none }
def FnExactIsTreeWrongFalsely : Prop := fnExactIsTreeRow.holds Try.pinned (OpenSpec.ofChange fnExactIsTreeWrong)

/-- 'laws.FnExactLeavesOf': WHATEVER THE INPUT: true; the input reads as it did. -/
def fnExactLeavesOfSpec : ChangeSpec := { name := "fnExactLeavesOf", fn := fun _ => fun
  | [d] => { results := [.lit (.bool true)], args := [d] }
  | _ => none }
def fnExactLeavesOfRow : OpenClaim := { program := "ytfffobnjdaogaaa", sum := "1d0256e969853b17afcab7aedc1793b95c7388ba9f796b2b4d9daf2de41b6e1b", func := "loop.example/g01391/laws.FnExactLeavesOf", spec := "fnExactLeavesOf", apart := false }
def FnExactLeavesOfSaid : Prop := fnExactLeavesOfRow.holds Try.pinned (OpenSpec.ofChange fnExactLeavesOfSpec)

/-- ITS FALSE NEIGHBOUR: 'it returns false'. Refute it at one input. -/
def fnExactLeavesOfWrong : ChangeSpec := { name := "fnExactLeavesOf", fn := fun _ => fun
  | [d] => { results := [.lit (.bool false)], args := [d] }
  | _ => none }
def FnExactLeavesOfWrongFalsely : Prop := fnExactLeavesOfRow.holds Try.pinned (OpenSpec.ofChange fnExactLeavesOfWrong)

/-- 'laws.FnExactParseTree': WHATEVER THE INPUT: true; the input reads as it did. -/
def fnExactParseTreeSpec : ChangeSpec := { name := "fnExactParseTree", fn := fun _ => fun
  | [d] => { results := [.lit (.bool true)], args := [d] }
  | _ => none }
def fnExactParseTreeRow : OpenClaim := { program := "ytfffobnjdaogaaa", sum := "1d0256e969853b17afcab7aedc1793b95c7388ba9f796b2b4d9daf2de41b6e1b", func := "loop.example/g01391/laws.FnExactParseTree", spec := "fnExactParseTree", apart := false }
def FnExactParseTreeSaid : Prop := fnExactParseTreeRow.holds Try.pinned (OpenSpec.ofChange fnExactParseTreeSpec)

/-- ITS FALSE NEIGHBOUR: 'it returns false'. Refute it at one input. -/
def fnExactParseTreeWrong : ChangeSpec := { name := "fnExactParseTree", fn := fun _ => fun
  | [d] => { results := [.lit (.bool false)], args := [d] }
  | _ => none }
def FnExactParseTreeWrongFalsely : Prop := fnExactParseTreeRow.holds Try.pinned (OpenSpec.ofChange fnExactParseTreeWrong)

/-- 'laws.FnExactIsBelow': WHATEVER THE INPUT: true; the input reads as it did. -/
def fnExactIsBelowSpec : ChangeSpec := { name := "fnExactIsBelow", fn := fun _ => fun
  | [d1, d2, d3] => { results := [.lit (.bool true)], args := [d1, d2, d3] }
  | _ => none }
def fnExactIsBelowRow : OpenClaim := { program := "ytfffobnjdaogaaa", sum := "1d0256e969853b17afcab7aedc1793b95c7388ba9f796b2b4d9daf2de41b6e1b", func := "loop.example/g01391/laws.FnExactIsBelow", spec := "fnExactIsBelow", apart := false }
def FnExactIsBelowSaid : Prop := fnExactIsBelowRow.holds Try.pinned (OpenSpec.ofChange fnExactIsBelowSpec)

/-- ITS FALSE NEIGHBOUR: 'it returns false'. Refute it at one input. -/
def fnExactIsBelowWrong : ChangeSpec := { name := "fnExactIsBelow", fn := fun _ => fun
  | [d1, d2, d3] => { results := [.lit (.bool false)], args := [d1, d2, d3] }
  | _ => none }
def FnExactIsBelowWrongFalsely : Prop := fnExactIsBelowRow.holds Try.pinned (OpenSpec.ofChange fnExactIsBelowWrong)

/-- 'laws.FnExactSizesOf': WHATEVER THE INPUT: true; the input reads as it did. -/
def fnExactSizesOfSpec : ChangeSpec := { name := "fnExactSizesOf", fn := fun _ => fun
  | [d] => { results := [.lit (.bool true)], args := [d] }
  | _ => none }
def fnExactSizesOfRow : OpenClaim := { program := "ytfffobnjdaogaaa", sum := "1d0256e969853b17afcab7aedc1793b95c7388ba9f796b2b4d9daf2de41b6e1b", func := "loop.example/g01391/laws.FnExactSizesOf", spec := "fnExactSizesOf", apart := false }
def FnExactSizesOfSaid : Prop := fnExactSizesOfRow.holds Try.pinned (OpenSpec.ofChange fnExactSizesOfSpec)

/-- ITS FALSE NEIGHBOUR: 'it returns false'. Refute it at one input. -/
def fnExactSizesOfWrong : ChangeSpec := { name := "fnExactSizesOf", fn := fun _ => fun
  | [d] => { results := [.lit (.bool false)], args := [d] }
  | _ => none }
def FnExactSizesOfWrongFalsely : Prop := fnExactSizesOfRow.holds Try.pinned (OpenSpec.ofChange fnExactSizesOfWrong)

/-- 'laws.FnExactTreeText': WHATEVER THE INPUT: true; the input reads as it did. -/
def fnExactTreeTextSpec : ChangeSpec := { name := "fnExactTreeText", fn := fun _ => fun
  | [d] => { results := [.lit (.bool true)], args := [d] }
  | _ => none }
def fnExactTreeTextRow : OpenClaim := { program := "ytfffobnjdaogaaa", sum := "1d0256e969853b17afcab7aedc1793b95c7388ba9f796b2b4d9daf2de41b6e1b", func := "loop.example/g01391/laws.FnExactTreeText", spec := "fnExactTreeText", recurses := true, apart := false }
def FnExactTreeTextSaid : Prop := fnExactTreeTextRow.holds Try.pinned (OpenSpec.ofChange fnExactTreeTextSpec)

/-- ITS FALSE NEIGHBOUR: 'it returns false'. Refute it at one input. -/
def fnExactTreeTextWrong : ChangeSpec := { name := "fnExactTreeText", fn := fun _ => fun
  | [d] => { results := [.lit (.bool false)], args := [d] }
  | _ => none }
def FnExactTreeTextWrongFalsely : Prop := fnExactTreeTextRow.holds Try.pinned (OpenSpec.ofChange fnExactTreeTextWrong)

/-- 'laws.FnExactNodeAt': WHATEVER THE INPUT: true; the input reads as it did. -/
def fnExactNodeAtSpec : ChangeSpec := { name := "fnExactNodeAt", fn := fun _ => fun
  | [d1, d2] => { results := [.lit (.bool true)], args := [d1, d2] }
  | _ => none }
def fnExactNodeAtRow : OpenClaim := { program := "ytfffobnjdaogaaa", sum := "1d0256e969853b17afcab7aedc1793b95c7388ba9f796b2b4d9daf2de41b6e1b", func := "loop.example/g01391/laws.FnExactNodeAt", spec := "fnExactNodeAt", apart := false }
def FnExactNodeAtSaid : Prop := fnExactNodeAtRow.holds Try.pinned (OpenSpec.ofChange fnExactNodeAtSpec)

/-- ITS FALSE NEIGHBOUR: 'it returns false'. Refute it at one input. -/
def fnExactNodeAtWrong : ChangeSpec := { name := "fnExactNodeAt", fn := fun _ => fun
  | [d1, d2] => { results := [.lit (.bool false)], args := [d1, d2] }
  | _ => none }
def FnExactNodeAtWrongFalsely : Prop := fnExactNodeAtRow.holds Try.pinned (OpenSpec.ofChange fnExactNodeAtWrong)

/-- 'laws.FnExactLevelOrderOf': WHATEVER THE INPUT: true; the input reads as it did. -/
def fnExactLevelOrderOfSpec : ChangeSpec := { name := "fnExactLevelOrderOf", fn := fun _ => fun
  | [d] => { results := [.lit (.bool true)], args := [d] }
  | _ => none }
def fnExactLevelOrderOfRow : OpenClaim := { program := "ytfffobnjdaogaaa", sum := "1d0256e969853b17afcab7aedc1793b95c7388ba9f796b2b4d9daf2de41b6e1b", func := "loop.example/g01391/laws.FnExactLevelOrderOf", spec := "fnExactLevelOrderOf", apart := false }
def FnExactLevelOrderOfSaid : Prop := fnExactLevelOrderOfRow.holds Try.pinned (OpenSpec.ofChange fnExactLevelOrderOfSpec)

/-- ITS FALSE NEIGHBOUR: 'it returns false'. Refute it at one input. -/
def fnExactLevelOrderOfWrong : ChangeSpec := { name := "fnExactLevelOrderOf", fn := fun _ => fun
  | [d] => { results := [.lit (.bool false)], args := [d] }
  | _ => none }
def FnExactLevelOrderOfWrongFalsely : Prop := fnExactLevelOrderOfRow.holds Try.pinned (OpenSpec.ofChange fnExactLevelOrderOfWrong)

/-- 'laws.FnExactPostorderOf': WHATEVER THE INPUT: true; the input reads as it did. -/
def fnExactPostorderOfSpec : ChangeSpec := { name := "fnExactPostorderOf", fn := fun _ => fun
  | [d] => { results := [.lit (.bool true)], args := [d] }
  | _ => none }
def fnExactPostorderOfRow : OpenClaim := { program := "ytfffobnjdaogaaa", sum := "1d0256e969853b17afcab7aedc1793b95c7388ba9f796b2b4d9daf2de41b6e1b", func := "loop.example/g01391/laws.FnExactPostorderOf", spec := "fnExactPostorderOf", recurses := true, apart := false }
def FnExactPostorderOfSaid : Prop := fnExactPostorderOfRow.holds Try.pinned (OpenSpec.ofChange fnExactPostorderOfSpec)

/-- ITS FALSE NEIGHBOUR: 'it returns false'. Refute it at one input. -/
def fnExactPostorderOfWrong : ChangeSpec := { name := "fnExactPostorderOf", fn := fun _ => fun
  | [d] => { results := [.lit (.bool false)], args := [d] }
  | _ => none }
def FnExactPostorderOfWrongFalsely : Prop := fnExactPostorderOfRow.holds Try.pinned (OpenSpec.ofChange fnExactPostorderOfWrong)

/-- 'laws.FnExactCompareTrees': WHATEVER THE INPUT: true; the input reads as it did. -/
def fnExactCompareTreesSpec : ChangeSpec := { name := "fnExactCompareTrees", fn := fun _ => fun
  | [d1, d2] => { results := [.lit (.bool true)], args := [d1, d2] }
  | _ => none }
def fnExactCompareTreesRow : OpenClaim := { program := "ytfffobnjdaogaaa", sum := "1d0256e969853b17afcab7aedc1793b95c7388ba9f796b2b4d9daf2de41b6e1b", func := "loop.example/g01391/laws.FnExactCompareTrees", spec := "fnExactCompareTrees", apart := false }
def FnExactCompareTreesSaid : Prop := fnExactCompareTreesRow.holds Try.pinned (OpenSpec.ofChange fnExactCompareTreesSpec)

/-- ITS FALSE NEIGHBOUR: 'it returns false'. Refute it at one input. -/
def fnExactCompareTreesWrong : ChangeSpec := { name := "fnExactCompareTrees", fn := fun _ => fun
  | [d1, d2] => { results := [.lit (.bool false)], args := [d1, d2] }
  | _ => none }
def FnExactCompareTreesWrongFalsely : Prop := fnExactCompareTreesRow.holds Try.pinned (OpenSpec.ofChange fnExactCompareTreesWrong)

/-- 'laws.FnExactChildrenOf': WHATEVER THE INPUT: true; the input reads as it did. -/
def fnExactChildrenOfSpec : ChangeSpec := { name := "fnExactChildrenOf", fn := fun _ => fun
  | [d1, d2] => { results := [.lit (.bool true)], args := [d1, d2] }
  | _ => none }
def fnExactChildrenOfRow : OpenClaim := { program := "ytfffobnjdaogaaa", sum := "1d0256e969853b17afcab7aedc1793b95c7388ba9f796b2b4d9daf2de41b6e1b", func := "loop.example/g01391/laws.FnExactChildrenOf", spec := "fnExactChildrenOf", apart := false }
def FnExactChildrenOfSaid : Prop := fnExactChildrenOfRow.holds Try.pinned (OpenSpec.ofChange fnExactChildrenOfSpec)

/-- ITS FALSE NEIGHBOUR: 'it returns false'. Refute it at one input. -/
def fnExactChildrenOfWrong : ChangeSpec := { name := "fnExactChildrenOf", fn := fun _ => fun
  | [d1, d2] => { results := [.lit (.bool false)], args := [d1, d2] }
  | _ => none }
def FnExactChildrenOfWrongFalsely : Prop := fnExactChildrenOfRow.holds Try.pinned (OpenSpec.ofChange fnExactChildrenOfWrong)

/-- 'laws.FnExactSubtreeAt': WHATEVER THE INPUT: true; the input reads as it did. -/
def fnExactSubtreeAtSpec : ChangeSpec := { name := "fnExactSubtreeAt", fn := fun _ => fun
  | [d1, d2] => { results := [.lit (.bool true)], args := [d1, d2] }
  | _ => none }
def fnExactSubtreeAtRow : OpenClaim := { program := "ytfffobnjdaogaaa", sum := "1d0256e969853b17afcab7aedc1793b95c7388ba9f796b2b4d9daf2de41b6e1b", func := "loop.example/g01391/laws.FnExactSubtreeAt", spec := "fnExactSubtreeAt", apart := false }
def FnExactSubtreeAtSaid : Prop := fnExactSubtreeAtRow.holds Try.pinned (OpenSpec.ofChange fnExactSubtreeAtSpec)

/-- ITS FALSE NEIGHBOUR: 'it returns false'. Refute it at one input. -/
def fnExactSubtreeAtWrong : ChangeSpec := { name := "fnExactSubtreeAt", fn := fun _ => fun
  | [d1, d2] => { results := [.lit (.bool false)], args := [d1, d2] }
  | _ => none }
def FnExactSubtreeAtWrongFalsely : Prop := fnExactSubtreeAtRow.holds Try.pinned (OpenSpec.ofChange fnExactSubtreeAtWrong)

/- THE SECOND FORM. 'bulk': how many values and letters a reading holds, each counted each time it is reached (what is shared counts as often as it is met; a slice's spare places count too). A statement '..UptoSaid' is the law's where the arguments, and the package variables that the reading takes, are together of bulk at most 1048576: NARROWER than '..Said'. Prove '..Said' where nothing that the law and all that it calls make is longer than what came in: it says more and counts as full. Else prove '..UptoSaid'. A law counts once. -/
mutual
def uptoBulk {H : Type} : DataW H → Nat
  | .lit (.string bytes) => bytes.length + 1
  | .lit _ => 1
  | .nil => 1
  | .ptr d => uptoBulk d + 1
  | .slice elems spare => uptoBulkAll elems + uptoBulkAll spare + 1
  | .agg parts => uptoBulkAll parts + 1
  | .iface _ d => uptoBulk d + 1
  | .map entries => uptoBulkEntries entries + 1
  | .held _ => 1
def uptoBulkAll {H : Type} : List (DataW H) → Nat
  | [] => 0
  | d :: r => uptoBulk d + uptoBulkAll r
def uptoBulkEntries {H : Type} : List (Lit × DataW H) → Nat
  | [] => 0
  | x :: r => uptoBulkEntry x + uptoBulkEntries r
def uptoBulkEntry {H : Type} : Lit × DataW H → Nat
  | (.string bytes, d) => bytes.length + uptoBulk d + 1
  | (_, d) => uptoBulk d + 1
 end
def uptoSmall : (H : Type) → List (DataW H) → Bool := fun _ ds => decide (uptoBulkAll ds ≤ 1048576)
def OpenSpec.upto (s : _root_.Go.ChangeSpec) : _root_.Go.OpenSpec := { _root_.Go.OpenSpec.ofChange s with cond := some uptoSmall }

/-- 'laws.FnExactIsTree', WHERE WHAT IT READS IS OF BULK AT MOST 1048576: true; the input reads as it did. -/
def fnExactIsTreeUptoRow : OpenClaim := { program := "ytfffobnjdaogaaa", sum := "1d0256e969853b17afcab7aedc1793b95c7388ba9f796b2b4d9daf2de41b6e1b", func := "loop.example/g01391/laws.FnExactIsTree", spec := "fnExactIsTree", apart := false, narrowed := true }
def FnExactIsTreeUptoSaid : Prop := fnExactIsTreeUptoRow.holds Try.pinned (OpenSpec.upto fnExactIsTreeSpec)

/-- 'laws.FnExactLeavesOf', WHERE WHAT IT READS IS OF BULK AT MOST 1048576: true; the input reads as it did. -/
def fnExactLeavesOfUptoRow : OpenClaim := { program := "ytfffobnjdaogaaa", sum := "1d0256e969853b17afcab7aedc1793b95c7388ba9f796b2b4d9daf2de41b6e1b", func := "loop.example/g01391/laws.FnExactLeavesOf", spec := "fnExactLeavesOf", apart := false, narrowed := true }
def FnExactLeavesOfUptoSaid : Prop := fnExactLeavesOfUptoRow.holds Try.pinned (OpenSpec.upto fnExactLeavesOfSpec)

/-- 'laws.FnExactParseTree', WHERE WHAT IT READS IS OF BULK AT MOST 1048576: true; the input reads as it did. -/
def fnExactParseTreeUptoRow : OpenClaim := { program := "ytfffobnjdaogaaa", sum := "1d0256e969853b17afcab7aedc1793b95c7388ba9f796b2b4d9daf2de41b6e1b", func := "loop.example/g01391/laws.FnExactParseTree", spec := "fnExactParseTree", apart := false, narrowed := true }
def FnExactParseTreeUptoSaid : Prop := fnExactParseTreeUptoRow.holds Try.pinned (OpenSpec.upto fnExactParseTreeSpec)

/-- 'laws.FnExactIsBelow', WHERE WHAT IT READS IS OF BULK AT MOST 1048576: true; the input reads as it did. -/
def fnExactIsBelowUptoRow : OpenClaim := { program := "ytfffobnjdaogaaa", sum := "1d0256e969853b17afcab7aedc1793b95c7388ba9f796b2b4d9daf2de41b6e1b", func := "loop.example/g01391/laws.FnExactIsBelow", spec := "fnExactIsBelow", apart := false, narrowed := true }
def FnExactIsBelowUptoSaid : Prop := fnExactIsBelowUptoRow.holds Try.pinned (OpenSpec.upto fnExactIsBelowSpec)

/-- 'laws.FnExactSizesOf', WHERE WHAT IT READS IS OF BULK AT MOST 1048576: true; the input reads as it did. -/
def fnExactSizesOfUptoRow : OpenClaim := { program := "ytfffobnjdaogaaa", sum := "1d0256e969853b17afcab7aedc1793b95c7388ba9f796b2b4d9daf2de41b6e1b", func := "loop.example/g01391/laws.FnExactSizesOf", spec := "fnExactSizesOf", apart := false, narrowed := true }
def FnExactSizesOfUptoSaid : Prop := fnExactSizesOfUptoRow.holds Try.pinned (OpenSpec.upto fnExactSizesOfSpec)

/-- 'laws.FnExactTreeText', WHERE WHAT IT READS IS OF BULK AT MOST 1048576: true; the input reads as it did. -/
def fnExactTreeTextUptoRow : OpenClaim := { program := "ytfffobnjdaogaaa", sum := "1d0256e969853b17afcab7aedc1793b95c7388ba9f796b2b4d9daf2de41b6e1b", func := "loop.example/g01391/laws.FnExactTreeText", spec := "fnExactTreeText", recurses := true, apart := false, narrowed := true }
def FnExactTreeTextUptoSaid : Prop := fnExactTreeTextUptoRow.holds Try.pinned (OpenSpec.upto fnExactTreeTextSpec)

/-- 'laws.FnExactNodeAt', WHERE WHAT IT READS IS OF BULK AT MOST 1048576: true; the input reads as it did. -/
def fnExactNodeAtUptoRow : OpenClaim := { program := "ytfffobnjdaogaaa", sum := "1d0256e969853b17afcab7aedc1793b95c7388ba9f796b2b4d9daf2de41b6e1b", func := "loop.example/g01391/laws.FnExactNodeAt", spec := "fnExactNodeAt", apart := false, narrowed := true }
def FnExactNodeAtUptoSaid : Prop := fnExactNodeAtUptoRow.holds Try.pinned (OpenSpec.upto fnExactNodeAtSpec)

/-- 'laws.FnExactLevelOrderOf', WHERE WHAT IT READS IS OF BULK AT MOST 1048576: true; the input reads as it did. -/
def fnExactLevelOrderOfUptoRow : OpenClaim := { program := "ytfffobnjdaogaaa", sum := "1d0256e969853b17afcab7aedc1793b95c7388ba9f796b2b4d9daf2de41b6e1b", func := "loop.example/g01391/laws.FnExactLevelOrderOf", spec := "fnExactLevelOrderOf", apart := false, narrowed := true }
def FnExactLevelOrderOfUptoSaid : Prop := fnExactLevelOrderOfUptoRow.holds Try.pinned (OpenSpec.upto fnExactLevelOrderOfSpec)

/-- 'laws.FnExactPostorderOf', WHERE WHAT IT READS IS OF BULK AT MOST 1048576: true; the input reads as it did. -/
def fnExactPostorderOfUptoRow : OpenClaim := { program := "ytfffobnjdaogaaa", sum := "1d0256e969853b17afcab7aedc1793b95c7388ba9f796b2b4d9daf2de41b6e1b", func := "loop.example/g01391/laws.FnExactPostorderOf", spec := "fnExactPostorderOf", recurses := true, apart := false, narrowed := true }
def FnExactPostorderOfUptoSaid : Prop := fnExactPostorderOfUptoRow.holds Try.pinned (OpenSpec.upto fnExactPostorderOfSpec)

/-- 'laws.FnExactCompareTrees', WHERE WHAT IT READS IS OF BULK AT MOST 1048576: true; the input reads as it did. -/
def fnExactCompareTreesUptoRow : OpenClaim := { program := "ytfffobnjdaogaaa", sum := "1d0256e969853b17afcab7aedc1793b95c7388ba9f796b2b4d9daf2de41b6e1b", func := "loop.example/g01391/laws.FnExactCompareTrees", spec := "fnExactCompareTrees", apart := false, narrowed := true }
def FnExactCompareTreesUptoSaid : Prop := fnExactCompareTreesUptoRow.holds Try.pinned (OpenSpec.upto fnExactCompareTreesSpec)

/-- 'laws.FnExactChildrenOf', WHERE WHAT IT READS IS OF BULK AT MOST 1048576: true; the input reads as it did. -/
def fnExactChildrenOfUptoRow : OpenClaim := { program := "ytfffobnjdaogaaa", sum := "1d0256e969853b17afcab7aedc1793b95c7388ba9f796b2b4d9daf2de41b6e1b", func := "loop.example/g01391/laws.FnExactChildrenOf", spec := "fnExactChildrenOf", apart := false, narrowed := true }
def FnExactChildrenOfUptoSaid : Prop := fnExactChildrenOfUptoRow.holds Try.pinned (OpenSpec.upto fnExactChildrenOfSpec)

/-- 'laws.FnExactSubtreeAt', WHERE WHAT IT READS IS OF BULK AT MOST 1048576: true; the input reads as it did. -/
def fnExactSubtreeAtUptoRow : OpenClaim := { program := "ytfffobnjdaogaaa", sum := "1d0256e969853b17afcab7aedc1793b95c7388ba9f796b2b4d9daf2de41b6e1b", func := "loop.example/g01391/laws.FnExactSubtreeAt", spec := "fnExactSubtreeAt", apart := false, narrowed := true }
def FnExactSubtreeAtUptoSaid : Prop := fnExactSubtreeAtUptoRow.holds Try.pinned (OpenSpec.upto fnExactSubtreeAtSpec)

end Rows
end Go.Proofs.Ytfffobnjdaogaaa
