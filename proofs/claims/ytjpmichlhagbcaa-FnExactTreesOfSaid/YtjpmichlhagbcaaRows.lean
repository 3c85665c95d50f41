/-
  No cell of these rows narrows 'for every input' (looked for: loops, veiled, ifaces, maps, wideKeys, modest, calm, conditions, laid).
  DERIVED. THE GIVEN ROWS OF THIS SEAT. 12 by the template 'for every input the law returns true; each argument reads behind the call as it read before'; 0 by the template 'total and deterministic' (their statements: YtjpmichlhagbcaaTotals.lean).
  GIVEN WITH THE SEED: the statements are not yours to turn. If you find one false, say at which input.
  Laid BY PROGRAM, IN A SANDBOX (cutbox-rows.mjs): the forced cells as the released guide's own fill.sh prints them over the translation b26fbad79d9213e2… (all of the seat's roots in one cut). By AI agents, Wed Nov 11 2026. No macro, syntax, notation, axiom, sorry.
-/
import Derived.Test.YtjpmichlhagbcaaChecked
import GoSem.Claim
import GoSem.ClaimJoined
import GoSem.ClaimMapViews
import Derived.JoinedTies
import Derived.KernelRfl
namespace Go.Proofs.Ytjpmichlhagbcaa
/- THE CELL 'sum', in the pinned program and in every row, IS THE sha256 OF THE DUMP (.gsa) THAT YtjpmichlhagbcaaProg.lean LOADS. Nothing in Lean hashes anything: it is a label: what it is worth is what the hold of that sum in a sandbox is worth. -/
noncomputable def Try.pinned : Pinned := { name := "ytjpmichlhagbcaa", sum := "b26fbad79d9213e22e7000b7c07ae95d9dd330222003e8b7bcb147562fce7af1", checked := Try.checked }
namespace Rows
def none {H : Type} : Left H := { results := [], args := [] }

/-- 'laws.FnExactSidesOf': WHATEVER THE INPUT: true; the input reads as it did. -/
def fnExactSidesOfSpec : ChangeSpec := { name := "fnExactSidesOf", fn := fun _ => fun
  | [d] => { results := [.lit (.bool true)], args := [d] }
  | _ => none }
def fnExactSidesOfRow : OpenClaim := { program := "ytjpmichlhagbcaa", sum := "b26fbad79d9213e22e7000b7c07ae95d9dd330222003e8b7bcb147562fce7af1", func := "loop.example/g01391/laws.FnExactSidesOf", spec := "fnExactSidesOf", apart := false }
def FnExactSidesOfSaid : Prop := fnExactSidesOfRow.holds Try.pinned (OpenSpec.ofChange fnExactSidesOfSpec)

/-- ITS FALSE NEIGHBOUR: 'it returns false'. Refute it at one input. -/
def fnExactSidesOfWrong : ChangeSpec := { name := "fnExactSidesOf", fn := fun _ => fun
  | [d] => { results := [.lit (.bool false)], args := [d] }
  | _ => none }
def FnExactSidesOfWrongFalsely : Prop := fnExactSidesOfRow.holds Try.pinned (OpenSpec.ofChange fnExactSidesOfWrong)

/-- 'laws.FnExactJoinSides': WHATEVER THE INPUT: true; the input reads as it did. -/
def fnExactJoinSidesSpec : ChangeSpec := { name := "fnExactJoinSides", fn := fun _ => fun
  | [d1, d2] => { results := [.lit (.bool true)], args := [d1, d2] }
  | _ => none }
def fnExactJoinSidesRow : OpenClaim := { program := "ytjpmichlhagbcaa", sum := "b26fbad79d9213e22e7000b7c07ae95d9dd330222003e8b7bcb147562fce7af1", func := "loop.example/g01391/laws.FnExactJoinSides", spec := "fnExactJoinSides", apart := false }
def FnExactJoinSidesSaid : Prop := fnExactJoinSidesRow.holds Try.pinned (OpenSpec.ofChange fnExactJoinSidesSpec)

/-- ITS FALSE NEIGHBOUR: 'it returns false'. Refute it at one input. -/
def fnExactJoinSidesWrong : ChangeSpec := { name := "fnExactJoinSides", fn := fun _ => fun
  | [d1, d2] => { results := [.lit (.bool false)], args := [d1, d2] }
  | _ => none }
def FnExactJoinSidesWrongFalsely : Prop := fnExactJoinSidesRow.holds Try.pinned (OpenSpec.ofChange fnExactJoinSidesWrong)

/-- 'laws.FnExactMirrorBinary': WHATEVER THE INPUT: true; the input reads as it did. -/
def fnExactMirrorBinarySpec : ChangeSpec := { name := "fnExactMirrorBinary", fn := fun _ => fun
  | [d] => { results := [.lit (.bool true)], args := [d] }
  | _ => none }
def fnExactMirrorBinaryRow : OpenClaim := { program := "ytjpmichlhagbcaa", sum := "b26fbad79d9213e22e7000b7c07ae95d9dd330222003e8b7bcb147562fce7af1", func := "loop.example/g01391/laws.FnExactMirrorBinary", spec := "fnExactMirrorBinary", recurses := true, apart := false }
def FnExactMirrorBinarySaid : Prop := fnExactMirrorBinaryRow.holds Try.pinned (OpenSpec.ofChange fnExactMirrorBinarySpec)

/-- ITS FALSE NEIGHBOUR: 'it returns false'. Refute it at one input. -/
def fnExactMirrorBinaryWrong : ChangeSpec := { name := "fnExactMirrorBinary", fn := fun _ => fun
  | [d] => { results := [.lit (.bool false)], args := [d] }
  | _ => none }
def FnExactMirrorBinaryWrongFalsely : Prop := fnExactMirrorBinaryRow.holds Try.pinned (OpenSpec.ofChange fnExactMirrorBinaryWrong)

/-- 'laws.FnExactBracketsOf': WHATEVER THE INPUT: true; the input reads as it did. -/
def fnExactBracketsOfSpec : ChangeSpec := { name := "fnExactBracketsOf", fn := fun _ => fun
  | [d] => { results := [.lit (.bool true)], args := [d] }
  | _ => none }
def fnExactBracketsOfRow : OpenClaim := { program := "ytjpmichlhagbcaa", sum := "b26fbad79d9213e22e7000b7c07ae95d9dd330222003e8b7bcb147562fce7af1", func := "loop.example/g01391/laws.FnExactBracketsOf", spec := "fnExactBracketsOf", recurses := true, apart := false }
def FnExactBracketsOfSaid : Prop := fnExactBracketsOfRow.holds Try.pinned (OpenSpec.ofChange fnExactBracketsOfSpec)

/-- ITS FALSE NEIGHBOUR: 'it returns false'. Refute it at one input. -/
def fnExactBracketsOfWrong : ChangeSpec := { name := "fnExactBracketsOf", fn := fun _ => fun
  | [d] => { results := [.lit (.bool false)], args := [d] }
  | _ => none }
def FnExactBracketsOfWrongFalsely : Prop := fnExactBracketsOfRow.holds Try.pinned (OpenSpec.ofChange fnExactBracketsOfWrong)

/-- 'laws.FnExactParseBrackets': WHATEVER THE INPUT: true; the input reads as it did. -/
def fnExactParseBracketsSpec : ChangeSpec := { name := "fnExactParseBrackets", fn := fun _ => fun
  | [d] => { results := [.lit (.bool true)], args := [d] }
  | _ => none }
def fnExactParseBracketsRow : OpenClaim := { program := "ytjpmichlhagbcaa", sum := "b26fbad79d9213e22e7000b7c07ae95d9dd330222003e8b7bcb147562fce7af1", func := "loop.example/g01391/laws.FnExactParseBrackets", spec := "fnExactParseBrackets", recurses := true, apart := false }
def FnExactParseBracketsSaid : Prop := fnExactParseBracketsRow.holds Try.pinned (OpenSpec.ofChange fnExactParseBracketsSpec)

/-- ITS FALSE NEIGHBOUR: 'it returns false'. Refute it at one input. -/
def fnExactParseBracketsWrong : ChangeSpec := { name := "fnExactParseBrackets", fn := fun _ => fun
  | [d] => { results := [.lit (.bool false)], args := [d] }
  | _ => none }
def FnExactParseBracketsWrongFalsely : Prop := fnExactParseBracketsRow.holds Try.pinned (OpenSpec.ofChange fnExactParseBracketsWrong)

/-- 'laws.FnExactBinaryOfVector': WHATEVER THE INPUT: true; the input reads as it did. -/
def fnExactBinaryOfVectorSpec : ChangeSpec := { name := "fnExactBinaryOfVector", fn := fun _ => fun
  | [d] => { results := [.lit (.bool true)], args := [d] }
  | _ => none }
def fnExactBinaryOfVectorRow : OpenClaim := { program := "ytjpmichlhagbcaa", sum := "b26fbad79d9213e22e7000b7c07ae95d9dd330222003e8b7bcb147562fce7af1", func := "loop.example/g01391/laws.FnExactBinaryOfVector", spec := "fnExactBinaryOfVector", recurses := true, apart := false }
def FnExactBinaryOfVectorSaid : Prop := fnExactBinaryOfVectorRow.holds Try.pinned (OpenSpec.ofChange fnExactBinaryOfVectorSpec)

/-- ITS FALSE NEIGHBOUR: 'it returns false'. Refute it at one input. -/
def fnExactBinaryOfVectorWrong : ChangeSpec := { name := "fnExactBinaryOfVector", fn := fun _ => fun
  | [d] => { results := [.lit (.bool false)], args := [d] }
  | _ => none }
def FnExactBinaryOfVectorWrongFalsely : Prop := fnExactBinaryOfVectorRow.holds Try.pinned (OpenSpec.ofChange fnExactBinaryOfVectorWrong)

/-- 'laws.FnExactVectorOf': WHATEVER THE INPUT: true; the input reads as it did. -/
def fnExactVectorOfSpec : ChangeSpec := { name := "fnExactVectorOf", fn := fun _ => fun
  | [d] => { results := [.lit (.bool true)], args := [d] }
  | _ => none }
def fnExactVectorOfRow : OpenClaim := { program := "ytjpmichlhagbcaa", sum := "b26fbad79d9213e22e7000b7c07ae95d9dd330222003e8b7bcb147562fce7af1", func := "loop.example/g01391/laws.FnExactVectorOf", spec := "fnExactVectorOf", recurses := true, apart := false }
def FnExactVectorOfSaid : Prop := fnExactVectorOfRow.holds Try.pinned (OpenSpec.ofChange fnExactVectorOfSpec)

/-- ITS FALSE NEIGHBOUR: 'it returns false'. Refute it at one input. -/
def fnExactVectorOfWrong : ChangeSpec := { name := "fnExactVectorOf", fn := fun _ => fun
  | [d] => { results := [.lit (.bool false)], args := [d] }
  | _ => none }
def FnExactVectorOfWrongFalsely : Prop := fnExactVectorOfRow.holds Try.pinned (OpenSpec.ofChange fnExactVectorOfWrong)

/-- 'laws.FnExactInnerOrder': WHATEVER THE INPUT: true; the input reads as it did. -/
def fnExactInnerOrderSpec : ChangeSpec := { name := "fnExactInnerOrder", fn := fun _ => fun
  | [d] => { results := [.lit (.bool true)], args := [d] }
  | _ => none }
def fnExactInnerOrderRow : OpenClaim := { program := "ytjpmichlhagbcaa", sum := "b26fbad79d9213e22e7000b7c07ae95d9dd330222003e8b7bcb147562fce7af1", func := "loop.example/g01391/laws.FnExactInnerOrder", spec := "fnExactInnerOrder", recurses := true, apart := false }
def FnExactInnerOrderSaid : Prop := fnExactInnerOrderRow.holds Try.pinned (OpenSpec.ofChange fnExactInnerOrderSpec)

/-- ITS FALSE NEIGHBOUR: 'it returns false'. Refute it at one input. -/
def fnExactInnerOrderWrong : ChangeSpec := { name := "fnExactInnerOrder", fn := fun _ => fun
  | [d] => { results := [.lit (.bool false)], args := [d] }
  | _ => none }
def FnExactInnerOrderWrongFalsely : Prop := fnExactInnerOrderRow.holds Try.pinned (OpenSpec.ofChange fnExactInnerOrderWrong)

/-- 'laws.FnExactIsAtMost': WHATEVER THE INPUT: true; the input reads as it did. -/
def fnExactIsAtMostSpec : ChangeSpec := { name := "fnExactIsAtMost", fn := fun _ => fun
  | [d1, d2] => { results := [.lit (.bool true)], args := [d1, d2] }
  | _ => none }
def fnExactIsAtMostRow : OpenClaim := { program := "ytjpmichlhagbcaa", sum := "b26fbad79d9213e22e7000b7c07ae95d9dd330222003e8b7bcb147562fce7af1", func := "loop.example/g01391/laws.FnExactIsAtMost", spec := "fnExactIsAtMost", recurses := true, apart := false }
def FnExactIsAtMostSaid : Prop := fnExactIsAtMostRow.holds Try.pinned (OpenSpec.ofChange fnExactIsAtMostSpec)

/-- ITS FALSE NEIGHBOUR: 'it returns false'. Refute it at one input. -/
def fnExactIsAtMostWrong : ChangeSpec := { name := "fnExactIsAtMost", fn := fun _ => fun
  | [d1, d2] => { results := [.lit (.bool false)], args := [d1, d2] }
  | _ => none }
def FnExactIsAtMostWrongFalsely : Prop := fnExactIsAtMostRow.holds Try.pinned (OpenSpec.ofChange fnExactIsAtMostWrong)

/-- 'laws.FnExactBinaryOf': WHATEVER THE INPUT: true; the input reads as it did. -/
def fnExactBinaryOfSpec : ChangeSpec := { name := "fnExactBinaryOf", fn := fun _ => fun
  | [d] => { results := [.lit (.bool true)], args := [d] }
  | _ => none }
def fnExactBinaryOfRow : OpenClaim := { program := "ytjpmichlhagbcaa", sum := "b26fbad79d9213e22e7000b7c07ae95d9dd330222003e8b7bcb147562fce7af1", func := "loop.example/g01391/laws.FnExactBinaryOf", spec := "fnExactBinaryOf", recurses := true, apart := false }
def FnExactBinaryOfSaid : Prop := fnExactBinaryOfRow.holds Try.pinned (OpenSpec.ofChange fnExactBinaryOfSpec)

/-- ITS FALSE NEIGHBOUR: 'it returns false'. Refute it at one input. -/
def fnExactBinaryOfWrong : ChangeSpec := { name := "fnExactBinaryOf", fn := fun _ => fun
  | [d] => { results := [.lit (.bool false)], args := [d] }
  | _ => none }
def FnExactBinaryOfWrongFalsely : Prop := fnExactBinaryOfRow.holds Try.pinned (OpenSpec.ofChange fnExactBinaryOfWrong)

/-- 'laws.FnExactTreesOf': WHATEVER THE INPUT: true; the input reads as it did. -/
def fnExactTreesOfSpec : ChangeSpec := { name := "fnExactTreesOf", fn := fun _ => fun
  | [d] => { results := [.lit (.bool true)], args := [d] }
  | _ => none }
def fnExactTreesOfRow : OpenClaim := { program := "ytjpmichlhagbcaa", sum := "b26fbad79d9213e22e7000b7c07ae95d9dd330222003e8b7bcb147562fce7af1", func := "loop.example/g01391/laws.FnExactTreesOf", spec := "fnExactTreesOf", apart := false }
def FnExactTreesOfSaid : Prop := fnExactTreesOfRow.holds Try.pinned (OpenSpec.ofChange fnExactTreesOfSpec)

/-- ITS FALSE NEIGHBOUR: 'it returns false'. Refute it at one input. -/
def fnExactTreesOfWrong : ChangeSpec := { name := "fnExactTreesOf", fn := fun _ => fun
  | [d] => { results := [.lit (.bool false)], args := [d] }
  | _ => none }
def FnExactTreesOfWrongFalsely : Prop := fnExactTreesOfRow.holds Try.pinned (OpenSpec.ofChange fnExactTreesOfWrong)

/-- 'laws.FnExactCountsOfTree': WHATEVER THE INPUT: true; the input reads as it did. -/
def fnExactCountsOfTreeSpec : ChangeSpec := { name := "fnExactCountsOfTree", fn := fun _ => fun
  | [d] => { results := [.lit (.bool true)], args := [d] }
  | _ => none }
def fnExactCountsOfTreeRow : OpenClaim := { program := "ytjpmichlhagbcaa", sum := "b26fbad79d9213e22e7000b7c07ae95d9dd330222003e8b7bcb147562fce7af1", func := "loop.example/g01391/laws.FnExactCountsOfTree", spec := "fnExactCountsOfTree", apart := false }
def FnExactCountsOfTreeSaid : Prop := fnExactCountsOfTreeRow.holds Try.pinned (OpenSpec.ofChange fnExactCountsOfTreeSpec)

/-- ITS FALSE NEIGHBOUR: 'it returns false'. Refute it at one input. -/
def fnExactCountsOfTreeWrong : ChangeSpec := { name := "fnExactCountsOfTree", fn := fun _ => fun
  | [d] => { results := [.lit (.bool false)], args := [d] }
  | _ => none }
def FnExactCountsOfTreeWrongFalsely : Prop := fnExactCountsOfTreeRow.holds Try.pinned (OpenSpec.ofChange fnExactCountsOfTreeWrong)

/- THE SECOND FORM. 'bulk': how many values and letters a reading holds, each counted each time it is reached (what is shared counts as often as it is met; a slice's spare places count too). A statement '..UptoSaid' is the law's where the arguments, and the package variables that the reading takes, are together of bulk at most 1048576: NARROWER than '..Said'. Prove '..Said' where nothing that the law and all that it calls make is longer than what came in: it says more and counts as full. Else prove '..UptoSaid'. A law counts once. -/
mutual
def uptoBulk {H : Type} : DataW H → Nat
  | .lit (.string bytes) => bytes.length + 1
  | .lit _ => 1
  | .nil => 1
  | .ptr d => uptoBulk d + 1
  | .slice elems spare => uptoBulkAll elems + uptoBulkAll spare + 1
  | .agg parts => uptoBulkAll parts + 1
  | .iface _ d => uptoBulk d + 1
  | .map entries => uptoBulkEntries entries + 1
  | .held _ => 1
def uptoBulkAll {H : Type} : List (DataW H) → Nat
  | [] => 0
  | d :: r => uptoBulk d + uptoBulkAll r
def uptoBulkEntries {H : Type} : List (Lit × DataW H) → Nat
  | [] => 0
  | x :: r => uptoBulkEntry x + uptoBulkEntries r
def uptoBulkEntry {H : Type} : Lit × DataW H → Nat
  | (.string bytes, d) => bytes.length + uptoBulk d + 1
  | (_, d) => uptoBulk d + 1
 end
def uptoSmall : (H : Type) → List (DataW H) → Bool := fun _ ds => decide (uptoBulkAll ds ≤ 1048576)
def OpenSpec.upto (s : _root_.Go.ChangeSpec) : _root_.Go.OpenSpec := { _root_.Go.OpenSpec.ofChange s with cond := some uptoSmall }

/-- 'laws.FnExactSidesOf', WHERE WHAT IT READS IS OF BULK AT MOST 1048576: true; the input reads as it did. -/
def fnExactSidesOfUptoRow : OpenClaim := { program := "ytjpmichlhagbcaa", sum := "b26fbad79d9213e22e7000b7c07ae95d9dd330222003e8b7bcb147562fce7af1", func := "loop.example/g01391/laws.FnExactSidesOf", spec := "fnExactSidesOf", apart := false, narrowed := true }
def FnExactSidesOfUptoSaid : Prop := fnExactSidesOfUptoRow.holds Try.pinned (OpenSpec.upto fnExactSidesOfSpec)

/-- 'laws.FnExactJoinSides', WHERE WHAT IT READS IS OF BULK AT MOST 1048576: true; the input reads as it did. -/
def fnExactJoinSidesUptoRow : OpenClaim := { program := "ytjpmichlhagbcaa", sum := "b26fbad79d9213e22e7000b7c07ae95d9dd330222003e8b7bcb147562fce7af1", func := "loop.example/g01391/laws.FnExactJoinSides", spec := "fnExactJoinSides", apart := false, narrowed := true }
def FnExactJoinSidesUptoSaid : Prop := fnExactJoinSidesUptoRow.holds Try.pinned (OpenSpec.upto fnExactJoinSidesSpec)

/-- 'laws.FnExactMirrorBinary', WHERE WHAT IT READS IS OF BULK AT MOST 1048576: true; the input reads as it did. -/
def fnExactMirrorBinaryUptoRow : OpenClaim := { program := "ytjpmichlhagbcaa", sum := "b26fbad79d9213e22e7000b7c07ae95d9dd330222003e8b7bcb147562fce7af1", func := "loop.example/g01391/laws.FnExactMirrorBinary", spec := "fnExactMirrorBinary", recurses := true, apart := false, narrowed := true }
def FnExactMirrorBinaryUptoSaid : Prop := fnExactMirrorBinaryUptoRow.holds Try.pinned (OpenSpec.upto fnExactMirrorBinarySpec)

/-- 'laws.FnExactBracketsOf', WHERE WHAT IT READS IS OF BULK AT MOST 1048576: true; the input reads as it did. -/
def fnExactBracketsOfUptoRow : OpenClaim := { program := "ytjpmichlhagbcaa", sum := "b26fbad79d9213e22e7000b7c07ae95d9dd330222003e8b7bcb147562fce7af1", func := "loop.example/g01391/laws.FnExactBracketsOf", spec := "fnExactBracketsOf", recurses := true, apart := false, narrowed := true }
def FnExactBracketsOfUptoSaid : Prop := fnExactBracketsOfUptoRow.holds Try.pinned (OpenSpec.upto fnExactBracketsOfSpec)

/-- 'laws.FnExactParseBrackets', WHERE WHAT IT READS IS OF BULK AT MOST 1048576: true; the input reads as it did. -/
def fnExactParseBracketsUptoRow : OpenClaim := { program := "ytjpmichlhagbcaa", sum := "b26fbad79d9213e22e7000b7c07ae95d9dd330222003e8b7bcb147562fce7af1", func := "loop.example/g01391/laws.FnExactParseBrackets", spec := "fnExactParseBrackets", recurses := true, apart := false, narrowed := true }
def FnExactParseBracketsUptoSaid : Prop := fnExactParseBracketsUptoRow.holds Try.pinned (OpenSpec.upto fnExactParseBracketsSpec)

/-- 'laws.FnExactBinaryOfVector', WHERE WHAT IT READS IS OF BULK AT MOST 1048576: true; the input reads as it did. -/
def fnExactBinaryOfVectorUptoRow : OpenClaim := { program := "ytjpmichlhagbcaa", sum := "b26fbad79d9213e22e7000b7c07ae95d9dd330222003e8b7bcb147562fce7af1", func := "loop.example/g01391/laws.FnExactBinaryOfVector", spec := "fnExactBinaryOfVector", recurses := true, apart := false, narrowed := true }
def FnExactBinaryOfVectorUptoSaid : Prop := fnExactBinaryOfVectorUptoRow.holds Try.pinned (OpenSpec.upto fnExactBinaryOfVectorSpec)

/-- 'laws.FnExactVectorOf', WHERE WHAT IT READS IS OF BULK AT MOST 1048576: true; the input reads as it did. -/
def fnExactVectorOfUptoRow : OpenClaim := { program := "ytjpmichlhagbcaa", sum := "b26fbad79d9213e22e7000b7c07ae95d9dd330222003e8b7bcb147562fce7af1", func := "loop.example/g01391/laws.FnExactVectorOf", spec := "fnExactVectorOf", recurses := true, apart := false, narrowed := true }
def FnExactVectorOfUptoSaid : Prop := fnExactVectorOfUptoRow.holds Try.pinned (OpenSpec.upto fnExactVectorOfSpec)

/-- 'laws.FnExactInnerOrder', WHERE WHAT IT READS IS OF BULK AT MOST 1048576: true; the input reads as it did. -/
def fnExactInnerOrderUptoRow : OpenClaim := { program := "ytjpmichlhagbcaa", sum := "b26fbad79d9213e22e7000b7c07ae95d9dd330222003e8b7bcb147562fce7af1", func := "loop.example/g01391/laws.FnExactInnerOrder", spec := "fnExactInnerOrder", recurses := true, apart := false, narrowed := true }
def FnExactInnerOrderUptoSaid : Prop := fnExactInnerOrderUptoRow.holds Try.pinned (OpenSpec.upto fnExactInnerOrderSpec)

/-- 'laws.FnExactIsAtMost', WHERE WHAT IT READS IS OF BULK AT MOST 1048576: true; the input reads as it did. -/
def fnExactIsAtMostUptoRow : OpenClaim := { program := "ytjpmichlhagbcaa", sum := "b26fbad79d9213e22e7000b7c07ae95d9dd330222003e8b7bcb147562fce7af1", func := "loop.example/g01391/laws.FnExactIsAtMost", spec := "fnExactIsAtMost", recurses := true, apart := false, narrowed := true }
def FnExactIsAtMostUptoSaid : Prop := fnExactIsAtMostUptoRow.holds Try.pinned (OpenSpec.upto fnExactIsAtMostSpec)

/-- 'laws.FnExactBinaryOf', WHERE WHAT IT READS IS OF BULK AT MOST 1048576: true; the input reads as it did. -/
def fnExactBinaryOfUptoRow : OpenClaim := { program := "ytjpmichlhagbcaa", sum := "b26fbad79d9213e22e7000b7c07ae95d9dd330222003e8b7bcb147562fce7af1", func := "loop.example/g01391/laws.FnExactBinaryOf", spec := "fnExactBinaryOf", recurses := true, apart := false, narrowed := true }
def FnExactBinaryOfUptoSaid : Prop := fnExactBinaryOfUptoRow.holds Try.pinned (OpenSpec.upto fnExactBinaryOfSpec)

/-- 'laws.FnExactTreesOf', WHERE WHAT IT READS IS OF BULK AT MOST 1048576: true; the input reads as it did. -/
def fnExactTreesOfUptoRow : OpenClaim := { program := "ytjpmichlhagbcaa", sum := "b26fbad79d9213e22e7000b7c07ae95d9dd330222003e8b7bcb147562fce7af1", func := "loop.example/g01391/laws.FnExactTreesOf", spec := "fnExactTreesOf", apart := false, narrowed := true }
def FnExactTreesOfUptoSaid : Prop := fnExactTreesOfUptoRow.holds Try.pinned (OpenSpec.upto fnExactTreesOfSpec)

/-- 'laws.FnExactCountsOfTree', WHERE WHAT IT READS IS OF BULK AT MOST 1048576: true; the input reads as it did. -/
def fnExactCountsOfTreeUptoRow : OpenClaim := { program := "ytjpmichlhagbcaa", sum := "b26fbad79d9213e22e7000b7c07ae95d9dd330222003e8b7bcb147562fce7af1", func := "loop.example/g01391/laws.FnExactCountsOfTree", spec := "fnExactCountsOfTree", apart := false, narrowed := true }
def FnExactCountsOfTreeUptoSaid : Prop := fnExactCountsOfTreeUptoRow.holds Try.pinned (OpenSpec.upto fnExactCountsOfTreeSpec)

end Rows
end Go.Proofs.Ytjpmichlhagbcaa
