/-
  No cell of these rows narrows 'for every input' (looked for: loops, veiled, ifaces, maps, wideKeys, modest, calm, conditions, laid).
  DERIVED. THE GIVEN ROWS OF THIS SEAT. 12 by the template 'for every input the law returns true; each argument reads behind the call as it read before'; 0 by the template 'total and deterministic' (their statements: YtnibeghaebdajaaTotals.lean).
  GIVEN WITH THE SEED: the statements are not yours to turn. If you find one false, say at which input.
  Laid BY PROGRAM, IN A SANDBOX (cutbox-rows.mjs): the forced cells as the released guide's own fill.sh prints them over the translation ed36eac4157fa37d… (all of the seat's roots in one cut). By AI agents, Wed Nov 11 2026. No macro, syntax, notation, axiom, sorry.
-/
import Derived.Test.YtnibeghaebdajaaChecked
import GoSem.Claim
import GoSem.ClaimJoined
import GoSem.ClaimMapViews
import Derived.JoinedTies
import Derived.KernelRfl
namespace Go.Proofs.Ytnibeghaebdajaa
/- THE CELL 'sum', in the pinned program and in every row, IS THE sha256 OF THE DUMP (.gsa) THAT YtnibeghaebdajaaProg.lean LOADS. Nothing in Lean hashes anything: it is a label: what it is worth is what the hold of that sum in a sandbox is worth. -/
noncomputable def Try.pinned : Pinned := { name := "ytnibeghaebdajaa", sum := "ed36eac4157fa37d1e0add87df9e4bac676fdbd1e13951ce93a37c6bbc118a58", checked := Try.checked }
namespace Rows
def none {H : Type} : Left H := { results := [], args := [] }

/-- 'laws.FnExactConstants': WHATEVER THE INPUT: true; the input reads as it did. -/
def fnExactConstantsSpec : ChangeSpec := { name := "fnExactConstants", fn := fun _ => fun
  | [] => { results := [.lit (.bool true)], args := [] }
  | _ => none }
def fnExactConstantsRow : OpenClaim := { program := "ytnibeghaebdajaa", sum := "ed36eac4157fa37d1e0add87df9e4bac676fdbd1e13951ce93a37c6bbc118a58", func := "loop.example/g01391/laws.FnExactConstants", spec := "fnExactConstants", apart := false }
def FnExactConstantsSaid : Prop := fnExactConstantsRow.holds Try.pinned (OpenSpec.ofChange fnExactConstantsSpec)

/-- ITS FALSE NEIGHBOUR: 'it returns false'. Refute it at one input. -/
def fnExactConstantsWrong : ChangeSpec := { name := "fnExactConstants", fn := fun _ => fun
  | [] => { results := [.lit (.bool false)], args := [] }
  | _ => none }
def FnExactConstantsWrongFalsely : Prop := fnExactConstantsRow.holds Try.pinned (OpenSpec.ofChange fnExactConstantsWrong)

/-- 'laws.FnExactIsBinary': WHATEVER THE INPUT: true; the input reads as it did. -/
def fnExactIsBinarySpec : ChangeSpec := { name := "fnExactIsBinary", fn := fun _ => fun
  | [d] => { results := [.lit (.bool true)], args := [d] }
  | _ => none }
def fnExactIsBinaryRow : OpenClaim := { program := "ytnibeghaebdajaa", sum := "ed36eac4157fa37d1e0add87df9e4bac676fdbd1e13951ce93a37c6bbc118a58", func := "loop.example/g01391/laws.FnExactIsBinary", spec := "fnExactIsBinary", apart := false }
def FnExactIsBinarySaid : Prop := fnExactIsBinaryRow.holds Try.pinned (OpenSpec.ofChange fnExactIsBinarySpec)

/-- ITS FALSE NEIGHBOUR: 'it returns false'. Refute it at one input. -/
def fnExactIsBinaryWrong : ChangeSpec := { name := "fnExactIsBinary", fn := fun _ => fun
  | [d] => { results := [.lit (.bool false)], args := [d] }
  | _ => none }
def FnExactIsBinaryWrongFalsely : Prop := fnExactIsBinaryRow.holds Try.pinned (OpenSpec.ofChange fnExactIsBinaryWrong)

/-- 'laws.FnExactCountTrees': WHATEVER THE INPUT: true; the input reads as it did. -/
def fnExactCountTreesSpec : ChangeSpec := { name := "fnExactCountTrees", fn := fun _ => fun
  | [d] => { results := [.lit (.bool true)], args := [d] }
  | _ => none }
def fnExactCountTreesRow : OpenClaim := { program := "ytnibeghaebdajaa", sum := "ed36eac4157fa37d1e0add87df9e4bac676fdbd1e13951ce93a37c6bbc118a58", func := "loop.example/g01391/laws.FnExactCountTrees", spec := "fnExactCountTrees", apart := false }
def FnExactCountTreesSaid : Prop := fnExactCountTreesRow.holds Try.pinned (OpenSpec.ofChange fnExactCountTreesSpec)

/-- ITS FALSE NEIGHBOUR: 'it returns false'. Refute it at one input. -/
def fnExactCountTreesWrong : ChangeSpec := { name := "fnExactCountTrees", fn := fun _ => fun
  | [d] => { results := [.lit (.bool false)], args := [d] }
  | _ => none }
def FnExactCountTreesWrongFalsely : Prop := fnExactCountTreesRow.holds Try.pinned (OpenSpec.ofChange fnExactCountTreesWrong)

/-- 'laws.FnExactCountByLeaves': WHATEVER THE INPUT: true; the input reads as it did. -/
def fnExactCountByLeavesSpec : ChangeSpec := { name := "fnExactCountByLeaves", fn := fun _ => fun
  | [d1, d2] => { results := [.lit (.bool true)], args := [d1, d2] }
  | _ => none }
def fnExactCountByLeavesRow : OpenClaim := { program := "ytnibeghaebdajaa", sum := "ed36eac4157fa37d1e0add87df9e4bac676fdbd1e13951ce93a37c6bbc118a58", func := "loop.example/g01391/laws.FnExactCountByLeaves", spec := "fnExactCountByLeaves", apart := false }
def FnExactCountByLeavesSaid : Prop := fnExactCountByLeavesRow.holds Try.pinned (OpenSpec.ofChange fnExactCountByLeavesSpec)

/-- ITS FALSE NEIGHBOUR: 'it returns false'. Refute it at one input. -/
def fnExactCountByLeavesWrong : ChangeSpec := { name := "fnExactCountByLeaves", fn := fun _ => fun
  | [d1, d2] => { results := [.lit (.bool false)], args := [d1, d2] }
  | _ => none }
def FnExactCountByLeavesWrongFalsely : Prop := fnExactCountByLeavesRow.holds Try.pinned (OpenSpec.ofChange fnExactCountByLeavesWrong)

/-- 'laws.FnExactCountByHeight': WHATEVER THE INPUT: true; the input reads as it did. -/
def fnExactCountByHeightSpec : ChangeSpec := { name := "fnExactCountByHeight", fn := fun _ => fun
  | [d1, d2] => { results := [.lit (.bool true)], args := [d1, d2] }
  | _ => none }
def fnExactCountByHeightRow : OpenClaim := { program := "ytnibeghaebdajaa", sum := "ed36eac4157fa37d1e0add87df9e4bac676fdbd1e13951ce93a37c6bbc118a58", func := "loop.example/g01391/laws.FnExactCountByHeight", spec := "fnExactCountByHeight", recurses := true, apart := false }
def FnExactCountByHeightSaid : Prop := fnExactCountByHeightRow.holds Try.pinned (OpenSpec.ofChange fnExactCountByHeightSpec)

/-- ITS FALSE NEIGHBOUR: 'it returns false'. Refute it at one input. -/
def fnExactCountByHeightWrong : ChangeSpec := { name := "fnExactCountByHeight", fn := fun _ => fun
  | [d1, d2] => { results := [.lit (.bool false)], args := [d1, d2] }
  | _ => none }
def FnExactCountByHeightWrongFalsely : Prop := fnExactCountByHeightRow.holds Try.pinned (OpenSpec.ofChange fnExactCountByHeightWrong)

/-- 'laws.FnExactCountByRoot': WHATEVER THE INPUT: true; the input reads as it did. -/
def fnExactCountByRootSpec : ChangeSpec := { name := "fnExactCountByRoot", fn := fun _ => fun
  | [d1, d2] => { results := [.lit (.bool true)], args := [d1, d2] }
  | _ => none }
def fnExactCountByRootRow : OpenClaim := { program := "ytnibeghaebdajaa", sum := "ed36eac4157fa37d1e0add87df9e4bac676fdbd1e13951ce93a37c6bbc118a58", func := "loop.example/g01391/laws.FnExactCountByRoot", spec := "fnExactCountByRoot", apart := false }
def FnExactCountByRootSaid : Prop := fnExactCountByRootRow.holds Try.pinned (OpenSpec.ofChange fnExactCountByRootSpec)

/-- ITS FALSE NEIGHBOUR: 'it returns false'. Refute it at one input. -/
def fnExactCountByRootWrong : ChangeSpec := { name := "fnExactCountByRoot", fn := fun _ => fun
  | [d1, d2] => { results := [.lit (.bool false)], args := [d1, d2] }
  | _ => none }
def FnExactCountByRootWrongFalsely : Prop := fnExactCountByRootRow.holds Try.pinned (OpenSpec.ofChange fnExactCountByRootWrong)

/-- 'laws.FnExactCountByCounts': WHATEVER THE INPUT: true; the input reads as it did. -/
def fnExactCountByCountsSpec : ChangeSpec := { name := "fnExactCountByCounts", fn := fun _ => fun
  | [d] => { results := [.lit (.bool true)], args := [d] }
  | _ => none }
def fnExactCountByCountsRow : OpenClaim := { program := "ytnibeghaebdajaa", sum := "ed36eac4157fa37d1e0add87df9e4bac676fdbd1e13951ce93a37c6bbc118a58", func := "loop.example/g01391/laws.FnExactCountByCounts", spec := "fnExactCountByCounts", apart := false }
def FnExactCountByCountsSaid : Prop := fnExactCountByCountsRow.holds Try.pinned (OpenSpec.ofChange fnExactCountByCountsSpec)

/-- ITS FALSE NEIGHBOUR: 'it returns false'. Refute it at one input. -/
def fnExactCountByCountsWrong : ChangeSpec := { name := "fnExactCountByCounts", fn := fun _ => fun
  | [d] => { results := [.lit (.bool false)], args := [d] }
  | _ => none }
def FnExactCountByCountsWrongFalsely : Prop := fnExactCountByCountsRow.holds Try.pinned (OpenSpec.ofChange fnExactCountByCountsWrong)

/-- 'laws.FnExactFirstTree': WHATEVER THE INPUT: true; the input reads as it did. -/
def fnExactFirstTreeSpec : ChangeSpec := { name := "fnExactFirstTree", fn := fun _ => fun
  | [d] => { results := [.lit (.bool true)], args := [d] }
  | _ => none }
def fnExactFirstTreeRow : OpenClaim := { program := "ytnibeghaebdajaa", sum := "ed36eac4157fa37d1e0add87df9e4bac676fdbd1e13951ce93a37c6bbc118a58", func := "loop.example/g01391/laws.FnExactFirstTree", spec := "fnExactFirstTree", apart := false }
def FnExactFirstTreeSaid : Prop := fnExactFirstTreeRow.holds Try.pinned (OpenSpec.ofChange fnExactFirstTreeSpec)

/-- ITS FALSE NEIGHBOUR: 'it returns false'. Refute it at one input. -/
def fnExactFirstTreeWrong : ChangeSpec := { name := "fnExactFirstTree", fn := fun _ => fun
  | [d] => { results := [.lit (.bool false)], args := [d] }
  | _ => none }
def FnExactFirstTreeWrongFalsely : Prop := fnExactFirstTreeRow.holds Try.pinned (OpenSpec.ofChange fnExactFirstTreeWrong)

/-- 'laws.FnExactLastTree': WHATEVER THE INPUT: true; the input reads as it did. -/
def fnExactLastTreeSpec : ChangeSpec := { name := "fnExactLastTree", fn := fun _ => fun
  | [d] => { results := [.lit (.bool true)], args := [d] }
  | _ => none }
def fnExactLastTreeRow : OpenClaim := { program := "ytnibeghaebdajaa", sum := "ed36eac4157fa37d1e0add87df9e4bac676fdbd1e13951ce93a37c6bbc118a58", func := "loop.example/g01391/laws.FnExactLastTree", spec := "fnExactLastTree", apart := false }
def FnExactLastTreeSaid : Prop := fnExactLastTreeRow.holds Try.pinned (OpenSpec.ofChange fnExactLastTreeSpec)

/-- ITS FALSE NEIGHBOUR: 'it returns false'. Refute it at one input. -/
def fnExactLastTreeWrong : ChangeSpec := { name := "fnExactLastTree", fn := fun _ => fun
  | [d] => { results := [.lit (.bool false)], args := [d] }
  | _ => none }
def FnExactLastTreeWrongFalsely : Prop := fnExactLastTreeRow.holds Try.pinned (OpenSpec.ofChange fnExactLastTreeWrong)

/-- 'laws.FnExactTreeOfRank': WHATEVER THE INPUT: true; the input reads as it did. -/
def fnExactTreeOfRankSpec : ChangeSpec := { name := "fnExactTreeOfRank", fn := fun _ => fun
  | [d1, d2] => { results := [.lit (.bool true)], args := [d1, d2] }
  | _ => none }
def fnExactTreeOfRankRow : OpenClaim := { program := "ytnibeghaebdajaa", sum := "ed36eac4157fa37d1e0add87df9e4bac676fdbd1e13951ce93a37c6bbc118a58", func := "loop.example/g01391/laws.FnExactTreeOfRank", spec := "fnExactTreeOfRank", apart := false }
def FnExactTreeOfRankSaid : Prop := fnExactTreeOfRankRow.holds Try.pinned (OpenSpec.ofChange fnExactTreeOfRankSpec)

/-- ITS FALSE NEIGHBOUR: 'it returns false'. Refute it at one input. -/
def fnExactTreeOfRankWrong : ChangeSpec := { name := "fnExactTreeOfRank", fn := fun _ => fun
  | [d1, d2] => { results := [.lit (.bool false)], args := [d1, d2] }
  | _ => none }
def FnExactTreeOfRankWrongFalsely : Prop := fnExactTreeOfRankRow.holds Try.pinned (OpenSpec.ofChange fnExactTreeOfRankWrong)

/-- 'laws.FnExactRankOfTree': WHATEVER THE INPUT: true; the input reads as it did. -/
def fnExactRankOfTreeSpec : ChangeSpec := { name := "fnExactRankOfTree", fn := fun _ => fun
  | [d] => { results := [.lit (.bool true)], args := [d] }
  | _ => none }
def fnExactRankOfTreeRow : OpenClaim := { program := "ytnibeghaebdajaa", sum := "ed36eac4157fa37d1e0add87df9e4bac676fdbd1e13951ce93a37c6bbc118a58", func := "loop.example/g01391/laws.FnExactRankOfTree", spec := "fnExactRankOfTree", apart := false }
def FnExactRankOfTreeSaid : Prop := fnExactRankOfTreeRow.holds Try.pinned (OpenSpec.ofChange fnExactRankOfTreeSpec)

/-- ITS FALSE NEIGHBOUR: 'it returns false'. Refute it at one input. -/
def fnExactRankOfTreeWrong : ChangeSpec := { name := "fnExactRankOfTree", fn := fun _ => fun
  | [d] => { results := [.lit (.bool false)], args := [d] }
  | _ => none }
def FnExactRankOfTreeWrongFalsely : Prop := fnExactRankOfTreeRow.holds Try.pinned (OpenSpec.ofChange fnExactRankOfTreeWrong)

/-- 'laws.FnExactNextTree': WHATEVER THE INPUT: true; the input reads as it did. -/
def fnExactNextTreeSpec : ChangeSpec := { name := "fnExactNextTree", fn := fun _ => fun
  | [d] => { results := [.lit (.bool true)], args := [d] }
  | _ => none }
def fnExactNextTreeRow : OpenClaim := { program := "ytnibeghaebdajaa", sum := "ed36eac4157fa37d1e0add87df9e4bac676fdbd1e13951ce93a37c6bbc118a58", func := "loop.example/g01391/laws.FnExactNextTree", spec := "fnExactNextTree", apart := false }
def FnExactNextTreeSaid : Prop := fnExactNextTreeRow.holds Try.pinned (OpenSpec.ofChange fnExactNextTreeSpec)

/-- ITS FALSE NEIGHBOUR: 'it returns false'. Refute it at one input. -/
def fnExactNextTreeWrong : ChangeSpec := { name := "fnExactNextTree", fn := fun _ => fun
  | [d] => { results := [.lit (.bool false)], args := [d] }
  | _ => none }
def FnExactNextTreeWrongFalsely : Prop := fnExactNextTreeRow.holds Try.pinned (OpenSpec.ofChange fnExactNextTreeWrong)

/- THE SECOND FORM. 'bulk': how many values and letters a reading holds, each counted each time it is reached (what is shared counts as often as it is met; a slice's spare places count too). A statement '..UptoSaid' is the law's where the arguments, and the package variables that the reading takes, are together of bulk at most 1048576: NARROWER than '..Said'. Prove '..Said' where nothing that the law and all that it calls make is longer than what came in: it says more and counts as full. Else prove '..UptoSaid'. A law counts once. -/
mutual
def uptoBulk {H : Type} : DataW H → Nat
  | .lit (.string bytes) => bytes.length + 1
  | .lit _ => 1
  | .nil => 1
  | .ptr d => uptoBulk d + 1
  | .slice elems spare => uptoBulkAll elems + uptoBulkAll spare + 1
  | .agg parts => uptoBulkAll parts + 1
  | .iface _ d => uptoBulk d + 1
  | .map entries => uptoBulkEntries entries + 1
  | .held _ => 1
def uptoBulkAll {H : Type} : List (DataW H) → Nat
  | [] => 0
  | d :: r => uptoBulk d + uptoBulkAll r
def uptoBulkEntries {H : Type} : List (Lit × DataW H) → Nat
  | [] => 0
  | x :: r => uptoBulkEntry x + uptoBulkEntries r
def uptoBulkEntry {H : Type} : Lit × DataW H → Nat
  | (.string bytes, d) => bytes.length + uptoBulk d + 1
  | (_, d) => uptoBulk d + 1
 end
def uptoSmall : (H : Type) → List (DataW H) → Bool := fun _ ds => decide (uptoBulkAll ds ≤ 1048576)
def OpenSpec.upto (s : _root_.Go.ChangeSpec) : _root_.Go.OpenSpec := { _root_.Go.OpenSpec.ofChange s with cond := some uptoSmall }

/-- 'laws.FnExactConstants', WHERE WHAT IT READS IS OF BULK AT MOST 1048576: true; the input reads as it did. -/
def fnExactConstantsUptoRow : OpenClaim := { program := "ytnibeghaebdajaa", sum := "ed36eac4157fa37d1e0add87df9e4bac676fdbd1e13951ce93a37c6bbc118a58", func := "loop.example/g01391/laws.FnExactConstants", spec := "fnExactConstants", apart := false, narrowed := true }
def FnExactConstantsUptoSaid : Prop := fnExactConstantsUptoRow.holds Try.pinned (OpenSpec.upto fnExactConstantsSpec)

/-- 'laws.FnExactIsBinary', WHERE WHAT IT READS IS OF BULK AT MOST 1048576: true; the input reads as it did. -/
def fnExactIsBinaryUptoRow : OpenClaim := { program := "ytnibeghaebdajaa", sum := "ed36eac4157fa37d1e0add87df9e4bac676fdbd1e13951ce93a37c6bbc118a58", func := "loop.example/g01391/laws.FnExactIsBinary", spec := "fnExactIsBinary", apart := false, narrowed := true }
def FnExactIsBinaryUptoSaid : Prop := fnExactIsBinaryUptoRow.holds Try.pinned (OpenSpec.upto fnExactIsBinarySpec)

/-- 'laws.FnExactCountTrees', WHERE WHAT IT READS IS OF BULK AT MOST 1048576: true; the input reads as it did. -/
def fnExactCountTreesUptoRow : OpenClaim := { program := "ytnibeghaebdajaa", sum := "ed36eac4157fa37d1e0add87df9e4bac676fdbd1e13951ce93a37c6bbc118a58", func := "loop.example/g01391/laws.FnExactCountTrees", spec := "fnExactCountTrees", apart := false, narrowed := true }
def FnExactCountTreesUptoSaid : Prop := fnExactCountTreesUptoRow.holds Try.pinned (OpenSpec.upto fnExactCountTreesSpec)

/-- 'laws.FnExactCountByLeaves', WHERE WHAT IT READS IS OF BULK AT MOST 1048576: true; the input reads as it did. -/
def fnExactCountByLeavesUptoRow : OpenClaim := { program := "ytnibeghaebdajaa", sum := "ed36eac4157fa37d1e0add87df9e4bac676fdbd1e13951ce93a37c6bbc118a58", func := "loop.example/g01391/laws.FnExactCountByLeaves", spec := "fnExactCountByLeaves", apart := false, narrowed := true }
def FnExactCountByLeavesUptoSaid : Prop := fnExactCountByLeavesUptoRow.holds Try.pinned (OpenSpec.upto fnExactCountByLeavesSpec)

/-- 'laws.FnExactCountByHeight', WHERE WHAT IT READS IS OF BULK AT MOST 1048576: true; the input reads as it did. -/
def fnExactCountByHeightUptoRow : OpenClaim := { program := "ytnibeghaebdajaa", sum := "ed36eac4157fa37d1e0add87df9e4bac676fdbd1e13951ce93a37c6bbc118a58", func := "loop.example/g01391/laws.FnExactCountByHeight", spec := "fnExactCountByHeight", recurses := true, apart := false, narrowed := true }
def FnExactCountByHeightUptoSaid : Prop := fnExactCountByHeightUptoRow.holds Try.pinned (OpenSpec.upto fnExactCountByHeightSpec)

/-- 'laws.FnExactCountByRoot', WHERE WHAT IT READS IS OF BULK AT MOST 1048576: true; the input reads as it did. -/
def fnExactCountByRootUptoRow : OpenClaim := { program := "ytnibeghaebdajaa", sum := "ed36eac4157fa37d1e0add87df9e4bac676fdbd1e13951ce93a37c6bbc118a58", func := "loop.example/g01391/laws.FnExactCountByRoot", spec := "fnExactCountByRoot", apart := false, narrowed := true }
def FnExactCountByRootUptoSaid : Prop := fnExactCountByRootUptoRow.holds Try.pinned (OpenSpec.upto fnExactCountByRootSpec)

/-- 'laws.FnExactCountByCounts', WHERE WHAT IT READS IS OF BULK AT MOST 1048576: true; the input reads as it did. -/
def fnExactCountByCountsUptoRow : OpenClaim := { program := "ytnibeghaebdajaa", sum := "ed36eac4157fa37d1e0add87df9e4bac676fdbd1e13951ce93a37c6bbc118a58", func := "loop.example/g01391/laws.FnExactCountByCounts", spec := "fnExactCountByCounts", apart := false, narrowed := true }
def FnExactCountByCountsUptoSaid : Prop := fnExactCountByCountsUptoRow.holds Try.pinned (OpenSpec.upto fnExactCountByCountsSpec)

/-- 'laws.FnExactFirstTree', WHERE WHAT IT READS IS OF BULK AT MOST 1048576: true; the input reads as it did. -/
def fnExactFirstTreeUptoRow : OpenClaim := { program := "ytnibeghaebdajaa", sum := "ed36eac4157fa37d1e0add87df9e4bac676fdbd1e13951ce93a37c6bbc118a58", func := "loop.example/g01391/laws.FnExactFirstTree", spec := "fnExactFirstTree", apart := false, narrowed := true }
def FnExactFirstTreeUptoSaid : Prop := fnExactFirstTreeUptoRow.holds Try.pinned (OpenSpec.upto fnExactFirstTreeSpec)

/-- 'laws.FnExactLastTree', WHERE WHAT IT READS IS OF BULK AT MOST 1048576: true; the input reads as it did. -/
def fnExactLastTreeUptoRow : OpenClaim := { program := "ytnibeghaebdajaa", sum := "ed36eac4157fa37d1e0add87df9e4bac676fdbd1e13951ce93a37c6bbc118a58", func := "loop.example/g01391/laws.FnExactLastTree", spec := "fnExactLastTree", apart := false, narrowed := true }
def FnExactLastTreeUptoSaid : Prop := fnExactLastTreeUptoRow.holds Try.pinned (OpenSpec.upto fnExactLastTreeSpec)

/-- 'laws.FnExactTreeOfRank', WHERE WHAT IT READS IS OF BULK AT MOST 1048576: true; the input reads as it did. -/
def fnExactTreeOfRankUptoRow : OpenClaim := { program := "ytnibeghaebdajaa", sum := "ed36eac4157fa37d1e0add87df9e4bac676fdbd1e13951ce93a37c6bbc118a58", func := "loop.example/g01391/laws.FnExactTreeOfRank", spec := "fnExactTreeOfRank", apart := false, narrowed := true }
def FnExactTreeOfRankUptoSaid : Prop := fnExactTreeOfRankUptoRow.holds Try.pinned (OpenSpec.upto fnExactTreeOfRankSpec)

/-- 'laws.FnExactRankOfTree', WHERE WHAT IT READS IS OF BULK AT MOST 1048576: true; the input reads as it did. -/
def fnExactRankOfTreeUptoRow : OpenClaim := { program := "ytnibeghaebdajaa", sum := "ed36eac4157fa37d1e0add87df9e4bac676fdbd1e13951ce93a37c6bbc118a58", func := "loop.example/g01391/laws.FnExactRankOfTree", spec := "fnExactRankOfTree", apart := false, narrowed := true }
def FnExactRankOfTreeUptoSaid : Prop := fnExactRankOfTreeUptoRow.holds Try.pinned (OpenSpec.upto fnExactRankOfTreeSpec)

/-- 'laws.FnExactNextTree', WHERE WHAT IT READS IS OF BULK AT MOST 1048576: true; the input reads as it did. -/
def fnExactNextTreeUptoRow : OpenClaim := { program := "ytnibeghaebdajaa", sum := "ed36eac4157fa37d1e0add87df9e4bac676fdbd1e13951ce93a37c6bbc118a58", func := "loop.example/g01391/laws.FnExactNextTree", spec := "fnExactNextTree", apart := false, narrowed := true }
def FnExactNextTreeUptoSaid : Prop := fnExactNextTreeUptoRow.holds Try.pinned (OpenSpec.upto fnExactNextTreeSpec)

end Rows
end Go.Proofs.Ytnibeghaebdajaa
