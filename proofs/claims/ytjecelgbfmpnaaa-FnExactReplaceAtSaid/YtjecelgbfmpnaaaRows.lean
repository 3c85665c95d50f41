/-
  No cell of these rows narrows 'for every input' (looked for: loops, veiled, ifaces, maps, wideKeys, modest, calm, conditions, laid).
  DERIVED. THE GIVEN ROWS OF THIS SEAT. 9 by the template 'for every input the law returns true; each argument reads behind the call as it read before'; 0 by the template 'total and deterministic' (their statements: YtjecelgbfmpnaaaTotals.lean).
  GIVEN WITH THE SEED: the statements are not yours to turn. If you find one false, say at which input.
  Laid BY PROGRAM, IN A SANDBOX (cutbox-rows.mjs): the forced cells as the released guide's own fill.sh prints them over the translation 00a31577fff8941e… (all of the seat's roots in one cut). By AI agents, Wed Nov 11 2026. No macro, syntax, notation, axiom, sorry.
-/
import Derived.Test.YtjecelgbfmpnaaaChecked
import GoSem.Claim
import GoSem.ClaimJoined
import GoSem.ClaimMapViews
import Derived.JoinedTies
import Derived.KernelRfl
namespace Go.Proofs.Ytjecelgbfmpnaaa
/- THE CELL 'sum', in the pinned program and in every row, IS THE sha256 OF THE DUMP (.gsa) THAT YtjecelgbfmpnaaaProg.lean LOADS. Nothing in Lean hashes anything: it is a label: what it is worth is what the hold of that sum in a sandbox is worth. -/
noncomputable def Try.pinned : Pinned := { name := "ytjecelgbfmpnaaa", sum := "00a31577fff8941eef9f4b3432f0fa2037512bd92d60fbf6205351e4b52b837b", checked := Try.checked }
namespace Rows
def none {H : Type} : Left H := { results := [], args := [] }

/-- 'laws.FnExactMirrorOf': WHATEVER THE INPUT: true; the input reads as it did. -/
def fnExactMirrorOfSpec : ChangeSpec := { name := "fnExactMirrorOf", fn := fun _ => fun
  | [d] => { results := [.lit (.bool true)], args := [d] }
  | _ => none }
def fnExactMirrorOfRow : OpenClaim := { program := "ytjecelgbfmpnaaa", sum := "00a31577fff8941eef9f4b3432f0fa2037512bd92d60fbf6205351e4b52b837b", func := "loop.example/g01391/laws.FnExactMirrorOf", spec := "fnExactMirrorOf", recurses := true, apart := false }
def FnExactMirrorOfSaid : Prop := fnExactMirrorOfRow.holds Try.pinned (OpenSpec.ofChange fnExactMirrorOfSpec)

/-- ITS FALSE NEIGHBOUR: 'it returns false'. Refute it at one input. -/
def fnExactMirrorOfWrong : ChangeSpec := { name := "fnExactMirrorOf", fn := fun _ => fun
  | [d] => { results := [.lit (.bool false)], args := [d] }
  | _ => none }
def FnExactMirrorOfWrongFalsely : Prop := fnExactMirrorOfRow.holds Try.pinned (OpenSpec.ofChange fnExactMirrorOfWrong)

/-- 'laws.FnExactJoinTrees': WHATEVER THE INPUT: true; the input reads as it did. -/
def fnExactJoinTreesSpec : ChangeSpec := { name := "fnExactJoinTrees", fn := fun _ => fun
  | [d] => { results := [.lit (.bool true)], args := [d] }
  | _ => none }
def fnExactJoinTreesRow : OpenClaim := { program := "ytjecelgbfmpnaaa", sum := "00a31577fff8941eef9f4b3432f0fa2037512bd92d60fbf6205351e4b52b837b", func := "loop.example/g01391/laws.FnExactJoinTrees", spec := "fnExactJoinTrees", apart := false }
def FnExactJoinTreesSaid : Prop := fnExactJoinTreesRow.holds Try.pinned (OpenSpec.ofChange fnExactJoinTreesSpec)

/-- ITS FALSE NEIGHBOUR: 'it returns false'. Refute it at one input. -/
def fnExactJoinTreesWrong : ChangeSpec := { name := "fnExactJoinTrees", fn := fun _ => fun
  | [d] => { results := [.lit (.bool false)], args := [d] }
  | _ => none }
def FnExactJoinTreesWrongFalsely : Prop := fnExactJoinTreesRow.holds Try.pinned (OpenSpec.ofChange fnExactJoinTreesWrong)

/-- 'laws.FnExactParentsOf': WHATEVER THE INPUT: true; the input reads as it did. -/
def fnExactParentsOfSpec : ChangeSpec := { name := "fnExactParentsOf", fn := fun _ => fun
  | [d] => { results := [.lit (.bool true)], args := [d] }
  | _ => none }
def fnExactParentsOfRow : OpenClaim := { program := "ytjecelgbfmpnaaa", sum := "00a31577fff8941eef9f4b3432f0fa2037512bd92d60fbf6205351e4b52b837b", func := "loop.example/g01391/laws.FnExactParentsOf", spec := "fnExactParentsOf", apart := false }
def FnExactParentsOfSaid : Prop := fnExactParentsOfRow.holds Try.pinned (OpenSpec.ofChange fnExactParentsOfSpec)

/-- ITS FALSE NEIGHBOUR: 'it returns false'. Refute it at one input. -/
def fnExactParentsOfWrong : ChangeSpec := { name := "fnExactParentsOf", fn := fun _ => fun
  | [d] => { results := [.lit (.bool false)], args := [d] }
  | _ => none }
def FnExactParentsOfWrongFalsely : Prop := fnExactParentsOfRow.holds Try.pinned (OpenSpec.ofChange fnExactParentsOfWrong)

/-- 'laws.FnExactReplaceAt': WHATEVER THE INPUT: true; the input reads as it did. -/
def fnExactReplaceAtSpec : ChangeSpec := { name := "fnExactReplaceAt", fn := fun _ => fun
  | [d1, d2, d3] => { results := [.lit (.bool true)], args := [d1, d2, d3] }
  | _ => none }
def fnExactReplaceAtRow : OpenClaim := { program := "ytjecelgbfmpnaaa", sum := "00a31577fff8941eef9f4b3432f0fa2037512bd92d60fbf6205351e4b52b837b", func := "loop.example/g01391/laws.FnExactReplaceAt", spec := "fnExactReplaceAt", apart := false }
def FnExactReplaceAtSaid : Prop := fnExactReplaceAtRow.holds Try.pinned (OpenSpec.ofChange fnExactReplaceAtSpec)

/-- ITS FALSE NEIGHBOUR: 'it returns false'. Refute it at one input. -/
def fnExactReplaceAtWrong : ChangeSpec := { name := "fnExactReplaceAt", fn := fun _ => fun
  | [d1, d2, d3] => { results := [.lit (.bool false)], args := [d1, d2, d3] }
  | _ => none }
def FnExactReplaceAtWrongFalsely : Prop := fnExactReplaceAtRow.holds Try.pinned (OpenSpec.ofChange fnExactReplaceAtWrong)

/-- 'laws.FnExactHeightOf': WHATEVER THE INPUT: true; the input reads as it did. -/
def fnExactHeightOfSpec : ChangeSpec := { name := "fnExactHeightOf", fn := fun _ => fun
  | [d] => { results := [.lit (.bool true)], args := [d] }
  | _ => none }
def fnExactHeightOfRow : OpenClaim := { program := "ytjecelgbfmpnaaa", sum := "00a31577fff8941eef9f4b3432f0fa2037512bd92d60fbf6205351e4b52b837b", func := "loop.example/g01391/laws.FnExactHeightOf", spec := "fnExactHeightOf", apart := false }
def FnExactHeightOfSaid : Prop := fnExactHeightOfRow.holds Try.pinned (OpenSpec.ofChange fnExactHeightOfSpec)

/-- ITS FALSE NEIGHBOUR: 'it returns false'. Refute it at one input. -/
def fnExactHeightOfWrong : ChangeSpec := { name := "fnExactHeightOf", fn := fun _ => fun
  | [d] => { results := [.lit (.bool false)], args := [d] }
  | _ => none }
def FnExactHeightOfWrongFalsely : Prop := fnExactHeightOfRow.holds Try.pinned (OpenSpec.ofChange fnExactHeightOfWrong)

/-- 'laws.FnExactDepthsOf': WHATEVER THE INPUT: true; the input reads as it did. -/
def fnExactDepthsOfSpec : ChangeSpec := { name := "fnExactDepthsOf", fn := fun _ => fun
  | [d] => { results := [.lit (.bool true)], args := [d] }
  | _ => none }
def fnExactDepthsOfRow : OpenClaim := { program := "ytjecelgbfmpnaaa", sum := "00a31577fff8941eef9f4b3432f0fa2037512bd92d60fbf6205351e4b52b837b", func := "loop.example/g01391/laws.FnExactDepthsOf", spec := "fnExactDepthsOf", apart := false }
def FnExactDepthsOfSaid : Prop := fnExactDepthsOfRow.holds Try.pinned (OpenSpec.ofChange fnExactDepthsOfSpec)

/-- ITS FALSE NEIGHBOUR: 'it returns false'. Refute it at one input. -/
def fnExactDepthsOfWrong : ChangeSpec := { name := "fnExactDepthsOf", fn := fun _ => fun
  | [d] => { results := [.lit (.bool false)], args := [d] }
  | _ => none }
def FnExactDepthsOfWrongFalsely : Prop := fnExactDepthsOfRow.holds Try.pinned (OpenSpec.ofChange fnExactDepthsOfWrong)

/-- 'laws.FnExactMeetOf': WHATEVER THE INPUT: true; the input reads as it did. -/
def fnExactMeetOfSpec : ChangeSpec := { name := "fnExactMeetOf", fn := fun _ => fun
  | [d1, d2, d3] => { results := [.lit (.bool true)], args := [d1, d2, d3] }
  | _ => none }
def fnExactMeetOfRow : OpenClaim := { program := "ytjecelgbfmpnaaa", sum := "00a31577fff8941eef9f4b3432f0fa2037512bd92d60fbf6205351e4b52b837b", func := "loop.example/g01391/laws.FnExactMeetOf", spec := "fnExactMeetOf", apart := false }
def FnExactMeetOfSaid : Prop := fnExactMeetOfRow.holds Try.pinned (OpenSpec.ofChange fnExactMeetOfSpec)

/-- ITS FALSE NEIGHBOUR: 'it returns false'. Refute it at one input. -/
def fnExactMeetOfWrong : ChangeSpec := { name := "fnExactMeetOf", fn := fun _ => fun
  | [d1, d2, d3] => { results := [.lit (.bool false)], args := [d1, d2, d3] }
  | _ => none }
def FnExactMeetOfWrongFalsely : Prop := fnExactMeetOfRow.holds Try.pinned (OpenSpec.ofChange fnExactMeetOfWrong)

/-- 'laws.FnExactAddressOf': WHATEVER THE INPUT: true; the input reads as it did. -/
def fnExactAddressOfSpec : ChangeSpec := { name := "fnExactAddressOf", fn := fun _ => fun
  | [d1, d2] => { results := [.lit (.bool true)], args := [d1, d2] }
  | _ => none }
def fnExactAddressOfRow : OpenClaim := { program := "ytjecelgbfmpnaaa", sum := "00a31577fff8941eef9f4b3432f0fa2037512bd92d60fbf6205351e4b52b837b", func := "loop.example/g01391/laws.FnExactAddressOf", spec := "fnExactAddressOf", apart := false }
def FnExactAddressOfSaid : Prop := fnExactAddressOfRow.holds Try.pinned (OpenSpec.ofChange fnExactAddressOfSpec)

/-- ITS FALSE NEIGHBOUR: 'it returns false'. Refute it at one input. -/
def fnExactAddressOfWrong : ChangeSpec := { name := "fnExactAddressOf", fn := fun _ => fun
  | [d1, d2] => { results := [.lit (.bool false)], args := [d1, d2] }
  | _ => none }
def FnExactAddressOfWrongFalsely : Prop := fnExactAddressOfRow.holds Try.pinned (OpenSpec.ofChange fnExactAddressOfWrong)

/-- 'laws.FnExactRemoveAt': WHATEVER THE INPUT: true; the input reads as it did. -/
def fnExactRemoveAtSpec : ChangeSpec := { name := "fnExactRemoveAt", fn := fun _ => fun
  | [d1, d2] => { results := [.lit (.bool true)], args := [d1, d2] }
  | _ => none }
def fnExactRemoveAtRow : OpenClaim := { program := "ytjecelgbfmpnaaa", sum := "00a31577fff8941eef9f4b3432f0fa2037512bd92d60fbf6205351e4b52b837b", func := "loop.example/g01391/laws.FnExactRemoveAt", spec := "fnExactRemoveAt", apart := false }
def FnExactRemoveAtSaid : Prop := fnExactRemoveAtRow.holds Try.pinned (OpenSpec.ofChange fnExactRemoveAtSpec)

/-- ITS FALSE NEIGHBOUR: 'it returns false'. Refute it at one input. -/
def fnExactRemoveAtWrong : ChangeSpec := { name := "fnExactRemoveAt", fn := fun _ => fun
  | [d1, d2] => { results := [.lit (.bool false)], args := [d1, d2] }
  | _ => none }
def FnExactRemoveAtWrongFalsely : Prop := fnExactRemoveAtRow.holds Try.pinned (OpenSpec.ofChange fnExactRemoveAtWrong)

/- THE SECOND FORM. 'bulk': how many values and letters a reading holds, each counted each time it is reached (what is shared counts as often as it is met; a slice's spare places count too). A statement '..UptoSaid' is the law's where the arguments, and the package variables that the reading takes, are together of bulk at most 1048576: NARROWER than '..Said'. Prove '..Said' where nothing that the law and all that it calls make is longer than what came in: it says more and counts as full. Else prove '..UptoSaid'. A law counts once. -/
mutual
def uptoBulk {H : Type} : DataW H → Nat
  | .lit (.string bytes) => bytes.length + 1
  | .lit _ => 1
  | .nil => 1
  | .ptr d => uptoBulk d + 1
  | .slice elems spare => uptoBulkAll elems + uptoBulkAll spare + 1
  | .agg parts => uptoBulkAll parts + 1
  | .iface _ d => uptoBulk d + 1
  | .map entries => uptoBulkEntries entries + 1
  | .held _ => 1
def uptoBulkAll {H : Type} : List (DataW H) → Nat
  | [] => 0
  | d :: r => uptoBulk d + uptoBulkAll r
def uptoBulkEntries {H : Type} : List (Lit × DataW H) → Nat
  | [] => 0
  | x :: r => uptoBulkEntry x + uptoBulkEntries r
def uptoBulkEntry {H : Type} : Lit × DataW H → Nat
  | (.string bytes, d) => bytes.length + uptoBulk d + 1
  | (_, d) => uptoBulk d + 1
 end
def uptoSmall : (H : Type) → List (DataW H) → Bool := fun _ ds => decide (uptoBulkAll ds ≤ 1048576)
def OpenSpec.upto (s : _root_.Go.ChangeSpec) : _root_.Go.OpenSpec := { _root_.Go.OpenSpec.ofChange s with cond := some uptoSmall }

/-- 'laws.FnExactMirrorOf', WHERE WHAT IT READS IS OF BULK AT MOST 1048576: true; the input reads as it did. -/
def fnExactMirrorOfUptoRow : OpenClaim := { program := "ytjecelgbfmpnaaa", sum := "00a31577fff8941eef9f4b3432f0fa2037512bd92d60fbf6205351e4b52b837b", func := "loop.example/g01391/laws.FnExactMirrorOf", spec := "fnExactMirrorOf", recurses := true, apart := false, narrowed := true }
def FnExactMirrorOfUptoSaid : Prop := fnExactMirrorOfUptoRow.holds Try.pinned (OpenSpec.upto fnExactMirrorOfSpec)

/-- 'laws.FnExactJoinTrees', WHERE WHAT IT READS IS OF BULK AT MOST 1048576: true; the input reads as it did. -/
def fnExactJoinTreesUptoRow : OpenClaim := { program := "ytjecelgbfmpnaaa", sum := "00a31577fff8941eef9f4b3432f0fa2037512bd92d60fbf6205351e4b52b837b", func := "loop.example/g01391/laws.FnExactJoinTrees", spec := "fnExactJoinTrees", apart := false, narrowed := true }
def FnExactJoinTreesUptoSaid : Prop := fnExactJoinTreesUptoRow.holds Try.pinned (OpenSpec.upto fnExactJoinTreesSpec)

/-- 'laws.FnExactParentsOf', WHERE WHAT IT READS IS OF BULK AT MOST 1048576: true; the input reads as it did. -/
def fnExactParentsOfUptoRow : OpenClaim := { program := "ytjecelgbfmpnaaa", sum := "00a31577fff8941eef9f4b3432f0fa2037512bd92d60fbf6205351e4b52b837b", func := "loop.example/g01391/laws.FnExactParentsOf", spec := "fnExactParentsOf", apart := false, narrowed := true }
def FnExactParentsOfUptoSaid : Prop := fnExactParentsOfUptoRow.holds Try.pinned (OpenSpec.upto fnExactParentsOfSpec)

/-- 'laws.FnExactReplaceAt', WHERE WHAT IT READS IS OF BULK AT MOST 1048576: true; the input reads as it did. -/
def fnExactReplaceAtUptoRow : OpenClaim := { program := "ytjecelgbfmpnaaa", sum := "00a31577fff8941eef9f4b3432f0fa2037512bd92d60fbf6205351e4b52b837b", func := "loop.example/g01391/laws.FnExactReplaceAt", spec := "fnExactReplaceAt", apart := false, narrowed := true }
def FnExactReplaceAtUptoSaid : Prop := fnExactReplaceAtUptoRow.holds Try.pinned (OpenSpec.upto fnExactReplaceAtSpec)

/-- 'laws.FnExactHeightOf', WHERE WHAT IT READS IS OF BULK AT MOST 1048576: true; the input reads as it did. -/
def fnExactHeightOfUptoRow : OpenClaim := { program := "ytjecelgbfmpnaaa", sum := "00a31577fff8941eef9f4b3432f0fa2037512bd92d60fbf6205351e4b52b837b", func := "loop.example/g01391/laws.FnExactHeightOf", spec := "fnExactHeightOf", apart := false, narrowed := true }
def FnExactHeightOfUptoSaid : Prop := fnExactHeightOfUptoRow.holds Try.pinned (OpenSpec.upto fnExactHeightOfSpec)

/-- 'laws.FnExactDepthsOf', WHERE WHAT IT READS IS OF BULK AT MOST 1048576: true; the input reads as it did. -/
def fnExactDepthsOfUptoRow : OpenClaim := { program := "ytjecelgbfmpnaaa", sum := "00a31577fff8941eef9f4b3432f0fa2037512bd92d60fbf6205351e4b52b837b", func := "loop.example/g01391/laws.FnExactDepthsOf", spec := "fnExactDepthsOf", apart := false, narrowed := true }
def FnExactDepthsOfUptoSaid : Prop := fnExactDepthsOfUptoRow.holds Try.pinned (OpenSpec.upto fnExactDepthsOfSpec)

/-- 'laws.FnExactMeetOf', WHERE WHAT IT READS IS OF BULK AT MOST 1048576: true; the input reads as it did. -/
def fnExactMeetOfUptoRow : OpenClaim := { program := "ytjecelgbfmpnaaa", sum := "00a31577fff8941eef9f4b3432f0fa2037512bd92d60fbf6205351e4b52b837b", func := "loop.example/g01391/laws.FnExactMeetOf", spec := "fnExactMeetOf", apart := false, narrowed := true }
def FnExactMeetOfUptoSaid : Prop := fnExactMeetOfUptoRow.holds Try.pinned (OpenSpec.upto fnExactMeetOfSpec)

/-- 'laws.FnExactAddressOf', WHERE WHAT IT READS IS OF BULK AT MOST 1048576: true; the input reads as it did. -/
def fnExactAddressOfUptoRow : OpenClaim := { program := "ytjecelgbfmpnaaa", sum := "00a31577fff8941eef9f4b3432f0fa2037512bd92d60fbf6205351e4b52b837b", func := "loop.example/g01391/laws.FnExactAddressOf", spec := "fnExactAddressOf", apart := false, narrowed := true }
def FnExactAddressOfUptoSaid : Prop := fnExactAddressOfUptoRow.holds Try.pinned (OpenSpec.upto fnExactAddressOfSpec)

/-- 'laws.FnExactRemoveAt', WHERE WHAT IT READS IS OF BULK AT MOST 1048576: true; the input reads as it did. -/
def fnExactRemoveAtUptoRow : OpenClaim := { program := "ytjecelgbfmpnaaa", sum := "00a31577fff8941eef9f4b3432f0fa2037512bd92d60fbf6205351e4b52b837b", func := "loop.example/g01391/laws.FnExactRemoveAt", spec := "fnExactRemoveAt", apart := false, narrowed := true }
def FnExactRemoveAtUptoSaid : Prop := fnExactRemoveAtUptoRow.holds Try.pinned (OpenSpec.upto fnExactRemoveAtSpec)

end Rows
end Go.Proofs.Ytjecelgbfmpnaaa
