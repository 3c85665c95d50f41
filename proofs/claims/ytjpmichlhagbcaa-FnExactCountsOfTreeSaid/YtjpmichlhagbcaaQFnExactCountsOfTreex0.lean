/- Functions of the program as plain Lean functions, each with a proof that the machine's call answers what it answers. Conditions: none. -/
import Derived.Test.YtjpmichlhagbcaaProg
import Derived.Below
import Derived.Deep.Draws
import Derived.Deep.AppendLies
import Derived.Maps.AppendAt
import Derived.OwnWalk
import Derived.Laws.BytesArg
import Derived.Laws.MakeOwn
import Derived.Laws.OwnMore
import Derived.Deep.OwnRows
import Derived.Tactics
import Derived.Lib.ConvBytes
import Derived.Laws.Slices
import Derived.WalkKit
import Derived.KernelRfl
import Derived.RowKit3
import Derived.Deep.LoopGhost
import Derived.Deep.QuietTactic
import Derived.BigQuiet
import Derived.WideLaws
import Derived.Deep.DeepCutAuto
import Derived.Deep.CutBlock
import Derived.Deep.RegionHeld3
import Derived.Laws.Rows
import Derived.Lib.AppendStr
import Derived.ArgAppend
import Derived.Laws.IdiomCopy
import Derived.OrdersHeld
import Derived.Laws.BitsLemmas
import Derived.RowKit
import Derived.Test.YtjpmichlhagbcaaWWords
import Derived.Test.YtjpmichlhagbcaaWLast
import Derived.Test.YtjpmichlhagbcaaWTab
import Derived.Test.YtjpmichlhagbcaaWFour
import Derived.Test.YtjpmichlhagbcaaWQPut
import Derived.Test.YtjpmichlhagbcaaWApart
import Derived.Test.YtjpmichlhagbcaaWArr
import Derived.Test.YtjpmichlhagbcaaWZeros
import Derived.Test.YtjpmichlhagbcaaWFoot
import Derived.Test.YtjpmichlhagbcaaWKept
import Derived.Test.YtjpmichlhagbcaaWShare
import Derived.Test.YtjpmichlhagbcaaWN
import Derived.Test.YtjpmichlhagbcaaWFootNe
import Derived.Test.YtjpmichlhagbcaaWAt
import Derived.Test.YtjpmichlhagbcaaWEqStruct
import Derived.Test.YtjpmichlhagbcaaWRepsOne
import Derived.Test.YtjpmichlhagbcaaWInv
import Derived.Test.YtjpmichlhagbcaaWInvWords
import Derived.Test.YtjpmichlhagbcaaWGuard
import Derived.Test.YtjpmichlhagbcaaWNEv
import Derived.Test.YtjpmichlhagbcaaWMore
namespace Go.Proofs.Ytjpmichlhagbcaa.QFnExactCountsOfTree
open Go.RowKit Go.Proofs.YtjpmichlhagbcaaW.PrintWords Go.Proofs.YtjpmichlhagbcaaW.PrintLast Go.Proofs.YtjpmichlhagbcaaW.PrintMore
attribute [local go_sem] max2_int min2_int max_two min_two max_three min_three max_four min_four   -- for this text's walks alone
set_option linter.unusedVariables false
set_option linter.unusedSimpArgs false



def errW : Option Int → Value
  | none => .nilIface
  | some c => .iface 0 (.int .i64 c)
theorem errW_none : errW none = .nilIface := rfl
theorem errW_some (c : Int) : errW (some c) = .iface 0 (.int .i64 c) := rfl

theorem info2 : (Try.prog.info? 2).map (fun i => (i.zero, i.size, i.bytes)) = some (some (.int .i64 0), 1, 8) := by kernel_rfl
-- the values' own types

end Go.Proofs.Ytjpmichlhagbcaa.QFnExactCountsOfTree
