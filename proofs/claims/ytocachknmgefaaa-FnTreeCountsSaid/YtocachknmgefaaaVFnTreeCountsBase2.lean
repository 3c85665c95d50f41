/- Places in forests: the forest below a node, children, parents, depths. Plain lists and numbers, no program. Conditions: none. -/
import Derived.Test.YtocachknmgefaaaVFnTreeCountsBase
namespace Go.Proofs.Ytocachknmgefaaa.Base
open Go.RowKit Go.Proofs.YtocachknmgefaaaW.PrintWords Go.Proofs.YtocachknmgefaaaW.PrintLast Go.Proofs.YtocachknmgefaaaW.PrintMore
set_option linter.unusedVariables false
set_option linter.unusedSimpArgs false
open F
namespace F
theorem drop_app_right {α : Type} {l m : List α} {v : Nat} (h : l.length ≤ v) : (l ++ m).drop v = m.drop (v - l.length) := by
  rw [List.drop_append, List.drop_eq_nil_of_le h, List.nil_append]
end F
end Go.Proofs.Ytocachknmgefaaa.Base
