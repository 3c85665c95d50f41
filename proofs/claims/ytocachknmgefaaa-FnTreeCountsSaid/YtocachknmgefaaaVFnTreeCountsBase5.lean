/- Texts of trees read; lists compared. Plain lists, no program. Conditions: none. -/
import Derived.Test.YtocachknmgefaaaVFnTreeCountsBase4
namespace Go.Proofs.Ytocachknmgefaaa.Base
open Go.RowKit Go.Proofs.YtocachknmgefaaaW.PrintWords Go.Proofs.YtocachknmgefaaaW.PrintLast Go.Proofs.YtocachknmgefaaaW.PrintMore
set_option linter.unusedVariables false
set_option linter.unusedSimpArgs false
open F
/-! ### Reading -/
/-- the degrees so far, of open nodes with the forests below them that are whole, the innermost first; c: how many more children each of the others has -/
def enc : List F → Int → List Int
  | [], _ => []
  | f :: fs, c => enc fs 1 ++ ((len f : Int) + c) :: degs f
end Go.Proofs.Ytocachknmgefaaa.Base
