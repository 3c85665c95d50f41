/- Texts of binary trees: plain lists of bytes, no program. Conditions: none. -/
import Derived.Test.YtocachknmgefaaaVFnTreePartsBase
namespace Go.Proofs.Ytocachknmgefaaa.Base
open Go.RowKit Go.Proofs.YtocachknmgefaaaW.PrintWords Go.Proofs.YtocachknmgefaaaW.PrintLast Go.Proofs.YtocachknmgefaaaW.PrintMore
set_option linter.unusedVariables false
set_option linter.unusedSimpArgs false
open F
/-! ### Strings as lists of bytes -/
/-! ### Binary trees as forests: a node's left part is the forest below it -/
namespace F
end F
end Go.Proofs.Ytocachknmgefaaa.Base
