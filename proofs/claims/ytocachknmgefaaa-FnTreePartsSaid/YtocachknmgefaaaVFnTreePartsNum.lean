/- Binomial numbers, and numbers of trees by their heights: plain numbers and lists, no program. Conditions: none. -/
import Derived.Test.YtocachknmgefaaaVFnTreePartsBase
namespace Go.Proofs.Ytocachknmgefaaa.Base
open Go.RowKit Go.Proofs.YtocachknmgefaaaW.PrintWords Go.Proofs.YtocachknmgefaaaW.PrintLast Go.Proofs.YtocachknmgefaaaW.PrintMore
set_option linter.unusedVariables false
set_option linter.unusedSimpArgs false
/-! ### Numbers of trees with told counts -/
end Go.Proofs.Ytocachknmgefaaa.Base
