/- Where two nodes meet, and the address of a node. Plain lists, no program. Conditions: none. -/
import Derived.Test.YtocachknmgefaaaVFnTreesPar
namespace Go.Proofs.Ytocachknmgefaaa.Base
open Go.RowKit Go.Proofs.YtocachknmgefaaaW.PrintWords Go.Proofs.YtocachknmgefaaaW.PrintLast Go.Proofs.YtocachknmgefaaaW.PrintMore
set_option linter.unusedVariables false
set_option linter.unusedSimpArgs false
open F
end Go.Proofs.Ytocachknmgefaaa.Base
