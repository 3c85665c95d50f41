/- Binary trees: their parts, mirrored ones, vectors, brackets. Plain lists, no program. Conditions: none. -/
import Derived.Test.YtocachknmgefaaaVFnTreePartsBase3
namespace Go.Proofs.Ytocachknmgefaaa.Base
open Go.RowKit Go.Proofs.YtocachknmgefaaaW.PrintWords Go.Proofs.YtocachknmgefaaaW.PrintLast Go.Proofs.YtocachknmgefaaaW.PrintMore
set_option linter.unusedVariables false
set_option linter.unusedSimpArgs false
open F
namespace F
end F
end Go.Proofs.Ytocachknmgefaaa.Base
