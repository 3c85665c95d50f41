import Derived.Test.YtocachknmgefaaaVFnTreePartsInv
import Derived.Test.YtocachknmgefaaaVFnTreePartsFootNe
namespace Go.Proofs.YtocachknmgefaaaW.PrintWords
open Go.RowKit
end Go.Proofs.YtocachknmgefaaaW.PrintWords
namespace Go.Proofs.YtocachknmgefaaaW.PrintLast
section
variable {ops : Array Oper} {a : Act} {o og : Oper} {g : Nat} {t : Tmp} {u : Bool}
end
end Go.Proofs.YtocachknmgefaaaW.PrintLast
