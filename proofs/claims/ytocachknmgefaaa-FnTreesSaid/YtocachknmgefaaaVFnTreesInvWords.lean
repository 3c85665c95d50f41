import Derived.Test.YtocachknmgefaaaVFnTreesInv
import Derived.Test.YtocachknmgefaaaVFnTreesFootNe
namespace Go.Proofs.YtocachknmgefaaaW.PrintWords
open Go.RowKit
end Go.Proofs.YtocachknmgefaaaW.PrintWords
namespace Go.Proofs.YtocachknmgefaaaW.PrintLast
section
variable {ops : Array Oper} {a : Act} {o og : Oper} {g : Nat} {t : Tmp} {u : Bool}
end
end Go.Proofs.YtocachknmgefaaaW.PrintLast
