/- How many nodes have so many children; the way down by an address. Plain lists, no program. Conditions: none. -/
import Derived.Test.YtocachknmgefaaaVFnTreePartsBase5
namespace Go.Proofs.Ytocachknmgefaaa.Base
open Go.RowKit Go.Proofs.YtocachknmgefaaaW.PrintWords Go.Proofs.YtocachknmgefaaaW.PrintLast Go.Proofs.YtocachknmgefaaaW.PrintMore
set_option linter.unusedVariables false
set_option linter.unusedSimpArgs false
open F
/-- a root of a forest that lies at a place -/
theorem tops_get {d : List Int} {a j : Nat} {f : F} {p : Nat × F} (h : At d a f) (hp : (tops a f)[j]? = some p) : rd (offs a f) (j : Int) = (p.1 : Int) ∧ At d p.1 (cons p.2 nil) ∧ j < len f := by
  have hj : j < (tops a f).length := (List.getElem?_eq_some_iff.1 hp).1
  rw [tops_length] at hj
  refine ⟨?_, tops_At f a h p (List.mem_of_getElem? hp), hj⟩
  refine rd_of_get ?_
  rw [tops_offs, List.getElem?_map, hp]
  rfl
end Go.Proofs.Ytocachknmgefaaa.Base
