/- Answers about trees, told once for both texts that answer them. Plain lists and numbers, no program. Conditions: none. -/
import Derived.Test.YtocachknmgefaaaVFnTreeCountsBase3
namespace Go.Proofs.Ytocachknmgefaaa.Base
open Go.RowKit Go.Proofs.YtocachknmgefaaaW.PrintWords Go.Proofs.YtocachknmgefaaaW.PrintLast Go.Proofs.YtocachknmgefaaaW.PrintMore
set_option linter.unusedVariables false
set_option linter.unusedSimpArgs false
open F
/-- an answer about a tree, with its code -/
def treeR {α : Type} (val : F → α) (z : α) (d : List Int) (R : α × Int) : Prop :=
  (isT d = false ∧ R = (z, 1)) ∨ ∃ k, d = tr k ∧ sz k ≤ 23 ∧ isT d = true ∧ R = (val k, 0)
theorem treeR_ex {α : Type} (val : F → α) (z : α) (d : List Int) : ∃ R, treeR val z d R := by
  rcases isT_cases d with h | ⟨k, h1, h2, h3⟩
  · exact ⟨_, .inl ⟨h, rfl⟩⟩
  · exact ⟨_, .inr ⟨k, h1, h2, h3, rfl⟩⟩
theorem map_range_snoc {α : Type} (g : Nat → α) (n : Nat) : (List.range (n + 1)).map g = (List.range n).map g ++ [g n] := by simp [List.range_succ]
end Go.Proofs.Ytocachknmgefaaa.Base
