/- Forests that lie at a place of a list of degrees; orders of nodes, texts, mirrored forests. Plain lists and numbers, no program. Conditions: none. -/
import Derived.Test.YtocachknmgefaaaVFnTreeCountsBase2
import Derived.Test.YtocachknmgefaaaVFnTreeCountsBin
namespace Go.Proofs.Ytocachknmgefaaa.Base
open Go.RowKit Go.Proofs.YtocachknmgefaaaW.PrintWords Go.Proofs.YtocachknmgefaaaW.PrintLast Go.Proofs.YtocachknmgefaaaW.PrintMore
set_option linter.unusedVariables false
set_option linter.unusedSimpArgs false
open F
/-- the degrees of the tree with a forest below its root -/
def tr (k : F) : List Int := degs (cons k nil)
theorem tr_length (k : F) : (tr k).length = sz k + 1 := by
  unfold tr
  rw [degs_length]
  simp only [sz]
  omega
theorem isT_cases (d : List Int) : isT d = false ∨ ∃ k, d = tr k ∧ sz k ≤ 23 ∧ isT d = true := by
  cases h : isT d with
  | false => exact .inl rfl
  | true =>
    obtain ⟨k, h1, h2⟩ := (isT_iff d).1 h
    exact .inr ⟨k, h1, h2, rfl⟩
/-- a forest lies at a place -/
def At (d : List Int) (a : Nat) (f : F) : Prop := a + sz f ≤ d.length ∧ ∃ tl, d.drop a = degs f ++ tl
theorem At.step {d : List Int} {a : Nat} {k r : F} (h : At d a (cons k r)) : a < d.length ∧ rd d (a : Int) = (len k : Int) ∧ At d (a + 1) k ∧ At d (a + 1 + sz k) r := by
  obtain ⟨h1, tl, h2⟩ := h
  simp only [sz] at h1
  simp only [degs, List.cons_append, List.append_assoc] at h2
  have h3 := (drop_cons h2).2.2
  refine ⟨by omega, rd_drop h2, ⟨by omega, degs r ++ tl, h3⟩, ⟨by omega, tl, ?_⟩⟩
  rw [← List.drop_drop, h3, drop_app_right (by rw [degs_length]; omega), degs_length, Nat.sub_self, List.drop_zero]
theorem At.app {d : List Int} {a : Nat} {k r : F} (h : At d a (cons k r)) : At d (a + 1) (app k r) := by
  obtain ⟨h1, tl, h2⟩ := h
  simp only [sz] at h1
  simp only [degs, List.cons_append, List.append_assoc] at h2
  refine ⟨by rw [sz_app]; omega, tl, ?_⟩
  rw [(drop_cons h2).2.2, degs_app, List.append_assoc]
end Go.Proofs.Ytocachknmgefaaa.Base
