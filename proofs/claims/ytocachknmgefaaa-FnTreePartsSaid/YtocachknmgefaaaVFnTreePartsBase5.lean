/- Texts of trees read; lists compared. Plain lists, no program. Conditions: none. -/
import Derived.Test.YtocachknmgefaaaVFnTreePartsBase4
namespace Go.Proofs.Ytocachknmgefaaa.Base
open Go.RowKit Go.Proofs.YtocachknmgefaaaW.PrintWords Go.Proofs.YtocachknmgefaaaW.PrintLast Go.Proofs.YtocachknmgefaaaW.PrintMore
set_option linter.unusedVariables false
set_option linter.unusedSimpArgs false
open F
theorem lexV_cases : ∀ (xs ys : List Int), lexV xs ys = -1 ∨ lexV xs ys = 0 ∨ lexV xs ys = 1 := by
  intro xs
  induction xs with
  | nil => intro ys; right; left; cases ys <;> rfl
  | cons x xs ih =>
    intro ys
    cases ys with
    | nil => right; left; rfl
    | cons y ys =>
      simp only [lexV]
      by_cases c : x = y
      · rw [if_pos c]; exact ih ys
      · rw [if_neg c]
        by_cases c' : x < y
        · rw [if_pos c']; exact .inl rfl
        · rw [if_neg c']; exact .inr (.inr rfl)
theorem lexV_swap : ∀ (xs ys : List Int), lexV ys xs = - lexV xs ys := by
  intro xs
  induction xs with
  | nil => intro ys; cases ys <;> rfl
  | cons x xs ih =>
    intro ys
    cases ys with
    | nil => rfl
    | cons y ys =>
      simp only [lexV]
      by_cases c : x = y
      · rw [if_pos c, if_pos c.symm]; exact ih ys
      · rw [if_neg c, if_neg (fun e => c e.symm)]
        by_cases c' : x < y
        · rw [if_pos c', if_neg (by omega)]; rfl
        · rw [if_neg c', if_pos (by omega)]
theorem cmpV_cases (d e : List Int) : cmpV d e = -1 ∨ cmpV d e = 0 ∨ cmpV d e = 1 := by
  unfold cmpV
  by_cases c : d.length < e.length
  · rw [if_pos c]; exact .inl rfl
  · rw [if_neg c]
    by_cases c' : e.length < d.length
    · rw [if_pos c']; exact .inr (.inr rfl)
    · rw [if_neg c']; exact lexV_cases d e
theorem cmpV_swap (d e : List Int) : cmpV e d = - cmpV d e := by
  unfold cmpV
  by_cases c : d.length < e.length
  · rw [if_pos c, if_neg (by omega), if_pos c]; rfl
  · rw [if_neg c]
    by_cases c' : e.length < d.length
    · rw [if_pos c', if_neg c, if_pos c']
    · rw [if_neg c', if_neg c', if_neg c]; exact lexV_swap d e
/-! ### Reading -/
/-- the degrees so far, of open nodes with the forests below them that are whole, the innermost first; c: how many more children each of the others has -/
def enc : List F → Int → List Int
  | [], _ => []
  | f :: fs, c => enc fs 1 ++ ((len f : Int) + c) :: degs f
end Go.Proofs.Ytocachknmgefaaa.Base
