/- Places in forests: the forest below a node, children, parents, depths. Plain lists and numbers, no program. Conditions: none. -/
import Derived.Test.YtocachknmgefaaaVFnTreePartsBase
namespace Go.Proofs.Ytocachknmgefaaa.Base
open Go.RowKit Go.Proofs.YtocachknmgefaaaW.PrintWords Go.Proofs.YtocachknmgefaaaW.PrintLast Go.Proofs.YtocachknmgefaaaW.PrintMore
set_option linter.unusedVariables false
set_option linter.unusedSimpArgs false
open F
namespace F
/-- the forest below the node with a number -/
def sub : F → Nat → F
  | nil, _ => nil
  | cons k _, 0 => k
  | cons k r, v + 1 => if v < sz k then sub k v else sub r (v - sz k)
/-- the roots' numbers, from a number on -/
def offs (a : Nat) : F → List Int
  | nil => []
  | cons k r => (a : Int) :: offs (a + 1 + sz k) r
/-- the parent of the node with a number; the roots' parent is p; numbers from a on -/
def parAt (p : Int) (a : Nat) : F → Nat → Int
  | nil, _ => 0
  | cons _ _, 0 => p
  | cons k r, j + 1 => if j < sz k then parAt a (a + 1) k j else parAt p (a + 1 + sz k) r (j - sz k)
theorem drop_app_left {α : Type} {l m : List α} {v : Nat} (h : v ≤ l.length) : (l ++ m).drop v = l.drop v ++ m := by
  rw [List.drop_append, show v - l.length = 0 by omega, List.drop_zero]
theorem drop_app_right {α : Type} {l m : List α} {v : Nat} (h : l.length ≤ v) : (l ++ m).drop v = m.drop (v - l.length) := by
  rw [List.drop_append, List.drop_eq_nil_of_le h, List.nil_append]
theorem drop_sub (f : F) : ∀ v, v < sz f → ∃ tl, (degs f).drop v = (len (sub f v) : Int) :: (degs (sub f v) ++ tl) := by
  induction f with
  | nil => intro v h; simp [sz] at h
  | cons k r ihk ihr =>
    intro v h
    cases v with
    | zero => exact ⟨degs r, by simp [degs, sub]⟩
    | succ v =>
      simp only [degs, sub, List.drop_succ_cons]
      by_cases c : v < sz k
      · rw [if_pos c]
        obtain ⟨tl, e⟩ := ihk v c
        exact ⟨tl ++ degs r, by rw [drop_app_left (by rw [degs_length]; omega), e]; simp⟩
      · rw [if_neg c]
        obtain ⟨tl, e⟩ := ihr (v - sz k) (by simp only [sz] at h; omega)
        exact ⟨tl, by rw [drop_app_right (by rw [degs_length]; omega), degs_length, e]⟩
theorem sub_sz (f : F) : ∀ v, v < sz f → v + 1 + sz (sub f v) ≤ sz f := by
  induction f with
  | nil => intro v h; simp [sz] at h
  | cons k r ihk ihr =>
    intro v h
    cases v with
    | zero => simp only [sub, sz]; omega
    | succ v =>
      simp only [sub]
      by_cases c : v < sz k
      · rw [if_pos c]
        have := ihk v c
        simp only [sz]; omega
      · rw [if_neg c]
        have := ihr (v - sz k) (by simp only [sz] at h; omega)
        simp only [sz] at h ⊢; omega
theorem offs_length (f : F) : ∀ a, (offs a f).length = len f := by
  induction f with
  | nil => intro a; rfl
  | cons k r _ ihr => intro a; simp only [offs, len, List.length_cons, ihr]; omega
theorem offs_bound (f : F) : ∀ a, ∀ x ∈ offs a f, (a : Int) ≤ x ∧ x < (a : Int) + sz f := by
  induction f with
  | nil => intro a x h; simp [offs] at h
  | cons k r _ ihr =>
    intro a x h
    simp only [offs, List.mem_cons] at h
    simp only [sz]
    rcases h with rfl | h
    · omega
    · have := ihr _ x h; omega
theorem parAt_bound (f : F) : ∀ (p : Int) (a j : Nat), j < sz f → parAt p a f j = p ∨ ((a : Int) ≤ parAt p a f j ∧ parAt p a f j < (a : Int) + j) := by
  induction f with
  | nil => intro p a j h; simp [sz] at h
  | cons k r ihk ihr =>
    intro p a j h
    cases j with
    | zero => exact .inl rfl
    | succ j =>
      simp only [parAt]
      by_cases c : j < sz k
      · rw [if_pos c]
        rcases ihk a (a + 1) j c with e | e
        · exact .inr (by omega)
        · exact .inr (by omega)
      · rw [if_neg c]
        rcases ihr p (a + 1 + sz k) (j - sz k) (by simp only [sz] at h; omega) with e | e
        · exact .inl e
        · exact .inr (by omega)
theorem par_root (f : F) : ∀ (p : Int) (a j : Nat), p < a → j < sz f → (parAt p a f j = p ↔ ((a + j : Nat) : Int) ∈ offs a f) := by
  induction f with
  | nil => intro p a j _ h; simp [sz] at h
  | cons k r ihk ihr =>
    intro p a j hp h
    cases j with
    | zero => simp [parAt, offs]
    | succ j =>
      simp only [parAt, offs, List.mem_cons]
      by_cases c : j < sz k
      · rw [if_pos c]
        constructor
        · intro e
          rcases parAt_bound k a (a + 1) j c with e' | e' <;> omega
        · rintro (e | e)
          · omega
          · have := offs_bound _ _ _ e; omega
      · rw [if_neg c, ihr p (a + 1 + sz k) (j - sz k) (by omega) (by simp only [sz] at h; omega)]
        rw [show ((a + 1 + sz k + (j - sz k) : Nat) : Int) = ((a + (j + 1) : Nat) : Int) by omega]
        constructor
        · exact .inr
        · rintro (e | e)
          · omega
          · exact e
theorem par_kids (f : F) : ∀ (p : Int) (a i j : Nat), p < a → i < sz f → j < sz f →
    (parAt p a f j = ((a + i : Nat) : Int) ↔ ((a + j : Nat) : Int) ∈ offs (a + i + 1) (sub f i)) := by
  induction f with
  | nil => intro p a i j _ h; simp [sz] at h
  | cons k r ihk ihr =>
    intro p a i j hp hi hj
    simp only [sz] at hi hj
    cases i with
    | zero =>
      simp only [sub, Nat.add_zero]
      cases j with
      | zero =>
        simp only [parAt]
        constructor
        · intro e; omega
        · intro e; have := offs_bound _ _ _ e; omega
      | succ j =>
        simp only [parAt]
        by_cases c : j < sz k
        · rw [if_pos c, par_root k a (a + 1) j (by omega) c, show a + 1 + j = a + (j + 1) by omega]
        · rw [if_neg c]
          constructor
          · intro e
            rcases parAt_bound r p (a + 1 + sz k) (j - sz k) (by omega) with e' | e' <;> omega
          · intro e; have := offs_bound _ _ _ e; omega
    | succ i =>
      simp only [sub]
      by_cases ci : i < sz k
      · rw [if_pos ci]
        have hs := sub_sz k i ci
        cases j with
        | zero =>
          simp only [parAt]
          constructor
          · intro e; omega
          · intro e; have := offs_bound _ _ _ e; omega
        | succ j =>
          simp only [parAt]
          by_cases c : j < sz k
          · rw [if_pos c]
            have := ihk a (a + 1) i j (by omega) ci c
            rw [show a + 1 + i = a + (i + 1) by omega, show a + 1 + j = a + (j + 1) by omega] at this
            exact this
          · rw [if_neg c]
            constructor
            · intro e
              rcases parAt_bound r p (a + 1 + sz k) (j - sz k) (by omega) with e' | e' <;> omega
            · intro e; have := offs_bound _ _ _ e; omega
      · rw [if_neg ci]
        cases j with
        | zero =>
          simp only [parAt]
          constructor
          · intro e; omega
          · intro e; have := offs_bound _ _ _ e; omega
        | succ j =>
          simp only [parAt]
          by_cases c : j < sz k
          · rw [if_pos c]
            constructor
            · intro e
              rcases parAt_bound k a (a + 1) j c with e' | e' <;> omega
            · intro e; have := offs_bound _ _ _ e; omega
          · rw [if_neg c]
            have := ihr p (a + 1 + sz k) (i - sz k) (j - sz k) (by omega) (by omega) (by omega)
            rw [show a + 1 + sz k + (i - sz k) = a + (i + 1) by omega, show a + 1 + sz k + (j - sz k) = a + (j + 1) by omega] at this
            exact this
end F
end Go.Proofs.Ytocachknmgefaaa.Base
