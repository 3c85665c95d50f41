/- Parents and depths of the nodes of a tree, as the two loops lay them. Plain lists, no program. Conditions: none. -/
import Derived.Test.YtocachknmgefaaaVFnTreePartsBase6
namespace Go.Proofs.Ytocachknmgefaaa.Base
open Go.RowKit Go.Proofs.YtocachknmgefaaaW.PrintWords Go.Proofs.YtocachknmgefaaaW.PrintLast Go.Proofs.YtocachknmgefaaaW.PrintMore
set_option linter.unusedVariables false
set_option linter.unusedSimpArgs false
open F
def par (k : F) (j : Nat) : Int := parAt (-1) 0 (cons k nil) j
def parV (k : F) : List Int := (List.range (sz k + 1)).map (par k)
def parS (k : F) (z : Int) (m : Nat) : List Int := (List.range (sz k + 1)).map fun j => if par k j < (m : Int) then par k j else z
theorem par_zero (k : F) : par k 0 = -1 := rfl
theorem par_pos (k : F) {j : Nat} (h1 : 1 ≤ j) (h2 : j ≤ sz k) : 0 ≤ par k j ∧ par k j < j := by
  obtain ⟨i, rfl⟩ : ∃ i, j = i + 1 := ⟨j - 1, by omega⟩
  have e : par k (i + 1) = parAt 0 1 k i := by
    unfold par
    simp only [parAt]
    rw [if_pos (by omega)]
    rfl
  have := parAt_bound k 0 1 i (by omega)
  rw [e]
  omega
theorem par_lt (k : F) {j : Nat} (h : j ≤ sz k) : par k j < j := by
  by_cases c : j = 0
  · subst c
    rw [par_zero]
    omega
  · exact (par_pos k (by omega) h).2
theorem par_mem (k : F) {i j : Nat} (hi : i ≤ sz k) (hj : j ≤ sz k) : par k j = (i : Int) ↔ (j : Int) ∈ offs (i + 1) (st k i) := by
  have := par_kids (cons k nil) (-1) 0 i j (by omega) (by simp only [sz]; omega) (by simp only [sz]; omega)
  simp only [Nat.zero_add] at this
  exact this
theorem parV_length (k : F) : (parV k).length = sz k + 1 := by simp [parV]
theorem parS_length (k : F) (z : Int) (m : Nat) : (parS k z m).length = sz k + 1 := by simp [parS]
theorem parS_get (k : F) (z : Int) (m : Nat) {j : Nat} (h : j ≤ sz k) : (parS k z m)[j]? = some (if par k j < (m : Int) then par k j else z) := by
  unfold parS
  rw [List.getElem?_map, List.getElem?_range (by omega)]
  rfl
theorem parV_get (k : F) {j : Nat} (h : j ≤ sz k) : (parV k)[j]? = some (par k j) := by
  unfold parV
  rw [List.getElem?_map, List.getElem?_range (by omega)]
  rfl
theorem parV_rd (k : F) {j : Nat} (h : j ≤ sz k) : rd (parV k) (j : Int) = par k j := rd_of_get (parV_get k h)
/-- all the places of a list are set to one value -/
def setAll (P : List Int) (cs : List Int) (x : Int) : List Int := cs.foldl (fun P c => P.set c.toNat x) P
theorem setAll_get (x : Int) (j : Nat) : ∀ (cs P : List Int), (∀ c ∈ cs, 0 ≤ c) → (setAll P cs x)[j]? = if (j : Int) ∈ cs ∧ j < P.length then some x else P[j]? := by
  intro cs
  induction cs with
  | nil => intro P _; simp [setAll]
  | cons c cs ih =>
    intro P h
    have hc := h c (by simp)
    have := ih (P.set c.toNat x) (fun d hd => h d (by simp [hd]))
    rw [List.length_set] at this
    show (setAll (P.set c.toNat x) cs x)[j]? = _
    rw [this, List.getElem?_set]
    by_cases h1 : (j : Int) ∈ cs
    · by_cases h2 : j < P.length
      · rw [if_pos ⟨h1, h2⟩, if_pos ⟨by simp [h1], h2⟩]
      · have g1 : ¬ ((j : Int) ∈ cs ∧ j < P.length) := fun z => h2 z.2
        have g2 : ¬ ((j : Int) ∈ c :: cs ∧ j < P.length) := fun z => h2 z.2
        rw [if_neg g1, if_neg g2, List.getElem?_eq_none (by omega)]
        split
        · rw [if_neg (by omega)]
        · rfl
    · rw [if_neg (fun z => h1 z.1)]
      by_cases h3 : c.toNat = j
      · rw [if_pos h3]
        by_cases h2 : j < P.length
        · rw [if_pos (by omega), if_pos ⟨by simp only [List.mem_cons]; exact .inl (by omega), h2⟩]
        · rw [if_neg (by omega), if_neg (fun z => h2 z.2), List.getElem?_eq_none (by omega)]
      · rw [if_neg h3, if_neg (fun z => by
          rcases List.mem_cons.1 z.1 with e | e
          · omega
          · exact h1 e)]
theorem parS_step (k : F) (z : Int) {m : Nat} (hm : m ≤ sz k) : setAll (parS k z m) (offs (m + 1) (st k m)) (m : Int) = parS k z (m + 1) := by
  apply List.ext_getElem?
  intro j
  rw [setAll_get _ _ _ _ (fun c hc => by have := offs_bound (st k m) (m + 1) c hc; omega), parS_length]
  by_cases hj : j ≤ sz k
  · rw [parS_get k z (m + 1) hj, parS_get k z m hj]
    by_cases c : (j : Int) ∈ offs (m + 1) (st k m)
    · have e := (par_mem k hm hj).2 c
      rw [if_pos ⟨c, by omega⟩, if_pos (by omega), e]
    · have e : par k j ≠ (m : Int) := fun e => c ((par_mem k hm hj).1 e)
      rw [if_neg (fun z => c z.1)]
      by_cases h : par k j < (m : Int)
      · rw [if_pos h, if_pos (by omega)]
      · rw [if_neg h, if_neg (by omega)]
  · rw [if_neg (by omega), List.getElem?_eq_none (by rw [parS_length]; omega), List.getElem?_eq_none (by rw [parS_length]; omega)]
theorem parS_end (k : F) (z : Int) : parS k z (sz k + 1) = parV k := by
  unfold parS parV
  apply List.map_congr_left
  intro j hj
  rw [List.mem_range] at hj
  have := par_lt k (j := j) (by omega)
  rw [if_pos (by omega)]
theorem parS_spec (k : F) : parS k 0 0 = (List.replicate (sz k + 1) 0).set 0 (-1) := by
  apply List.ext_getElem?
  intro j
  by_cases hj : j ≤ sz k
  · rw [parS_get k 0 0 hj, List.getElem?_set]
    by_cases c : j = 0
    · subst c
      rw [par_zero]
      simp
    · have := par_pos k (by omega) hj
      have h1 : ¬ par k j < ((0 : Nat) : Int) := by omega
      have h2 : ¬ 0 = j := by omega
      have h3 : j < sz k + 1 := by omega
      rw [if_neg h1, if_neg h2, List.getElem?_replicate, if_pos h3]
  · rw [List.getElem?_eq_none (by rw [parS_length]; omega), List.getElem?_eq_none (by simp; omega)]
theorem parS_impl (k : F) : parS k (-1) 0 = List.replicate (sz k + 1) (-1) := by
  apply List.ext_getElem?
  intro j
  by_cases hj : j ≤ sz k
  · have h3 : j < sz k + 1 := by omega
    rw [parS_get k (-1) 0 hj, List.getElem?_replicate, if_pos h3]
    by_cases c : j = 0
    · subst c
      rw [par_zero]
      simp
    · have := par_pos k (by omega) hj
      have h1 : ¬ par k j < ((0 : Nat) : Int) := by omega
      rw [if_neg h1]
  · rw [List.getElem?_eq_none (by rw [parS_length]; omega), List.getElem?_eq_none (by simp; omega)]
end Go.Proofs.Ytocachknmgefaaa.Base
