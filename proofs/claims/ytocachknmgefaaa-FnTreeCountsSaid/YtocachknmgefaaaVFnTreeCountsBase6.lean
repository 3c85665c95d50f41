/- How many nodes have so many children; the way down by an address. Plain lists, no program. Conditions: none. -/
import Derived.Test.YtocachknmgefaaaVFnTreeCountsBase5
namespace Go.Proofs.Ytocachknmgefaaa.Base
open Go.RowKit Go.Proofs.YtocachknmgefaaaW.PrintWords Go.Proofs.YtocachknmgefaaaW.PrintLast Go.Proofs.YtocachknmgefaaaW.PrintMore
set_option linter.unusedVariables false
set_option linter.unusedSimpArgs false
open F
/-- how often 0, 1, .., n - 1 occur -/
def cnt (p : List Int) (n : Nat) : List Int := (List.range n).map fun j : Nat => ((p.count (j : Int) : Nat) : Int)
theorem cnt_length (p : List Int) (n : Nat) : (cnt p n).length = n := by simp [cnt]
/-- one more than the greatest number -/
def nf (n : Nat) : List Int → Nat
  | [] => n
  | x :: xs => nf (max n (x.toNat + 1)) xs
theorem nf_append (xs ys : List Int) : ∀ n, nf n (xs ++ ys) = nf (nf n xs) ys := by
  induction xs with
  | nil => intro n; rfl
  | cons x xs ih => intro n; simp only [List.cons_append, nf, ih]
theorem nf_mono (xs : List Int) : ∀ n, n ≤ nf n xs := by
  induction xs with
  | nil => intro n; exact Nat.le_refl _
  | cons x xs ih => intro n; have := ih (max n (x.toNat + 1)); simp only [nf]; omega
theorem nf_bound (xs : List Int) : ∀ n, ∀ x ∈ xs, x < (nf n xs : Int) := by
  induction xs with
  | nil => intro n x h; simp at h
  | cons y xs ih =>
    intro n x h
    simp only [nf]
    rcases List.mem_cons.1 h with rfl | h
    · have := nf_mono xs (max n (x.toNat + 1))
      omega
    · exact ih _ x h
theorem nf_le (xs : List Int) (b : Nat) : ∀ n, n ≤ b → (∀ x ∈ xs, x < (b : Int)) → 1 ≤ b → nf n xs ≤ b := by
  induction xs with
  | nil => intro n h _ _; exact h
  | cons y xs ih =>
    intro n h hx hb
    have h1 := hx y (by simp)
    exact ih _ (by omega) (fun x hm => hx x (by simp [hm])) hb
theorem cnt_push {p : List Int} {n : Nat} (h : ∀ x ∈ p, x < (n : Int)) : cnt p (n + 1) = cnt p n ++ [0] := by
  unfold cnt
  rw [map_range_snoc]
  congr 1
  rw [List.count_eq_zero.2 (fun hm => by have := h _ hm; omega)]
  rfl
theorem cnt_rd (p : List Int) (n x : Nat) (h : x < n) : rd (cnt p n) (x : Int) = ((p.count (x : Int) : Nat) : Int) := by
  refine rd_of_get ?_
  unfold cnt
  rw [List.getElem?_map, List.getElem?_range h]
  rfl
theorem cnt_set (p : List Int) (n x : Nat) (h : x < n) : (cnt p n).set x (rd (cnt p n) (x : Int) + 1) = cnt (p ++ [(x : Int)]) n := by
  rw [cnt_rd p n x h]
  refine List.ext_getElem (by simp [cnt]) (fun j h1 h2 => ?_)
  rw [List.getElem_set]
  have hj : j < n := by simpa [cnt] using h2
  simp only [cnt, List.getElem_map, List.getElem_range, List.count_append]
  by_cases c : x = j
  · subst c
    rw [if_pos rfl]
    simp
  · rw [if_neg c]
    have h0 : List.count ((j : Nat) : Int) [((x : Nat) : Int)] = 0 := List.count_eq_zero.2 (fun hm => c (by rw [List.mem_singleton] at hm; omega))
    rw [h0]
    simp
theorem mx_nf : ∀ (xs : List Int) (m : Int), 0 ≤ m → (∀ x ∈ xs, 0 ≤ x) → xs.foldl mx m + 1 = (nf (m.toNat + 1) xs : Int) := by
  intro xs
  induction xs with
  | nil => intro m h _; simp only [List.foldl_nil, nf]; omega
  | cons y xs ih =>
    intro m h hx
    have h1 := hx y (by simp)
    simp only [List.foldl_cons, nf]
    have e : mx m y = if m < y then y else m := rfl
    rw [ih (mx m y) (by rw [e]; split <;> omega) (fun x hm => hx x (by simp [hm]))]
    congr 2
    rw [e]
    split <;> omega
/-- the counts of a tree -/
def cntV (k : F) : List Int := cnt (tr k) (nf 0 (tr k))
theorem tr_bound {k : F} (x : Int) (h : x ∈ tr k) : 0 ≤ x ∧ x < (sz k : Int) + 1 := by
  have := degs_nonneg _ x h
  simp only [sz] at this
  omega
end Go.Proofs.Ytocachknmgefaaa.Base
