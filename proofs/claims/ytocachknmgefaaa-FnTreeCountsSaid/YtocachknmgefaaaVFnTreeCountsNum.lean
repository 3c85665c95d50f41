/- Binomial numbers, and numbers of trees by their heights: plain numbers and lists, no program. Conditions: none. -/
import Derived.Test.YtocachknmgefaaaVFnTreeCountsBase
namespace Go.Proofs.Ytocachknmgefaaa.Base
open Go.RowKit Go.Proofs.YtocachknmgefaaaW.PrintWords Go.Proofs.YtocachknmgefaaaW.PrintLast Go.Proofs.YtocachknmgefaaaW.PrintMore
set_option linter.unusedVariables false
set_option linter.unusedSimpArgs false
/-- n over k, for k of at most n -/
def ch (n : Int) : Nat → Int
  | 0 => 1
  | k + 1 => ch n k * (n - k) / (k + 1)
/-- n over k -/
def chz (n k : Int) : Int := if k < 0 ∨ k > n then 0 else ch n k.toNat
theorem all_range {n : Nat} {p : Nat → Bool} (h : (List.range n).all p = true) {i : Nat} (hi : i < n) : p i = true :=
  List.all_eq_true.1 h i (List.mem_range.2 hi)
theorem all_two {n : Nat} {p : Nat → Nat → Bool} (h : ((List.range n).all fun a => (List.range (a + 1)).all fun b => p a b) = true) {a b : Nat} (ha : a < n) (hb : b ≤ a) : p a b = true :=
  all_range (all_range h ha) (by omega)
/-- now[1] * f[m - 1] + .. + now[j] * f[m - j], as the machine adds -/
def dot (now f : List Int) (m : Nat) : Nat → Int
  | 0 => 0
  | j + 1 => wrap64 (dot now f m j + wrap64 (rd now ((j + 1 : Nat) : Int) * rd f ((m : Int) - ((j + 1 : Nat) : Int))))
/-- the numbers of lists of trees with up to m nodes together -/
def lst (now : List Int) : Nat → List Int
  | 0 => [1]
  | m + 1 => lst now m ++ [dot now (lst now m) (m + 1) (m + 1)]
theorem lst_length (now : List Int) (m : Nat) : (lst now m).length = m + 1 := by
  induction m with
  | zero => rfl
  | succ m ih => simp [lst, ih]
theorem dot_congr {now now' f f' : List Int} {m : Nat} : ∀ j, j ≤ m → (∀ i : Nat, i ≤ m → rd now i = rd now' i) → (∀ i : Nat, i < m → rd f i = rd f' i) → dot now f m j = dot now' f' m j := by
  intro j
  induction j with
  | zero => intro _ _ _; rfl
  | succ j ih =>
    intro hj h1 h2
    simp only [dot]
    rw [ih (by omega) h1 h2, h1 (j + 1) hj, show (m : Int) - ((j + 1 : Nat) : Int) = ((m - (j + 1) : Nat) : Int) by omega, h2 _ (by omega)]
theorem lst_rd {now : List Int} {m m' : Nat} (h : m ≤ m') : ∀ i : Nat, i ≤ m → rd (lst now m') i = rd (lst now m) i := by
  intro i hi
  induction m' with
  | zero => rw [show m = 0 by omega]
  | succ m' ih =>
    by_cases c : m = m' + 1
    · rw [c]
    · rw [lst, rd_append_left (by rw [lst_length]; omega), ih (by omega)]
theorem lst_congr {now now' : List Int} : ∀ m, (∀ i : Nat, i ≤ m → rd now i = rd now' i) → lst now m = lst now' m := by
  intro m
  induction m with
  | zero => intro _; rfl
  | succ m ih =>
    intro h
    simp only [lst]
    rw [ih (fun i hi => h i (by omega)), dot_congr (m + 1) (Nat.le_refl _) h (fun i _ => rfl)]
/-- the numbers of trees with 0 to n nodes and heights less than h -/
def low (n : Nat) : Nat → List Int
  | 0 => List.replicate (n + 1) 0
  | h + 1 => 0 :: (lst (low n h) n).take n
theorem low_length (n h : Nat) : (low n h).length = n + 1 := by
  cases h with
  | zero => simp [low]
  | succ h => simp [low, lst_length]
theorem rd_take {xs : List Int} {n i : Nat} (h : i < n) : rd (xs.take n) (i : Int) = rd xs (i : Int) := by
  rw [rd_nat, rd_nat, List.getD_eq_getElem?_getD, List.getD_eq_getElem?_getD, List.getElem?_take_of_lt h]
theorem rd_zeros {n i : Nat} : rd (List.replicate n 0) (i : Int) = 0 := by
  rw [rd_nat, List.getD_eq_getElem?_getD]
  by_cases h : i < n
  · rw [List.getElem?_replicate_of_lt h]; rfl
  · rw [List.getElem?_eq_none (by rw [List.length_replicate]; omega)]; rfl
theorem low_rd {n n' : Nat} (hn : n ≤ n') (h : Nat) : ∀ i : Nat, i ≤ n → rd (low n' h) i = rd (low n h) i := by
  induction h with
  | zero => intro i _; simp only [low]; rw [rd_zeros, rd_zeros]
  | succ h ih =>
    intro i hi
    simp only [low]
    cases i with
    | zero => rw [rd_cons_zero, rd_cons_zero]
    | succ i =>
      rw [rd_cons_succ, rd_cons_succ, rd_take (by omega), rd_take (by omega), lst_rd hn i (by omega), lst_congr n ih]
/-! ### Numbers of trees with told counts -/
def cbcSum : List Int → Int → Int → Int → Option (Int × Int)
  | [], _, n, c => some (n, c)
  | x :: xs, i, n, c => if 0 ≤ x ∧ x ≤ 20 then cbcSum xs (i + 1) (n + x) (c + i * x) else none
def cbcProd : List Int → Int → Int → Int
  | [], out, _ => out
  | x :: xs, out, left => cbcProd xs (wrap64 (out * chz left x)) (left - x)
def sumI : List Int → Int
  | [] => 0
  | x :: xs => x + sumI xs
theorem cbcSum_tells : ∀ (l : List Int) (i n c n' c' : Int), 0 ≤ i → 0 ≤ c → cbcSum l i n c = some (n', c') → n' = n + sumI l ∧ 0 ≤ c' ∧ ∀ x ∈ l, 0 ≤ x ∧ x ≤ 20 := by
  intro l
  induction l with
  | nil => intro i n c n' c' _ h0 h; simp only [cbcSum, Option.some.injEq, Prod.mk.injEq] at h; refine ⟨by simp [sumI, h.1], by omega, by simp⟩
  | cons x xs ih =>
    intro i n c n' c' hi h0 h
    simp only [cbcSum] at h
    by_cases c0 : 0 ≤ x ∧ x ≤ 20
    · rw [if_pos c0] at h
      have hp := Int.mul_nonneg hi c0.1
      obtain ⟨h1, h2, h3⟩ := ih (i + 1) (n + x) (c + i * x) n' c' (by omega) (by omega) h
      refine ⟨by simp only [sumI]; omega, h2, ?_⟩
      intro y hy
      rcases List.mem_cons.1 hy with rfl | hy
      · exact c0
      · exact h3 y hy
    · rw [if_neg c0] at h; cases h
theorem sumI_nonneg : ∀ (l : List Int), (∀ x ∈ l, 0 ≤ x ∧ x ≤ 20) → 0 ≤ sumI l := by
  intro l
  induction l with
  | nil => intro _; simp [sumI]
  | cons x xs ih =>
    intro h
    have h1 := h x (by simp)
    have h2 := ih (fun y hy => h y (by simp [hy]))
    simp only [sumI]; omega
/-- the answer, and its code -/
def cbc (l : List Int) : Int × Int :=
  if l.length < 1 ∨ 30 < l.length ∨ rd l ((l.length : Int) - 1) = 0 then (0, 2)
  else match cbcSum l 0 0 0 with
    | none => (0, 2)
    | some (n, c) => if n > 20 then (0, 2) else if c = n - 1 then (wrap64 (Int.tdiv (cbcProd l 1 n) n), 0) else (0, 5)
end Go.Proofs.Ytocachknmgefaaa.Base
