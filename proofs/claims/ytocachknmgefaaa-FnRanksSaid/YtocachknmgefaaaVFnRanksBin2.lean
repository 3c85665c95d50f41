/- Binary trees: their parts, mirrored ones, vectors, brackets. Plain lists, no program. Conditions: none. -/
import Derived.Test.YtocachknmgefaaaVFnRanksBase3
namespace Go.Proofs.Ytocachknmgefaaa.Base
open Go.RowKit Go.Proofs.YtocachknmgefaaaW.PrintWords Go.Proofs.YtocachknmgefaaaW.PrintLast Go.Proofs.YtocachknmgefaaaW.PrintMore
set_option linter.unusedVariables false
set_option linter.unusedSimpArgs false
open F
/-- an answer about a binary tree -/
def binR {α : Type} (val : F → α) (z : α) (w : List UInt8) (R : α × Int) : Prop :=
  (isB w = false ∧ R = (z, 1)) ∨ ∃ f, w = bin f ∧ sz f ≤ 23 ∧ isB w = true ∧ R = (val f, 0)
theorem isB_cases (w : List UInt8) : isB w = false ∨ ∃ f, w = bin f ∧ sz f ≤ 23 ∧ isB w = true := by
  cases h : isB w with
  | false => exact .inl rfl
  | true =>
    obtain ⟨f, h1, h2⟩ := (isB_iff w).1 h
    exact .inr ⟨f, h1, h2, rfl⟩
theorem binR_ex {α : Type} (val : F → α) (z : α) (w : List UInt8) : ∃ R, binR val z w R := by
  rcases isB_cases w with h | ⟨f, h1, h2, h3⟩
  · exact ⟨_, .inl ⟨h, rfl⟩⟩
  · exact ⟨_, .inr ⟨f, h1, h2, h3, rfl⟩⟩
theorem binR_len {α : Type} {val : F → List α} {w : List UInt8} {R : List α × Int} (h : binR val [] w R) (hv : ∀ f, sz f ≤ 23 → (val f).length ≤ 1000) : R.1.length ≤ 1000 := by
  rcases h with ⟨_, rfl⟩ | ⟨f, _, h2, _, rfl⟩
  · simp
  · exact hv f h2
theorem bin_nil : S (bin nil) = S [48] := rfl
theorem bin_is_nil (f : F) : (S (bin f)).toList = ([48] : List UInt8) ↔ f = nil := by
  rw [S_toList]
  cases f with
  | nil => simp [bin]
  | cons l r => simp [bin]
/-- both parts of the root, and a code -/
def sidesR (w : List UInt8) (R : ByteArray × ByteArray × Int) : Prop :=
  (isB w = false ∧ R = (S [], S [], 1)) ∨ (w = bin nil ∧ isB w = true ∧ R = (S [], S [], 5)) ∨ ∃ l r, w = bin (cons l r) ∧ sz (cons l r) ≤ 23 ∧ isB w = true ∧ R = (S (bin l), S (bin r), 0)
theorem sidesR_ex (w : List UInt8) : ∃ R, sidesR w R := by
  rcases isB_cases w with h | ⟨f, h1, h2, h3⟩
  · exact ⟨_, .inl ⟨h, rfl⟩⟩
  · cases f with
    | nil => exact ⟨_, .inr (.inl ⟨h1, h3, rfl⟩)⟩
    | cons l r => exact ⟨_, .inr (.inr ⟨l, r, h1, h2, h3, rfl⟩)⟩
/-- two binary trees joined -/
def joinV (v w : List UInt8) : ByteArray × Int :=
  if isB v = true ∧ isB w = true then (if (v.length : Int) / 2 + (w.length : Int) / 2 + 1 > 23 then (S [], 3) else (S (49 :: (v ++ w)), 0)) else (S [], 1)
theorem joinV_no {v w : List UInt8} (h : ¬ (isB v = true ∧ isB w = true)) : joinV v w = (S [], 1) := by
  unfold joinV
  rw [if_neg h]
theorem joinV_limit {v w : List UInt8} (h1 : isB v = true) (h2 : isB w = true) (c : (v.length : Int) / 2 + (w.length : Int) / 2 + 1 > 23) : joinV v w = (S [], 3) := by
  unfold joinV
  rw [if_pos ⟨h1, h2⟩, if_pos c]
theorem joinV_ok {v w : List UInt8} (h1 : isB v = true) (h2 : isB w = true) (c : ¬ ((v.length : Int) / 2 + (w.length : Int) / 2 + 1 > 23)) : joinV v w = (S (49 :: (v ++ w)), 0) := by
  unfold joinV
  rw [if_pos ⟨h1, h2⟩, if_neg c]
namespace F
/-- mirrored -/
def mb : F → F
  | nil => nil
  | cons l r => cons (mb r) (mb l)
theorem mb_sz (f : F) : sz (mb f) = sz f := by
  induction f with
  | nil => rfl
  | cons l r hl hr => simp only [mb, sz, hl, hr]; omega
/-- the nodes in inner order, from a number on -/
def inn (a : Nat) : F → List Int
  | nil => []
  | cons l r => inn (a + 1) l ++ (a : Int) :: inn (a + 1 + sz l) r
theorem inn_length (f : F) : ∀ a, (inn a f).length = sz f := by
  induction f with
  | nil => intro a; rfl
  | cons l r hl hr => intro a; simp only [inn, sz, List.length_append, List.length_cons, hl, hr]; omega
/-- the vector -/
def vec : F → List Int
  | nil => []
  | cons l r => vec l ++ (sz r : Int) :: vec r
theorem vec_length (f : F) : (vec f).length = sz f := by
  induction f with
  | nil => rfl
  | cons l r hl hr => simp only [vec, sz, List.length_append, List.length_cons, hl, hr]; omega
/-- the brackets, with letters from a number on -/
def brk (a : Nat) : F → List UInt8
  | nil => [UInt8.ofNat (97 + a)]
  | cons l r => 40 :: (brk a l ++ (brk (a + sz l + 1) r ++ [41]))
theorem brk_length (f : F) : ∀ a, (brk a f).length = 3 * sz f + 1 := by
  induction f with
  | nil => intro a; rfl
  | cons l r hl hr => intro a; simp only [brk, sz, List.length_append, List.length_cons, List.length_nil, hl, hr]; omega
end F
theorem vec_len (f : F) (h : sz f ≤ 23) : (vec f).length ≤ 1000 := by rw [vec_length]; omega
theorem inn_len (f : F) (h : sz f ≤ 23) : (inn 0 f).length ≤ 1000 := by rw [inn_length]; omega
/-- the first place, from i on, of a number that tells how many follow it -/
def fv (n : Nat) : List Int → Nat → Option Nat
  | [], _ => none
  | x :: xs, i => if x = (n : Int) - 1 - (i : Int) then some i else fv n xs (i + 1)
theorem fv_bound (n : Nat) : ∀ (xs : List Int) (i j : Nat), fv n xs i = some j → i ≤ j ∧ j < i + xs.length := by
  intro xs
  induction xs with
  | nil => intro i j h; simp [fv] at h
  | cons x xs ih =>
    intro i j h
    simp only [fv] at h
    by_cases c : x = (n : Int) - 1 - (i : Int)
    · rw [if_pos c] at h
      simp only [Option.some.injEq] at h
      simp only [List.length_cons]; omega
    · rw [if_neg c] at h
      have := ih (i + 1) j h
      simp only [List.length_cons]; omega
/-- the text with a vector, and whether there is one -/
def ofV : Nat → List Int → List UInt8 × Bool
  | 0, _ => ([48], true)
  | n + 1, l => if l.length = 0 then ([48], true) else match fv l.length l 0 with
    | none => ([], false)
    | some i => (49 :: ((ofV n (l.take i)).1 ++ (ofV n (l.drop (i + 1))).1), (ofV n (l.take i)).2 && (ofV n (l.drop (i + 1))).2)
theorem ofV_length : ∀ (n : Nat) (l : List Int), (ofV n l).1.length ≤ 2 * l.length + 1 := by
  intro n
  induction n with
  | zero => intro l; simp [ofV]
  | succ n ih =>
    intro l
    simp only [ofV]
    by_cases c : l.length = 0
    · rw [if_pos c]; simp
    · rw [if_neg c]
      cases h : fv l.length l 0 with
      | none => simp
      | some i =>
        have hb := fv_bound _ _ _ _ h
        have h1 := ih (l.take i)
        have h2 := ih (l.drop (i + 1))
        simp only [List.length_cons, List.length_append]
        rw [List.length_take] at h1
        rw [List.length_drop] at h2
        omega
def ofVR (l : List Int) : ByteArray × Int :=
  if l.length > 23 then (S [], 2) else if (l.all fun x => decide (0 ≤ x ∧ x ≤ 23)) = true then (if (ofV l.length l).2 = true then (S (ofV l.length l).1, 0) else (S [], 4)) else (S [], 2)
/-- the code of two binary trees of as many nodes -/
def bothV (v w : List UInt8) : Int := if isB v = true ∧ isB w = true then (if v.length = w.length then 0 else 2) else 1
/-- is each number at most the other one? -/
def leV : List Int → List Int → Bool
  | x :: xs, y :: ys => if x > y then false else leV xs ys
  | _, _ => true
def mostR (v w : List UInt8) (R : Bool × Int) : Prop :=
  (bothV v w ≠ 0 ∧ R = (false, bothV v w)) ∨ ∃ f g, v = bin f ∧ w = bin g ∧ sz f ≤ 23 ∧ sz g = sz f ∧ bothV v w = 0 ∧ R = (leV (vec f) (vec g), 0)
theorem mostR_ex (v w : List UInt8) : ∃ R, mostR v w R := by
  by_cases h : bothV v w = 0
  · have h0 := h
    unfold bothV at h
    by_cases c : isB v = true ∧ isB w = true
    · rw [if_pos c] at h
      by_cases c' : v.length = w.length
      · obtain ⟨f, rfl, hf⟩ := (isB_iff v).1 c.1
        obtain ⟨g, rfl, hg⟩ := (isB_iff w).1 c.2
        rw [bin_length, bin_length] at c'
        exact ⟨_, .inr ⟨f, g, rfl, rfl, hf, by omega, h0, rfl⟩⟩
      · rw [if_neg c'] at h
        cases h
    · rw [if_neg c] at h
      cases h
  · exact ⟨_, .inl ⟨h, rfl⟩⟩
theorem S_lit48 : (⟨#[48]⟩ : ByteArray) = S [48] := rfl
theorem S_lit49 : (⟨#[49]⟩ : ByteArray) = S [49] := rfl
theorem S_lit40 : (⟨#[40]⟩ : ByteArray) = S [40] := rfl
theorem S_lit41 : (⟨#[41]⟩ : ByteArray) = S [41] := rfl
theorem S_lit : (⟨#[]⟩ : ByteArray) = S [] := rfl
end Go.Proofs.Ytocachknmgefaaa.Base
