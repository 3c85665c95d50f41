/- Texts of binary trees: plain lists of bytes, no program. Conditions: none. -/
import Derived.Test.YtocachknmgefaaaVFnRanksBase
namespace Go.Proofs.Ytocachknmgefaaa.Base
open Go.RowKit Go.Proofs.YtocachknmgefaaaW.PrintWords Go.Proofs.YtocachknmgefaaaW.PrintLast Go.Proofs.YtocachknmgefaaaW.PrintMore
set_option linter.unusedVariables false
set_option linter.unusedSimpArgs false
open F
/-! ### Strings as lists of bytes -/
/-- the string of some bytes -/
def S (l : List UInt8) : ByteArray := ⟨l.toArray⟩
theorem S_of (s : ByteArray) : ∃ l, s = S l := ⟨s.data.toList, rfl⟩
theorem S_inj {l m : List UInt8} (h : S l = S m) : l = m := by
  have := congrArg (fun s : ByteArray => s.data.toList) h
  simpa [S] using this
theorem S_size (l : List UInt8) : (S l).size = l.length := by simp [S, ByteArray.size]
theorem S_toList (l : List UInt8) : (S l).toList = l := by rw [ByteArray.toList_eq]; simp [S]
theorem S_append (l m : List UInt8) : S l ++ S m = S (l ++ m) := by
  apply ByteArray.ext
  simp [S, ByteArray.data_append]
theorem S_extract (l : List UInt8) (i j : Nat) : (S l).extract i j = S ((l.take j).drop i) := by
  apply ByteArray.ext
  apply Array.ext'
  simp [S, ByteArray.data_extract, List.drop_take]
theorem S_bt (l : List UInt8) (i : Nat) : bt (S l) (i : Int) = ((l.getD i 0).toNat : Int) := by
  unfold bt
  rw [Int.toNat_natCast]
  by_cases h : i < l.length
  · rw [dif_pos (by rw [S_size]; exact h), List.getD_eq_getElem?_getD, List.getElem?_eq_getElem h]
    rfl
  · rw [dif_neg (by rw [S_size]; exact h), List.getD_eq_getElem?_getD, List.getElem?_eq_none (by omega)]
    rfl
theorem S_bt_drop {l tl : List UInt8} {c : UInt8} {i : Nat} (h : l.drop i = c :: tl) : bt (S l) (i : Int) = (c.toNat : Int) := by
  rw [S_bt, List.getD_eq_getElem?_getD, (drop_cons h).2.1]
  rfl
theorem byte_eq (c d : UInt8) : ((c.toNat : Int) = (d.toNat : Int)) ↔ c = d := by
  constructor
  · intro h
    exact UInt8.toNat_inj.1 (by omega)
  · intro h
    rw [h]
/-! ### Binary trees as forests: a node's left part is the forest below it -/
namespace F
/-- the text of a binary tree -/
def bin : F → List UInt8
  | nil => [48]
  | cons l r => 49 :: (bin l ++ bin r)
theorem bin_length (f : F) : (bin f).length = 2 * sz f + 1 := by
  induction f with
  | nil => rfl
  | cons l r hl hr => simp only [bin, sz, List.length_cons, List.length_append, hl, hr]; omega
end F
/-- what is behind so many binary trees -/
def scanB : List UInt8 → Nat → Option (List UInt8)
  | l, 0 => some l
  | [], _ + 1 => none
  | c :: l, n + 1 => if c = 48 then scanB l n else if c = 49 then scanB l (n + 2) else none
theorem scanB_bin (f : F) : ∀ tl n, scanB (bin f ++ tl) (n + 1) = scanB tl n := by
  induction f with
  | nil => intro tl n; simp [bin, scanB]
  | cons l r hl hr =>
    intro tl n
    simp only [bin, List.cons_append, List.append_assoc, scanB]
    rw [if_neg (by decide), if_pos (by trivial), hl, hr]
def bins : List F → List UInt8
  | [] => []
  | f :: fs => bin f ++ bins fs
theorem scanB_sound : ∀ (l : List UInt8) (n : Nat) (rest : List UInt8), scanB l n = some rest → ∃ fs : List F, fs.length = n ∧ l = bins fs ++ rest := by
  intro l
  induction l with
  | nil =>
    intro n rest h
    cases n with
    | zero => simp only [scanB, Option.some.injEq] at h; exact ⟨[], rfl, by simp [bins, h]⟩
    | succ n => simp [scanB] at h
  | cons c l ih =>
    intro n rest h
    cases n with
    | zero => simp only [scanB, Option.some.injEq] at h; exact ⟨[], rfl, by simp [bins, h]⟩
    | succ n =>
      simp only [scanB] at h
      by_cases c0 : c = 48
      · rw [if_pos c0] at h
        obtain ⟨fs, hf, e⟩ := ih n rest h
        exact ⟨nil :: fs, by simp [hf], by simp [bins, bin, c0, e]⟩
      · rw [if_neg c0] at h
        by_cases c1 : c = 49
        · rw [if_pos c1] at h
          obtain ⟨fs, hf, e⟩ := ih (n + 2) rest h
          cases fs with
          | nil => simp at hf
          | cons a fs =>
            cases fs with
            | nil => simp at hf
            | cons b fs =>
              refine ⟨cons a b :: fs, by simpa using hf, ?_⟩
              rw [e, c1]
              simp [bins, bin]
        · rw [if_neg c1] at h; cases h
theorem scanB_one {l rest : List UInt8} (h : scanB l 1 = some rest) : ∃ f, l = bin f ++ rest := by
  obtain ⟨fs, hf, e⟩ := scanB_sound l 1 rest h
  cases fs with
  | nil => simp at hf
  | cons a fs =>
    cases fs with
    | nil => exact ⟨a, by simpa [bins] using e⟩
    | cons b fs => simp at hf
theorem bin_scan (f : F) : scanB (bin f) 1 = some [] := by
  have := scanB_bin f [] 0
  simpa [scanB] using this
/-- a text is that of one binary tree, and this one alone -/
theorem bin_prefix (f g : F) : ∀ tl tl', bin f ++ tl = bin g ++ tl' → f = g ∧ tl = tl' := by
  induction f generalizing g with
  | nil =>
    intro tl tl' h
    cases g with
    | nil => simp only [bin, List.cons_append, List.nil_append, List.cons.injEq, true_and] at h; exact ⟨rfl, h⟩
    | cons l r => simp [bin] at h
  | cons l r hl hr =>
    intro tl tl' h
    cases g with
    | nil => simp [bin] at h
    | cons l' r' =>
      simp only [bin, List.cons_append, List.append_assoc, List.cons.injEq, true_and] at h
      obtain ⟨rfl, h2⟩ := hl _ _ _ h
      obtain ⟨rfl, h3⟩ := hr _ _ _ h2
      exact ⟨rfl, h3⟩
theorem bin_inj {f g : F} (h : bin f = bin g) : f = g := (bin_prefix f g [] [] (by rw [h])).1
/-- is it the text of a binary tree of at most 23 nodes? -/
def isB (l : List UInt8) : Bool := decide (l.length ≤ 47) && (scanB l 1 == some [])
theorem isB_iff (l : List UInt8) : isB l = true ↔ ∃ f, l = bin f ∧ sz f ≤ 23 := by
  constructor
  · intro h
    simp only [isB, Bool.and_eq_true, decide_eq_true_eq, beq_iff_eq] at h
    obtain ⟨h1, h2⟩ := h
    obtain ⟨f, e⟩ := scanB_one h2
    rw [List.append_nil] at e
    subst e
    exact ⟨f, rfl, by rw [bin_length] at h1; omega⟩
  · rintro ⟨f, rfl, h⟩
    simp only [isB, Bool.and_eq_true, decide_eq_true_eq, beq_iff_eq]
    exact ⟨by rw [bin_length]; omega, bin_scan f⟩
theorem isB_bin {f : F} (h : sz f ≤ 23) : isB (bin f) = true := (isB_iff _).2 ⟨f, rfl, h⟩
end Go.Proofs.Ytocachknmgefaaa.Base
