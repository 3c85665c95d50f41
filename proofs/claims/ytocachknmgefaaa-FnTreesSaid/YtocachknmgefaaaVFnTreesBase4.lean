/- Answers about trees, told once for both texts that answer them. Plain lists and numbers, no program. Conditions: none. -/
import Derived.Test.YtocachknmgefaaaVFnTreesBase3
namespace Go.Proofs.Ytocachknmgefaaa.Base
open Go.RowKit Go.Proofs.YtocachknmgefaaaW.PrintWords Go.Proofs.YtocachknmgefaaaW.PrintLast Go.Proofs.YtocachknmgefaaaW.PrintMore
set_option linter.unusedVariables false
set_option linter.unusedSimpArgs false
open F
/-- an answer about a tree, with its code -/
def treeR {α : Type} (val : F → α) (z : α) (d : List Int) (R : α × Int) : Prop :=
  (isT d = false ∧ R = (z, 1)) ∨ ∃ k, d = tr k ∧ sz k ≤ 23 ∧ isT d = true ∧ R = (val k, 0)
theorem treeR_ex {α : Type} (val : F → α) (z : α) (d : List Int) : ∃ R, treeR val z d R := by
  rcases isT_cases d with h | ⟨k, h1, h2, h3⟩
  · exact ⟨_, .inl ⟨h, rfl⟩⟩
  · exact ⟨_, .inr ⟨k, h1, h2, h3, rfl⟩⟩
/-- an answer about a node -/
def nodeR {α : Type} (val : F → Nat → α) (z : α) (d : List Int) (v : Int) (R : α × Int) : Prop :=
  (codeN d [v] ≠ 0 ∧ R = (z, codeN d [v])) ∨ ∃ k, ∃ a : Nat, d = tr k ∧ sz k ≤ 23 ∧ v = a ∧ a ≤ sz k ∧ codeN d [v] = 0 ∧ R = (val k a, 0)
theorem nodeR_ex {α : Type} (val : F → Nat → α) (z : α) (d : List Int) (v : Int) : ∃ R, nodeR val z d v R := by
  rcases codeN_one (d := d) (v := v) with h | ⟨k, a, h1, h2, h3, h4, h5⟩
  · exact ⟨_, .inl ⟨h, rfl⟩⟩
  · exact ⟨_, .inr ⟨k, a, h1, h2, h3, h4, h5, rfl⟩⟩
theorem nodeR_len {α : Type} {val : F → Nat → List α} {d : List Int} {v : Int} {R : List α × Int} (h : nodeR val [] d v R) (hv : ∀ k a, sz k ≤ 23 → a ≤ sz k → (val k a).length ≤ 1000) : R.1.length ≤ 1000 := by
  rcases h with ⟨_, rfl⟩ | ⟨k, a, _, h2, _, h4, _, rfl⟩
  · simp
  · exact hv k a h2 h4
theorem sub_small (k : F) (v : Nat) (h : v ≤ sz k) : v + sz (st k v) ≤ sz k := by
  have := sub_sz (cons k nil) v (by simp only [sz]; omega)
  unfold st
  simp only [sz] at this
  omega
/-- the children of a node -/
def kidsV (k : F) (a : Nat) : List Int := offs (a + 1) (st k a)
theorem kidsV_length (k : F) (a : Nat) (h : sz k ≤ 23) (ha : a ≤ sz k) : (kidsV k a).length ≤ 1000 := by
  unfold kidsV
  rw [offs_length]
  have := len_le_sz (st k a)
  have := sub_small k a ha
  omega
/-- the sizes of all subtrees -/
def sizeAt (k : F) (v : Nat) : Int := ((1 + sz (st k v) : Nat) : Int)
def sizesV (k : F) : List Int := (List.range (sz k + 1)).map (sizeAt k)
theorem sizesV_length (k : F) (h : sz k ≤ 23) : (sizesV k).length ≤ 1000 := by
  simp only [sizesV, List.length_map, List.length_range]; omega
theorem map_range_snoc {α : Type} (g : Nat → α) (n : Nat) : (List.range (n + 1)).map g = (List.range n).map g ++ [g n] := by simp [List.range_succ]
/-- the leaves -/
def leavesFrom : Nat → List Int → List Int
  | _, [] => []
  | i, x :: xs => if x = 0 then (i : Int) :: leavesFrom (i + 1) xs else leavesFrom (i + 1) xs
def leavesV (k : F) : List Int := leavesFrom 0 (tr k)
theorem leavesFrom_length : ∀ (l : List Int) (i : Nat), (leavesFrom i l).length ≤ l.length := by
  intro l
  induction l with
  | nil => intro i; simp [leavesFrom]
  | cons x xs ih =>
    intro i
    have := ih (i + 1)
    simp only [leavesFrom]
    by_cases c : x = 0
    · rw [if_pos c]; simp only [List.length_cons]; omega
    · rw [if_neg c]; simp only [List.length_cons]; omega
theorem leavesV_length (k : F) (h : sz k ≤ 23) : (leavesV k).length ≤ 1000 := by
  have := leavesFrom_length (tr k) 0
  rw [tr_length] at this
  unfold leavesV
  omega
def postV (k : F) : List Int := post 0 (cons k nil)
theorem postV_length (k : F) (h : sz k ≤ 23) : (postV k).length ≤ 1000 := by
  unfold postV
  rw [post_length]
  simp only [sz]
  omega
def levelV (k : F) : List Int := bfs (sz k + 1) [(0, k)]
theorem levelV_length (k : F) (h : sz k ≤ 23) : (levelV k).length ≤ 1000 := by
  unfold levelV
  rw [bfs_length _ _ (by simp only [szs]; omega)]
  omega
def textV (k : F) : ByteArray := S (txt (cons k nil))
end Go.Proofs.Ytocachknmgefaaa.Base
