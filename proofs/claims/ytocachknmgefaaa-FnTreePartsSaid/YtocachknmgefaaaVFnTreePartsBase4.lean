/- Answers about trees, told once for both texts that answer them. Plain lists and numbers, no program. Conditions: none. -/
import Derived.Test.YtocachknmgefaaaVFnTreePartsBase3
namespace Go.Proofs.Ytocachknmgefaaa.Base
open Go.RowKit Go.Proofs.YtocachknmgefaaaW.PrintWords Go.Proofs.YtocachknmgefaaaW.PrintLast Go.Proofs.YtocachknmgefaaaW.PrintMore
set_option linter.unusedVariables false
set_option linter.unusedSimpArgs false
open F
/-- an answer about a tree, with its code -/
def treeR {α : Type} (val : F → α) (z : α) (d : List Int) (R : α × Int) : Prop :=
  (isT d = false ∧ R = (z, 1)) ∨ ∃ k, d = tr k ∧ sz k ≤ 23 ∧ isT d = true ∧ R = (val k, 0)
theorem treeR_ex {α : Type} (val : F → α) (z : α) (d : List Int) : ∃ R, treeR val z d R := by
  rcases isT_cases d with h | ⟨k, h1, h2, h3⟩
  · exact ⟨_, .inl ⟨h, rfl⟩⟩
  · exact ⟨_, .inr ⟨k, h1, h2, h3, rfl⟩⟩
theorem treeR_len {α : Type} {val : F → List α} {d : List Int} {R : List α × Int} (h : treeR val [] d R) (hv : ∀ k, sz k ≤ 23 → (val k).length ≤ 1000) : R.1.length ≤ 1000 := by
  rcases h with ⟨_, rfl⟩ | ⟨k, _, h2, _, rfl⟩
  · simp
  · exact hv k h2
/-- an answer about a node -/
def nodeR {α : Type} (val : F → Nat → α) (z : α) (d : List Int) (v : Int) (R : α × Int) : Prop :=
  (codeN d [v] ≠ 0 ∧ R = (z, codeN d [v])) ∨ ∃ k, ∃ a : Nat, d = tr k ∧ sz k ≤ 23 ∧ v = a ∧ a ≤ sz k ∧ codeN d [v] = 0 ∧ R = (val k a, 0)
theorem nodeR_ex {α : Type} (val : F → Nat → α) (z : α) (d : List Int) (v : Int) : ∃ R, nodeR val z d v R := by
  rcases codeN_one (d := d) (v := v) with h | ⟨k, a, h1, h2, h3, h4, h5⟩
  · exact ⟨_, .inl ⟨h, rfl⟩⟩
  · exact ⟨_, .inr ⟨k, a, h1, h2, h3, h4, h5, rfl⟩⟩
theorem nodeR_len {α : Type} {val : F → Nat → List α} {d : List Int} {v : Int} {R : List α × Int} (h : nodeR val [] d v R) (hv : ∀ k a, sz k ≤ 23 → a ≤ sz k → (val k a).length ≤ 1000) : R.1.length ≤ 1000 := by
  rcases h with ⟨_, rfl⟩ | ⟨k, a, _, h2, _, h4, _, rfl⟩
  · simp
  · exact hv k a h2 h4
/-- an answer about two nodes -/
def node2R {α : Type} (val : F → Nat → Nat → α) (z : α) (d : List Int) (v w : Int) (R : α × Int) : Prop :=
  (codeN d [v, w] ≠ 0 ∧ R = (z, codeN d [v, w])) ∨ ∃ k, ∃ a b : Nat, d = tr k ∧ sz k ≤ 23 ∧ v = a ∧ a ≤ sz k ∧ w = b ∧ b ≤ sz k ∧ codeN d [v, w] = 0 ∧ R = (val k a b, 0)
theorem node2R_ex {α : Type} (val : F → Nat → Nat → α) (z : α) (d : List Int) (v w : Int) : ∃ R, node2R val z d v w R := by
  rcases codeN_two (d := d) (v := v) (w := w) with h | ⟨k, a, b, h1, h2, h3, h4, h5, h6, h7⟩
  · exact ⟨_, .inl ⟨h, rfl⟩⟩
  · exact ⟨_, .inr ⟨k, a, b, h1, h2, h3, h4, h5, h6, h7, rfl⟩⟩
theorem sub_small (k : F) (v : Nat) (h : v ≤ sz k) : v + sz (st k v) ≤ sz k := by
  have := sub_sz (cons k nil) v (by simp only [sz]; omega)
  unfold st
  simp only [sz] at this
  omega
/-- is a node in the subtree of another one? -/
def belowV (k : F) (a b : Nat) : Bool := decide (b ≤ a ∧ a < b + 1 + sz (st k b))
def subV (k : F) (a : Nat) : List Int := tr (st k a)
theorem subV_length (k : F) (a : Nat) (h : sz k ≤ 23) (ha : a ≤ sz k) : (subV k a).length ≤ 1000 := by
  have := sub_small k a ha
  unfold subV
  rw [tr_length]
  omega
def mirV (k : F) : List Int := tr (mir k)
theorem mirV_length (k : F) (h : sz k ≤ 23) : (mirV k).length ≤ 1000 := by
  unfold mirV
  rw [tr_length, mir_sz]
  omega
/-- the way down by an address -/
def walk : Nat → F → List Int → Int × Int
  | v, _, [] => ((v : Int), 0)
  | v, s, i :: is => match (tops (v + 1) s)[i.toNat]? with
    | none => (0, 4)
    | some p => walk p.1 p.2 is
def nodeAtV (d address : List Int) (R : Int × Int) : Prop :=
  (isT d = false ∧ R = (0, 1)) ∨ (isT d = true ∧ (24 < address.length ∨ ∃ x ∈ address, x < 0) ∧ R = (0, 2)) ∨
  ∃ k, d = tr k ∧ sz k ≤ 23 ∧ isT d = true ∧ address.length ≤ 24 ∧ (∀ x ∈ address, 0 ≤ x) ∧ R = walk 0 k address
theorem nodeAtV_ex (d address : List Int) : ∃ R, nodeAtV d address R := by
  rcases isT_cases d with h | ⟨k, h1, h2, h3⟩
  · exact ⟨_, .inl ⟨h, rfl⟩⟩
  · by_cases c : 24 < address.length ∨ ∃ x ∈ address, x < 0
    · exact ⟨_, .inr (.inl ⟨h3, c, rfl⟩)⟩
    · refine ⟨_, .inr (.inr ⟨k, h1, h2, h3, ?_, ?_, rfl⟩)⟩
      · by_cases c' : 24 < address.length
        · exact absurd (.inl c') c
        · omega
      · intro x hx
        by_cases c' : x < 0
        · exact absurd (.inr ⟨x, hx, c'⟩) c
        · omega
/-- how two lists compare, of as many numbers -/
def lexV : List Int → List Int → Int
  | x :: xs, y :: ys => if x = y then lexV xs ys else if x < y then -1 else 1
  | _, _ => 0
def cmpV (d e : List Int) : Int := if d.length < e.length then -1 else if e.length < d.length then 1 else lexV d e
def cmpR (d e : List Int) : Int × Int := if isT d = true ∧ isT e = true then (cmpV d e, 0) else (0, 1)
end Go.Proofs.Ytocachknmgefaaa.Base
