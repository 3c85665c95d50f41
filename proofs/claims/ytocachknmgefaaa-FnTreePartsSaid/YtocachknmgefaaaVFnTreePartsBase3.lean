/- Forests that lie at a place of a list of degrees; orders of nodes, texts, mirrored forests. Plain lists and numbers, no program. Conditions: none. -/
import Derived.Test.YtocachknmgefaaaVFnTreePartsBase2
import Derived.Test.YtocachknmgefaaaVFnTreePartsBin
namespace Go.Proofs.Ytocachknmgefaaa.Base
open Go.RowKit Go.Proofs.YtocachknmgefaaaW.PrintWords Go.Proofs.YtocachknmgefaaaW.PrintLast Go.Proofs.YtocachknmgefaaaW.PrintMore
set_option linter.unusedVariables false
set_option linter.unusedSimpArgs false
open F
/-- the degrees of the tree with a forest below its root -/
def tr (k : F) : List Int := degs (cons k nil)
theorem tr_length (k : F) : (tr k).length = sz k + 1 := by
  unfold tr
  rw [degs_length]
  simp only [sz]
  omega
theorem isT_tr {k : F} (h : sz k ≤ 23) : isT (tr k) = true := (isT_iff _).2 ⟨k, rfl, h⟩
theorem isT_cases (d : List Int) : isT d = false ∨ ∃ k, d = tr k ∧ sz k ≤ 23 ∧ isT d = true := by
  cases h : isT d with
  | false => exact .inl rfl
  | true =>
    obtain ⟨k, h1, h2⟩ := (isT_iff d).1 h
    exact .inr ⟨k, h1, h2, rfl⟩
/-- a forest lies at a place -/
def At (d : List Int) (a : Nat) (f : F) : Prop := a + sz f ≤ d.length ∧ ∃ tl, d.drop a = degs f ++ tl
theorem At.step {d : List Int} {a : Nat} {k r : F} (h : At d a (cons k r)) : a < d.length ∧ rd d (a : Int) = (len k : Int) ∧ At d (a + 1) k ∧ At d (a + 1 + sz k) r := by
  obtain ⟨h1, tl, h2⟩ := h
  simp only [sz] at h1
  simp only [degs, List.cons_append, List.append_assoc] at h2
  have h3 := (drop_cons h2).2.2
  refine ⟨by omega, rd_drop h2, ⟨by omega, degs r ++ tl, h3⟩, ⟨by omega, tl, ?_⟩⟩
  rw [← List.drop_drop, h3, drop_app_right (by rw [degs_length]; omega), degs_length, Nat.sub_self, List.drop_zero]
theorem At.one {d : List Int} {a : Nat} {k r : F} (h : At d a (cons k r)) : At d a (cons k nil) := by
  obtain ⟨h1, tl, h2⟩ := h
  refine ⟨by simp only [sz] at h1 ⊢; omega, degs r ++ tl, ?_⟩
  rw [h2]
  simp [degs]
theorem At.app {d : List Int} {a : Nat} {k r : F} (h : At d a (cons k r)) : At d (a + 1) (app k r) := by
  obtain ⟨h1, tl, h2⟩ := h
  simp only [sz] at h1
  simp only [degs, List.cons_append, List.append_assoc] at h2
  refine ⟨by rw [sz_app]; omega, tl, ?_⟩
  rw [(drop_cons h2).2.2, degs_app, List.append_assoc]
theorem tr_At (k : F) : At (tr k) 0 (cons k nil) := by
  refine ⟨by rw [tr_length]; simp only [sz]; omega, [], ?_⟩
  rw [List.drop_zero, List.append_nil]
  rfl
theorem tr_At1 (k : F) : At (tr k) 1 k := (tr_At k).step.2.2.1
/-- the forest below the node v of a tree -/
def st (k : F) (v : Nat) : F := sub (cons k nil) v
theorem st_zero (k : F) : st k 0 = k := rfl
theorem st_At (k : F) (v : Nat) (h : v ≤ sz k) : At (tr k) v (cons (st k v) nil) := by
  obtain ⟨tl, e⟩ := drop_sub (cons k nil) v (by simp only [sz]; omega)
  have hs := sub_sz (cons k nil) v (by simp only [sz]; omega)
  refine ⟨?_, tl, ?_⟩
  · rw [tr_length]
    unfold st
    simp only [sz] at hs ⊢
    omega
  · unfold tr st
    rw [e]
    simp [degs]
/-- roots with what is below them -/
def tops (a : Nat) : F → List (Nat × F)
  | nil => []
  | cons k r => (a, k) :: tops (a + 1 + sz k) r
theorem tops_offs (f : F) : ∀ a, offs a f = (tops a f).map fun p => (p.1 : Int) := by
  induction f with
  | nil => intro a; rfl
  | cons k r _ ihr => intro a; simp [offs, tops, ihr]
theorem tops_length (f : F) : ∀ a, (tops a f).length = len f := by
  induction f with
  | nil => intro a; rfl
  | cons k r _ ihr => intro a; simp only [tops, len, List.length_cons, ihr]; omega
theorem tops_At {d : List Int} (f : F) : ∀ a, At d a f → ∀ p ∈ tops a f, At d p.1 (cons p.2 nil) := by
  induction f with
  | nil => intro a _ p hp; simp [tops] at hp
  | cons k r _ ihr =>
    intro a h p hp
    simp only [tops, List.mem_cons] at hp
    rcases hp with rfl | hp
    · exact h.one
    · exact ihr _ h.step.2.2.2 p hp
/-- mirrored -/
def mir : F → F
  | nil => nil
  | cons k r => app (mir r) (cons (mir k) nil)
theorem mir_sz (f : F) : sz (mir f) = sz f := by
  induction f with
  | nil => rfl
  | cons k r ihk ihr => simp only [mir, sz_app, sz, ihk, ihr]; omega
theorem mir_len (f : F) : len (mir f) = len f := by
  induction f with
  | nil => rfl
  | cons k r ihk ihr => simp only [mir, len_app, len, ihr]; omega
theorem mir_app (f g : F) : mir (app f g) = app (mir g) (mir f) := by
  induction f with
  | nil => simp [app, mir, app_nil]
  | cons k r ihk ihr => simp only [app, mir, ihr, app_assoc]
theorem mir_mir (f : F) : mir (mir f) = f := by
  induction f with
  | nil => rfl
  | cons k r ihk ihr => simp only [mir, mir_app, ihk, ihr, app]
/-- a place of a list of roots -/
theorem rd_mid {a b : List Int} {x : Int} {i : Nat} (h : a.length = i) : rd (a ++ x :: b) (i : Int) = x := by
  rw [← h]
  exact rd_at
theorem sub_slice {d : List Int} {a : Nat} {k r : F} (h : At d a (cons k r)) : (d.take (a + 1 + sz k)).drop a = tr k := by
  obtain ⟨h1, tl, h2⟩ := h.one
  simp only [sz] at h1
  rw [List.drop_take, h2, show a + 1 + sz k - a = (tr k).length by rw [tr_length]; omega]
  exact List.take_left
/-- the code of some nodes -/
def codeV (d : List Int) : List Int → Int
  | [] => 0
  | x :: xs => if 0 ≤ x ∧ x < (d.length : Int) then codeV d xs else 2
/-- the code of a list of degrees and some nodes -/
def codeN (d vs : List Int) : Int := if isT d = true then codeV d vs else 1
theorem codeN_one {d : List Int} {v : Int} : (codeN d [v] ≠ 0) ∨ (∃ k, ∃ a : Nat, d = tr k ∧ sz k ≤ 23 ∧ v = a ∧ a ≤ sz k ∧ codeN d [v] = 0) := by
  rcases isT_cases d with h | ⟨k, h1, h2, h3⟩
  · left; simp [codeN, h]
  · by_cases c : 0 ≤ v ∧ v < (d.length : Int)
    · right
      refine ⟨k, v.toNat, h1, h2, by omega, ?_, ?_⟩
      · have := tr_length k
        rw [h1] at c
        omega
      · simp only [codeN, codeV]
        rw [if_pos h3, if_pos c]
    · left
      simp only [codeN, codeV]
      rw [if_pos h3, if_neg c]
      decide
theorem codeN_two {d : List Int} {v w : Int} : (codeN d [v, w] ≠ 0) ∨ (∃ k, ∃ a b : Nat, d = tr k ∧ sz k ≤ 23 ∧ v = a ∧ a ≤ sz k ∧ w = b ∧ b ≤ sz k ∧ codeN d [v, w] = 0) := by
  rcases isT_cases d with h | ⟨k, h1, h2, h3⟩
  · left; simp [codeN, h]
  · have hl := tr_length k
    by_cases c : 0 ≤ v ∧ v < (d.length : Int)
    · by_cases c' : 0 ≤ w ∧ w < (d.length : Int)
      · right
        refine ⟨k, v.toNat, w.toNat, h1, h2, by omega, ?_, by omega, ?_, ?_⟩
        · rw [h1] at c; omega
        · rw [h1] at c'; omega
        · simp only [codeN, codeV]
          rw [if_pos h3, if_pos c, if_pos c']
      · left
        simp only [codeN, codeV]
        rw [if_pos h3, if_pos c, if_neg c']
        decide
    · left
      simp only [codeN, codeV]
      rw [if_pos h3, if_neg c]
      decide
end Go.Proofs.Ytocachknmgefaaa.Base
