/- Where two nodes meet, and the address of a node. Plain lists, no program. Conditions: none. -/
import Derived.Test.YtocachknmgefaaaVFnTreePartsPar
namespace Go.Proofs.Ytocachknmgefaaa.Base
open Go.RowKit Go.Proofs.YtocachknmgefaaaW.PrintWords Go.Proofs.YtocachknmgefaaaW.PrintLast Go.Proofs.YtocachknmgefaaaW.PrintMore
set_option linter.unusedVariables false
set_option linter.unusedSimpArgs false
open F
theorem idx_ne {a b : Int} {l : List Int} (h : b ≠ a) : (b :: l).idxOf a = (l.idxOf a).succ := by
  have e : (b == a) = false := by simpa using h
  rw [List.idxOf_cons, e]
  rfl
/-- the way up from a node to the first one that has another node below it -/
def meetN (k : F) (b : Nat) : Nat → Nat → Int
  | 0, a => (a : Int)
  | n + 1, a => if belowV k b a = true then (a : Int) else meetN k b n (par k a).toNat
def meetV (k : F) (a b : Nat) : Int := meetN k b (sz k + 1) a
theorem below_zero (k : F) (b : Nat) (hb : b ≤ sz k) : belowV k b 0 = true := by
  unfold belowV
  rw [st_zero, decide_eq_true_eq]
  omega
/-- a node's place among its parent's children -/
def place (k : F) (v : Nat) : Int := (((offs ((par k v).toNat + 1) (st k (par k v).toNat)).idxOf (v : Int) : Nat) : Int)
def addrN (k : F) : Nat → Nat → List Int
  | 0, _ => []
  | n + 1, v => if v = 0 then [] else addrN k n (par k v).toNat ++ [place k v]
def addrV (k : F) (v : Nat) : List Int := addrN k v v
theorem addrN_fuel (k : F) : ∀ (n m v : Nat), v ≤ n → v ≤ m → v ≤ sz k → addrN k n v = addrN k m v := by
  intro n
  induction n with
  | zero =>
    intro m v h _ _
    obtain rfl : v = 0 := by omega
    cases m with
    | zero => rfl
    | succ m => simp [addrN]
  | succ n ih =>
    intro m v h1 h2 h3
    by_cases c : v = 0
    · subst c
      cases m with
      | zero => simp [addrN]
      | succ m => simp [addrN]
    · have hp := par_pos k (j := v) (by omega) h3
      cases m with
      | zero => omega
      | succ m =>
        simp only [addrN, if_neg c]
        rw [ih m (par k v).toNat (by omega) (by omega) (by omega)]
theorem addrV_zero (k : F) : addrV k 0 = [] := rfl
theorem addrV_step (k : F) {v : Nat} (h1 : 1 ≤ v) (h2 : v ≤ sz k) : addrV k v = addrV k (par k v).toNat ++ [place k v] := by
  obtain ⟨n, rfl⟩ : ∃ n, v = n + 1 := ⟨v - 1, by omega⟩
  have hp := par_pos k h1 h2
  unfold addrV
  rw [show addrN k (n + 1) (n + 1) = addrN k n (par k (n + 1)).toNat ++ [place k (n + 1)] by simp [addrN]]
  rw [addrN_fuel k n (par k (n + 1)).toNat (par k (n + 1)).toNat (by omega) (by omega) (by omega)]
theorem addrV_length (k : F) : ∀ (n v : Nat), v ≤ n → v ≤ sz k → (addrV k v).length ≤ v := by
  intro n
  induction n with
  | zero =>
    intro v h _
    obtain rfl : v = 0 := by omega
    simp [addrV_zero]
  | succ n ih =>
    intro v h1 h2
    by_cases c : v = 0
    · subst c
      simp [addrV_zero]
    · have hp := par_pos k (j := v) (by omega) h2
      have := ih (par k v).toNat (by omega) (by omega)
      rw [addrV_step k (by omega) h2, List.length_append, List.length_singleton]
      omega
end Go.Proofs.Ytocachknmgefaaa.Base
