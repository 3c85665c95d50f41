/- A tree without one of its subtrees. Plain lists, no program. Conditions: none. -/
import Derived.Test.YtocachknmgefaaaVFnTreePartsPar2
namespace Go.Proofs.Ytocachknmgefaaa.Base
open Go.RowKit Go.Proofs.YtocachknmgefaaaW.PrintWords Go.Proofs.YtocachknmgefaaaW.PrintLast Go.Proofs.YtocachknmgefaaaW.PrintMore
set_option linter.unusedVariables false
set_option linter.unusedSimpArgs false
open F
def remB (k : F) (a : Nat) : List Int := (tr k).take a ++ (tr k).drop (a + 1 + sz (st k a))
theorem remB_length (k : F) {a : Nat} (ha : a ≤ sz k) : (remB k a).length = sz k - sz (st k a) := by
  have hs := sub_small k a ha
  unfold remB
  rw [List.length_append, List.length_take, List.length_drop, tr_length]
  omega
def remV (k : F) (a : Nat) : List Int := (remB k a).set (par k a).toNat (wrap64 (rd (remB k a) (par k a) - 1))
def remR (d : List Int) (v : Int) (R : List Int × Int) : Prop :=
  (codeN d [v] ≠ 0 ∧ R = ([], codeN d [v])) ∨ ∃ k, ∃ a : Nat, d = tr k ∧ sz k ≤ 23 ∧ v = a ∧ a ≤ sz k ∧ codeN d [v] = 0 ∧ R = if a = 0 then ([], 5) else (remV k a, 0)
theorem remR_ex (d : List Int) (v : Int) : ∃ R, remR d v R := by
  rcases codeN_one (d := d) (v := v) with h | ⟨k, a, h1, h2, h3, h4, h5⟩
  · exact ⟨_, .inl ⟨h, rfl⟩⟩
  · exact ⟨_, .inr ⟨k, a, h1, h2, h3, h4, h5, rfl⟩⟩
theorem remR_len {d : List Int} {v : Int} {R : List Int × Int} (h : remR d v R) : R.1.length ≤ 1000 := by
  rcases h with ⟨_, rfl⟩ | ⟨k, a, _, hk, _, ha, _, rfl⟩
  · simp
  · by_cases c : a = 0
    · rw [if_pos c]
      simp
    · rw [if_neg c]
      show (remV k a).length ≤ 1000
      unfold remV
      rw [List.length_set, remB_length k ha]
      omega
end Go.Proofs.Ytocachknmgefaaa.Base
