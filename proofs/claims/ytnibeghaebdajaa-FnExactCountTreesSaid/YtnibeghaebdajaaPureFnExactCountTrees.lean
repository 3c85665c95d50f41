/- The pure statement of the law FnExactCountTrees is proved. Conditions: those of the statement alone. -/
import Derived.Test.YtnibeghaebdajaaQFnExactCountTreesx1
import Derived.Test.YtnibeghaebdajaaBase
import Derived.Test.YtnibeghaebdajaaBase2
import Derived.Test.YtnibeghaebdajaaBin
import Derived.Test.YtnibeghaebdajaaBase3
import Derived.Test.YtnibeghaebdajaaBase4
import Derived.Test.YtnibeghaebdajaaBase5
import Derived.Test.YtnibeghaebdajaaBase6
import Derived.Test.YtnibeghaebdajaaPar
import Derived.Test.YtnibeghaebdajaaPar2
import Derived.Test.YtnibeghaebdajaaRem
import Derived.Test.YtnibeghaebdajaaBin2
import Derived.Test.YtnibeghaebdajaaNum
namespace Go.Proofs.Ytnibeghaebdajaa.Pure
open Go.RowKit Go.Proofs.Ytnibeghaebdajaa.QFnExactCountTrees Go.Proofs.Ytnibeghaebdajaa.Base Go.Proofs.YtnibeghaebdajaaW.PrintWords Go.Proofs.YtnibeghaebdajaaW.PrintLast Go.Proofs.YtnibeghaebdajaaW.PrintMore
open Go.Proofs.Ytnibeghaebdajaa.Base.F
set_option linter.unusedVariables false
set_option linter.unusedSimpArgs false

theorem spec_l01In_eq (a b c : Int) : spec_l01In.f a b c = some (decide (b ≤ a ∧ a ≤ c)) := by
  unfold spec_l01In.f
  by_cases h : a ≥ b
  · rw [if_pos h]
    congr 1
    rw [Bool.eq_iff_iff, decide_eq_true_eq, decide_eq_true_eq]
    omega
  · rw [if_neg h]
    congr 1
    rw [eq_comm, decide_eq_false_iff_not]
    omega

theorem spec_CountTrees_all : ((List.range 31).all fun n => decide (n = 0 ∨ spec_CountTrees.f 700 (n : Int) = some (tab n 1, 0))) = true := by decide +kernel
theorem spec_CountTrees_ev (n : Int) : Ev (fun k => spec_CountTrees.f k n) (if 1 ≤ n ∧ n ≤ 30 then (tab n.toNat 1, 0) else (0, 2)) := by
  by_cases c : 1 ≤ n ∧ n ≤ 30
  · rw [if_pos c]
    obtain ⟨m, rfl⟩ : ∃ m : Nat, n = m := ⟨n.toNat, by omega⟩
    have h := of_decide_eq_true (List.all_eq_true.1 spec_CountTrees_all m (List.mem_range.2 (by omega)))
    rcases h with h | h
    · omega
    · rw [Int.toNat_natCast]
      exact Ev.of (spec_CountTrees.mono m) h
  · rw [if_neg c]
    unfold spec_CountTrees.f
    simp only [spec_l01In_eq, Option.bind_some]
    exact Ev.neg (by simp; omega) (Ev.now _)
theorem impl_isCounted_eq (a : Int) : impl_isCounted.f a = some (decide (1 ≤ a ∧ a ≤ 30)) := by
  unfold impl_isCounted.f
  by_cases h : a ≥ 1
  · rw [if_pos h]
    congr 1
    rw [Bool.eq_iff_iff, decide_eq_true_eq, decide_eq_true_eq]
    omega
  · rw [if_neg h]
    congr 1
    rw [eq_comm, decide_eq_false_iff_not]
    omega
theorem impl_CountTrees_eq (n : Int) : impl_CountTrees.f n = some (if 1 ≤ n ∧ n ≤ 30 then (tab n.toNat 1, 0) else (0, 2)) := by
  unfold impl_CountTrees.f
  rw [impl_isCounted_eq, Option.bind_some]
  by_cases c : 1 ≤ n ∧ n ≤ 30
  · rw [if_pos c, if_pos (by simpa using c), if_pos (by omega), if_pos (by omega)]
  · rw [if_neg c, if_neg (by simpa using c)]
theorem FnExactCountTrees : ∀ (n : Int), (Lit.int .i64 n).wf = true → ∃ k, laws_FnExactCountTrees.f k n = some true := by
  intro n _
  apply Ev.rounds
  unfold laws_FnExactCountTrees.f
  refine Ev.bind (spec_CountTrees_ev n) ?_
  rw [impl_CountTrees_eq]
  exact Ev.pos rfl (Ev.pos rfl (Ev.now _))

end Go.Proofs.Ytnibeghaebdajaa.Pure
