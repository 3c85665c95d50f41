/- The pure statement of the law FnExactCountByLeaves is proved. Conditions: those of the statement alone. -/
import Derived.Test.YtnibeghaebdajaaPFnExactCountByLeavesx1
import Derived.Test.YtnibeghaebdajaaBase
import Derived.Test.YtnibeghaebdajaaBase2
import Derived.Test.YtnibeghaebdajaaBin
import Derived.Test.YtnibeghaebdajaaNum
namespace Go.Proofs.Ytnibeghaebdajaa.Pure
open Go.RowKit Go.Proofs.Ytnibeghaebdajaa.PFnExactCountByLeaves Go.Proofs.Ytnibeghaebdajaa.Base Go.Proofs.YtnibeghaebdajaaW.PrintWords Go.Proofs.YtnibeghaebdajaaW.PrintLast Go.Proofs.YtnibeghaebdajaaW.PrintMore
open Go.Proofs.Ytnibeghaebdajaa.Base.F
set_option linter.unusedVariables false
set_option linter.unusedSimpArgs false

theorem spec_l01In_eq (a b c : Int) : spec_l01In.f a b c = some (decide (b ≤ a ∧ a ≤ c)) := by
  unfold spec_l01In.f
  by_cases h : a ≥ b
  · rw [if_pos h]
    congr 1
    rw [Bool.eq_iff_iff, decide_eq_true_eq, decide_eq_true_eq]
    omega
  · rw [if_neg h]
    congr 1
    rw [eq_comm, decide_eq_false_iff_not]
    omega
theorem spec_l02Numbers_eq (a b : Int) : spec_l02Numbers.f a b = some (decide ((1 ≤ a ∧ a ≤ 30) ∧ 0 ≤ b ∧ b ≤ a)) := by
  unfold spec_l02Numbers.f
  simp only [spec_l01In_eq, Option.bind_some, decide_eq_true_eq]
  by_cases h : 1 ≤ a ∧ a ≤ 30
  · rw [if_pos h]
    congr 1
    rw [Bool.eq_iff_iff, decide_eq_true_eq, decide_eq_true_eq]
    exact ⟨fun e => ⟨h, e⟩, fun e => e.2⟩
  · rw [if_neg h]
    congr 1
    rw [eq_comm, decide_eq_false_iff_not]
    exact fun e => h e.1
theorem spec_l02Choose_table : ((List.range 31).all fun n => (List.range (n + 1)).all fun k => decide (spec_l02Choose.f 40 (n : Int) (k : Int) = some (ch n k))) = true := by decide +kernel
theorem spec_l02Choose_ev (n k : Int) (h : 0 ≤ n ∧ n ≤ 30) : Ev (fun m => spec_l02Choose.f m n k) (chz n k) := by
  by_cases c : k < 0 ∨ k > n
  · unfold chz
    rw [if_pos c]
    unfold spec_l02Choose.f
    by_cases c0 : k < 0
    · refine Ev.pos c0 (Ev.succ ?_)
      simp only [spec_l02Choose.j0, if_true]
      exact Ev.now _
    · refine Ev.neg c0 (Ev.succ ?_)
      simp only [spec_l02Choose.j0]
      exact Ev.pos (decide_eq_true (by omega)) (Ev.now _)
  · have t := of_decide_eq_true (all_two spec_l02Choose_table (a := n.toNat) (b := k.toNat) (by omega) (by omega))
    rw [Int.toNat_of_nonneg (by omega), Int.toNat_of_nonneg (by omega)] at t
    unfold chz
    rw [if_neg c]
    exact Ev.of (spec_l02Choose.mono n k) t
def byLeaves (n k : Int) : Int := if n = 1 then k else wrap64 (Int.tdiv (wrap64 (chz (n - 1) k * chz (n - 1) (k - 1))) (n - 1))
theorem spec_CountByLeaves_ev (n k : Int) (hn : -9223372036854775808 ≤ n ∧ n ≤ 9223372036854775807) (hk : -9223372036854775808 ≤ k ∧ k ≤ 9223372036854775807) :
    Ev (fun m => spec_CountByLeaves.f m n k) (if (1 ≤ n ∧ n ≤ 30) ∧ 0 ≤ k ∧ k ≤ n then (byLeaves n k, 0) else (0, 2)) := by
  unfold spec_CountByLeaves.f
  simp only [spec_l02Numbers_eq, Option.bind_some, decide_eq_true_eq]
  by_cases c : (1 ≤ n ∧ n ≤ 30) ∧ 0 ≤ k ∧ k ≤ n
  · rw [if_pos c]
    refine Ev.pos c ?_
    unfold byLeaves
    by_cases c1 : n = 1
    · rw [if_pos c1]; exact Ev.pos c1 (Ev.now _)
    · rw [if_neg c1]
      refine Ev.neg c1 ?_
      rw [w64 (x := n - 1) (by omega), w64 (x := k - 1) (by omega)]
      refine Ev.bind (spec_l02Choose_ev _ _ (by omega)) (Ev.bind (spec_l02Choose_ev _ _ (by omega)) (Ev.neg (by omega) (Ev.now _)))
  · rw [if_neg c]
    exact Ev.neg c (Ev.now _)
theorem impl_isCounted_eq (a : Int) : impl_isCounted.f a = some (decide (1 ≤ a ∧ a ≤ 30)) := by
  unfold impl_isCounted.f
  by_cases h : a ≥ 1
  · rw [if_pos h]
    congr 1
    rw [Bool.eq_iff_iff, decide_eq_true_eq, decide_eq_true_eq]
    omega
  · rw [if_neg h]
    congr 1
    rw [eq_comm, decide_eq_false_iff_not]
    omega
theorem impl_choose_table : ((List.range 31).all fun n => (List.range (n + 1)).all fun k => decide (impl_choose.f 40 (n : Int) (k : Int) = some (ch n k))) = true := by decide +kernel
theorem impl_choose_ev (n k : Int) (h : 0 ≤ n ∧ n ≤ 30) : Ev (fun m => impl_choose.f m n k) (chz n k) := by
  by_cases c : k < 0 ∨ k > n
  · unfold chz
    rw [if_pos c]
    unfold impl_choose.f
    by_cases c0 : k < 0
    · refine Ev.pos c0 (Ev.succ ?_)
      simp only [impl_choose.j0, if_true]
      exact Ev.now _
    · refine Ev.neg c0 (Ev.succ ?_)
      simp only [impl_choose.j0]
      exact Ev.pos (decide_eq_true (by omega)) (Ev.now _)
  · have t := of_decide_eq_true (all_two impl_choose_table (a := n.toNat) (b := k.toNat) (by omega) (by omega))
    rw [Int.toNat_of_nonneg (by omega), Int.toNat_of_nonneg (by omega)] at t
    unfold chz
    rw [if_neg c]
    exact Ev.of (impl_choose.mono n k) t
theorem impl_CountByLeaves_ev (n k : Int) (hn : -9223372036854775808 ≤ n ∧ n ≤ 9223372036854775807) (hk : -9223372036854775808 ≤ k ∧ k ≤ 9223372036854775807) :
    Ev (fun m => impl_CountByLeaves.f m n k) (if (1 ≤ n ∧ n ≤ 30) ∧ 0 ≤ k ∧ k ≤ n then (byLeaves n k, 0) else (0, 2)) := by
  have key : ∀ b : Bool, (b = false ↔ (1 ≤ n ∧ n ≤ 30) ∧ 0 ≤ k ∧ k ≤ n) →
      Ev (fun m => impl_CountByLeaves.j0 m n k b) (if (1 ≤ n ∧ n ≤ 30) ∧ 0 ≤ k ∧ k ≤ n then (byLeaves n k, 0) else (0, 2)) := by
    intro b hb
    apply Ev.succ
    simp only [impl_CountByLeaves.j0]
    cases b with
    | true =>
      rw [if_neg (fun h => by have := hb.2 h; cases this)]
      simp only [if_true]
      exact Ev.now _
    | false =>
      have c := hb.1 rfl
      rw [if_pos c]
      simp only [Bool.false_eq_true, if_false]
      unfold byLeaves
      by_cases c1 : n = 1
      · rw [if_pos c1]; exact Ev.pos c1 (Ev.now _)
      · rw [if_neg c1]
        refine Ev.neg c1 ?_
        rw [w64 (x := n - 1) (by omega), w64 (x := k - 1) (by omega)]
        exact Ev.bind (impl_choose_ev _ _ (by omega)) (Ev.bind (impl_choose_ev _ _ (by omega)) (Ev.neg (by omega) (Ev.now _)))
  unfold impl_CountByLeaves.f
  simp only [impl_isCounted_eq, Option.bind_some, decide_eq_true_eq]
  by_cases c : 1 ≤ n ∧ n ≤ 30
  · refine Ev.pos c ?_
    by_cases c1 : k < 0
    · exact Ev.pos c1 (key true (by simp; omega))
    · refine Ev.neg c1 (key _ ?_)
      rw [decide_eq_false_iff_not]
      omega
  · exact Ev.neg c (key true (by simp; omega))
theorem FnExactCountByLeaves : laws_FnExactCountByLeaves.Pure := by
  intro n k hn hk
  have hn' := wf64 hn
  have hk' := wf64 hk
  apply Ev.rounds
  unfold laws_FnExactCountByLeaves.f
  exact Ev.bind (spec_CountByLeaves_ev n k hn' hk') (Ev.bind (impl_CountByLeaves_ev n k hn' hk') (Ev.pos rfl (Ev.pos rfl (Ev.now _))))

end Go.Proofs.Ytnibeghaebdajaa.Pure
