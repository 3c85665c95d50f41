/- The pure statement of the law FnExactLastTree is proved. Conditions: those of the statement alone. -/
import Derived.Test.YtnibeghaebdajaaQFnExactLastTreex2
import Derived.Test.YtnibeghaebdajaaBase
import Derived.Test.YtnibeghaebdajaaBase2
import Derived.Test.YtnibeghaebdajaaBin
import Derived.Test.YtnibeghaebdajaaBase3
import Derived.Test.YtnibeghaebdajaaBase4
import Derived.Test.YtnibeghaebdajaaBase5
import Derived.Test.YtnibeghaebdajaaBase6
import Derived.Test.YtnibeghaebdajaaPar
import Derived.Test.YtnibeghaebdajaaPar2
import Derived.Test.YtnibeghaebdajaaRem
import Derived.Test.YtnibeghaebdajaaBin2
import Derived.Test.YtnibeghaebdajaaNum
namespace Go.Proofs.Ytnibeghaebdajaa.Pure
open Go.RowKit Go.Proofs.Ytnibeghaebdajaa.QFnExactLastTree Go.Proofs.Ytnibeghaebdajaa.Base Go.Proofs.YtnibeghaebdajaaW.PrintWords Go.Proofs.YtnibeghaebdajaaW.PrintLast Go.Proofs.YtnibeghaebdajaaW.PrintMore
open Go.Proofs.Ytnibeghaebdajaa.Base.F
set_option linter.unusedVariables false
set_option linter.unusedSimpArgs false

theorem laws_eqInt64S_ev (xs : List Int) (hm : xs.length ≤ 140737488351232) : Ev (fun k => laws_eqInt64S.f k xs xs) true := by
  have key : ∀ (d i : Nat), i + d = xs.length → Ev (fun k => laws_eqInt64S.l0 k xs xs i) true := by
    intro d
    induction d with
    | zero =>
      intro i h
      apply Ev.succ
      simp (disch := omega) only [laws_eqInt64S.l0, if_pos, if_neg]
      exact Ev.now _
    | succ d ih =>
      intro i h
      apply Ev.succ
      simp (disch := omega) only [laws_eqInt64S.l0, if_pos, if_neg, w64]
      exact ih (i + 1) (by omega)
  unfold laws_eqInt64S.f
  exact Ev.pos rfl (key xs.length 0 (by omega))
theorem laws_eqTree_ev (xs : List Int) (hm : xs.length ≤ 140737488351232) : Ev (fun k => laws_eqTree.f k xs xs) true := by
  unfold laws_eqTree.f
  exact Ev.bind (laws_eqInt64S_ev xs hm) (Ev.now _)
theorem laws_markInt64S_ev (xs : List Int) (a : Int) (ha : 0 ≤ a) (hm : a + (xs.length : Int) ≤ 1000000000000000000) :
    Ev (fun k => laws_markInt64S.f k xs a) (a + xs.length, marks a xs.length) := by
  have key : ∀ (d i : Nat) (ys : List Int), i + d = xs.length → ys.length = xs.length → ys.take i = marks a i →
      Ev (fun k => laws_markInt64S.l0 k ys (a + i) i) (a + xs.length, marks a xs.length) := by
    intro d
    induction d with
    | zero =>
      intro i ys h hl ht
      apply Ev.succ
      simp (disch := omega) only [laws_markInt64S.l0, if_pos, if_neg]
      refine Ev.some ?_
      rw [show i = xs.length by omega] at ht ⊢
      rw [← ht, List.take_of_length_le (by omega)]
    | succ d ih =>
      intro i ys h hl ht
      apply Ev.succ
      simp (disch := omega) only [laws_markInt64S.l0, if_pos, if_neg, w64]
      have := ih (i + 1) (ys.set i (a + i)) (by omega) (by rw [List.length_set, hl]) (by rw [marks_succ, ← ht, take_set_succ _ _ _ (by omega)])
      rw [show a + ((i + 1 : Nat) : Int) = a + i + 1 by omega] at this
      exact this
  unfold laws_markInt64S.f
  have := key xs.length 0 xs (by omega) rfl (by simp [marks])
  simpa using this
theorem laws_markTree_ev (xs : List Int) (a : Int) (ha : 0 ≤ a) (hm : a + (xs.length : Int) ≤ 1000000000000000000) :
    Ev (fun k => laws_markTree.f k xs a) (a + xs.length, marks a xs.length) := by
  unfold laws_markTree.f
  exact Ev.bind (laws_markInt64S_ev xs a ha hm) (Ev.now _)
theorem laws_heldInt64S_ev (n : Nat) (a : Int) (ha : 0 ≤ a) (hm : a + (n : Int) ≤ 1000000000000000000) :
    Ev (fun k => laws_heldInt64S.f k (marks a n) a) (a + n) := by
  have key : ∀ (d i : Nat), i + d = n → Ev (fun k => laws_heldInt64S.l0 k (marks a n) (a + i) i) (a + n) := by
    intro d
    induction d with
    | zero =>
      intro i h
      have hl := marks_length a n
      apply Ev.succ
      simp (disch := omega) only [laws_heldInt64S.l0, if_pos, if_neg]
      refine Ev.some ?_
      omega
    | succ d ih =>
      intro i h
      have hl := marks_length a n
      have hr := rd_marks a n i (by omega)
      apply Ev.succ
      simp (disch := omega) only [laws_heldInt64S.l0, if_pos, if_neg, w64, hr]
      have := ih (i + 1) (by omega)
      rw [show a + ((i + 1 : Nat) : Int) = a + i + 1 by omega] at this
      exact this
  unfold laws_heldInt64S.f
  simpa using key n 0 (by omega)
theorem laws_heldTree_ev (n : Nat) (a : Int) (ha : 0 ≤ a) (hm : a + (n : Int) ≤ 1000000000000000000) :
    Ev (fun k => laws_heldTree.f k (marks a n) a) (a + n) := by
  unfold laws_heldTree.f
  exact Ev.bind (laws_heldInt64S_ev n a ha hm) (Ev.neg (by omega) (Ev.now _))
theorem spec_l01In_eq (a b c : Int) : spec_l01In.f a b c = some (decide (b ≤ a ∧ a ≤ c)) := by
  unfold spec_l01In.f
  by_cases h : a ≥ b
  · rw [if_pos h]
    congr 1
    rw [Bool.eq_iff_iff, decide_eq_true_eq, decide_eq_true_eq]
    omega
  · rw [if_neg h]
    congr 1
    rw [eq_comm, decide_eq_false_iff_not]
    omega
theorem spec_l02Whole_eq (n : Int) : spec_l02Whole.f n = some (decide (1 ≤ n ∧ n ≤ 24)) := by
  unfold spec_l02Whole.f
  rw [spec_l01In_eq]
  rfl

theorem impl_isNodes_eq (n : Int) : impl_isNodes.f n = some (decide (1 ≤ n ∧ n ≤ 24)) := by
  unfold impl_isNodes.f
  by_cases c : 1 ≤ n
  · rw [if_pos c]
    congr 1
    rw [Bool.eq_iff_iff, decide_eq_true_eq, decide_eq_true_eq]
    omega
  · rw [if_neg c]
    congr 1
    rw [eq_comm, decide_eq_false_iff_not]
    omega

/-- the last tree's degrees -/
def lastD (n : Nat) : List Int := ((n : Int) - 1) :: List.replicate (n - 1) 0
theorem last_all : ((List.range 25).all fun n => decide (n = 0 ∨ (impl_LastTree.f (n : Int) = some (lastD n, 0) ∧ spec_LastTree.f (n : Int) = some (lastD n, 0)))) = true := by decide +kernel
def lastR (n : Int) : List Int × Int := if 1 ≤ n ∧ n ≤ 24 then (lastD n.toNat, 0) else ([], 2)
theorem impl_LastTree_ev (n : Int) : impl_LastTree.f n = some (lastR n) := by
  unfold lastR
  by_cases c : 1 ≤ n ∧ n ≤ 24
  · rw [if_pos c]
    obtain ⟨m, rfl⟩ : ∃ m : Nat, n = m := ⟨n.toNat, by omega⟩
    have h := of_decide_eq_true (all_range last_all (i := m) (by omega))
    rcases h with h | h
    · omega
    · rw [Int.toNat_natCast]; exact h.1
  · rw [if_neg c]
    unfold impl_LastTree.f
    rw [impl_isNodes_eq, Option.bind_some, if_neg (by simpa using c)]
theorem spec_LastTree_ev (n : Int) : spec_LastTree.f n = some (lastR n) := by
  unfold lastR
  by_cases c : 1 ≤ n ∧ n ≤ 24
  · rw [if_pos c]
    obtain ⟨m, rfl⟩ : ∃ m : Nat, n = m := ⟨n.toNat, by omega⟩
    have h := of_decide_eq_true (all_range last_all (i := m) (by omega))
    rcases h with h | h
    · omega
    · rw [Int.toNat_natCast]; exact h.2
  · rw [if_neg c]
    unfold spec_LastTree.f
    rw [spec_l02Whole_eq, Option.bind_some, if_neg (by simpa using c)]
theorem lastR_len (n : Int) : (lastR n).1.length ≤ 24 := by
  unfold lastR lastD
  by_cases c : 1 ≤ n ∧ n ≤ 24
  · rw [if_pos c]; simp; omega
  · rw [if_neg c]; simp
theorem FnExactLastTree : ∀ (n : Int), (Lit.int .i64 n).wf = true → ∃ k, laws_FnExactLastTree.f k n = some true := by
  intro n _
  apply Ev.rounds
  unfold laws_FnExactLastTree.f
  have hb := lastR_len n
  have e2 : Ev (fun k => spec_LastTree.f n) (lastR n) := Ev.const (spec_LastTree_ev n)
  have e3 := impl_LastTree_ev n
  have e6 := laws_eqTree_ev (lastR n).1 (by omega)
  have e7 := laws_markTree_ev (lastR n).1 1 (by omega) (by omega)
  have e8 := laws_heldTree_ev (lastR n).1.length 1 (by omega) (by omega)
  generalize lastR n = R at hb e2 e3 e6 e7 e8
  repeat' (first
    | exact Ev.now _
    | (with_reducible refine Ev.bind e2 ?_; try dsimp only)
    | (with_reducible refine Ev.bind (Ev.const e3) ?_; try dsimp only)
    | (with_reducible refine Ev.bind e6 ?_; try dsimp only)
    | (with_reducible refine Ev.bind e7 ?_; try dsimp only)
    | (with_reducible refine Ev.bind e8 ?_; try dsimp only)
    | ((with_reducible apply Ev.pos); (solve | rfl | trivial | omega))
    | ((with_reducible apply Ev.neg); (solve | omega | simp))
    | (apply Ev.succ; simp only [laws_FnExactLastTree.j0, laws_FnExactLastTree.j1]))

end Go.Proofs.Ytnibeghaebdajaa.Pure
