/- The pure statement of the law FnExactBinaryOfVector is proved. Conditions: those of the statement alone. -/
import Derived.Test.YtjpmichlhagbcaaPFnExactBinaryOfVectorx2
import Derived.Test.YtjpmichlhagbcaaBase
import Derived.Test.YtjpmichlhagbcaaBase2
import Derived.Test.YtjpmichlhagbcaaBin
import Derived.Test.YtjpmichlhagbcaaBase3
import Derived.Test.YtjpmichlhagbcaaBase4
import Derived.Test.YtjpmichlhagbcaaBin2
import Derived.Test.YtjpmichlhagbcaaNum
namespace Go.Proofs.Ytjpmichlhagbcaa.Pure
open Go.RowKit Go.Proofs.Ytjpmichlhagbcaa.PFnExactBinaryOfVector Go.Proofs.Ytjpmichlhagbcaa.Base Go.Proofs.YtjpmichlhagbcaaW.PrintWords Go.Proofs.YtjpmichlhagbcaaW.PrintLast Go.Proofs.YtjpmichlhagbcaaW.PrintMore
open Go.Proofs.Ytjpmichlhagbcaa.Base.F
set_option linter.unusedVariables false
set_option linter.unusedSimpArgs false

theorem spec_l01In_eq (a b c : Int) : spec_l01In.f a b c = some (decide (b ≤ a ∧ a ≤ c)) := by
  unfold spec_l01In.f
  by_cases h : a ≥ b
  · rw [if_pos h]
    congr 1
    rw [Bool.eq_iff_iff, decide_eq_true_eq, decide_eq_true_eq]
    omega
  · rw [if_neg h]
    congr 1
    rw [eq_comm, decide_eq_false_iff_not]
    omega
theorem spec_l03Of_ev : ∀ (n : Nat) (l : List Int), l.length ≤ n → n ≤ 1000 → Ev (fun m => spec_l03Of.f m l) (S (ofV n l).1, (ofV n l).2) := by
  intro n
  induction n with
  | zero =>
    intro l h _
    apply Ev.succ
    simp only [spec_l03Of.f]
    exact Ev.pos (by omega) (Ev.now _)
  | succ n ih =>
    intro l h hn
    apply Ev.succ
    simp only [spec_l03Of.f, ofV]
    by_cases c : l.length = 0
    · rw [if_pos c]
      exact Ev.pos (by omega) (Ev.now _)
    · rw [if_neg c]
      refine Ev.neg (by omega) ?_
      have key : ∀ (xs : List Int) (i : Nat), l.drop i = xs → i + xs.length = l.length → Ev (fun m => spec_l03Of.l0 m l i) (match fv l.length xs i with
          | none => (S [], false)
          | some i => (S (49 :: ((ofV n (l.take i)).1 ++ (ofV n (l.drop (i + 1))).1)), (ofV n (l.take i)).2 && (ofV n (l.drop (i + 1))).2)) := by
        intro xs
        induction xs with
        | nil =>
          intro i hx hi
          simp only [List.length_nil] at hi
          apply Ev.succ
          simp (disch := omega) only [spec_l03Of.l0, if_neg, fv]
          exact Ev.now _
        | cons x xs ihx =>
          intro i hx hi
          simp only [List.length_cons] at hi
          have hr := rd_drop hx
          have hd := (drop_cons hx).2.2
          apply Ev.succ
          simp (disch := omega) only [spec_l03Of.l0, if_pos, hr, w64, fv]
          by_cases cx : x = (l.length : Int) - 1 - (i : Int)
          · have e1 := ih (l.take i) (by rw [List.length_take]; omega) (by omega)
            have e2 := ih (l.drop (i + 1)) (by rw [List.length_drop]; omega) (by omega)
            have b1 := ofV_length n (l.take i)
            have b2 := ofV_length n (l.drop (i + 1))
            rw [List.length_take] at b1
            rw [List.length_drop] at b2
            simp only [if_pos cx]
            rw [Int.toNat_natCast]
            refine Ev.bind e1 ?_
            rw [show ((i : Int) + 1).toNat = i + 1 by omega]
            refine Ev.bind e2 ?_
            simp only [S_lit49, S_append, S_size]
            refine Ev.pos (by omega) (Ev.pos (by simp; omega) ?_)
            cases h2 : (ofV n (l.take i)).2 with
            | true => exact Ev.pos rfl (Ev.some (by simp))
            | false => exact Ev.neg (by simp) (Ev.some (by simp))
          · simp only [if_neg cx]
            exact ihx (i + 1) hd (by omega)
      have := key l 0 rfl (by omega)
      cases hf : fv l.length l 0 with
      | none => rw [hf] at this; exact this
      | some i => rw [hf] at this; exact this
theorem spec_BinaryOfVector_ev (l : List Int) (hl : l.length ≤ 9223372036854775807) : Ev (fun m => spec_BinaryOfVector.f m l) (ofVR l) := by
  unfold spec_BinaryOfVector.f ofVR
  by_cases c : l.length > 23
  · rw [if_pos c]
    exact Ev.pos (by omega) (Ev.now _)
  · rw [if_neg c]
    refine Ev.neg (by omega) ?_
    have key : ∀ (xs : List Int) (i : Nat), l.drop i = xs → i + xs.length = l.length → Ev (fun m => spec_BinaryOfVector.l0 m l i) (if (xs.all fun x => decide (0 ≤ x ∧ x ≤ 23)) = true then (if (ofV l.length l).2 = true then (S (ofV l.length l).1, 0) else (S [], 4)) else (S [], 2)) := by
      intro xs
      induction xs with
      | nil =>
        intro i hx hi
        simp only [List.length_nil] at hi
        apply Ev.succ
        simp (disch := omega) only [spec_BinaryOfVector.l0, if_neg]
        rw [if_pos (by simp)]
        refine Ev.bind (spec_l03Of_ev l.length l (Nat.le_refl _) (by omega)) ?_
        cases h2 : (ofV l.length l).2 with
        | true => exact Ev.pos rfl (Ev.now _)
        | false => exact Ev.neg (by simp) (Ev.now _)
      | cons x xs ihx =>
        intro i hx hi
        simp only [List.length_cons] at hi
        have hr := rd_drop hx
        have hd := (drop_cons hx).2.2
        apply Ev.succ
        simp (disch := omega) only [spec_BinaryOfVector.l0, if_pos, hr, w64]
        by_cases cx : 0 ≤ x ∧ x ≤ 23
        · have := ihx (i + 1) hd (by omega)
          simp only [List.all_cons, decide_eq_true cx, Bool.true_and]
          simp only [spec_l01In_eq, Option.bind_some, decide_eq_true_eq]
          exact Ev.pos cx this
        · rw [if_neg (by simp only [List.all_cons, decide_eq_false cx, Bool.false_and]; simp)]
          simp only [spec_l01In_eq, Option.bind_some, decide_eq_true_eq]
          exact Ev.neg cx (Ev.now _)
    exact key l 0 rfl (by omega)
theorem laws_toInt64S_ev (xs : List Int) (hm : xs.length ≤ 1048576) : Ev (fun k => laws_toInt64S.f k xs) xs := by
  have key : ∀ (d i : Nat) (ys : List Int), i + d = xs.length → ys.length = xs.length → ys.take i = xs.take i →
      Ev (fun k => laws_toInt64S.l0 k xs ys i) xs := by
    intro d
    induction d with
    | zero =>
      intro i ys h hl ht
      apply Ev.succ
      simp (disch := omega) only [laws_toInt64S.l0, if_pos, if_neg]
      refine Ev.some ?_
      rw [List.take_of_length_le (by omega), List.take_of_length_le (by omega)] at ht
      exact ht
    | succ d ih =>
      intro i ys h hl ht
      apply Ev.succ
      simp (disch := omega) only [laws_toInt64S.l0, if_pos, if_neg, w64]
      exact ih (i + 1) (ys.set i (rd xs i)) (by omega) (by rw [List.length_set, hl]) (by rw [take_set_succ _ _ _ (by omega), ht, take_rd_succ _ _ (by omega)])
  unfold laws_toInt64S.f
  refine Ev.pos (by omega) (Ev.pos (by omega) ?_)
  exact key xs.length 0 _ (by omega) (by rw [List.length_replicate]; omega) (by simp)
theorem impl_binaryOfVector_ev : ∀ (n : Nat) (l : List Int), l.length ≤ n → n ≤ 1000 → Ev (fun m => impl_binaryOfVector.f m l) (S (ofV n l).1, (ofV n l).2) := by
  intro n
  induction n with
  | zero =>
    intro l h _
    apply Ev.succ
    simp only [impl_binaryOfVector.f]
    exact Ev.pos (by omega) (Ev.now _)
  | succ n ih =>
    intro l h hn
    apply Ev.succ
    simp only [impl_binaryOfVector.f, ofV]
    by_cases c : l.length = 0
    · rw [if_pos c]
      exact Ev.pos (by omega) (Ev.now _)
    · rw [if_neg c]
      refine Ev.neg (by omega) ?_
      have key : ∀ (xs : List Int) (i : Nat), l.drop i = xs → i + xs.length = l.length → Ev (fun m => impl_binaryOfVector.l0 m l l l.length i) (match fv l.length xs i with
          | none => (S [], false)
          | some i => (S (49 :: ((ofV n (l.take i)).1 ++ (ofV n (l.drop (i + 1))).1)), (ofV n (l.take i)).2 && (ofV n (l.drop (i + 1))).2)) := by
        intro xs
        induction xs with
        | nil =>
          intro i hx hi
          simp only [List.length_nil] at hi
          apply Ev.succ
          simp (disch := omega) only [impl_binaryOfVector.l0, if_neg, fv]
          exact Ev.now _
        | cons x xs ihx =>
          intro i hx hi
          simp only [List.length_cons] at hi
          have hr := rd_drop hx
          have hd := (drop_cons hx).2.2
          apply Ev.succ
          simp (disch := omega) only [impl_binaryOfVector.l0, if_pos, hr, w64, fv]
          by_cases cx : x = (l.length : Int) - 1 - (i : Int)
          · have e1 := ih (l.take i) (by rw [List.length_take]; omega) (by omega)
            have e2 := ih (l.drop (i + 1)) (by rw [List.length_drop]; omega) (by omega)
            have b1 := ofV_length n (l.take i)
            have b2 := ofV_length n (l.drop (i + 1))
            rw [List.length_take] at b1
            rw [List.length_drop] at b2
            simp only [if_pos cx]
            rw [Int.toNat_natCast]
            refine Ev.bind e1 ?_
            rw [show ((i : Int) + 1).toNat = i + 1 by omega]
            refine Ev.bind e2 ?_
            simp only [S_lit49, S_append, S_size]
            refine Ev.pos (by omega) (Ev.pos (by simp; omega) ?_)
            cases h2 : (ofV n (l.take i)).2 with
            | true => exact Ev.pos rfl (Ev.some (by simp))
            | false => exact Ev.neg (by simp) (Ev.some (by simp))
          · simp only [if_neg cx]
            exact ihx (i + 1) hd (by omega)
      have := key l 0 rfl (by omega)
      cases hf : fv l.length l 0 with
      | none => rw [hf] at this; exact this
      | some i => rw [hf] at this; exact this
theorem impl_BinaryOfVector_ev (l : List Int) (hl : l.length ≤ 9223372036854775807) : Ev (fun m => impl_BinaryOfVector.f m l) (ofVR l) := by
  unfold impl_BinaryOfVector.f ofVR
  by_cases c : l.length > 23
  · rw [if_pos c]
    exact Ev.pos (by omega) (Ev.now _)
  · rw [if_neg c]
    refine Ev.neg (by omega) ?_
    have key : ∀ (xs : List Int) (i : Nat), l.drop i = xs → i + xs.length = l.length → Ev (fun m => impl_BinaryOfVector.l0 m l l l.length i) (if (xs.all fun x => decide (0 ≤ x ∧ x ≤ 23)) = true then (if (ofV l.length l).2 = true then (S (ofV l.length l).1, 0) else (S [], 4)) else (S [], 2)) := by
      intro xs
      induction xs with
      | nil =>
        intro i hx hi
        simp only [List.length_nil] at hi
        apply Ev.succ
        simp (disch := omega) only [impl_BinaryOfVector.l0, if_neg]
        rw [if_pos (by simp)]
        refine Ev.bind (impl_binaryOfVector_ev l.length l (Nat.le_refl _) (by omega)) ?_
        cases h2 : (ofV l.length l).2 with
        | true => exact Ev.pos rfl (Ev.now _)
        | false => exact Ev.neg (by simp) (Ev.now _)
      | cons x xs ihx =>
        intro i hx hi
        simp only [List.length_cons] at hi
        have hr := rd_drop hx
        have hd := (drop_cons hx).2.2
        apply Ev.succ
        simp (disch := omega) only [impl_BinaryOfVector.l0, if_pos, hr, w64]
        by_cases cx : 0 ≤ x ∧ x ≤ 23
        · have := ihx (i + 1) hd (by omega)
          simp only [List.all_cons, decide_eq_true cx, Bool.true_and]
          exact Ev.neg (by omega) (Ev.neg (by omega) this)
        · rw [if_neg (by simp only [List.all_cons, decide_eq_false cx, Bool.false_and]; simp)]
          by_cases c0 : x < 0
          · exact Ev.pos c0 (Ev.now _)
          · exact Ev.neg c0 (Ev.pos (by omega) (Ev.now _))
    exact key l 0 rfl (by omega)
theorem laws_eqInt64S_ev (xs : List Int) (hm : xs.length ≤ 140737488351232) : Ev (fun k => laws_eqInt64S.f k xs xs) true := by
  have key : ∀ (d i : Nat), i + d = xs.length → Ev (fun k => laws_eqInt64S.l0 k xs xs i) true := by
    intro d
    induction d with
    | zero =>
      intro i h
      apply Ev.succ
      simp (disch := omega) only [laws_eqInt64S.l0, if_pos, if_neg]
      exact Ev.now _
    | succ d ih =>
      intro i h
      apply Ev.succ
      simp (disch := omega) only [laws_eqInt64S.l0, if_pos, if_neg, w64]
      exact ih (i + 1) (by omega)
  unfold laws_eqInt64S.f
  exact Ev.pos rfl (key xs.length 0 (by omega))
theorem FnExactBinaryOfVector : ∀ (l : List Int), l.length ≤ maxLen → (∀ x ∈ l, (Lit.int .i64 x).wf = true) → ∃ k, laws_FnExactBinaryOfVector.f k l = some true := by
  intro l _ _
  apply Ev.rounds
  unfold laws_FnExactBinaryOfVector.f
  by_cases c : (l.length : Int) > 1048576
  · exact Ev.pos c (Ev.now _)
  · refine Ev.neg c ?_
    have hl : l.length ≤ 1048576 := by omega
    refine Ev.bind (laws_toInt64S_ev l hl) (Ev.bind (spec_BinaryOfVector_ev l (by omega)) (Ev.bind (laws_toInt64S_ev l hl) (Ev.bind (impl_BinaryOfVector_ev l (by omega)) (Ev.pos rfl (Ev.succ ?_)))))
    simp only [laws_FnExactBinaryOfVector.j0, bne_self_eq_false, Bool.false_eq_true, if_false]
    exact Ev.bind (laws_toInt64S_ev l hl) (Ev.bind (laws_eqInt64S_ev l (by omega)) (Ev.now _))

end Go.Proofs.Ytjpmichlhagbcaa.Pure
