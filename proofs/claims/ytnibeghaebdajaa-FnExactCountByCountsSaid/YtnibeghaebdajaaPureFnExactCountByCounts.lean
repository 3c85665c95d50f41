/- The pure statement of the law FnExactCountByCounts is proved. Conditions: those of the statement alone. -/
import Derived.Test.YtnibeghaebdajaaPFnExactCountByCountsx3
import Derived.Test.YtnibeghaebdajaaBase
import Derived.Test.YtnibeghaebdajaaBase2
import Derived.Test.YtnibeghaebdajaaBin
import Derived.Test.YtnibeghaebdajaaBase3
import Derived.Test.YtnibeghaebdajaaBase4
import Derived.Test.YtnibeghaebdajaaBin2
import Derived.Test.YtnibeghaebdajaaNum
namespace Go.Proofs.Ytnibeghaebdajaa.Pure
open Go.RowKit Go.Proofs.Ytnibeghaebdajaa.PFnExactCountByCounts Go.Proofs.Ytnibeghaebdajaa.Base Go.Proofs.YtnibeghaebdajaaW.PrintWords Go.Proofs.YtnibeghaebdajaaW.PrintLast Go.Proofs.YtnibeghaebdajaaW.PrintMore
open Go.Proofs.Ytnibeghaebdajaa.Base.F
set_option linter.unusedVariables false
set_option linter.unusedSimpArgs false

theorem spec_l01In_eq (a b c : Int) : spec_l01In.f a b c = some (decide (b ≤ a ∧ a ≤ c)) := by
  unfold spec_l01In.f
  by_cases h : a ≥ b
  · rw [if_pos h]
    congr 1
    rw [Bool.eq_iff_iff, decide_eq_true_eq, decide_eq_true_eq]
    omega
  · rw [if_neg h]
    congr 1
    rw [eq_comm, decide_eq_false_iff_not]
    omega
theorem spec_l02Choose_table : ((List.range 31).all fun n => (List.range (n + 1)).all fun k => decide (spec_l02Choose.f 40 (n : Int) (k : Int) = some (ch n k))) = true := by decide +kernel
theorem spec_l02Choose_ev (n k : Int) (h : 0 ≤ n ∧ n ≤ 30) : Ev (fun m => spec_l02Choose.f m n k) (chz n k) := by
  by_cases c : k < 0 ∨ k > n
  · unfold chz
    rw [if_pos c]
    unfold spec_l02Choose.f
    by_cases c0 : k < 0
    · refine Ev.pos c0 (Ev.succ ?_)
      simp only [spec_l02Choose.j0, if_true]
      exact Ev.now _
    · refine Ev.neg c0 (Ev.succ ?_)
      simp only [spec_l02Choose.j0]
      exact Ev.pos (decide_eq_true (by omega)) (Ev.now _)
  · have t := of_decide_eq_true (all_two spec_l02Choose_table (a := n.toNat) (b := k.toNat) (by omega) (by omega))
    rw [Int.toNat_of_nonneg (by omega), Int.toNat_of_nonneg (by omega)] at t
    unfold chz
    rw [if_neg c]
    exact Ev.of (spec_l02Choose.mono n k) t
theorem spec_CountByCounts_l1 (l : List Int) (hl : l.length ≤ 30) (n : Int) (hn : 1 ≤ n ∧ n ≤ 20) :
    ∀ (xs : List Int) (i : Nat) (out left : Int), l.drop i = xs → i + xs.length = l.length → left = sumI xs → left ≤ 20 → (∀ x ∈ xs, 0 ≤ x ∧ x ≤ 20) →
      Ev (fun k => spec_CountByCounts.l1 k l n out left i) (wrap64 (Int.tdiv (cbcProd xs out left) n), 0) := by
  intro xs
  induction xs with
  | nil =>
    intro i out left h hi _ _ _
    simp only [List.length_nil] at hi
    apply Ev.succ
    simp (disch := omega) only [spec_CountByCounts.l1, if_neg]
    exact Ev.now _
  | cons x xs ih =>
    intro i out left h hi hL hb hx
    simp only [List.length_cons] at hi
    have hr := rd_drop h
    have hd := (drop_cons h).2.2
    have h1 := hx x (by simp)
    have h2 := sumI_nonneg xs (fun y hy => hx y (by simp [hy]))
    simp only [sumI] at hL
    apply Ev.succ
    simp (disch := omega) only [spec_CountByCounts.l1, if_pos, hr]
    refine Ev.bind (spec_l02Choose_ev left x (by omega)) ?_
    rw [w64 (x := left - x) (by omega), w64 (x := (i : Int) + 1) (by omega)]
    simp only [cbcProd]
    exact ih (i + 1) _ (left - x) hd (by omega) (by omega) (by omega) (fun y hy => hx y (by simp [hy]))
theorem spec_CountByCounts_ev (l : List Int) : Ev (fun k => spec_CountByCounts.f k l) (cbc l) := by
  have key : l.length ≤ 30 → ∀ (xs : List Int) (i : Nat) (n c : Int), l.drop i = xs → i + xs.length = l.length → 0 ≤ n → n ≤ 20 * (i : Int) → 0 ≤ c → c ≤ 600 * (i : Int) → n + sumI xs = sumI l →
      (∀ n' c', cbcSum xs i n c = some (n', c') → ∀ x ∈ l, 0 ≤ x ∧ x ≤ 20) →
      Ev (fun k => spec_CountByCounts.l0 k l n c i) (match cbcSum xs i n c with
        | none => (0, 2)
        | some (n, c) => if n > 20 then (0, 2) else if c = n - 1 then (wrap64 (Int.tdiv (cbcProd l 1 n) n), 0) else (0, 5)) := by
    intro hl xs
    induction xs with
    | nil =>
      intro i n c h hi h0 h1 h2 h3 hs hx
      simp only [List.length_nil] at hi
      apply Ev.succ
      simp (disch := omega) only [spec_CountByCounts.l0, if_neg, cbcSum]
      simp only [sumI] at hs
      by_cases c0 : n > 20
      · rw [if_pos c0]; exact Ev.pos c0 (Ev.now _)
      · rw [if_neg c0]
        refine Ev.neg c0 ?_
        rw [w64 (x := n - 1) (by omega)]
        by_cases c1 : c = n - 1
        · rw [if_pos c1]
          refine Ev.pos c1 ?_
          exact spec_CountByCounts_l1 l hl n (by omega) l 0 1 n rfl (by omega) (by omega) (by omega) (hx n c rfl)
        · rw [if_neg c1]
          exact Ev.neg c1 (Ev.now _)
    | cons x xs ih =>
      intro i n c h hi h0 h1 h2 h3 hs hx
      simp only [List.length_cons] at hi
      have hr := rd_drop h
      have hd := (drop_cons h).2.2
      simp only [sumI] at hs
      apply Ev.succ
      simp (disch := omega) only [spec_CountByCounts.l0, if_pos, hr, cbcSum]
      by_cases c0 : 0 ≤ x ∧ x ≤ 20
      · have hx' : ∀ n' c', cbcSum xs ((i + 1 : Nat) : Int) (n + x) (c + (i : Int) * x) = some (n', c') → ∀ x ∈ l, 0 ≤ x ∧ x ≤ 20 := by
          intro n' c' e
          refine hx n' c' ?_
          simp only [cbcSum]
          rw [if_pos c0]
          exact e
        have hp := Int.mul_nonneg (show (0 : Int) ≤ (i : Int) by omega) c0.1
        have hq : (i : Int) * x ≤ 30 * 20 := Int.mul_le_mul (by omega) c0.2 c0.1 (by omega)
        rw [if_pos c0]
        simp only [spec_l01In_eq, Option.bind_some, decide_eq_true_eq]
        refine Ev.pos c0 ?_
        rw [w64 (x := n + x) (by omega), w64 (x := (i : Int) * x) (by omega), w64 (x := c + (i : Int) * x) (by omega), w64 (x := (i : Int) + 1) (by omega)]
        exact ih (i + 1) (n + x) (c + (i : Int) * x) hd (by omega) (by omega) (by omega) (by omega) (by omega) (by omega) hx'
      · rw [if_neg c0]
        simp only [spec_l01In_eq, Option.bind_some, decide_eq_true_eq]
        exact Ev.neg c0 (Ev.now _)
  unfold spec_CountByCounts.f cbc
  by_cases c0 : l.length < 1
  · rw [if_pos (Or.inl c0)]
    refine Ev.pos (by omega) (Ev.succ ?_)
    simp only [spec_CountByCounts.j0, if_true]
    exact Ev.now _
  · refine Ev.neg (by omega) ?_
    by_cases c1 : 30 < l.length
    · rw [if_pos (Or.inr (Or.inl c1))]
      refine Ev.pos (by omega) (Ev.succ ?_)
      simp only [spec_CountByCounts.j0, if_true]
      exact Ev.now _
    · refine Ev.neg (by omega) ?_
      rw [w64 (x := (l.length : Int) - 1) (by omega)]
      refine Ev.pos (by omega) (Ev.pos (by omega) (Ev.succ ?_))
      simp only [spec_CountByCounts.j0, beq_iff_eq]
      by_cases c2 : rd l ((l.length : Int) - 1) = 0
      · rw [if_pos (Or.inr (Or.inr c2))]
        exact Ev.pos c2 (Ev.now _)
      · rw [if_neg (by omega)]
        refine Ev.neg c2 ?_
        exact key (by omega) l 0 0 0 rfl (by omega) (by omega) (by omega) (by omega) (by omega) (by omega) (fun n' c' h => (cbcSum_tells l 0 0 0 n' c' (by omega) (by omega) h).2.2)
theorem laws_toInt64S_ev (xs : List Int) (hm : xs.length ≤ 1048576) : Ev (fun k => laws_toInt64S.f k xs) xs := by
  have key : ∀ (d i : Nat) (ys : List Int), i + d = xs.length → ys.length = xs.length → ys.take i = xs.take i →
      Ev (fun k => laws_toInt64S.l0 k xs ys i) xs := by
    intro d
    induction d with
    | zero =>
      intro i ys h hl ht
      apply Ev.succ
      simp (disch := omega) only [laws_toInt64S.l0, if_pos, if_neg]
      refine Ev.some ?_
      rw [List.take_of_length_le (by omega), List.take_of_length_le (by omega)] at ht
      exact ht
    | succ d ih =>
      intro i ys h hl ht
      apply Ev.succ
      simp (disch := omega) only [laws_toInt64S.l0, if_pos, if_neg, w64]
      exact ih (i + 1) (ys.set i (rd xs i)) (by omega) (by rw [List.length_set, hl]) (by rw [take_set_succ _ _ _ (by omega), ht, take_rd_succ _ _ (by omega)])
  unfold laws_toInt64S.f
  refine Ev.pos (by omega) (Ev.pos (by omega) ?_)
  exact key xs.length 0 _ (by omega) (by rw [List.length_replicate]; omega) (by simp)
theorem impl_choose_table : ((List.range 31).all fun n => (List.range (n + 1)).all fun k => decide (impl_choose.f 40 (n : Int) (k : Int) = some (ch n k))) = true := by decide +kernel
theorem impl_choose_ev (n k : Int) (h : 0 ≤ n ∧ n ≤ 30) : Ev (fun m => impl_choose.f m n k) (chz n k) := by
  by_cases c : k < 0 ∨ k > n
  · unfold chz
    rw [if_pos c]
    unfold impl_choose.f
    by_cases c0 : k < 0
    · refine Ev.pos c0 (Ev.succ ?_)
      simp only [impl_choose.j0, if_true]
      exact Ev.now _
    · refine Ev.neg c0 (Ev.succ ?_)
      simp only [impl_choose.j0]
      exact Ev.pos (decide_eq_true (by omega)) (Ev.now _)
  · have t := of_decide_eq_true (all_two impl_choose_table (a := n.toNat) (b := k.toNat) (by omega) (by omega))
    rw [Int.toNat_of_nonneg (by omega), Int.toNat_of_nonneg (by omega)] at t
    unfold chz
    rw [if_neg c]
    exact Ev.of (impl_choose.mono n k) t
theorem impl_CountByCounts_l1 (l : List Int) (hl : l.length ≤ 30) (n : Int) (hn : 1 ≤ n ∧ n ≤ 20) :
    ∀ (xs : List Int) (i : Nat) (out left : Int), l.drop i = xs → i + xs.length = l.length → left = sumI xs → left ≤ 20 → (∀ x ∈ xs, 0 ≤ x ∧ x ≤ 20) →
      Ev (fun k => impl_CountByCounts.l1 k n out left l l.length i) (wrap64 (Int.tdiv (cbcProd xs out left) n), 0) := by
  intro xs
  induction xs with
  | nil =>
    intro i out left h hi _ _ _
    simp only [List.length_nil] at hi
    apply Ev.succ
    simp (disch := omega) only [impl_CountByCounts.l1, if_neg]
    exact Ev.now _
  | cons x xs ih =>
    intro i out left h hi hL hb hx
    simp only [List.length_cons] at hi
    have hr := rd_drop h
    have hd := (drop_cons h).2.2
    have h1 := hx x (by simp)
    have h2 := sumI_nonneg xs (fun y hy => hx y (by simp [hy]))
    simp only [sumI] at hL
    apply Ev.succ
    simp (disch := omega) only [impl_CountByCounts.l1, if_pos, hr]
    refine Ev.bind (impl_choose_ev left x (by omega)) ?_
    rw [w64 (x := left - x) (by omega), w64 (x := (i : Int) + 1) (by omega)]
    simp only [cbcProd]
    exact ih (i + 1) _ (left - x) hd (by omega) (by omega) (by omega) (fun y hy => hx y (by simp [hy]))
theorem impl_CountByCounts_ev (l : List Int) : Ev (fun k => impl_CountByCounts.f k l) (cbc l) := by
  have key : l.length ≤ 30 → ∀ (xs : List Int) (i : Nat) (n c : Int), l.drop i = xs → i + xs.length = l.length → 0 ≤ n → n ≤ 20 * (i : Int) → 0 ≤ c → c ≤ 600 * (i : Int) → n + sumI xs = sumI l →
      (∀ n' c', cbcSum xs i n c = some (n', c') → ∀ x ∈ l, 0 ≤ x ∧ x ≤ 20) →
      Ev (fun k => impl_CountByCounts.l0 k l n c l l.length i) (match cbcSum xs i n c with
        | none => (0, 2)
        | some (n, c) => if n > 20 then (0, 2) else if c = n - 1 then (wrap64 (Int.tdiv (cbcProd l 1 n) n), 0) else (0, 5)) := by
    intro hl xs
    induction xs with
    | nil =>
      intro i n c h hi h0 h1 h2 h3 hs hx
      simp only [List.length_nil] at hi
      apply Ev.succ
      simp (disch := omega) only [impl_CountByCounts.l0, if_neg, cbcSum]
      simp only [sumI] at hs
      by_cases c0 : n > 20
      · rw [if_pos c0]; exact Ev.pos c0 (Ev.now _)
      · rw [if_neg c0]
        refine Ev.neg c0 ?_
        rw [w64 (x := n - 1) (by omega)]
        by_cases c1 : c = n - 1
        · rw [if_pos c1]
          refine Ev.pos c1 ?_
          exact impl_CountByCounts_l1 l hl n (by omega) l 0 1 n rfl (by omega) (by omega) (by omega) (hx n c rfl)
        · rw [if_neg c1]
          exact Ev.neg c1 (Ev.now _)
    | cons x xs ih =>
      intro i n c h hi h0 h1 h2 h3 hs hx
      simp only [List.length_cons] at hi
      have hr := rd_drop h
      have hd := (drop_cons h).2.2
      simp only [sumI] at hs
      apply Ev.succ
      simp (disch := omega) only [impl_CountByCounts.l0, if_pos, hr, cbcSum]
      by_cases c0 : 0 ≤ x ∧ x ≤ 20
      · have hx' : ∀ n' c', cbcSum xs ((i + 1 : Nat) : Int) (n + x) (c + (i : Int) * x) = some (n', c') → ∀ x ∈ l, 0 ≤ x ∧ x ≤ 20 := by
          intro n' c' e
          refine hx n' c' ?_
          simp only [cbcSum]
          rw [if_pos c0]
          exact e
        have hp := Int.mul_nonneg (show (0 : Int) ≤ (i : Int) by omega) c0.1
        have hq : (i : Int) * x ≤ 30 * 20 := Int.mul_le_mul (by omega) c0.2 c0.1 (by omega)
        rw [if_pos c0]
        refine Ev.neg (by omega) (Ev.neg (by omega) ?_)
        rw [w64 (x := n + x) (by omega), w64 (x := (i : Int) * x) (by omega), w64 (x := c + (i : Int) * x) (by omega), w64 (x := (i : Int) + 1) (by omega)]
        exact ih (i + 1) (n + x) (c + (i : Int) * x) hd (by omega) (by omega) (by omega) (by omega) (by omega) (by omega) hx'
      · rw [if_neg c0]
        by_cases c1 : x < 0
        · exact Ev.pos c1 (Ev.now _)
        · exact Ev.neg c1 (Ev.pos (by omega) (Ev.now _))
  unfold impl_CountByCounts.f cbc
  by_cases c0 : l.length < 1
  · rw [if_pos (Or.inl c0)]
    refine Ev.pos (by omega) (Ev.succ ?_)
    simp only [impl_CountByCounts.j0, if_true]
    exact Ev.now _
  · refine Ev.neg (by omega) ?_
    by_cases c1 : 30 < l.length
    · rw [if_pos (Or.inr (Or.inl c1))]
      refine Ev.pos (by omega) (Ev.succ ?_)
      simp only [impl_CountByCounts.j0, if_true]
      exact Ev.now _
    · refine Ev.neg (by omega) ?_
      rw [w64 (x := (l.length : Int) - 1) (by omega)]
      refine Ev.pos (by omega) (Ev.pos (by omega) (Ev.succ ?_))
      simp only [impl_CountByCounts.j0, beq_iff_eq]
      by_cases c2 : rd l ((l.length : Int) - 1) = 0
      · rw [if_pos (Or.inr (Or.inr c2))]
        exact Ev.pos c2 (Ev.now _)
      · rw [if_neg (by omega)]
        refine Ev.neg c2 ?_
        exact key (by omega) l 0 0 0 rfl (by omega) (by omega) (by omega) (by omega) (by omega) (by omega) (fun n' c' h => (cbcSum_tells l 0 0 0 n' c' (by omega) (by omega) h).2.2)
theorem laws_eqInt64S_ev (xs : List Int) (hm : xs.length ≤ 140737488351232) : Ev (fun k => laws_eqInt64S.f k xs xs) true := by
  have key : ∀ (d i : Nat), i + d = xs.length → Ev (fun k => laws_eqInt64S.l0 k xs xs i) true := by
    intro d
    induction d with
    | zero =>
      intro i h
      apply Ev.succ
      simp (disch := omega) only [laws_eqInt64S.l0, if_pos, if_neg]
      exact Ev.now _
    | succ d ih =>
      intro i h
      apply Ev.succ
      simp (disch := omega) only [laws_eqInt64S.l0, if_pos, if_neg, w64]
      exact ih (i + 1) (by omega)
  unfold laws_eqInt64S.f
  exact Ev.pos rfl (key xs.length 0 (by omega))
theorem FnExactCountByCounts : ∀ (l : List Int), l.length ≤ maxLen → (∀ x ∈ l, (Lit.int .i64 x).wf = true) → ∃ k, laws_FnExactCountByCounts.f k l = some true := by
  intro l _ _
  apply Ev.rounds
  unfold laws_FnExactCountByCounts.f
  by_cases c : (l.length : Int) > 1048576
  · exact Ev.pos c (Ev.now _)
  · refine Ev.neg c ?_
    have hl : l.length ≤ 1048576 := by omega
    refine Ev.bind (laws_toInt64S_ev l hl) (Ev.bind (spec_CountByCounts_ev l) (Ev.bind (laws_toInt64S_ev l hl) (Ev.bind (impl_CountByCounts_ev l) (Ev.pos rfl (Ev.succ ?_)))))
    simp only [laws_FnExactCountByCounts.j0, bne_self_eq_false, Bool.false_eq_true, if_false]
    exact Ev.bind (laws_toInt64S_ev l hl) (Ev.bind (laws_eqInt64S_ev l (by omega)) (Ev.now _))

end Go.Proofs.Ytnibeghaebdajaa.Pure
