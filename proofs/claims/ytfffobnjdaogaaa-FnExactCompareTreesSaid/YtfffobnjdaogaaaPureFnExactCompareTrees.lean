/- The pure statement of the law FnExactCompareTrees is proved. Conditions: those of the statement alone. -/
import Derived.Test.YtfffobnjdaogaaaPFnExactCompareTreesx4
import Derived.Test.YtfffobnjdaogaaaBase
import Derived.Test.YtfffobnjdaogaaaBase2
import Derived.Test.YtfffobnjdaogaaaBin
import Derived.Test.YtfffobnjdaogaaaBase3
import Derived.Test.YtfffobnjdaogaaaBase4
import Derived.Test.YtfffobnjdaogaaaBase5
import Derived.Test.YtfffobnjdaogaaaBin2
import Derived.Test.YtfffobnjdaogaaaNum
namespace Go.Proofs.Ytfffobnjdaogaaa.Pure
open Go.RowKit Go.Proofs.Ytfffobnjdaogaaa.PFnExactCompareTrees Go.Proofs.Ytfffobnjdaogaaa.Base Go.Proofs.YtfffobnjdaogaaaW.PrintWords Go.Proofs.YtfffobnjdaogaaaW.PrintLast Go.Proofs.YtfffobnjdaogaaaW.PrintMore
open Go.Proofs.Ytfffobnjdaogaaa.Base.F
set_option linter.unusedVariables false
set_option linter.unusedSimpArgs false

theorem laws_szInt64S_ev (xs : List Int) (a : Int) (hm : xs.length ≤ 9223372036854775807) (ha : 0 ≤ a ∧ a ≤ 1048576) :
    laws_szInt64S.f xs a = some (if a < xs.length then -1 else a - xs.length) := by
  unfold laws_szInt64S.f
  rw [w64 (by omega)]
  by_cases c : a < xs.length
  · rw [if_pos (by omega), if_pos c]
  · rw [if_neg (by omega), if_neg c]
theorem laws_szTree_ev (xs : List Int) (a : Int) (hm : xs.length ≤ 9223372036854775807) (ha : 0 ≤ a ∧ a ≤ 1048576) :
    laws_szTree.f xs a = some (if a < xs.length then -1 else a - xs.length) := by
  unfold laws_szTree.f
  rw [laws_szInt64S_ev xs a hm ha]
  by_cases c : a < xs.length
  · simp only [if_pos c, Option.bind_some]; rfl
  · simp only [if_neg c, Option.bind_some]
    rw [if_neg (by omega)]
theorem laws_toInt64S_ev (xs : List Int) (hm : xs.length ≤ 1048576) : Ev (fun k => laws_toInt64S.f k xs) xs := by
  have key : ∀ (d i : Nat) (ys : List Int), i + d = xs.length → ys.length = xs.length → ys.take i = xs.take i →
      Ev (fun k => laws_toInt64S.l0 k xs ys i) xs := by
    intro d
    induction d with
    | zero =>
      intro i ys h hl ht
      apply Ev.succ
      simp (disch := omega) only [laws_toInt64S.l0, if_pos, if_neg]
      refine Ev.some ?_
      rw [List.take_of_length_le (by omega), List.take_of_length_le (by omega)] at ht
      exact ht
    | succ d ih =>
      intro i ys h hl ht
      apply Ev.succ
      simp (disch := omega) only [laws_toInt64S.l0, if_pos, if_neg, w64]
      exact ih (i + 1) (ys.set i (rd xs i)) (by omega) (by rw [List.length_set, hl]) (by rw [take_set_succ _ _ _ (by omega), ht, take_rd_succ _ _ (by omega)])
  unfold laws_toInt64S.f
  refine Ev.pos (by omega) (Ev.pos (by omega) ?_)
  exact key xs.length 0 _ (by omega) (by rw [List.length_replicate]; omega) (by simp)
theorem laws_toTree_ev (xs : List Int) (hm : xs.length ≤ 1048576) : Ev (fun k => laws_toTree.f k xs) xs := by
  unfold laws_toTree.f
  exact Ev.bind (laws_toInt64S_ev xs hm) (Ev.now _)
theorem laws_eqInt64S_ev (xs : List Int) (hm : xs.length ≤ 140737488351232) : Ev (fun k => laws_eqInt64S.f k xs xs) true := by
  have key : ∀ (d i : Nat), i + d = xs.length → Ev (fun k => laws_eqInt64S.l0 k xs xs i) true := by
    intro d
    induction d with
    | zero =>
      intro i h
      apply Ev.succ
      simp (disch := omega) only [laws_eqInt64S.l0, if_pos, if_neg]
      exact Ev.now _
    | succ d ih =>
      intro i h
      apply Ev.succ
      simp (disch := omega) only [laws_eqInt64S.l0, if_pos, if_neg, w64]
      exact ih (i + 1) (by omega)
  unfold laws_eqInt64S.f
  exact Ev.pos rfl (key xs.length 0 (by omega))
theorem laws_eqTree_ev (xs : List Int) (hm : xs.length ≤ 140737488351232) : Ev (fun k => laws_eqTree.f k xs xs) true := by
  unfold laws_eqTree.f
  exact Ev.bind (laws_eqInt64S_ev xs hm) (Ev.now _)
theorem spec_l01N_eq (d : List Int) : spec_l01N.f d = some (d.length : Int) := rfl
theorem spec_l01In_eq (a b c : Int) : spec_l01In.f a b c = some (decide (b ≤ a ∧ a ≤ c)) := by
  unfold spec_l01In.f
  by_cases h : a ≥ b
  · rw [if_pos h]
    congr 1
    rw [Bool.eq_iff_iff, decide_eq_true_eq, decide_eq_true_eq]
    omega
  · rw [if_neg h]
    congr 1
    rw [eq_comm, decide_eq_false_iff_not]
    omega
theorem spec_l01Is_ev (d : List Int) (hm : d.length ≤ 9223372036854775807) : Ev (fun k => spec_l01Is.f k d) (isT d) := by
  have key : ∀ (n i : Nat) (need : Int), i + n = d.length → d.length ≤ 24 → 0 ≤ need → need ≤ 1 + 24 * (i : Int) →
      Ev (fun k => spec_l01Is.l0 k need i d) (okT 25 (d.drop i) need) := by
    intro n
    induction n with
    | zero =>
      intro i need h h24 h0 h1
      apply Ev.succ
      simp (disch := omega) only [spec_l01Is.l0, if_pos, if_neg]
      rw [List.drop_eq_nil_of_le (by omega)]
      exact Ev.some (by simp only [okT]; rw [Bool.eq_iff_iff]; simp)
    | succ n ih =>
      intro i need h h24 h0 h1
      apply Ev.succ
      have hi : i < d.length := by omega
      have hr : rd d i = d[i] := by rw [rd_nat, List.getD_eq_getElem?_getD, List.getElem?_eq_getElem hi]; rfl
      simp (disch := omega) only [spec_l01Is.l0, if_pos, if_neg, spec_l01In_eq, Option.bind_some, decide_eq_true_eq, hr]
      rw [List.drop_eq_getElem_cons hi]
      simp only [okT]
      by_cases c0 : need = 0
      · rw [if_pos c0]; exact Ev.pos c0 (Ev.now _)
      · rw [if_neg c0]
        refine Ev.neg c0 ?_
        by_cases c1 : d[i] < 0
        · rw [if_pos c1]; exact Ev.neg (by omega) (Ev.now _)
        · rw [if_neg c1]
          by_cases c2 : d[i] ≥ 25
          · rw [if_pos c2]; exact Ev.neg (by omega) (Ev.now _)
          · rw [if_neg c2]
            refine Ev.pos (by omega) ?_
            rw [w64 (x := need - 1) (by omega), w64 (by omega), w64 (by omega), show need - 1 + d[i] = need + (d[i] - 1) by omega]
            exact ih (i + 1) _ (by omega) h24 (by omega) (by omega)
  unfold spec_l01Is.f
  simp only [spec_l01N_eq, Option.bind_some, spec_l01In_eq, decide_eq_true_eq]
  by_cases c : 1 ≤ (d.length : Int) ∧ (d.length : Int) ≤ 24
  · refine Ev.pos c ?_
    have := key d.length 0 1 (by omega) (by omega) (by omega) (by omega)
    rw [List.drop_zero, okT_25 d (by omega)] at this
    have e : isT d = okT 24 d 1 := by
      unfold isT
      rw [decide_eq_true (by omega : 1 ≤ d.length), decide_eq_true (by omega : d.length ≤ 24)]
      simp
    rw [e]
    exact this
  · refine Ev.neg c ?_
    refine Ev.some ?_
    rw [eq_comm, Bool.eq_false_iff]
    intro h
    have := isT_length h
    omega
theorem spec_l01Less_ev (d e : List Int) (hd : d.length ≤ 9223372036854775807) (he : e.length ≤ 9223372036854775807) : Ev (fun m => spec_l01Less.f m d e) (cmpV d e == -1) := by
  have key : d.length = e.length → ∀ (xs ys : List Int) (i : Nat), d.drop i = xs → e.drop i = ys → i + xs.length = d.length → i + ys.length = e.length → Ev (fun m => spec_l01Less.l0 m i d e) (lexV xs ys == -1) := by
    intro hl xs
    induction xs with
    | nil =>
      intro ys i h1 h2 hi hj
      simp only [List.length_nil] at hi
      apply Ev.succ
      simp (disch := omega) only [spec_l01Less.l0, if_neg]
      exact Ev.some (by cases ys <;> rfl)
    | cons x xs ih =>
      intro ys i h1 h2 hi hj
      cases ys with
      | nil => simp only [List.length_cons, List.length_nil] at hi hj; omega
      | cons y ys =>
        simp only [List.length_cons] at hi hj
        have r1 := rd_drop h1
        have r2 := rd_drop h2
        have d1 := (drop_cons h1).2.2
        have d2 := (drop_cons h2).2.2
        apply Ev.succ
        simp (disch := omega) only [spec_l01Less.l0, if_pos, r1, r2, w64, lexV]
        by_cases c : x = y
        · rw [if_pos c]
          exact Ev.pos c (ih ys (i + 1) d1 d2 (by omega) (by omega))
        · rw [if_neg c]
          refine Ev.neg c (Ev.some ?_)
          by_cases c' : x < y
          · rw [if_pos c']; simp [c']
          · rw [if_neg c']; simp [c']
  unfold spec_l01Less.f cmpV
  by_cases c : (d.length : Int) = e.length
  · rw [if_neg (by omega), if_neg (by omega)]
    exact Ev.pos c (key (by omega) d e 0 rfl rfl (by omega) (by omega))
  · refine Ev.neg c (Ev.some ?_)
    by_cases c1 : d.length < e.length
    · rw [if_pos c1]
      simp; omega
    · rw [if_neg c1, if_pos (by omega)]
      simp; omega
theorem spec_CompareTrees_ev (d e : List Int) (hd : d.length ≤ 9223372036854775807) (he : e.length ≤ 9223372036854775807) : Ev (fun m => spec_CompareTrees.f m d e) (cmpR d e) := by
  have key : ∀ b : Bool, (b = false ↔ isT d = true ∧ isT e = true) → Ev (fun m => spec_CompareTrees.j0 m b d e) (cmpR d e) := by
    intro b hb
    apply Ev.succ
    simp only [spec_CompareTrees.j0]
    unfold cmpR
    cases b with
    | true =>
      rw [if_neg (fun h => by have := hb.2 h; cases this)]
      exact Ev.pos rfl (Ev.now _)
    | false =>
      rw [if_pos (hb.1 rfl)]
      refine Ev.neg (by simp) (Ev.bind (spec_l01Less_ev d e hd he) ?_)
      rcases cmpV_cases d e with c | c | c
      · refine Ev.pos (by simp [c]) (Ev.some (by rw [c]))
      · refine Ev.neg (by simp [c]) (Ev.bind (spec_l01Less_ev e d he hd) (Ev.neg (by rw [cmpV_swap, c]; simp) (Ev.some (by rw [c]))))
      · refine Ev.neg (by simp [c]) (Ev.bind (spec_l01Less_ev e d he hd) (Ev.pos (by rw [cmpV_swap, c]; simp) (Ev.some (by rw [c]))))
  unfold spec_CompareTrees.f
  refine Ev.bind (spec_l01Is_ev d hd) ?_
  cases h1 : isT d with
  | false => exact Ev.neg (by simp) (key true (by simp [h1]))
  | true => exact Ev.pos rfl (Ev.bind (spec_l01Is_ev e he) (key _ (by cases h2 : isT e <;> simp [h1, h2])))
theorem impl_isTree_ev (d : List Int) (hm : d.length ≤ 9223372036854775807) : Ev (fun k => impl_isTree.f k d) (isT d) := by
  have key : ∀ (n i : Nat) (need : Int), i + n = d.length → d.length ≤ 24 → 0 ≤ need → need ≤ 1 + 24 * (i : Int) →
      Ev (fun k => impl_isTree.l0 k need d d.length i) (okT 24 (d.drop i) need) := by
    intro n
    induction n with
    | zero =>
      intro i need h h24 h0 h1
      apply Ev.succ
      simp (disch := omega) only [impl_isTree.l0, if_pos, if_neg]
      rw [List.drop_eq_nil_of_le (by omega)]
      exact Ev.some (by simp only [okT]; rw [Bool.eq_iff_iff]; simp)
    | succ n ih =>
      intro i need h h24 h0 h1
      apply Ev.succ
      have hi : i < d.length := by omega
      have hr : rd d i = d[i] := by rw [rd_nat, List.getD_eq_getElem?_getD, List.getElem?_eq_getElem hi]; rfl
      simp (disch := omega) only [impl_isTree.l0, if_pos, if_neg, hr]
      rw [List.drop_eq_getElem_cons hi]
      simp only [okT]
      by_cases c0 : need = 0
      · rw [if_pos c0]; exact Ev.pos c0 (Ev.now _)
      · rw [if_neg c0]
        refine Ev.neg c0 ?_
        by_cases c1 : d[i] < 0
        · rw [if_pos c1]; exact Ev.pos c1 (Ev.now _)
        · rw [if_neg c1]
          refine Ev.neg c1 ?_
          by_cases c2 : d[i] ≥ 24
          · rw [if_pos c2]; exact Ev.pos c2 (Ev.now _)
          · rw [if_neg c2]
            refine Ev.neg c2 ?_
            rw [w64 (x := d[i] - 1) (by omega), w64 (by omega), w64 (by omega)]
            exact ih (i + 1) _ (by omega) h24 (by omega) (by omega)
  unfold impl_isTree.f
  by_cases c1 : (d.length : Int) < 1
  · refine Ev.pos c1 (Ev.succ ?_)
    simp only [impl_isTree.j0, if_true]
    refine Ev.some ?_
    rw [eq_comm, Bool.eq_false_iff]
    intro h
    have := isT_length h
    omega
  · refine Ev.neg c1 (Ev.succ ?_)
    simp only [impl_isTree.j0, decide_eq_true_eq]
    by_cases c : (d.length : Int) > 24
    · refine Ev.pos c (Ev.some ?_)
      rw [eq_comm, Bool.eq_false_iff]
      intro h
      have := isT_length h
      omega
    · refine Ev.neg c ?_
      have := key d.length 0 1 (by omega) (by omega) (by omega) (by omega)
      rw [List.drop_zero] at this
      have e : isT d = okT 24 d 1 := by
        unfold isT
        rw [decide_eq_true (by omega : 1 ≤ d.length), decide_eq_true (by omega : d.length ≤ 24)]
        simp
      rw [e]
      exact this
theorem impl_IsTree_ev (d : List Int) (hm : d.length ≤ 9223372036854775807) : Ev (fun k => impl_IsTree.f k d) (isT d) := by
  unfold impl_IsTree.f
  exact Ev.bind (impl_isTree_ev d hm) (Ev.now _)
theorem impl_areTrees_ev (ts : List S27) (hn : ts.length ≤ 9223372036854775807) (hl : ∀ t ∈ ts, t.f0.length ≤ 9223372036854775807) : Ev (fun m => impl_areTrees.f m ts) (ts.all fun t => isT t.f0) := by
  have key : ∀ (xs : List S27) (i : Nat), ts.drop i = xs → i + xs.length = ts.length → Ev (fun m => impl_areTrees.l0 m ts ts.length i) (xs.all fun t => isT t.f0) := by
    intro xs
    induction xs with
    | nil =>
      intro i h hi
      simp only [List.length_nil] at hi
      apply Ev.succ
      simp (disch := omega) only [impl_areTrees.l0, if_neg]
      exact Ev.some (by simp)
    | cons x xs ih =>
      intro i h hi
      simp only [List.length_cons] at hi
      have hd := (drop_cons h).2.2
      have hx : x ∈ ts := List.mem_of_mem_drop (by rw [h]; simp)
      have hr : rd_T27 ts (i : Int) = x := by
        unfold rd_T27
        rw [Int.toNat_natCast, List.getD_eq_getElem?_getD, (drop_cons h).2.1]
        rfl
      apply Ev.succ
      simp (disch := omega) only [impl_areTrees.l0, if_pos, hr, w64]
      refine Ev.bind (impl_IsTree_ev x.f0 (hl x hx)) ?_
      cases ht : isT x.f0 with
      | false => exact Ev.neg (by simp) (Ev.some (by simp [ht]))
      | true =>
        refine Ev.pos rfl ?_
        have := ih (i + 1) hd (by omega)
        simpa [ht] using this
  unfold impl_areTrees.f
  exact key ts 0 rfl (by omega)
theorem cmp_isNaN_int64_eq (a : Int) : cmp_isNaN_int64.f a = some false := by
  unfold cmp_isNaN_int64.f
  simp
theorem cmp_Compare_int64_eq (a b : Int) : cmp_Compare_int64.f a b = some (if a = b then 0 else if a < b then -1 else 1) := by
  unfold cmp_Compare_int64.f
  simp only [cmp_isNaN_int64_eq, Option.bind_some]
  rw [if_neg (by simp), if_neg (by simp)]
  by_cases c : a < b
  · rw [if_pos c, if_neg (by omega), if_pos c]
  · rw [if_neg c]
    by_cases c' : a > b
    · rw [if_pos c', if_neg (by omega), if_neg c]
    · rw [if_neg c', if_pos (by omega)]
theorem slices_Compare_int64_int64_ev (d e : List Int) (hl : d.length = e.length) (hd : d.length ≤ 9223372036854775807) : Ev (fun m => slices_Compare_int64_int64.f m d e) (lexV d e) := by
  have key : ∀ (xs ys : List Int) (i : Nat), d.drop i = xs → e.drop i = ys → i + xs.length = d.length → i + ys.length = e.length → Ev (fun m => slices_Compare_int64_int64.l0 m d e d d.length i) (lexV xs ys) := by
    intro xs
    induction xs with
    | nil =>
      intro ys i h1 h2 hi hj
      simp only [List.length_nil] at hi
      apply Ev.succ
      simp (disch := omega) only [slices_Compare_int64_int64.l0, if_neg]
      exact Ev.some (by cases ys <;> rfl)
    | cons x xs ih =>
      intro ys i h1 h2 hi hj
      cases ys with
      | nil => simp only [List.length_cons, List.length_nil] at hi hj; omega
      | cons y ys =>
        simp only [List.length_cons] at hi hj
        have r1 := rd_drop h1
        have r2 := rd_drop h2
        have d1 := (drop_cons h1).2.2
        have d2 := (drop_cons h2).2.2
        apply Ev.succ
        simp (disch := omega) only [slices_Compare_int64_int64.l0, if_pos, if_neg, r1, r2, w64, lexV, cmp_Compare_int64_eq, Option.bind_some]
        by_cases c : x = y
        · rw [if_pos c, if_pos c]
          exact Ev.pos rfl (ih ys (i + 1) d1 d2 (by omega) (by omega))
        · rw [if_neg c, if_neg c]
          by_cases c' : x < y
          · rw [if_pos c']
            exact Ev.neg (by decide) (Ev.now _)
          · rw [if_neg c']
            exact Ev.neg (by decide) (Ev.now _)
  unfold slices_Compare_int64_int64.f
  exact key d e 0 rfl rfl (by omega) (by omega)
theorem impl_compareTrees_ev (d e : List Int) (hd : d.length ≤ 1000) (he : e.length ≤ 1000) : ∃ x, Ev (fun m => impl_compareTrees.f m d e) x ∧ mx (mn x 1) (-1) = cmpV d e := by
  unfold impl_compareTrees.f cmpV
  by_cases c : (d.length : Int) - e.length = 0
  · refine ⟨lexV d e, ?_, ?_⟩
    · rw [w64 (by omega)]
      exact Ev.pos c (Ev.bind (slices_Compare_int64_int64_ev d e (by omega) (by omega)) (Ev.now _))
    · rw [if_neg (by omega), if_neg (by omega)]
      unfold mx mn
      rcases lexV_cases d e with h | h | h <;> rw [h] <;> decide
  · refine ⟨(d.length : Int) - e.length, ?_, ?_⟩
    · rw [w64 (by omega)]
      exact Ev.neg c (Ev.now _)
    · unfold mx mn
      repeat' split
      all_goals omega
theorem impl_CompareTrees_ev (d e : List Int) (hd : d.length ≤ 9223372036854775807) (he : e.length ≤ 9223372036854775807) : Ev (fun m => impl_CompareTrees.f m d e) (cmpR d e) := by
  have h0 := impl_areTrees_ev [(⟨d⟩ : S27), (⟨e⟩ : S27)] (by simp) (by simp; exact ⟨hd, he⟩)
  unfold impl_CompareTrees.f cmpR
  refine Ev.bind h0 ?_
  by_cases h : isT d = true ∧ isT e = true
  · rw [if_pos h]
    have l1 := isT_length h.1
    have l2 := isT_length h.2
    obtain ⟨x, hx, hm⟩ := impl_compareTrees_ev d e (by omega) (by omega)
    refine Ev.pos (by simp [h.1, h.2]) (Ev.bind hx (Ev.some (by rw [hm])))
  · rw [if_neg h]
    refine Ev.neg (by simpa using h) (Ev.now _)
theorem FnExactCompareTrees : ∀ (l l' : List Int), l.length ≤ maxLen → (∀ x ∈ l, (Lit.int .i64 x).wf = true) → l'.length ≤ maxLen → (∀ x ∈ l', (Lit.int .i64 x).wf = true) → ∃ k, laws_FnExactCompareTrees.f k l l' = some true := by
  intro l l' h1 _ h2 _
  unfold maxLen at h1 h2
  apply Ev.rounds
  unfold laws_FnExactCompareTrees.f
  simp only [laws_szTree_ev l 1048576 h1 (by omega), Option.bind_some]
  by_cases c : (1048576 : Int) < l.length
  · rw [if_pos c]
    exact Ev.pos (by omega) (Ev.now _)
  · rw [if_neg c]
    have hl : l.length ≤ 1048576 := by omega
    simp only [laws_szTree_ev l' (1048576 - (l.length : Int)) h2 (by omega), Option.bind_some]
    refine Ev.neg (by omega) ?_
    by_cases c' : 1048576 - (l.length : Int) < l'.length
    · rw [if_pos c']
      exact Ev.pos (by omega) (Ev.now _)
    · rw [if_neg c']
      have hl' : l'.length ≤ 1048576 := by omega
      have e1 := laws_toTree_ev l hl
      have e2 := laws_toTree_ev l' hl'
      have e3 := spec_CompareTrees_ev l l' h1 h2
      have e4 := impl_CompareTrees_ev l l' h1 h2
      have e5 := laws_eqTree_ev l (by omega)
      have e6 := laws_eqTree_ev l' (by omega)
      generalize cmpR l l' = R at e3 e4
      refine Ev.neg (by omega) ?_
      repeat' (first
        | exact Ev.now _
        | (with_reducible refine Ev.bind e1 ?_; try dsimp only)
        | (with_reducible refine Ev.bind e2 ?_; try dsimp only)
        | (with_reducible refine Ev.bind e3 ?_; try dsimp only)
        | (with_reducible refine Ev.bind e4 ?_; try dsimp only)
        | (with_reducible refine Ev.bind e5 ?_; try dsimp only)
        | (with_reducible refine Ev.bind e6 ?_; try dsimp only)
        | ((with_reducible apply Ev.pos); (solve | rfl | trivial | omega))
        | ((with_reducible apply Ev.neg); (solve | omega | simp))
        | (apply Ev.succ; simp only [laws_FnExactCompareTrees.j0]))

end Go.Proofs.Ytfffobnjdaogaaa.Pure
