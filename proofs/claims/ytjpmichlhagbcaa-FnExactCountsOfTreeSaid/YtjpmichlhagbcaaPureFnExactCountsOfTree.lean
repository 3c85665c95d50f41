/- The pure statement of the law FnExactCountsOfTree is proved. Conditions: those of the statement alone. -/
import Derived.Test.YtjpmichlhagbcaaQFnExactCountsOfTreex4
import Derived.Test.YtjpmichlhagbcaaBase
import Derived.Test.YtjpmichlhagbcaaBase2
import Derived.Test.YtjpmichlhagbcaaBin
import Derived.Test.YtjpmichlhagbcaaBase3
import Derived.Test.YtjpmichlhagbcaaBase4
import Derived.Test.YtjpmichlhagbcaaBase5
import Derived.Test.YtjpmichlhagbcaaBase6
import Derived.Test.YtjpmichlhagbcaaBin2
import Derived.Test.YtjpmichlhagbcaaNum
namespace Go.Proofs.Ytjpmichlhagbcaa.Pure
open Go.RowKit Go.Proofs.Ytjpmichlhagbcaa.QFnExactCountsOfTree Go.Proofs.Ytjpmichlhagbcaa.Base Go.Proofs.YtjpmichlhagbcaaW.PrintWords Go.Proofs.YtjpmichlhagbcaaW.PrintLast Go.Proofs.YtjpmichlhagbcaaW.PrintMore
open Go.Proofs.Ytjpmichlhagbcaa.Base.F
set_option linter.unusedVariables false
set_option linter.unusedSimpArgs false

theorem laws_eqInt64S_ev (xs : List Int) (hm : xs.length ≤ 140737488351232) : Ev (fun k => laws_eqInt64S.f k xs xs) true := by
  have key : ∀ (d i : Nat), i + d = xs.length → Ev (fun k => laws_eqInt64S.l0 k xs xs i) true := by
    intro d
    induction d with
    | zero =>
      intro i h
      apply Ev.succ
      simp (disch := omega) only [laws_eqInt64S.l0, if_pos, if_neg]
      exact Ev.now _
    | succ d ih =>
      intro i h
      apply Ev.succ
      simp (disch := omega) only [laws_eqInt64S.l0, if_pos, if_neg, w64]
      exact ih (i + 1) (by omega)
  unfold laws_eqInt64S.f
  exact Ev.pos rfl (key xs.length 0 (by omega))
theorem laws_markInt64S_ev (xs : List Int) (a : Int) (ha : 0 ≤ a) (hm : a + (xs.length : Int) ≤ 1000000000000000000) :
    Ev (fun k => laws_markInt64S.f k xs a) (a + xs.length, marks a xs.length) := by
  have key : ∀ (d i : Nat) (ys : List Int), i + d = xs.length → ys.length = xs.length → ys.take i = marks a i →
      Ev (fun k => laws_markInt64S.l0 k ys (a + i) i) (a + xs.length, marks a xs.length) := by
    intro d
    induction d with
    | zero =>
      intro i ys h hl ht
      apply Ev.succ
      simp (disch := omega) only [laws_markInt64S.l0, if_pos, if_neg]
      refine Ev.some ?_
      rw [show i = xs.length by omega] at ht ⊢
      rw [← ht, List.take_of_length_le (by omega)]
    | succ d ih =>
      intro i ys h hl ht
      apply Ev.succ
      simp (disch := omega) only [laws_markInt64S.l0, if_pos, if_neg, w64]
      have := ih (i + 1) (ys.set i (a + i)) (by omega) (by rw [List.length_set, hl]) (by rw [marks_succ, ← ht, take_set_succ _ _ _ (by omega)])
      rw [show a + ((i + 1 : Nat) : Int) = a + i + 1 by omega] at this
      exact this
  unfold laws_markInt64S.f
  have := key xs.length 0 xs (by omega) rfl (by simp [marks])
  simpa using this
theorem laws_heldInt64S_ev (n : Nat) (a : Int) (ha : 0 ≤ a) (hm : a + (n : Int) ≤ 1000000000000000000) :
    Ev (fun k => laws_heldInt64S.f k (marks a n) a) (a + n) := by
  have key : ∀ (d i : Nat), i + d = n → Ev (fun k => laws_heldInt64S.l0 k (marks a n) (a + i) i) (a + n) := by
    intro d
    induction d with
    | zero =>
      intro i h
      have hl := marks_length a n
      apply Ev.succ
      simp (disch := omega) only [laws_heldInt64S.l0, if_pos, if_neg]
      refine Ev.some ?_
      omega
    | succ d ih =>
      intro i h
      have hl := marks_length a n
      have hr := rd_marks a n i (by omega)
      apply Ev.succ
      simp (disch := omega) only [laws_heldInt64S.l0, if_pos, if_neg, w64, hr]
      have := ih (i + 1) (by omega)
      rw [show a + ((i + 1 : Nat) : Int) = a + i + 1 by omega] at this
      exact this
  unfold laws_heldInt64S.f
  simpa using key n 0 (by omega)
theorem laws_szInt64S_ev (xs : List Int) (a : Int) (hm : xs.length ≤ 9223372036854775807) (ha : 0 ≤ a ∧ a ≤ 1048576) :
    laws_szInt64S.f xs a = some (if a < xs.length then -1 else a - xs.length) := by
  unfold laws_szInt64S.f
  rw [w64 (by omega)]
  by_cases c : a < xs.length
  · rw [if_pos (by omega), if_pos c]
  · rw [if_neg (by omega), if_neg c]
theorem laws_szTree_ev (xs : List Int) (a : Int) (hm : xs.length ≤ 9223372036854775807) (ha : 0 ≤ a ∧ a ≤ 1048576) :
    laws_szTree.f xs a = some (if a < xs.length then -1 else a - xs.length) := by
  unfold laws_szTree.f
  rw [laws_szInt64S_ev xs a hm ha]
  by_cases c : a < xs.length
  · simp only [if_pos c, Option.bind_some]; rfl
  · simp only [if_neg c, Option.bind_some]
    rw [if_neg (by omega)]
theorem laws_toInt64S_ev (xs : List Int) (hm : xs.length ≤ 1048576) : Ev (fun k => laws_toInt64S.f k xs) xs := by
  have key : ∀ (d i : Nat) (ys : List Int), i + d = xs.length → ys.length = xs.length → ys.take i = xs.take i →
      Ev (fun k => laws_toInt64S.l0 k xs ys i) xs := by
    intro d
    induction d with
    | zero =>
      intro i ys h hl ht
      apply Ev.succ
      simp (disch := omega) only [laws_toInt64S.l0, if_pos, if_neg]
      refine Ev.some ?_
      rw [List.take_of_length_le (by omega), List.take_of_length_le (by omega)] at ht
      exact ht
    | succ d ih =>
      intro i ys h hl ht
      apply Ev.succ
      simp (disch := omega) only [laws_toInt64S.l0, if_pos, if_neg, w64]
      exact ih (i + 1) (ys.set i (rd xs i)) (by omega) (by rw [List.length_set, hl]) (by rw [take_set_succ _ _ _ (by omega), ht, take_rd_succ _ _ (by omega)])
  unfold laws_toInt64S.f
  refine Ev.pos (by omega) (Ev.pos (by omega) ?_)
  exact key xs.length 0 _ (by omega) (by rw [List.length_replicate]; omega) (by simp)
theorem laws_toTree_ev (xs : List Int) (hm : xs.length ≤ 1048576) : Ev (fun k => laws_toTree.f k xs) xs := by
  unfold laws_toTree.f
  exact Ev.bind (laws_toInt64S_ev xs hm) (Ev.now _)
theorem laws_eqTree_ev (xs : List Int) (hm : xs.length ≤ 140737488351232) : Ev (fun k => laws_eqTree.f k xs xs) true := by
  unfold laws_eqTree.f
  exact Ev.bind (laws_eqInt64S_ev xs hm) (Ev.now _)
theorem spec_l01In_eq (a b c : Int) : spec_l01In.f a b c = some (decide (b ≤ a ∧ a ≤ c)) := by
  unfold spec_l01In.f
  by_cases h : a ≥ b
  · rw [if_pos h]
    congr 1
    rw [Bool.eq_iff_iff, decide_eq_true_eq, decide_eq_true_eq]
    omega
  · rw [if_neg h]
    congr 1
    rw [eq_comm, decide_eq_false_iff_not]
    omega
theorem spec_l01N_eq (d : List Int) : spec_l01N.f d = some (d.length : Int) := rfl
theorem spec_l01Is_ev (d : List Int) (hm : d.length ≤ 9223372036854775807) : Ev (fun k => spec_l01Is.f k d) (isT d) := by
  have key : ∀ (n i : Nat) (need : Int), i + n = d.length → d.length ≤ 24 → 0 ≤ need → need ≤ 1 + 24 * (i : Int) →
      Ev (fun k => spec_l01Is.l0 k need i d) (okT 25 (d.drop i) need) := by
    intro n
    induction n with
    | zero =>
      intro i need h h24 h0 h1
      apply Ev.succ
      simp (disch := omega) only [spec_l01Is.l0, if_pos, if_neg]
      rw [List.drop_eq_nil_of_le (by omega)]
      exact Ev.some (by simp only [okT]; rw [Bool.eq_iff_iff]; simp)
    | succ n ih =>
      intro i need h h24 h0 h1
      apply Ev.succ
      have hi : i < d.length := by omega
      have hr : rd d i = d[i] := by rw [rd_nat, List.getD_eq_getElem?_getD, List.getElem?_eq_getElem hi]; rfl
      simp (disch := omega) only [spec_l01Is.l0, if_pos, if_neg, spec_l01In_eq, Option.bind_some, decide_eq_true_eq, hr]
      rw [List.drop_eq_getElem_cons hi]
      simp only [okT]
      by_cases c0 : need = 0
      · rw [if_pos c0]; exact Ev.pos c0 (Ev.now _)
      · rw [if_neg c0]
        refine Ev.neg c0 ?_
        by_cases c1 : d[i] < 0
        · rw [if_pos c1]; exact Ev.neg (by omega) (Ev.now _)
        · rw [if_neg c1]
          by_cases c2 : d[i] ≥ 25
          · rw [if_pos c2]; exact Ev.neg (by omega) (Ev.now _)
          · rw [if_neg c2]
            refine Ev.pos (by omega) ?_
            rw [w64 (x := need - 1) (by omega), w64 (by omega), w64 (by omega), show need - 1 + d[i] = need + (d[i] - 1) by omega]
            exact ih (i + 1) _ (by omega) h24 (by omega) (by omega)
  unfold spec_l01Is.f
  simp only [spec_l01N_eq, Option.bind_some, spec_l01In_eq, decide_eq_true_eq]
  by_cases c : 1 ≤ (d.length : Int) ∧ (d.length : Int) ≤ 24
  · refine Ev.pos c ?_
    have := key d.length 0 1 (by omega) (by omega) (by omega) (by omega)
    rw [List.drop_zero, okT_25 d (by omega)] at this
    have e : isT d = okT 24 d 1 := by
      unfold isT
      rw [decide_eq_true (by omega : 1 ≤ d.length), decide_eq_true (by omega : d.length ≤ 24)]
      simp
    rw [e]
    exact this
  · refine Ev.neg c ?_
    refine Ev.some ?_
    rw [eq_comm, Bool.eq_false_iff]
    intro h
    have := isT_length h
    omega
theorem spec_CountsOfTree_ev (d : List Int) (hd : d.length ≤ 9223372036854775807) {R} (h : treeR cntV [] d R) : Ev (fun m => spec_CountsOfTree.f m d) R := by
  rcases h with ⟨h, rfl⟩ | ⟨k, rfl, hk, h, rfl⟩
  · have e := spec_l01Is_ev d hd
    rw [h] at e
    unfold spec_CountsOfTree.f
    exact Ev.bind e (Ev.neg (by simp) (Ev.now _))
  · have e := spec_l01Is_ev (tr k) hd
    rw [h] at e
    have hl := tr_length k
    unfold spec_CountsOfTree.f
    refine Ev.bind e (Ev.pos rfl ?_)
    have hb : ∀ x ∈ tr k, 0 ≤ x ∧ x < 24 := fun x hx => by have := tr_bound x hx; omega
    have key : ∀ (xs : List Int) (i : Nat) (p : List Int), (tr k).drop i = xs → i + xs.length = (tr k).length → p ++ xs = tr k → p.length ≤ 24 →
        Ev (fun m => spec_CountsOfTree.l0 m (cnt p (nf 0 p)) i (tr k)) (cntV k, 0) := by
      intro xs
      induction xs with
      | nil =>
        intro i p h hi hp _
        simp only [List.length_nil] at hi
        rw [List.append_nil] at hp
        subst hp
        refine Ev.step (fun k => by rw [spec_CountsOfTree.l0]) ?_
        refine Ev.neg (by omega) (Ev.now _)
      | cons x xs ih =>
        intro i p h hi hp hpl
        have hr := rd_drop h
        have hd := (drop_cons h).2.2
        have hx : x ∈ tr k := by rw [← hp]; simp
        have hx1 := hb x hx
        simp only [List.length_cons] at hi
        have hpl2 : p.length + xs.length + 1 = (tr k).length := by rw [← hp]; simp; omega
        obtain ⟨n, rfl⟩ : ∃ n : Nat, x = n := ⟨x.toNat, by omega⟩
        have hpb := nf_bound p 0
        have hnp := nf_le p 24 0 (by omega) (fun x hx => (hb x (by rw [← hp]; simp [hx])).2) (by omega)
        have grow : ∀ (e c : Nat), nf 0 p ≤ c → c + e = max (nf 0 p) (n + 1) → Ev (fun m => spec_CountsOfTree.l1 m (cnt p c) i (tr k)) (cntV k, 0) := by
          intro e
          induction e with
          | zero =>
            intro c hc he
            have hcl := cnt_length p c
            have hcs := cnt_set p c n (by omega)
            have hcr := cnt_rd p c n (by omega)
            have hcc := List.count_le_length (a := (n : Int)) (l := p)
            refine Ev.step (fun k => by rw [spec_CountsOfTree.l1]) ?_
            refine Ev.pos (by omega) (Ev.pos (by omega) ?_)
            rw [hr]
            refine Ev.neg (by omega) (Ev.pos (by omega) (Ev.pos (by omega) ?_))
            rw [w64 (x := rd _ _ + 1) (by rw [hcr]; omega), w64 (by omega), Int.toNat_natCast, hcs]
            have := ih (i + 1) (p ++ [(n : Int)]) hd (by omega) (by rw [← hp]; simp) (by simp; omega)
            have en : nf 0 (p ++ [(n : Int)]) = c := by
              rw [nf_append]
              simp only [nf]
              omega
            rw [en] at this
            exact this
          | succ e ihe =>
            intro c hc he
            have hcl := cnt_length p c
            refine Ev.step (fun k => by rw [spec_CountsOfTree.l1]) ?_
            refine Ev.pos (by omega) (Ev.pos (by omega) ?_)
            rw [hr]
            refine Ev.pos (by omega) (Ev.pos (by omega) ?_)
            rw [← cnt_push (fun x hx => by have := hpb x hx; omega)]
            exact ihe (c + 1) (by omega) (by omega)
        refine Ev.step (fun k => by rw [spec_CountsOfTree.l0]) ?_
        refine Ev.pos (by omega) ?_
        exact grow (max (nf 0 p) (n + 1) - nf 0 p) (nf 0 p) (Nat.le_refl _) (by omega)
    exact key (tr k) 0 [] rfl (by omega) rfl (by simp)
theorem impl_isTree_ev (d : List Int) (hm : d.length ≤ 9223372036854775807) : Ev (fun k => impl_isTree.f k d) (isT d) := by
  have key : ∀ (n i : Nat) (need : Int), i + n = d.length → d.length ≤ 24 → 0 ≤ need → need ≤ 1 + 24 * (i : Int) →
      Ev (fun k => impl_isTree.l0 k need d d.length i) (okT 24 (d.drop i) need) := by
    intro n
    induction n with
    | zero =>
      intro i need h h24 h0 h1
      apply Ev.succ
      simp (disch := omega) only [impl_isTree.l0, if_pos, if_neg]
      rw [List.drop_eq_nil_of_le (by omega)]
      exact Ev.some (by simp only [okT]; rw [Bool.eq_iff_iff]; simp)
    | succ n ih =>
      intro i need h h24 h0 h1
      apply Ev.succ
      have hi : i < d.length := by omega
      have hr : rd d i = d[i] := by rw [rd_nat, List.getD_eq_getElem?_getD, List.getElem?_eq_getElem hi]; rfl
      simp (disch := omega) only [impl_isTree.l0, if_pos, if_neg, hr]
      rw [List.drop_eq_getElem_cons hi]
      simp only [okT]
      by_cases c0 : need = 0
      · rw [if_pos c0]; exact Ev.pos c0 (Ev.now _)
      · rw [if_neg c0]
        refine Ev.neg c0 ?_
        by_cases c1 : d[i] < 0
        · rw [if_pos c1]; exact Ev.pos c1 (Ev.now _)
        · rw [if_neg c1]
          refine Ev.neg c1 ?_
          by_cases c2 : d[i] ≥ 24
          · rw [if_pos c2]; exact Ev.pos c2 (Ev.now _)
          · rw [if_neg c2]
            refine Ev.neg c2 ?_
            rw [w64 (x := d[i] - 1) (by omega), w64 (by omega), w64 (by omega)]
            exact ih (i + 1) _ (by omega) h24 (by omega) (by omega)
  unfold impl_isTree.f
  by_cases c1 : (d.length : Int) < 1
  · refine Ev.pos c1 (Ev.succ ?_)
    simp only [impl_isTree.j0, if_true]
    refine Ev.some ?_
    rw [eq_comm, Bool.eq_false_iff]
    intro h
    have := isT_length h
    omega
  · refine Ev.neg c1 (Ev.succ ?_)
    simp only [impl_isTree.j0, decide_eq_true_eq]
    by_cases c : (d.length : Int) > 24
    · refine Ev.pos c (Ev.some ?_)
      rw [eq_comm, Bool.eq_false_iff]
      intro h
      have := isT_length h
      omega
    · refine Ev.neg c ?_
      have := key d.length 0 1 (by omega) (by omega) (by omega) (by omega)
      rw [List.drop_zero] at this
      have e : isT d = okT 24 d 1 := by
        unfold isT
        rw [decide_eq_true (by omega : 1 ≤ d.length), decide_eq_true (by omega : d.length ≤ 24)]
        simp
      rw [e]
      exact this
theorem impl_IsTree_ev (d : List Int) (hm : d.length ≤ 9223372036854775807) : Ev (fun k => impl_IsTree.f k d) (isT d) := by
  unfold impl_IsTree.f
  exact Ev.bind (impl_isTree_ev d hm) (Ev.now _)
theorem slices_Max_int64_int64_ev (x : Int) (xs : List Int) (hl : xs.length ≤ 1000000) : Ev (fun m => slices_Max_int64_int64.f m (x :: xs)) (xs.foldl mx x) := by
  have key : ∀ (ys : List Int) (i : Nat) (m : Int), (x :: xs).drop i = ys → i + ys.length = (x :: xs).length → Ev (fun k => slices_Max_int64_int64.l0 k (x :: xs) m i) (ys.foldl mx m) := by
    intro ys
    induction ys with
    | nil =>
      intro i m h hi
      simp only [List.length_nil, List.length_cons] at hi
      refine Ev.step (fun k => by rw [slices_Max_int64_int64.l0]) ?_
      refine Ev.neg (by simp only [List.length_cons]; omega) (Ev.now _)
    | cons y ys ih =>
      intro i m h hi
      have hr := rd_drop h
      have hd := (drop_cons h).2.2
      simp only [List.length_cons] at hi
      refine Ev.step (fun k => by rw [slices_Max_int64_int64.l0]) ?_
      refine Ev.pos (by simp only [List.length_cons]; omega) (Ev.pos (by omega) ?_)
      rw [hr, w64 (by omega)]
      exact ih (i + 1) (mx m y) hd (by simp only [List.length_cons]; omega)
  unfold slices_Max_int64_int64.f
  exact Ev.neg (by simp only [List.length_cons]; omega) (Ev.pos (by simp only [List.length_cons]; omega) (key xs 1 x rfl (by simp only [List.length_cons]; omega)))
theorem impl_CountsOfTree_ev (d : List Int) (hd : d.length ≤ 9223372036854775807) {R} (h : treeR cntV [] d R) : Ev (fun m => impl_CountsOfTree.f m d) R := by
  rcases h with ⟨h, rfl⟩ | ⟨k, rfl, hk, h, rfl⟩
  · have e := impl_IsTree_ev d hd
    rw [h] at e
    unfold impl_CountsOfTree.f
    exact Ev.bind e (Ev.neg (by simp) (Ev.now _))
  · have e := impl_IsTree_ev (tr k) hd
    rw [h] at e
    have hl := tr_length k
    unfold impl_CountsOfTree.f
    refine Ev.bind e (Ev.pos rfl ?_)
    have hb : ∀ x ∈ tr k, 0 ≤ x ∧ x < 24 := fun x hx => by have := tr_bound x hx; omega
    have hne : tr k = (len k : Int) :: (degs k ++ []) := rfl
    have hnf := nf_bound (tr k) 0
    have hle := nf_le (tr k) 24 0 (by omega) (fun x hx => by have := hb x hx; omega) (by omega)
    have e2 := slices_Max_int64_int64_ev (len k : Int) (degs k ++ []) (by rw [List.append_nil, degs_length]; omega)
    have em := mx_nf (degs k ++ []) (len k : Int) (by omega) (fun x hx => (hb x (by rw [hne]; simp at hx ⊢; exact .inr hx)).1)
    have en : nf 0 (tr k) = nf ((len k : Int).toNat + 1) (degs k ++ []) := by
      rw [hne]
      simp only [nf]
      congr 1
    refine Ev.bind e2 ?_
    rw [w64 (by omega), em, ← en]
    refine Ev.pos (by omega) (Ev.pos (by omega) ?_)
    rw [Int.toNat_natCast]
    have key : ∀ (xs : List Int) (i : Nat) (p : List Int), (tr k).drop i = xs → i + xs.length = (tr k).length → p ++ xs = tr k → p.length ≤ 24 →
        Ev (fun m => impl_CountsOfTree.l0 m (cnt p (nf 0 (tr k))) (tr k) (tr k).length i) (cntV k, 0) := by
      intro xs
      induction xs with
      | nil =>
        intro i p h hi hp _
        simp only [List.length_nil] at hi
        rw [List.append_nil] at hp
        subst hp
        refine Ev.step (fun k => by rw [impl_CountsOfTree.l0]) ?_
        refine Ev.neg (by omega) (Ev.now _)
      | cons x xs ih =>
        intro i p h hi hp hpl
        have hr := rd_drop h
        have hd := (drop_cons h).2.2
        have hx : x ∈ tr k := by rw [← hp]; simp
        have hx1 := hb x hx
        have hx2 := hnf x hx
        simp only [List.length_cons] at hi
        have hpl2 : p.length + xs.length + 1 = (tr k).length := by rw [← hp]; simp; omega
        obtain ⟨n, rfl⟩ : ∃ n : Nat, x = n := ⟨x.toNat, by omega⟩
        have hcl := cnt_length p (nf 0 (tr k))
        have hcs := cnt_set p (nf 0 (tr k)) n (by omega)
        have hcr := cnt_rd p (nf 0 (tr k)) n (by omega)
        have hcc := List.count_le_length (a := (n : Int)) (l := p)
        refine Ev.step (fun k => by rw [impl_CountsOfTree.l0]) ?_
        refine Ev.pos (by omega) (Ev.pos (by omega) (Ev.pos (by omega) ?_))
        rw [hr]
        refine Ev.pos (by omega) (Ev.pos (by omega) ?_)
        rw [w64 (x := rd _ _ + 1) (by rw [hcr]; omega), w64 (by omega), Int.toNat_natCast, hcs]
        exact ih (i + 1) (p ++ [(n : Int)]) hd (by omega) (by rw [← hp]; simp) (by simp; omega)
    have h0 : List.replicate (nf 0 (tr k)) (0 : Int) = cnt [] (nf 0 (tr k)) := by
      refine List.ext_getElem (by simp [cnt]) (fun j h1 h2 => by simp [cnt])
    rw [h0]
    exact key (tr k) 0 [] rfl (by omega) rfl (by simp)
theorem laws_markTree_ev (xs : List Int) (a : Int) (ha : 0 ≤ a) (hm : a + (xs.length : Int) ≤ 1000000000000000000) :
    Ev (fun k => laws_markTree.f k xs a) (a + xs.length, marks a xs.length) := by
  unfold laws_markTree.f
  exact Ev.bind (laws_markInt64S_ev xs a ha hm) (Ev.now _)
theorem FnExactCountsOfTree : ∀ (l : List Int), l.length ≤ maxLen → (∀ x ∈ l, (Lit.int .i64 x).wf = true) → ∃ k, laws_FnExactCountsOfTree.f k l = some true := by
  intro l h1 _
  unfold maxLen at h1
  apply Ev.rounds
  unfold laws_FnExactCountsOfTree.f
  simp only [laws_szTree_ev l 1048576 h1 (by omega), Option.bind_some]
  by_cases c : (1048576 : Int) < l.length
  · rw [if_pos c]
    exact Ev.pos (by omega) (Ev.now _)
  · rw [if_neg c]
    have hl : l.length ≤ 1048576 := by omega
    have e1 := laws_toTree_ev l hl
    obtain ⟨R, hR⟩ := treeR_ex cntV [] l
    have e2 := spec_CountsOfTree_ev l h1 hR
    have e3 := impl_CountsOfTree_ev l h1 hR
    have e4 := laws_eqTree_ev l (by omega)
    have hb := treeR_len hR cntV_length
    have e5 := laws_markTree_ev l 1 (by omega) (by omega)
    have e6 := laws_eqInt64S_ev R.1 (by omega)
    have e7 := laws_markInt64S_ev R.1 1 (by omega) (by omega)
    have e8 := laws_heldInt64S_ev R.1.length 1 (by omega) (by omega)
    refine Ev.neg (by omega) ?_
    repeat' (first
      | exact Ev.now _
      | (with_reducible refine Ev.bind e1 ?_; try dsimp only)
      | (with_reducible refine Ev.bind e2 ?_; try dsimp only)
      | (with_reducible refine Ev.bind e3 ?_; try dsimp only)
      | (with_reducible refine Ev.bind e4 ?_; try dsimp only)
      | (with_reducible refine Ev.bind e5 ?_; try dsimp only)
      | (with_reducible refine Ev.bind e6 ?_; try dsimp only)
      | (with_reducible refine Ev.bind e7 ?_; try dsimp only)
      | (with_reducible refine Ev.bind e8 ?_; try dsimp only)
      | ((with_reducible apply Ev.pos); (solve | rfl | trivial | omega))
      | ((with_reducible apply Ev.neg); (solve | omega | simp))
      | (apply Ev.succ; simp only [laws_FnExactCountsOfTree.j0, laws_FnExactCountsOfTree.j1, laws_FnExactCountsOfTree.j2]))

end Go.Proofs.Ytjpmichlhagbcaa.Pure
