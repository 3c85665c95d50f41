/- The pure statement of the law FnExactSubtreeAt is proved. Conditions: those of the statement alone. -/
import Derived.Test.YtfffobnjdaogaaaQFnExactSubtreeAtx5
import Derived.Test.YtfffobnjdaogaaaBase
import Derived.Test.YtfffobnjdaogaaaBase2
import Derived.Test.YtfffobnjdaogaaaBin
import Derived.Test.YtfffobnjdaogaaaBase3
import Derived.Test.YtfffobnjdaogaaaBase4
import Derived.Test.YtfffobnjdaogaaaBase5
import Derived.Test.YtfffobnjdaogaaaBase6
import Derived.Test.YtfffobnjdaogaaaBin2
import Derived.Test.YtfffobnjdaogaaaNum
namespace Go.Proofs.Ytfffobnjdaogaaa.Pure
open Go.RowKit Go.Proofs.Ytfffobnjdaogaaa.QFnExactSubtreeAt Go.Proofs.Ytfffobnjdaogaaa.Base Go.Proofs.YtfffobnjdaogaaaW.PrintWords Go.Proofs.YtfffobnjdaogaaaW.PrintLast Go.Proofs.YtfffobnjdaogaaaW.PrintMore
open Go.Proofs.Ytfffobnjdaogaaa.Base.F
set_option linter.unusedVariables false
set_option linter.unusedSimpArgs false

theorem laws_szInt64S_ev (xs : List Int) (a : Int) (hm : xs.length ≤ 9223372036854775807) (ha : 0 ≤ a ∧ a ≤ 1048576) :
    laws_szInt64S.f xs a = some (if a < xs.length then -1 else a - xs.length) := by
  unfold laws_szInt64S.f
  rw [w64 (by omega)]
  by_cases c : a < xs.length
  · rw [if_pos (by omega), if_pos c]
  · rw [if_neg (by omega), if_neg c]
theorem laws_szTree_ev (xs : List Int) (a : Int) (hm : xs.length ≤ 9223372036854775807) (ha : 0 ≤ a ∧ a ≤ 1048576) :
    laws_szTree.f xs a = some (if a < xs.length then -1 else a - xs.length) := by
  unfold laws_szTree.f
  rw [laws_szInt64S_ev xs a hm ha]
  by_cases c : a < xs.length
  · simp only [if_pos c, Option.bind_some]; rfl
  · simp only [if_neg c, Option.bind_some]
    rw [if_neg (by omega)]
theorem laws_toInt64S_ev (xs : List Int) (hm : xs.length ≤ 1048576) : Ev (fun k => laws_toInt64S.f k xs) xs := by
  have key : ∀ (d i : Nat) (ys : List Int), i + d = xs.length → ys.length = xs.length → ys.take i = xs.take i →
      Ev (fun k => laws_toInt64S.l0 k xs ys i) xs := by
    intro d
    induction d with
    | zero =>
      intro i ys h hl ht
      apply Ev.succ
      simp (disch := omega) only [laws_toInt64S.l0, if_pos, if_neg]
      refine Ev.some ?_
      rw [List.take_of_length_le (by omega), List.take_of_length_le (by omega)] at ht
      exact ht
    | succ d ih =>
      intro i ys h hl ht
      apply Ev.succ
      simp (disch := omega) only [laws_toInt64S.l0, if_pos, if_neg, w64]
      exact ih (i + 1) (ys.set i (rd xs i)) (by omega) (by rw [List.length_set, hl]) (by rw [take_set_succ _ _ _ (by omega), ht, take_rd_succ _ _ (by omega)])
  unfold laws_toInt64S.f
  refine Ev.pos (by omega) (Ev.pos (by omega) ?_)
  exact key xs.length 0 _ (by omega) (by rw [List.length_replicate]; omega) (by simp)
theorem laws_toTree_ev (xs : List Int) (hm : xs.length ≤ 1048576) : Ev (fun k => laws_toTree.f k xs) xs := by
  unfold laws_toTree.f
  exact Ev.bind (laws_toInt64S_ev xs hm) (Ev.now _)
theorem laws_eqInt64S_ev (xs : List Int) (hm : xs.length ≤ 140737488351232) : Ev (fun k => laws_eqInt64S.f k xs xs) true := by
  have key : ∀ (d i : Nat), i + d = xs.length → Ev (fun k => laws_eqInt64S.l0 k xs xs i) true := by
    intro d
    induction d with
    | zero =>
      intro i h
      apply Ev.succ
      simp (disch := omega) only [laws_eqInt64S.l0, if_pos, if_neg]
      exact Ev.now _
    | succ d ih =>
      intro i h
      apply Ev.succ
      simp (disch := omega) only [laws_eqInt64S.l0, if_pos, if_neg, w64]
      exact ih (i + 1) (by omega)
  unfold laws_eqInt64S.f
  exact Ev.pos rfl (key xs.length 0 (by omega))
theorem laws_eqTree_ev (xs : List Int) (hm : xs.length ≤ 140737488351232) : Ev (fun k => laws_eqTree.f k xs xs) true := by
  unfold laws_eqTree.f
  exact Ev.bind (laws_eqInt64S_ev xs hm) (Ev.now _)
theorem laws_markInt64S_ev (xs : List Int) (a : Int) (ha : 0 ≤ a) (hm : a + (xs.length : Int) ≤ 1000000000000000000) :
    Ev (fun k => laws_markInt64S.f k xs a) (a + xs.length, marks a xs.length) := by
  have key : ∀ (d i : Nat) (ys : List Int), i + d = xs.length → ys.length = xs.length → ys.take i = marks a i →
      Ev (fun k => laws_markInt64S.l0 k ys (a + i) i) (a + xs.length, marks a xs.length) := by
    intro d
    induction d with
    | zero =>
      intro i ys h hl ht
      apply Ev.succ
      simp (disch := omega) only [laws_markInt64S.l0, if_pos, if_neg]
      refine Ev.some ?_
      rw [show i = xs.length by omega] at ht ⊢
      rw [← ht, List.take_of_length_le (by omega)]
    | succ d ih =>
      intro i ys h hl ht
      apply Ev.succ
      simp (disch := omega) only [laws_markInt64S.l0, if_pos, if_neg, w64]
      have := ih (i + 1) (ys.set i (a + i)) (by omega) (by rw [List.length_set, hl]) (by rw [marks_succ, ← ht, take_set_succ _ _ _ (by omega)])
      rw [show a + ((i + 1 : Nat) : Int) = a + i + 1 by omega] at this
      exact this
  unfold laws_markInt64S.f
  have := key xs.length 0 xs (by omega) rfl (by simp [marks])
  simpa using this
theorem laws_markTree_ev (xs : List Int) (a : Int) (ha : 0 ≤ a) (hm : a + (xs.length : Int) ≤ 1000000000000000000) :
    Ev (fun k => laws_markTree.f k xs a) (a + xs.length, marks a xs.length) := by
  unfold laws_markTree.f
  exact Ev.bind (laws_markInt64S_ev xs a ha hm) (Ev.now _)
theorem laws_heldInt64S_ev (n : Nat) (a : Int) (ha : 0 ≤ a) (hm : a + (n : Int) ≤ 1000000000000000000) :
    Ev (fun k => laws_heldInt64S.f k (marks a n) a) (a + n) := by
  have key : ∀ (d i : Nat), i + d = n → Ev (fun k => laws_heldInt64S.l0 k (marks a n) (a + i) i) (a + n) := by
    intro d
    induction d with
    | zero =>
      intro i h
      have hl := marks_length a n
      apply Ev.succ
      simp (disch := omega) only [laws_heldInt64S.l0, if_pos, if_neg]
      refine Ev.some ?_
      omega
    | succ d ih =>
      intro i h
      have hl := marks_length a n
      have hr := rd_marks a n i (by omega)
      apply Ev.succ
      simp (disch := omega) only [laws_heldInt64S.l0, if_pos, if_neg, w64, hr]
      have := ih (i + 1) (by omega)
      rw [show a + ((i + 1 : Nat) : Int) = a + i + 1 by omega] at this
      exact this
  unfold laws_heldInt64S.f
  simpa using key n 0 (by omega)
theorem laws_heldTree_ev (n : Nat) (a : Int) (ha : 0 ≤ a) (hm : a + (n : Int) ≤ 1000000000000000000) :
    Ev (fun k => laws_heldTree.f k (marks a n) a) (a + n) := by
  unfold laws_heldTree.f
  exact Ev.bind (laws_heldInt64S_ev n a ha hm) (Ev.neg (by omega) (Ev.now _))
theorem spec_l01N_eq (d : List Int) : spec_l01N.f d = some (d.length : Int) := rfl
theorem spec_l01In_eq (a b c : Int) : spec_l01In.f a b c = some (decide (b ≤ a ∧ a ≤ c)) := by
  unfold spec_l01In.f
  by_cases h : a ≥ b
  · rw [if_pos h]
    congr 1
    rw [Bool.eq_iff_iff, decide_eq_true_eq, decide_eq_true_eq]
    omega
  · rw [if_neg h]
    congr 1
    rw [eq_comm, decide_eq_false_iff_not]
    omega
theorem spec_l01Is_ev (d : List Int) (hm : d.length ≤ 9223372036854775807) : Ev (fun k => spec_l01Is.f k d) (isT d) := by
  have key : ∀ (n i : Nat) (need : Int), i + n = d.length → d.length ≤ 24 → 0 ≤ need → need ≤ 1 + 24 * (i : Int) →
      Ev (fun k => spec_l01Is.l0 k need i d) (okT 25 (d.drop i) need) := by
    intro n
    induction n with
    | zero =>
      intro i need h h24 h0 h1
      apply Ev.succ
      simp (disch := omega) only [spec_l01Is.l0, if_pos, if_neg]
      rw [List.drop_eq_nil_of_le (by omega)]
      exact Ev.some (by simp only [okT]; rw [Bool.eq_iff_iff]; simp)
    | succ n ih =>
      intro i need h h24 h0 h1
      apply Ev.succ
      have hi : i < d.length := by omega
      have hr : rd d i = d[i] := by rw [rd_nat, List.getD_eq_getElem?_getD, List.getElem?_eq_getElem hi]; rfl
      simp (disch := omega) only [spec_l01Is.l0, if_pos, if_neg, spec_l01In_eq, Option.bind_some, decide_eq_true_eq, hr]
      rw [List.drop_eq_getElem_cons hi]
      simp only [okT]
      by_cases c0 : need = 0
      · rw [if_pos c0]; exact Ev.pos c0 (Ev.now _)
      · rw [if_neg c0]
        refine Ev.neg c0 ?_
        by_cases c1 : d[i] < 0
        · rw [if_pos c1]; exact Ev.neg (by omega) (Ev.now _)
        · rw [if_neg c1]
          by_cases c2 : d[i] ≥ 25
          · rw [if_pos c2]; exact Ev.neg (by omega) (Ev.now _)
          · rw [if_neg c2]
            refine Ev.pos (by omega) ?_
            rw [w64 (x := need - 1) (by omega), w64 (by omega), w64 (by omega), show need - 1 + d[i] = need + (d[i] - 1) by omega]
            exact ih (i + 1) _ (by omega) h24 (by omega) (by omega)
  unfold spec_l01Is.f
  simp only [spec_l01N_eq, Option.bind_some, spec_l01In_eq, decide_eq_true_eq]
  by_cases c : 1 ≤ (d.length : Int) ∧ (d.length : Int) ≤ 24
  · refine Ev.pos c ?_
    have := key d.length 0 1 (by omega) (by omega) (by omega) (by omega)
    rw [List.drop_zero, okT_25 d (by omega)] at this
    have e : isT d = okT 24 d 1 := by
      unfold isT
      rw [decide_eq_true (by omega : 1 ≤ d.length), decide_eq_true (by omega : d.length ≤ 24)]
      simp
    rw [e]
    exact this
  · refine Ev.neg c ?_
    refine Ev.some ?_
    rw [eq_comm, Bool.eq_false_iff]
    intro h
    have := isT_length h
    omega
theorem spec_l01Nodes_ev (d : List Int) (hd : d.length ≤ 9223372036854775807) (vs : List Int) (hv : vs.length ≤ 1000) : Ev (fun m => spec_l01Nodes.f m d vs) (codeN d vs) := by
  have key : ∀ (xs : List Int) (i : Nat), isT d = true → vs.drop i = xs → i + xs.length = vs.length → Ev (fun m => spec_l01Nodes.l0 m vs i d) (codeV d xs) := by
    intro xs
    induction xs with
    | nil =>
      intro i ht h hi
      simp only [List.length_nil] at hi
      apply Ev.succ
      simp (disch := omega) only [spec_l01Nodes.l0, if_neg, codeV]
      exact Ev.now _
    | cons x xs ih =>
      intro i ht h hi
      simp only [List.length_cons] at hi
      have hr := rd_drop h
      have hl := isT_length ht
      have hdr := (drop_cons h).2.2
      apply Ev.succ
      simp (disch := omega) only [spec_l01Nodes.l0, if_pos, spec_l01N_eq, Option.bind_some, spec_l01In_eq, hr, w64, decide_eq_true_eq, codeV]
      by_cases c : 0 ≤ x ∧ x ≤ (d.length : Int) - 1
      · rw [if_pos (by omega)]
        exact Ev.pos c (ih (i + 1) ht hdr (by omega))
      · rw [if_neg (by omega)]
        exact Ev.neg c (Ev.now _)
  unfold spec_l01Nodes.f codeN
  refine Ev.bind (spec_l01Is_ev d hd) ?_
  cases h : isT d with
  | true => exact Ev.pos rfl (key vs 0 h rfl (by omega))
  | false => exact Ev.neg (by simp) (Ev.now _)
theorem spec_l01End_at (d : List Int) (hd : d.length ≤ 24) : ∀ (n : Nat) (f : F) (a : Nat), sz f = n → At d a f → Ev (fun m => spec_l01End.l0 m a (len f) d) ((a + sz f : Nat) : Int) := by
  intro n
  induction n with
  | zero =>
    intro f a hf h
    cases f with
    | nil =>
      apply Ev.succ
      simp (disch := omega) only [spec_l01End.l0, if_neg, len]
      exact Ev.some (by simp [sz])
    | cons k r => simp only [sz] at hf; omega
  | succ n ih =>
    intro f a hf h
    cases f with
    | nil => simp [sz] at hf
    | cons k r =>
      obtain ⟨h1, h2, _, _⟩ := h.step
      have h3 := h.app
      have hb := h.1
      have hl := len_le_sz k
      have hl2 := len_le_sz r
      simp only [sz] at hf hb
      have e := ih (app k r) (a + 1) (by rw [sz_app]; omega) h3
      rw [len_app, sz_app] at e
      apply Ev.succ
      simp (disch := omega) only [spec_l01End.l0, if_pos, len, h2, w64]
      rw [show ((1 + len r : Nat) : Int) - 1 + (len k : Int) = ((len k + len r : Nat) : Int) by omega, show (a : Int) + 1 = ((a + 1 : Nat) : Int) by omega]
      simp only [sz]
      rw [show a + (1 + sz k + sz r) = a + 1 + (sz k + sz r) by omega]
      exact e
theorem spec_l01End_ev (d : List Int) (hd : d.length ≤ 24) {a : Nat} {k r : F} (h : At d a (cons k r)) : Ev (fun m => spec_l01End.f m d a) ((a + 1 + sz k : Nat) : Int) := by
  have e := spec_l01End_at d hd _ (cons k nil) a rfl h.one
  simp only [len, sz] at e
  rw [show a + (1 + sz k + 0) = a + 1 + sz k by omega] at e
  unfold spec_l01End.f
  exact e
theorem spec_l01Own_eq (l : List Int) (h : l.length ≤ 1000) : spec_l01Own.f l = some l := by
  unfold spec_l01Own.f
  simp only [Option.bind_some]
  rw [if_pos (by simp; omega)]
  rfl
theorem spec_l01Make_eq (l : List Int) (h : l.length ≤ 1000) : spec_l01Make.f l = some l := by
  unfold spec_l01Make.f
  rw [spec_l01Own_eq l h]
  rfl
theorem spec_l01Subtree_ev (d : List Int) (hd : d.length ≤ 24) {a : Nat} {k r : F} (h : At d a (cons k r)) : Ev (fun m => spec_l01Subtree.f m d a) (tr k) := by
  have hb := h.1
  have hs := sub_slice h
  have hl := tr_length k
  simp only [sz] at hb
  unfold spec_l01Subtree.f
  refine Ev.bind (spec_l01End_ev d hd h) (Ev.pos (by omega) (Ev.pos (by omega) (Ev.pos (by omega) ?_)))
  rw [Int.toNat_natCast, Int.toNat_natCast, hs]
  exact Ev.bind (Ev.const (spec_l01Make_eq (tr k) (by omega))) (Ev.now _)
theorem spec_SubtreeAt_ev (d : List Int) (hd : d.length ≤ 9223372036854775807) (v : Int) {R} (h : nodeR subV [] d v R) : Ev (fun m => spec_SubtreeAt.f m d v) R := by
  have e := spec_l01Nodes_ev d hd [v] (by simp)
  rcases h with ⟨h, rfl⟩ | ⟨k, a, rfl, hk, rfl, ha, h, rfl⟩
  · unfold spec_SubtreeAt.f
    exact Ev.bind e (Ev.neg h (Ev.now _))
  · have hl := tr_length k
    have hat := st_At k a ha
    unfold spec_SubtreeAt.f
    refine Ev.bind e (Ev.pos h ?_)
    exact Ev.bind (spec_l01Subtree_ev (tr k) (by omega) hat) (Ev.now _)
theorem impl_isTree_ev (d : List Int) (hm : d.length ≤ 9223372036854775807) : Ev (fun k => impl_isTree.f k d) (isT d) := by
  have key : ∀ (n i : Nat) (need : Int), i + n = d.length → d.length ≤ 24 → 0 ≤ need → need ≤ 1 + 24 * (i : Int) →
      Ev (fun k => impl_isTree.l0 k need d d.length i) (okT 24 (d.drop i) need) := by
    intro n
    induction n with
    | zero =>
      intro i need h h24 h0 h1
      apply Ev.succ
      simp (disch := omega) only [impl_isTree.l0, if_pos, if_neg]
      rw [List.drop_eq_nil_of_le (by omega)]
      exact Ev.some (by simp only [okT]; rw [Bool.eq_iff_iff]; simp)
    | succ n ih =>
      intro i need h h24 h0 h1
      apply Ev.succ
      have hi : i < d.length := by omega
      have hr : rd d i = d[i] := by rw [rd_nat, List.getD_eq_getElem?_getD, List.getElem?_eq_getElem hi]; rfl
      simp (disch := omega) only [impl_isTree.l0, if_pos, if_neg, hr]
      rw [List.drop_eq_getElem_cons hi]
      simp only [okT]
      by_cases c0 : need = 0
      · rw [if_pos c0]; exact Ev.pos c0 (Ev.now _)
      · rw [if_neg c0]
        refine Ev.neg c0 ?_
        by_cases c1 : d[i] < 0
        · rw [if_pos c1]; exact Ev.pos c1 (Ev.now _)
        · rw [if_neg c1]
          refine Ev.neg c1 ?_
          by_cases c2 : d[i] ≥ 24
          · rw [if_pos c2]; exact Ev.pos c2 (Ev.now _)
          · rw [if_neg c2]
            refine Ev.neg c2 ?_
            rw [w64 (x := d[i] - 1) (by omega), w64 (by omega), w64 (by omega)]
            exact ih (i + 1) _ (by omega) h24 (by omega) (by omega)
  unfold impl_isTree.f
  by_cases c1 : (d.length : Int) < 1
  · refine Ev.pos c1 (Ev.succ ?_)
    simp only [impl_isTree.j0, if_true]
    refine Ev.some ?_
    rw [eq_comm, Bool.eq_false_iff]
    intro h
    have := isT_length h
    omega
  · refine Ev.neg c1 (Ev.succ ?_)
    simp only [impl_isTree.j0, decide_eq_true_eq]
    by_cases c : (d.length : Int) > 24
    · refine Ev.pos c (Ev.some ?_)
      rw [eq_comm, Bool.eq_false_iff]
      intro h
      have := isT_length h
      omega
    · refine Ev.neg c ?_
      have := key d.length 0 1 (by omega) (by omega) (by omega) (by omega)
      rw [List.drop_zero] at this
      have e : isT d = okT 24 d 1 := by
        unfold isT
        rw [decide_eq_true (by omega : 1 ≤ d.length), decide_eq_true (by omega : d.length ≤ 24)]
        simp
      rw [e]
      exact this
theorem impl_IsTree_ev (d : List Int) (hm : d.length ≤ 9223372036854775807) : Ev (fun k => impl_IsTree.f k d) (isT d) := by
  unfold impl_IsTree.f
  exact Ev.bind (impl_isTree_ev d hm) (Ev.now _)
theorem impl_treeCode_ev (d : List Int) (hd : d.length ≤ 9223372036854775807) (vs : List Int) (hv : vs.length ≤ 1000) : Ev (fun m => impl_treeCode.f m d vs) (codeN d vs) := by
  have key : ∀ (xs : List Int) (i : Nat), isT d = true → vs.drop i = xs → i + xs.length = vs.length → Ev (fun m => impl_treeCode.l0 m vs vs.length i d) (codeV d xs) := by
    intro xs
    induction xs with
    | nil =>
      intro i ht h hi
      simp only [List.length_nil] at hi
      apply Ev.succ
      simp (disch := omega) only [impl_treeCode.l0, if_neg, codeV]
      exact Ev.now _
    | cons x xs ih =>
      intro i ht h hi
      simp only [List.length_cons] at hi
      have hr := rd_drop h
      have hl := isT_length ht
      have hdr := (drop_cons h).2.2
      apply Ev.succ
      simp (disch := omega) only [impl_treeCode.l0, if_pos, hr, w64, codeV]
      by_cases c0 : x < 0
      · rw [if_neg (by omega)]
        exact Ev.pos c0 (Ev.now _)
      · refine Ev.neg c0 ?_
        by_cases c1 : x ≥ (d.length : Int)
        · rw [if_neg (by omega)]
          exact Ev.pos c1 (Ev.now _)
        · rw [if_pos (by omega)]
          exact Ev.neg c1 (ih (i + 1) ht hdr (by omega))
  unfold impl_treeCode.f codeN
  refine Ev.bind (impl_IsTree_ev d hd) ?_
  cases h : isT d with
  | true => exact Ev.pos rfl (key vs 0 h rfl (by omega))
  | false => exact Ev.neg (by simp) (Ev.now _)
theorem impl_endOf_at (d : List Int) (hd : d.length ≤ 24) : ∀ (n : Nat) (f : F) (a : Nat), sz f = n → At d a f → Ev (fun m => impl_endOf.l0 m d a (len f)) ((a + sz f : Nat) : Int) := by
  intro n
  induction n with
  | zero =>
    intro f a hf h
    cases f with
    | nil =>
      apply Ev.succ
      simp (disch := omega) only [impl_endOf.l0, if_neg, len]
      exact Ev.some (by simp [sz])
    | cons k r => simp only [sz] at hf; omega
  | succ n ih =>
    intro f a hf h
    cases f with
    | nil => simp [sz] at hf
    | cons k r =>
      obtain ⟨h1, h2, _, _⟩ := h.step
      have h3 := h.app
      have hb := h.1
      have hl := len_le_sz k
      have hl2 := len_le_sz r
      simp only [sz] at hf hb
      have e := ih (app k r) (a + 1) (by rw [sz_app]; omega) h3
      rw [len_app, sz_app] at e
      apply Ev.succ
      simp (disch := omega) only [impl_endOf.l0, if_pos, len, h2, w64]
      rw [show ((1 + len r : Nat) : Int) + ((len k : Int) - 1) = ((len k + len r : Nat) : Int) by omega, show (a : Int) + 1 = ((a + 1 : Nat) : Int) by omega]
      simp only [sz]
      rw [show a + (1 + sz k + sz r) = a + 1 + (sz k + sz r) by omega]
      exact e
theorem impl_endOf_ev (d : List Int) (hd : d.length ≤ 24) {a : Nat} {k r : F} (h : At d a (cons k r)) : Ev (fun m => impl_endOf.f m d a) ((a + 1 + sz k : Nat) : Int) := by
  have e := impl_endOf_at d hd _ (cons k nil) a rfl h.one
  simp only [len, sz] at e
  rw [show a + (1 + sz k + 0) = a + 1 + sz k by omega] at e
  unfold impl_endOf.f
  exact e
theorem slices_Clone_int64_int64_eq (l : List Int) (h : 0 < l.length) (h' : l.length ≤ 1000000) : slices_Clone_int64_int64.f l = some l := by
  unfold slices_Clone_int64_int64.f
  rw [if_pos h, if_pos h']
theorem impl_subtree_ev (d : List Int) (hd : d.length ≤ 24) {a : Nat} {k r : F} (h : At d a (cons k r)) : Ev (fun m => impl_subtree.f m d a) (tr k) := by
  have hb := h.1
  have hs := sub_slice h
  have hl := tr_length k
  simp only [sz] at hb
  unfold impl_subtree.f
  refine Ev.bind (impl_endOf_ev d hd h) (Ev.pos (by omega) (Ev.pos (by omega) (Ev.pos (by omega) ?_)))
  rw [Int.toNat_natCast, Int.toNat_natCast, hs]
  exact Ev.bind (Ev.const (slices_Clone_int64_int64_eq (tr k) (by omega) (by omega))) (Ev.now _)
theorem impl_SubtreeAt_ev (d : List Int) (hd : d.length ≤ 9223372036854775807) (v : Int) {R} (h : nodeR subV [] d v R) : Ev (fun m => impl_SubtreeAt.f m d v) R := by
  have e := impl_treeCode_ev d hd [v] (by simp)
  rcases h with ⟨h, rfl⟩ | ⟨k, a, rfl, hk, rfl, ha, h, rfl⟩
  · unfold impl_SubtreeAt.f
    exact Ev.bind e (Ev.neg h (Ev.now _))
  · have hl := tr_length k
    have hat := st_At k a ha
    unfold impl_SubtreeAt.f
    refine Ev.bind e (Ev.pos h ?_)
    exact Ev.bind (impl_subtree_ev (tr k) (by omega) hat) (Ev.now _)
theorem FnExactSubtreeAt : ∀ (l : List Int) (v : Int), l.length ≤ maxLen → (∀ x ∈ l, (Lit.int .i64 x).wf = true) → (Lit.int .i64 v).wf = true → ∃ k, laws_FnExactSubtreeAt.f k l v = some true := by
  intro l v h1 _ _
  unfold maxLen at h1
  apply Ev.rounds
  unfold laws_FnExactSubtreeAt.f
  simp only [laws_szTree_ev l 1048576 h1 (by omega), Option.bind_some]
  by_cases c : (1048576 : Int) < l.length
  · rw [if_pos c]
    exact Ev.pos (by omega) (Ev.now _)
  · rw [if_neg c]
    have hl : l.length ≤ 1048576 := by omega
    have e1 := laws_toTree_ev l hl
    obtain ⟨R, hR⟩ := nodeR_ex subV [] l v
    have e2 := spec_SubtreeAt_ev l h1 v hR
    have e3 := impl_SubtreeAt_ev l h1 v hR
    have e4 := laws_eqTree_ev l (by omega)
    have hb := nodeR_len hR subV_length
    have e5 := laws_markTree_ev l 1 (by omega) (by omega)
    have e6 := laws_eqTree_ev R.1 (by omega)
    have e7 := laws_markTree_ev R.1 1 (by omega) (by omega)
    have e8 := laws_heldTree_ev R.1.length 1 (by omega) (by omega)
    refine Ev.neg (by omega) ?_
    repeat' (first
      | exact Ev.now _
      | (with_reducible refine Ev.bind e1 ?_; try dsimp only)
      | (with_reducible refine Ev.bind e2 ?_; try dsimp only)
      | (with_reducible refine Ev.bind e3 ?_; try dsimp only)
      | (with_reducible refine Ev.bind e4 ?_; try dsimp only)
      | (with_reducible refine Ev.bind e5 ?_; try dsimp only)
      | (with_reducible refine Ev.bind e6 ?_; try dsimp only)
      | (with_reducible refine Ev.bind e7 ?_; try dsimp only)
      | (with_reducible refine Ev.bind e8 ?_; try dsimp only)
      | ((with_reducible apply Ev.pos); (solve | rfl | trivial | omega))
      | ((with_reducible apply Ev.neg); (solve | omega | simp))
      | (apply Ev.succ; simp only [laws_FnExactSubtreeAt.j0, laws_FnExactSubtreeAt.j1, laws_FnExactSubtreeAt.j2]))

end Go.Proofs.Ytfffobnjdaogaaa.Pure
