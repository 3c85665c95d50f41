/- The pure statement of the law FnExactReplaceAt is proved. Conditions: those of the statement alone. -/
import Derived.Test.YtjecelgbfmpnaaaQFnExactReplaceAtx6
import Derived.Test.YtjecelgbfmpnaaaBase
import Derived.Test.YtjecelgbfmpnaaaBase2
import Derived.Test.YtjecelgbfmpnaaaBin
import Derived.Test.YtjecelgbfmpnaaaBase3
import Derived.Test.YtjecelgbfmpnaaaBase4
import Derived.Test.YtjecelgbfmpnaaaBase5
import Derived.Test.YtjecelgbfmpnaaaBase6
import Derived.Test.YtjecelgbfmpnaaaPar
import Derived.Test.YtjecelgbfmpnaaaPar2
import Derived.Test.YtjecelgbfmpnaaaRem
import Derived.Test.YtjecelgbfmpnaaaBin2
import Derived.Test.YtjecelgbfmpnaaaNum
namespace Go.Proofs.Ytjecelgbfmpnaaa.Pure
open Go.RowKit Go.Proofs.Ytjecelgbfmpnaaa.QFnExactReplaceAt Go.Proofs.Ytjecelgbfmpnaaa.Base Go.Proofs.YtjecelgbfmpnaaaW.PrintWords Go.Proofs.YtjecelgbfmpnaaaW.PrintLast Go.Proofs.YtjecelgbfmpnaaaW.PrintMore
open Go.Proofs.Ytjecelgbfmpnaaa.Base.F
set_option linter.unusedVariables false
set_option linter.unusedSimpArgs false

theorem laws_szInt64S_ev (xs : List Int) (a : Int) (hm : xs.length ≤ 9223372036854775807) (ha : 0 ≤ a ∧ a ≤ 1048576) :
    laws_szInt64S.f xs a = some (if a < xs.length then -1 else a - xs.length) := by
  unfold laws_szInt64S.f
  rw [w64 (by omega)]
  by_cases c : a < xs.length
  · rw [if_pos (by omega), if_pos c]
  · rw [if_neg (by omega), if_neg c]
theorem laws_szTree_ev (xs : List Int) (a : Int) (hm : xs.length ≤ 9223372036854775807) (ha : 0 ≤ a ∧ a ≤ 1048576) :
    laws_szTree.f xs a = some (if a < xs.length then -1 else a - xs.length) := by
  unfold laws_szTree.f
  rw [laws_szInt64S_ev xs a hm ha]
  by_cases c : a < xs.length
  · simp only [if_pos c, Option.bind_some]; rfl
  · simp only [if_neg c, Option.bind_some]
    rw [if_neg (by omega)]
theorem laws_toInt64S_ev (xs : List Int) (hm : xs.length ≤ 1048576) : Ev (fun k => laws_toInt64S.f k xs) xs := by
  have key : ∀ (d i : Nat) (ys : List Int), i + d = xs.length → ys.length = xs.length → ys.take i = xs.take i →
      Ev (fun k => laws_toInt64S.l0 k xs ys i) xs := by
    intro d
    induction d with
    | zero =>
      intro i ys h hl ht
      apply Ev.succ
      simp (disch := omega) only [laws_toInt64S.l0, if_pos, if_neg]
      refine Ev.some ?_
      rw [List.take_of_length_le (by omega), List.take_of_length_le (by omega)] at ht
      exact ht
    | succ d ih =>
      intro i ys h hl ht
      apply Ev.succ
      simp (disch := omega) only [laws_toInt64S.l0, if_pos, if_neg, w64]
      exact ih (i + 1) (ys.set i (rd xs i)) (by omega) (by rw [List.length_set, hl]) (by rw [take_set_succ _ _ _ (by omega), ht, take_rd_succ _ _ (by omega)])
  unfold laws_toInt64S.f
  refine Ev.pos (by omega) (Ev.pos (by omega) ?_)
  exact key xs.length 0 _ (by omega) (by rw [List.length_replicate]; omega) (by simp)
theorem laws_toTree_ev (xs : List Int) (hm : xs.length ≤ 1048576) : Ev (fun k => laws_toTree.f k xs) xs := by
  unfold laws_toTree.f
  exact Ev.bind (laws_toInt64S_ev xs hm) (Ev.now _)
theorem laws_eqInt64S_ev (xs : List Int) (hm : xs.length ≤ 140737488351232) : Ev (fun k => laws_eqInt64S.f k xs xs) true := by
  have key : ∀ (d i : Nat), i + d = xs.length → Ev (fun k => laws_eqInt64S.l0 k xs xs i) true := by
    intro d
    induction d with
    | zero =>
      intro i h
      apply Ev.succ
      simp (disch := omega) only [laws_eqInt64S.l0, if_pos, if_neg]
      exact Ev.now _
    | succ d ih =>
      intro i h
      apply Ev.succ
      simp (disch := omega) only [laws_eqInt64S.l0, if_pos, if_neg, w64]
      exact ih (i + 1) (by omega)
  unfold laws_eqInt64S.f
  exact Ev.pos rfl (key xs.length 0 (by omega))
theorem laws_eqTree_ev (xs : List Int) (hm : xs.length ≤ 140737488351232) : Ev (fun k => laws_eqTree.f k xs xs) true := by
  unfold laws_eqTree.f
  exact Ev.bind (laws_eqInt64S_ev xs hm) (Ev.now _)
theorem laws_markInt64S_ev (xs : List Int) (a : Int) (ha : 0 ≤ a) (hm : a + (xs.length : Int) ≤ 1000000000000000000) :
    Ev (fun k => laws_markInt64S.f k xs a) (a + xs.length, marks a xs.length) := by
  have key : ∀ (d i : Nat) (ys : List Int), i + d = xs.length → ys.length = xs.length → ys.take i = marks a i →
      Ev (fun k => laws_markInt64S.l0 k ys (a + i) i) (a + xs.length, marks a xs.length) := by
    intro d
    induction d with
    | zero =>
      intro i ys h hl ht
      apply Ev.succ
      simp (disch := omega) only [laws_markInt64S.l0, if_pos, if_neg]
      refine Ev.some ?_
      rw [show i = xs.length by omega] at ht ⊢
      rw [← ht, List.take_of_length_le (by omega)]
    | succ d ih =>
      intro i ys h hl ht
      apply Ev.succ
      simp (disch := omega) only [laws_markInt64S.l0, if_pos, if_neg, w64]
      have := ih (i + 1) (ys.set i (a + i)) (by omega) (by rw [List.length_set, hl]) (by rw [marks_succ, ← ht, take_set_succ _ _ _ (by omega)])
      rw [show a + ((i + 1 : Nat) : Int) = a + i + 1 by omega] at this
      exact this
  unfold laws_markInt64S.f
  have := key xs.length 0 xs (by omega) rfl (by simp [marks])
  simpa using this
theorem laws_markTree_ev (xs : List Int) (a : Int) (ha : 0 ≤ a) (hm : a + (xs.length : Int) ≤ 1000000000000000000) :
    Ev (fun k => laws_markTree.f k xs a) (a + xs.length, marks a xs.length) := by
  unfold laws_markTree.f
  exact Ev.bind (laws_markInt64S_ev xs a ha hm) (Ev.now _)
theorem laws_heldInt64S_ev (n : Nat) (a : Int) (ha : 0 ≤ a) (hm : a + (n : Int) ≤ 1000000000000000000) :
    Ev (fun k => laws_heldInt64S.f k (marks a n) a) (a + n) := by
  have key : ∀ (d i : Nat), i + d = n → Ev (fun k => laws_heldInt64S.l0 k (marks a n) (a + i) i) (a + n) := by
    intro d
    induction d with
    | zero =>
      intro i h
      have hl := marks_length a n
      apply Ev.succ
      simp (disch := omega) only [laws_heldInt64S.l0, if_pos, if_neg]
      refine Ev.some ?_
      omega
    | succ d ih =>
      intro i h
      have hl := marks_length a n
      have hr := rd_marks a n i (by omega)
      apply Ev.succ
      simp (disch := omega) only [laws_heldInt64S.l0, if_pos, if_neg, w64, hr]
      have := ih (i + 1) (by omega)
      rw [show a + ((i + 1 : Nat) : Int) = a + i + 1 by omega] at this
      exact this
  unfold laws_heldInt64S.f
  simpa using key n 0 (by omega)
theorem laws_heldTree_ev (n : Nat) (a : Int) (ha : 0 ≤ a) (hm : a + (n : Int) ≤ 1000000000000000000) :
    Ev (fun k => laws_heldTree.f k (marks a n) a) (a + n) := by
  unfold laws_heldTree.f
  exact Ev.bind (laws_heldInt64S_ev n a ha hm) (Ev.neg (by omega) (Ev.now _))
theorem spec_l01In_eq (a b c : Int) : spec_l01In.f a b c = some (decide (b ≤ a ∧ a ≤ c)) := by
  unfold spec_l01In.f
  by_cases h : a ≥ b
  · rw [if_pos h]
    congr 1
    rw [Bool.eq_iff_iff, decide_eq_true_eq, decide_eq_true_eq]
    omega
  · rw [if_neg h]
    congr 1
    rw [eq_comm, decide_eq_false_iff_not]
    omega
theorem spec_l01N_eq (d : List Int) : spec_l01N.f d = some (d.length : Int) := rfl
theorem spec_l01Is_ev (d : List Int) (hm : d.length ≤ 9223372036854775807) : Ev (fun k => spec_l01Is.f k d) (isT d) := by
  have key : ∀ (n i : Nat) (need : Int), i + n = d.length → d.length ≤ 24 → 0 ≤ need → need ≤ 1 + 24 * (i : Int) →
      Ev (fun k => spec_l01Is.l0 k need i d) (okT 25 (d.drop i) need) := by
    intro n
    induction n with
    | zero =>
      intro i need h h24 h0 h1
      apply Ev.succ
      simp (disch := omega) only [spec_l01Is.l0, if_pos, if_neg]
      rw [List.drop_eq_nil_of_le (by omega)]
      exact Ev.some (by simp only [okT]; rw [Bool.eq_iff_iff]; simp)
    | succ n ih =>
      intro i need h h24 h0 h1
      apply Ev.succ
      have hi : i < d.length := by omega
      have hr : rd d i = d[i] := by rw [rd_nat, List.getD_eq_getElem?_getD, List.getElem?_eq_getElem hi]; rfl
      simp (disch := omega) only [spec_l01Is.l0, if_pos, if_neg, spec_l01In_eq, Option.bind_some, decide_eq_true_eq, hr]
      rw [List.drop_eq_getElem_cons hi]
      simp only [okT]
      by_cases c0 : need = 0
      · rw [if_pos c0]; exact Ev.pos c0 (Ev.now _)
      · rw [if_neg c0]
        refine Ev.neg c0 ?_
        by_cases c1 : d[i] < 0
        · rw [if_pos c1]; exact Ev.neg (by omega) (Ev.now _)
        · rw [if_neg c1]
          by_cases c2 : d[i] ≥ 25
          · rw [if_pos c2]; exact Ev.neg (by omega) (Ev.now _)
          · rw [if_neg c2]
            refine Ev.pos (by omega) ?_
            rw [w64 (x := need - 1) (by omega), w64 (by omega), w64 (by omega), show need - 1 + d[i] = need + (d[i] - 1) by omega]
            exact ih (i + 1) _ (by omega) h24 (by omega) (by omega)
  unfold spec_l01Is.f
  simp only [spec_l01N_eq, Option.bind_some, spec_l01In_eq, decide_eq_true_eq]
  by_cases c : 1 ≤ (d.length : Int) ∧ (d.length : Int) ≤ 24
  · refine Ev.pos c ?_
    have := key d.length 0 1 (by omega) (by omega) (by omega) (by omega)
    rw [List.drop_zero, okT_25 d (by omega)] at this
    have e : isT d = okT 24 d 1 := by
      unfold isT
      rw [decide_eq_true (by omega : 1 ≤ d.length), decide_eq_true (by omega : d.length ≤ 24)]
      simp
    rw [e]
    exact this
  · refine Ev.neg c ?_
    refine Ev.some ?_
    rw [eq_comm, Bool.eq_false_iff]
    intro h
    have := isT_length h
    omega
theorem spec_l01Nodes_ev (d : List Int) (hd : d.length ≤ 9223372036854775807) (vs : List Int) (hv : vs.length ≤ 1000) : Ev (fun m => spec_l01Nodes.f m d vs) (codeN d vs) := by
  have key : ∀ (xs : List Int) (i : Nat), isT d = true → vs.drop i = xs → i + xs.length = vs.length → Ev (fun m => spec_l01Nodes.l0 m vs i d) (codeV d xs) := by
    intro xs
    induction xs with
    | nil =>
      intro i ht h hi
      simp only [List.length_nil] at hi
      apply Ev.succ
      simp (disch := omega) only [spec_l01Nodes.l0, if_neg, codeV]
      exact Ev.now _
    | cons x xs ih =>
      intro i ht h hi
      simp only [List.length_cons] at hi
      have hr := rd_drop h
      have hl := isT_length ht
      have hdr := (drop_cons h).2.2
      apply Ev.succ
      simp (disch := omega) only [spec_l01Nodes.l0, if_pos, spec_l01N_eq, Option.bind_some, spec_l01In_eq, hr, w64, decide_eq_true_eq, codeV]
      by_cases c : 0 ≤ x ∧ x ≤ (d.length : Int) - 1
      · rw [if_pos (by omega)]
        exact Ev.pos c (ih (i + 1) ht hdr (by omega))
      · rw [if_neg (by omega)]
        exact Ev.neg c (Ev.now _)
  unfold spec_l01Nodes.f codeN
  refine Ev.bind (spec_l01Is_ev d hd) ?_
  cases h : isT d with
  | true => exact Ev.pos rfl (key vs 0 h rfl (by omega))
  | false => exact Ev.neg (by simp) (Ev.now _)
theorem spec_l01End_at (d : List Int) (hd : d.length ≤ 24) : ∀ (n : Nat) (f : F) (a : Nat), sz f = n → At d a f → Ev (fun m => spec_l01End.l0 m a (len f) d) ((a + sz f : Nat) : Int) := by
  intro n
  induction n with
  | zero =>
    intro f a hf h
    cases f with
    | nil =>
      apply Ev.succ
      simp (disch := omega) only [spec_l01End.l0, if_neg, len]
      exact Ev.some (by simp [sz])
    | cons k r => simp only [sz] at hf; omega
  | succ n ih =>
    intro f a hf h
    cases f with
    | nil => simp [sz] at hf
    | cons k r =>
      obtain ⟨h1, h2, _, _⟩ := h.step
      have h3 := h.app
      have hb := h.1
      have hl := len_le_sz k
      have hl2 := len_le_sz r
      simp only [sz] at hf hb
      have e := ih (app k r) (a + 1) (by rw [sz_app]; omega) h3
      rw [len_app, sz_app] at e
      apply Ev.succ
      simp (disch := omega) only [spec_l01End.l0, if_pos, len, h2, w64]
      rw [show ((1 + len r : Nat) : Int) - 1 + (len k : Int) = ((len k + len r : Nat) : Int) by omega, show (a : Int) + 1 = ((a + 1 : Nat) : Int) by omega]
      simp only [sz]
      rw [show a + (1 + sz k + sz r) = a + 1 + (sz k + sz r) by omega]
      exact e
theorem spec_l01End_ev (d : List Int) (hd : d.length ≤ 24) {a : Nat} {k r : F} (h : At d a (cons k r)) : Ev (fun m => spec_l01End.f m d a) ((a + 1 + sz k : Nat) : Int) := by
  have e := spec_l01End_at d hd _ (cons k nil) a rfl h.one
  simp only [len, sz] at e
  rw [show a + (1 + sz k + 0) = a + 1 + sz k by omega] at e
  unfold spec_l01End.f
  exact e
theorem spec_l01Own_eq (l : List Int) (h : l.length ≤ 1000) : spec_l01Own.f l = some l := by
  unfold spec_l01Own.f
  simp only [Option.bind_some]
  rw [if_pos (by simp; omega)]
  rfl
theorem codeN_no {d vs : List Int} (h : isT d = false) : codeN d vs = 1 := by
  unfold codeN
  rw [if_neg (by simp [h])]
/-- the tree k with u in the place of the subtree of a node -/
def repB (k : F) (a : Nat) (u : List Int) : List Int := (tr k).take a ++ u ++ (tr k).drop (a + 1 + sz (st k a))
/-- the answer about a node and a tree that is put there -/
def repR (d : List Int) (v : Int) (u : List Int) (R : List Int × Int) : Prop :=
  (isT u = false ∧ R = ([], 1)) ∨ (isT u = true ∧ codeN d [v] ≠ 0 ∧ R = ([], codeN d [v])) ∨
    ∃ k, ∃ a : Nat, d = tr k ∧ sz k ≤ 23 ∧ v = a ∧ a ≤ sz k ∧ codeN d [v] = 0 ∧ isT u = true ∧ isT d = true ∧ R = if (repB k a u).length > 24 then ([], 3) else (repB k a u, 0)
theorem repR_ex (d : List Int) (v : Int) (u : List Int) : ∃ R, repR d v u R := by
  cases h : isT u with
  | false => exact ⟨_, .inl ⟨h, rfl⟩⟩
  | true =>
    rcases codeN_one (d := d) (v := v) with h2 | ⟨k, a, h1, h2, h3, h4, h5⟩
    · exact ⟨_, .inr (.inl ⟨h, h2, rfl⟩)⟩
    · have hd : isT d = true := by
        cases hd : isT d with
        | true => rfl
        | false => rw [codeN_no hd] at h5; cases h5
      exact ⟨_, .inr (.inr ⟨k, a, h1, h2, h3, h4, h5, h, hd, rfl⟩)⟩
theorem repR_len {d : List Int} {v : Int} {u : List Int} {R : List Int × Int} (h : repR d v u R) : R.1.length ≤ 1000 := by
  rcases h with ⟨_, rfl⟩ | ⟨_, _, rfl⟩ | ⟨k, a, _, _, _, _, _, _, _, rfl⟩
  · simp
  · simp
  · by_cases c : (repB k a u).length > 24
    · rw [if_pos c]; simp
    · rw [if_neg c]; show (repB k a u).length ≤ 1000; omega
theorem repB_length (k : F) (a : Nat) (u : List Int) (ha : a ≤ sz k) (hu : u.length ≤ 24) : (repB k a u).length ≤ sz k + 25 := by
  have hl := tr_length k
  unfold repB
  rw [List.length_append, List.length_append, List.length_take, List.length_drop]
  omega
theorem spec_l01Replace_ev (k : F) (hk : sz k ≤ 23) (a : Nat) (ha : a ≤ sz k) (u : List Int) (hu : u.length ≤ 24) :
    Ev (fun m => spec_l01Replace.f m (tr k) (a : Int) u) (if (repB k a u).length > 24 then ([], false) else (repB k a u, true)) := by
  have hl := tr_length k
  have hs := sub_small k a ha
  have e2 := spec_l01End_ev (tr k) (by omega) (st_At k a ha)
  have hb := repB_length k a u ha hu
  unfold repB at hb
  unfold spec_l01Replace.f
  refine Ev.pos (by omega) (Ev.pos (by omega) ?_)
  rw [Int.toNat_natCast]
  refine Ev.bind (Ev.const (spec_l01Own_eq _ (by rw [List.length_take]; omega))) (Ev.pos (by rw [List.length_take]; omega) ?_)
  simp only [Option.bind_some]
  refine Ev.bind e2 (Ev.pos (by omega) (Ev.pos (by omega) ?_))
  rw [Int.toNat_natCast]
  refine Ev.pos (by rw [← List.length_append]; omega) ?_
  unfold repB
  by_cases c : ((tr k).take a ++ u ++ (tr k).drop (a + 1 + sz (st k a))).length > 24
  · rw [if_pos c]
    exact Ev.pos (by omega) (Ev.now _)
  · rw [if_neg c]
    exact Ev.neg (by omega) (Ev.now _)
theorem spec_ReplaceAt_ev (d : List Int) (hd : d.length ≤ 9223372036854775807) (v : Int) (u : List Int) (hu : u.length ≤ 9223372036854775807) {R} (h : repR d v u R) : Ev (fun m => spec_ReplaceAt.f m d v u) R := by
  have e := spec_l01Nodes_ev d hd [v] (by simp)
  have e' := spec_l01Is_ev u hu
  unfold spec_ReplaceAt.f
  refine Ev.bind e (Ev.bind e' ?_)
  rcases h with ⟨h, rfl⟩ | ⟨h, h2, rfl⟩ | ⟨k, a, rfl, hk, rfl, ha, h, h2, _, rfl⟩
  · refine Ev.neg (by simp [h]) ?_
    refine Ev.step (fun k => by rw [spec_ReplaceAt.j0]) ?_
    exact Ev.neg (by omega) (Ev.now _)
  · refine Ev.pos h ?_
    refine Ev.step (fun k => by rw [spec_ReplaceAt.j0]) ?_
    exact Ev.neg h2 (Ev.now _)
  · refine Ev.pos h2 ?_
    rw [h]
    refine Ev.step (fun k => by rw [spec_ReplaceAt.j0]) ?_
    refine Ev.pos rfl (Ev.bind (spec_l01Replace_ev k hk a ha u (isT_length h2).2) ?_)
    by_cases c : (repB k a u).length > 24
    · simp only [if_pos c]
      exact Ev.neg (by simp) (Ev.now _)
    · simp only [if_neg c]
      exact Ev.pos (by first | rfl | trivial) (Ev.now _)
theorem impl_isTree_ev (d : List Int) (hm : d.length ≤ 9223372036854775807) : Ev (fun k => impl_isTree.f k d) (isT d) := by
  have key : ∀ (n i : Nat) (need : Int), i + n = d.length → d.length ≤ 24 → 0 ≤ need → need ≤ 1 + 24 * (i : Int) →
      Ev (fun k => impl_isTree.l0 k need d d.length i) (okT 24 (d.drop i) need) := by
    intro n
    induction n with
    | zero =>
      intro i need h h24 h0 h1
      apply Ev.succ
      simp (disch := omega) only [impl_isTree.l0, if_pos, if_neg]
      rw [List.drop_eq_nil_of_le (by omega)]
      exact Ev.some (by simp only [okT]; rw [Bool.eq_iff_iff]; simp)
    | succ n ih =>
      intro i need h h24 h0 h1
      apply Ev.succ
      have hi : i < d.length := by omega
      have hr : rd d i = d[i] := by rw [rd_nat, List.getD_eq_getElem?_getD, List.getElem?_eq_getElem hi]; rfl
      simp (disch := omega) only [impl_isTree.l0, if_pos, if_neg, hr]
      rw [List.drop_eq_getElem_cons hi]
      simp only [okT]
      by_cases c0 : need = 0
      · rw [if_pos c0]; exact Ev.pos c0 (Ev.now _)
      · rw [if_neg c0]
        refine Ev.neg c0 ?_
        by_cases c1 : d[i] < 0
        · rw [if_pos c1]; exact Ev.pos c1 (Ev.now _)
        · rw [if_neg c1]
          refine Ev.neg c1 ?_
          by_cases c2 : d[i] ≥ 24
          · rw [if_pos c2]; exact Ev.pos c2 (Ev.now _)
          · rw [if_neg c2]
            refine Ev.neg c2 ?_
            rw [w64 (x := d[i] - 1) (by omega), w64 (by omega), w64 (by omega)]
            exact ih (i + 1) _ (by omega) h24 (by omega) (by omega)
  unfold impl_isTree.f
  by_cases c1 : (d.length : Int) < 1
  · refine Ev.pos c1 (Ev.succ ?_)
    simp only [impl_isTree.j0, if_true]
    refine Ev.some ?_
    rw [eq_comm, Bool.eq_false_iff]
    intro h
    have := isT_length h
    omega
  · refine Ev.neg c1 (Ev.succ ?_)
    simp only [impl_isTree.j0, decide_eq_true_eq]
    by_cases c : (d.length : Int) > 24
    · refine Ev.pos c (Ev.some ?_)
      rw [eq_comm, Bool.eq_false_iff]
      intro h
      have := isT_length h
      omega
    · refine Ev.neg c ?_
      have := key d.length 0 1 (by omega) (by omega) (by omega) (by omega)
      rw [List.drop_zero] at this
      have e : isT d = okT 24 d 1 := by
        unfold isT
        rw [decide_eq_true (by omega : 1 ≤ d.length), decide_eq_true (by omega : d.length ≤ 24)]
        simp
      rw [e]
      exact this
theorem impl_IsTree_ev (d : List Int) (hm : d.length ≤ 9223372036854775807) : Ev (fun k => impl_IsTree.f k d) (isT d) := by
  unfold impl_IsTree.f
  exact Ev.bind (impl_isTree_ev d hm) (Ev.now _)
theorem impl_areTrees_ev (ts : List S26) (hn : ts.length ≤ 9223372036854775807) (hl : ∀ t ∈ ts, t.f0.length ≤ 9223372036854775807) : Ev (fun m => impl_areTrees.f m ts) (ts.all fun t => isT t.f0) := by
  have key : ∀ (xs : List S26) (i : Nat), ts.drop i = xs → i + xs.length = ts.length → Ev (fun m => impl_areTrees.l0 m ts ts.length i) (xs.all fun t => isT t.f0) := by
    intro xs
    induction xs with
    | nil =>
      intro i h hi
      simp only [List.length_nil] at hi
      apply Ev.succ
      simp (disch := omega) only [impl_areTrees.l0, if_neg]
      exact Ev.some (by simp)
    | cons x xs ih =>
      intro i h hi
      simp only [List.length_cons] at hi
      have hd := (drop_cons h).2.2
      have hx : x ∈ ts := List.mem_of_mem_drop (by rw [h]; simp)
      have hr : rd_T26 ts (i : Int) = x := by
        unfold rd_T26
        rw [Int.toNat_natCast, List.getD_eq_getElem?_getD, (drop_cons h).2.1]
        rfl
      apply Ev.succ
      simp (disch := omega) only [impl_areTrees.l0, if_pos, hr, w64]
      refine Ev.bind (impl_IsTree_ev x.f0 (hl x hx)) ?_
      cases ht : isT x.f0 with
      | false => exact Ev.neg (by simp) (Ev.some (by simp [ht]))
      | true =>
        refine Ev.pos rfl ?_
        have := ih (i + 1) hd (by omega)
        simpa [ht] using this
  unfold impl_areTrees.f
  exact key ts 0 rfl (by omega)
theorem impl_limited_eq (d : List Int) : impl_limited.f d = some (if d.length > 24 then ([], 3) else (d, 0)) := by
  unfold impl_limited.f
  by_cases c : d.length > 24
  · rw [if_pos c, if_pos (by omega)]
  · rw [if_neg c, if_neg (by omega)]
theorem impl_treeCode_ev (d : List Int) (hd : d.length ≤ 9223372036854775807) (vs : List Int) (hv : vs.length ≤ 1000) : Ev (fun m => impl_treeCode.f m d vs) (codeN d vs) := by
  have key : ∀ (xs : List Int) (i : Nat), isT d = true → vs.drop i = xs → i + xs.length = vs.length → Ev (fun m => impl_treeCode.l0 m vs vs.length i d) (codeV d xs) := by
    intro xs
    induction xs with
    | nil =>
      intro i ht h hi
      simp only [List.length_nil] at hi
      apply Ev.succ
      simp (disch := omega) only [impl_treeCode.l0, if_neg, codeV]
      exact Ev.now _
    | cons x xs ih =>
      intro i ht h hi
      simp only [List.length_cons] at hi
      have hr := rd_drop h
      have hl := isT_length ht
      have hdr := (drop_cons h).2.2
      apply Ev.succ
      simp (disch := omega) only [impl_treeCode.l0, if_pos, hr, w64, codeV]
      by_cases c0 : x < 0
      · rw [if_neg (by omega)]
        exact Ev.pos c0 (Ev.now _)
      · refine Ev.neg c0 ?_
        by_cases c1 : x ≥ (d.length : Int)
        · rw [if_neg (by omega)]
          exact Ev.pos c1 (Ev.now _)
        · rw [if_pos (by omega)]
          exact Ev.neg c1 (ih (i + 1) ht hdr (by omega))
  unfold impl_treeCode.f codeN
  refine Ev.bind (impl_IsTree_ev d hd) ?_
  cases h : isT d with
  | true => exact Ev.pos rfl (key vs 0 h rfl (by omega))
  | false => exact Ev.neg (by simp) (Ev.now _)
theorem slices_Grow_int64_int64_eq (n : Int) (h : 0 ≤ n) (h' : n ≤ 1000000) : slices_Grow_int64_int64.f [] n = some [] := by
  unfold slices_Grow_int64_int64.f
  rw [if_pos rfl, if_pos h, if_pos h']
theorem slices_Concat_int64_int64_ev (ls : List (List Int)) (hn : ls.length ≤ 1000) (hl : ls.flatten.length ≤ 100000) : Ev (fun m => slices_Concat_int64_int64.f m ls) ls.flatten := by
  have hrd : ∀ {xs : List (List Int)} {x : List Int} {i : Nat}, ls.drop i = x :: xs → rd_L1 ls (i : Int) = x := by
    intro xs x i h
    unfold rd_L1
    rw [Int.toNat_natCast, List.getD_eq_getElem?_getD, (drop_cons h).2.1]
    rfl
  have l1 : ∀ (xs : List (List Int)) (i : Nat) (out : List Int), ls.drop i = xs → i + xs.length = ls.length → out.length + xs.flatten.length ≤ 100000 →
      Ev (fun m => slices_Concat_int64_int64.l1 m out ls ls.length i) (out ++ xs.flatten) := by
    intro xs
    induction xs with
    | nil =>
      intro i out h hi ho
      simp only [List.length_nil] at hi
      refine Ev.step (fun k => by rw [slices_Concat_int64_int64.l1]) ?_
      exact Ev.neg (by omega) (Ev.some (by simp))
    | cons x xs ih =>
      intro i out h hi ho
      have hr := hrd h
      have hd := (drop_cons h).2.2
      simp only [List.length_cons] at hi
      rw [List.flatten_cons, List.length_append] at ho
      refine Ev.step (fun k => by rw [slices_Concat_int64_int64.l1]) ?_
      refine Ev.pos (by omega) (Ev.pos (by omega) (Ev.pos (by omega) ?_))
      rw [hr, w64 (by omega)]
      refine Ev.pos (by omega) ?_
      have := ih (i + 1) (out ++ x) hd (by omega) (by rw [List.length_append]; omega)
      rw [List.flatten_cons, ← List.append_assoc]
      exact this
  have l0 : ∀ (xs : List (List Int)) (i : Nat) (n : Nat), ls.drop i = xs → i + xs.length = ls.length → n + xs.flatten.length ≤ 100000 →
      Ev (fun m => slices_Concat_int64_int64.l0 m ls n ls ls.length i) ls.flatten := by
    intro xs
    induction xs with
    | nil =>
      intro i n h hi ho
      simp only [List.length_nil] at hi
      refine Ev.step (fun k => by rw [slices_Concat_int64_int64.l0]) ?_
      refine Ev.neg (by omega) (Ev.bind (Ev.const (slices_Grow_int64_int64_eq n (by omega) (by omega))) ?_)
      exact l1 ls 0 [] rfl (by omega) (by simpa using hl)
    | cons x xs ih =>
      intro i n h hi ho
      have hr := hrd h
      have hd := (drop_cons h).2.2
      simp only [List.length_cons] at hi
      rw [List.flatten_cons, List.length_append] at ho
      refine Ev.step (fun k => by rw [slices_Concat_int64_int64.l0]) ?_
      refine Ev.pos (by omega) (Ev.pos (by omega) (Ev.pos (by omega) ?_))
      rw [hr, w64 (x := (n : Int) + (x.length : Int)) (by omega), w64 (by omega)]
      refine Ev.neg (by omega) ?_
      have := ih (i + 1) (n + x.length) hd (by omega) (by omega)
      rw [show ((n + x.length : Nat) : Int) = (n : Int) + (x.length : Int) by omega] at this
      exact this
  unfold slices_Concat_int64_int64.f
  exact l0 ls 0 0 rfl (by omega) (by omega)
theorem impl_endOf_at (d : List Int) (hd : d.length ≤ 24) : ∀ (n : Nat) (f : F) (a : Nat), sz f = n → At d a f → Ev (fun m => impl_endOf.l0 m d a (len f)) ((a + sz f : Nat) : Int) := by
  intro n
  induction n with
  | zero =>
    intro f a hf h
    cases f with
    | nil =>
      apply Ev.succ
      simp (disch := omega) only [impl_endOf.l0, if_neg, len]
      exact Ev.some (by simp [sz])
    | cons k r => simp only [sz] at hf; omega
  | succ n ih =>
    intro f a hf h
    cases f with
    | nil => simp [sz] at hf
    | cons k r =>
      obtain ⟨h1, h2, _, _⟩ := h.step
      have h3 := h.app
      have hb := h.1
      have hl := len_le_sz k
      have hl2 := len_le_sz r
      simp only [sz] at hf hb
      have e := ih (app k r) (a + 1) (by rw [sz_app]; omega) h3
      rw [len_app, sz_app] at e
      apply Ev.succ
      simp (disch := omega) only [impl_endOf.l0, if_pos, len, h2, w64]
      rw [show ((1 + len r : Nat) : Int) + ((len k : Int) - 1) = ((len k + len r : Nat) : Int) by omega, show (a : Int) + 1 = ((a + 1 : Nat) : Int) by omega]
      simp only [sz]
      rw [show a + (1 + sz k + sz r) = a + 1 + (sz k + sz r) by omega]
      exact e
theorem impl_endOf_ev (d : List Int) (hd : d.length ≤ 24) {a : Nat} {k r : F} (h : At d a (cons k r)) : Ev (fun m => impl_endOf.f m d a) ((a + 1 + sz k : Nat) : Int) := by
  have e := impl_endOf_at d hd _ (cons k nil) a rfl h.one
  simp only [len, sz] at e
  rw [show a + (1 + sz k + 0) = a + 1 + sz k by omega] at e
  unfold impl_endOf.f
  exact e
theorem impl_ReplaceAt_ev (d : List Int) (hd : d.length ≤ 9223372036854775807) (v : Int) (u : List Int) (hu : u.length ≤ 9223372036854775807) {R} (h : repR d v u R) : Ev (fun m => impl_ReplaceAt.f m d v u) R := by
  have e := impl_areTrees_ev ([⟨d⟩, ⟨u⟩] : List S26) (by simp) (by
    intro t ht
    simp only [List.mem_cons, List.not_mem_nil, or_false] at ht
    rcases ht with rfl | rfl
    · exact hd
    · exact hu)
  have e2 := impl_treeCode_ev d hd [v] (by simp)
  simp only [List.all_cons, List.all_nil, Bool.and_true] at e
  unfold impl_ReplaceAt.f
  refine Ev.bind e ?_
  rcases h with ⟨h, rfl⟩ | ⟨h, h2, rfl⟩ | ⟨k, a, rfl, hk, rfl, ha, h, h2, h3, rfl⟩
  · exact Ev.neg (by simp [h]) (Ev.now _)
  · cases ht : isT d with
    | false =>
      rw [codeN_no ht]
      exact Ev.neg (by simp) (Ev.now _)
    | true => exact Ev.pos (by simp [h]) (Ev.bind e2 (Ev.neg h2 (Ev.now _)))
  · have hl := tr_length k
    have hs := sub_small k a ha
    have hul := (isT_length h2).2
    have e3 := impl_endOf_ev (tr k) (by omega) (st_At k a ha)
    have hb := repB_length k a u ha hul
    unfold repB at hb
    refine Ev.pos (by simp [h2, h3]) (Ev.bind e2 (Ev.pos h (Ev.pos (by omega) (Ev.pos (by omega) (Ev.bind e3 (Ev.pos (by omega) (Ev.pos (by omega) ?_)))))))
    rw [Int.toNat_natCast, Int.toNat_natCast]
    have e4 := slices_Concat_int64_int64_ev [(tr k).take a, u, (tr k).drop (a + 1 + sz (st k a))] (by simp) (by simp only [List.flatten_cons, List.flatten_nil, List.append_nil]; rw [← List.append_assoc]; omega)
    simp only [List.flatten_cons, List.flatten_nil, List.append_nil] at e4
    rw [← List.append_assoc] at e4
    refine Ev.bind e4 ?_
    rw [impl_limited_eq]
    simp only [Option.bind_some]
    exact Ev.some rfl
theorem FnExactReplaceAt : ∀ (l : List Int) (v : Int) (u : List Int), l.length ≤ maxLen → (∀ x ∈ l, (Lit.int .i64 x).wf = true) → (Lit.int .i64 v).wf = true → u.length ≤ maxLen → (∀ x ∈ u, (Lit.int .i64 x).wf = true) → ∃ k, laws_FnExactReplaceAt.f k l v u = some true := by
  intro l v u h1 _ _ h2 _
  unfold maxLen at h1 h2
  apply Ev.rounds
  unfold laws_FnExactReplaceAt.f
  simp only [laws_szTree_ev l 1048576 h1 (by omega), Option.bind_some]
  by_cases c : (1048576 : Int) < l.length
  · rw [if_pos c]
    exact Ev.pos (by omega) (Ev.now _)
  · rw [if_neg c]
    refine Ev.neg (by omega) ?_
    simp only [laws_szTree_ev u (1048576 - l.length) h2 (by omega), Option.bind_some]
    by_cases c2 : (1048576 : Int) - l.length < u.length
    · rw [if_pos c2]
      exact Ev.pos (by omega) (Ev.now _)
    · rw [if_neg c2]
      refine Ev.neg (by omega) ?_
      have e1 := laws_toTree_ev l (by omega)
      have e1' := laws_toTree_ev u (by omega)
      obtain ⟨R, hR⟩ := repR_ex l v u
      have e2 := spec_ReplaceAt_ev l (by omega) v u (by omega) hR
      have e3 := impl_ReplaceAt_ev l (by omega) v u (by omega) hR
      have e4 := laws_eqTree_ev l (by omega)
      have e4' := laws_eqTree_ev u (by omega)
      have hb := repR_len hR
      have e5 := laws_markTree_ev l 1 (by omega) (by omega)
      have e5' := laws_markTree_ev u (1 + l.length) (by omega) (by omega)
      have e6 := laws_eqTree_ev R.1 (by omega)
      have e7 := laws_markTree_ev R.1 1 (by omega) (by omega)
      have e8 := laws_heldTree_ev R.1.length 1 (by omega) (by omega)
      repeat' (first
        | exact Ev.now _
        | (with_reducible refine Ev.bind e1 ?_; try dsimp only)
        | (with_reducible refine Ev.bind e1' ?_; try dsimp only)
        | (with_reducible refine Ev.bind e2 ?_; try dsimp only)
        | (with_reducible refine Ev.bind e3 ?_; try dsimp only)
        | (with_reducible refine Ev.bind e4 ?_; try dsimp only)
        | (with_reducible refine Ev.bind e4' ?_; try dsimp only)
        | (with_reducible refine Ev.bind e5 ?_; try dsimp only)
        | (with_reducible refine Ev.bind e5' ?_; try dsimp only)
        | (with_reducible refine Ev.bind e6 ?_; try dsimp only)
        | (with_reducible refine Ev.bind e7 ?_; try dsimp only)
        | (with_reducible refine Ev.bind e8 ?_; try dsimp only)
        | ((with_reducible apply Ev.pos); (solve | rfl | trivial | omega))
        | ((with_reducible apply Ev.neg); (solve | omega | simp)))

end Go.Proofs.Ytjecelgbfmpnaaa.Pure
