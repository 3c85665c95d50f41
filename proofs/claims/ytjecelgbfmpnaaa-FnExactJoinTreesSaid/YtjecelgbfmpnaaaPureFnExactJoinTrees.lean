/- The pure statement of the law FnExactJoinTrees is proved. Conditions: those of the statement alone. -/
import Derived.Test.YtjecelgbfmpnaaaQFnExactJoinTreesx4
import Derived.Test.YtjecelgbfmpnaaaBase
import Derived.Test.YtjecelgbfmpnaaaBase2
import Derived.Test.YtjecelgbfmpnaaaBin
import Derived.Test.YtjecelgbfmpnaaaBase3
import Derived.Test.YtjecelgbfmpnaaaBase4
import Derived.Test.YtjecelgbfmpnaaaBase5
import Derived.Test.YtjecelgbfmpnaaaBase6
import Derived.Test.YtjecelgbfmpnaaaPar
import Derived.Test.YtjecelgbfmpnaaaPar2
import Derived.Test.YtjecelgbfmpnaaaRem
import Derived.Test.YtjecelgbfmpnaaaBin2
import Derived.Test.YtjecelgbfmpnaaaNum
namespace Go.Proofs.Ytjecelgbfmpnaaa.Pure
open Go.RowKit Go.Proofs.Ytjecelgbfmpnaaa.QFnExactJoinTrees Go.Proofs.Ytjecelgbfmpnaaa.Base Go.Proofs.YtjecelgbfmpnaaaW.PrintWords Go.Proofs.YtjecelgbfmpnaaaW.PrintLast Go.Proofs.YtjecelgbfmpnaaaW.PrintMore
open Go.Proofs.Ytjecelgbfmpnaaa.Base.F
set_option linter.unusedVariables false
set_option linter.unusedSimpArgs false

theorem laws_eqInt64S_ev (xs : List Int) (hm : xs.length ≤ 140737488351232) : Ev (fun k => laws_eqInt64S.f k xs xs) true := by
  have key : ∀ (d i : Nat), i + d = xs.length → Ev (fun k => laws_eqInt64S.l0 k xs xs i) true := by
    intro d
    induction d with
    | zero =>
      intro i h
      apply Ev.succ
      simp (disch := omega) only [laws_eqInt64S.l0, if_pos, if_neg]
      exact Ev.now _
    | succ d ih =>
      intro i h
      apply Ev.succ
      simp (disch := omega) only [laws_eqInt64S.l0, if_pos, if_neg, w64]
      exact ih (i + 1) (by omega)
  unfold laws_eqInt64S.f
  exact Ev.pos rfl (key xs.length 0 (by omega))
theorem laws_eqTree_ev (xs : List Int) (hm : xs.length ≤ 140737488351232) : Ev (fun k => laws_eqTree.f k xs xs) true := by
  unfold laws_eqTree.f
  exact Ev.bind (laws_eqInt64S_ev xs hm) (Ev.now _)
theorem laws_markInt64S_ev (xs : List Int) (a : Int) (ha : 0 ≤ a) (hm : a + (xs.length : Int) ≤ 1000000000000000000) :
    Ev (fun k => laws_markInt64S.f k xs a) (a + xs.length, marks a xs.length) := by
  have key : ∀ (d i : Nat) (ys : List Int), i + d = xs.length → ys.length = xs.length → ys.take i = marks a i →
      Ev (fun k => laws_markInt64S.l0 k ys (a + i) i) (a + xs.length, marks a xs.length) := by
    intro d
    induction d with
    | zero =>
      intro i ys h hl ht
      apply Ev.succ
      simp (disch := omega) only [laws_markInt64S.l0, if_pos, if_neg]
      refine Ev.some ?_
      rw [show i = xs.length by omega] at ht ⊢
      rw [← ht, List.take_of_length_le (by omega)]
    | succ d ih =>
      intro i ys h hl ht
      apply Ev.succ
      simp (disch := omega) only [laws_markInt64S.l0, if_pos, if_neg, w64]
      have := ih (i + 1) (ys.set i (a + i)) (by omega) (by rw [List.length_set, hl]) (by rw [marks_succ, ← ht, take_set_succ _ _ _ (by omega)])
      rw [show a + ((i + 1 : Nat) : Int) = a + i + 1 by omega] at this
      exact this
  unfold laws_markInt64S.f
  have := key xs.length 0 xs (by omega) rfl (by simp [marks])
  simpa using this
theorem laws_markTree_ev (xs : List Int) (a : Int) (ha : 0 ≤ a) (hm : a + (xs.length : Int) ≤ 1000000000000000000) :
    Ev (fun k => laws_markTree.f k xs a) (a + xs.length, marks a xs.length) := by
  unfold laws_markTree.f
  exact Ev.bind (laws_markInt64S_ev xs a ha hm) (Ev.now _)
theorem laws_heldInt64S_ev (n : Nat) (a : Int) (ha : 0 ≤ a) (hm : a + (n : Int) ≤ 1000000000000000000) :
    Ev (fun k => laws_heldInt64S.f k (marks a n) a) (a + n) := by
  have key : ∀ (d i : Nat), i + d = n → Ev (fun k => laws_heldInt64S.l0 k (marks a n) (a + i) i) (a + n) := by
    intro d
    induction d with
    | zero =>
      intro i h
      have hl := marks_length a n
      apply Ev.succ
      simp (disch := omega) only [laws_heldInt64S.l0, if_pos, if_neg]
      refine Ev.some ?_
      omega
    | succ d ih =>
      intro i h
      have hl := marks_length a n
      have hr := rd_marks a n i (by omega)
      apply Ev.succ
      simp (disch := omega) only [laws_heldInt64S.l0, if_pos, if_neg, w64, hr]
      have := ih (i + 1) (by omega)
      rw [show a + ((i + 1 : Nat) : Int) = a + i + 1 by omega] at this
      exact this
  unfold laws_heldInt64S.f
  simpa using key n 0 (by omega)
theorem laws_heldTree_ev (n : Nat) (a : Int) (ha : 0 ≤ a) (hm : a + (n : Int) ≤ 1000000000000000000) :
    Ev (fun k => laws_heldTree.f k (marks a n) a) (a + n) := by
  unfold laws_heldTree.f
  exact Ev.bind (laws_heldInt64S_ev n a ha hm) (Ev.neg (by omega) (Ev.now _))
theorem laws_szInt64S_ev (xs : List Int) (a : Int) (hm : xs.length ≤ 9223372036854775807) (ha : 0 ≤ a ∧ a ≤ 1048576) :
    laws_szInt64S.f xs a = some (if a < xs.length then -1 else a - xs.length) := by
  unfold laws_szInt64S.f
  rw [w64 (by omega)]
  by_cases c : a < xs.length
  · rw [if_pos (by omega), if_pos c]
  · rw [if_neg (by omega), if_neg c]
theorem laws_szTree_ev (xs : List Int) (a : Int) (hm : xs.length ≤ 9223372036854775807) (ha : 0 ≤ a ∧ a ≤ 1048576) :
    laws_szTree.f xs a = some (if a < xs.length then -1 else a - xs.length) := by
  unfold laws_szTree.f
  rw [laws_szInt64S_ev xs a hm ha]
  by_cases c : a < xs.length
  · simp only [if_pos c, Option.bind_some]; rfl
  · simp only [if_neg c, Option.bind_some]
    rw [if_neg (by omega)]
/-- all degrees together -/
def totL : List S24 → Nat
  | [] => 0
  | x :: xs => x.f0.length + totL xs
theorem laws_szTreeS_ev (l : List S24) (hl : l.length ≤ 9223372036854775807) (hx : ∀ x ∈ l, x.f0.length ≤ 9223372036854775807) :
    ∃ s : Int, Ev (fun k => laws_szTreeS.f k l 1048576) s ∧ (s < 0 ∨ l.length + totL l ≤ 1048576) := by
  have key : ∀ (tl : List S24) (i : Nat) (a : Int), l.drop i = tl → i + tl.length = l.length → 0 ≤ a → a ≤ 1048576 →
      ∃ s : Int, Ev (fun k => laws_szTreeS.l0 k l a (i : Int)) s ∧ (s < 0 ∨ (totL tl : Int) ≤ a) := by
    intro tl
    induction tl with
    | nil =>
      intro i a h hi h0 h1
      simp only [List.length_nil] at hi
      refine ⟨a, ?_, .inr (by simp [totL]; omega)⟩
      apply Ev.succ
      simp only [laws_szTreeS.l0]
      exact Ev.neg (by omega) (Ev.now _)
    | cons x tl ih =>
      intro i a h hi h0 h1
      simp only [List.length_cons] at hi
      have hmem : x ∈ l := List.mem_of_mem_drop (by rw [h]; simp)
      have hr : rd_T24 l (i : Int) = x := by
        unfold rd_T24
        rw [Int.toNat_natCast, List.getD_eq_getElem?_getD, (drop_cons h).2.1]
        rfl
      have e := laws_szTree_ev x.f0 a (hx x hmem) ⟨h0, h1⟩
      by_cases c : a < x.f0.length
      · rw [if_pos c] at e
        refine ⟨-1, ?_, .inl (by omega)⟩
        apply Ev.succ
        simp only [laws_szTreeS.l0, hr, e, Option.bind_some]
        exact Ev.pos (by omega) (Ev.pos (by omega) (Ev.pos (by omega) (Ev.now _)))
      · rw [if_neg c] at e
        obtain ⟨s, e1, e2⟩ := ih (i + 1) (a - x.f0.length) (drop_cons h).2.2 (by omega) (by omega) (by omega)
        refine ⟨s, ?_, ?_⟩
        · apply Ev.succ
          simp only [laws_szTreeS.l0, hr, e, Option.bind_some]
          rw [w64 (x := (i : Int) + 1) (by omega), show (i : Int) + 1 = ((i + 1 : Nat) : Int) by omega]
          exact Ev.pos (by omega) (Ev.pos (by omega) (Ev.neg (by omega) e1))
        · simp only [totL]
          rcases e2 with e2 | e2
          · exact .inl e2
          · exact .inr (by omega)
  unfold laws_szTreeS.f
  by_cases c : (1048576 : Int) - l.length < 0
  · exact ⟨-1, Ev.pos (by rw [w64 (by omega)]; exact c) (Ev.now _), .inl (by omega)⟩
  · obtain ⟨s, e1, e2⟩ := key l 0 ((1048576 : Int) - l.length) rfl (by omega) (by omega) (by omega)
    refine ⟨s, Ev.neg (by rw [w64 (by omega)]; exact c) ?_, ?_⟩
    · rw [w64 (by omega)]
      exact e1
    · rcases e2 with e2 | e2
      · exact .inl e2
      · exact .inr (by omega)
theorem spec_l01In_eq (a b c : Int) : spec_l01In.f a b c = some (decide (b ≤ a ∧ a ≤ c)) := by
  unfold spec_l01In.f
  by_cases h : a ≥ b
  · rw [if_pos h]
    congr 1
    rw [Bool.eq_iff_iff, decide_eq_true_eq, decide_eq_true_eq]
    omega
  · rw [if_neg h]
    congr 1
    rw [eq_comm, decide_eq_false_iff_not]
    omega
theorem spec_l01N_eq (d : List Int) : spec_l01N.f d = some (d.length : Int) := rfl
theorem spec_l01Is_ev (d : List Int) (hm : d.length ≤ 9223372036854775807) : Ev (fun k => spec_l01Is.f k d) (isT d) := by
  have key : ∀ (n i : Nat) (need : Int), i + n = d.length → d.length ≤ 24 → 0 ≤ need → need ≤ 1 + 24 * (i : Int) →
      Ev (fun k => spec_l01Is.l0 k need i d) (okT 25 (d.drop i) need) := by
    intro n
    induction n with
    | zero =>
      intro i need h h24 h0 h1
      apply Ev.succ
      simp (disch := omega) only [spec_l01Is.l0, if_pos, if_neg]
      rw [List.drop_eq_nil_of_le (by omega)]
      exact Ev.some (by simp only [okT]; rw [Bool.eq_iff_iff]; simp)
    | succ n ih =>
      intro i need h h24 h0 h1
      apply Ev.succ
      have hi : i < d.length := by omega
      have hr : rd d i = d[i] := by rw [rd_nat, List.getD_eq_getElem?_getD, List.getElem?_eq_getElem hi]; rfl
      simp (disch := omega) only [spec_l01Is.l0, if_pos, if_neg, spec_l01In_eq, Option.bind_some, decide_eq_true_eq, hr]
      rw [List.drop_eq_getElem_cons hi]
      simp only [okT]
      by_cases c0 : need = 0
      · rw [if_pos c0]; exact Ev.pos c0 (Ev.now _)
      · rw [if_neg c0]
        refine Ev.neg c0 ?_
        by_cases c1 : d[i] < 0
        · rw [if_pos c1]; exact Ev.neg (by omega) (Ev.now _)
        · rw [if_neg c1]
          by_cases c2 : d[i] ≥ 25
          · rw [if_pos c2]; exact Ev.neg (by omega) (Ev.now _)
          · rw [if_neg c2]
            refine Ev.pos (by omega) ?_
            rw [w64 (x := need - 1) (by omega), w64 (by omega), w64 (by omega), show need - 1 + d[i] = need + (d[i] - 1) by omega]
            exact ih (i + 1) _ (by omega) h24 (by omega) (by omega)
  unfold spec_l01Is.f
  simp only [spec_l01N_eq, Option.bind_some, spec_l01In_eq, decide_eq_true_eq]
  by_cases c : 1 ≤ (d.length : Int) ∧ (d.length : Int) ≤ 24
  · refine Ev.pos c ?_
    have := key d.length 0 1 (by omega) (by omega) (by omega) (by omega)
    rw [List.drop_zero, okT_25 d (by omega)] at this
    have e : isT d = okT 24 d 1 := by
      unfold isT
      rw [decide_eq_true (by omega : 1 ≤ d.length), decide_eq_true (by omega : d.length ≤ 24)]
      simp
    rw [e]
    exact this
  · refine Ev.neg c ?_
    refine Ev.some ?_
    rw [eq_comm, Bool.eq_false_iff]
    intro h
    have := isT_length h
    omega
/-- the degrees of trees behind others, if they are at most 24 -/
def jn : List S26 → List Int → Option (List Int)
  | [], d => some d
  | x :: xs, d => if (d ++ x.f0).length > 24 then none else jn xs (d ++ x.f0)
theorem jn_length : ∀ (xs : List S26) (d e : List Int), d.length ≤ 24 → jn xs d = some e → e.length ≤ 24 := by
  intro xs
  induction xs with
  | nil => intro d e h h1; simp only [jn, Option.some.injEq] at h1; subst h1; exact h
  | cons x xs ih =>
    intro d e h h1
    simp only [jn] at h1
    by_cases c : (d ++ x.f0).length > 24
    · rw [if_pos c] at h1; cases h1
    · rw [if_neg c] at h1
      exact ih _ _ (by omega) h1
/-- the answer: the joined tree, and its code -/
def joinR (ts : List S26) : List Int × Int :=
  if (ts.all fun t => isT t.f0) = true then (match jn ts [(ts.length : Int)] with | some d => (d, 0) | none => ([], 3)) else ([], 1)
theorem joinR_length (ts : List S26) : (joinR ts).1.length ≤ 24 := by
  unfold joinR
  by_cases c : (ts.all fun t => isT t.f0) = true
  · rw [if_pos c]
    cases h : jn ts [(ts.length : Int)] with
    | none => simp
    | some d => exact jn_length ts _ d (by simp) h
  · rw [if_neg c]; simp
theorem spec_l01Join_ev (ts : List S26) (hn : ts.length ≤ 1048576) (hx : ∀ x ∈ ts, x.f0.length ≤ 1048576) : Ev (fun k => spec_l01Join.f k ts) (match jn ts [(ts.length : Int)] with | some d => (d, true) | none => ([], false)) := by
  have key : ∀ (xs : List S26) (i : Nat) (d : List Int), ts.drop i = xs → i + xs.length = ts.length → d.length ≤ 24 → Ev (fun k => spec_l01Join.l0 k ts d (i : Int)) (match jn xs d with | some d => (d, true) | none => ([], false)) := by
    intro xs
    induction xs with
    | nil =>
      intro i d h hi hd
      simp only [List.length_nil] at hi
      apply Ev.succ
      simp only [spec_l01Join.l0, jn]
      exact Ev.neg (by omega) (Ev.now _)
    | cons x xs ih =>
      intro i d h hi hd
      simp only [List.length_cons] at hi
      have hmem : x ∈ ts := List.mem_of_mem_drop (by rw [h]; simp)
      have hxl := hx x hmem
      have hr : rd_T26 ts (i : Int) = x := by
        unfold rd_T26
        rw [Int.toNat_natCast, List.getD_eq_getElem?_getD, (drop_cons h).2.1]
        rfl
      apply Ev.succ
      simp only [spec_l01Join.l0, hr, jn, Option.bind_some]
      refine Ev.pos (by omega) (Ev.pos (by omega) (Ev.pos (by omega) ?_))
      by_cases c : (d ++ x.f0).length > 24
      · rw [if_pos c]
        exact Ev.pos (by omega) (Ev.now _)
      · rw [if_neg c, w64 (x := (i : Int) + 1) (by omega), show (i : Int) + 1 = ((i + 1 : Nat) : Int) by omega]
        exact Ev.neg (by omega) (ih (i + 1) _ (drop_cons h).2.2 (by omega) (by omega))
  unfold spec_l01Join.f
  exact key ts 0 _ rfl (by omega) (by simp)
theorem spec_JoinTrees_ev (ts : List S26) (hn : ts.length ≤ 1048576) (hx : ∀ x ∈ ts, x.f0.length ≤ 1048576) : Ev (fun k => spec_JoinTrees.f k ts) (joinR ts) := by
  have key : ∀ (xs : List S26) (i : Nat), ts.drop i = xs → i + xs.length = ts.length → Ev (fun k => spec_JoinTrees.l0 k ts (i : Int)) (if (xs.all fun t => isT t.f0) = true then (match jn ts [(ts.length : Int)] with | some d => (d, 0) | none => ([], 3)) else ([], 1)) := by
    intro xs
    induction xs with
    | nil =>
      intro i h hi
      simp only [List.length_nil] at hi
      have e := spec_l01Join_ev ts hn hx
      apply Ev.succ
      simp only [spec_JoinTrees.l0, List.all_nil, if_true]
      refine Ev.neg (by omega) (Ev.bind e ?_)
      cases hj : jn ts [(ts.length : Int)] with
      | none => exact Ev.neg (by simp) (Ev.now _)
      | some d => exact Ev.pos (by first | rfl | trivial) (Ev.now _)
    | cons x xs ih =>
      intro i h hi
      simp only [List.length_cons] at hi
      have hmem : x ∈ ts := List.mem_of_mem_drop (by rw [h]; simp)
      have hxl := hx x hmem
      have hr : rd_T26 ts (i : Int) = x := by
        unfold rd_T26
        rw [Int.toNat_natCast, List.getD_eq_getElem?_getD, (drop_cons h).2.1]
        rfl
      apply Ev.succ
      simp only [spec_JoinTrees.l0, hr]
      refine Ev.pos (by omega) (Ev.pos (by omega) (Ev.bind (spec_l01Is_ev x.f0 (by omega)) ?_))
      rw [w64 (x := (i : Int) + 1) (by omega), show (i : Int) + 1 = ((i + 1 : Nat) : Int) by omega]
      cases ht : isT x.f0 with
      | false =>
        rw [if_neg (by simp [ht])]
        exact Ev.neg (by simp) (Ev.now _)
      | true =>
        have := ih (i + 1) (drop_cons h).2.2 (by omega)
        simp only [List.all_cons, ht, Bool.true_and]
        exact Ev.pos (by first | rfl | trivial) this
  unfold spec_JoinTrees.f joinR
  exact key ts 0 rfl (by omega)
theorem laws_toInt64S_ev (xs : List Int) (hm : xs.length ≤ 1048576) : Ev (fun k => laws_toInt64S.f k xs) xs := by
  have key : ∀ (d i : Nat) (ys : List Int), i + d = xs.length → ys.length = xs.length → ys.take i = xs.take i →
      Ev (fun k => laws_toInt64S.l0 k xs ys i) xs := by
    intro d
    induction d with
    | zero =>
      intro i ys h hl ht
      apply Ev.succ
      simp (disch := omega) only [laws_toInt64S.l0, if_pos, if_neg]
      refine Ev.some ?_
      rw [List.take_of_length_le (by omega), List.take_of_length_le (by omega)] at ht
      exact ht
    | succ d ih =>
      intro i ys h hl ht
      apply Ev.succ
      simp (disch := omega) only [laws_toInt64S.l0, if_pos, if_neg, w64]
      exact ih (i + 1) (ys.set i (rd xs i)) (by omega) (by rw [List.length_set, hl]) (by rw [take_set_succ _ _ _ (by omega), ht, take_rd_succ _ _ (by omega)])
  unfold laws_toInt64S.f
  refine Ev.pos (by omega) (Ev.pos (by omega) ?_)
  exact key xs.length 0 _ (by omega) (by rw [List.length_replicate]; omega) (by simp)
theorem laws_toTree_ev (xs : List Int) (hm : xs.length ≤ 1048576) : Ev (fun k => laws_toTree.f k xs) xs := by
  unfold laws_toTree.f
  exact Ev.bind (laws_toInt64S_ev xs hm) (Ev.now _)
theorem set_fill {α : Type} (g : List α) (z : α) (i n : Nat) (x : α) (h : g.length = n) (hx : g[i]? = some x) : (g.take i ++ List.replicate (n - i) z).set i x = g.take (i + 1) ++ List.replicate (n - (i + 1)) z := by
  obtain ⟨hl, hg⟩ := List.getElem?_eq_some_iff.1 hx
  have h1 : (g.take i).length = i := by rw [List.length_take]; omega
  obtain ⟨m, hm⟩ : ∃ m, n - i = m + 1 := ⟨n - i - 1, by omega⟩
  rw [hm, List.set_append_right _ _ (by omega), h1, Nat.sub_self, List.replicate_succ, List.set_cons_zero, List.take_succ_eq_append_getElem hl, hg, List.append_assoc, List.singleton_append, show n - (i + 1) = m by omega]
/-- the trees, as the program has them -/
def treesS (l : List S24) : List S26 := l.map fun x => ⟨x.f0⟩
theorem treesS_length (l : List S24) : (treesS l).length = l.length := by simp [treesS]
theorem laws_toTreeS_ev (l : List S24) (hl : l.length ≤ 1048576) (hx : ∀ x ∈ l, x.f0.length ≤ 1048576) : Ev (fun k => laws_toTreeS.f k l) (treesS l) := by
  have hg := treesS_length l
  have key : ∀ (tl : List S24) (i : Nat), l.drop i = tl → i + tl.length = l.length → Ev (fun k => laws_toTreeS.l0 k l ((treesS l).take i ++ List.replicate (l.length - i) z26) (i : Int)) (treesS l) := by
    intro tl
    induction tl with
    | nil =>
      intro i h hi
      simp only [List.length_nil] at hi
      apply Ev.succ
      simp only [laws_toTreeS.l0]
      refine Ev.neg (by omega) (Ev.some ?_)
      rw [show l.length - i = 0 by omega, List.replicate_zero, List.append_nil, List.take_of_length_le (by omega)]
    | cons x tl ih =>
      intro i h hi
      simp only [List.length_cons] at hi
      have hmem : x ∈ l := List.mem_of_mem_drop (by rw [h]; simp)
      have hr : rd_T24 l (i : Int) = x := by
        unfold rd_T24
        rw [Int.toNat_natCast, List.getD_eq_getElem?_getD, (drop_cons h).2.1]
        rfl
      have hlen : ((treesS l).take i ++ List.replicate (l.length - i) z26).length = l.length := by
        rw [List.length_append, List.length_take, List.length_replicate]; omega
      apply Ev.succ
      simp only [laws_toTreeS.l0, hr]
      refine Ev.pos (by omega) (Ev.pos (by omega) (Ev.bind (laws_toTree_ev x.f0 (hx x hmem)) (Ev.pos (by omega) ?_)))
      rw [w64 (x := (i : Int) + 1) (by omega), show (i : Int) + 1 = ((i + 1 : Nat) : Int) by omega, Int.toNat_natCast, set_fill (treesS l) z26 i l.length ⟨x.f0⟩ hg (by rw [treesS, List.getElem?_map, (drop_cons h).2.1]; rfl)]
      exact ih (i + 1) (drop_cons h).2.2 (by omega)
  unfold laws_toTreeS.f
  refine Ev.pos (by omega) (Ev.pos (by omega) ?_)
  have := key l 0 rfl (by omega)
  rw [List.take_zero, List.nil_append, Nat.sub_zero] at this
  rw [Int.toNat_natCast]
  exact this
theorem impl_isTree_ev (d : List Int) (hm : d.length ≤ 9223372036854775807) : Ev (fun k => impl_isTree.f k d) (isT d) := by
  have key : ∀ (n i : Nat) (need : Int), i + n = d.length → d.length ≤ 24 → 0 ≤ need → need ≤ 1 + 24 * (i : Int) →
      Ev (fun k => impl_isTree.l0 k need d d.length i) (okT 24 (d.drop i) need) := by
    intro n
    induction n with
    | zero =>
      intro i need h h24 h0 h1
      apply Ev.succ
      simp (disch := omega) only [impl_isTree.l0, if_pos, if_neg]
      rw [List.drop_eq_nil_of_le (by omega)]
      exact Ev.some (by simp only [okT]; rw [Bool.eq_iff_iff]; simp)
    | succ n ih =>
      intro i need h h24 h0 h1
      apply Ev.succ
      have hi : i < d.length := by omega
      have hr : rd d i = d[i] := by rw [rd_nat, List.getD_eq_getElem?_getD, List.getElem?_eq_getElem hi]; rfl
      simp (disch := omega) only [impl_isTree.l0, if_pos, if_neg, hr]
      rw [List.drop_eq_getElem_cons hi]
      simp only [okT]
      by_cases c0 : need = 0
      · rw [if_pos c0]; exact Ev.pos c0 (Ev.now _)
      · rw [if_neg c0]
        refine Ev.neg c0 ?_
        by_cases c1 : d[i] < 0
        · rw [if_pos c1]; exact Ev.pos c1 (Ev.now _)
        · rw [if_neg c1]
          refine Ev.neg c1 ?_
          by_cases c2 : d[i] ≥ 24
          · rw [if_pos c2]; exact Ev.pos c2 (Ev.now _)
          · rw [if_neg c2]
            refine Ev.neg c2 ?_
            rw [w64 (x := d[i] - 1) (by omega), w64 (by omega), w64 (by omega)]
            exact ih (i + 1) _ (by omega) h24 (by omega) (by omega)
  unfold impl_isTree.f
  by_cases c1 : (d.length : Int) < 1
  · refine Ev.pos c1 (Ev.succ ?_)
    simp only [impl_isTree.j0, if_true]
    refine Ev.some ?_
    rw [eq_comm, Bool.eq_false_iff]
    intro h
    have := isT_length h
    omega
  · refine Ev.neg c1 (Ev.succ ?_)
    simp only [impl_isTree.j0, decide_eq_true_eq]
    by_cases c : (d.length : Int) > 24
    · refine Ev.pos c (Ev.some ?_)
      rw [eq_comm, Bool.eq_false_iff]
      intro h
      have := isT_length h
      omega
    · refine Ev.neg c ?_
      have := key d.length 0 1 (by omega) (by omega) (by omega) (by omega)
      rw [List.drop_zero] at this
      have e : isT d = okT 24 d 1 := by
        unfold isT
        rw [decide_eq_true (by omega : 1 ≤ d.length), decide_eq_true (by omega : d.length ≤ 24)]
        simp
      rw [e]
      exact this
theorem impl_IsTree_ev (d : List Int) (hm : d.length ≤ 9223372036854775807) : Ev (fun k => impl_IsTree.f k d) (isT d) := by
  unfold impl_IsTree.f
  exact Ev.bind (impl_isTree_ev d hm) (Ev.now _)
theorem impl_areTrees_ev (ts : List S26) (hn : ts.length ≤ 9223372036854775807) (hl : ∀ t ∈ ts, t.f0.length ≤ 9223372036854775807) : Ev (fun m => impl_areTrees.f m ts) (ts.all fun t => isT t.f0) := by
  have key : ∀ (xs : List S26) (i : Nat), ts.drop i = xs → i + xs.length = ts.length → Ev (fun m => impl_areTrees.l0 m ts ts.length i) (xs.all fun t => isT t.f0) := by
    intro xs
    induction xs with
    | nil =>
      intro i h hi
      simp only [List.length_nil] at hi
      apply Ev.succ
      simp (disch := omega) only [impl_areTrees.l0, if_neg]
      exact Ev.some (by simp)
    | cons x xs ih =>
      intro i h hi
      simp only [List.length_cons] at hi
      have hd := (drop_cons h).2.2
      have hx : x ∈ ts := List.mem_of_mem_drop (by rw [h]; simp)
      have hr : rd_T26 ts (i : Int) = x := by
        unfold rd_T26
        rw [Int.toNat_natCast, List.getD_eq_getElem?_getD, (drop_cons h).2.1]
        rfl
      apply Ev.succ
      simp (disch := omega) only [impl_areTrees.l0, if_pos, hr, w64]
      refine Ev.bind (impl_IsTree_ev x.f0 (hl x hx)) ?_
      cases ht : isT x.f0 with
      | false => exact Ev.neg (by simp) (Ev.some (by simp [ht]))
      | true =>
        refine Ev.pos rfl ?_
        have := ih (i + 1) hd (by omega)
        simpa [ht] using this
  unfold impl_areTrees.f
  exact key ts 0 rfl (by omega)
theorem impl_limited_eq (d : List Int) : impl_limited.f d = some (if d.length > 24 then ([], 3) else (d, 0)) := by
  unfold impl_limited.f
  by_cases c : d.length > 24
  · rw [if_pos c, if_pos (by omega)]
  · rw [if_neg c, if_neg (by omega)]
theorem impl_JoinTrees_ev (ts : List S26) (hn : ts.length ≤ 1048576) (hx : ∀ x ∈ ts, x.f0.length ≤ 1048576) : Ev (fun k => impl_JoinTrees.f k ts) (joinR ts) := by
  have key : ∀ (xs : List S26) (i : Nat) (d : List Int), ts.drop i = xs → i + xs.length = ts.length → d.length ≤ 24 → Ev (fun k => impl_JoinTrees.l0 k d ts (ts.length : Int) (i : Int)) (match jn xs d with | some d => (d, 0) | none => ([], 3)) := by
    intro xs
    induction xs with
    | nil =>
      intro i d h hi hd
      simp only [List.length_nil] at hi
      apply Ev.succ
      simp only [impl_JoinTrees.l0, jn, impl_limited_eq, Option.bind_some]
      refine Ev.neg (by omega) (Ev.some ?_)
      rw [if_neg (by omega)]
    | cons x xs ih =>
      intro i d h hi hd
      simp only [List.length_cons] at hi
      have hmem : x ∈ ts := List.mem_of_mem_drop (by rw [h]; simp)
      have hxl := hx x hmem
      have hr : rd_T26 ts (i : Int) = x := by
        unfold rd_T26
        rw [Int.toNat_natCast, List.getD_eq_getElem?_getD, (drop_cons h).2.1]
        rfl
      apply Ev.succ
      simp only [impl_JoinTrees.l0, hr, jn, Option.bind_some]
      refine Ev.pos (by omega) (Ev.pos (by omega) (Ev.pos (by omega) (Ev.pos (by omega) ?_)))
      by_cases c : (d ++ x.f0).length > 24
      · rw [if_pos c]
        exact Ev.pos (by omega) (Ev.now _)
      · rw [if_neg c, w64 (x := (i : Int) + 1) (by omega), show (i : Int) + 1 = ((i + 1 : Nat) : Int) by omega]
        exact Ev.neg (by omega) (ih (i + 1) _ (drop_cons h).2.2 (by omega) (by omega))
  unfold impl_JoinTrees.f joinR
  refine Ev.bind (impl_areTrees_ev ts (by omega) (fun t ht => by have := hx t ht; omega)) ?_
  by_cases c : (ts.all fun t => isT t.f0) = true
  · rw [if_pos c]
    exact Ev.pos c (key ts 0 _ rfl (by omega) (by simp))
  · rw [if_neg c]
    exact Ev.neg c (Ev.now _)
theorem rdT_at {xs tl : List S26} {x : S26} {i : Nat} (h : xs.drop i = x :: tl) : rd_T26 xs (i : Int) = x := by
  unfold rd_T26
  rw [Int.toNat_natCast, List.getD_eq_getElem?_getD, (drop_cons h).2.1]
  rfl
theorem laws_eqTreeS_ev (R : List S26) (hm : R.length ≤ 2000000) (hx : ∀ x ∈ R, x.f0.length ≤ 140737488351232) : Ev (fun k => laws_eqTreeS.f k R R) true := by
  have key : ∀ (tl : List S26) (i : Nat), R.drop i = tl → i + tl.length = R.length → Ev (fun k => laws_eqTreeS.l0 k R R (i : Int)) true := by
    intro tl
    induction tl with
    | nil =>
      intro i hd hi
      simp only [List.length_nil] at hi
      apply Ev.succ
      simp only [laws_eqTreeS.l0]
      exact Ev.neg (by omega) (Ev.now _)
    | cons x tl ih =>
      intro i hd hi
      simp only [List.length_cons] at hi
      have hr := rdT_at hd
      have hmem : x ∈ R := by
        have : x ∈ R.drop i := by rw [hd]; simp
        exact List.mem_of_mem_drop this
      apply Ev.succ
      simp only [laws_eqTreeS.l0, hr]
      refine Ev.pos (by omega) (Ev.pos (by omega) (Ev.pos (by omega) (Ev.bind (laws_eqTree_ev x.f0 (hx x hmem)) (Ev.pos rfl ?_))))
      rw [w64 (by omega), show (i : Int) + 1 = ((i + 1 : Nat) : Int) by omega]
      exact ih (i + 1) (drop_cons hd).2.2 (by omega)
  unfold laws_eqTreeS.f
  exact Ev.pos rfl (key R 0 rfl (by omega))
/-- all degrees together -/
def totS : List S26 → Nat
  | [] => 0
  | x :: xs => x.f0.length + totS xs
/-- the lists marked, one behind the other -/
def marksS (a : Int) : List S26 → List S26
  | [] => []
  | x :: xs => ⟨marks a x.f0.length⟩ :: marksS (a + x.f0.length) xs
theorem laws_markTreeS_g : ∀ (R : List S26) (a : Int), 0 ≤ a → a + (totS R : Int) ≤ 1000000000000000000 → Ev (fun k => laws_markTreeS.g k R a) (a + totS R, marksS a R) := by
  intro R
  induction R with
  | nil =>
    intro a _ _
    simp only [laws_markTreeS.g]
    exact Ev.some (by simp [totS, marksS])
  | cons x xs ih =>
    intro a ha hm
    simp only [totS] at hm
    simp only [laws_markTreeS.g]
    refine Ev.bind (laws_markInt64S_ev x.f0 a ha (by omega)) (Ev.bind (ih (a + x.f0.length) (by omega) (by omega)) (Ev.some ?_))
    simp only [totS, marksS, Prod.mk.injEq, and_true]
    omega
theorem laws_markTreeS_ev (R : List S26) (a : Int) (hr : R.length ≤ 2000000) (ha : 0 ≤ a) (hm : a + (totS R : Int) ≤ 1000000000000000000) : Ev (fun k => laws_markTreeS.f k R a) (a + totS R, marksS a R) := by
  unfold laws_markTreeS.f
  exact Ev.pos (by omega) (laws_markTreeS_g R a ha hm)
theorem totL_S : ∀ (l : List S24), totS (treesS l) = totL l := by
  intro l
  induction l with
  | nil => rfl
  | cons x xs ih =>
    have : treesS (x :: xs) = ⟨x.f0⟩ :: treesS xs := rfl
    rw [this]
    simp only [totS, totL, ih]
theorem totL_mem : ∀ (l : List S24) (x : S24), x ∈ l → x.f0.length ≤ totL l := by
  intro l
  induction l with
  | nil => intro x h; simp at h
  | cons y ys ih =>
    intro x h
    simp only [totL]
    rcases List.mem_cons.1 h with rfl | h
    · omega
    · have := ih x h; omega
theorem FnExactJoinTrees : ∀ (l : List S24), l.length ≤ maxLen → (∀ x ∈ l, x.f0.length ≤ maxLen) → ∃ k, laws_FnExactJoinTrees.f k l = some true := by
  intro l h1 h2
  unfold maxLen at h1 h2
  apply Ev.rounds
  obtain ⟨s, e1, hs⟩ := laws_szTreeS_ev l (by omega) (fun x hx => by have := h2 x hx; omega)
  unfold laws_FnExactJoinTrees.f
  refine Ev.bind e1 ?_
  by_cases c : s < 0
  · exact Ev.pos c (Ev.now _)
  · have ht : l.length + totL l ≤ 1048576 := by
      rcases hs with hs | hs
      · exact absurd hs c
      · exact hs
    have hX := treesS_length l
    have hT := totL_S l
    have hx : ∀ x ∈ l, x.f0.length ≤ 1048576 := fun x hx => by have := totL_mem l x hx; omega
    have hx2 : ∀ x ∈ treesS l, x.f0.length ≤ 1048576 := by
      intro x h
      obtain ⟨y, hy, rfl⟩ := List.mem_map.1 h
      exact hx y hy
    have hR := joinR_length (treesS l)
    refine Ev.neg c (Ev.bind (laws_toTreeS_ev l (by omega) hx) (Ev.bind (spec_JoinTrees_ev (treesS l) (by omega) hx2) (Ev.bind (impl_JoinTrees_ev (treesS l) (by omega) hx2) (Ev.pos rfl ?_))))
    refine Ev.bind (laws_eqTree_ev _ (by omega)) (Ev.pos rfl (Ev.bind (laws_eqTreeS_ev (treesS l) (by omega) (fun x h => by have := hx2 x h; omega)) (Ev.pos rfl ?_)))
    refine Ev.bind (laws_markTreeS_ev (treesS l) 1 (by omega) (by omega) (by omega)) (Ev.pos (by dsimp only; omega) ?_)
    refine Ev.bind (laws_markTree_ev _ 1 (by omega) (by omega)) (Ev.bind (laws_heldTree_ev _ 1 (by omega) (by omega)) (Ev.pos rfl (Ev.pos (by omega) (Ev.now _))))

end Go.Proofs.Ytjecelgbfmpnaaa.Pure
