/- The pure statement of the law FnExactInnerOrder is proved. Conditions: those of the statement alone. -/
import Derived.Test.YtjpmichlhagbcaaQFnExactInnerOrderx3
import Derived.Test.YtjpmichlhagbcaaBase
import Derived.Test.YtjpmichlhagbcaaBase2
import Derived.Test.YtjpmichlhagbcaaBin
import Derived.Test.YtjpmichlhagbcaaBase3
import Derived.Test.YtjpmichlhagbcaaBase4
import Derived.Test.YtjpmichlhagbcaaBase5
import Derived.Test.YtjpmichlhagbcaaBase6
import Derived.Test.YtjpmichlhagbcaaBin2
import Derived.Test.YtjpmichlhagbcaaNum
namespace Go.Proofs.Ytjpmichlhagbcaa.Pure
open Go.RowKit Go.Proofs.Ytjpmichlhagbcaa.QFnExactInnerOrder Go.Proofs.Ytjpmichlhagbcaa.Base Go.Proofs.YtjpmichlhagbcaaW.PrintWords Go.Proofs.YtjpmichlhagbcaaW.PrintLast Go.Proofs.YtjpmichlhagbcaaW.PrintMore
open Go.Proofs.Ytjpmichlhagbcaa.Base.F
set_option linter.unusedVariables false
set_option linter.unusedSimpArgs false

theorem laws_eqInt64S_ev (xs : List Int) (hm : xs.length ≤ 140737488351232) : Ev (fun k => laws_eqInt64S.f k xs xs) true := by
  have key : ∀ (d i : Nat), i + d = xs.length → Ev (fun k => laws_eqInt64S.l0 k xs xs i) true := by
    intro d
    induction d with
    | zero =>
      intro i h
      apply Ev.succ
      simp (disch := omega) only [laws_eqInt64S.l0, if_pos, if_neg]
      exact Ev.now _
    | succ d ih =>
      intro i h
      apply Ev.succ
      simp (disch := omega) only [laws_eqInt64S.l0, if_pos, if_neg, w64]
      exact ih (i + 1) (by omega)
  unfold laws_eqInt64S.f
  exact Ev.pos rfl (key xs.length 0 (by omega))
theorem laws_markInt64S_ev (xs : List Int) (a : Int) (ha : 0 ≤ a) (hm : a + (xs.length : Int) ≤ 1000000000000000000) :
    Ev (fun k => laws_markInt64S.f k xs a) (a + xs.length, marks a xs.length) := by
  have key : ∀ (d i : Nat) (ys : List Int), i + d = xs.length → ys.length = xs.length → ys.take i = marks a i →
      Ev (fun k => laws_markInt64S.l0 k ys (a + i) i) (a + xs.length, marks a xs.length) := by
    intro d
    induction d with
    | zero =>
      intro i ys h hl ht
      apply Ev.succ
      simp (disch := omega) only [laws_markInt64S.l0, if_pos, if_neg]
      refine Ev.some ?_
      rw [show i = xs.length by omega] at ht ⊢
      rw [← ht, List.take_of_length_le (by omega)]
    | succ d ih =>
      intro i ys h hl ht
      apply Ev.succ
      simp (disch := omega) only [laws_markInt64S.l0, if_pos, if_neg, w64]
      have := ih (i + 1) (ys.set i (a + i)) (by omega) (by rw [List.length_set, hl]) (by rw [marks_succ, ← ht, take_set_succ _ _ _ (by omega)])
      rw [show a + ((i + 1 : Nat) : Int) = a + i + 1 by omega] at this
      exact this
  unfold laws_markInt64S.f
  have := key xs.length 0 xs (by omega) rfl (by simp [marks])
  simpa using this
theorem laws_heldInt64S_ev (n : Nat) (a : Int) (ha : 0 ≤ a) (hm : a + (n : Int) ≤ 1000000000000000000) :
    Ev (fun k => laws_heldInt64S.f k (marks a n) a) (a + n) := by
  have key : ∀ (d i : Nat), i + d = n → Ev (fun k => laws_heldInt64S.l0 k (marks a n) (a + i) i) (a + n) := by
    intro d
    induction d with
    | zero =>
      intro i h
      have hl := marks_length a n
      apply Ev.succ
      simp (disch := omega) only [laws_heldInt64S.l0, if_pos, if_neg]
      refine Ev.some ?_
      omega
    | succ d ih =>
      intro i h
      have hl := marks_length a n
      have hr := rd_marks a n i (by omega)
      apply Ev.succ
      simp (disch := omega) only [laws_heldInt64S.l0, if_pos, if_neg, w64, hr]
      have := ih (i + 1) (by omega)
      rw [show a + ((i + 1 : Nat) : Int) = a + i + 1 by omega] at this
      exact this
  unfold laws_heldInt64S.f
  simpa using key n 0 (by omega)
theorem spec_l03End_ev (w : List UInt8) (hm : w.length ≤ 140737488351232) (at0 : Nat) (ha : at0 ≤ w.length) :
    Ev (fun k => spec_l03End.f k (S w) at0) (match scanB (w.drop at0) 1 with | some rest => (w.length : Int) - rest.length | none => -1) := by
  have key : ∀ (l : List UInt8) (i n : Nat), w.drop i = l → i + l.length = w.length → n ≤ 1 + i →
      Ev (fun k => spec_l03End.l0 k (S w) i n) (match scanB l n with | some rest => (w.length : Int) - rest.length | none => -1) := by
    intro l
    induction l with
    | nil =>
      intro i n h hi hn
      apply Ev.succ
      cases n with
      | zero =>
        simp (disch := omega) only [spec_l03End.l0, if_neg, scanB]
        exact Ev.some (by simp at hi ⊢; omega)
      | succ n =>
        have hs := S_size w
        simp only [List.length_nil] at hi
        simp (disch := omega) only [spec_l03End.l0, if_pos, scanB]
        apply Ev.succ
        simp only [spec_l03End.j1, if_true]
        exact Ev.now _
    | cons c l ih =>
      intro i n h hi hn
      apply Ev.succ
      simp only [List.length_cons] at hi
      cases n with
      | zero =>
        simp (disch := omega) only [spec_l03End.l0, if_neg, scanB]
        exact Ev.some (by simp; omega)
      | succ n =>
        have hs := S_size w
        have hb := S_bt_drop h
        have hd := (drop_cons h).2.2
        simp (disch := omega) only [spec_l03End.l0, if_pos, if_neg, hb, scanB]
        by_cases c0 : c = 48
        · rw [if_pos c0]
          refine Ev.pos (by rw [c0]; rfl) (Ev.succ ?_)
          simp (disch := omega) only [spec_l03End.j1, if_pos, if_neg, hb, w64]
          simp only [Bool.false_eq_true, if_false]
          refine Ev.neg (by rw [c0]; decide) ?_
          have := ih (i + 1) n hd (by omega) (by omega)
          rw [show ((n + 1 : Nat) : Int) - 1 = (n : Int) by omega]
          exact this
        · rw [if_neg c0]
          refine Ev.neg (fun e => c0 ((byte_eq c 48).1 e)) (Ev.succ ?_)
          by_cases c1 : c = 49
          · rw [if_pos c1]
            simp (disch := omega) only [spec_l03End.j1, if_pos, if_neg, hb, w64]
            refine Ev.neg (by rw [c1]; decide) (Ev.pos (by rw [c1]; rfl) ?_)
            have := ih (i + 1) (n + 2) hd (by omega) (by omega)
            rw [show ((n + 1 : Nat) : Int) + 1 = ((n + 2 : Nat) : Int) by omega]
            exact this
          · rw [if_neg c1]
            simp only [spec_l03End.j1]
            refine Ev.pos ?_ (Ev.now _)
            rw [bne_iff_ne]
            exact fun e => c1 ((byte_eq c 49).1 e)
  unfold spec_l03End.f
  exact key (w.drop at0) at0 1 rfl (by rw [List.length_drop]; omega) (by omega)
theorem spec_l03Is_ev (w : List UInt8) (hm : w.length ≤ 140737488351232) : Ev (fun k => spec_l03Is.f k (S w)) (isB w) := by
  have hs := S_size w
  unfold spec_l03Is.f isB
  by_cases c : w.length ≤ 47
  · refine Ev.pos (by omega) (Ev.bind (spec_l03End_ev w hm 0 (by omega)) (Ev.some ?_))
    rw [decide_eq_true c, Bool.true_and, List.drop_zero, hs, Bool.eq_iff_iff]
    cases h : scanB w 1 with
    | none => simp
    | some rest =>
      simp only [beq_iff_eq, Option.some.injEq]
      constructor
      · intro e; exact List.eq_nil_of_length_eq_zero (by omega)
      · intro e; subst e; simp
  · refine Ev.neg (by omega) (Ev.some ?_)
    rw [decide_eq_false c, Bool.false_and]
theorem spec_l03Sides_ev (l r : F) (h : sz l + sz r ≤ 1000) : Ev (fun m => spec_l03Sides.f m (S (bin (cons l r)))) (S (bin l), S (bin r)) := by
  have hl := bin_length l
  have hr := bin_length r
  have hs := S_size (bin (cons l r))
  have hb := bin_length (cons l r)
  have e := spec_l03End_ev (bin (cons l r)) (by rw [hb]; simp only [sz]; omega) 1 (by omega)
  have hd : (bin (cons l r)).drop 1 = bin l ++ bin r := rfl
  have hsc : scanB (bin l ++ bin r) 1 = some (bin r) := by rw [scanB_bin]; simp [scanB]
  rw [hd, hsc] at e
  simp only [sz] at hb
  have ht : ((bin (cons l r)).length : Int) - (bin r).length = ((1 + (bin l).length : Nat) : Int) := by omega
  simp only [ht] at e
  unfold spec_l03Sides.f
  refine Ev.bind e (Ev.pos (by omega) (Ev.pos (by omega) (Ev.pos (by omega) (Ev.some ?_))))
  rw [Int.toNat_natCast, S_extract, S_extract, S_size]
  have e1 : ((bin (cons l r)).take (1 + (bin l).length)).drop 1 = bin l := by
    rw [Nat.add_comm]; simp [bin]
  have e2 : ((bin (cons l r)).take (bin (cons l r)).length).drop (1 + (bin l).length) = bin r := by
    rw [List.take_length, Nat.add_comm]
    simp [bin]
  rw [e1, e2]
theorem spec_l03N_eq (w : List UInt8) (h : w.length ≤ 140737488351232) : spec_l03N.f (S w) = some ((w.length : Int) / 2) := by
  unfold spec_l03N.f
  rw [S_size, w64 (by omega)]
theorem spec_l03Inner_ev : ∀ (f : F) (a : Nat), a + sz f ≤ 1000 → Ev (fun m => spec_l03Inner.f m (S (bin f)) a) (inn a f) := by
  intro f
  induction f with
  | nil =>
    intro a _
    refine Ev.step (fun k => by rw [spec_l03Inner.f]) ?_
    exact Ev.pos ((bin_is_nil nil).2 rfl) (Ev.now _)
  | cons l r hl hr =>
    intro a h
    simp only [sz] at h
    have b1 := inn_length l (a + 1)
    have b2 := inn_length r (a + 1 + sz l)
    have bb := bin_length l
    have e1 := hl (a + 1) (by omega)
    have e2 := hr (a + 1 + sz l) (by omega)
    have hw1 : wrap64 ((a : Int) + 1) = ((a + 1 : Nat) : Int) := by rw [w64 (by omega)]; omega
    have hw2 : wrap64 (((a + 1 : Nat) : Int) + ((bin l).length : Int) / 2) = ((a + 1 + sz l : Nat) : Int) := by rw [w64 (by omega)]; omega
    refine Ev.step (fun k => by rw [spec_l03Inner.f]) ?_
    refine Ev.neg (fun x => by cases (bin_is_nil _).1 x) (Ev.bind (spec_l03Sides_ev l r (by omega)) ?_)
    rw [hw1]
    refine Ev.bind e1 (Ev.pos (by omega) ?_)
    simp only [Option.bind_some]
    refine Ev.bind (Ev.const (spec_l03N_eq (bin l) (by omega))) ?_
    rw [hw2]
    refine Ev.bind e2 (Ev.pos (by simp; omega) (Ev.some ?_))
    simp [inn]
theorem spec_InnerOrder_ev (w : List UInt8) (hm : w.length ≤ 140737488351232) {R} (h : binR (inn 0) [] w R) : Ev (fun m => spec_InnerOrder.f m (S w)) R := by
  have e := spec_l03Is_ev w hm
  rcases h with ⟨h, rfl⟩ | ⟨f, rfl, hk, h, rfl⟩
  · rw [h] at e
    unfold spec_InnerOrder.f
    exact Ev.bind e (Ev.neg (by simp) (Ev.now _))
  · rw [h] at e
    unfold spec_InnerOrder.f
    refine Ev.bind e (Ev.pos rfl ?_)
    exact Ev.bind (spec_l03Inner_ev f 0 (by omega)) (Ev.now _)
theorem impl_endBinary_ev (w : List UInt8) (hm : w.length ≤ 140737488351232) :
    Ev (fun k => impl_endBinary.f k (S w)) (match scanB w 1 with | some rest => (S rest, true) | none => (S [], false)) := by
  have key : ∀ (l : List UInt8) (n : Nat), (n : Int) + l.length ≤ 140737488351233 →
      Ev (fun k => impl_endBinary.l0 k (S l) n) (match scanB l n with | some rest => (S rest, true) | none => (S [], false)) := by
    intro l
    induction l with
    | nil =>
      intro n hn
      apply Ev.succ
      cases n with
      | zero =>
        simp (disch := omega) only [impl_endBinary.l0, if_neg, scanB]
        exact Ev.now _
      | succ n =>
        simp (disch := omega) only [impl_endBinary.l0, if_pos, scanB, S_toList]
        apply Ev.succ
        simp only [impl_endBinary.j1, if_true]
        exact Ev.now _
    | cons c l ih =>
      intro n hn
      simp only [List.length_cons] at hn
      apply Ev.succ
      cases n with
      | zero =>
        simp (disch := omega) only [impl_endBinary.l0, if_neg, scanB]
        exact Ev.now _
      | succ n =>
        have hs : (S (c :: l)).size = l.length + 1 := S_size (c :: l)
        have hb : bt (S (c :: l)) 0 = (c.toNat : Int) := S_bt_drop (i := 0) rfl
        have hx : (S (c :: l)).extract 1 (S (c :: l)).size = S l := by rw [hs, S_extract]; simp
        have hne : ¬ ((S (c :: l)).toList = ([] : List UInt8)) := by rw [S_toList]; simp
        simp (disch := omega) only [impl_endBinary.l0, if_pos, hb, scanB]
        refine Ev.neg hne ?_
        by_cases c0 : c = 48
        · rw [if_pos c0]
          refine Ev.pos (by rw [c0]; rfl) (Ev.succ ?_)
          simp (disch := omega) only [impl_endBinary.j1, if_pos, if_neg, hb, hx, w64]
          simp only [Bool.false_eq_true, if_false]
          refine Ev.neg (by rw [c0]; decide) ?_
          have := ih n (by omega)
          rw [show ((n + 1 : Nat) : Int) - 1 = (n : Int) by omega]
          exact this
        · rw [if_neg c0]
          refine Ev.neg (fun e => c0 ((byte_eq c 48).1 e)) (Ev.succ ?_)
          by_cases c1 : c = 49
          · rw [if_pos c1]
            simp (disch := omega) only [impl_endBinary.j1, if_pos, if_neg, hb, hx, w64]
            refine Ev.neg (by rw [c1]; decide) (Ev.pos (by rw [c1]; rfl) ?_)
            have := ih (n + 2) (by omega)
            rw [show ((n + 1 : Nat) : Int) + 1 = ((n + 2 : Nat) : Int) by omega]
            exact this
          · rw [if_neg c1]
            simp only [impl_endBinary.j1]
            refine Ev.pos ?_ (Ev.now _)
            rw [bne_iff_ne]
            exact fun e => c1 ((byte_eq c 49).1 e)
  unfold impl_endBinary.f
  exact key w 1 (by omega)
theorem impl_IsBinary_ev (w : List UInt8) (hm : w.length ≤ 140737488351232) : Ev (fun k => impl_IsBinary.f k (S w)) (isB w) := by
  have hs := S_size w
  unfold impl_IsBinary.f isB
  by_cases c : w.length ≤ 47
  · refine Ev.neg (by omega) (Ev.bind (impl_endBinary_ev w hm) ?_)
    rw [decide_eq_true c, Bool.true_and]
    cases h : scanB w 1 with
    | none => exact Ev.neg (by simp) (Ev.some (by simp))
    | some rest =>
      refine Ev.pos rfl (Ev.some ?_)
      rw [S_toList, Bool.eq_iff_iff]
      simp
  · refine Ev.pos (by omega) (Ev.some ?_)
    rw [decide_eq_false c, Bool.false_and]
theorem impl_sides_ev (l r : F) (h : sz l + sz r ≤ 1000) : Ev (fun m => impl_sides.f m (S (bin (cons l r)))) (S (bin l), S (bin r)) := by
  have hl := bin_length l
  have hr := bin_length r
  have hs := S_size (bin (cons l r))
  have hb := bin_length (cons l r)
  simp only [sz] at hb
  have hx : (S (bin (cons l r))).extract 1 (S (bin (cons l r))).size = S (bin l ++ bin r) := by
    rw [S_extract, S_size, List.take_length]
    rfl
  have e := impl_endBinary_ev (bin l ++ bin r) (by rw [List.length_append]; omega)
  have hsc : scanB (bin l ++ bin r) 1 = some (bin r) := by rw [scanB_bin]; simp [scanB]
  rw [hsc] at e
  have hs2 := S_size (bin r)
  unfold impl_sides.f
  rw [hx]
  refine Ev.pos (by omega) (Ev.bind e ?_)
  simp only [hs, hs2]
  rw [w64 (by omega)]
  refine Ev.pos (by omega) (Ev.pos (by omega) (Ev.some ?_))
  rw [show (((bin (cons l r)).length : Int) - ((bin r).length : Int)).toNat = 1 + (bin l).length by omega, S_extract]
  have e1 : ((bin (cons l r)).take (1 + (bin l).length)).drop 1 = bin l := by
    rw [Nat.add_comm]; simp [bin]
  rw [e1]
theorem impl_nodesOf_eq (w : List UInt8) (h : w.length ≤ 140737488351232) : impl_nodesOf.f (S w) = some ((w.length : Int) / 2) := by
  unfold impl_nodesOf.f
  rw [S_size, w64 (by omega)]
theorem slices_Grow_int64_int64_eq (n : Int) (h : 0 ≤ n) (h' : n ≤ 1000000) : slices_Grow_int64_int64.f [] n = some [] := by
  unfold slices_Grow_int64_int64.f
  rw [if_pos rfl, if_pos h, if_pos h']
theorem slices_Concat_int64_int64_ev (ls : List (List Int)) (hn : ls.length ≤ 1000) (hl : ls.flatten.length ≤ 100000) : Ev (fun m => slices_Concat_int64_int64.f m ls) ls.flatten := by
  have hrd : ∀ {xs : List (List Int)} {x : List Int} {i : Nat}, ls.drop i = x :: xs → rd_L1 ls (i : Int) = x := by
    intro xs x i h
    unfold rd_L1
    rw [Int.toNat_natCast, List.getD_eq_getElem?_getD, (drop_cons h).2.1]
    rfl
  have l1 : ∀ (xs : List (List Int)) (i : Nat) (out : List Int), ls.drop i = xs → i + xs.length = ls.length → out.length + xs.flatten.length ≤ 100000 →
      Ev (fun m => slices_Concat_int64_int64.l1 m out ls ls.length i) (out ++ xs.flatten) := by
    intro xs
    induction xs with
    | nil =>
      intro i out h hi ho
      simp only [List.length_nil] at hi
      refine Ev.step (fun k => by rw [slices_Concat_int64_int64.l1]) ?_
      exact Ev.neg (by omega) (Ev.some (by simp))
    | cons x xs ih =>
      intro i out h hi ho
      have hr := hrd h
      have hd := (drop_cons h).2.2
      simp only [List.length_cons] at hi
      rw [List.flatten_cons, List.length_append] at ho
      refine Ev.step (fun k => by rw [slices_Concat_int64_int64.l1]) ?_
      refine Ev.pos (by omega) (Ev.pos (by omega) (Ev.pos (by omega) ?_))
      rw [hr, w64 (by omega)]
      refine Ev.pos (by omega) ?_
      have := ih (i + 1) (out ++ x) hd (by omega) (by rw [List.length_append]; omega)
      rw [List.flatten_cons, ← List.append_assoc]
      exact this
  have l0 : ∀ (xs : List (List Int)) (i : Nat) (n : Nat), ls.drop i = xs → i + xs.length = ls.length → n + xs.flatten.length ≤ 100000 →
      Ev (fun m => slices_Concat_int64_int64.l0 m ls n ls ls.length i) ls.flatten := by
    intro xs
    induction xs with
    | nil =>
      intro i n h hi ho
      simp only [List.length_nil] at hi
      refine Ev.step (fun k => by rw [slices_Concat_int64_int64.l0]) ?_
      refine Ev.neg (by omega) (Ev.bind (Ev.const (slices_Grow_int64_int64_eq n (by omega) (by omega))) ?_)
      exact l1 ls 0 [] rfl (by omega) (by simpa using hl)
    | cons x xs ih =>
      intro i n h hi ho
      have hr := hrd h
      have hd := (drop_cons h).2.2
      simp only [List.length_cons] at hi
      rw [List.flatten_cons, List.length_append] at ho
      refine Ev.step (fun k => by rw [slices_Concat_int64_int64.l0]) ?_
      refine Ev.pos (by omega) (Ev.pos (by omega) (Ev.pos (by omega) ?_))
      rw [hr, w64 (x := (n : Int) + (x.length : Int)) (by omega), w64 (by omega)]
      refine Ev.neg (by omega) ?_
      have := ih (i + 1) (n + x.length) hd (by omega) (by omega)
      rw [show ((n + x.length : Nat) : Int) = (n : Int) + (x.length : Int) by omega] at this
      exact this
  unfold slices_Concat_int64_int64.f
  exact l0 ls 0 0 rfl (by omega) (by omega)
theorem impl_inner_ev : ∀ (f : F) (a : Nat), a + sz f ≤ 1000 → Ev (fun m => impl_inner.f m (S (bin f)) a) (inn a f) := by
  intro f
  induction f with
  | nil =>
    intro a _
    refine Ev.step (fun k => by rw [impl_inner.f]) ?_
    exact Ev.pos ((bin_is_nil nil).2 rfl) (Ev.now _)
  | cons l r hl hr =>
    intro a h
    simp only [sz] at h
    have b1 := inn_length l (a + 1)
    have b2 := inn_length r (a + 1 + sz l)
    have bb := bin_length l
    have e1 := hl (a + 1) (by omega)
    have e2 := hr (a + 1 + sz l) (by omega)
    have hw1 : wrap64 ((a : Int) + 1) = ((a + 1 : Nat) : Int) := by rw [w64 (by omega)]; omega
    have hw2 : wrap64 (((a + 1 : Nat) : Int) + ((bin l).length : Int) / 2) = ((a + 1 + sz l : Nat) : Int) := by rw [w64 (by omega)]; omega
    refine Ev.step (fun k => by rw [impl_inner.f]) ?_
    refine Ev.neg (fun x => by cases (bin_is_nil _).1 x) (Ev.bind (impl_sides_ev l r (by omega)) ?_)
    rw [hw1]
    refine Ev.bind e1 (Ev.bind (Ev.const (impl_nodesOf_eq (bin l) (by omega))) ?_)
    rw [hw2]
    refine Ev.bind e2 (Ev.bind (slices_Concat_int64_int64_ev _ (by simp) (by simp; omega)) (Ev.some ?_))
    simp [inn]
theorem impl_InnerOrder_ev (w : List UInt8) (hm : w.length ≤ 140737488351232) {R} (h : binR (inn 0) [] w R) : Ev (fun m => impl_InnerOrder.f m (S w)) R := by
  have e := impl_IsBinary_ev w hm
  rcases h with ⟨h, rfl⟩ | ⟨f, rfl, hk, h, rfl⟩
  · rw [h] at e
    unfold impl_InnerOrder.f
    exact Ev.bind e (Ev.neg (by simp) (Ev.now _))
  · rw [h] at e
    unfold impl_InnerOrder.f
    refine Ev.bind e (Ev.pos rfl ?_)
    exact Ev.bind (impl_inner_ev f 0 (by omega)) (Ev.now _)
theorem FnExactInnerOrder : ∀ (a0 : ByteArray), a0.size ≤ 140737488351232 → ∃ k, laws_FnExactInnerOrder.f k a0 = some true := by
  intro a0 hm
  obtain ⟨w, rfl⟩ := S_of a0
  have hs := S_size w
  apply Ev.rounds
  unfold laws_FnExactInnerOrder.f
  by_cases c : ((S w).size : Int) > 1048576
  · exact Ev.pos c (Ev.now _)
  · obtain ⟨R, hR⟩ := binR_ex (inn 0) [] w
    have e1 := spec_InnerOrder_ev w (by omega) hR
    have e2 := impl_InnerOrder_ev w (by omega) hR
    have hb := binR_len hR inn_len
    have e3 := laws_eqInt64S_ev R.1 (by omega)
    have e4 := laws_markInt64S_ev R.1 1 (by omega) (by omega)
    have e5 := laws_heldInt64S_ev R.1.length 1 (by omega) (by omega)
    refine Ev.neg c ?_
    repeat' (first
      | exact Ev.now _
      | (with_reducible refine Ev.bind e1 ?_; try dsimp only)
      | (with_reducible refine Ev.bind e2 ?_; try dsimp only)
      | (with_reducible refine Ev.bind e3 ?_; try dsimp only)
      | (with_reducible refine Ev.bind e4 ?_; try dsimp only)
      | (with_reducible refine Ev.bind e5 ?_; try dsimp only)
      | ((with_reducible apply Ev.pos); (solve | rfl | trivial | omega))
      | ((with_reducible apply Ev.neg); (solve | omega | simp))
      | (apply Ev.succ; simp only [laws_FnExactInnerOrder.j0, laws_FnExactInnerOrder.j1]))

end Go.Proofs.Ytjpmichlhagbcaa.Pure
