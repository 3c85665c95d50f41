/- The pure statement of the law FnExactIsAtMost is proved. Conditions: those of the statement alone. -/
import Derived.Test.YtjpmichlhagbcaaQFnExactIsAtMostx3
import Derived.Test.YtjpmichlhagbcaaBase
import Derived.Test.YtjpmichlhagbcaaBase2
import Derived.Test.YtjpmichlhagbcaaBin
import Derived.Test.YtjpmichlhagbcaaBase3
import Derived.Test.YtjpmichlhagbcaaBase4
import Derived.Test.YtjpmichlhagbcaaBase5
import Derived.Test.YtjpmichlhagbcaaBase6
import Derived.Test.YtjpmichlhagbcaaBin2
import Derived.Test.YtjpmichlhagbcaaNum
namespace Go.Proofs.Ytjpmichlhagbcaa.Pure
open Go.RowKit Go.Proofs.Ytjpmichlhagbcaa.QFnExactIsAtMost Go.Proofs.Ytjpmichlhagbcaa.Base Go.Proofs.YtjpmichlhagbcaaW.PrintWords Go.Proofs.YtjpmichlhagbcaaW.PrintLast Go.Proofs.YtjpmichlhagbcaaW.PrintMore
open Go.Proofs.Ytjpmichlhagbcaa.Base.F
set_option linter.unusedVariables false
set_option linter.unusedSimpArgs false

theorem spec_l03End_ev (w : List UInt8) (hm : w.length ≤ 140737488351232) (at0 : Nat) (ha : at0 ≤ w.length) :
    Ev (fun k => spec_l03End.f k (S w) at0) (match scanB (w.drop at0) 1 with | some rest => (w.length : Int) - rest.length | none => -1) := by
  have key : ∀ (l : List UInt8) (i n : Nat), w.drop i = l → i + l.length = w.length → n ≤ 1 + i →
      Ev (fun k => spec_l03End.l0 k (S w) i n) (match scanB l n with | some rest => (w.length : Int) - rest.length | none => -1) := by
    intro l
    induction l with
    | nil =>
      intro i n h hi hn
      apply Ev.succ
      cases n with
      | zero =>
        simp (disch := omega) only [spec_l03End.l0, if_neg, scanB]
        exact Ev.some (by simp at hi ⊢; omega)
      | succ n =>
        have hs := S_size w
        simp only [List.length_nil] at hi
        simp (disch := omega) only [spec_l03End.l0, if_pos, scanB]
        apply Ev.succ
        simp only [spec_l03End.j1, if_true]
        exact Ev.now _
    | cons c l ih =>
      intro i n h hi hn
      apply Ev.succ
      simp only [List.length_cons] at hi
      cases n with
      | zero =>
        simp (disch := omega) only [spec_l03End.l0, if_neg, scanB]
        exact Ev.some (by simp; omega)
      | succ n =>
        have hs := S_size w
        have hb := S_bt_drop h
        have hd := (drop_cons h).2.2
        simp (disch := omega) only [spec_l03End.l0, if_pos, if_neg, hb, scanB]
        by_cases c0 : c = 48
        · rw [if_pos c0]
          refine Ev.pos (by rw [c0]; rfl) (Ev.succ ?_)
          simp (disch := omega) only [spec_l03End.j1, if_pos, if_neg, hb, w64]
          simp only [Bool.false_eq_true, if_false]
          refine Ev.neg (by rw [c0]; decide) ?_
          have := ih (i + 1) n hd (by omega) (by omega)
          rw [show ((n + 1 : Nat) : Int) - 1 = (n : Int) by omega]
          exact this
        · rw [if_neg c0]
          refine Ev.neg (fun e => c0 ((byte_eq c 48).1 e)) (Ev.succ ?_)
          by_cases c1 : c = 49
          · rw [if_pos c1]
            simp (disch := omega) only [spec_l03End.j1, if_pos, if_neg, hb, w64]
            refine Ev.neg (by rw [c1]; decide) (Ev.pos (by rw [c1]; rfl) ?_)
            have := ih (i + 1) (n + 2) hd (by omega) (by omega)
            rw [show ((n + 1 : Nat) : Int) + 1 = ((n + 2 : Nat) : Int) by omega]
            exact this
          · rw [if_neg c1]
            simp only [spec_l03End.j1]
            refine Ev.pos ?_ (Ev.now _)
            rw [bne_iff_ne]
            exact fun e => c1 ((byte_eq c 49).1 e)
  unfold spec_l03End.f
  exact key (w.drop at0) at0 1 rfl (by rw [List.length_drop]; omega) (by omega)
theorem spec_l03Sides_ev (l r : F) (h : sz l + sz r ≤ 1000) : Ev (fun m => spec_l03Sides.f m (S (bin (cons l r)))) (S (bin l), S (bin r)) := by
  have hl := bin_length l
  have hr := bin_length r
  have hs := S_size (bin (cons l r))
  have hb := bin_length (cons l r)
  have e := spec_l03End_ev (bin (cons l r)) (by rw [hb]; simp only [sz]; omega) 1 (by omega)
  have hd : (bin (cons l r)).drop 1 = bin l ++ bin r := rfl
  have hsc : scanB (bin l ++ bin r) 1 = some (bin r) := by rw [scanB_bin]; simp [scanB]
  rw [hd, hsc] at e
  simp only [sz] at hb
  have ht : ((bin (cons l r)).length : Int) - (bin r).length = ((1 + (bin l).length : Nat) : Int) := by omega
  simp only [ht] at e
  unfold spec_l03Sides.f
  refine Ev.bind e (Ev.pos (by omega) (Ev.pos (by omega) (Ev.pos (by omega) (Ev.some ?_))))
  rw [Int.toNat_natCast, S_extract, S_extract, S_size]
  have e1 : ((bin (cons l r)).take (1 + (bin l).length)).drop 1 = bin l := by
    rw [Nat.add_comm]; simp [bin]
  have e2 : ((bin (cons l r)).take (bin (cons l r)).length).drop (1 + (bin l).length) = bin r := by
    rw [List.take_length, Nat.add_comm]
    simp [bin]
  rw [e1, e2]
theorem spec_l03N_eq (w : List UInt8) (h : w.length ≤ 140737488351232) : spec_l03N.f (S w) = some ((w.length : Int) / 2) := by
  unfold spec_l03N.f
  rw [S_size, w64 (by omega)]
theorem spec_l03Vector_ev : ∀ (f : F), sz f ≤ 1000 → Ev (fun m => spec_l03Vector.f m (S (bin f))) (vec f) := by
  intro f
  induction f with
  | nil =>
    intro _
    refine Ev.step (fun k => by rw [spec_l03Vector.f]) ?_
    exact Ev.pos ((bin_is_nil nil).2 rfl) (Ev.now _)
  | cons l r hl hr =>
    intro h
    simp only [sz] at h
    have b1 := vec_length l
    have b2 := vec_length r
    have bb := bin_length r
    refine Ev.step (fun k => by rw [spec_l03Vector.f]) ?_
    refine Ev.neg (fun x => by cases (bin_is_nil _).1 x) (Ev.bind (spec_l03Sides_ev l r (by omega)) (Ev.bind (hl (by omega)) (Ev.bind (Ev.const (spec_l03N_eq (bin r) (by omega))) (Ev.pos (by omega) ?_))))
    simp only [Option.bind_some]
    refine Ev.bind (hr (by omega)) (Ev.pos (by simp; omega) (Ev.some ?_))
    rw [show ((bin r).length : Int) / 2 = (sz r : Int) by omega]
    simp [vec]
theorem spec_l03Is_ev (w : List UInt8) (hm : w.length ≤ 140737488351232) : Ev (fun k => spec_l03Is.f k (S w)) (isB w) := by
  have hs := S_size w
  unfold spec_l03Is.f isB
  by_cases c : w.length ≤ 47
  · refine Ev.pos (by omega) (Ev.bind (spec_l03End_ev w hm 0 (by omega)) (Ev.some ?_))
    rw [decide_eq_true c, Bool.true_and, List.drop_zero, hs, Bool.eq_iff_iff]
    cases h : scanB w 1 with
    | none => simp
    | some rest =>
      simp only [beq_iff_eq, Option.some.injEq]
      constructor
      · intro e; exact List.eq_nil_of_length_eq_zero (by omega)
      · intro e; subst e; simp
  · refine Ev.neg (by omega) (Ev.some ?_)
    rw [decide_eq_false c, Bool.false_and]
theorem spec_l03Both_ev (v w : List UInt8) (hv : v.length ≤ 140737488351232) (hw : w.length ≤ 140737488351232) : Ev (fun m => spec_l03Both.f m (S v) (S w)) (bothV v w) := by
  have key : ∀ b : Bool, (b = false ↔ isB v = true ∧ isB w = true) → Ev (fun m => spec_l03Both.j0 m (S v) (S w) b) (bothV v w) := by
    intro b hb
    refine Ev.step (fun k => by rw [spec_l03Both.j0]) ?_
    rw [S_size, S_size]
    unfold bothV
    cases b with
    | true =>
      refine Ev.pos rfl (Ev.some ?_)
      rw [if_neg (fun h => by have := hb.2 h; cases this)]
    | false =>
      rw [if_pos (hb.1 rfl)]
      refine Ev.neg (by simp) ?_
      by_cases c : v.length = w.length
      · rw [if_pos c]
        exact Ev.pos (by omega) (Ev.now _)
      · rw [if_neg c]
        exact Ev.neg (by omega) (Ev.now _)
  unfold spec_l03Both.f
  refine Ev.bind (spec_l03Is_ev v hv) ?_
  cases h1 : isB v with
  | false => exact Ev.neg (by simp) (key true (by simp [h1]))
  | true => exact Ev.pos rfl (Ev.bind (spec_l03Is_ev w hw) (key _ (by cases h2 : isB w <;> simp [h1, h2])))
theorem spec_IsAtMost_l0 (a b : List Int) (hl : a.length = b.length) (hb : a.length ≤ 1000) : ∀ (xs ys : List Int) (i : Nat), a.drop i = xs → b.drop i = ys → i + xs.length = a.length → i + ys.length = b.length →
    Ev (fun m => spec_IsAtMost.l0 m a b i) (leV xs ys, 0) := by
  intro xs
  induction xs with
  | nil =>
    intro ys i h1 h2 hi hj
    simp only [List.length_nil] at hi
    refine Ev.step (fun k => by rw [spec_IsAtMost.l0]) ?_
    exact Ev.neg (by omega) (Ev.some (by cases ys <;> rfl))
  | cons x xs ih =>
    intro ys i h1 h2 hi hj
    cases ys with
    | nil => simp only [List.length_cons, List.length_nil] at hi hj; omega
    | cons y ys =>
      simp only [List.length_cons] at hi hj
      have r1 := rd_drop h1
      have r2 := rd_drop h2
      have d1 := (drop_cons h1).2.2
      have d2 := (drop_cons h2).2.2
      refine Ev.step (fun k => by rw [spec_IsAtMost.l0]) ?_
      refine Ev.pos (by omega) (Ev.pos (by omega) (Ev.pos (by omega) ?_))
      rw [r1, r2, w64 (by omega)]
      simp only [leV]
      skip
      by_cases c : x > y
      · rw [if_pos c]
        exact Ev.pos c (Ev.now _)
      · rw [if_neg c]
        exact Ev.neg c (ih ys (i + 1) d1 d2 (by omega) (by omega))
theorem spec_IsAtMost_ev (v w : List UInt8) (hv : v.length ≤ 140737488351232) (hw : w.length ≤ 140737488351232) {R} (h : mostR v w R) : Ev (fun m => spec_IsAtMost.f m (S v) (S w)) R := by
  unfold spec_IsAtMost.f
  refine Ev.bind (spec_l03Both_ev v w hv hw) ?_
  rcases h with ⟨h, rfl⟩ | ⟨f, g, rfl, rfl, hf, hfg, h, rfl⟩
  · exact Ev.neg h (Ev.now _)
  · have b1 := vec_length f
    have b2 := vec_length g
    refine Ev.pos h ?_
    exact Ev.bind (spec_l03Vector_ev f (by omega)) (Ev.bind (spec_l03Vector_ev g (by omega)) (spec_IsAtMost_l0 (vec f) (vec g) (by omega) (by omega) (vec f) (vec g) 0 rfl rfl (by omega) (by omega)))
theorem impl_endBinary_ev (w : List UInt8) (hm : w.length ≤ 140737488351232) :
    Ev (fun k => impl_endBinary.f k (S w)) (match scanB w 1 with | some rest => (S rest, true) | none => (S [], false)) := by
  have key : ∀ (l : List UInt8) (n : Nat), (n : Int) + l.length ≤ 140737488351233 →
      Ev (fun k => impl_endBinary.l0 k (S l) n) (match scanB l n with | some rest => (S rest, true) | none => (S [], false)) := by
    intro l
    induction l with
    | nil =>
      intro n hn
      apply Ev.succ
      cases n with
      | zero =>
        simp (disch := omega) only [impl_endBinary.l0, if_neg, scanB]
        exact Ev.now _
      | succ n =>
        simp (disch := omega) only [impl_endBinary.l0, if_pos, scanB, S_toList]
        apply Ev.succ
        simp only [impl_endBinary.j1, if_true]
        exact Ev.now _
    | cons c l ih =>
      intro n hn
      simp only [List.length_cons] at hn
      apply Ev.succ
      cases n with
      | zero =>
        simp (disch := omega) only [impl_endBinary.l0, if_neg, scanB]
        exact Ev.now _
      | succ n =>
        have hs : (S (c :: l)).size = l.length + 1 := S_size (c :: l)
        have hb : bt (S (c :: l)) 0 = (c.toNat : Int) := S_bt_drop (i := 0) rfl
        have hx : (S (c :: l)).extract 1 (S (c :: l)).size = S l := by rw [hs, S_extract]; simp
        have hne : ¬ ((S (c :: l)).toList = ([] : List UInt8)) := by rw [S_toList]; simp
        simp (disch := omega) only [impl_endBinary.l0, if_pos, hb, scanB]
        refine Ev.neg hne ?_
        by_cases c0 : c = 48
        · rw [if_pos c0]
          refine Ev.pos (by rw [c0]; rfl) (Ev.succ ?_)
          simp (disch := omega) only [impl_endBinary.j1, if_pos, if_neg, hb, hx, w64]
          simp only [Bool.false_eq_true, if_false]
          refine Ev.neg (by rw [c0]; decide) ?_
          have := ih n (by omega)
          rw [show ((n + 1 : Nat) : Int) - 1 = (n : Int) by omega]
          exact this
        · rw [if_neg c0]
          refine Ev.neg (fun e => c0 ((byte_eq c 48).1 e)) (Ev.succ ?_)
          by_cases c1 : c = 49
          · rw [if_pos c1]
            simp (disch := omega) only [impl_endBinary.j1, if_pos, if_neg, hb, hx, w64]
            refine Ev.neg (by rw [c1]; decide) (Ev.pos (by rw [c1]; rfl) ?_)
            have := ih (n + 2) (by omega)
            rw [show ((n + 1 : Nat) : Int) + 1 = ((n + 2 : Nat) : Int) by omega]
            exact this
          · rw [if_neg c1]
            simp only [impl_endBinary.j1]
            refine Ev.pos ?_ (Ev.now _)
            rw [bne_iff_ne]
            exact fun e => c1 ((byte_eq c 49).1 e)
  unfold impl_endBinary.f
  exact key w 1 (by omega)
theorem impl_sides_ev (l r : F) (h : sz l + sz r ≤ 1000) : Ev (fun m => impl_sides.f m (S (bin (cons l r)))) (S (bin l), S (bin r)) := by
  have hl := bin_length l
  have hr := bin_length r
  have hs := S_size (bin (cons l r))
  have hb := bin_length (cons l r)
  simp only [sz] at hb
  have hx : (S (bin (cons l r))).extract 1 (S (bin (cons l r))).size = S (bin l ++ bin r) := by
    rw [S_extract, S_size, List.take_length]
    rfl
  have e := impl_endBinary_ev (bin l ++ bin r) (by rw [List.length_append]; omega)
  have hsc : scanB (bin l ++ bin r) 1 = some (bin r) := by rw [scanB_bin]; simp [scanB]
  rw [hsc] at e
  have hs2 := S_size (bin r)
  unfold impl_sides.f
  rw [hx]
  refine Ev.pos (by omega) (Ev.bind e ?_)
  simp only [hs, hs2]
  rw [w64 (by omega)]
  refine Ev.pos (by omega) (Ev.pos (by omega) (Ev.some ?_))
  rw [show (((bin (cons l r)).length : Int) - ((bin r).length : Int)).toNat = 1 + (bin l).length by omega, S_extract]
  have e1 : ((bin (cons l r)).take (1 + (bin l).length)).drop 1 = bin l := by
    rw [Nat.add_comm]; simp [bin]
  rw [e1]
theorem impl_nodesOf_eq (w : List UInt8) (h : w.length ≤ 140737488351232) : impl_nodesOf.f (S w) = some ((w.length : Int) / 2) := by
  unfold impl_nodesOf.f
  rw [S_size, w64 (by omega)]
theorem slices_Grow_int64_int64_eq (n : Int) (h : 0 ≤ n) (h' : n ≤ 1000000) : slices_Grow_int64_int64.f [] n = some [] := by
  unfold slices_Grow_int64_int64.f
  rw [if_pos rfl, if_pos h, if_pos h']
theorem slices_Concat_int64_int64_ev (ls : List (List Int)) (hn : ls.length ≤ 1000) (hl : ls.flatten.length ≤ 100000) : Ev (fun m => slices_Concat_int64_int64.f m ls) ls.flatten := by
  have hrd : ∀ {xs : List (List Int)} {x : List Int} {i : Nat}, ls.drop i = x :: xs → rd_L1 ls (i : Int) = x := by
    intro xs x i h
    unfold rd_L1
    rw [Int.toNat_natCast, List.getD_eq_getElem?_getD, (drop_cons h).2.1]
    rfl
  have l1 : ∀ (xs : List (List Int)) (i : Nat) (out : List Int), ls.drop i = xs → i + xs.length = ls.length → out.length + xs.flatten.length ≤ 100000 →
      Ev (fun m => slices_Concat_int64_int64.l1 m out ls ls.length i) (out ++ xs.flatten) := by
    intro xs
    induction xs with
    | nil =>
      intro i out h hi ho
      simp only [List.length_nil] at hi
      refine Ev.step (fun k => by rw [slices_Concat_int64_int64.l1]) ?_
      exact Ev.neg (by omega) (Ev.some (by simp))
    | cons x xs ih =>
      intro i out h hi ho
      have hr := hrd h
      have hd := (drop_cons h).2.2
      simp only [List.length_cons] at hi
      rw [List.flatten_cons, List.length_append] at ho
      refine Ev.step (fun k => by rw [slices_Concat_int64_int64.l1]) ?_
      refine Ev.pos (by omega) (Ev.pos (by omega) (Ev.pos (by omega) ?_))
      rw [hr, w64 (by omega)]
      refine Ev.pos (by omega) ?_
      have := ih (i + 1) (out ++ x) hd (by omega) (by rw [List.length_append]; omega)
      rw [List.flatten_cons, ← List.append_assoc]
      exact this
  have l0 : ∀ (xs : List (List Int)) (i : Nat) (n : Nat), ls.drop i = xs → i + xs.length = ls.length → n + xs.flatten.length ≤ 100000 →
      Ev (fun m => slices_Concat_int64_int64.l0 m ls n ls ls.length i) ls.flatten := by
    intro xs
    induction xs with
    | nil =>
      intro i n h hi ho
      simp only [List.length_nil] at hi
      refine Ev.step (fun k => by rw [slices_Concat_int64_int64.l0]) ?_
      refine Ev.neg (by omega) (Ev.bind (Ev.const (slices_Grow_int64_int64_eq n (by omega) (by omega))) ?_)
      exact l1 ls 0 [] rfl (by omega) (by simpa using hl)
    | cons x xs ih =>
      intro i n h hi ho
      have hr := hrd h
      have hd := (drop_cons h).2.2
      simp only [List.length_cons] at hi
      rw [List.flatten_cons, List.length_append] at ho
      refine Ev.step (fun k => by rw [slices_Concat_int64_int64.l0]) ?_
      refine Ev.pos (by omega) (Ev.pos (by omega) (Ev.pos (by omega) ?_))
      rw [hr, w64 (x := (n : Int) + (x.length : Int)) (by omega), w64 (by omega)]
      refine Ev.neg (by omega) ?_
      have := ih (i + 1) (n + x.length) hd (by omega) (by omega)
      rw [show ((n + x.length : Nat) : Int) = (n : Int) + (x.length : Int) by omega] at this
      exact this
  unfold slices_Concat_int64_int64.f
  exact l0 ls 0 0 rfl (by omega) (by omega)
theorem impl_vector_ev : ∀ (f : F), sz f ≤ 1000 → Ev (fun m => impl_vector.f m (S (bin f))) (vec f) := by
  intro f
  induction f with
  | nil =>
    intro _
    refine Ev.step (fun k => by rw [impl_vector.f]) ?_
    exact Ev.pos ((bin_is_nil nil).2 rfl) (Ev.now _)
  | cons l r hl hr =>
    intro h
    simp only [sz] at h
    have b1 := vec_length l
    have b2 := vec_length r
    have bb := bin_length r
    refine Ev.step (fun k => by rw [impl_vector.f]) ?_
    refine Ev.neg (fun x => by cases (bin_is_nil _).1 x) (Ev.bind (impl_sides_ev l r (by omega)) (Ev.bind (hl (by omega)) (Ev.bind (Ev.const (impl_nodesOf_eq (bin r) (by omega))) (Ev.bind (hr (by omega)) (Ev.bind (slices_Concat_int64_int64_ev _ (by simp) (by simp; omega)) (Ev.some ?_))))))
    rw [show ((bin r).length : Int) / 2 = (sz r : Int) by omega]
    simp [vec]
theorem impl_IsBinary_ev (w : List UInt8) (hm : w.length ≤ 140737488351232) : Ev (fun k => impl_IsBinary.f k (S w)) (isB w) := by
  have hs := S_size w
  unfold impl_IsBinary.f isB
  by_cases c : w.length ≤ 47
  · refine Ev.neg (by omega) (Ev.bind (impl_endBinary_ev w hm) ?_)
    rw [decide_eq_true c, Bool.true_and]
    cases h : scanB w 1 with
    | none => exact Ev.neg (by simp) (Ev.some (by simp))
    | some rest =>
      refine Ev.pos rfl (Ev.some ?_)
      rw [S_toList, Bool.eq_iff_iff]
      simp
  · refine Ev.pos (by omega) (Ev.some ?_)
    rw [decide_eq_false c, Bool.false_and]
theorem impl_areBinary_ev (v w : List UInt8) (hv : v.length ≤ 140737488351232) (hw : w.length ≤ 140737488351232) : Ev (fun m => impl_areBinary.f m [S v, S w]) (isB v && isB w) := by
  have e1 := impl_IsBinary_ev v hv
  have e2 := impl_IsBinary_ev w hw
  unfold impl_areBinary.f
  apply Ev.succ
  simp (disch := decide) only [impl_areBinary.l0, if_pos, List.length_cons, List.length_nil]
  refine Ev.bind (a := isB v) e1 ?_
  cases h1 : isB v with
  | false => exact Ev.neg (by simp) (Ev.now _)
  | true =>
    refine Ev.pos rfl (Ev.succ ?_)
    rw [show wrap64 (0 + 1) = 1 by rw [w64 (by omega)]; rfl]
    simp (disch := decide) only [impl_areBinary.l0, if_pos]
    refine Ev.bind (a := isB w) e2 ?_
    cases h2 : isB w with
    | false => exact Ev.neg (by simp) (Ev.now _)
    | true =>
      refine Ev.pos rfl (Ev.succ ?_)
      rw [show wrap64 (1 + 1) = 2 by rw [w64 (by omega)]; rfl]
      simp (disch := decide) only [impl_areBinary.l0, if_neg]
      exact Ev.now _
theorem impl_twoCode_ev (v w : List UInt8) (hv : v.length ≤ 140737488351232) (hw : w.length ≤ 140737488351232) : Ev (fun m => impl_twoCode.f m (S v) (S w)) (bothV v w) := by
  unfold impl_twoCode.f bothV
  refine Ev.bind (impl_areBinary_ev v w hv hw) ?_
  rw [S_size, S_size]
  by_cases h : isB v = true ∧ isB w = true
  · rw [if_pos h]
    refine Ev.pos (by simp [h.1, h.2]) ?_
    by_cases c : v.length = w.length
    · rw [if_pos c]
      exact Ev.pos (by omega) (Ev.now _)
    · rw [if_neg c]
      exact Ev.neg (by omega) (Ev.now _)
  · rw [if_neg h]
    exact Ev.neg (by simpa using h) (Ev.now _)
theorem impl_IsAtMost_l0 (a b : List Int) (hl : a.length = b.length) (hb : a.length ≤ 1000) : ∀ (xs ys : List Int) (i : Nat), a.drop i = xs → b.drop i = ys → i + xs.length = a.length → i + ys.length = b.length →
    Ev (fun m => impl_IsAtMost.l0 m b a a.length i) (leV xs ys, 0) := by
  intro xs
  induction xs with
  | nil =>
    intro ys i h1 h2 hi hj
    simp only [List.length_nil] at hi
    refine Ev.step (fun k => by rw [impl_IsAtMost.l0]) ?_
    exact Ev.neg (by omega) (Ev.some (by cases ys <;> rfl))
  | cons x xs ih =>
    intro ys i h1 h2 hi hj
    cases ys with
    | nil => simp only [List.length_cons, List.length_nil] at hi hj; omega
    | cons y ys =>
      simp only [List.length_cons] at hi hj
      have r1 := rd_drop h1
      have r2 := rd_drop h2
      have d1 := (drop_cons h1).2.2
      have d2 := (drop_cons h2).2.2
      refine Ev.step (fun k => by rw [impl_IsAtMost.l0]) ?_
      refine Ev.pos (by omega) (Ev.pos (by omega) (Ev.pos (by omega) ?_))
      rw [r1, r2, w64 (by omega)]
      simp only [leV]
      refine Ev.pos (by omega) ?_
      by_cases c : x > y
      · rw [if_pos c]
        exact Ev.pos c (Ev.now _)
      · rw [if_neg c]
        exact Ev.neg c (ih ys (i + 1) d1 d2 (by omega) (by omega))
theorem impl_IsAtMost_ev (v w : List UInt8) (hv : v.length ≤ 140737488351232) (hw : w.length ≤ 140737488351232) {R} (h : mostR v w R) : Ev (fun m => impl_IsAtMost.f m (S v) (S w)) R := by
  unfold impl_IsAtMost.f
  refine Ev.bind (impl_twoCode_ev v w hv hw) ?_
  rcases h with ⟨h, rfl⟩ | ⟨f, g, rfl, rfl, hf, hfg, h, rfl⟩
  · exact Ev.neg h (Ev.now _)
  · have b1 := vec_length f
    have b2 := vec_length g
    refine Ev.pos h ?_
    exact Ev.bind (impl_vector_ev g (by omega)) (Ev.bind (impl_vector_ev f (by omega)) (impl_IsAtMost_l0 (vec f) (vec g) (by omega) (by omega) (vec f) (vec g) 0 rfl rfl (by omega) (by omega)))
theorem FnExactIsAtMost : ∀ (a0 a1 : ByteArray), a0.size ≤ 140737488351232 → a1.size ≤ 140737488351232 → ∃ k, laws_FnExactIsAtMost.f k a0 a1 = some true := by
  intro a0 a1 hm hm'
  obtain ⟨v, rfl⟩ := S_of a0
  obtain ⟨w, rfl⟩ := S_of a1
  have hs := S_size v
  have hs' := S_size w
  apply Ev.rounds
  unfold laws_FnExactIsAtMost.f
  by_cases c : ((S v).size : Int) > 1048576
  · exact Ev.pos c (Ev.now _)
  · refine Ev.neg c ?_
    by_cases c' : ((S w).size : Int) > 1048576
    · exact Ev.pos c' (Ev.now _)
    · refine Ev.neg c' ?_
      obtain ⟨R, hR⟩ := mostR_ex v w
      exact Ev.bind (spec_IsAtMost_ev v w (by omega) (by omega) hR) (Ev.bind (impl_IsAtMost_ev v w (by omega) (by omega) hR) (Ev.neg (by simp) (Ev.pos rfl (Ev.now _))))

end Go.Proofs.Ytjpmichlhagbcaa.Pure
