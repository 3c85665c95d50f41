/- The pure statement of the law FnExactJoinSides is proved. Conditions: those of the statement alone. -/
import Derived.Test.YtjpmichlhagbcaaPFnExactJoinSidesx2
import Derived.Test.YtjpmichlhagbcaaBase
import Derived.Test.YtjpmichlhagbcaaBase2
import Derived.Test.YtjpmichlhagbcaaBin
import Derived.Test.YtjpmichlhagbcaaBase3
import Derived.Test.YtjpmichlhagbcaaBase4
import Derived.Test.YtjpmichlhagbcaaBin2
import Derived.Test.YtjpmichlhagbcaaNum
namespace Go.Proofs.Ytjpmichlhagbcaa.Pure
open Go.RowKit Go.Proofs.Ytjpmichlhagbcaa.PFnExactJoinSides Go.Proofs.Ytjpmichlhagbcaa.Base Go.Proofs.YtjpmichlhagbcaaW.PrintWords Go.Proofs.YtjpmichlhagbcaaW.PrintLast Go.Proofs.YtjpmichlhagbcaaW.PrintMore
open Go.Proofs.Ytjpmichlhagbcaa.Base.F
set_option linter.unusedVariables false
set_option linter.unusedSimpArgs false

theorem spec_l03End_ev (w : List UInt8) (hm : w.length ≤ 140737488351232) (at0 : Nat) (ha : at0 ≤ w.length) :
    Ev (fun k => spec_l03End.f k (S w) at0) (match scanB (w.drop at0) 1 with | some rest => (w.length : Int) - rest.length | none => -1) := by
  have key : ∀ (l : List UInt8) (i n : Nat), w.drop i = l → i + l.length = w.length → n ≤ 1 + i →
      Ev (fun k => spec_l03End.l0 k (S w) i n) (match scanB l n with | some rest => (w.length : Int) - rest.length | none => -1) := by
    intro l
    induction l with
    | nil =>
      intro i n h hi hn
      apply Ev.succ
      cases n with
      | zero =>
        simp (disch := omega) only [spec_l03End.l0, if_neg, scanB]
        exact Ev.some (by simp at hi ⊢; omega)
      | succ n =>
        have hs := S_size w
        simp only [List.length_nil] at hi
        simp (disch := omega) only [spec_l03End.l0, if_pos, scanB]
        apply Ev.succ
        simp only [spec_l03End.j1, if_true]
        exact Ev.now _
    | cons c l ih =>
      intro i n h hi hn
      apply Ev.succ
      simp only [List.length_cons] at hi
      cases n with
      | zero =>
        simp (disch := omega) only [spec_l03End.l0, if_neg, scanB]
        exact Ev.some (by simp; omega)
      | succ n =>
        have hs := S_size w
        have hb := S_bt_drop h
        have hd := (drop_cons h).2.2
        simp (disch := omega) only [spec_l03End.l0, if_pos, if_neg, hb, scanB]
        by_cases c0 : c = 48
        · rw [if_pos c0]
          refine Ev.pos (by rw [c0]; rfl) (Ev.succ ?_)
          simp (disch := omega) only [spec_l03End.j1, if_pos, if_neg, hb, w64]
          simp only [Bool.false_eq_true, if_false]
          refine Ev.neg (by rw [c0]; decide) ?_
          have := ih (i + 1) n hd (by omega) (by omega)
          rw [show ((n + 1 : Nat) : Int) - 1 = (n : Int) by omega]
          exact this
        · rw [if_neg c0]
          refine Ev.neg (fun e => c0 ((byte_eq c 48).1 e)) (Ev.succ ?_)
          by_cases c1 : c = 49
          · rw [if_pos c1]
            simp (disch := omega) only [spec_l03End.j1, if_pos, if_neg, hb, w64]
            refine Ev.neg (by rw [c1]; decide) (Ev.pos (by rw [c1]; rfl) ?_)
            have := ih (i + 1) (n + 2) hd (by omega) (by omega)
            rw [show ((n + 1 : Nat) : Int) + 1 = ((n + 2 : Nat) : Int) by omega]
            exact this
          · rw [if_neg c1]
            simp only [spec_l03End.j1]
            refine Ev.pos ?_ (Ev.now _)
            rw [bne_iff_ne]
            exact fun e => c1 ((byte_eq c 49).1 e)
  unfold spec_l03End.f
  exact key (w.drop at0) at0 1 rfl (by rw [List.length_drop]; omega) (by omega)
theorem spec_l03Is_ev (w : List UInt8) (hm : w.length ≤ 140737488351232) : Ev (fun k => spec_l03Is.f k (S w)) (isB w) := by
  have hs := S_size w
  unfold spec_l03Is.f isB
  by_cases c : w.length ≤ 47
  · refine Ev.pos (by omega) (Ev.bind (spec_l03End_ev w hm 0 (by omega)) (Ev.some ?_))
    rw [decide_eq_true c, Bool.true_and, List.drop_zero, hs, Bool.eq_iff_iff]
    cases h : scanB w 1 with
    | none => simp
    | some rest =>
      simp only [beq_iff_eq, Option.some.injEq]
      constructor
      · intro e; exact List.eq_nil_of_length_eq_zero (by omega)
      · intro e; subst e; simp
  · refine Ev.neg (by omega) (Ev.some ?_)
    rw [decide_eq_false c, Bool.false_and]
theorem spec_l03N_eq (w : List UInt8) (h : w.length ≤ 140737488351232) : spec_l03N.f (S w) = some ((w.length : Int) / 2) := by
  unfold spec_l03N.f
  rw [S_size, w64 (by omega)]
theorem spec_JoinSides_ev (v w : List UInt8) (hv : v.length ≤ 140737488351232) (hw : w.length ≤ 140737488351232) : Ev (fun m => spec_JoinSides.f m (S v) (S w)) (joinV v w) := by
  have e1 := spec_l03Is_ev v hv
  have e2 := spec_l03Is_ev w hw
  have hs1 := S_size v
  have hs2 := S_size w
  unfold spec_JoinSides.f
  refine Ev.bind e1 ?_
  by_cases h1 : isB v = true
  · refine Ev.pos h1 (Ev.bind e2 (Ev.succ ?_))
    simp only [spec_JoinSides.j0]
    by_cases h2 : isB w = true
    · refine Ev.neg (by rw [h2]; decide) ?_
      refine Ev.bind (Ev.const (spec_l03N_eq v hv)) (Ev.bind (Ev.const (spec_l03N_eq w hw)) ?_)
      rw [w64 (by omega)]
      by_cases c : (v.length : Int) / 2 + (w.length : Int) / 2 ≥ 23
      · exact Ev.pos c (Ev.some (joinV_limit h1 h2 (by omega)).symm)
      · refine Ev.neg c ?_
        rw [S_lit49, S_append, S_append, S_size, S_size, S_size]
        refine Ev.pos (by omega) (Ev.pos (by rw [List.length_append]; simp only [List.length_cons, List.length_nil]; omega) (Ev.some ?_))
        rw [joinV_ok h1 h2 (by omega)]
        simp
    · exact Ev.pos (by simp [h2]) (Ev.some (joinV_no (fun h => h2 h.2)).symm)
  · refine Ev.neg h1 (Ev.succ ?_)
    simp only [spec_JoinSides.j0, if_true]
    exact Ev.some (joinV_no (fun h => h1 h.1)).symm
theorem impl_endBinary_ev (w : List UInt8) (hm : w.length ≤ 140737488351232) :
    Ev (fun k => impl_endBinary.f k (S w)) (match scanB w 1 with | some rest => (S rest, true) | none => (S [], false)) := by
  have key : ∀ (l : List UInt8) (n : Nat), (n : Int) + l.length ≤ 140737488351233 →
      Ev (fun k => impl_endBinary.l0 k (S l) n) (match scanB l n with | some rest => (S rest, true) | none => (S [], false)) := by
    intro l
    induction l with
    | nil =>
      intro n hn
      apply Ev.succ
      cases n with
      | zero =>
        simp (disch := omega) only [impl_endBinary.l0, if_neg, scanB]
        exact Ev.now _
      | succ n =>
        simp (disch := omega) only [impl_endBinary.l0, if_pos, scanB, S_toList]
        apply Ev.succ
        simp only [impl_endBinary.j1, if_true]
        exact Ev.now _
    | cons c l ih =>
      intro n hn
      simp only [List.length_cons] at hn
      apply Ev.succ
      cases n with
      | zero =>
        simp (disch := omega) only [impl_endBinary.l0, if_neg, scanB]
        exact Ev.now _
      | succ n =>
        have hs : (S (c :: l)).size = l.length + 1 := S_size (c :: l)
        have hb : bt (S (c :: l)) 0 = (c.toNat : Int) := S_bt_drop (i := 0) rfl
        have hx : (S (c :: l)).extract 1 (S (c :: l)).size = S l := by rw [hs, S_extract]; simp
        have hne : ¬ ((S (c :: l)).toList = ([] : List UInt8)) := by rw [S_toList]; simp
        simp (disch := omega) only [impl_endBinary.l0, if_pos, hb, scanB]
        refine Ev.neg hne ?_
        by_cases c0 : c = 48
        · rw [if_pos c0]
          refine Ev.pos (by rw [c0]; rfl) (Ev.succ ?_)
          simp (disch := omega) only [impl_endBinary.j1, if_pos, if_neg, hb, hx, w64]
          simp only [Bool.false_eq_true, if_false]
          refine Ev.neg (by rw [c0]; decide) ?_
          have := ih n (by omega)
          rw [show ((n + 1 : Nat) : Int) - 1 = (n : Int) by omega]
          exact this
        · rw [if_neg c0]
          refine Ev.neg (fun e => c0 ((byte_eq c 48).1 e)) (Ev.succ ?_)
          by_cases c1 : c = 49
          · rw [if_pos c1]
            simp (disch := omega) only [impl_endBinary.j1, if_pos, if_neg, hb, hx, w64]
            refine Ev.neg (by rw [c1]; decide) (Ev.pos (by rw [c1]; rfl) ?_)
            have := ih (n + 2) (by omega)
            rw [show ((n + 1 : Nat) : Int) + 1 = ((n + 2 : Nat) : Int) by omega]
            exact this
          · rw [if_neg c1]
            simp only [impl_endBinary.j1]
            refine Ev.pos ?_ (Ev.now _)
            rw [bne_iff_ne]
            exact fun e => c1 ((byte_eq c 49).1 e)
  unfold impl_endBinary.f
  exact key w 1 (by omega)
theorem impl_IsBinary_ev (w : List UInt8) (hm : w.length ≤ 140737488351232) : Ev (fun k => impl_IsBinary.f k (S w)) (isB w) := by
  have hs := S_size w
  unfold impl_IsBinary.f isB
  by_cases c : w.length ≤ 47
  · refine Ev.neg (by omega) (Ev.bind (impl_endBinary_ev w hm) ?_)
    rw [decide_eq_true c, Bool.true_and]
    cases h : scanB w 1 with
    | none => exact Ev.neg (by simp) (Ev.some (by simp))
    | some rest =>
      refine Ev.pos rfl (Ev.some ?_)
      rw [S_toList, Bool.eq_iff_iff]
      simp
  · refine Ev.pos (by omega) (Ev.some ?_)
    rw [decide_eq_false c, Bool.false_and]
theorem impl_areBinary_ev (v w : List UInt8) (hv : v.length ≤ 140737488351232) (hw : w.length ≤ 140737488351232) : Ev (fun m => impl_areBinary.f m [S v, S w]) (isB v && isB w) := by
  have e1 := impl_IsBinary_ev v hv
  have e2 := impl_IsBinary_ev w hw
  unfold impl_areBinary.f
  apply Ev.succ
  simp (disch := decide) only [impl_areBinary.l0, if_pos, List.length_cons, List.length_nil]
  refine Ev.bind (a := isB v) e1 ?_
  cases h1 : isB v with
  | false => exact Ev.neg (by simp) (Ev.now _)
  | true =>
    refine Ev.pos rfl (Ev.succ ?_)
    rw [show wrap64 (0 + 1) = 1 by rw [w64 (by omega)]; rfl]
    simp (disch := decide) only [impl_areBinary.l0, if_pos]
    refine Ev.bind (a := isB w) e2 ?_
    cases h2 : isB w with
    | false => exact Ev.neg (by simp) (Ev.now _)
    | true =>
      refine Ev.pos rfl (Ev.succ ?_)
      rw [show wrap64 (1 + 1) = 2 by rw [w64 (by omega)]; rfl]
      simp (disch := decide) only [impl_areBinary.l0, if_neg]
      exact Ev.now _
theorem impl_nodesOf_eq (w : List UInt8) (h : w.length ≤ 140737488351232) : impl_nodesOf.f (S w) = some ((w.length : Int) / 2) := by
  unfold impl_nodesOf.f
  rw [S_size, w64 (by omega)]
theorem impl_JoinSides_ev (v w : List UInt8) (hv : v.length ≤ 140737488351232) (hw : w.length ≤ 140737488351232) : Ev (fun m => impl_JoinSides.f m (S v) (S w)) (joinV v w) := by
  have hs1 := S_size v
  have hs2 := S_size w
  unfold impl_JoinSides.f
  refine Ev.bind (impl_areBinary_ev v w hv hw) ?_
  by_cases h : isB v = true ∧ isB w = true
  · refine Ev.pos (by rw [h.1, h.2]; rfl) ?_
    refine Ev.bind (Ev.const (impl_nodesOf_eq v hv)) (Ev.bind (Ev.const (impl_nodesOf_eq w hw)) ?_)
    rw [w64 (x := (v.length : Int) / 2 + (w.length : Int) / 2) (by omega), w64 (by omega)]
    by_cases c : (v.length : Int) / 2 + (w.length : Int) / 2 + 1 > 23
    · exact Ev.pos c (Ev.some (joinV_limit h.1 h.2 c).symm)
    · refine Ev.neg c ?_
      rw [S_lit49, S_append, S_append, S_size, S_size, S_size]
      refine Ev.pos (by omega) (Ev.pos (by rw [List.length_append]; simp only [List.length_cons, List.length_nil]; omega) (Ev.some ?_))
      rw [joinV_ok h.1 h.2 c]
      simp
  · refine Ev.neg ?_ (Ev.some (joinV_no h).symm)
    rw [Bool.and_eq_true]
    exact h
theorem FnExactJoinSides : laws_FnExactJoinSides.Pure := by
  intro a0 a1 hm hm'
  obtain ⟨v, rfl⟩ := S_of a0
  obtain ⟨w, rfl⟩ := S_of a1
  have hs := S_size v
  have hs' := S_size w
  apply Ev.rounds
  unfold laws_FnExactJoinSides.f
  by_cases c : ((S v).size : Int) > 1048576
  · exact Ev.pos c (Ev.now _)
  · refine Ev.neg c ?_
    by_cases c' : ((S w).size : Int) > 1048576
    · exact Ev.pos c' (Ev.now _)
    · refine Ev.neg c' ?_
      exact Ev.bind (spec_JoinSides_ev v w (by omega) (by omega)) (Ev.bind (impl_JoinSides_ev v w (by omega) (by omega)) (Ev.pos rfl (Ev.pos rfl (Ev.now _))))

end Go.Proofs.Ytjpmichlhagbcaa.Pure
