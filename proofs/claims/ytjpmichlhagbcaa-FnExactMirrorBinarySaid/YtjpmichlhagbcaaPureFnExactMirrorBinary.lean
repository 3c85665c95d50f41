/- The pure statement of the law FnExactMirrorBinary is proved. Conditions: those of the statement alone. -/
import Derived.Test.YtjpmichlhagbcaaQFnExactMirrorBinaryx2
import Derived.Test.YtjpmichlhagbcaaBase
import Derived.Test.YtjpmichlhagbcaaBase2
import Derived.Test.YtjpmichlhagbcaaBin
import Derived.Test.YtjpmichlhagbcaaBase3
import Derived.Test.YtjpmichlhagbcaaBase4
import Derived.Test.YtjpmichlhagbcaaBin2
import Derived.Test.YtjpmichlhagbcaaNum
namespace Go.Proofs.Ytjpmichlhagbcaa.Pure
open Go.RowKit Go.Proofs.Ytjpmichlhagbcaa.QFnExactMirrorBinary Go.Proofs.Ytjpmichlhagbcaa.Base Go.Proofs.YtjpmichlhagbcaaW.PrintWords Go.Proofs.YtjpmichlhagbcaaW.PrintLast Go.Proofs.YtjpmichlhagbcaaW.PrintMore
open Go.Proofs.Ytjpmichlhagbcaa.Base.F
set_option linter.unusedVariables false
set_option linter.unusedSimpArgs false

theorem spec_l03End_ev (w : List UInt8) (hm : w.length ≤ 140737488351232) (at0 : Nat) (ha : at0 ≤ w.length) :
    Ev (fun k => spec_l03End.f k (S w) at0) (match scanB (w.drop at0) 1 with | some rest => (w.length : Int) - rest.length | none => -1) := by
  have key : ∀ (l : List UInt8) (i n : Nat), w.drop i = l → i + l.length = w.length → n ≤ 1 + i →
      Ev (fun k => spec_l03End.l0 k (S w) i n) (match scanB l n with | some rest => (w.length : Int) - rest.length | none => -1) := by
    intro l
    induction l with
    | nil =>
      intro i n h hi hn
      apply Ev.succ
      cases n with
      | zero =>
        simp (disch := omega) only [spec_l03End.l0, if_neg, scanB]
        exact Ev.some (by simp at hi ⊢; omega)
      | succ n =>
        have hs := S_size w
        simp only [List.length_nil] at hi
        simp (disch := omega) only [spec_l03End.l0, if_pos, scanB]
        apply Ev.succ
        simp only [spec_l03End.j1, if_true]
        exact Ev.now _
    | cons c l ih =>
      intro i n h hi hn
      apply Ev.succ
      simp only [List.length_cons] at hi
      cases n with
      | zero =>
        simp (disch := omega) only [spec_l03End.l0, if_neg, scanB]
        exact Ev.some (by simp; omega)
      | succ n =>
        have hs := S_size w
        have hb := S_bt_drop h
        have hd := (drop_cons h).2.2
        simp (disch := omega) only [spec_l03End.l0, if_pos, if_neg, hb, scanB]
        by_cases c0 : c = 48
        · rw [if_pos c0]
          refine Ev.pos (by rw [c0]; rfl) (Ev.succ ?_)
          simp (disch := omega) only [spec_l03End.j1, if_pos, if_neg, hb, w64]
          simp only [Bool.false_eq_true, if_false]
          refine Ev.neg (by rw [c0]; decide) ?_
          have := ih (i + 1) n hd (by omega) (by omega)
          rw [show ((n + 1 : Nat) : Int) - 1 = (n : Int) by omega]
          exact this
        · rw [if_neg c0]
          refine Ev.neg (fun e => c0 ((byte_eq c 48).1 e)) (Ev.succ ?_)
          by_cases c1 : c = 49
          · rw [if_pos c1]
            simp (disch := omega) only [spec_l03End.j1, if_pos, if_neg, hb, w64]
            refine Ev.neg (by rw [c1]; decide) (Ev.pos (by rw [c1]; rfl) ?_)
            have := ih (i + 1) (n + 2) hd (by omega) (by omega)
            rw [show ((n + 1 : Nat) : Int) + 1 = ((n + 2 : Nat) : Int) by omega]
            exact this
          · rw [if_neg c1]
            simp only [spec_l03End.j1]
            refine Ev.pos ?_ (Ev.now _)
            rw [bne_iff_ne]
            exact fun e => c1 ((byte_eq c 49).1 e)
  unfold spec_l03End.f
  exact key (w.drop at0) at0 1 rfl (by rw [List.length_drop]; omega) (by omega)
theorem spec_l03Is_ev (w : List UInt8) (hm : w.length ≤ 140737488351232) : Ev (fun k => spec_l03Is.f k (S w)) (isB w) := by
  have hs := S_size w
  unfold spec_l03Is.f isB
  by_cases c : w.length ≤ 47
  · refine Ev.pos (by omega) (Ev.bind (spec_l03End_ev w hm 0 (by omega)) (Ev.some ?_))
    rw [decide_eq_true c, Bool.true_and, List.drop_zero, hs, Bool.eq_iff_iff]
    cases h : scanB w 1 with
    | none => simp
    | some rest =>
      simp only [beq_iff_eq, Option.some.injEq]
      constructor
      · intro e; exact List.eq_nil_of_length_eq_zero (by omega)
      · intro e; subst e; simp
  · refine Ev.neg (by omega) (Ev.some ?_)
    rw [decide_eq_false c, Bool.false_and]
theorem spec_l03Sides_ev (l r : F) (h : sz l + sz r ≤ 1000) : Ev (fun m => spec_l03Sides.f m (S (bin (cons l r)))) (S (bin l), S (bin r)) := by
  have hl := bin_length l
  have hr := bin_length r
  have hs := S_size (bin (cons l r))
  have hb := bin_length (cons l r)
  have e := spec_l03End_ev (bin (cons l r)) (by rw [hb]; simp only [sz]; omega) 1 (by omega)
  have hd : (bin (cons l r)).drop 1 = bin l ++ bin r := rfl
  have hsc : scanB (bin l ++ bin r) 1 = some (bin r) := by rw [scanB_bin]; simp [scanB]
  rw [hd, hsc] at e
  simp only [sz] at hb
  have ht : ((bin (cons l r)).length : Int) - (bin r).length = ((1 + (bin l).length : Nat) : Int) := by omega
  simp only [ht] at e
  unfold spec_l03Sides.f
  refine Ev.bind e (Ev.pos (by omega) (Ev.pos (by omega) (Ev.pos (by omega) (Ev.some ?_))))
  rw [Int.toNat_natCast, S_extract, S_extract, S_size]
  have e1 : ((bin (cons l r)).take (1 + (bin l).length)).drop 1 = bin l := by
    rw [Nat.add_comm]; simp [bin]
  have e2 : ((bin (cons l r)).take (bin (cons l r)).length).drop (1 + (bin l).length) = bin r := by
    rw [List.take_length, Nat.add_comm]
    simp [bin]
  rw [e1, e2]
theorem spec_l03Mirror_ev : ∀ (f : F), sz f ≤ 1000 → Ev (fun m => spec_l03Mirror.f m (S (bin f))) (S (bin (mb f))) := by
  intro f
  induction f with
  | nil =>
    intro _
    refine Ev.step (fun k => by rw [spec_l03Mirror.f]) ?_
    exact Ev.pos ((bin_is_nil nil).2 rfl) (Ev.now _)
  | cons l r hl hr =>
    intro h
    simp only [sz] at h
    have b1 := bin_length (mb l)
    have b2 := bin_length (mb r)
    rw [mb_sz] at b1 b2
    refine Ev.step (fun k => by rw [spec_l03Mirror.f]) ?_
    refine Ev.neg (fun x => by cases (bin_is_nil _).1 x) (Ev.bind (spec_l03Sides_ev l r (by omega)) (Ev.bind (hr (by omega)) ?_))
    rw [S_lit49, S_append, S_size]
    refine Ev.pos (by omega) (Ev.bind (hl (by omega)) ?_)
    rw [S_append, S_size, S_size]
    exact Ev.pos (by simp; omega) (Ev.some (by simp [mb, bin]))
theorem spec_MirrorBinary_ev (w : List UInt8) (hm : w.length ≤ 140737488351232) {R} (h : binR (fun f => S (bin (mb f))) (S []) w R) : Ev (fun m => spec_MirrorBinary.f m (S w)) R := by
  have e := spec_l03Is_ev w hm
  rcases h with ⟨h, rfl⟩ | ⟨f, rfl, hk, h, rfl⟩
  · rw [h] at e
    unfold spec_MirrorBinary.f
    exact Ev.bind e (Ev.neg (by simp) (Ev.now _))
  · rw [h] at e
    unfold spec_MirrorBinary.f
    refine Ev.bind e (Ev.pos rfl ?_)
    exact Ev.bind (spec_l03Mirror_ev f (by omega)) (Ev.now _)
theorem impl_endBinary_ev (w : List UInt8) (hm : w.length ≤ 140737488351232) :
    Ev (fun k => impl_endBinary.f k (S w)) (match scanB w 1 with | some rest => (S rest, true) | none => (S [], false)) := by
  have key : ∀ (l : List UInt8) (n : Nat), (n : Int) + l.length ≤ 140737488351233 →
      Ev (fun k => impl_endBinary.l0 k (S l) n) (match scanB l n with | some rest => (S rest, true) | none => (S [], false)) := by
    intro l
    induction l with
    | nil =>
      intro n hn
      apply Ev.succ
      cases n with
      | zero =>
        simp (disch := omega) only [impl_endBinary.l0, if_neg, scanB]
        exact Ev.now _
      | succ n =>
        simp (disch := omega) only [impl_endBinary.l0, if_pos, scanB, S_toList]
        apply Ev.succ
        simp only [impl_endBinary.j1, if_true]
        exact Ev.now _
    | cons c l ih =>
      intro n hn
      simp only [List.length_cons] at hn
      apply Ev.succ
      cases n with
      | zero =>
        simp (disch := omega) only [impl_endBinary.l0, if_neg, scanB]
        exact Ev.now _
      | succ n =>
        have hs : (S (c :: l)).size = l.length + 1 := S_size (c :: l)
        have hb : bt (S (c :: l)) 0 = (c.toNat : Int) := S_bt_drop (i := 0) rfl
        have hx : (S (c :: l)).extract 1 (S (c :: l)).size = S l := by rw [hs, S_extract]; simp
        have hne : ¬ ((S (c :: l)).toList = ([] : List UInt8)) := by rw [S_toList]; simp
        simp (disch := omega) only [impl_endBinary.l0, if_pos, hb, scanB]
        refine Ev.neg hne ?_
        by_cases c0 : c = 48
        · rw [if_pos c0]
          refine Ev.pos (by rw [c0]; rfl) (Ev.succ ?_)
          simp (disch := omega) only [impl_endBinary.j1, if_pos, if_neg, hb, hx, w64]
          simp only [Bool.false_eq_true, if_false]
          refine Ev.neg (by rw [c0]; decide) ?_
          have := ih n (by omega)
          rw [show ((n + 1 : Nat) : Int) - 1 = (n : Int) by omega]
          exact this
        · rw [if_neg c0]
          refine Ev.neg (fun e => c0 ((byte_eq c 48).1 e)) (Ev.succ ?_)
          by_cases c1 : c = 49
          · rw [if_pos c1]
            simp (disch := omega) only [impl_endBinary.j1, if_pos, if_neg, hb, hx, w64]
            refine Ev.neg (by rw [c1]; decide) (Ev.pos (by rw [c1]; rfl) ?_)
            have := ih (n + 2) (by omega)
            rw [show ((n + 1 : Nat) : Int) + 1 = ((n + 2 : Nat) : Int) by omega]
            exact this
          · rw [if_neg c1]
            simp only [impl_endBinary.j1]
            refine Ev.pos ?_ (Ev.now _)
            rw [bne_iff_ne]
            exact fun e => c1 ((byte_eq c 49).1 e)
  unfold impl_endBinary.f
  exact key w 1 (by omega)
theorem impl_IsBinary_ev (w : List UInt8) (hm : w.length ≤ 140737488351232) : Ev (fun k => impl_IsBinary.f k (S w)) (isB w) := by
  have hs := S_size w
  unfold impl_IsBinary.f isB
  by_cases c : w.length ≤ 47
  · refine Ev.neg (by omega) (Ev.bind (impl_endBinary_ev w hm) ?_)
    rw [decide_eq_true c, Bool.true_and]
    cases h : scanB w 1 with
    | none => exact Ev.neg (by simp) (Ev.some (by simp))
    | some rest =>
      refine Ev.pos rfl (Ev.some ?_)
      rw [S_toList, Bool.eq_iff_iff]
      simp
  · refine Ev.pos (by omega) (Ev.some ?_)
    rw [decide_eq_false c, Bool.false_and]
theorem impl_sides_ev (l r : F) (h : sz l + sz r ≤ 1000) : Ev (fun m => impl_sides.f m (S (bin (cons l r)))) (S (bin l), S (bin r)) := by
  have hl := bin_length l
  have hr := bin_length r
  have hs := S_size (bin (cons l r))
  have hb := bin_length (cons l r)
  simp only [sz] at hb
  have hx : (S (bin (cons l r))).extract 1 (S (bin (cons l r))).size = S (bin l ++ bin r) := by
    rw [S_extract, S_size, List.take_length]
    rfl
  have e := impl_endBinary_ev (bin l ++ bin r) (by rw [List.length_append]; omega)
  have hsc : scanB (bin l ++ bin r) 1 = some (bin r) := by rw [scanB_bin]; simp [scanB]
  rw [hsc] at e
  have hs2 := S_size (bin r)
  unfold impl_sides.f
  rw [hx]
  refine Ev.pos (by omega) (Ev.bind e ?_)
  simp only [hs, hs2]
  rw [w64 (by omega)]
  refine Ev.pos (by omega) (Ev.pos (by omega) (Ev.some ?_))
  rw [show (((bin (cons l r)).length : Int) - ((bin r).length : Int)).toNat = 1 + (bin l).length by omega, S_extract]
  have e1 : ((bin (cons l r)).take (1 + (bin l).length)).drop 1 = bin l := by
    rw [Nat.add_comm]; simp [bin]
  rw [e1]
theorem impl_mirrorBinary_ev : ∀ (f : F), sz f ≤ 1000 → Ev (fun m => impl_mirrorBinary.f m (S (bin f))) (S (bin (mb f))) := by
  intro f
  induction f with
  | nil =>
    intro _
    refine Ev.step (fun k => by rw [impl_mirrorBinary.f]) ?_
    exact Ev.pos ((bin_is_nil nil).2 rfl) (Ev.now _)
  | cons l r hl hr =>
    intro h
    simp only [sz] at h
    have b1 := bin_length (mb l)
    have b2 := bin_length (mb r)
    rw [mb_sz] at b1 b2
    refine Ev.step (fun k => by rw [impl_mirrorBinary.f]) ?_
    refine Ev.neg (fun x => by cases (bin_is_nil _).1 x) (Ev.bind (impl_sides_ev l r (by omega)) (Ev.bind (hr (by omega)) ?_))
    rw [S_lit49, S_append, S_size]
    refine Ev.pos (by omega) (Ev.bind (hl (by omega)) ?_)
    rw [S_append, S_size, S_size]
    exact Ev.pos (by simp; omega) (Ev.some (by simp [mb, bin]))
theorem impl_MirrorBinary_ev (w : List UInt8) (hm : w.length ≤ 140737488351232) {R} (h : binR (fun f => S (bin (mb f))) (S []) w R) : Ev (fun m => impl_MirrorBinary.f m (S w)) R := by
  have e := impl_IsBinary_ev w hm
  rcases h with ⟨h, rfl⟩ | ⟨f, rfl, hk, h, rfl⟩
  · rw [h] at e
    unfold impl_MirrorBinary.f
    exact Ev.bind e (Ev.neg (by simp) (Ev.now _))
  · rw [h] at e
    unfold impl_MirrorBinary.f
    refine Ev.bind e (Ev.pos rfl ?_)
    exact Ev.bind (impl_mirrorBinary_ev f (by omega)) (Ev.now _)
theorem FnExactMirrorBinary : laws_FnExactMirrorBinary.Pure := by
  intro a0 hm
  obtain ⟨w, rfl⟩ := S_of a0
  have hs := S_size w
  apply Ev.rounds
  unfold laws_FnExactMirrorBinary.f
  by_cases c : ((S w).size : Int) > 1048576
  · exact Ev.pos c (Ev.now _)
  · refine Ev.neg c ?_
    obtain ⟨R, hR⟩ := binR_ex (fun f => S (bin (mb f))) (S []) w
    refine Ev.bind (spec_MirrorBinary_ev w (by omega) hR) (Ev.bind (impl_MirrorBinary_ev w (by omega) hR) ?_)
    exact Ev.pos rfl (Ev.pos rfl (Ev.now _))

end Go.Proofs.Ytjpmichlhagbcaa.Pure
