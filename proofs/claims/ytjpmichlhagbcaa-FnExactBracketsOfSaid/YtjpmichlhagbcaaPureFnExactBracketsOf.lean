/- The pure statement of the law FnExactBracketsOf is proved. Conditions: those of the statement alone. -/
import Derived.Test.YtjpmichlhagbcaaQFnExactBracketsOfx2
import Derived.Test.YtjpmichlhagbcaaBase
import Derived.Test.YtjpmichlhagbcaaBase2
import Derived.Test.YtjpmichlhagbcaaBin
import Derived.Test.YtjpmichlhagbcaaBase3
import Derived.Test.YtjpmichlhagbcaaBase4
import Derived.Test.YtjpmichlhagbcaaBase5
import Derived.Test.YtjpmichlhagbcaaBase6
import Derived.Test.YtjpmichlhagbcaaPar
import Derived.Test.YtjpmichlhagbcaaPar2
import Derived.Test.YtjpmichlhagbcaaRem
import Derived.Test.YtjpmichlhagbcaaBin2
import Derived.Test.YtjpmichlhagbcaaNum
namespace Go.Proofs.Ytjpmichlhagbcaa.Pure
open Go.RowKit Go.Proofs.Ytjpmichlhagbcaa.QFnExactBracketsOf Go.Proofs.Ytjpmichlhagbcaa.Base Go.Proofs.YtjpmichlhagbcaaW.PrintWords Go.Proofs.YtjpmichlhagbcaaW.PrintLast Go.Proofs.YtjpmichlhagbcaaW.PrintMore
open Go.Proofs.Ytjpmichlhagbcaa.Base.F
set_option linter.unusedVariables false
set_option linter.unusedSimpArgs false

theorem spec_l03End_ev (w : List UInt8) (hm : w.length ≤ 140737488351232) (at0 : Nat) (ha : at0 ≤ w.length) :
    Ev (fun k => spec_l03End.f k (S w) at0) (match scanB (w.drop at0) 1 with | some rest => (w.length : Int) - rest.length | none => -1) := by
  have key : ∀ (l : List UInt8) (i n : Nat), w.drop i = l → i + l.length = w.length → n ≤ 1 + i →
      Ev (fun k => spec_l03End.l0 k (S w) i n) (match scanB l n with | some rest => (w.length : Int) - rest.length | none => -1) := by
    intro l
    induction l with
    | nil =>
      intro i n h hi hn
      apply Ev.succ
      cases n with
      | zero =>
        simp (disch := omega) only [spec_l03End.l0, if_neg, scanB]
        exact Ev.some (by simp at hi ⊢; omega)
      | succ n =>
        have hs := S_size w
        simp only [List.length_nil] at hi
        simp (disch := omega) only [spec_l03End.l0, if_pos, scanB]
        apply Ev.succ
        simp only [spec_l03End.j1, if_true]
        exact Ev.now _
    | cons c l ih =>
      intro i n h hi hn
      apply Ev.succ
      simp only [List.length_cons] at hi
      cases n with
      | zero =>
        simp (disch := omega) only [spec_l03End.l0, if_neg, scanB]
        exact Ev.some (by simp; omega)
      | succ n =>
        have hs := S_size w
        have hb := S_bt_drop h
        have hd := (drop_cons h).2.2
        simp (disch := omega) only [spec_l03End.l0, if_pos, if_neg, hb, scanB]
        by_cases c0 : c = 48
        · rw [if_pos c0]
          refine Ev.pos (by rw [c0]; rfl) (Ev.succ ?_)
          simp (disch := omega) only [spec_l03End.j1, if_pos, if_neg, hb, w64]
          simp only [Bool.false_eq_true, if_false]
          refine Ev.neg (by rw [c0]; decide) ?_
          have := ih (i + 1) n hd (by omega) (by omega)
          rw [show ((n + 1 : Nat) : Int) - 1 = (n : Int) by omega]
          exact this
        · rw [if_neg c0]
          refine Ev.neg (fun e => c0 ((byte_eq c 48).1 e)) (Ev.succ ?_)
          by_cases c1 : c = 49
          · rw [if_pos c1]
            simp (disch := omega) only [spec_l03End.j1, if_pos, if_neg, hb, w64]
            refine Ev.neg (by rw [c1]; decide) (Ev.pos (by rw [c1]; rfl) ?_)
            have := ih (i + 1) (n + 2) hd (by omega) (by omega)
            rw [show ((n + 1 : Nat) : Int) + 1 = ((n + 2 : Nat) : Int) by omega]
            exact this
          · rw [if_neg c1]
            simp only [spec_l03End.j1]
            refine Ev.pos ?_ (Ev.now _)
            rw [bne_iff_ne]
            exact fun e => c1 ((byte_eq c 49).1 e)
  unfold spec_l03End.f
  exact key (w.drop at0) at0 1 rfl (by rw [List.length_drop]; omega) (by omega)
theorem spec_l03Is_ev (w : List UInt8) (hm : w.length ≤ 140737488351232) : Ev (fun k => spec_l03Is.f k (S w)) (isB w) := by
  have hs := S_size w
  unfold spec_l03Is.f isB
  by_cases c : w.length ≤ 47
  · refine Ev.pos (by omega) (Ev.bind (spec_l03End_ev w hm 0 (by omega)) (Ev.some ?_))
    rw [decide_eq_true c, Bool.true_and, List.drop_zero, hs, Bool.eq_iff_iff]
    cases h : scanB w 1 with
    | none => simp
    | some rest =>
      simp only [beq_iff_eq, Option.some.injEq]
      constructor
      · intro e; exact List.eq_nil_of_length_eq_zero (by omega)
      · intro e; subst e; simp
  · refine Ev.neg (by omega) (Ev.some ?_)
    rw [decide_eq_false c, Bool.false_and]
theorem spec_l03Sides_ev (l r : F) (h : sz l + sz r ≤ 1000) : Ev (fun m => spec_l03Sides.f m (S (bin (cons l r)))) (S (bin l), S (bin r)) := by
  have hl := bin_length l
  have hr := bin_length r
  have hs := S_size (bin (cons l r))
  have hb := bin_length (cons l r)
  have e := spec_l03End_ev (bin (cons l r)) (by rw [hb]; simp only [sz]; omega) 1 (by omega)
  have hd : (bin (cons l r)).drop 1 = bin l ++ bin r := rfl
  have hsc : scanB (bin l ++ bin r) 1 = some (bin r) := by rw [scanB_bin]; simp [scanB]
  rw [hd, hsc] at e
  simp only [sz] at hb
  have ht : ((bin (cons l r)).length : Int) - (bin r).length = ((1 + (bin l).length : Nat) : Int) := by omega
  simp only [ht] at e
  unfold spec_l03Sides.f
  refine Ev.bind e (Ev.pos (by omega) (Ev.pos (by omega) (Ev.pos (by omega) (Ev.some ?_))))
  rw [Int.toNat_natCast, S_extract, S_extract, S_size]
  have e1 : ((bin (cons l r)).take (1 + (bin l).length)).drop 1 = bin l := by
    rw [Nat.add_comm]; simp [bin]
  have e2 : ((bin (cons l r)).take (bin (cons l r)).length).drop (1 + (bin l).length) = bin r := by
    rw [List.take_length, Nat.add_comm]
    simp [bin]
  rw [e1, e2]
theorem spec_l03N_eq (w : List UInt8) (h : w.length ≤ 140737488351232) : spec_l03N.f (S w) = some ((w.length : Int) / 2) := by
  unfold spec_l03N.f
  rw [S_size, w64 (by omega)]
theorem strOfNums_one (n : Nat) (h : n < 256) : strOfNums [(n : Int)] = S [UInt8.ofNat n] := by
  unfold strOfNums S
  simp
theorem spec_l03Brackets_ev : ∀ (f : F) (a : Nat), sz f + a ≤ 100 → Ev (fun m => spec_l03Brackets.f m (S (bin f)) (a : Int)) (S (brk a f)) := by
  intro f
  induction f with
  | nil =>
    intro a h
    simp only [sz] at h
    refine Ev.step (fun k => by rw [spec_l03Brackets.f]) ?_
    refine Ev.pos ((bin_is_nil nil).2 rfl) (Ev.some ?_)
    rw [w64 (by omega), show (97 + (a : Int)) % 256 = ((97 + a : Nat) : Int) by omega, strOfNums_one _ (by omega)]
    rfl
  | cons l r hl hr =>
    intro a h
    simp only [sz] at h
    have b1 := brk_length l a
    have b2 := brk_length r (a + sz l + 1)
    have hb := bin_length l
    refine Ev.step (fun k => by rw [spec_l03Brackets.f]) ?_
    refine Ev.neg (fun x => by cases (bin_is_nil _).1 x) (Ev.bind (spec_l03Sides_ev l r (by omega)) (Ev.bind (hl a (by omega)) ?_))
    simp only [S_lit40, S_lit41, S_append, S_size]
    refine Ev.pos (by omega) (Ev.bind (Ev.const (spec_l03N_eq _ (by omega))) ?_)
    rw [hb, w64 (x := (a : Int) + ((2 * sz l + 1 : Nat) : Int) / 2) (by omega), w64 (by omega), show (a : Int) + ((2 * sz l + 1 : Nat) : Int) / 2 + 1 = ((a + sz l + 1 : Nat) : Int) by omega]
    refine Ev.bind (hr (a + sz l + 1) (by omega)) ?_
    simp only [S_append, S_size]
    refine Ev.pos (by simp; omega) (Ev.pos (by simp; omega) (Ev.some ?_))
    simp [brk]
theorem spec_BracketsOf_ev (w : List UInt8) (hm : w.length ≤ 140737488351232) {R} (h : binR (fun f => S (brk 0 f)) (S []) w R) : Ev (fun m => spec_BracketsOf.f m (S w)) R := by
  have e := spec_l03Is_ev w hm
  rcases h with ⟨h, rfl⟩ | ⟨f, rfl, hk, h, rfl⟩
  · rw [h] at e
    unfold spec_BracketsOf.f
    exact Ev.bind e (Ev.neg (by simp) (Ev.now _))
  · rw [h] at e
    unfold spec_BracketsOf.f
    refine Ev.bind e (Ev.pos rfl ?_)
    exact Ev.bind (spec_l03Brackets_ev f 0 (by omega)) (Ev.now _)
theorem impl_endBinary_ev (w : List UInt8) (hm : w.length ≤ 140737488351232) :
    Ev (fun k => impl_endBinary.f k (S w)) (match scanB w 1 with | some rest => (S rest, true) | none => (S [], false)) := by
  have key : ∀ (l : List UInt8) (n : Nat), (n : Int) + l.length ≤ 140737488351233 →
      Ev (fun k => impl_endBinary.l0 k (S l) n) (match scanB l n with | some rest => (S rest, true) | none => (S [], false)) := by
    intro l
    induction l with
    | nil =>
      intro n hn
      apply Ev.succ
      cases n with
      | zero =>
        simp (disch := omega) only [impl_endBinary.l0, if_neg, scanB]
        exact Ev.now _
      | succ n =>
        simp (disch := omega) only [impl_endBinary.l0, if_pos, scanB, S_toList]
        apply Ev.succ
        simp only [impl_endBinary.j1, if_true]
        exact Ev.now _
    | cons c l ih =>
      intro n hn
      simp only [List.length_cons] at hn
      apply Ev.succ
      cases n with
      | zero =>
        simp (disch := omega) only [impl_endBinary.l0, if_neg, scanB]
        exact Ev.now _
      | succ n =>
        have hs : (S (c :: l)).size = l.length + 1 := S_size (c :: l)
        have hb : bt (S (c :: l)) 0 = (c.toNat : Int) := S_bt_drop (i := 0) rfl
        have hx : (S (c :: l)).extract 1 (S (c :: l)).size = S l := by rw [hs, S_extract]; simp
        have hne : ¬ ((S (c :: l)).toList = ([] : List UInt8)) := by rw [S_toList]; simp
        simp (disch := omega) only [impl_endBinary.l0, if_pos, hb, scanB]
        refine Ev.neg hne ?_
        by_cases c0 : c = 48
        · rw [if_pos c0]
          refine Ev.pos (by rw [c0]; rfl) (Ev.succ ?_)
          simp (disch := omega) only [impl_endBinary.j1, if_pos, if_neg, hb, hx, w64]
          simp only [Bool.false_eq_true, if_false]
          refine Ev.neg (by rw [c0]; decide) ?_
          have := ih n (by omega)
          rw [show ((n + 1 : Nat) : Int) - 1 = (n : Int) by omega]
          exact this
        · rw [if_neg c0]
          refine Ev.neg (fun e => c0 ((byte_eq c 48).1 e)) (Ev.succ ?_)
          by_cases c1 : c = 49
          · rw [if_pos c1]
            simp (disch := omega) only [impl_endBinary.j1, if_pos, if_neg, hb, hx, w64]
            refine Ev.neg (by rw [c1]; decide) (Ev.pos (by rw [c1]; rfl) ?_)
            have := ih (n + 2) (by omega)
            rw [show ((n + 1 : Nat) : Int) + 1 = ((n + 2 : Nat) : Int) by omega]
            exact this
          · rw [if_neg c1]
            simp only [impl_endBinary.j1]
            refine Ev.pos ?_ (Ev.now _)
            rw [bne_iff_ne]
            exact fun e => c1 ((byte_eq c 49).1 e)
  unfold impl_endBinary.f
  exact key w 1 (by omega)
theorem impl_IsBinary_ev (w : List UInt8) (hm : w.length ≤ 140737488351232) : Ev (fun k => impl_IsBinary.f k (S w)) (isB w) := by
  have hs := S_size w
  unfold impl_IsBinary.f isB
  by_cases c : w.length ≤ 47
  · refine Ev.neg (by omega) (Ev.bind (impl_endBinary_ev w hm) ?_)
    rw [decide_eq_true c, Bool.true_and]
    cases h : scanB w 1 with
    | none => exact Ev.neg (by simp) (Ev.some (by simp))
    | some rest =>
      refine Ev.pos rfl (Ev.some ?_)
      rw [S_toList, Bool.eq_iff_iff]
      simp
  · refine Ev.pos (by omega) (Ev.some ?_)
    rw [decide_eq_false c, Bool.false_and]
theorem impl_sides_ev (l r : F) (h : sz l + sz r ≤ 1000) : Ev (fun m => impl_sides.f m (S (bin (cons l r)))) (S (bin l), S (bin r)) := by
  have hl := bin_length l
  have hr := bin_length r
  have hs := S_size (bin (cons l r))
  have hb := bin_length (cons l r)
  simp only [sz] at hb
  have hx : (S (bin (cons l r))).extract 1 (S (bin (cons l r))).size = S (bin l ++ bin r) := by
    rw [S_extract, S_size, List.take_length]
    rfl
  have e := impl_endBinary_ev (bin l ++ bin r) (by rw [List.length_append]; omega)
  have hsc : scanB (bin l ++ bin r) 1 = some (bin r) := by rw [scanB_bin]; simp [scanB]
  rw [hsc] at e
  have hs2 := S_size (bin r)
  unfold impl_sides.f
  rw [hx]
  refine Ev.pos (by omega) (Ev.bind e ?_)
  simp only [hs, hs2]
  rw [w64 (by omega)]
  refine Ev.pos (by omega) (Ev.pos (by omega) (Ev.some ?_))
  rw [show (((bin (cons l r)).length : Int) - ((bin r).length : Int)).toNat = 1 + (bin l).length by omega, S_extract]
  have e1 : ((bin (cons l r)).take (1 + (bin l).length)).drop 1 = bin l := by
    rw [Nat.add_comm]; simp [bin]
  rw [e1]
theorem impl_nodesOf_eq (w : List UInt8) (h : w.length ≤ 140737488351232) : impl_nodesOf.f (S w) = some ((w.length : Int) / 2) := by
  unfold impl_nodesOf.f
  rw [S_size, w64 (by omega)]
theorem encode_small (n : Nat) (h : n < 128) : Utf8.encode (n : Int) = S [UInt8.ofNat n] := by
  have hv : Utf8.valid (n : Int) = true := by
    unfold Utf8.valid
    simp
    omega
  unfold Utf8.encode
  simp only [hv, if_true, Int.toNat_natCast]
  rw [if_pos (by omega)]
  rfl
theorem w32 {x : Int} (h : -2147483648 ≤ x ∧ x ≤ 2147483647) : wrap32 x = x := by
  unfold wrap32
  omega
theorem impl_brackets_ev : ∀ (f : F) (a : Nat), sz f + a ≤ 30 → Ev (fun m => impl_brackets.f m (S (bin f)) (a : Int)) (S (brk a f)) := by
  intro f
  induction f with
  | nil =>
    intro a h
    simp only [sz] at h
    refine Ev.step (fun k => by rw [impl_brackets.f]) ?_
    refine Ev.pos ((bin_is_nil nil).2 rfl) (Ev.some ?_)
    rw [w64 (by omega), w32 (by omega), show 97 + (a : Int) = ((97 + a : Nat) : Int) by omega, encode_small _ (by omega)]
    rfl
  | cons l r hl hr =>
    intro a h
    simp only [sz] at h
    have b1 := brk_length l a
    have b2 := brk_length r (a + sz l + 1)
    have hb := bin_length l
    refine Ev.step (fun k => by rw [impl_brackets.f]) ?_
    refine Ev.neg (fun x => by cases (bin_is_nil _).1 x) (Ev.bind (impl_sides_ev l r (by omega)) (Ev.bind (hl a (by omega)) ?_))
    simp only [S_lit40, S_lit41, S_append, S_size]
    refine Ev.pos (by omega) (Ev.bind (Ev.const (impl_nodesOf_eq _ (by omega))) ?_)
    rw [hb, w64 (x := (a : Int) + ((2 * sz l + 1 : Nat) : Int) / 2) (by omega), w64 (by omega), show (a : Int) + ((2 * sz l + 1 : Nat) : Int) / 2 + 1 = ((a + sz l + 1 : Nat) : Int) by omega]
    refine Ev.bind (hr (a + sz l + 1) (by omega)) ?_
    simp only [S_append, S_size]
    refine Ev.pos (by simp; omega) (Ev.pos (by simp; omega) (Ev.some ?_))
    simp [brk]
theorem impl_BracketsOf_ev (w : List UInt8) (hm : w.length ≤ 140737488351232) {R} (h : binR (fun f => S (brk 0 f)) (S []) w R) : Ev (fun m => impl_BracketsOf.f m (S w)) R := by
  have e := impl_IsBinary_ev w hm
  rcases h with ⟨h, rfl⟩ | ⟨f, rfl, hk, h, rfl⟩
  · rw [h] at e
    unfold impl_BracketsOf.f
    exact Ev.bind e (Ev.neg (by simp) (Ev.now _))
  · rw [h] at e
    unfold impl_BracketsOf.f
    refine Ev.bind e (Ev.pos rfl ?_)
    exact Ev.bind (impl_brackets_ev f 0 (by omega)) (Ev.now _)
theorem FnExactBracketsOf : ∀ (a0 : ByteArray), a0.size ≤ 140737488351232 → ∃ k, laws_FnExactBracketsOf.f k a0 = some true := by
  intro a0 hm
  obtain ⟨w, rfl⟩ := S_of a0
  have hs := S_size w
  apply Ev.rounds
  unfold laws_FnExactBracketsOf.f
  by_cases c : ((S w).size : Int) > 1048576
  · exact Ev.pos c (Ev.now _)
  · refine Ev.neg c ?_
    obtain ⟨R, hR⟩ := binR_ex (fun f => S (brk 0 f)) (S []) w
    refine Ev.bind (spec_BracketsOf_ev w (by omega) hR) (Ev.bind (impl_BracketsOf_ev w (by omega) hR) ?_)
    exact Ev.pos rfl (Ev.pos rfl (Ev.now _))

end Go.Proofs.Ytjpmichlhagbcaa.Pure
