/- The pure statement of the law FnExactParseBrackets is proved. Conditions: those of the statement alone. -/
import Derived.Test.YtjpmichlhagbcaaQFnExactParseBracketsx3
import Derived.Test.YtjpmichlhagbcaaBase
import Derived.Test.YtjpmichlhagbcaaBase2
import Derived.Test.YtjpmichlhagbcaaBin
import Derived.Test.YtjpmichlhagbcaaBase3
import Derived.Test.YtjpmichlhagbcaaBase4
import Derived.Test.YtjpmichlhagbcaaBase5
import Derived.Test.YtjpmichlhagbcaaBase6
import Derived.Test.YtjpmichlhagbcaaPar
import Derived.Test.YtjpmichlhagbcaaPar2
import Derived.Test.YtjpmichlhagbcaaRem
import Derived.Test.YtjpmichlhagbcaaBin2
import Derived.Test.YtjpmichlhagbcaaNum
namespace Go.Proofs.Ytjpmichlhagbcaa.Pure
open Go.RowKit Go.Proofs.Ytjpmichlhagbcaa.QFnExactParseBrackets Go.Proofs.Ytjpmichlhagbcaa.Base Go.Proofs.YtjpmichlhagbcaaW.PrintWords Go.Proofs.YtjpmichlhagbcaaW.PrintLast Go.Proofs.YtjpmichlhagbcaaW.PrintMore
open Go.Proofs.Ytjpmichlhagbcaa.Base.F
set_option linter.unusedVariables false
set_option linter.unusedSimpArgs false

theorem spec_l03End_ev (w : List UInt8) (hm : w.length ≤ 140737488351232) (at0 : Nat) (ha : at0 ≤ w.length) :
    Ev (fun k => spec_l03End.f k (S w) at0) (match scanB (w.drop at0) 1 with | some rest => (w.length : Int) - rest.length | none => -1) := by
  have key : ∀ (l : List UInt8) (i n : Nat), w.drop i = l → i + l.length = w.length → n ≤ 1 + i →
      Ev (fun k => spec_l03End.l0 k (S w) i n) (match scanB l n with | some rest => (w.length : Int) - rest.length | none => -1) := by
    intro l
    induction l with
    | nil =>
      intro i n h hi hn
      apply Ev.succ
      cases n with
      | zero =>
        simp (disch := omega) only [spec_l03End.l0, if_neg, scanB]
        exact Ev.some (by simp at hi ⊢; omega)
      | succ n =>
        have hs := S_size w
        simp only [List.length_nil] at hi
        simp (disch := omega) only [spec_l03End.l0, if_pos, scanB]
        apply Ev.succ
        simp only [spec_l03End.j1, if_true]
        exact Ev.now _
    | cons c l ih =>
      intro i n h hi hn
      apply Ev.succ
      simp only [List.length_cons] at hi
      cases n with
      | zero =>
        simp (disch := omega) only [spec_l03End.l0, if_neg, scanB]
        exact Ev.some (by simp; omega)
      | succ n =>
        have hs := S_size w
        have hb := S_bt_drop h
        have hd := (drop_cons h).2.2
        simp (disch := omega) only [spec_l03End.l0, if_pos, if_neg, hb, scanB]
        by_cases c0 : c = 48
        · rw [if_pos c0]
          refine Ev.pos (by rw [c0]; rfl) (Ev.succ ?_)
          simp (disch := omega) only [spec_l03End.j1, if_pos, if_neg, hb, w64]
          simp only [Bool.false_eq_true, if_false]
          refine Ev.neg (by rw [c0]; decide) ?_
          have := ih (i + 1) n hd (by omega) (by omega)
          rw [show ((n + 1 : Nat) : Int) - 1 = (n : Int) by omega]
          exact this
        · rw [if_neg c0]
          refine Ev.neg (fun e => c0 ((byte_eq c 48).1 e)) (Ev.succ ?_)
          by_cases c1 : c = 49
          · rw [if_pos c1]
            simp (disch := omega) only [spec_l03End.j1, if_pos, if_neg, hb, w64]
            refine Ev.neg (by rw [c1]; decide) (Ev.pos (by rw [c1]; rfl) ?_)
            have := ih (i + 1) (n + 2) hd (by omega) (by omega)
            rw [show ((n + 1 : Nat) : Int) + 1 = ((n + 2 : Nat) : Int) by omega]
            exact this
          · rw [if_neg c1]
            simp only [spec_l03End.j1]
            refine Ev.pos ?_ (Ev.now _)
            rw [bne_iff_ne]
            exact fun e => c1 ((byte_eq c 49).1 e)
  unfold spec_l03End.f
  exact key (w.drop at0) at0 1 rfl (by rw [List.length_drop]; omega) (by omega)
theorem spec_l03Is_ev (w : List UInt8) (hm : w.length ≤ 140737488351232) : Ev (fun k => spec_l03Is.f k (S w)) (isB w) := by
  have hs := S_size w
  unfold spec_l03Is.f isB
  by_cases c : w.length ≤ 47
  · refine Ev.pos (by omega) (Ev.bind (spec_l03End_ev w hm 0 (by omega)) (Ev.some ?_))
    rw [decide_eq_true c, Bool.true_and, List.drop_zero, hs, Bool.eq_iff_iff]
    cases h : scanB w 1 with
    | none => simp
    | some rest =>
      simp only [beq_iff_eq, Option.some.injEq]
      constructor
      · intro e; exact List.eq_nil_of_length_eq_zero (by omega)
      · intro e; subst e; simp
  · refine Ev.neg (by omega) (Ev.some ?_)
    rw [decide_eq_false c, Bool.false_and]
theorem spec_l03Sides_ev (l r : F) (h : sz l + sz r ≤ 1000) : Ev (fun m => spec_l03Sides.f m (S (bin (cons l r)))) (S (bin l), S (bin r)) := by
  have hl := bin_length l
  have hr := bin_length r
  have hs := S_size (bin (cons l r))
  have hb := bin_length (cons l r)
  have e := spec_l03End_ev (bin (cons l r)) (by rw [hb]; simp only [sz]; omega) 1 (by omega)
  have hd : (bin (cons l r)).drop 1 = bin l ++ bin r := rfl
  have hsc : scanB (bin l ++ bin r) 1 = some (bin r) := by rw [scanB_bin]; simp [scanB]
  rw [hd, hsc] at e
  simp only [sz] at hb
  have ht : ((bin (cons l r)).length : Int) - (bin r).length = ((1 + (bin l).length : Nat) : Int) := by omega
  simp only [ht] at e
  unfold spec_l03Sides.f
  refine Ev.bind e (Ev.pos (by omega) (Ev.pos (by omega) (Ev.pos (by omega) (Ev.some ?_))))
  rw [Int.toNat_natCast, S_extract, S_extract, S_size]
  have e1 : ((bin (cons l r)).take (1 + (bin l).length)).drop 1 = bin l := by
    rw [Nat.add_comm]; simp [bin]
  have e2 : ((bin (cons l r)).take (bin (cons l r)).length).drop (1 + (bin l).length) = bin r := by
    rw [List.take_length, Nat.add_comm]
    simp [bin]
  rw [e1, e2]
theorem spec_l03N_eq (w : List UInt8) (h : w.length ≤ 140737488351232) : spec_l03N.f (S w) = some ((w.length : Int) / 2) := by
  unfold spec_l03N.f
  rw [S_size, w64 (by omega)]
theorem strOfNums_one (n : Nat) (h : n < 256) : strOfNums [(n : Int)] = S [UInt8.ofNat n] := by
  unfold strOfNums S
  simp
theorem spec_l03Brackets_ev : ∀ (f : F) (a : Nat), sz f + a ≤ 100 → Ev (fun m => spec_l03Brackets.f m (S (bin f)) (a : Int)) (S (brk a f)) := by
  intro f
  induction f with
  | nil =>
    intro a h
    simp only [sz] at h
    refine Ev.step (fun k => by rw [spec_l03Brackets.f]) ?_
    refine Ev.pos ((bin_is_nil nil).2 rfl) (Ev.some ?_)
    rw [w64 (by omega), show (97 + (a : Int)) % 256 = ((97 + a : Nat) : Int) by omega, strOfNums_one _ (by omega)]
    rfl
  | cons l r hl hr =>
    intro a h
    simp only [sz] at h
    have b1 := brk_length l a
    have b2 := brk_length r (a + sz l + 1)
    have hb := bin_length l
    refine Ev.step (fun k => by rw [spec_l03Brackets.f]) ?_
    refine Ev.neg (fun x => by cases (bin_is_nil _).1 x) (Ev.bind (spec_l03Sides_ev l r (by omega)) (Ev.bind (hl a (by omega)) ?_))
    simp only [S_lit40, S_lit41, S_append, S_size]
    refine Ev.pos (by omega) (Ev.bind (Ev.const (spec_l03N_eq _ (by omega))) ?_)
    rw [hb, w64 (x := (a : Int) + ((2 * sz l + 1 : Nat) : Int) / 2) (by omega), w64 (by omega), show (a : Int) + ((2 * sz l + 1 : Nat) : Int) / 2 + 1 = ((a + sz l + 1 : Nat) : Int) by omega]
    refine Ev.bind (hr (a + sz l + 1) (by omega)) ?_
    simp only [S_append, S_size]
    refine Ev.pos (by simp; omega) (Ev.pos (by simp; omega) (Ev.some ?_))
    simp [brk]
/-- the answer about brackets: the binary tree whose brackets they are -/
def pbR (w : List UInt8) (R : ByteArray × Int) : Prop :=
  (∃ f, sz f ≤ 23 ∧ w = brk 0 f ∧ R = (S (bin f), 0)) ∨ ((∀ f, sz f ≤ 23 → w ≠ brk 0 f) ∧ R = (S [], 6))
theorem pbR_ex (w : List UInt8) : ∃ R, pbR w R := by
  by_cases h : ∃ f, sz f ≤ 23 ∧ w = brk 0 f
  · obtain ⟨f, h1, h2⟩ := h
    exact ⟨_, .inl ⟨f, h1, h2, rfl⟩⟩
  · exact ⟨_, .inr ⟨fun f h1 h2 => h ⟨f, h1, h2⟩, rfl⟩⟩
/-- brackets and letters turned into the signs of a binary tree -/
def strip (l : List UInt8) : List UInt8 := l.flatMap fun c => if c = 40 then [49] else if (97 : Int) ≤ c.toNat ∧ (c.toNat : Int) ≤ 122 then [48] else []
theorem strip_append (l m : List UInt8) : strip (l ++ m) = strip l ++ strip m := by simp [strip]
theorem strip_cons (c : UInt8) (l : List UInt8) : strip (c :: l) = (if c = 40 then [49] else if (97 : Int) ≤ c.toNat ∧ (c.toNat : Int) ≤ 122 then [48] else []) ++ strip l := by simp [strip]
theorem strip_length (l : List UInt8) : (strip l).length ≤ l.length := by
  induction l with
  | nil => simp [strip]
  | cons c l ih =>
    rw [strip_cons, List.length_append, List.length_cons]
    by_cases c0 : c = 40
    · rw [if_pos c0]; simp only [List.length_cons, List.length_nil]; omega
    · rw [if_neg c0]
      split <;> simp only [List.length_cons, List.length_nil] <;> omega
theorem letter_nat (a : Nat) (h : a ≤ 25) : (UInt8.ofNat (97 + a)).toNat = 97 + a := by
  simp
  omega
theorem strip_brk : ∀ (f : F) (a : Nat), sz f + a ≤ 25 → strip (brk a f) = bin f := by
  intro f
  induction f with
  | nil =>
    intro a h
    simp only [sz] at h
    have h1 := letter_nat a (by omega)
    simp only [brk]
    rw [strip_cons, if_neg (fun e => by rw [e] at h1; simp at h1; omega), if_pos (by rw [h1]; omega)]
    rfl
  | cons l r hl hr =>
    intro a h
    simp only [sz] at h
    simp only [brk]
    rw [strip_cons, strip_append, strip_append, hl a (by omega), hr (a + sz l + 1) (by omega), if_pos rfl]
    simp [strip, bin]
theorem spec_ParseBrackets_ev (w : List UInt8) (hm : w.length ≤ 1048576) {R} (h : pbR w R) : Ev (fun m => spec_ParseBrackets.f m (S w)) R := by
  have hs := S_size w
  have fin : Ev (fun k => spec_ParseBrackets.l0 k (S w) (S (strip w)) (w.length : Int)) R := by
    have hl := strip_length w
    have e := spec_l03Is_ev (strip w) (by omega)
    apply Ev.succ
    simp only [spec_ParseBrackets.l0]
    refine Ev.neg (by omega) ?_
    rcases h with ⟨f, h1, rfl, rfl⟩ | ⟨h1, rfl⟩
    · rw [strip_brk f 0 (by omega)] at e ⊢
      rw [isB_bin h1] at e
      refine Ev.bind e (Ev.pos rfl (Ev.bind (spec_l03Brackets_ev f 0 (by omega)) ?_))
      exact Ev.pos rfl (Ev.now _)
    · rcases isB_cases (strip w) with h2 | ⟨f, h2, h3, h4⟩
      · rw [h2] at e
        exact Ev.bind e (Ev.neg (by simp) (Ev.now _))
      · rw [h4] at e
        refine Ev.bind e (Ev.pos rfl ?_)
        rw [h2]
        refine Ev.bind (spec_l03Brackets_ev f 0 (by omega)) (Ev.neg ?_ (Ev.now _))
        rw [S_toList, S_toList]
        exact fun e => h1 f h3 e.symm
  have key : ∀ (tl : List UInt8) (i : Nat), w.drop i = tl → i ≤ w.length → Ev (fun k => spec_ParseBrackets.l0 k (S w) (S (strip (w.take i))) (i : Int)) R := by
    intro tl
    induction tl with
    | nil =>
      intro i hd hi
      have : i = w.length := by
        have := congrArg List.length hd
        rw [List.length_drop, List.length_nil] at this
        omega
      subst this
      rw [List.take_length]
      exact fin
    | cons c tl ih =>
      intro i hd hi
      have hlt : i < w.length := by
        have := congrArg List.length hd
        rw [List.length_drop, List.length_cons] at this
        omega
      have hb := S_bt_drop hd
      have hl := strip_length (w.take i)
      rw [List.length_take] at hl
      have hsz := S_size (strip (w.take i))
      have hg : w[i] = c := by
        rw [List.drop_eq_getElem_cons hlt] at hd
        injection hd
      have ht : strip (w.take (i + 1)) = strip (w.take i) ++ (if c = 40 then [49] else if (97 : Int) ≤ c.toNat ∧ (c.toNat : Int) ≤ 122 then [48] else []) := by
        rw [List.take_succ_eq_append_getElem hlt, strip_append, hg, strip_cons]
        simp [strip]
      have next := ih (i + 1) (by rw [List.drop_eq_getElem_cons hlt] at hd; injection hd) (by omega)
      rw [ht] at next
      apply Ev.succ
      simp only [spec_ParseBrackets.l0, hb]
      rw [w64 (x := (i : Int) + 1) (by omega), show (i : Int) + 1 = ((i + 1 : Nat) : Int) by omega]
      refine Ev.pos (by omega) (Ev.pos (by omega) ?_)
      rw [S_lit49, S_lit48, S_append, S_append]
      by_cases c0 : c = 40
      · rw [if_pos c0] at next
        exact Ev.pos (by rw [c0]; rfl) (Ev.pos (by omega) next)
      · rw [if_neg c0] at next
        refine Ev.neg (fun e => c0 ((byte_eq c 40).1 e)) ?_
        by_cases c1 : (97 : Int) ≤ c.toNat
        · refine Ev.pos c1 ?_
          by_cases c2 : (c.toNat : Int) ≤ 122
          · rw [if_pos ⟨c1, c2⟩] at next
            exact Ev.pos c2 (Ev.pos (by omega) next)
          · rw [if_neg (fun e => c2 e.2), List.append_nil] at next
            exact Ev.neg c2 next
        · rw [if_neg (fun e => c1 e.1), List.append_nil] at next
          exact Ev.neg c1 next
  unfold spec_ParseBrackets.f
  exact key w 0 (by simp) (by omega)
theorem impl_endBinary_ev (w : List UInt8) (hm : w.length ≤ 140737488351232) :
    Ev (fun k => impl_endBinary.f k (S w)) (match scanB w 1 with | some rest => (S rest, true) | none => (S [], false)) := by
  have key : ∀ (l : List UInt8) (n : Nat), (n : Int) + l.length ≤ 140737488351233 →
      Ev (fun k => impl_endBinary.l0 k (S l) n) (match scanB l n with | some rest => (S rest, true) | none => (S [], false)) := by
    intro l
    induction l with
    | nil =>
      intro n hn
      apply Ev.succ
      cases n with
      | zero =>
        simp (disch := omega) only [impl_endBinary.l0, if_neg, scanB]
        exact Ev.now _
      | succ n =>
        simp (disch := omega) only [impl_endBinary.l0, if_pos, scanB, S_toList]
        apply Ev.succ
        simp only [impl_endBinary.j1, if_true]
        exact Ev.now _
    | cons c l ih =>
      intro n hn
      simp only [List.length_cons] at hn
      apply Ev.succ
      cases n with
      | zero =>
        simp (disch := omega) only [impl_endBinary.l0, if_neg, scanB]
        exact Ev.now _
      | succ n =>
        have hs : (S (c :: l)).size = l.length + 1 := S_size (c :: l)
        have hb : bt (S (c :: l)) 0 = (c.toNat : Int) := S_bt_drop (i := 0) rfl
        have hx : (S (c :: l)).extract 1 (S (c :: l)).size = S l := by rw [hs, S_extract]; simp
        have hne : ¬ ((S (c :: l)).toList = ([] : List UInt8)) := by rw [S_toList]; simp
        simp (disch := omega) only [impl_endBinary.l0, if_pos, hb, scanB]
        refine Ev.neg hne ?_
        by_cases c0 : c = 48
        · rw [if_pos c0]
          refine Ev.pos (by rw [c0]; rfl) (Ev.succ ?_)
          simp (disch := omega) only [impl_endBinary.j1, if_pos, if_neg, hb, hx, w64]
          simp only [Bool.false_eq_true, if_false]
          refine Ev.neg (by rw [c0]; decide) ?_
          have := ih n (by omega)
          rw [show ((n + 1 : Nat) : Int) - 1 = (n : Int) by omega]
          exact this
        · rw [if_neg c0]
          refine Ev.neg (fun e => c0 ((byte_eq c 48).1 e)) (Ev.succ ?_)
          by_cases c1 : c = 49
          · rw [if_pos c1]
            simp (disch := omega) only [impl_endBinary.j1, if_pos, if_neg, hb, hx, w64]
            refine Ev.neg (by rw [c1]; decide) (Ev.pos (by rw [c1]; rfl) ?_)
            have := ih (n + 2) (by omega)
            rw [show ((n + 1 : Nat) : Int) + 1 = ((n + 2 : Nat) : Int) by omega]
            exact this
          · rw [if_neg c1]
            simp only [impl_endBinary.j1]
            refine Ev.pos ?_ (Ev.now _)
            rw [bne_iff_ne]
            exact fun e => c1 ((byte_eq c 49).1 e)
  unfold impl_endBinary.f
  exact key w 1 (by omega)
theorem impl_IsBinary_ev (w : List UInt8) (hm : w.length ≤ 140737488351232) : Ev (fun k => impl_IsBinary.f k (S w)) (isB w) := by
  have hs := S_size w
  unfold impl_IsBinary.f isB
  by_cases c : w.length ≤ 47
  · refine Ev.neg (by omega) (Ev.bind (impl_endBinary_ev w hm) ?_)
    rw [decide_eq_true c, Bool.true_and]
    cases h : scanB w 1 with
    | none => exact Ev.neg (by simp) (Ev.some (by simp))
    | some rest =>
      refine Ev.pos rfl (Ev.some ?_)
      rw [S_toList, Bool.eq_iff_iff]
      simp
  · refine Ev.pos (by omega) (Ev.some ?_)
    rw [decide_eq_false c, Bool.false_and]
theorem impl_sides_ev (l r : F) (h : sz l + sz r ≤ 1000) : Ev (fun m => impl_sides.f m (S (bin (cons l r)))) (S (bin l), S (bin r)) := by
  have hl := bin_length l
  have hr := bin_length r
  have hs := S_size (bin (cons l r))
  have hb := bin_length (cons l r)
  simp only [sz] at hb
  have hx : (S (bin (cons l r))).extract 1 (S (bin (cons l r))).size = S (bin l ++ bin r) := by
    rw [S_extract, S_size, List.take_length]
    rfl
  have e := impl_endBinary_ev (bin l ++ bin r) (by rw [List.length_append]; omega)
  have hsc : scanB (bin l ++ bin r) 1 = some (bin r) := by rw [scanB_bin]; simp [scanB]
  rw [hsc] at e
  have hs2 := S_size (bin r)
  unfold impl_sides.f
  rw [hx]
  refine Ev.pos (by omega) (Ev.bind e ?_)
  simp only [hs, hs2]
  rw [w64 (by omega)]
  refine Ev.pos (by omega) (Ev.pos (by omega) (Ev.some ?_))
  rw [show (((bin (cons l r)).length : Int) - ((bin r).length : Int)).toNat = 1 + (bin l).length by omega, S_extract]
  have e1 : ((bin (cons l r)).take (1 + (bin l).length)).drop 1 = bin l := by
    rw [Nat.add_comm]; simp [bin]
  rw [e1]
theorem impl_nodesOf_eq (w : List UInt8) (h : w.length ≤ 140737488351232) : impl_nodesOf.f (S w) = some ((w.length : Int) / 2) := by
  unfold impl_nodesOf.f
  rw [S_size, w64 (by omega)]
theorem encode_small (n : Nat) (h : n < 128) : Utf8.encode (n : Int) = S [UInt8.ofNat n] := by
  have hv : Utf8.valid (n : Int) = true := by
    unfold Utf8.valid
    simp
    omega
  unfold Utf8.encode
  simp only [hv, if_true, Int.toNat_natCast]
  rw [if_pos (by omega)]
  rfl
theorem w32 {x : Int} (h : -2147483648 ≤ x ∧ x ≤ 2147483647) : wrap32 x = x := by
  unfold wrap32
  omega
theorem impl_brackets_ev : ∀ (f : F) (a : Nat), sz f + a ≤ 30 → Ev (fun m => impl_brackets.f m (S (bin f)) (a : Int)) (S (brk a f)) := by
  intro f
  induction f with
  | nil =>
    intro a h
    simp only [sz] at h
    refine Ev.step (fun k => by rw [impl_brackets.f]) ?_
    refine Ev.pos ((bin_is_nil nil).2 rfl) (Ev.some ?_)
    rw [w64 (by omega), w32 (by omega), show 97 + (a : Int) = ((97 + a : Nat) : Int) by omega, encode_small _ (by omega)]
    rfl
  | cons l r hl hr =>
    intro a h
    simp only [sz] at h
    have b1 := brk_length l a
    have b2 := brk_length r (a + sz l + 1)
    have hb := bin_length l
    refine Ev.step (fun k => by rw [impl_brackets.f]) ?_
    refine Ev.neg (fun x => by cases (bin_is_nil _).1 x) (Ev.bind (impl_sides_ev l r (by omega)) (Ev.bind (hl a (by omega)) ?_))
    simp only [S_lit40, S_lit41, S_append, S_size]
    refine Ev.pos (by omega) (Ev.bind (Ev.const (impl_nodesOf_eq _ (by omega))) ?_)
    rw [hb, w64 (x := (a : Int) + ((2 * sz l + 1 : Nat) : Int) / 2) (by omega), w64 (by omega), show (a : Int) + ((2 * sz l + 1 : Nat) : Int) / 2 + 1 = ((a + sz l + 1 : Nat) : Int) by omega]
    refine Ev.bind (hr (a + sz l + 1) (by omega)) ?_
    simp only [S_append, S_size]
    refine Ev.pos (by simp; omega) (Ev.pos (by simp; omega) (Ev.some ?_))
    simp [brk]

theorem strings_HasPrefix_41 (l : List UInt8) (h : l.length ≤ 1000) : strings_HasPrefix.f (S l) (S [41]) = some (match l with | [] => false | c :: _ => decide (c = 41)) := by
  unfold strings_HasPrefix.f stringslite_HasPrefix.f
  have h1 : (S [41]).size = 1 := S_size [41]
  have h2 := S_size l
  cases l with
  | nil =>
    rw [if_neg (by rw [h1, h2]; simp)]
    rfl
  | cons c l =>
    simp only [List.length_cons] at h2
    rw [if_pos (by omega), if_pos (by omega), if_pos (by omega), h1]
    simp only [Option.bind_some]
    congr 1
    rw [show ((1 : Nat) : Int).toNat = 1 from rfl, S_extract, S_toList, S_toList, Bool.eq_iff_iff]
    simp
/-- brackets are read: the text of a binary tree, what is left, and whether there are any -/
def ub : Nat → List UInt8 → List UInt8 × List UInt8 × Bool
  | 0, _ => ([], [], false)
  | n + 1, l => match l with
    | [] => ([], [], false)
    | c :: l => if c = 40 then
        (if (ub n l).2.2 = true then
          (if (ub n (ub n l).2.1).2.2 = true then
            (match (ub n (ub n l).2.1).2.1 with
              | [] => ([], [], false)
              | d :: t => if d = 41 then (49 :: ((ub n l).1 ++ (ub n (ub n l).2.1).1), t, true) else ([], [], false))
          else ([], [], false))
        else ([], [], false))
      else ([48], l, true)
theorem ub_short : ∀ (n : Nat) (l : List UInt8), (ub n l).1.length + 2 * (ub n l).2.1.length ≤ 2 * l.length ∧ (ub n l).2.1.length ≤ l.length := by
  intro n
  induction n with
  | zero => intro l; simp [ub]
  | succ n ih =>
    intro l
    cases l with
    | nil => simp [ub]
    | cons c l =>
      simp only [ub]
      by_cases c0 : c = 40
      · rw [if_pos c0]
        have i1 := ih l
        have i2 := ih (ub n l).2.1
        by_cases c1 : (ub n l).2.2 = true
        · rw [if_pos c1]
          by_cases c2 : (ub n (ub n l).2.1).2.2 = true
          · rw [if_pos c2]
            cases h : (ub n (ub n l).2.1).2.1 with
            | nil => simp
            | cons d t =>
              rw [h] at i2
              simp only [List.length_cons] at i2
              by_cases c3 : d = 41
              · simp only [if_pos c3, List.length_cons, List.length_append]; omega
              · simp only [if_neg c3]; simp
          · rw [if_neg c2]; simp
        · rw [if_neg c1]; simp
      · rw [if_neg c0]; simp only [List.length_cons, List.length_nil]; omega
theorem impl_unbracket_ev : ∀ (n : Nat) (l : List UInt8), l.length ≤ n → n ≤ 200 → Ev (fun m => impl_unbracket.f m (S l)) (S (ub (n + 1) l).1, S (ub (n + 1) l).2.1, (ub (n + 1) l).2.2) := by
  intro n
  induction n with
  | zero =>
    intro l hl _
    obtain rfl : l = [] := List.eq_nil_of_length_eq_zero (by omega)
    refine Ev.step (fun k => by rw [impl_unbracket.f]) ?_
    exact Ev.pos (S_toList []) (Ev.now _)
  | succ n ih =>
    intro l hl hn
    refine Ev.step (fun k => by rw [impl_unbracket.f]) ?_
    cases l with
    | nil => exact Ev.pos (S_toList []) (Ev.now _)
    | cons c l =>
      simp only [List.length_cons] at hl
      have hs : (S (c :: l)).size = l.length + 1 := S_size (c :: l)
      have hb : bt (S (c :: l)) 0 = (c.toNat : Int) := S_bt_drop (i := 0) rfl
      have hx : (S (c :: l)).extract 1 (S (c :: l)).size = S l := by rw [hs, S_extract]; simp
      have hne : ¬ ((S (c :: l)).toList = ([] : List UInt8)) := by rw [S_toList]; simp
      refine Ev.neg hne (Ev.pos (by omega) ?_)
      rw [hb]
      have e : ub (n + 1 + 1) (c :: l) = if c = 40 then (if (ub (n + 1) l).2.2 = true then (if (ub (n + 1) (ub (n + 1) l).2.1).2.2 = true then (match (ub (n + 1) (ub (n + 1) l).2.1).2.1 with | [] => ([], [], false) | d :: t => if d = 41 then (49 :: ((ub (n + 1) l).1 ++ (ub (n + 1) (ub (n + 1) l).2.1).1), t, true) else ([], [], false)) else ([], [], false)) else ([], [], false)) else ([48], l, true) := by
        rw [ub]
      rw [e]
      by_cases c0 : c = 40
      · rw [if_pos c0]
        refine Ev.pos (by rw [c0]; rfl) (Ev.pos (by omega) ?_)
        rw [hx]
        have i1 := ub_short (n + 1) l
        have i2 := ub_short (n + 1) (ub (n + 1) l).2.1
        have e1 := ih l (by omega) (by omega)
        have e2 := ih (ub (n + 1) l).2.1 (by omega) (by omega)
        generalize ub (n + 1) (ub (n + 1) l).2.1 = q at e2 i2 ⊢
        generalize ub (n + 1) l = p at e1 e2 i1 i2 ⊢
        obtain ⟨p1, p2, p3⟩ := p
        obtain ⟨q1, q2, q3⟩ := q
        dsimp only at e1 e2 i1 i2 ⊢
        refine Ev.bind e1 ?_
        dsimp only
        by_cases c1 : p3 = true
        · simp only [if_pos c1]
          refine Ev.bind e2 ?_
          dsimp only
          by_cases c2 : q3 = true
          · simp only [if_pos c2]
            rw [S_lit41]
            refine Ev.bind (Ev.const (strings_HasPrefix_41 q2 (by omega))) ?_
            cases q2 with
            | nil =>
              exact Ev.neg (by simp) (Ev.now _)
            | cons d t =>
              simp only [List.length_cons] at i2
              by_cases c3 : d = 41
              · simp only [if_pos c3]
                refine Ev.pos (by simp [c3]) ?_
                rw [S_lit49]
                simp only [S_append, S_size]
                refine Ev.pos (by omega) (Ev.pos (by simp; omega) (Ev.pos (by simp; omega) (Ev.some ?_)))
                rw [S_extract]
                simp
              · simp only [if_neg c3]
                exact Ev.neg (by simp [c3]) (Ev.now _)
          · simp only [if_neg c2]
            exact Ev.now _
        · simp only [if_neg c1]
          exact Ev.now _
      · rw [if_neg c0]
        refine Ev.neg (fun e => c0 ((byte_eq c 40).1 e)) (Ev.pos (by omega) (Ev.some ?_))
        rw [hx]
        rfl
/-- a leaf's letter is no bracket -/
theorem letter_ne (a : Nat) (h : a ≤ 100) : UInt8.ofNat (97 + a) ≠ 40 := by
  intro e
  have := congrArg UInt8.toNat e
  simp at this
  omega
theorem ub_brk : ∀ (f : F) (a n : Nat) (tl : List UInt8), sz f + a ≤ 100 → sz f < n → ub n (brk a f ++ tl) = (bin f, tl, true) := by
  intro f
  induction f with
  | nil =>
    intro a n tl h hn
    obtain ⟨n, rfl⟩ : ∃ m, n = m + 1 := ⟨n - 1, by omega⟩
    simp only [sz] at h
    simp only [brk, List.singleton_append, ub]
    rw [if_neg (letter_ne a (by omega))]
    rfl
  | cons l r hl hr =>
    intro a n tl h hn
    obtain ⟨n, rfl⟩ : ∃ m, n = m + 1 := ⟨n - 1, by omega⟩
    simp only [sz] at h hn
    have e1 : ub n (brk a l ++ (brk (a + sz l + 1) r ++ (41 :: tl))) = (bin l, brk (a + sz l + 1) r ++ (41 :: tl), true) := hl a n _ (by omega) (by omega)
    have e2 : ub n (brk (a + sz l + 1) r ++ (41 :: tl)) = (bin r, 41 :: tl, true) := hr (a + sz l + 1) n _ (by omega) (by omega)
    have e0 : brk a (cons l r) ++ tl = 40 :: (brk a l ++ (brk (a + sz l + 1) r ++ (41 :: tl))) := by simp [brk]
    rw [e0]
    simp only [ub, e1, e2]
    simp [bin]
theorem impl_ParseBrackets_ev (w : List UInt8) (hm : w.length ≤ 1048576) {R} (h : pbR w R) : Ev (fun m => impl_ParseBrackets.f m (S w)) R := by
  have hs := S_size w
  unfold impl_ParseBrackets.f
  by_cases c : w.length ≤ 92
  · refine Ev.neg (by omega) ?_
    have e := impl_unbracket_ev w.length w (Nat.le_refl _) (by omega)
    have hu := ub_short (w.length + 1) w
    rcases h with ⟨f, h1, rfl, rfl⟩ | ⟨h1, rfl⟩
    · have hu2 := ub_brk f 0 ((brk 0 f).length + 1) [] (by omega) (by rw [brk_length]; omega)
      rw [List.append_nil] at hu2
      rw [hu2] at e
      refine Ev.bind e (Ev.pos rfl (Ev.pos (S_toList []) ?_))
      have e2 := impl_IsBinary_ev (bin f) (by rw [bin_length]; omega)
      rw [isB_bin h1] at e2
      refine Ev.bind e2 (Ev.pos rfl (Ev.bind (impl_brackets_ev f 0 (by omega)) ?_))
      exact Ev.pos rfl (Ev.now _)
    · refine Ev.bind e ?_
      generalize ub (w.length + 1) w = p at hu ⊢
      obtain ⟨p1, p2, p3⟩ := p
      dsimp only at hu ⊢
      by_cases c1 : p3 = true
      · refine Ev.pos c1 ?_
        by_cases c2 : (S p2).toList = ([] : List UInt8)
        · refine Ev.pos c2 ?_
          have e2 := impl_IsBinary_ev p1 (by omega)
          rcases isB_cases p1 with h2 | ⟨f, h2, h3, h4⟩
          · rw [h2] at e2
            exact Ev.bind e2 (Ev.neg (by simp) (Ev.now _))
          · rw [h4] at e2
            refine Ev.bind e2 (Ev.pos rfl ?_)
            rw [h2]
            refine Ev.bind (impl_brackets_ev f 0 (by omega)) (Ev.neg ?_ (Ev.now _))
            rw [S_toList, S_toList]
            exact fun e => h1 f h3 e.symm
        · exact Ev.neg c2 (Ev.now _)
      · exact Ev.neg c1 (Ev.now _)
  · refine Ev.pos (by omega) ?_
    rcases h with ⟨f, h1, rfl, rfl⟩ | ⟨h1, rfl⟩
    · rw [brk_length] at c
      omega
    · exact Ev.now _
theorem FnExactParseBrackets : ∀ (a0 : ByteArray), a0.size ≤ 140737488351232 → ∃ k, laws_FnExactParseBrackets.f k a0 = some true := by
  intro a0 hm
  obtain ⟨w, rfl⟩ := S_of a0
  have hs := S_size w
  apply Ev.rounds
  unfold laws_FnExactParseBrackets.f
  by_cases c : ((S w).size : Int) > 1048576
  · exact Ev.pos c (Ev.now _)
  · refine Ev.neg c ?_
    obtain ⟨R, hR⟩ := pbR_ex w
    refine Ev.bind (spec_ParseBrackets_ev w (by omega) hR) (Ev.bind (impl_ParseBrackets_ev w (by omega) hR) ?_)
    exact Ev.pos rfl (Ev.pos rfl (Ev.now _))

end Go.Proofs.Ytjpmichlhagbcaa.Pure
