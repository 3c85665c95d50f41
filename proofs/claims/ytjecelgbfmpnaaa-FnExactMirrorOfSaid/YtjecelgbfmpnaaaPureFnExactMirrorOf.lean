/- The pure statement of the law FnExactMirrorOf is proved. Conditions: those of the statement alone. -/
import Derived.Test.YtjecelgbfmpnaaaQFnExactMirrorOfx6
import Derived.Test.YtjecelgbfmpnaaaBase
import Derived.Test.YtjecelgbfmpnaaaBase2
import Derived.Test.YtjecelgbfmpnaaaBin
import Derived.Test.YtjecelgbfmpnaaaBase3
import Derived.Test.YtjecelgbfmpnaaaBase4
import Derived.Test.YtjecelgbfmpnaaaBase5
import Derived.Test.YtjecelgbfmpnaaaBase6
import Derived.Test.YtjecelgbfmpnaaaPar
import Derived.Test.YtjecelgbfmpnaaaPar2
import Derived.Test.YtjecelgbfmpnaaaRem
import Derived.Test.YtjecelgbfmpnaaaBin2
import Derived.Test.YtjecelgbfmpnaaaNum
namespace Go.Proofs.Ytjecelgbfmpnaaa.Pure
open Go.RowKit Go.Proofs.Ytjecelgbfmpnaaa.QFnExactMirrorOf Go.Proofs.Ytjecelgbfmpnaaa.Base Go.Proofs.YtjecelgbfmpnaaaW.PrintWords Go.Proofs.YtjecelgbfmpnaaaW.PrintLast Go.Proofs.YtjecelgbfmpnaaaW.PrintMore
open Go.Proofs.Ytjecelgbfmpnaaa.Base.F
set_option linter.unusedVariables false
set_option linter.unusedSimpArgs false

theorem laws_szInt64S_ev (xs : List Int) (a : Int) (hm : xs.length ≤ 9223372036854775807) (ha : 0 ≤ a ∧ a ≤ 1048576) :
    laws_szInt64S.f xs a = some (if a < xs.length then -1 else a - xs.length) := by
  unfold laws_szInt64S.f
  rw [w64 (by omega)]
  by_cases c : a < xs.length
  · rw [if_pos (by omega), if_pos c]
  · rw [if_neg (by omega), if_neg c]
theorem laws_szTree_ev (xs : List Int) (a : Int) (hm : xs.length ≤ 9223372036854775807) (ha : 0 ≤ a ∧ a ≤ 1048576) :
    laws_szTree.f xs a = some (if a < xs.length then -1 else a - xs.length) := by
  unfold laws_szTree.f
  rw [laws_szInt64S_ev xs a hm ha]
  by_cases c : a < xs.length
  · simp only [if_pos c, Option.bind_some]; rfl
  · simp only [if_neg c, Option.bind_some]
    rw [if_neg (by omega)]
theorem spec_l01In_eq (a b c : Int) : spec_l01In.f a b c = some (decide (b ≤ a ∧ a ≤ c)) := by
  unfold spec_l01In.f
  by_cases h : a ≥ b
  · rw [if_pos h]
    congr 1
    rw [Bool.eq_iff_iff, decide_eq_true_eq, decide_eq_true_eq]
    omega
  · rw [if_neg h]
    congr 1
    rw [eq_comm, decide_eq_false_iff_not]
    omega
theorem spec_l01N_eq (d : List Int) : spec_l01N.f d = some (d.length : Int) := rfl
theorem spec_l01Is_ev (d : List Int) (hm : d.length ≤ 9223372036854775807) : Ev (fun k => spec_l01Is.f k d) (isT d) := by
  have key : ∀ (n i : Nat) (need : Int), i + n = d.length → d.length ≤ 24 → 0 ≤ need → need ≤ 1 + 24 * (i : Int) →
      Ev (fun k => spec_l01Is.l0 k need i d) (okT 25 (d.drop i) need) := by
    intro n
    induction n with
    | zero =>
      intro i need h h24 h0 h1
      apply Ev.succ
      simp (disch := omega) only [spec_l01Is.l0, if_pos, if_neg]
      rw [List.drop_eq_nil_of_le (by omega)]
      exact Ev.some (by simp only [okT]; rw [Bool.eq_iff_iff]; simp)
    | succ n ih =>
      intro i need h h24 h0 h1
      apply Ev.succ
      have hi : i < d.length := by omega
      have hr : rd d i = d[i] := by rw [rd_nat, List.getD_eq_getElem?_getD, List.getElem?_eq_getElem hi]; rfl
      simp (disch := omega) only [spec_l01Is.l0, if_pos, if_neg, spec_l01In_eq, Option.bind_some, decide_eq_true_eq, hr]
      rw [List.drop_eq_getElem_cons hi]
      simp only [okT]
      by_cases c0 : need = 0
      · rw [if_pos c0]; exact Ev.pos c0 (Ev.now _)
      · rw [if_neg c0]
        refine Ev.neg c0 ?_
        by_cases c1 : d[i] < 0
        · rw [if_pos c1]; exact Ev.neg (by omega) (Ev.now _)
        · rw [if_neg c1]
          by_cases c2 : d[i] ≥ 25
          · rw [if_pos c2]; exact Ev.neg (by omega) (Ev.now _)
          · rw [if_neg c2]
            refine Ev.pos (by omega) ?_
            rw [w64 (x := need - 1) (by omega), w64 (by omega), w64 (by omega), show need - 1 + d[i] = need + (d[i] - 1) by omega]
            exact ih (i + 1) _ (by omega) h24 (by omega) (by omega)
  unfold spec_l01Is.f
  simp only [spec_l01N_eq, Option.bind_some, spec_l01In_eq, decide_eq_true_eq]
  by_cases c : 1 ≤ (d.length : Int) ∧ (d.length : Int) ≤ 24
  · refine Ev.pos c ?_
    have := key d.length 0 1 (by omega) (by omega) (by omega) (by omega)
    rw [List.drop_zero, okT_25 d (by omega)] at this
    have e : isT d = okT 24 d 1 := by
      unfold isT
      rw [decide_eq_true (by omega : 1 ≤ d.length), decide_eq_true (by omega : d.length ≤ 24)]
      simp
    rw [e]
    exact this
  · refine Ev.neg c ?_
    refine Ev.some ?_
    rw [eq_comm, Bool.eq_false_iff]
    intro h
    have := isT_length h
    omega
theorem spec_l01End_at (d : List Int) (hd : d.length ≤ 24) : ∀ (n : Nat) (f : F) (a : Nat), sz f = n → At d a f → Ev (fun m => spec_l01End.l0 m a (len f) d) ((a + sz f : Nat) : Int) := by
  intro n
  induction n with
  | zero =>
    intro f a hf h
    cases f with
    | nil =>
      apply Ev.succ
      simp (disch := omega) only [spec_l01End.l0, if_neg, len]
      exact Ev.some (by simp [sz])
    | cons k r => simp only [sz] at hf; omega
  | succ n ih =>
    intro f a hf h
    cases f with
    | nil => simp [sz] at hf
    | cons k r =>
      obtain ⟨h1, h2, _, _⟩ := h.step
      have h3 := h.app
      have hb := h.1
      have hl := len_le_sz k
      have hl2 := len_le_sz r
      simp only [sz] at hf hb
      have e := ih (app k r) (a + 1) (by rw [sz_app]; omega) h3
      rw [len_app, sz_app] at e
      apply Ev.succ
      simp (disch := omega) only [spec_l01End.l0, if_pos, len, h2, w64]
      rw [show ((1 + len r : Nat) : Int) - 1 + (len k : Int) = ((len k + len r : Nat) : Int) by omega, show (a : Int) + 1 = ((a + 1 : Nat) : Int) by omega]
      simp only [sz]
      rw [show a + (1 + sz k + sz r) = a + 1 + (sz k + sz r) by omega]
      exact e
theorem spec_l01End_ev (d : List Int) (hd : d.length ≤ 24) {a : Nat} {k r : F} (h : At d a (cons k r)) : Ev (fun m => spec_l01End.f m d a) ((a + 1 + sz k : Nat) : Int) := by
  have e := spec_l01End_at d hd _ (cons k nil) a rfl h.one
  simp only [len, sz] at e
  rw [show a + (1 + sz k + 0) = a + 1 + sz k by omega] at e
  unfold spec_l01End.f
  exact e
theorem spec_l01Children_at (d : List Int) (hd : d.length ≤ 24) : ∀ (f : F) (c : Nat) (out : List Int), At d c f → len f ≤ 24 → out.length + len f ≤ 1000 →
    Ev (fun m => spec_l01Children.l0 m out c (len f) d) (out ++ offs c f) := by
  intro f
  induction f with
  | nil =>
    intro c out h hi ho
    apply Ev.succ
    simp (disch := omega) only [spec_l01Children.l0, if_neg, len]
    exact Ev.some (by simp [offs])
  | cons k r _ ihr =>
    intro c out h hi ho
    have e := spec_l01End_ev d hd h
    have hh := h.step
    simp only [len] at hi ho
    apply Ev.succ
    simp (disch := omega) only [spec_l01Children.l0, if_pos, w64, len]
    refine Ev.bind e ?_
    have := ihr (c + 1 + sz k) (out ++ [(c : Int)]) hh.2.2.2 (by omega) (by simp only [List.length_append, List.length_cons, List.length_nil]; omega)
    simp only [List.append_assoc, List.singleton_append] at this
    rw [show ((1 + len r : Nat) : Int) - 1 = (len r : Int) by omega]
    exact this
theorem spec_l01Children_ev (d : List Int) (hd : d.length ≤ 24) {a : Nat} {k r : F} (h : At d a (cons k r)) : Ev (fun m => spec_l01Children.f m d a) (offs (a + 1) k) := by
  have hh := h.step
  have hb := h.1
  have hl := len_le_sz k
  simp only [sz] at hb
  have e := spec_l01Children_at d hd k (a + 1) [] hh.2.2.1 (by omega) (by simp; omega)
  unfold spec_l01Children.f
  rw [hh.2.1, w64 (x := (a : Int) + 1) (by omega)]
  exact Ev.pos (by omega) (Ev.pos (by omega) e)
theorem spec_l01Own_eq (l : List Int) (h : l.length ≤ 1000) : spec_l01Own.f l = some l := by
  unfold spec_l01Own.f
  simp only [Option.bind_some]
  rw [if_pos (by simp; omega)]
  rfl
theorem spec_l01Make_eq (l : List Int) (h : l.length ≤ 1000) : spec_l01Make.f l = some l := by
  unfold spec_l01Make.f
  rw [spec_l01Own_eq l h]
  rfl
theorem spec_l01Subtree_ev (d : List Int) (hd : d.length ≤ 24) {a : Nat} {k r : F} (h : At d a (cons k r)) : Ev (fun m => spec_l01Subtree.f m d a) (tr k) := by
  have hb := h.1
  have hs := sub_slice h
  have hl := tr_length k
  simp only [sz] at hb
  unfold spec_l01Subtree.f
  refine Ev.bind (spec_l01End_ev d hd h) (Ev.pos (by omega) (Ev.pos (by omega) (Ev.pos (by omega) ?_)))
  rw [Int.toNat_natCast, Int.toNat_natCast, hs]
  exact Ev.bind (Ev.const (spec_l01Make_eq (tr k) (by omega))) (Ev.now _)
theorem spec_l01Mirror_at : ∀ (f : F) (d : List Int) (a : Nat) (pre suf out r : List Int), d.length ≤ 24 → At d a f → pre.length + len f + suf.length ≤ 100 → out.length + sz f ≤ 1000 →
    Ev (fun m => spec_l01Mirror.l0 m (out ++ degs (mir f)) (pre ++ offs a f ++ suf) ((pre.length : Int) - 1) d) r → Ev (fun m => spec_l01Mirror.l0 m out (pre ++ offs a f ++ suf) (((pre.length + len f : Nat) : Int) - 1) d) r := by
  intro f
  induction f with
  | nil =>
    intro d a pre suf out r hd h hp ho next
    simpa [mir, degs, len] using next
  | cons k r ihk ihr =>
    intro d a pre suf out res hd h hp ho next
    have hh := h.step
    have hb := h.1
    have hlr := offs_length r (a + 1 + sz k)
    have hlk2 := len_le_sz k
    have htr := tr_length k
    simp only [len] at hp
    simp only [sz] at hb ho
    have e1 : Ev (fun m => spec_l01Mirror.f m (tr k)) (tr (mir k)) := by
      have h0 : rd (tr k) 0 = (len k : Int) := (tr_At k).step.2.1
      refine Ev.step (fun k => by rw [spec_l01Mirror.f]) ?_
      refine Ev.pos (by omega) (Ev.bind (spec_l01Children_ev (tr k) (by omega) (tr_At k)) ?_)
      rw [h0, offs_length, w64 (by omega)]
      have := ihk (tr k) 1 [] [] [(len k : Int)] (tr (mir k)) (by omega) (tr_At1 k) (by simp; omega) (by simp; omega) (by
        refine Ev.step (fun k => by rw [spec_l01Mirror.l0]) ?_
        refine Ev.neg (by simp) (Ev.some ?_)
        simp [tr, degs, mir_len])
      simpa using this
    have hw : offs a (cons k r) = (a : Int) :: offs (a + 1 + sz k) r := rfl
    rw [hw] at next ⊢
    rw [show pre ++ ((a : Int) :: offs (a + 1 + sz k) r) ++ suf = (pre ++ [(a : Int)]) ++ offs (a + 1 + sz k) r ++ suf by simp] at next ⊢
    rw [show pre.length + len (cons k r) = (pre ++ [(a : Int)]).length + len r by simp [len]; omega]
    refine ihr d (a + 1 + sz k) (pre ++ [(a : Int)]) suf out res hd hh.2.2.2 (by simp; omega) (by omega) ?_
    rw [show (((pre ++ [(a : Int)]).length : Nat) : Int) - 1 = (pre.length : Int) by simp]
    have hrd : rd ((pre ++ [(a : Int)]) ++ offs (a + 1 + sz k) r ++ suf) (pre.length : Int) = (a : Int) := by
      rw [show (pre ++ [(a : Int)]) ++ offs (a + 1 + sz k) r ++ suf = pre ++ (a : Int) :: (offs (a + 1 + sz k) r ++ suf) by simp]
      exact rd_at
    have hml := tr_length (mir k)
    have hdm := degs_length (mir r)
    rw [mir_sz] at hml hdm
    refine Ev.step (fun k => by rw [spec_l01Mirror.l0]) ?_
    refine Ev.pos (by omega) (Ev.pos (by omega) (Ev.pos (by simp; omega) ?_))
    rw [hrd]
    refine Ev.bind (spec_l01Subtree_ev d hd h) (Ev.bind e1 (Ev.pos (by simp [hml, hdm]; omega) ?_))
    rw [w64 (by omega)]
    simp only [mir, degs_app] at next
    rw [List.append_assoc]
    exact next
theorem spec_l01Mirror_ev (k : F) (hk : sz k ≤ 23) : Ev (fun m => spec_l01Mirror.f m (tr k)) (tr (mir k)) := by
  have htr := tr_length k
  have hlk2 := len_le_sz k
  have h0 : rd (tr k) 0 = (len k : Int) := (tr_At k).step.2.1
  refine Ev.step (fun k => by rw [spec_l01Mirror.f]) ?_
  refine Ev.pos (by omega) (Ev.bind (spec_l01Children_ev (tr k) (by omega) (tr_At k)) ?_)
  rw [h0, offs_length, w64 (by omega)]
  have := spec_l01Mirror_at k (tr k) 1 [] [] [(len k : Int)] (tr (mir k)) (by omega) (tr_At1 k) (by simp; omega) (by simp; omega) (by
    refine Ev.step (fun k => by rw [spec_l01Mirror.l0]) ?_
    refine Ev.neg (by simp) (Ev.some ?_)
    simp [tr, degs, mir_len])
  simpa using this
theorem spec_MirrorOf_ev (d : List Int) (hd : d.length ≤ 9223372036854775807) {R} (h : treeR mirV [] d R) : Ev (fun m => spec_MirrorOf.f m d) R := by
  rcases h with ⟨h, rfl⟩ | ⟨k, rfl, hk, h, rfl⟩
  · have e := spec_l01Is_ev d hd
    rw [h] at e
    unfold spec_MirrorOf.f
    exact Ev.bind e (Ev.neg (by simp) (Ev.now _))
  · have e := spec_l01Is_ev (tr k) hd
    rw [h] at e
    have hl := tr_length k
    unfold spec_MirrorOf.f
    refine Ev.bind e (Ev.pos rfl ?_)
    exact Ev.bind (spec_l01Mirror_ev k hk) (Ev.now _)
theorem laws_toInt64S_ev (xs : List Int) (hm : xs.length ≤ 1048576) : Ev (fun k => laws_toInt64S.f k xs) xs := by
  have key : ∀ (d i : Nat) (ys : List Int), i + d = xs.length → ys.length = xs.length → ys.take i = xs.take i →
      Ev (fun k => laws_toInt64S.l0 k xs ys i) xs := by
    intro d
    induction d with
    | zero =>
      intro i ys h hl ht
      apply Ev.succ
      simp (disch := omega) only [laws_toInt64S.l0, if_pos, if_neg]
      refine Ev.some ?_
      rw [List.take_of_length_le (by omega), List.take_of_length_le (by omega)] at ht
      exact ht
    | succ d ih =>
      intro i ys h hl ht
      apply Ev.succ
      simp (disch := omega) only [laws_toInt64S.l0, if_pos, if_neg, w64]
      exact ih (i + 1) (ys.set i (rd xs i)) (by omega) (by rw [List.length_set, hl]) (by rw [take_set_succ _ _ _ (by omega), ht, take_rd_succ _ _ (by omega)])
  unfold laws_toInt64S.f
  refine Ev.pos (by omega) (Ev.pos (by omega) ?_)
  exact key xs.length 0 _ (by omega) (by rw [List.length_replicate]; omega) (by simp)
theorem laws_toTree_ev (xs : List Int) (hm : xs.length ≤ 1048576) : Ev (fun k => laws_toTree.f k xs) xs := by
  unfold laws_toTree.f
  exact Ev.bind (laws_toInt64S_ev xs hm) (Ev.now _)
theorem impl_isTree_ev (d : List Int) (hm : d.length ≤ 9223372036854775807) : Ev (fun k => impl_isTree.f k d) (isT d) := by
  have key : ∀ (n i : Nat) (need : Int), i + n = d.length → d.length ≤ 24 → 0 ≤ need → need ≤ 1 + 24 * (i : Int) →
      Ev (fun k => impl_isTree.l0 k need d d.length i) (okT 24 (d.drop i) need) := by
    intro n
    induction n with
    | zero =>
      intro i need h h24 h0 h1
      apply Ev.succ
      simp (disch := omega) only [impl_isTree.l0, if_pos, if_neg]
      rw [List.drop_eq_nil_of_le (by omega)]
      exact Ev.some (by simp only [okT]; rw [Bool.eq_iff_iff]; simp)
    | succ n ih =>
      intro i need h h24 h0 h1
      apply Ev.succ
      have hi : i < d.length := by omega
      have hr : rd d i = d[i] := by rw [rd_nat, List.getD_eq_getElem?_getD, List.getElem?_eq_getElem hi]; rfl
      simp (disch := omega) only [impl_isTree.l0, if_pos, if_neg, hr]
      rw [List.drop_eq_getElem_cons hi]
      simp only [okT]
      by_cases c0 : need = 0
      · rw [if_pos c0]; exact Ev.pos c0 (Ev.now _)
      · rw [if_neg c0]
        refine Ev.neg c0 ?_
        by_cases c1 : d[i] < 0
        · rw [if_pos c1]; exact Ev.pos c1 (Ev.now _)
        · rw [if_neg c1]
          refine Ev.neg c1 ?_
          by_cases c2 : d[i] ≥ 24
          · rw [if_pos c2]; exact Ev.pos c2 (Ev.now _)
          · rw [if_neg c2]
            refine Ev.neg c2 ?_
            rw [w64 (x := d[i] - 1) (by omega), w64 (by omega), w64 (by omega)]
            exact ih (i + 1) _ (by omega) h24 (by omega) (by omega)
  unfold impl_isTree.f
  by_cases c1 : (d.length : Int) < 1
  · refine Ev.pos c1 (Ev.succ ?_)
    simp only [impl_isTree.j0, if_true]
    refine Ev.some ?_
    rw [eq_comm, Bool.eq_false_iff]
    intro h
    have := isT_length h
    omega
  · refine Ev.neg c1 (Ev.succ ?_)
    simp only [impl_isTree.j0, decide_eq_true_eq]
    by_cases c : (d.length : Int) > 24
    · refine Ev.pos c (Ev.some ?_)
      rw [eq_comm, Bool.eq_false_iff]
      intro h
      have := isT_length h
      omega
    · refine Ev.neg c ?_
      have := key d.length 0 1 (by omega) (by omega) (by omega) (by omega)
      rw [List.drop_zero] at this
      have e : isT d = okT 24 d 1 := by
        unfold isT
        rw [decide_eq_true (by omega : 1 ≤ d.length), decide_eq_true (by omega : d.length ≤ 24)]
        simp
      rw [e]
      exact this
theorem impl_IsTree_ev (d : List Int) (hm : d.length ≤ 9223372036854775807) : Ev (fun k => impl_IsTree.f k d) (isT d) := by
  unfold impl_IsTree.f
  exact Ev.bind (impl_isTree_ev d hm) (Ev.now _)
theorem impl_endOf_at (d : List Int) (hd : d.length ≤ 24) : ∀ (n : Nat) (f : F) (a : Nat), sz f = n → At d a f → Ev (fun m => impl_endOf.l0 m d a (len f)) ((a + sz f : Nat) : Int) := by
  intro n
  induction n with
  | zero =>
    intro f a hf h
    cases f with
    | nil =>
      apply Ev.succ
      simp (disch := omega) only [impl_endOf.l0, if_neg, len]
      exact Ev.some (by simp [sz])
    | cons k r => simp only [sz] at hf; omega
  | succ n ih =>
    intro f a hf h
    cases f with
    | nil => simp [sz] at hf
    | cons k r =>
      obtain ⟨h1, h2, _, _⟩ := h.step
      have h3 := h.app
      have hb := h.1
      have hl := len_le_sz k
      have hl2 := len_le_sz r
      simp only [sz] at hf hb
      have e := ih (app k r) (a + 1) (by rw [sz_app]; omega) h3
      rw [len_app, sz_app] at e
      apply Ev.succ
      simp (disch := omega) only [impl_endOf.l0, if_pos, len, h2, w64]
      rw [show ((1 + len r : Nat) : Int) + ((len k : Int) - 1) = ((len k + len r : Nat) : Int) by omega, show (a : Int) + 1 = ((a + 1 : Nat) : Int) by omega]
      simp only [sz]
      rw [show a + (1 + sz k + sz r) = a + 1 + (sz k + sz r) by omega]
      exact e
theorem impl_endOf_ev (d : List Int) (hd : d.length ≤ 24) {a : Nat} {k r : F} (h : At d a (cons k r)) : Ev (fun m => impl_endOf.f m d a) ((a + 1 + sz k : Nat) : Int) := by
  have e := impl_endOf_at d hd _ (cons k nil) a rfl h.one
  simp only [len, sz] at e
  rw [show a + (1 + sz k + 0) = a + 1 + sz k by omega] at e
  unfold impl_endOf.f
  exact e
theorem impl_kidsOf_at (d : List Int) (hd : d.length ≤ 24) (n : Nat) (hn : n ≤ 24) : ∀ (f : F) (c : Nat) (out : List Int) (i : Nat), At d c f → i + len f = n → out.length ≤ 1000 + i →
    Ev (fun m => impl_kidsOf.l0 m d out c n i) (out ++ offs c f) := by
  intro f
  induction f with
  | nil =>
    intro c out i h hi ho
    simp only [len] at hi
    apply Ev.succ
    simp (disch := omega) only [impl_kidsOf.l0, if_neg]
    exact Ev.some (by simp [offs])
  | cons k r _ ihr =>
    intro c out i h hi ho
    simp only [len] at hi
    have e := impl_endOf_ev d hd h
    have hh := h.step
    apply Ev.succ
    simp (disch := omega) only [impl_kidsOf.l0, if_pos, w64]
    refine Ev.bind e ?_
    have := ihr (c + 1 + sz k) (out ++ [(c : Int)]) (i + 1) hh.2.2.2 (by omega) (by simp only [List.length_append, List.length_cons, List.length_nil]; omega)
    simp only [List.append_assoc, List.singleton_append] at this
    exact this
theorem impl_kidsOf_ev (d : List Int) (hd : d.length ≤ 24) {a : Nat} {k r : F} (h : At d a (cons k r)) : Ev (fun m => impl_kidsOf.f m d a) (offs (a + 1) k) := by
  have hh := h.step
  have hb := h.1
  have hl := len_le_sz k
  simp only [sz] at hb
  have e := impl_kidsOf_at d hd (len k) (by omega) k (a + 1) [] 0 hh.2.2.1 (by omega) (by simp)
  unfold impl_kidsOf.f
  rw [hh.2.1, w64 (x := (a : Int) + 1) (by omega)]
  exact Ev.pos (by omega) (Ev.pos (by omega) e)
theorem slices_Reverse_int64_int64_ev (xs : List Int) (hl : xs.length ≤ 1000000) : Ev (fun m => slices_Reverse_int64_int64.f m xs) xs.reverse := by
  have key : ∀ (n : Nat) (a m b : List Int), m.length ≤ n → a.length + m.length + b.length ≤ 1000000 →
      Ev (fun k => slices_Reverse_int64_int64.l0 k (a ++ m ++ b) a.length ((a.length : Int) + m.length - 1)) (a ++ m.reverse ++ b) := by
    intro n
    induction n with
    | zero =>
      intro a m b h _
      obtain rfl : m = [] := List.eq_nil_of_length_eq_zero (by omega)
      apply Ev.succ
      simp (disch := simp) only [slices_Reverse_int64_int64.l0, if_neg]
      exact Ev.neg (by simp <;> omega) (Ev.some (by simp))
    | succ n ih =>
      intro a m b h hb
      cases m with
      | nil =>
        apply Ev.succ
        simp only [slices_Reverse_int64_int64.l0]
        exact Ev.neg (by simp <;> omega) (Ev.some (by simp))
      | cons x m =>
        rcases List.eq_nil_or_concat m with rfl | ⟨m', y, rfl⟩
        · apply Ev.succ
          simp only [slices_Reverse_int64_int64.l0]
          exact Ev.neg (by simp <;> omega) (Ev.some (by simp))
        · rw [List.concat_eq_append] at h hb ⊢
          simp only [List.length_cons, List.length_append, List.length_nil] at h hb
          have hlen : (a ++ x :: (m' ++ [y]) ++ b).length = a.length + (m'.length + 2) + b.length := by simp; omega
          have r1 : rd (a ++ x :: (m' ++ [y]) ++ b) (a.length : Int) = x := by
            rw [show a ++ x :: (m' ++ [y]) ++ b = a ++ x :: ((m' ++ [y]) ++ b) by simp]
            exact rd_at
          have r2 : rd (a ++ x :: (m' ++ [y]) ++ b) ((a.length + 1 + m'.length : Nat) : Int) = y := by
            rw [show a ++ x :: (m' ++ [y]) ++ b = (a ++ x :: m') ++ y :: b by simp]
            exact rd_mid (by simp; omega)
          have e : (a.length : Int) + ((x :: (m' ++ [y])).length : Int) - 1 = ((a.length + 1 + m'.length : Nat) : Int) := by
            simp only [List.length_cons, List.length_append, List.length_nil]; omega
          have s1 : ((a ++ x :: (m' ++ [y]) ++ b).set a.length y).set (a.length + 1 + m'.length) x = (a ++ [y]) ++ m' ++ (x :: b) := by
            rw [show a ++ x :: (m' ++ [y]) ++ b = a ++ x :: ((m' ++ [y]) ++ b) by simp, set_at, show a ++ y :: ((m' ++ [y]) ++ b) = (a ++ y :: m') ++ y :: b by simp,
              show a.length + 1 + m'.length = (a ++ y :: m').length by simp; omega, set_at]
            simp
          rw [e]
          apply Ev.succ
          simp only [slices_Reverse_int64_int64.l0]
          refine Ev.pos (by omega) (Ev.pos (by omega) (Ev.pos (by rw [hlen]; omega) (Ev.pos (by omega) (Ev.pos (by rw [hlen]; omega) ?_))))
          rw [r1, r2, Int.toNat_natCast, Int.toNat_natCast, s1, w64 (by omega), w64 (by omega)]
          have := ih (a ++ [y]) m' (x :: b) (by omega) (by simp; omega)
          simp only [List.length_append, List.length_cons, List.length_nil] at this
          rw [show (a.length : Int) + 1 = ((a.length + (0 + 1) : Nat) : Int) by omega, show ((a.length + 1 + m'.length : Nat) : Int) - 1 = ((a.length + (0 + 1) : Nat) : Int) + (m'.length : Int) - 1 by omega]
          rw [show a ++ (x :: (m' ++ [y])).reverse ++ b = a ++ [y] ++ m'.reverse ++ x :: b by simp]
          exact this
  unfold slices_Reverse_int64_int64.f
  have := key xs.length [] xs [] (Nat.le_refl _) (by simp; omega)
  rw [w64 (by omega)]
  simpa using this
theorem impl_mirrored_at (d : List Int) (hd : d.length ≤ 24) : ∀ (f : F) (a n : Nat) (pre suf out r : List Int), At d a f → pre.length + len f + suf.length = n → n ≤ 100 → out.length + sz f ≤ 1000 →
    Ev (fun m => impl_mirrored.l0 m d (out ++ degs (mir f)) (pre ++ (offs a f).reverse ++ suf) n (pre.length + len f : Nat)) r → Ev (fun m => impl_mirrored.l0 m d out (pre ++ (offs a f).reverse ++ suf) n pre.length) r := by
  intro f
  induction f with
  | nil =>
    intro a n pre suf out r h hn hp ho next
    simpa [mir, degs, len] using next
  | cons k r ihk ihr =>
    intro a n pre suf out res h hn hp ho next
    have hh := h.step
    have hb := h.1
    have hlk := offs_length k (a + 1)
    have hlr := offs_length r (a + 1 + sz k)
    have hlk2 := len_le_sz k
    simp only [len] at hn
    simp only [sz] at hb ho
    have e1 : Ev (fun m => impl_mirrored.f m d a) (tr (mir k)) := by
      refine Ev.step (fun k => by rw [impl_mirrored.f]) ?_
      refine Ev.pos (by omega) (Ev.pos (by omega) (Ev.bind (impl_kidsOf_ev d hd h) (Ev.bind (slices_Reverse_int64_int64_ev _ (by rw [hlk]; omega)) ?_)))
      rw [hh.2.1, hlk]
      have := ihk (a + 1) (len k) [] [] [(len k : Int)] (tr (mir k)) hh.2.2.1 (by simp) (by omega) (by simp; omega) (by
        refine Ev.step (fun k => by rw [impl_mirrored.l0]) ?_
        refine Ev.neg (by simp) (Ev.some ?_)
        simp [tr, degs, mir_len])
      simpa using this
    have hw : offs a (cons k r) = (a : Int) :: offs (a + 1 + sz k) r := rfl
    rw [hw] at next ⊢
    rw [show pre ++ ((a : Int) :: offs (a + 1 + sz k) r).reverse ++ suf = pre ++ (offs (a + 1 + sz k) r).reverse ++ ((a : Int) :: suf) by simp] at next ⊢
    refine ihr (a + 1 + sz k) n pre ((a : Int) :: suf) out res hh.2.2.2 (by simp; omega) hp (by omega) ?_
    have hrd : rd (pre ++ (offs (a + 1 + sz k) r).reverse ++ (a : Int) :: suf) ((pre.length + len r : Nat) : Int) = (a : Int) := rd_mid (by simp [hlr])
    have hml := tr_length (mir k)
    have hdm := degs_length (mir r)
    rw [mir_sz] at hml hdm
    refine Ev.step (fun k => by rw [impl_mirrored.l0]) ?_
    refine Ev.pos (by omega) (Ev.pos (by omega) (Ev.pos (by simp [hlr]; omega) ?_))
    rw [hrd]
    refine Ev.bind e1 (Ev.pos (by simp [hml, hdm]; omega) ?_)
    rw [w64 (by omega)]
    simp only [mir, degs_app] at next
    rw [show ((pre.length + len r : Nat) : Int) + 1 = ((pre.length + len (cons k r) : Nat) : Int) by simp only [len]; omega, List.append_assoc]
    exact next
theorem impl_mirrored_ev (k : F) (hk : sz k ≤ 23) : Ev (fun m => impl_mirrored.f m (tr k) 0) (tr (mir k)) := by
  have hl := tr_length k
  have hlk := offs_length k 1
  have hlk2 := len_le_sz k
  have hh := (tr_At k).step
  have h0 : rd (tr k) 0 = (len k : Int) := hh.2.1
  refine Ev.step (fun k => by rw [impl_mirrored.f]) ?_
  refine Ev.pos (by omega) (Ev.pos (by omega) (Ev.bind (impl_kidsOf_ev (tr k) (by omega) (tr_At k)) (Ev.bind (slices_Reverse_int64_int64_ev _ (by rw [offs_length]; omega)) ?_)))
  rw [h0, offs_length]
  have := impl_mirrored_at (tr k) (by omega) k 1 (len k) [] [] [(len k : Int)] (tr (mir k)) (tr_At1 k) (by simp) (by omega) (by simp; omega) (by
    refine Ev.step (fun k => by rw [impl_mirrored.l0]) ?_
    refine Ev.neg (by simp) (Ev.some ?_)
    simp [tr, degs, mir_len])
  simpa using this
theorem impl_MirrorOf_ev (d : List Int) (hd : d.length ≤ 9223372036854775807) {R} (h : treeR mirV [] d R) : Ev (fun m => impl_MirrorOf.f m d) R := by
  rcases h with ⟨h, rfl⟩ | ⟨k, rfl, hk, h, rfl⟩
  · have e := impl_IsTree_ev d hd
    rw [h] at e
    unfold impl_MirrorOf.f
    exact Ev.bind e (Ev.neg (by simp) (Ev.now _))
  · have e := impl_IsTree_ev (tr k) hd
    rw [h] at e
    have hl := tr_length k
    unfold impl_MirrorOf.f
    refine Ev.bind e (Ev.pos rfl ?_)
    exact Ev.bind (impl_mirrored_ev k hk) (Ev.now _)
theorem laws_eqInt64S_ev (xs : List Int) (hm : xs.length ≤ 140737488351232) : Ev (fun k => laws_eqInt64S.f k xs xs) true := by
  have key : ∀ (d i : Nat), i + d = xs.length → Ev (fun k => laws_eqInt64S.l0 k xs xs i) true := by
    intro d
    induction d with
    | zero =>
      intro i h
      apply Ev.succ
      simp (disch := omega) only [laws_eqInt64S.l0, if_pos, if_neg]
      exact Ev.now _
    | succ d ih =>
      intro i h
      apply Ev.succ
      simp (disch := omega) only [laws_eqInt64S.l0, if_pos, if_neg, w64]
      exact ih (i + 1) (by omega)
  unfold laws_eqInt64S.f
  exact Ev.pos rfl (key xs.length 0 (by omega))
theorem laws_eqTree_ev (xs : List Int) (hm : xs.length ≤ 140737488351232) : Ev (fun k => laws_eqTree.f k xs xs) true := by
  unfold laws_eqTree.f
  exact Ev.bind (laws_eqInt64S_ev xs hm) (Ev.now _)
theorem laws_markInt64S_ev (xs : List Int) (a : Int) (ha : 0 ≤ a) (hm : a + (xs.length : Int) ≤ 1000000000000000000) :
    Ev (fun k => laws_markInt64S.f k xs a) (a + xs.length, marks a xs.length) := by
  have key : ∀ (d i : Nat) (ys : List Int), i + d = xs.length → ys.length = xs.length → ys.take i = marks a i →
      Ev (fun k => laws_markInt64S.l0 k ys (a + i) i) (a + xs.length, marks a xs.length) := by
    intro d
    induction d with
    | zero =>
      intro i ys h hl ht
      apply Ev.succ
      simp (disch := omega) only [laws_markInt64S.l0, if_pos, if_neg]
      refine Ev.some ?_
      rw [show i = xs.length by omega] at ht ⊢
      rw [← ht, List.take_of_length_le (by omega)]
    | succ d ih =>
      intro i ys h hl ht
      apply Ev.succ
      simp (disch := omega) only [laws_markInt64S.l0, if_pos, if_neg, w64]
      have := ih (i + 1) (ys.set i (a + i)) (by omega) (by rw [List.length_set, hl]) (by rw [marks_succ, ← ht, take_set_succ _ _ _ (by omega)])
      rw [show a + ((i + 1 : Nat) : Int) = a + i + 1 by omega] at this
      exact this
  unfold laws_markInt64S.f
  have := key xs.length 0 xs (by omega) rfl (by simp [marks])
  simpa using this
theorem laws_markTree_ev (xs : List Int) (a : Int) (ha : 0 ≤ a) (hm : a + (xs.length : Int) ≤ 1000000000000000000) :
    Ev (fun k => laws_markTree.f k xs a) (a + xs.length, marks a xs.length) := by
  unfold laws_markTree.f
  exact Ev.bind (laws_markInt64S_ev xs a ha hm) (Ev.now _)
theorem laws_heldInt64S_ev (n : Nat) (a : Int) (ha : 0 ≤ a) (hm : a + (n : Int) ≤ 1000000000000000000) :
    Ev (fun k => laws_heldInt64S.f k (marks a n) a) (a + n) := by
  have key : ∀ (d i : Nat), i + d = n → Ev (fun k => laws_heldInt64S.l0 k (marks a n) (a + i) i) (a + n) := by
    intro d
    induction d with
    | zero =>
      intro i h
      have hl := marks_length a n
      apply Ev.succ
      simp (disch := omega) only [laws_heldInt64S.l0, if_pos, if_neg]
      refine Ev.some ?_
      omega
    | succ d ih =>
      intro i h
      have hl := marks_length a n
      have hr := rd_marks a n i (by omega)
      apply Ev.succ
      simp (disch := omega) only [laws_heldInt64S.l0, if_pos, if_neg, w64, hr]
      have := ih (i + 1) (by omega)
      rw [show a + ((i + 1 : Nat) : Int) = a + i + 1 by omega] at this
      exact this
  unfold laws_heldInt64S.f
  simpa using key n 0 (by omega)
theorem laws_heldTree_ev (n : Nat) (a : Int) (ha : 0 ≤ a) (hm : a + (n : Int) ≤ 1000000000000000000) :
    Ev (fun k => laws_heldTree.f k (marks a n) a) (a + n) := by
  unfold laws_heldTree.f
  exact Ev.bind (laws_heldInt64S_ev n a ha hm) (Ev.neg (by omega) (Ev.now _))
theorem FnExactMirrorOf : ∀ (l : List Int), l.length ≤ maxLen → (∀ x ∈ l, (Lit.int .i64 x).wf = true) → ∃ k, laws_FnExactMirrorOf.f k l = some true := by
  intro l h1 _
  unfold maxLen at h1
  apply Ev.rounds
  unfold laws_FnExactMirrorOf.f
  simp only [laws_szTree_ev l 1048576 h1 (by omega), Option.bind_some]
  by_cases c : (1048576 : Int) < l.length
  · rw [if_pos c]
    exact Ev.pos (by omega) (Ev.now _)
  · rw [if_neg c]
    have hl : l.length ≤ 1048576 := by omega
    have e1 := laws_toTree_ev l hl
    obtain ⟨R, hR⟩ := treeR_ex mirV [] l
    have e2 := spec_MirrorOf_ev l h1 hR
    have e3 := impl_MirrorOf_ev l h1 hR
    have e4 := laws_eqTree_ev l (by omega)
    have hb := treeR_len hR mirV_length
    have e5 := laws_markTree_ev l 1 (by omega) (by omega)
    have e6 := laws_eqTree_ev R.1 (by omega)
    have e7 := laws_markTree_ev R.1 1 (by omega) (by omega)
    have e8 := laws_heldTree_ev R.1.length 1 (by omega) (by omega)
    refine Ev.neg (by omega) ?_
    repeat' (first
      | exact Ev.now _
      | (with_reducible refine Ev.bind e1 ?_; try dsimp only)
      | (with_reducible refine Ev.bind e2 ?_; try dsimp only)
      | (with_reducible refine Ev.bind e3 ?_; try dsimp only)
      | (with_reducible refine Ev.bind e4 ?_; try dsimp only)
      | (with_reducible refine Ev.bind e5 ?_; try dsimp only)
      | (with_reducible refine Ev.bind e6 ?_; try dsimp only)
      | (with_reducible refine Ev.bind e7 ?_; try dsimp only)
      | (with_reducible refine Ev.bind e8 ?_; try dsimp only)
      | ((with_reducible apply Ev.pos); (solve | rfl | trivial | omega))
      | ((with_reducible apply Ev.neg); (solve | omega | simp))
      | (apply Ev.succ; simp only [laws_FnExactMirrorOf.j0, laws_FnExactMirrorOf.j1, laws_FnExactMirrorOf.j2]))

end Go.Proofs.Ytjecelgbfmpnaaa.Pure
