/- The pure statement of the law FnExactHeightOf is proved. Conditions: those of the statement alone. -/
import Derived.Test.YtjecelgbfmpnaaaQFnExactHeightOfx5
import Derived.Test.YtjecelgbfmpnaaaBase
import Derived.Test.YtjecelgbfmpnaaaBase2
import Derived.Test.YtjecelgbfmpnaaaBin
import Derived.Test.YtjecelgbfmpnaaaBase3
import Derived.Test.YtjecelgbfmpnaaaBase4
import Derived.Test.YtjecelgbfmpnaaaBase5
import Derived.Test.YtjecelgbfmpnaaaBase6
import Derived.Test.YtjecelgbfmpnaaaPar
import Derived.Test.YtjecelgbfmpnaaaPar2
import Derived.Test.YtjecelgbfmpnaaaRem
import Derived.Test.YtjecelgbfmpnaaaBin2
import Derived.Test.YtjecelgbfmpnaaaNum
namespace Go.Proofs.Ytjecelgbfmpnaaa.Pure
open Go.RowKit Go.Proofs.Ytjecelgbfmpnaaa.QFnExactHeightOf Go.Proofs.Ytjecelgbfmpnaaa.Base Go.Proofs.YtjecelgbfmpnaaaW.PrintWords Go.Proofs.YtjecelgbfmpnaaaW.PrintLast Go.Proofs.YtjecelgbfmpnaaaW.PrintMore
open Go.Proofs.Ytjecelgbfmpnaaa.Base.F
set_option linter.unusedVariables false
set_option linter.unusedSimpArgs false

theorem laws_szInt64S_ev (xs : List Int) (a : Int) (hm : xs.length ≤ 9223372036854775807) (ha : 0 ≤ a ∧ a ≤ 1048576) :
    laws_szInt64S.f xs a = some (if a < xs.length then -1 else a - xs.length) := by
  unfold laws_szInt64S.f
  rw [w64 (by omega)]
  by_cases c : a < xs.length
  · rw [if_pos (by omega), if_pos c]
  · rw [if_neg (by omega), if_neg c]
theorem laws_szTree_ev (xs : List Int) (a : Int) (hm : xs.length ≤ 9223372036854775807) (ha : 0 ≤ a ∧ a ≤ 1048576) :
    laws_szTree.f xs a = some (if a < xs.length then -1 else a - xs.length) := by
  unfold laws_szTree.f
  rw [laws_szInt64S_ev xs a hm ha]
  by_cases c : a < xs.length
  · simp only [if_pos c, Option.bind_some]; rfl
  · simp only [if_neg c, Option.bind_some]
    rw [if_neg (by omega)]
theorem laws_toInt64S_ev (xs : List Int) (hm : xs.length ≤ 1048576) : Ev (fun k => laws_toInt64S.f k xs) xs := by
  have key : ∀ (d i : Nat) (ys : List Int), i + d = xs.length → ys.length = xs.length → ys.take i = xs.take i →
      Ev (fun k => laws_toInt64S.l0 k xs ys i) xs := by
    intro d
    induction d with
    | zero =>
      intro i ys h hl ht
      apply Ev.succ
      simp (disch := omega) only [laws_toInt64S.l0, if_pos, if_neg]
      refine Ev.some ?_
      rw [List.take_of_length_le (by omega), List.take_of_length_le (by omega)] at ht
      exact ht
    | succ d ih =>
      intro i ys h hl ht
      apply Ev.succ
      simp (disch := omega) only [laws_toInt64S.l0, if_pos, if_neg, w64]
      exact ih (i + 1) (ys.set i (rd xs i)) (by omega) (by rw [List.length_set, hl]) (by rw [take_set_succ _ _ _ (by omega), ht, take_rd_succ _ _ (by omega)])
  unfold laws_toInt64S.f
  refine Ev.pos (by omega) (Ev.pos (by omega) ?_)
  exact key xs.length 0 _ (by omega) (by rw [List.length_replicate]; omega) (by simp)
theorem laws_toTree_ev (xs : List Int) (hm : xs.length ≤ 1048576) : Ev (fun k => laws_toTree.f k xs) xs := by
  unfold laws_toTree.f
  exact Ev.bind (laws_toInt64S_ev xs hm) (Ev.now _)
theorem laws_eqInt64S_ev (xs : List Int) (hm : xs.length ≤ 140737488351232) : Ev (fun k => laws_eqInt64S.f k xs xs) true := by
  have key : ∀ (d i : Nat), i + d = xs.length → Ev (fun k => laws_eqInt64S.l0 k xs xs i) true := by
    intro d
    induction d with
    | zero =>
      intro i h
      apply Ev.succ
      simp (disch := omega) only [laws_eqInt64S.l0, if_pos, if_neg]
      exact Ev.now _
    | succ d ih =>
      intro i h
      apply Ev.succ
      simp (disch := omega) only [laws_eqInt64S.l0, if_pos, if_neg, w64]
      exact ih (i + 1) (by omega)
  unfold laws_eqInt64S.f
  exact Ev.pos rfl (key xs.length 0 (by omega))
theorem laws_eqTree_ev (xs : List Int) (hm : xs.length ≤ 140737488351232) : Ev (fun k => laws_eqTree.f k xs xs) true := by
  unfold laws_eqTree.f
  exact Ev.bind (laws_eqInt64S_ev xs hm) (Ev.now _)
theorem spec_l01In_eq (a b c : Int) : spec_l01In.f a b c = some (decide (b ≤ a ∧ a ≤ c)) := by
  unfold spec_l01In.f
  by_cases h : a ≥ b
  · rw [if_pos h]
    congr 1
    rw [Bool.eq_iff_iff, decide_eq_true_eq, decide_eq_true_eq]
    omega
  · rw [if_neg h]
    congr 1
    rw [eq_comm, decide_eq_false_iff_not]
    omega
theorem spec_l01N_eq (d : List Int) : spec_l01N.f d = some (d.length : Int) := rfl
theorem spec_l01Is_ev (d : List Int) (hm : d.length ≤ 9223372036854775807) : Ev (fun k => spec_l01Is.f k d) (isT d) := by
  have key : ∀ (n i : Nat) (need : Int), i + n = d.length → d.length ≤ 24 → 0 ≤ need → need ≤ 1 + 24 * (i : Int) →
      Ev (fun k => spec_l01Is.l0 k need i d) (okT 25 (d.drop i) need) := by
    intro n
    induction n with
    | zero =>
      intro i need h h24 h0 h1
      apply Ev.succ
      simp (disch := omega) only [spec_l01Is.l0, if_pos, if_neg]
      rw [List.drop_eq_nil_of_le (by omega)]
      exact Ev.some (by simp only [okT]; rw [Bool.eq_iff_iff]; simp)
    | succ n ih =>
      intro i need h h24 h0 h1
      apply Ev.succ
      have hi : i < d.length := by omega
      have hr : rd d i = d[i] := by rw [rd_nat, List.getD_eq_getElem?_getD, List.getElem?_eq_getElem hi]; rfl
      simp (disch := omega) only [spec_l01Is.l0, if_pos, if_neg, spec_l01In_eq, Option.bind_some, decide_eq_true_eq, hr]
      rw [List.drop_eq_getElem_cons hi]
      simp only [okT]
      by_cases c0 : need = 0
      · rw [if_pos c0]; exact Ev.pos c0 (Ev.now _)
      · rw [if_neg c0]
        refine Ev.neg c0 ?_
        by_cases c1 : d[i] < 0
        · rw [if_pos c1]; exact Ev.neg (by omega) (Ev.now _)
        · rw [if_neg c1]
          by_cases c2 : d[i] ≥ 25
          · rw [if_pos c2]; exact Ev.neg (by omega) (Ev.now _)
          · rw [if_neg c2]
            refine Ev.pos (by omega) ?_
            rw [w64 (x := need - 1) (by omega), w64 (by omega), w64 (by omega), show need - 1 + d[i] = need + (d[i] - 1) by omega]
            exact ih (i + 1) _ (by omega) h24 (by omega) (by omega)
  unfold spec_l01Is.f
  simp only [spec_l01N_eq, Option.bind_some, spec_l01In_eq, decide_eq_true_eq]
  by_cases c : 1 ≤ (d.length : Int) ∧ (d.length : Int) ≤ 24
  · refine Ev.pos c ?_
    have := key d.length 0 1 (by omega) (by omega) (by omega) (by omega)
    rw [List.drop_zero, okT_25 d (by omega)] at this
    have e : isT d = okT 24 d 1 := by
      unfold isT
      rw [decide_eq_true (by omega : 1 ≤ d.length), decide_eq_true (by omega : d.length ≤ 24)]
      simp
    rw [e]
    exact this
  · refine Ev.neg c ?_
    refine Ev.some ?_
    rw [eq_comm, Bool.eq_false_iff]
    intro h
    have := isT_length h
    omega
theorem spec_l01End_at (d : List Int) (hd : d.length ≤ 24) : ∀ (n : Nat) (f : F) (a : Nat), sz f = n → At d a f → Ev (fun m => spec_l01End.l0 m a (len f) d) ((a + sz f : Nat) : Int) := by
  intro n
  induction n with
  | zero =>
    intro f a hf h
    cases f with
    | nil =>
      apply Ev.succ
      simp (disch := omega) only [spec_l01End.l0, if_neg, len]
      exact Ev.some (by simp [sz])
    | cons k r => simp only [sz] at hf; omega
  | succ n ih =>
    intro f a hf h
    cases f with
    | nil => simp [sz] at hf
    | cons k r =>
      obtain ⟨h1, h2, _, _⟩ := h.step
      have h3 := h.app
      have hb := h.1
      have hl := len_le_sz k
      have hl2 := len_le_sz r
      simp only [sz] at hf hb
      have e := ih (app k r) (a + 1) (by rw [sz_app]; omega) h3
      rw [len_app, sz_app] at e
      apply Ev.succ
      simp (disch := omega) only [spec_l01End.l0, if_pos, len, h2, w64]
      rw [show ((1 + len r : Nat) : Int) - 1 + (len k : Int) = ((len k + len r : Nat) : Int) by omega, show (a : Int) + 1 = ((a + 1 : Nat) : Int) by omega]
      simp only [sz]
      rw [show a + (1 + sz k + sz r) = a + 1 + (sz k + sz r) by omega]
      exact e
theorem spec_l01End_ev (d : List Int) (hd : d.length ≤ 24) {a : Nat} {k r : F} (h : At d a (cons k r)) : Ev (fun m => spec_l01End.f m d a) ((a + 1 + sz k : Nat) : Int) := by
  have e := spec_l01End_at d hd _ (cons k nil) a rfl h.one
  simp only [len, sz] at e
  rw [show a + (1 + sz k + 0) = a + 1 + sz k by omega] at e
  unfold spec_l01End.f
  exact e
theorem spec_l01Children_at (d : List Int) (hd : d.length ≤ 24) : ∀ (f : F) (c : Nat) (out : List Int), At d c f → len f ≤ 24 → out.length + len f ≤ 1000 →
    Ev (fun m => spec_l01Children.l0 m out c (len f) d) (out ++ offs c f) := by
  intro f
  induction f with
  | nil =>
    intro c out h hi ho
    apply Ev.succ
    simp (disch := omega) only [spec_l01Children.l0, if_neg, len]
    exact Ev.some (by simp [offs])
  | cons k r _ ihr =>
    intro c out h hi ho
    have e := spec_l01End_ev d hd h
    have hh := h.step
    simp only [len] at hi ho
    apply Ev.succ
    simp (disch := omega) only [spec_l01Children.l0, if_pos, w64, len]
    refine Ev.bind e ?_
    have := ihr (c + 1 + sz k) (out ++ [(c : Int)]) hh.2.2.2 (by omega) (by simp only [List.length_append, List.length_cons, List.length_nil]; omega)
    simp only [List.append_assoc, List.singleton_append] at this
    rw [show ((1 + len r : Nat) : Int) - 1 = (len r : Int) by omega]
    exact this
theorem spec_l01Children_ev (d : List Int) (hd : d.length ≤ 24) {a : Nat} {k r : F} (h : At d a (cons k r)) : Ev (fun m => spec_l01Children.f m d a) (offs (a + 1) k) := by
  have hh := h.step
  have hb := h.1
  have hl := len_le_sz k
  simp only [sz] at hb
  have e := spec_l01Children_at d hd k (a + 1) [] hh.2.2.1 (by omega) (by simp; omega)
  unfold spec_l01Children.f
  rw [hh.2.1, w64 (x := (a : Int) + 1) (by omega)]
  exact Ev.pos (by omega) (Ev.pos (by omega) e)
theorem spec_l01Parents_l1 (d cs : List Int) (m : Nat) (hm : m ≤ 24) (hcs : cs.length ≤ 1000) {R : List Int} : ∀ (xs : List Int) (i : Nat) (P : List Int), cs.drop i = xs → i + xs.length = cs.length → (∀ c ∈ xs, 0 ≤ c ∧ c < (P.length : Int)) →
    Ev (fun k => spec_l01Parents.l0 k (setAll P xs (m : Int)) ((m + 1 : Nat) : Int) d) R → Ev (fun k => spec_l01Parents.l1 k P m cs i d) R := by
  intro xs
  induction xs with
  | nil =>
    intro i P h hi _ e
    simp only [List.length_nil] at hi
    refine Ev.step (fun k => by rw [spec_l01Parents.l1]) ?_
    refine Ev.neg (by omega) ?_
    rw [w64 (by omega)]
    exact e
  | cons x xs ih =>
    intro i P h hi hb e
    have hr := rd_drop h
    have hd := (drop_cons h).2.2
    have hx := hb x (by simp)
    simp only [List.length_cons] at hi
    refine Ev.step (fun k => by rw [spec_l01Parents.l1]) ?_
    rw [hr]
    refine Ev.pos (by omega) (Ev.pos (by omega) (Ev.pos (by omega) (Ev.pos (by omega) ?_)))
    rw [w64 (by omega)]
    exact ih (i + 1) (P.set x.toNat m) hd (by omega) (fun c hc => by rw [List.length_set]; exact hb c (by simp [hc])) e
theorem spec_l01Parents_l0 (k : F) (hk : sz k ≤ 23) : ∀ (n m : Nat), m + n = sz k + 1 → Ev (fun j => spec_l01Parents.l0 j (parS k 0 m) m (tr k)) (parV k) := by
  have hl := tr_length k
  intro n
  induction n with
  | zero =>
    intro m h
    refine Ev.step (fun k => by rw [spec_l01Parents.l0]) ?_
    simp only [spec_l01N_eq, Option.bind_some]
    refine Ev.neg (by omega) (Ev.some ?_)
    rw [show m = sz k + 1 by omega]
    exact parS_end k 0
  | succ n ih =>
    intro m h
    have hs := sub_small k m (by omega)
    have hkl := len_le_sz (st k m)
    have ol := offs_length (st k m) (m + 1)
    have e := spec_l01Children_ev (tr k) (by omega) (st_At k m (by omega))
    refine Ev.step (fun k => by rw [spec_l01Parents.l0]) ?_
    simp only [spec_l01N_eq, Option.bind_some]
    refine Ev.pos (by omega) (Ev.bind e ?_)
    refine spec_l01Parents_l1 (tr k) _ m (by omega) (by omega) (offs (m + 1) (st k m)) 0 (parS k 0 m) rfl (by omega) (fun c hc => ?_) ?_
    · have := offs_bound (st k m) (m + 1) c hc
      rw [parS_length]
      omega
    · rw [parS_step k 0 (by omega)]
      exact ih (m + 1) (by omega)
theorem spec_l01Parents_ev (k : F) (hk : sz k ≤ 23) : Ev (fun j => spec_l01Parents.f j (tr k)) (parV k) := by
  have hl := tr_length k
  have e := spec_l01Parents_l0 k hk (sz k + 1) 0 (by omega)
  rw [parS_spec] at e
  unfold spec_l01Parents.f
  simp only [spec_l01N_eq, Option.bind_some]
  refine Ev.pos (by omega) (Ev.pos (by omega) (Ev.pos (by rw [List.length_replicate]; omega) ?_))
  rw [Int.toNat_natCast, hl]
  exact e
theorem spec_l01Depths_l0 (k : F) (hk : sz k ≤ 23) : ∀ (n v : Nat), 1 ≤ v → v + n = sz k + 1 → Ev (fun j => spec_l01Depths.l0 j (parV k) (depS k v) v) (depV k) := by
  intro n
  induction n with
  | zero =>
    intro v _ h
    refine Ev.step (fun k => by rw [spec_l01Depths.l0]) ?_
    refine Ev.neg (by rw [depS_length]; omega) (Ev.some ?_)
    rw [show v = sz k + 1 by omega]
    exact depS_end k
  | succ n ih =>
    intro v h1 h
    have hp := par_pos k h1 (by omega)
    have hd := dep_par k h1 (by omega)
    have hb := dep_bound k 24 (par k v).toNat (by omega) (by omega)
    have hr := depS_rd k v (j := (par k v).toNat) (by omega) (by omega)
    rw [Int.toNat_of_nonneg hp.1] at hr
    refine Ev.step (fun k => by rw [spec_l01Depths.l0]) ?_
    rw [parV_rd k (by omega), depS_length, parV_length, hr]
    refine Ev.pos (by omega) (Ev.pos (by omega) (Ev.pos (by omega) (Ev.pos (by omega) (Ev.pos (by omega) ?_))))
    rw [w64 (by omega), w64 (by omega), ← hd, Int.toNat_natCast, depS_step k (by omega)]
    exact ih (v + 1) (by omega) (by omega)
theorem spec_l01Depths_ev (k : F) (hk : sz k ≤ 23) : Ev (fun j => spec_l01Depths.f j (tr k)) (depV k) := by
  have hl := tr_length k
  have e := spec_l01Depths_l0 k hk (sz k) 1 (by omega) (by omega)
  rw [depS_one] at e
  unfold spec_l01Depths.f
  refine Ev.bind (spec_l01Parents_ev k hk) ?_
  simp only [spec_l01N_eq, Option.bind_some]
  refine Ev.pos (by omega) (Ev.pos (by omega) ?_)
  rw [Int.toNat_natCast, hl]
  exact e
theorem spec_l01Height_l0 (ds : List Int) (hl : ds.length ≤ 1000) : ∀ (xs : List Int) (i : Nat) (m : Int), ds.drop i = xs → i + xs.length = ds.length → Ev (fun j => spec_l01Height.l0 j ds m i) (xs.foldl mx m) := by
  intro xs
  induction xs with
  | nil =>
    intro i m h hi
    simp only [List.length_nil] at hi
    refine Ev.step (fun k => by rw [spec_l01Height.l0]) ?_
    exact Ev.neg (by omega) (Ev.now _)
  | cons x xs ih =>
    intro i m h hi
    have hr := rd_drop h
    have hd := (drop_cons h).2.2
    simp only [List.length_cons] at hi
    refine Ev.step (fun k => by rw [spec_l01Height.l0]) ?_
    refine Ev.pos (by omega) (Ev.pos (by omega) ?_)
    rw [hr, w64 (by omega)]
    exact ih (i + 1) (mx m x) hd (by omega)
theorem spec_l01Height_ev (k : F) (hk : sz k ≤ 23) : Ev (fun j => spec_l01Height.f j (tr k)) (hgtV k) := by
  have hl := depV_length k
  unfold spec_l01Height.f
  refine Ev.bind (spec_l01Depths_ev k hk) ?_
  exact spec_l01Height_l0 (depV k) (by omega) (depV k) 0 0 rfl (by omega)
theorem spec_HeightOf_ev (d : List Int) (hd : d.length ≤ 9223372036854775807) {R} (h : treeR hgtV 0 d R) : Ev (fun m => spec_HeightOf.f m d) R := by
  rcases h with ⟨h, rfl⟩ | ⟨k, rfl, hk, h, rfl⟩
  · have e := spec_l01Is_ev d hd
    rw [h] at e
    unfold spec_HeightOf.f
    exact Ev.bind e (Ev.neg (by simp) (Ev.now _))
  · have e := spec_l01Is_ev (tr k) hd
    rw [h] at e
    unfold spec_HeightOf.f
    refine Ev.bind e (Ev.pos rfl ?_)
    exact Ev.bind (spec_l01Height_ev k hk) (Ev.now _)
theorem impl_isTree_ev (d : List Int) (hm : d.length ≤ 9223372036854775807) : Ev (fun k => impl_isTree.f k d) (isT d) := by
  have key : ∀ (n i : Nat) (need : Int), i + n = d.length → d.length ≤ 24 → 0 ≤ need → need ≤ 1 + 24 * (i : Int) →
      Ev (fun k => impl_isTree.l0 k need d d.length i) (okT 24 (d.drop i) need) := by
    intro n
    induction n with
    | zero =>
      intro i need h h24 h0 h1
      apply Ev.succ
      simp (disch := omega) only [impl_isTree.l0, if_pos, if_neg]
      rw [List.drop_eq_nil_of_le (by omega)]
      exact Ev.some (by simp only [okT]; rw [Bool.eq_iff_iff]; simp)
    | succ n ih =>
      intro i need h h24 h0 h1
      apply Ev.succ
      have hi : i < d.length := by omega
      have hr : rd d i = d[i] := by rw [rd_nat, List.getD_eq_getElem?_getD, List.getElem?_eq_getElem hi]; rfl
      simp (disch := omega) only [impl_isTree.l0, if_pos, if_neg, hr]
      rw [List.drop_eq_getElem_cons hi]
      simp only [okT]
      by_cases c0 : need = 0
      · rw [if_pos c0]; exact Ev.pos c0 (Ev.now _)
      · rw [if_neg c0]
        refine Ev.neg c0 ?_
        by_cases c1 : d[i] < 0
        · rw [if_pos c1]; exact Ev.pos c1 (Ev.now _)
        · rw [if_neg c1]
          refine Ev.neg c1 ?_
          by_cases c2 : d[i] ≥ 24
          · rw [if_pos c2]; exact Ev.pos c2 (Ev.now _)
          · rw [if_neg c2]
            refine Ev.neg c2 ?_
            rw [w64 (x := d[i] - 1) (by omega), w64 (by omega), w64 (by omega)]
            exact ih (i + 1) _ (by omega) h24 (by omega) (by omega)
  unfold impl_isTree.f
  by_cases c1 : (d.length : Int) < 1
  · refine Ev.pos c1 (Ev.succ ?_)
    simp only [impl_isTree.j0, if_true]
    refine Ev.some ?_
    rw [eq_comm, Bool.eq_false_iff]
    intro h
    have := isT_length h
    omega
  · refine Ev.neg c1 (Ev.succ ?_)
    simp only [impl_isTree.j0, decide_eq_true_eq]
    by_cases c : (d.length : Int) > 24
    · refine Ev.pos c (Ev.some ?_)
      rw [eq_comm, Bool.eq_false_iff]
      intro h
      have := isT_length h
      omega
    · refine Ev.neg c ?_
      have := key d.length 0 1 (by omega) (by omega) (by omega) (by omega)
      rw [List.drop_zero] at this
      have e : isT d = okT 24 d 1 := by
        unfold isT
        rw [decide_eq_true (by omega : 1 ≤ d.length), decide_eq_true (by omega : d.length ≤ 24)]
        simp
      rw [e]
      exact this
theorem impl_IsTree_ev (d : List Int) (hm : d.length ≤ 9223372036854775807) : Ev (fun k => impl_IsTree.f k d) (isT d) := by
  unfold impl_IsTree.f
  exact Ev.bind (impl_isTree_ev d hm) (Ev.now _)
theorem slices_Max_int64_int64_ev (x : Int) (xs : List Int) (hl : xs.length ≤ 1000000) : Ev (fun m => slices_Max_int64_int64.f m (x :: xs)) (xs.foldl mx x) := by
  have key : ∀ (ys : List Int) (i : Nat) (m : Int), (x :: xs).drop i = ys → i + ys.length = (x :: xs).length → Ev (fun k => slices_Max_int64_int64.l0 k (x :: xs) m i) (ys.foldl mx m) := by
    intro ys
    induction ys with
    | nil =>
      intro i m h hi
      simp only [List.length_nil, List.length_cons] at hi
      refine Ev.step (fun k => by rw [slices_Max_int64_int64.l0]) ?_
      refine Ev.neg (by simp only [List.length_cons]; omega) (Ev.now _)
    | cons y ys ih =>
      intro i m h hi
      have hr := rd_drop h
      have hd := (drop_cons h).2.2
      simp only [List.length_cons] at hi
      refine Ev.step (fun k => by rw [slices_Max_int64_int64.l0]) ?_
      refine Ev.pos (by simp only [List.length_cons]; omega) (Ev.pos (by omega) ?_)
      rw [hr, w64 (by omega)]
      exact ih (i + 1) (mx m y) hd (by simp only [List.length_cons]; omega)
  unfold slices_Max_int64_int64.f
  exact Ev.neg (by simp only [List.length_cons]; omega) (Ev.pos (by simp only [List.length_cons]; omega) (key xs 1 x rfl (by simp only [List.length_cons]; omega)))
theorem impl_endOf_at (d : List Int) (hd : d.length ≤ 24) : ∀ (n : Nat) (f : F) (a : Nat), sz f = n → At d a f → Ev (fun m => impl_endOf.l0 m d a (len f)) ((a + sz f : Nat) : Int) := by
  intro n
  induction n with
  | zero =>
    intro f a hf h
    cases f with
    | nil =>
      apply Ev.succ
      simp (disch := omega) only [impl_endOf.l0, if_neg, len]
      exact Ev.some (by simp [sz])
    | cons k r => simp only [sz] at hf; omega
  | succ n ih =>
    intro f a hf h
    cases f with
    | nil => simp [sz] at hf
    | cons k r =>
      obtain ⟨h1, h2, _, _⟩ := h.step
      have h3 := h.app
      have hb := h.1
      have hl := len_le_sz k
      have hl2 := len_le_sz r
      simp only [sz] at hf hb
      have e := ih (app k r) (a + 1) (by rw [sz_app]; omega) h3
      rw [len_app, sz_app] at e
      apply Ev.succ
      simp (disch := omega) only [impl_endOf.l0, if_pos, len, h2, w64]
      rw [show ((1 + len r : Nat) : Int) + ((len k : Int) - 1) = ((len k + len r : Nat) : Int) by omega, show (a : Int) + 1 = ((a + 1 : Nat) : Int) by omega]
      simp only [sz]
      rw [show a + (1 + sz k + sz r) = a + 1 + (sz k + sz r) by omega]
      exact e
theorem impl_endOf_ev (d : List Int) (hd : d.length ≤ 24) {a : Nat} {k r : F} (h : At d a (cons k r)) : Ev (fun m => impl_endOf.f m d a) ((a + 1 + sz k : Nat) : Int) := by
  have e := impl_endOf_at d hd _ (cons k nil) a rfl h.one
  simp only [len, sz] at e
  rw [show a + (1 + sz k + 0) = a + 1 + sz k by omega] at e
  unfold impl_endOf.f
  exact e
theorem impl_kidsOf_at (d : List Int) (hd : d.length ≤ 24) (n : Nat) (hn : n ≤ 24) : ∀ (f : F) (c : Nat) (out : List Int) (i : Nat), At d c f → i + len f = n → out.length ≤ 1000 + i →
    Ev (fun m => impl_kidsOf.l0 m d out c n i) (out ++ offs c f) := by
  intro f
  induction f with
  | nil =>
    intro c out i h hi ho
    simp only [len] at hi
    apply Ev.succ
    simp (disch := omega) only [impl_kidsOf.l0, if_neg]
    exact Ev.some (by simp [offs])
  | cons k r _ ihr =>
    intro c out i h hi ho
    simp only [len] at hi
    have e := impl_endOf_ev d hd h
    have hh := h.step
    apply Ev.succ
    simp (disch := omega) only [impl_kidsOf.l0, if_pos, w64]
    refine Ev.bind e ?_
    have := ihr (c + 1 + sz k) (out ++ [(c : Int)]) (i + 1) hh.2.2.2 (by omega) (by simp only [List.length_append, List.length_cons, List.length_nil]; omega)
    simp only [List.append_assoc, List.singleton_append] at this
    exact this
theorem impl_kidsOf_ev (d : List Int) (hd : d.length ≤ 24) {a : Nat} {k r : F} (h : At d a (cons k r)) : Ev (fun m => impl_kidsOf.f m d a) (offs (a + 1) k) := by
  have hh := h.step
  have hb := h.1
  have hl := len_le_sz k
  simp only [sz] at hb
  have e := impl_kidsOf_at d hd (len k) (by omega) k (a + 1) [] 0 hh.2.2.1 (by omega) (by simp)
  unfold impl_kidsOf.f
  rw [hh.2.1, w64 (x := (a : Int) + 1) (by omega)]
  exact Ev.pos (by omega) (Ev.pos (by omega) e)




theorem impl_parentsOf_l1 (d cs : List Int) (m : Nat) (n : Nat) (hm : m ≤ 24) (hcs : cs.length ≤ 1000) {R : List Int} : ∀ (xs : List Int) (i : Nat) (P : List Int), cs.drop i = xs → i + xs.length = cs.length → (∀ c ∈ xs, 0 ≤ c ∧ c < (P.length : Int)) →
    Ev (fun k => impl_parentsOf.l0 k d (setAll P xs (m : Int)) (n : Int) ((m + 1 : Nat) : Int)) R → Ev (fun k => impl_parentsOf.l1 k d P m n m cs cs.length i) R := by
  intro xs
  induction xs with
  | nil =>
    intro i P h hi _ e
    simp only [List.length_nil] at hi
    refine Ev.step (fun k => by rw [impl_parentsOf.l1]) ?_
    refine Ev.neg (by omega) ?_
    rw [w64 (by omega)]
    exact e
  | cons x xs ih =>
    intro i P h hi hb e
    have hr := rd_drop h
    have hd := (drop_cons h).2.2
    have hx := hb x (by simp)
    simp only [List.length_cons] at hi
    refine Ev.step (fun k => by rw [impl_parentsOf.l1]) ?_
    rw [hr]
    refine Ev.pos (by omega) (Ev.pos (by omega) (Ev.pos (by omega) (Ev.pos (by omega) (Ev.pos (by omega) ?_))))
    rw [w64 (by omega)]
    exact ih (i + 1) (P.set x.toNat m) hd (by omega) (fun c hc => by rw [List.length_set]; exact hb c (by simp [hc])) e
theorem impl_parentsOf_l0 (k : F) (hk : sz k ≤ 23) : ∀ (n m : Nat), m + n = sz k + 1 → Ev (fun j => impl_parentsOf.l0 j (tr k) (parS k (-1) m) ((tr k).length : Int) m) (parV k) := by
  have hl := tr_length k
  intro n
  induction n with
  | zero =>
    intro m h
    refine Ev.step (fun k => by rw [impl_parentsOf.l0]) ?_
    refine Ev.neg (by omega) (Ev.some ?_)
    rw [show m = sz k + 1 by omega]
    exact parS_end k (-1)
  | succ n ih =>
    intro m h
    have hs := sub_small k m (by omega)
    have hkl := len_le_sz (st k m)
    have ol := offs_length (st k m) (m + 1)
    have e := impl_kidsOf_ev (tr k) (by omega) (st_At k m (by omega))
    refine Ev.step (fun k => by rw [impl_parentsOf.l0]) ?_
    refine Ev.pos (by omega) (Ev.bind e ?_)
    refine impl_parentsOf_l1 (tr k) _ m _ (by omega) (by omega) (offs (m + 1) (st k m)) 0 (parS k (-1) m) rfl (by omega) (fun c hc => ?_) ?_
    · have := offs_bound (st k m) (m + 1) c hc
      rw [parS_length]
      omega
    · rw [parS_step k (-1) (by omega)]
      exact ih (m + 1) (by omega)
theorem impl_parentsOf_ev (k : F) (hk : sz k ≤ 23) : Ev (fun j => impl_parentsOf.f j (tr k)) (parV k) := by
  have hl := tr_length k
  have e := impl_parentsOf_l0 k hk (sz k + 1) 0 (by omega)
  rw [parS_impl] at e
  have er : slices_Repeat_int64_int64.f ([(-1)] : List Int) ((tr k).length : Int) = some (List.replicate (sz k + 1) (-1)) := by
    unfold slices_Repeat_int64_int64.f
    rw [if_pos (show ([(-1)] : List Int).length = 1 from rfl), if_pos (by omega), if_pos (by omega), Int.toNat_natCast, hl]
    rfl
  unfold impl_parentsOf.f
  rw [er]
  exact e
theorem impl_depthsOf_l0 (k : F) (hk : sz k ≤ 23) : ∀ (n v : Nat), v + n = sz k + 1 → Ev (fun j => impl_depthsOf.l0 j (depS k v) (parV k) ((parV k).length : Int) v) (depV k) := by
  have hpl := parV_length k
  intro n
  induction n with
  | zero =>
    intro v h
    refine Ev.step (fun k => by rw [impl_depthsOf.l0]) ?_
    refine Ev.neg (by omega) (Ev.some ?_)
    rw [show v = sz k + 1 by omega]
    exact depS_end k
  | succ n ih =>
    intro v h
    refine Ev.step (fun k => by rw [impl_depthsOf.l0]) ?_
    rw [parV_rd k (by omega)]
    refine Ev.pos (by omega) (Ev.pos (by omega) (Ev.pos (by omega) ?_))
    by_cases c : v = 0
    · subst c
      rw [par_zero]
      refine Ev.neg (by omega) ?_
      rw [w64 (by omega)]
      have := ih 1 (by omega)
      rw [depS_one, ← depS_zero] at this
      exact this
    · have hp := par_pos k (by omega) (j := v) (by omega)
      have hd := dep_par k (j := v) (by omega) (by omega)
      have hb := dep_bound k 24 (par k v).toNat (by omega) (by omega)
      have hr := depS_rd k v (j := (par k v).toNat) (by omega) (by omega)
      rw [Int.toNat_of_nonneg hp.1] at hr
      rw [hr, depS_length]
      refine Ev.pos (by omega) (Ev.pos (by omega) (Ev.pos (by omega) (Ev.pos (by omega) ?_)))
      rw [w64 (by omega), w64 (by omega), ← hd, Int.toNat_natCast, depS_step k (by omega)]
      exact ih (v + 1) (by omega)
theorem impl_depthsOf_ev (k : F) (hk : sz k ≤ 23) : Ev (fun j => impl_depthsOf.f j (tr k)) (depV k) := by
  have hl := tr_length k
  have e := impl_depthsOf_l0 k hk (sz k + 1) 0 (by omega)
  rw [depS_zero] at e
  unfold impl_depthsOf.f
  refine Ev.pos (by omega) (Ev.pos (by omega) ?_)
  refine Ev.bind (impl_parentsOf_ev k hk) ?_
  rw [Int.toNat_natCast, hl]
  exact e
theorem impl_HeightOf_ev (d : List Int) (hd : d.length ≤ 9223372036854775807) {R} (h : treeR hgtV 0 d R) : Ev (fun m => impl_HeightOf.f m d) R := by
  rcases h with ⟨h, rfl⟩ | ⟨k, rfl, hk, h, rfl⟩
  · have e := impl_IsTree_ev d hd
    rw [h] at e
    unfold impl_HeightOf.f
    exact Ev.bind e (Ev.neg (by simp) (Ev.now _))
  · have e := impl_IsTree_ev (tr k) hd
    rw [h] at e
    unfold impl_HeightOf.f
    refine Ev.bind e (Ev.pos rfl ?_)
    obtain ⟨xs, hx, hxl⟩ := depV_cons k
    refine Ev.bind (impl_depthsOf_ev k hk) ?_
    have e2 := slices_Max_int64_int64_ev 0 xs (by omega)
    rw [← hx] at e2
    refine Ev.bind e2 (Ev.some ?_)
    unfold hgtV
    rw [hx]
    rfl
theorem FnExactHeightOf : ∀ (l : List Int), l.length ≤ maxLen → (∀ x ∈ l, (Lit.int .i64 x).wf = true) → ∃ k, laws_FnExactHeightOf.f k l = some true := by
  intro l h1 _
  unfold maxLen at h1
  apply Ev.rounds
  unfold laws_FnExactHeightOf.f
  simp only [laws_szTree_ev l 1048576 h1 (by omega), Option.bind_some]
  by_cases c : (1048576 : Int) < l.length
  · rw [if_pos c]
    exact Ev.pos (by omega) (Ev.now _)
  · rw [if_neg c]
    have hl : l.length ≤ 1048576 := by omega
    have e1 := laws_toTree_ev l hl
    obtain ⟨R, hR⟩ := treeR_ex hgtV 0 l
    have e2 := spec_HeightOf_ev l h1 hR
    have e3 := impl_HeightOf_ev l h1 hR
    have e4 := laws_eqTree_ev l (by omega)
    refine Ev.neg (by omega) ?_
    repeat' (first
      | exact Ev.now _
      | (with_reducible refine Ev.bind e1 ?_; try dsimp only)
      | (with_reducible refine Ev.bind e2 ?_; try dsimp only)
      | (with_reducible refine Ev.bind e3 ?_; try dsimp only)
      | (with_reducible refine Ev.bind e4 ?_; try dsimp only)
      | ((with_reducible apply Ev.pos); (solve | rfl | trivial | omega))
      | ((with_reducible apply Ev.neg); (solve | omega | simp))
      | (apply Ev.succ; simp only [laws_FnExactHeightOf.j0]))

end Go.Proofs.Ytjecelgbfmpnaaa.Pure
