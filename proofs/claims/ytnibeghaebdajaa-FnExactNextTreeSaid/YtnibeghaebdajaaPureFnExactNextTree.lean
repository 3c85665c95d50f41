/- The pure statement of the law FnExactNextTree is proved. Conditions: those of the statement alone. -/
import Derived.Test.YtnibeghaebdajaaQFnExactNextTreex7
import Derived.Test.YtnibeghaebdajaaBase
import Derived.Test.YtnibeghaebdajaaBase2
import Derived.Test.YtnibeghaebdajaaBin
import Derived.Test.YtnibeghaebdajaaBase3
import Derived.Test.YtnibeghaebdajaaBase4
import Derived.Test.YtnibeghaebdajaaBase5
import Derived.Test.YtnibeghaebdajaaBase6
import Derived.Test.YtnibeghaebdajaaPar
import Derived.Test.YtnibeghaebdajaaPar2
import Derived.Test.YtnibeghaebdajaaRem
import Derived.Test.YtnibeghaebdajaaBin2
import Derived.Test.YtnibeghaebdajaaNum
namespace Go.Proofs.Ytnibeghaebdajaa.Pure
open Go.RowKit Go.Proofs.Ytnibeghaebdajaa.QFnExactNextTree Go.Proofs.Ytnibeghaebdajaa.Base Go.Proofs.YtnibeghaebdajaaW.PrintWords Go.Proofs.YtnibeghaebdajaaW.PrintLast Go.Proofs.YtnibeghaebdajaaW.PrintMore
open Go.Proofs.Ytnibeghaebdajaa.Base.F
set_option linter.unusedVariables false
set_option linter.unusedSimpArgs false

theorem laws_eqInt64S_ev (xs : List Int) (hm : xs.length ≤ 140737488351232) : Ev (fun k => laws_eqInt64S.f k xs xs) true := by
  have key : ∀ (d i : Nat), i + d = xs.length → Ev (fun k => laws_eqInt64S.l0 k xs xs i) true := by
    intro d
    induction d with
    | zero =>
      intro i h
      apply Ev.succ
      simp (disch := omega) only [laws_eqInt64S.l0, if_pos, if_neg]
      exact Ev.now _
    | succ d ih =>
      intro i h
      apply Ev.succ
      simp (disch := omega) only [laws_eqInt64S.l0, if_pos, if_neg, w64]
      exact ih (i + 1) (by omega)
  unfold laws_eqInt64S.f
  exact Ev.pos rfl (key xs.length 0 (by omega))
theorem laws_eqTree_ev (xs : List Int) (hm : xs.length ≤ 140737488351232) : Ev (fun k => laws_eqTree.f k xs xs) true := by
  unfold laws_eqTree.f
  exact Ev.bind (laws_eqInt64S_ev xs hm) (Ev.now _)
theorem laws_markInt64S_ev (xs : List Int) (a : Int) (ha : 0 ≤ a) (hm : a + (xs.length : Int) ≤ 1000000000000000000) :
    Ev (fun k => laws_markInt64S.f k xs a) (a + xs.length, marks a xs.length) := by
  have key : ∀ (d i : Nat) (ys : List Int), i + d = xs.length → ys.length = xs.length → ys.take i = marks a i →
      Ev (fun k => laws_markInt64S.l0 k ys (a + i) i) (a + xs.length, marks a xs.length) := by
    intro d
    induction d with
    | zero =>
      intro i ys h hl ht
      apply Ev.succ
      simp (disch := omega) only [laws_markInt64S.l0, if_pos, if_neg]
      refine Ev.some ?_
      rw [show i = xs.length by omega] at ht ⊢
      rw [← ht, List.take_of_length_le (by omega)]
    | succ d ih =>
      intro i ys h hl ht
      apply Ev.succ
      simp (disch := omega) only [laws_markInt64S.l0, if_pos, if_neg, w64]
      have := ih (i + 1) (ys.set i (a + i)) (by omega) (by rw [List.length_set, hl]) (by rw [marks_succ, ← ht, take_set_succ _ _ _ (by omega)])
      rw [show a + ((i + 1 : Nat) : Int) = a + i + 1 by omega] at this
      exact this
  unfold laws_markInt64S.f
  have := key xs.length 0 xs (by omega) rfl (by simp [marks])
  simpa using this
theorem laws_markTree_ev (xs : List Int) (a : Int) (ha : 0 ≤ a) (hm : a + (xs.length : Int) ≤ 1000000000000000000) :
    Ev (fun k => laws_markTree.f k xs a) (a + xs.length, marks a xs.length) := by
  unfold laws_markTree.f
  exact Ev.bind (laws_markInt64S_ev xs a ha hm) (Ev.now _)
theorem laws_heldInt64S_ev (n : Nat) (a : Int) (ha : 0 ≤ a) (hm : a + (n : Int) ≤ 1000000000000000000) :
    Ev (fun k => laws_heldInt64S.f k (marks a n) a) (a + n) := by
  have key : ∀ (d i : Nat), i + d = n → Ev (fun k => laws_heldInt64S.l0 k (marks a n) (a + i) i) (a + n) := by
    intro d
    induction d with
    | zero =>
      intro i h
      have hl := marks_length a n
      apply Ev.succ
      simp (disch := omega) only [laws_heldInt64S.l0, if_pos, if_neg]
      refine Ev.some ?_
      omega
    | succ d ih =>
      intro i h
      have hl := marks_length a n
      have hr := rd_marks a n i (by omega)
      apply Ev.succ
      simp (disch := omega) only [laws_heldInt64S.l0, if_pos, if_neg, w64, hr]
      have := ih (i + 1) (by omega)
      rw [show a + ((i + 1 : Nat) : Int) = a + i + 1 by omega] at this
      exact this
  unfold laws_heldInt64S.f
  simpa using key n 0 (by omega)
theorem laws_heldTree_ev (n : Nat) (a : Int) (ha : 0 ≤ a) (hm : a + (n : Int) ≤ 1000000000000000000) :
    Ev (fun k => laws_heldTree.f k (marks a n) a) (a + n) := by
  unfold laws_heldTree.f
  exact Ev.bind (laws_heldInt64S_ev n a ha hm) (Ev.neg (by omega) (Ev.now _))
theorem laws_szInt64S_ev (xs : List Int) (a : Int) (hm : xs.length ≤ 9223372036854775807) (ha : 0 ≤ a ∧ a ≤ 1048576) :
    laws_szInt64S.f xs a = some (if a < xs.length then -1 else a - xs.length) := by
  unfold laws_szInt64S.f
  rw [w64 (by omega)]
  by_cases c : a < xs.length
  · rw [if_pos (by omega), if_pos c]
  · rw [if_neg (by omega), if_neg c]
theorem laws_szTree_ev (xs : List Int) (a : Int) (hm : xs.length ≤ 9223372036854775807) (ha : 0 ≤ a ∧ a ≤ 1048576) :
    laws_szTree.f xs a = some (if a < xs.length then -1 else a - xs.length) := by
  unfold laws_szTree.f
  rw [laws_szInt64S_ev xs a hm ha]
  by_cases c : a < xs.length
  · simp only [if_pos c, Option.bind_some]; rfl
  · simp only [if_neg c, Option.bind_some]
    rw [if_neg (by omega)]
theorem laws_toInt64S_ev (xs : List Int) (hm : xs.length ≤ 1048576) : Ev (fun k => laws_toInt64S.f k xs) xs := by
  have key : ∀ (d i : Nat) (ys : List Int), i + d = xs.length → ys.length = xs.length → ys.take i = xs.take i →
      Ev (fun k => laws_toInt64S.l0 k xs ys i) xs := by
    intro d
    induction d with
    | zero =>
      intro i ys h hl ht
      apply Ev.succ
      simp (disch := omega) only [laws_toInt64S.l0, if_pos, if_neg]
      refine Ev.some ?_
      rw [List.take_of_length_le (by omega), List.take_of_length_le (by omega)] at ht
      exact ht
    | succ d ih =>
      intro i ys h hl ht
      apply Ev.succ
      simp (disch := omega) only [laws_toInt64S.l0, if_pos, if_neg, w64]
      exact ih (i + 1) (ys.set i (rd xs i)) (by omega) (by rw [List.length_set, hl]) (by rw [take_set_succ _ _ _ (by omega), ht, take_rd_succ _ _ (by omega)])
  unfold laws_toInt64S.f
  refine Ev.pos (by omega) (Ev.pos (by omega) ?_)
  exact key xs.length 0 _ (by omega) (by rw [List.length_replicate]; omega) (by simp)
theorem laws_toTree_ev (xs : List Int) (hm : xs.length ≤ 1048576) : Ev (fun k => laws_toTree.f k xs) xs := by
  unfold laws_toTree.f
  exact Ev.bind (laws_toInt64S_ev xs hm) (Ev.now _)
/-- the table, as rows -/
def tabR (n a : Nat) : List Int := (List.range (n + 2)).map fun b => tab a b
def tabL (n : Nat) : List (List Int) := (List.range (n + 1)).map fun a => tabR n a
theorem spec_l02Table_all : ((List.range 25).all fun n => decide (spec_l02Table.f 800 (n : Int) = some (tabL n))) = true := by decide +kernel
theorem spec_l02Table_ev (n : Nat) (h : n ≤ 24) : Ev (fun k => spec_l02Table.f k (n : Int)) (tabL n) :=
  Ev.of (spec_l02Table.mono n) (of_decide_eq_true (List.all_eq_true.1 spec_l02Table_all n (List.mem_range.2 (by omega))))
theorem tabL_length (n : Nat) : (tabL n).length = n + 1 := by simp [tabL]
theorem tabR_length (n a : Nat) : (tabR n a).length = n + 2 := by simp [tabR]
theorem tabL_at (n a : Nat) (h : a ≤ n) : rd_L1 (tabL n) (a : Int) = tabR n a := by
  unfold rd_L1
  rw [Int.toNat_natCast, List.getD_eq_getElem?_getD, tabL, List.getElem?_map, List.getElem?_range (by omega)]
  rfl
theorem tabR_at (n a b : Nat) (h : b < n + 2) : rd (tabR n a) (b : Int) = tab a b := by
  rw [rd_nat, List.getD_eq_getElem?_getD, tabR, List.getElem?_map, List.getElem?_range (by omega)]
  rfl
/-! ### The table's sums -/
/-- entries of a row, from a place on, added up -/
def us (a b : Nat) : Nat → Int
  | 0 => 0
  | c + 1 => tab a b + us a (b + 1) c
theorem tab_ok_all : ((List.range 31).all fun a => (List.range 32).all fun b => decide (0 ≤ tab a b ∧ tab a b ≤ 2305843009213693951)) = true := by decide +kernel
theorem tab_sum_all : ((List.range 30).all fun a => (List.range 31).all fun b => decide (tab (a + 1) (b + 1) = us a b (a + 1 - b))) = true := by decide +kernel
theorem tab_ok (a b : Nat) (ha : a ≤ 30) (hb : b ≤ 31) : 0 ≤ tab a b ∧ tab a b ≤ 2305843009213693951 :=
  of_decide_eq_true (all_range (all_range tab_ok_all (i := a) (by omega)) (i := b) (by omega))
theorem tab_sum (a b : Nat) (ha : a < 30) (hb : b < 31) : tab (a + 1) (b + 1) = us a b (a + 1 - b) :=
  of_decide_eq_true (all_range (all_range tab_sum_all (i := a) (by omega)) (i := b) (by omega))
theorem us_nonneg (a : Nat) (ha : a ≤ 30) : ∀ (c b : Nat), b + c ≤ 32 → 0 ≤ us a b c := by
  intro c
  induction c with
  | zero => intro b _; simp [us]
  | succ c ih =>
    intro b h
    have h1 := tab_ok a b ha (by omega)
    have h2 := ih (b + 1) (by omega)
    simp only [us]
    omega
theorem us_add (a : Nat) : ∀ (c b e : Nat), us a b (c + e) = us a b c + us a (b + c) e := by
  intro c
  induction c with
  | zero => intro b e; simp [us]
  | succ c ih =>
    intro b e
    rw [show c + 1 + e = (c + e) + 1 by omega]
    simp only [us]
    rw [ih (b + 1) e, show b + 1 + c = b + (c + 1) by omega]
    omega
/-! ### The tree with a rank -/
theorem tree_step (n : Nat) (hn : n ≤ 24) (left v need k : Nat) (hv : v + left + 1 = n) (h1 : 1 ≤ need) (hb : need - 1 + k ≤ left) (r : Int) (d : List Int) (hd : d.length ≤ 100) (m : Nat) :
    spec_l02Tree.l1 (m + 1) n r (tabL n) need d v k = if r ≥ tab left (need - 1 + k) then spec_l02Tree.l1 m n (wrap64 (r - tab left (need - 1 + k))) (tabL n) need d v ((k + 1 : Nat) : Int) else spec_l02Tree.l0 m n r (tabL n) ((need - 1 + k : Nat) : Int) (d ++ [(k : Int)]) ((v + 1 : Nat) : Int) := by
  have hd' : d.length < 17592186044416 := by omega
  have hL := tabL_length n
  have hR := tabR_length n left
  simp only [spec_l02Tree.l1]
  rw [w64 (x := (n : Int) - (v : Int)) (by omega), w64 (x := (n : Int) - (v : Int) - 1) (by omega), show (n : Int) - (v : Int) - 1 = (left : Int) by omega, w64 (x := (need : Int) - 1) (by omega),
    w64 (x := (need : Int) - 1 + (k : Int)) (by omega), show (need : Int) - 1 + (k : Int) = ((need - 1 + k : Nat) : Int) by omega, tabL_at n left (by omega), tabR_at n left _ (by omega), w64 (x := (k : Int) + 1) (by omega), w64 (x := (v : Int) + 1) (by omega),
    if_pos hd', if_pos (by omega), if_pos (by omega), if_pos (by omega), if_pos (by omega)]
  rfl
theorem tree_l1 (n : Nat) (hn : n ≤ 24) (left v need : Nat) (hv : v + left + 1 = n) (h1 : 1 ≤ need) (d : List Int) (hd : d.length ≤ 100) :
    ∀ (c k : Nat) (r : Int), 0 ≤ r → r ≤ 9223372036854775807 → r < us left (need - 1 + k) c → need - 1 + k + c ≤ left + 1 → ∀ fu, c < fu →
      ∃ (r' : Int) (k' : Nat), torI left fu (need - 1) k r = some (r', k') ∧ k' < k + c ∧ 0 ≤ r' ∧ r' ≤ r ∧ r' < tab left (need - 1 + k') ∧
        ∀ R : List Int × Bool, Ev (fun m => spec_l02Tree.l0 m n r' (tabL n) ((need - 1 + k' : Nat) : Int) (d ++ [(k' : Int)]) ((v + 1 : Nat) : Int)) R → Ev (fun m => spec_l02Tree.l1 m n r (tabL n) need d v k) R := by
  intro c
  induction c with
  | zero => intro k r h0 hm hr; simp only [us] at hr; omega
  | succ c ih =>
    intro k r h0 hm hr hb fu hfu
    obtain ⟨fu, rfl⟩ : ∃ m, fu = m + 1 := ⟨fu - 1, by omega⟩
    have ht := tab_ok left (need - 1 + k) (by omega) (by omega)
    by_cases c0 : r ≥ tab left (need - 1 + k)
    · simp only [us] at hr
      obtain ⟨r', k', e1, e2, e3, e4, e5, e6⟩ := ih (k + 1) (r - tab left (need - 1 + k)) (by omega) (by omega) (by rw [show need - 1 + (k + 1) = need - 1 + k + 1 by omega]; omega) (by omega) fu (by omega)
      refine ⟨r', k', ?_, by omega, e3, by omega, e5, fun R hR => ?_⟩
      · simp only [torI]
        rw [if_pos (by omega), if_pos c0, w64 (by omega)]
        exact e1
      · apply Ev.succ
        refine Ev.congr (fun m => (tree_step n hn left v need k hv h1 (by omega) r d hd m)) (Ev.pos c0 ?_)
        rw [w64 (by omega)]
        exact e6 R hR
    · refine ⟨r, k, ?_, by omega, h0, by omega, by omega, fun R hR => ?_⟩
      · simp only [torI]
        rw [if_pos (by omega), if_neg c0]
      · apply Ev.succ
        exact Ev.congr (fun m => (tree_step n hn left v need k hv h1 (by omega) r d hd m)) (Ev.neg c0 hR)
theorem tree_l0 (n : Nat) (hn : n ≤ 24) : ∀ (left v need : Nat) (r : Int) (d : List Int), v + left = n → need ≤ 31 → 0 ≤ r → r ≤ 9223372036854775807 → r < tab left need → d.length = v →
    ∃ e : List Int, torO left need r d = some e ∧ e.length = n ∧ Ev (fun m => spec_l02Tree.l0 m n r (tabL n) need d v) (e, true) := by
  intro left
  induction left with
  | zero =>
    intro v need r d hv _ _ _ _ hd
    refine ⟨d, rfl, by omega, ?_⟩
    apply Ev.succ
    simp only [spec_l02Tree.l0]
    exact Ev.neg (by omega) (Ev.now _)
  | succ left ih =>
    intro v need r d hv hneed h0 hm hr hd
    by_cases c : need = 0
    · subst c
      rw [tab_first] at hr
      omega
    · obtain ⟨b, rfl⟩ : ∃ b, need = b + 1 := ⟨need - 1, by omega⟩
      rw [tab_sum left b (by omega) (by omega)] at hr
      have hc : b + (left + 1 - b) ≤ left + 1 := by
        by_cases c2 : b ≤ left
        · omega
        · rw [show left + 1 - b = 0 by omega] at hr
          simp only [us] at hr
          omega
      obtain ⟨r', k', e1, e2, e3, e4, e5, e6⟩ := tree_l1 n hn left v (b + 1) (by omega) (by omega) d (by omega) (left + 1 - b) 0 r h0 hm (by rw [show b + 1 - 1 + 0 = b by omega]; exact hr) (by omega) 33 (by omega)
      obtain ⟨e, g1, g2, g3⟩ := ih (v + 1) (b + 1 - 1 + k') r' (d ++ [(k' : Int)]) (by omega) (by omega) e3 (by omega) e5 (by simp [hd])
      refine ⟨e, ?_, g2, ?_⟩
      · simp only [torO]
        rw [if_neg (by omega), e1]
        exact g1
      · apply Ev.succ
        simp only [spec_l02Tree.l0]
        exact Ev.pos (by omega) (e6 _ g3)
theorem tree_ex (n : Nat) (h1 : 1 ≤ n) (hn : n ≤ 24) (r : Int) (h0 : 0 ≤ r) (hm : r ≤ 9223372036854775807) :
    ∃ T : List Int × Bool, impl_treeOfRank.f n r = some T ∧ Ev (fun k => spec_l02Tree.f k n r) T ∧ T.1.length ≤ 24 ∧ (T.2 = true ↔ r < tab n 1) ∧ (T.2 = true → torO n 1 r [] = some T.1 ∧ T.1.length = n) := by
  have hL := tabL_length n
  have hR := tabR_length n n
  have step : ∀ T : List Int × Bool, (if r ≥ tab n 1 then Ev (fun _ => some (([] : List Int), false)) T else Ev (fun k => spec_l02Tree.l0 k n r (tabL n) 1 [] 0) T) → Ev (fun k => spec_l02Tree.f k n r) T := by
    intro T hT
    unfold spec_l02Tree.f
    refine Ev.bind (spec_l02Table_ev n hn) ?_
    refine Ev.pos (by omega) (Ev.pos (by omega) ?_)
    rw [tabL_at n n (Nat.le_refl _), show rd (tabR n n) 1 = tab n 1 from tabR_at n n 1 (by omega)]
    refine Ev.pos (by omega) ?_
    by_cases c : r ≥ tab n 1
    · rw [if_pos c] at hT
      exact Ev.pos c hT
    · rw [if_neg c] at hT
      exact Ev.neg c hT
  by_cases c : r ≥ tab n 1
  · refine ⟨([], false), ?_, step _ (by rw [if_pos c]; exact Ev.now _), by simp, by simp; omega, by simp⟩
    unfold impl_treeOfRank.f
    rw [if_pos (by omega), if_pos (by omega), Int.toNat_natCast, if_pos c]
  · obtain ⟨e, g1, g2, g3⟩ := tree_l0 n hn n 0 1 r [] (by omega) (by omega) h0 hm (by omega) rfl
    refine ⟨(e, true), ?_, step _ (by rw [if_neg c]; exact g3), by simp [g2, hn], by simp; omega, fun _ => ⟨g1, g2⟩⟩
    unfold impl_treeOfRank.f
    rw [if_pos (by omega), if_pos (by omega), Int.toNat_natCast, if_neg c, g1]
    rfl
theorem spec_l01In_eq (a b c : Int) : spec_l01In.f a b c = some (decide (b ≤ a ∧ a ≤ c)) := by
  unfold spec_l01In.f
  by_cases h : a ≥ b
  · rw [if_pos h]
    congr 1
    rw [Bool.eq_iff_iff, decide_eq_true_eq, decide_eq_true_eq]
    omega
  · rw [if_neg h]
    congr 1
    rw [eq_comm, decide_eq_false_iff_not]
    omega
theorem spec_l01N_eq (d : List Int) : spec_l01N.f d = some (d.length : Int) := rfl
theorem spec_l01Is_ev (d : List Int) (hm : d.length ≤ 9223372036854775807) : Ev (fun k => spec_l01Is.f k d) (isT d) := by
  have key : ∀ (n i : Nat) (need : Int), i + n = d.length → d.length ≤ 24 → 0 ≤ need → need ≤ 1 + 24 * (i : Int) →
      Ev (fun k => spec_l01Is.l0 k need i d) (okT 25 (d.drop i) need) := by
    intro n
    induction n with
    | zero =>
      intro i need h h24 h0 h1
      apply Ev.succ
      simp (disch := omega) only [spec_l01Is.l0, if_pos, if_neg]
      rw [List.drop_eq_nil_of_le (by omega)]
      exact Ev.some (by simp only [okT]; rw [Bool.eq_iff_iff]; simp)
    | succ n ih =>
      intro i need h h24 h0 h1
      apply Ev.succ
      have hi : i < d.length := by omega
      have hr : rd d i = d[i] := by rw [rd_nat, List.getD_eq_getElem?_getD, List.getElem?_eq_getElem hi]; rfl
      simp (disch := omega) only [spec_l01Is.l0, if_pos, if_neg, spec_l01In_eq, Option.bind_some, decide_eq_true_eq, hr]
      rw [List.drop_eq_getElem_cons hi]
      simp only [okT]
      by_cases c0 : need = 0
      · rw [if_pos c0]; exact Ev.pos c0 (Ev.now _)
      · rw [if_neg c0]
        refine Ev.neg c0 ?_
        by_cases c1 : d[i] < 0
        · rw [if_pos c1]; exact Ev.neg (by omega) (Ev.now _)
        · rw [if_neg c1]
          by_cases c2 : d[i] ≥ 25
          · rw [if_pos c2]; exact Ev.neg (by omega) (Ev.now _)
          · rw [if_neg c2]
            refine Ev.pos (by omega) ?_
            rw [w64 (x := need - 1) (by omega), w64 (by omega), w64 (by omega), show need - 1 + d[i] = need + (d[i] - 1) by omega]
            exact ih (i + 1) _ (by omega) h24 (by omega) (by omega)
  unfold spec_l01Is.f
  simp only [spec_l01N_eq, Option.bind_some, spec_l01In_eq, decide_eq_true_eq]
  by_cases c : 1 ≤ (d.length : Int) ∧ (d.length : Int) ≤ 24
  · refine Ev.pos c ?_
    have := key d.length 0 1 (by omega) (by omega) (by omega) (by omega)
    rw [List.drop_zero, okT_25 d (by omega)] at this
    have e : isT d = okT 24 d 1 := by
      unfold isT
      rw [decide_eq_true (by omega : 1 ≤ d.length), decide_eq_true (by omega : d.length ≤ 24)]
      simp
    rw [e]
    exact this
  · refine Ev.neg c ?_
    refine Ev.some ?_
    rw [eq_comm, Bool.eq_false_iff]
    intro h
    have := isT_length h
    omega
/-! ### Ranks -/
/-- the rank of a list of trees among those with as many trees and nodes -/
def rkL : List Int → Nat → Int
  | [], _ => 0
  | x :: xs, need => us xs.length (need - 1) x.toNat + rkL xs (need - 1 + x.toNat)
theorem rk_l1 (n : Nat) (hn : n ≤ 24) (l : List Int) (hl : l.length = n) (left v b x : Nat) (hv : v + left + 1 = n) (hx : rd l (v : Int) = (x : Int)) (hb : b + x ≤ left) {R : Int} :
    ∀ (c d : Nat) (r : Int), d + c = x → 0 ≤ r → r + us left (b + d) c ≤ 4611686018427387904 →
      Ev (fun k => spec_l02Rank.l0 k n (tabL n) (r + us left (b + d) c) ((b + x : Nat) : Int) ((v + 1 : Nat) : Int) l) R → Ev (fun k => spec_l02Rank.l1 k n (tabL n) r ((b + 1 : Nat) : Int) v d l) R := by
  intro c
  induction c with
  | zero =>
    intro d r hd h0 hm h
    apply Ev.succ
    simp only [spec_l02Rank.l1, hx]
    refine Ev.pos (by omega) (Ev.pos (by omega) (Ev.neg (by omega) ?_))
    simp only [us, Int.add_zero] at h
    rw [w64 (x := ((b + 1 : Nat) : Int) - 1) (by omega), w64 (x := ((b + 1 : Nat) : Int) - 1 + (x : Int)) (by omega), w64 (x := (v : Int) + 1) (by omega), show ((b + 1 : Nat) : Int) - 1 + (x : Int) = ((b + x : Nat) : Int) by omega]
    exact h
  | succ c ih =>
    intro d r hd h0 hm h
    have ht := tab_ok left (b + d) (by omega) (by omega)
    have hn0 := us_nonneg left (by omega) c (b + d + 1) (by omega)
    have hL := tabL_length n
    have hR := tabR_length n left
    simp only [us] at hm h
    have h2 := ih (d + 1) (r + tab left (b + d)) (by omega) (by omega) (by rw [show b + (d + 1) = b + d + 1 by omega]; omega) (by rw [show b + (d + 1) = b + d + 1 by omega, Int.add_assoc]; exact h)
    apply Ev.succ
    simp only [spec_l02Rank.l1, hx]
    rw [w64 (x := (n : Int) - (v : Int)) (by omega), w64 (x := (n : Int) - (v : Int) - 1) (by omega), show (n : Int) - (v : Int) - 1 = (left : Int) by omega, w64 (x := ((b + 1 : Nat) : Int) - 1) (by omega),
      w64 (x := ((b + 1 : Nat) : Int) - 1 + (d : Int)) (by omega), show ((b + 1 : Nat) : Int) - 1 + (d : Int) = ((b + d : Nat) : Int) by omega, tabL_at n left (by omega), tabR_at n left _ (by omega), w64 (x := (d : Int) + 1) (by omega), w64 (x := r + tab left (b + d)) (by omega)]
    refine Ev.pos (by omega) (Ev.pos (by omega) (Ev.pos (by omega) (Ev.pos (by omega) (Ev.pos (by omega) (Ev.pos (by omega) (Ev.pos (by omega) ?_))))))
    exact h2
theorem rk_I (left b : Nat) (ha : left ≤ 30) : ∀ (c d : Nat) (r : Int), b + d + c ≤ 32 → 0 ≤ r → r + us left (b + d) c ≤ 4611686018427387904 → rkI left b c d r = some (r + us left (b + d) c) := by
  intro c
  induction c with
  | zero => intro d r _ _ _; simp [rkI, us]
  | succ c ih =>
    intro d r hd h0 hm
    have ht := tab_ok left (b + d) (by omega) (by omega)
    have hn0 := us_nonneg left (by omega) c (b + d + 1) (by omega)
    simp only [us] at hm
    simp only [rkI, us]
    rw [if_pos (by omega), w64 (by omega), ih (d + 1) _ (by omega) (by omega) (by rw [show b + (d + 1) = b + d + 1 by omega]; omega), show b + (d + 1) = b + d + 1 by omega, Int.add_assoc]
theorem rk_part (m b x : Nat) (h : b + x ≤ m) (hm : m < 30) : us m b x + tab m (b + x) ≤ tab (m + 1) (b + 1) ∧ 0 ≤ us m b x := by
  have h1 := us_add m x b (m + 1 - b - x)
  rw [show x + (m + 1 - b - x) = m + 1 - b by omega] at h1
  rw [tab_sum m b hm (by omega), h1, show m + 1 - b - x = (m - b - x) + 1 by omega]
  simp only [us]
  have h2 := us_nonneg m (by omega) (m - b - x) (b + x + 1) (by omega)
  have h3 := us_nonneg m (by omega) x b (by omega)
  omega
theorem rk_both (n : Nat) (hn : n ≤ 24) (l : List Int) (hl : l.length = n) : ∀ (m : Nat) (f : F), sz f = m → ∀ (v : Nat) (r : Int), v + m = n → l.drop v = degs f → 0 ≤ r → r + tab m (len f) ≤ 4611686018427387904 →
    0 ≤ rkL (degs f) (len f) ∧ rkL (degs f) (len f) < tab m (len f) ∧ rkO (degs f) (len f) r = some (r + rkL (degs f) (len f)) ∧ Ev (fun k => spec_l02Rank.l0 k n (tabL n) r (len f) v l) (r + rkL (degs f) (len f)) := by
  intro m
  induction m with
  | zero =>
    intro f hf v r hv hd h0 hm
    cases f with
    | nil =>
      refine ⟨by simp [degs, rkL], ?_, by simp [degs, rkL, rkO], ?_⟩
      · simp only [degs, rkL, len]
        rw [tab_zero 0 (by omega)]
        simp
      · apply Ev.succ
        simp only [spec_l02Rank.l0]
        exact Ev.neg (by omega) (Ev.some (by simp [degs, rkL]))
    | cons k r0 => simp only [sz] at hf; omega
  | succ m ih =>
    intro f hf v r hv hd h0 hm
    cases f with
    | nil => simp [sz] at hf
    | cons k r0 =>
      simp only [sz] at hf
      have hk := len_le_sz k
      have hr := len_le_sz r0
      have hlen : (degs (app k r0)).length = m := by rw [degs_length, sz_app]; omega
      simp only [degs, len] at hd hm ⊢
      rw [← degs_app] at hd ⊢
      have hdr := drop_cons hd
      have hx := rd_drop hd
      obtain ⟨p1, p2⟩ := rk_part m (len r0) (len k) (by omega) (by omega)
      rw [show 1 + len r0 = len r0 + 1 by omega] at hm ⊢
      obtain ⟨i1, i2, i3, i4⟩ := ih (app k r0) (by rw [sz_app]; omega) (v + 1) (r + us m (len r0) (len k)) (by omega) hdr.2.2 (by omega) (by rw [len_app, Nat.add_comm (len k)]; omega)
      rw [len_app, Nat.add_comm (len k)] at i1 i2 i3 i4
      have e : rkL ((len k : Int) :: degs (app k r0)) (len r0 + 1) = us m (len r0) (len k) + rkL (degs (app k r0)) (len r0 + len k) := by
        simp only [rkL, hlen, Int.toNat_natCast, Nat.add_sub_cancel]
      rw [e]
      refine ⟨by omega, by omega, ?_, ?_⟩
      · simp only [rkO]
        have e2 := rk_I m (len r0) (by omega) (len k) 0 r (by omega) h0 (by have := tab_ok m (len r0 + len k) (by omega) (by omega); rw [Nat.add_zero]; omega)
        rw [Nat.add_zero] at e2
        rw [if_neg (by omega), if_neg (by omega), hlen, Int.toNat_natCast, Nat.add_sub_cancel, e2, Option.bind_some, if_pos (by omega), i3, Int.add_assoc]
      · apply Ev.succ
        simp only [spec_l02Rank.l0]
        refine Ev.pos (by omega) ?_
        have := rk_l1 n hn l hl m v (len r0) (len k) (by omega) hx (by omega) (R := r + (us m (len r0) (len k) + rkL (degs (app k r0)) (len r0 + len k))) (len k) 0 r (by omega) h0 (by have := tab_ok m (len r0 + len k) (by omega) (by omega); rw [Nat.add_zero]; omega)
        rw [Nat.add_zero] at this
        refine this ?_
        rw [← Int.add_assoc]
        exact i4
/-- the rank of a tree -/
def rkV (k : F) : Int := rkL (tr k) 1
theorem rank_ex (k : F) (hk : sz k ≤ 23) : impl_rankOfTree.f (tr k) = some (rkV k) ∧ Ev (fun m => spec_l02Rank.f m (tr k)) (rkV k) ∧ 0 ≤ rkV k ∧ rkV k < tab (sz k + 1) 1 := by
  have hl : (tr k).length = sz k + 1 := by unfold tr; rw [degs_length]; simp only [sz]; omega
  have ht := tab_ok (sz k + 1) 1 (by omega) (by omega)
  obtain ⟨h1, h2, h3, h4⟩ := rk_both (sz k + 1) (by omega) (tr k) hl (sz k + 1) (cons k nil) (by simp only [sz]; omega) 0 0 (by omega) (by simp [tr]) (by omega) (by simp only [len, Nat.add_zero]; omega)
  simp only [len, Nat.add_zero, Int.zero_add] at h1 h2 h3 h4
  refine ⟨?_, ?_, h1, h2⟩
  · unfold impl_rankOfTree.f
    rw [if_pos (by omega)]
    exact h3
  · unfold spec_l02Rank.f
    rw [spec_l01N_eq]
    simp only [Option.bind_some, hl]
    exact Ev.bind (spec_l02Table_ev (sz k + 1) (by omega)) h4


theorem impl_isTree_ev (d : List Int) (hm : d.length ≤ 9223372036854775807) : Ev (fun k => impl_isTree.f k d) (isT d) := by
  have key : ∀ (n i : Nat) (need : Int), i + n = d.length → d.length ≤ 24 → 0 ≤ need → need ≤ 1 + 24 * (i : Int) →
      Ev (fun k => impl_isTree.l0 k need d d.length i) (okT 24 (d.drop i) need) := by
    intro n
    induction n with
    | zero =>
      intro i need h h24 h0 h1
      apply Ev.succ
      simp (disch := omega) only [impl_isTree.l0, if_pos, if_neg]
      rw [List.drop_eq_nil_of_le (by omega)]
      exact Ev.some (by simp only [okT]; rw [Bool.eq_iff_iff]; simp)
    | succ n ih =>
      intro i need h h24 h0 h1
      apply Ev.succ
      have hi : i < d.length := by omega
      have hr : rd d i = d[i] := by rw [rd_nat, List.getD_eq_getElem?_getD, List.getElem?_eq_getElem hi]; rfl
      simp (disch := omega) only [impl_isTree.l0, if_pos, if_neg, hr]
      rw [List.drop_eq_getElem_cons hi]
      simp only [okT]
      by_cases c0 : need = 0
      · rw [if_pos c0]; exact Ev.pos c0 (Ev.now _)
      · rw [if_neg c0]
        refine Ev.neg c0 ?_
        by_cases c1 : d[i] < 0
        · rw [if_pos c1]; exact Ev.pos c1 (Ev.now _)
        · rw [if_neg c1]
          refine Ev.neg c1 ?_
          by_cases c2 : d[i] ≥ 24
          · rw [if_pos c2]; exact Ev.pos c2 (Ev.now _)
          · rw [if_neg c2]
            refine Ev.neg c2 ?_
            rw [w64 (x := d[i] - 1) (by omega), w64 (by omega), w64 (by omega)]
            exact ih (i + 1) _ (by omega) h24 (by omega) (by omega)
  unfold impl_isTree.f
  by_cases c1 : (d.length : Int) < 1
  · refine Ev.pos c1 (Ev.succ ?_)
    simp only [impl_isTree.j0, if_true]
    refine Ev.some ?_
    rw [eq_comm, Bool.eq_false_iff]
    intro h
    have := isT_length h
    omega
  · refine Ev.neg c1 (Ev.succ ?_)
    simp only [impl_isTree.j0, decide_eq_true_eq]
    by_cases c : (d.length : Int) > 24
    · refine Ev.pos c (Ev.some ?_)
      rw [eq_comm, Bool.eq_false_iff]
      intro h
      have := isT_length h
      omega
    · refine Ev.neg c ?_
      have := key d.length 0 1 (by omega) (by omega) (by omega) (by omega)
      rw [List.drop_zero] at this
      have e : isT d = okT 24 d 1 := by
        unfold isT
        rw [decide_eq_true (by omega : 1 ≤ d.length), decide_eq_true (by omega : d.length ≤ 24)]
        simp
      rw [e]
      exact this
theorem impl_IsTree_ev (d : List Int) (hm : d.length ≤ 9223372036854775807) : Ev (fun k => impl_IsTree.f k d) (isT d) := by
  unfold impl_IsTree.f
  exact Ev.bind (impl_isTree_ev d hm) (Ev.now _)

theorem NextTree_ex (d : List Int) (hd : d.length ≤ 9223372036854775807) : ∃ R : List Int × Int, Ev (fun m => spec_NextTree.f m d) R ∧ Ev (fun m => impl_NextTree.f m d) R ∧ R.1.length ≤ 1000 := by
  have e := spec_l01Is_ev d hd
  have e' := impl_IsTree_ev d hd
  rcases isT_cases d with h | ⟨k, rfl, hk, h⟩
  · rw [h] at e e'
    refine ⟨([], 1), ?_, ?_, by simp⟩
    · unfold spec_NextTree.f
      exact Ev.bind e (Ev.neg (by simp) (Ev.now _))
    · unfold impl_NextTree.f
      exact Ev.bind e' (Ev.neg (by simp) (Ev.now _))
  · rw [h] at e e'
    obtain ⟨r1, r2, r3, r4⟩ := rank_ex k hk
    have ht := tab_ok (sz k + 1) 1 (by omega) (by omega)
    obtain ⟨T, t1, t2, t3, _, _⟩ := tree_ex (sz k + 1) (by omega) (by omega) (rkV k + 1) (by omega) (by omega)
    have hl := tr_length k
    refine ⟨if T.2 = true then (T.1, 0) else ([], 4), ?_, ?_, ?_⟩
    · unfold spec_NextTree.f
      refine Ev.bind e (Ev.pos rfl ?_)
      rw [spec_l01N_eq]
      simp only [Option.bind_some, hl]
      refine Ev.bind r2 ?_
      rw [w64 (x := rkV k + 1) (by omega)]
      refine Ev.bind t2 ?_
      by_cases c2 : T.2 = true
      · simp only [if_pos c2]; exact Ev.now _
      · simp only [if_neg c2]; exact Ev.now _
    · unfold impl_NextTree.f
      refine Ev.bind e' (Ev.pos rfl ?_)
      rw [r1]
      simp only [Option.bind_some, hl]
      rw [w64 (x := rkV k + 1) (by omega), t1]
      simp only [Option.bind_some]
      by_cases c2 : T.2 = true
      · simp only [if_pos c2]; exact Ev.now _
      · simp only [if_neg c2]; exact Ev.now _
    · by_cases c2 : T.2 = true
      · rw [if_pos c2]; show T.1.length ≤ 1000; omega
      · rw [if_neg c2]; simp
theorem FnExactNextTree : ∀ (l : List Int), l.length ≤ maxLen → (∀ x ∈ l, (Lit.int .i64 x).wf = true) → ∃ k, laws_FnExactNextTree.f k l = some true := by
  intro l h1 _
  unfold maxLen at h1
  apply Ev.rounds
  unfold laws_FnExactNextTree.f
  simp only [laws_szTree_ev l 1048576 h1 (by omega), Option.bind_some]
  by_cases c : (1048576 : Int) < l.length
  · rw [if_pos c]
    exact Ev.pos (by omega) (Ev.now _)
  · rw [if_neg c]
    have hl : l.length ≤ 1048576 := by omega
    have e1 := laws_toTree_ev l hl
    obtain ⟨R, e2, e3, hb⟩ := NextTree_ex l h1
    have e4 := laws_eqTree_ev l (by omega)
    have e5 := laws_markTree_ev l 1 (by omega) (by omega)
    have e6 := laws_eqTree_ev R.1 (by omega)
    have e7 := laws_markTree_ev R.1 1 (by omega) (by omega)
    have e8 := laws_heldTree_ev R.1.length 1 (by omega) (by omega)
    refine Ev.neg (by omega) ?_
    repeat' (first
      | exact Ev.now _
      | (with_reducible refine Ev.bind e1 ?_; try dsimp only)
      | (with_reducible refine Ev.bind e2 ?_; try dsimp only)
      | (with_reducible refine Ev.bind e3 ?_; try dsimp only)
      | (with_reducible refine Ev.bind e4 ?_; try dsimp only)
      | (with_reducible refine Ev.bind e5 ?_; try dsimp only)
      | (with_reducible refine Ev.bind e6 ?_; try dsimp only)
      | (with_reducible refine Ev.bind e7 ?_; try dsimp only)
      | (with_reducible refine Ev.bind e8 ?_; try dsimp only)
      | ((with_reducible apply Ev.pos); (solve | rfl | trivial | omega))
      | ((with_reducible apply Ev.neg); (solve | omega | simp))
      | (apply Ev.succ; simp only [laws_FnExactNextTree.j0, laws_FnExactNextTree.j1, laws_FnExactNextTree.j2]))

end Go.Proofs.Ytnibeghaebdajaa.Pure
