/- The pure statement of the law FnExactTreesOf is proved. Conditions: those of the statement alone. -/
import Derived.Test.YtjpmichlhagbcaaQFnExactTreesOfx3
import Derived.Test.YtjpmichlhagbcaaBase
import Derived.Test.YtjpmichlhagbcaaBase2
import Derived.Test.YtjpmichlhagbcaaBin
import Derived.Test.YtjpmichlhagbcaaBase3
import Derived.Test.YtjpmichlhagbcaaBase4
import Derived.Test.YtjpmichlhagbcaaBase5
import Derived.Test.YtjpmichlhagbcaaBase6
import Derived.Test.YtjpmichlhagbcaaPar
import Derived.Test.YtjpmichlhagbcaaPar2
import Derived.Test.YtjpmichlhagbcaaRem
import Derived.Test.YtjpmichlhagbcaaBin2
import Derived.Test.YtjpmichlhagbcaaNum
namespace Go.Proofs.Ytjpmichlhagbcaa.Pure
open Go.RowKit Go.Proofs.Ytjpmichlhagbcaa.QFnExactTreesOf Go.Proofs.Ytjpmichlhagbcaa.Base Go.Proofs.YtjpmichlhagbcaaW.PrintWords Go.Proofs.YtjpmichlhagbcaaW.PrintLast Go.Proofs.YtjpmichlhagbcaaW.PrintMore
open Go.Proofs.Ytjpmichlhagbcaa.Base.F
set_option linter.unusedVariables false
set_option linter.unusedSimpArgs false

theorem spec_l01In_eq (a b c : Int) : spec_l01In.f a b c = some (decide (b ≤ a ∧ a ≤ c)) := by
  unfold spec_l01In.f
  by_cases h : a ≥ b
  · rw [if_pos h]
    congr 1
    rw [Bool.eq_iff_iff, decide_eq_true_eq, decide_eq_true_eq]
    omega
  · rw [if_neg h]
    congr 1
    rw [eq_comm, decide_eq_false_iff_not]
    omega
theorem spec_l02Whole_eq (n : Int) : spec_l02Whole.f n = some (decide (1 ≤ n ∧ n ≤ 24)) := by
  unfold spec_l02Whole.f
  rw [spec_l01In_eq]
  rfl
/-- the table, as rows -/
def tabR (n a : Nat) : List Int := (List.range (n + 2)).map fun b => tab a b
def tabL (n : Nat) : List (List Int) := (List.range (n + 1)).map fun a => tabR n a
theorem spec_l02Table_all : ((List.range 25).all fun n => decide (spec_l02Table.f 800 (n : Int) = some (tabL n))) = true := by decide +kernel
theorem spec_l02Table_ev (n : Nat) (h : n ≤ 24) : Ev (fun k => spec_l02Table.f k (n : Int)) (tabL n) :=
  Ev.of (spec_l02Table.mono n) (of_decide_eq_true (List.all_eq_true.1 spec_l02Table_all n (List.mem_range.2 (by omega))))
theorem tabL_length (n : Nat) : (tabL n).length = n + 1 := by simp [tabL]
theorem tabR_length (n a : Nat) : (tabR n a).length = n + 2 := by simp [tabR]
theorem tabL_at (n a : Nat) (h : a ≤ n) : rd_L1 (tabL n) (a : Int) = tabR n a := by
  unfold rd_L1
  rw [Int.toNat_natCast, List.getD_eq_getElem?_getD, tabL, List.getElem?_map, List.getElem?_range (by omega)]
  rfl
theorem tabR_at (n a b : Nat) (h : b < n + 2) : rd (tabR n a) (b : Int) = tab a b := by
  rw [rd_nat, List.getD_eq_getElem?_getD, tabR, List.getElem?_map, List.getElem?_range (by omega)]
  rfl
/-! ### The table's sums -/
/-- entries of a row, from a place on, added up -/
def us (a b : Nat) : Nat → Int
  | 0 => 0
  | c + 1 => tab a b + us a (b + 1) c
theorem tab_ok_all : ((List.range 31).all fun a => (List.range 32).all fun b => decide (0 ≤ tab a b ∧ tab a b ≤ 2305843009213693951)) = true := by decide +kernel
theorem tab_sum_all : ((List.range 30).all fun a => (List.range 31).all fun b => decide (tab (a + 1) (b + 1) = us a b (a + 1 - b))) = true := by decide +kernel
theorem tab_ok (a b : Nat) (ha : a ≤ 30) (hb : b ≤ 31) : 0 ≤ tab a b ∧ tab a b ≤ 2305843009213693951 :=
  of_decide_eq_true (all_range (all_range tab_ok_all (i := a) (by omega)) (i := b) (by omega))
theorem tab_sum (a b : Nat) (ha : a < 30) (hb : b < 31) : tab (a + 1) (b + 1) = us a b (a + 1 - b) :=
  of_decide_eq_true (all_range (all_range tab_sum_all (i := a) (by omega)) (i := b) (by omega))
theorem us_nonneg (a : Nat) (ha : a ≤ 30) : ∀ (c b : Nat), b + c ≤ 32 → 0 ≤ us a b c := by
  intro c
  induction c with
  | zero => intro b _; simp [us]
  | succ c ih =>
    intro b h
    have h1 := tab_ok a b ha (by omega)
    have h2 := ih (b + 1) (by omega)
    simp only [us]
    omega
theorem us_add (a : Nat) : ∀ (c b e : Nat), us a b (c + e) = us a b c + us a (b + c) e := by
  intro c
  induction c with
  | zero => intro b e; simp [us]
  | succ c ih =>
    intro b e
    rw [show c + 1 + e = (c + e) + 1 by omega]
    simp only [us]
    rw [ih (b + 1) e, show b + 1 + c = b + (c + 1) by omega]
    omega
/-! ### The tree with a rank -/
theorem tree_step (n : Nat) (hn : n ≤ 24) (left v need k : Nat) (hv : v + left + 1 = n) (h1 : 1 ≤ need) (hb : need - 1 + k ≤ left) (r : Int) (d : List Int) (hd : d.length ≤ 100) (m : Nat) :
    spec_l02Tree.l1 (m + 1) n r (tabL n) need d v k = if r ≥ tab left (need - 1 + k) then spec_l02Tree.l1 m n (wrap64 (r - tab left (need - 1 + k))) (tabL n) need d v ((k + 1 : Nat) : Int) else spec_l02Tree.l0 m n r (tabL n) ((need - 1 + k : Nat) : Int) (d ++ [(k : Int)]) ((v + 1 : Nat) : Int) := by
  have hd' : d.length < 17592186044416 := by omega
  have hL := tabL_length n
  have hR := tabR_length n left
  simp only [spec_l02Tree.l1]
  rw [w64 (x := (n : Int) - (v : Int)) (by omega), w64 (x := (n : Int) - (v : Int) - 1) (by omega), show (n : Int) - (v : Int) - 1 = (left : Int) by omega, w64 (x := (need : Int) - 1) (by omega),
    w64 (x := (need : Int) - 1 + (k : Int)) (by omega), show (need : Int) - 1 + (k : Int) = ((need - 1 + k : Nat) : Int) by omega, tabL_at n left (by omega), tabR_at n left _ (by omega), w64 (x := (k : Int) + 1) (by omega), w64 (x := (v : Int) + 1) (by omega),
    if_pos hd', if_pos (by omega), if_pos (by omega), if_pos (by omega), if_pos (by omega)]
  rfl
theorem tree_l1 (n : Nat) (hn : n ≤ 24) (left v need : Nat) (hv : v + left + 1 = n) (h1 : 1 ≤ need) (d : List Int) (hd : d.length ≤ 100) :
    ∀ (c k : Nat) (r : Int), 0 ≤ r → r ≤ 9223372036854775807 → r < us left (need - 1 + k) c → need - 1 + k + c ≤ left + 1 → ∀ fu, c < fu →
      ∃ (r' : Int) (k' : Nat), torI left fu (need - 1) k r = some (r', k') ∧ k' < k + c ∧ 0 ≤ r' ∧ r' ≤ r ∧ r' < tab left (need - 1 + k') ∧
        ∀ R : List Int × Bool, Ev (fun m => spec_l02Tree.l0 m n r' (tabL n) ((need - 1 + k' : Nat) : Int) (d ++ [(k' : Int)]) ((v + 1 : Nat) : Int)) R → Ev (fun m => spec_l02Tree.l1 m n r (tabL n) need d v k) R := by
  intro c
  induction c with
  | zero => intro k r h0 hm hr; simp only [us] at hr; omega
  | succ c ih =>
    intro k r h0 hm hr hb fu hfu
    obtain ⟨fu, rfl⟩ : ∃ m, fu = m + 1 := ⟨fu - 1, by omega⟩
    have ht := tab_ok left (need - 1 + k) (by omega) (by omega)
    by_cases c0 : r ≥ tab left (need - 1 + k)
    · simp only [us] at hr
      obtain ⟨r', k', e1, e2, e3, e4, e5, e6⟩ := ih (k + 1) (r - tab left (need - 1 + k)) (by omega) (by omega) (by rw [show need - 1 + (k + 1) = need - 1 + k + 1 by omega]; omega) (by omega) fu (by omega)
      refine ⟨r', k', ?_, by omega, e3, by omega, e5, fun R hR => ?_⟩
      · simp only [torI]
        rw [if_pos (by omega), if_pos c0, w64 (by omega)]
        exact e1
      · apply Ev.succ
        refine Ev.congr (fun m => (tree_step n hn left v need k hv h1 (by omega) r d hd m)) (Ev.pos c0 ?_)
        rw [w64 (by omega)]
        exact e6 R hR
    · refine ⟨r, k, ?_, by omega, h0, by omega, by omega, fun R hR => ?_⟩
      · simp only [torI]
        rw [if_pos (by omega), if_neg c0]
      · apply Ev.succ
        exact Ev.congr (fun m => (tree_step n hn left v need k hv h1 (by omega) r d hd m)) (Ev.neg c0 hR)
theorem tree_l0 (n : Nat) (hn : n ≤ 24) : ∀ (left v need : Nat) (r : Int) (d : List Int), v + left = n → need ≤ 31 → 0 ≤ r → r ≤ 9223372036854775807 → r < tab left need → d.length = v →
    ∃ e : List Int, torO left need r d = some e ∧ e.length = n ∧ Ev (fun m => spec_l02Tree.l0 m n r (tabL n) need d v) (e, true) := by
  intro left
  induction left with
  | zero =>
    intro v need r d hv _ _ _ _ hd
    refine ⟨d, rfl, by omega, ?_⟩
    apply Ev.succ
    simp only [spec_l02Tree.l0]
    exact Ev.neg (by omega) (Ev.now _)
  | succ left ih =>
    intro v need r d hv hneed h0 hm hr hd
    by_cases c : need = 0
    · subst c
      rw [tab_first] at hr
      omega
    · obtain ⟨b, rfl⟩ : ∃ b, need = b + 1 := ⟨need - 1, by omega⟩
      rw [tab_sum left b (by omega) (by omega)] at hr
      have hc : b + (left + 1 - b) ≤ left + 1 := by
        by_cases c2 : b ≤ left
        · omega
        · rw [show left + 1 - b = 0 by omega] at hr
          simp only [us] at hr
          omega
      obtain ⟨r', k', e1, e2, e3, e4, e5, e6⟩ := tree_l1 n hn left v (b + 1) (by omega) (by omega) d (by omega) (left + 1 - b) 0 r h0 hm (by rw [show b + 1 - 1 + 0 = b by omega]; exact hr) (by omega) 33 (by omega)
      obtain ⟨e, g1, g2, g3⟩ := ih (v + 1) (b + 1 - 1 + k') r' (d ++ [(k' : Int)]) (by omega) (by omega) e3 (by omega) e5 (by simp [hd])
      refine ⟨e, ?_, g2, ?_⟩
      · simp only [torO]
        rw [if_neg (by omega), e1]
        exact g1
      · apply Ev.succ
        simp only [spec_l02Tree.l0]
        exact Ev.pos (by omega) (e6 _ g3)
theorem tree_ex (n : Nat) (h1 : 1 ≤ n) (hn : n ≤ 24) (r : Int) (h0 : 0 ≤ r) (hm : r ≤ 9223372036854775807) :
    ∃ T : List Int × Bool, impl_treeOfRank.f n r = some T ∧ Ev (fun k => spec_l02Tree.f k n r) T ∧ T.1.length ≤ 24 ∧ (T.2 = true ↔ r < tab n 1) ∧ (T.2 = true → torO n 1 r [] = some T.1 ∧ T.1.length = n) := by
  have hL := tabL_length n
  have hR := tabR_length n n
  have step : ∀ T : List Int × Bool, (if r ≥ tab n 1 then Ev (fun _ => some (([] : List Int), false)) T else Ev (fun k => spec_l02Tree.l0 k n r (tabL n) 1 [] 0) T) → Ev (fun k => spec_l02Tree.f k n r) T := by
    intro T hT
    unfold spec_l02Tree.f
    refine Ev.bind (spec_l02Table_ev n hn) ?_
    refine Ev.pos (by omega) (Ev.pos (by omega) ?_)
    rw [tabL_at n n (Nat.le_refl _), show rd (tabR n n) 1 = tab n 1 from tabR_at n n 1 (by omega)]
    refine Ev.pos (by omega) ?_
    by_cases c : r ≥ tab n 1
    · rw [if_pos c] at hT
      exact Ev.pos c hT
    · rw [if_neg c] at hT
      exact Ev.neg c hT
  by_cases c : r ≥ tab n 1
  · refine ⟨([], false), ?_, step _ (by rw [if_pos c]; exact Ev.now _), by simp, by simp; omega, by simp⟩
    unfold impl_treeOfRank.f
    rw [if_pos (by omega), if_pos (by omega), Int.toNat_natCast, if_pos c]
  · obtain ⟨e, g1, g2, g3⟩ := tree_l0 n hn n 0 1 r [] (by omega) (by omega) h0 hm (by omega) rfl
    refine ⟨(e, true), ?_, step _ (by rw [if_neg c]; exact g3), by simp [g2, hn], by simp; omega, fun _ => ⟨g1, g2⟩⟩
    unfold impl_treeOfRank.f
    rw [if_pos (by omega), if_pos (by omega), Int.toNat_natCast, if_neg c, g1]
    rfl

theorem impl_isNodes_eq (n : Int) : impl_isNodes.f n = some (decide (1 ≤ n ∧ n ≤ 24)) := by
  unfold impl_isNodes.f
  by_cases c : 1 ≤ n
  · rw [if_pos c]
    congr 1
    rw [Bool.eq_iff_iff, decide_eq_true_eq, decide_eq_true_eq]
    omega
  · rw [if_neg c]
    congr 1
    rw [eq_comm, decide_eq_false_iff_not]
    omega


theorem tab_small_all : ((List.range 8).all fun n => decide (tab n 1 ≤ 132)) = true := by decide +kernel
theorem tab_small (n : Nat) (h : n ≤ 7) : tab n 1 ≤ 132 := of_decide_eq_true (all_range tab_small_all (i := n) (by omega))
theorem trees_loop (n : Nat) (h1 : 1 ≤ n) (hn : n ≤ 7) : ∀ (d r : Nat) (acc : List S43), (r : Int) + d = tab n 1 → acc.length = r → (∀ x ∈ acc, x.f0.length ≤ 24) →
    ∃ R : List S43, Ev (fun k => spec_TreesOf.l0 k n acc r) (R, 0) ∧ Ev (fun k => impl_treesOf.l0 k n acc r) R ∧ R.length ≤ 132 ∧ (R.length : Int) = tab n 1 ∧ ∀ x ∈ R, x.f0.length ≤ 24 := by
  have ht := tab_small n hn
  intro d
  induction d with
  | zero =>
    intro r acc hr ha hx
    obtain ⟨T, t1, t2, t3, t4, _⟩ := tree_ex n h1 (by omega) (r : Int) (by omega) (by omega)
    have hf : T.2 = false := by
      cases hT : T.2 with
      | false => rfl
      | true => have := t4.1 hT; omega
    refine ⟨acc, ?_, ?_, by omega, by omega, hx⟩
    · apply Ev.succ
      simp only [spec_TreesOf.l0]
      refine Ev.bind t2 (Ev.neg (by simp [hf]) (Ev.now _))
    · apply Ev.succ
      simp only [impl_treesOf.l0, t1, Option.bind_some]
      exact Ev.neg (by simp [hf]) (Ev.now _)
  | succ d ih =>
    intro r acc hr ha hx
    obtain ⟨T, t1, t2, t3, t4, _⟩ := tree_ex n h1 (by omega) (r : Int) (by omega) (by omega)
    have hf : T.2 = true := t4.2 (by omega)
    obtain ⟨R, r1, r2, r3, r4, r5⟩ := ih (r + 1) (acc ++ [⟨T.1⟩]) (by omega) (by simp [ha]) (by
      intro x hx'
      rcases List.mem_append.1 hx' with hx' | hx'
      · exact hx x hx'
      · simp only [List.mem_singleton] at hx'
        subst hx'
        exact t3)
    refine ⟨R, ?_, ?_, r3, r4, r5⟩
    · apply Ev.succ
      simp only [spec_TreesOf.l0]
      refine Ev.bind t2 (Ev.pos hf (Ev.pos (by omega) ?_))
      rw [w64 (by omega), show (r : Int) + 1 = ((r + 1 : Nat) : Int) by omega]
      exact r1
    · apply Ev.succ
      simp only [impl_treesOf.l0, t1, Option.bind_some]
      refine Ev.pos hf (Ev.pos (by omega) ?_)
      rw [w64 (by omega), show (r : Int) + 1 = ((r + 1 : Nat) : Int) by omega]
      exact r2
theorem TreesOf_ex (n : Int) : ∃ R : List S43 × Int, Ev (fun k => spec_TreesOf.f k n) R ∧ Ev (fun k => impl_TreesOf.f k n) R ∧ R.1.length ≤ 132 ∧ (∀ x ∈ R.1, x.f0.length ≤ 24) ∧ (R.2 = 0 → 1 ≤ n ∧ n ≤ 7 ∧ (R.1.length : Int) = tab n.toNat 1) := by
  unfold spec_TreesOf.f impl_TreesOf.f
  simp only [spec_l02Whole_eq, impl_isNodes_eq, Option.bind_some, decide_eq_true_eq]
  by_cases c : 1 ≤ n ∧ n ≤ 24
  · by_cases c2 : n > 7
    · exact ⟨([], 3), Ev.pos c (Ev.pos c2 (Ev.now _)), Ev.pos c (Ev.pos c2 (Ev.now _)), by simp, by simp, by simp⟩
    · obtain ⟨m, rfl⟩ : ∃ m : Nat, n = m := ⟨n.toNat, by omega⟩
      have h0 := tab_ok m 1 (by omega) (by omega)
      obtain ⟨d, hd⟩ : ∃ d : Nat, (d : Int) = tab m 1 := ⟨(tab m 1).toNat, by omega⟩
      obtain ⟨R, r1, r2, r3, r4, r5⟩ := trees_loop m (by omega) (by omega) d 0 [] (by simp [hd]) rfl (by simp)
      refine ⟨(R, 0), Ev.pos c (Ev.neg c2 r1), Ev.pos c (Ev.neg c2 ?_), r3, r5, fun _ => ⟨by omega, by omega, by rw [Int.toNat_natCast]; exact r4⟩⟩
      refine Ev.bind ?_ (Ev.now _)
      unfold impl_treesOf.f
      exact r2
  · exact ⟨([], 2), Ev.neg c (Ev.now _), Ev.neg c (Ev.now _), by simp, by simp, by simp⟩
theorem laws_eqInt64S_ev (xs : List Int) (hm : xs.length ≤ 140737488351232) : Ev (fun k => laws_eqInt64S.f k xs xs) true := by
  have key : ∀ (d i : Nat), i + d = xs.length → Ev (fun k => laws_eqInt64S.l0 k xs xs i) true := by
    intro d
    induction d with
    | zero =>
      intro i h
      apply Ev.succ
      simp (disch := omega) only [laws_eqInt64S.l0, if_pos, if_neg]
      exact Ev.now _
    | succ d ih =>
      intro i h
      apply Ev.succ
      simp (disch := omega) only [laws_eqInt64S.l0, if_pos, if_neg, w64]
      exact ih (i + 1) (by omega)
  unfold laws_eqInt64S.f
  exact Ev.pos rfl (key xs.length 0 (by omega))
theorem laws_eqTree_ev (xs : List Int) (hm : xs.length ≤ 140737488351232) : Ev (fun k => laws_eqTree.f k xs xs) true := by
  unfold laws_eqTree.f
  exact Ev.bind (laws_eqInt64S_ev xs hm) (Ev.now _)
theorem rdT_at {xs tl : List S43} {x : S43} {i : Nat} (h : xs.drop i = x :: tl) : rd_T43 xs (i : Int) = x := by
  unfold rd_T43
  rw [Int.toNat_natCast, List.getD_eq_getElem?_getD, (drop_cons h).2.1]
  rfl
theorem laws_eqTreeS_ev (R : List S43) (hm : R.length ≤ 1000000) (hx : ∀ x ∈ R, x.f0.length ≤ 140737488351232) : Ev (fun k => laws_eqTreeS.f k R R) true := by
  have key : ∀ (tl : List S43) (i : Nat), R.drop i = tl → i + tl.length = R.length → Ev (fun k => laws_eqTreeS.l0 k R R (i : Int)) true := by
    intro tl
    induction tl with
    | nil =>
      intro i hd hi
      simp only [List.length_nil] at hi
      apply Ev.succ
      simp only [laws_eqTreeS.l0]
      exact Ev.neg (by omega) (Ev.now _)
    | cons x tl ih =>
      intro i hd hi
      simp only [List.length_cons] at hi
      have hr := rdT_at hd
      have hmem : x ∈ R := by
        have : x ∈ R.drop i := by rw [hd]; simp
        exact List.mem_of_mem_drop this
      apply Ev.succ
      simp only [laws_eqTreeS.l0, hr]
      refine Ev.pos (by omega) (Ev.pos (by omega) (Ev.pos (by omega) (Ev.bind (laws_eqTree_ev x.f0 (hx x hmem)) (Ev.pos rfl ?_))))
      rw [w64 (by omega), show (i : Int) + 1 = ((i + 1 : Nat) : Int) by omega]
      exact ih (i + 1) (drop_cons hd).2.2 (by omega)
  unfold laws_eqTreeS.f
  exact Ev.pos rfl (key R 0 rfl (by omega))
theorem laws_markInt64S_ev (xs : List Int) (a : Int) (ha : 0 ≤ a) (hm : a + (xs.length : Int) ≤ 1000000000000000000) :
    Ev (fun k => laws_markInt64S.f k xs a) (a + xs.length, marks a xs.length) := by
  have key : ∀ (d i : Nat) (ys : List Int), i + d = xs.length → ys.length = xs.length → ys.take i = marks a i →
      Ev (fun k => laws_markInt64S.l0 k ys (a + i) i) (a + xs.length, marks a xs.length) := by
    intro d
    induction d with
    | zero =>
      intro i ys h hl ht
      apply Ev.succ
      simp (disch := omega) only [laws_markInt64S.l0, if_pos, if_neg]
      refine Ev.some ?_
      rw [show i = xs.length by omega] at ht ⊢
      rw [← ht, List.take_of_length_le (by omega)]
    | succ d ih =>
      intro i ys h hl ht
      apply Ev.succ
      simp (disch := omega) only [laws_markInt64S.l0, if_pos, if_neg, w64]
      have := ih (i + 1) (ys.set i (a + i)) (by omega) (by rw [List.length_set, hl]) (by rw [marks_succ, ← ht, take_set_succ _ _ _ (by omega)])
      rw [show a + ((i + 1 : Nat) : Int) = a + i + 1 by omega] at this
      exact this
  unfold laws_markInt64S.f
  have := key xs.length 0 xs (by omega) rfl (by simp [marks])
  simpa using this
/-- all degrees together -/
def totS : List S43 → Nat
  | [] => 0
  | x :: xs => x.f0.length + totS xs
/-- the lists marked, one behind the other -/
def marksS (a : Int) : List S43 → List S43
  | [] => []
  | x :: xs => ⟨marks a x.f0.length⟩ :: marksS (a + x.f0.length) xs
theorem laws_markTreeS_g : ∀ (R : List S43) (a : Int), 0 ≤ a → a + (totS R : Int) ≤ 1000000000000000000 → Ev (fun k => laws_markTreeS.g k R a) (a + totS R, marksS a R) := by
  intro R
  induction R with
  | nil =>
    intro a _ _
    simp only [laws_markTreeS.g]
    exact Ev.some (by simp [totS, marksS])
  | cons x xs ih =>
    intro a ha hm
    simp only [totS] at hm
    simp only [laws_markTreeS.g]
    refine Ev.bind (laws_markInt64S_ev x.f0 a ha (by omega)) (Ev.bind (ih (a + x.f0.length) (by omega) (by omega)) (Ev.some ?_))
    simp only [totS, marksS, Prod.mk.injEq, and_true]
    omega
theorem laws_markTreeS_ev (R : List S43) (a : Int) (hr : R.length ≤ 1000000) (ha : 0 ≤ a) (hm : a + (totS R : Int) ≤ 1000000000000000000) : Ev (fun k => laws_markTreeS.f k R a) (a + totS R, marksS a R) := by
  unfold laws_markTreeS.f
  exact Ev.pos (by omega) (laws_markTreeS_g R a ha hm)
theorem laws_heldInt64S_ev (n : Nat) (a : Int) (ha : 0 ≤ a) (hm : a + (n : Int) ≤ 1000000000000000000) :
    Ev (fun k => laws_heldInt64S.f k (marks a n) a) (a + n) := by
  have key : ∀ (d i : Nat), i + d = n → Ev (fun k => laws_heldInt64S.l0 k (marks a n) (a + i) i) (a + n) := by
    intro d
    induction d with
    | zero =>
      intro i h
      have hl := marks_length a n
      apply Ev.succ
      simp (disch := omega) only [laws_heldInt64S.l0, if_pos, if_neg]
      refine Ev.some ?_
      omega
    | succ d ih =>
      intro i h
      have hl := marks_length a n
      have hr := rd_marks a n i (by omega)
      apply Ev.succ
      simp (disch := omega) only [laws_heldInt64S.l0, if_pos, if_neg, w64, hr]
      have := ih (i + 1) (by omega)
      rw [show a + ((i + 1 : Nat) : Int) = a + i + 1 by omega] at this
      exact this
  unfold laws_heldInt64S.f
  simpa using key n 0 (by omega)
theorem marksS_length : ∀ (R : List S43) (a : Int), (marksS a R).length = R.length := by
  intro R
  induction R with
  | nil => intro a; rfl
  | cons x xs ih => intro a; simp [marksS, ih]
theorem laws_heldTreeS_ev (R : List S43) (a : Int) (hr : R.length ≤ 1000000) (ha : 0 ≤ a) (hm : a + (totS R : Int) ≤ 1000000000000000000) : Ev (fun k => laws_heldTreeS.f k (marksS a R) a) (a + totS R) := by
  have hl := marksS_length R a
  have key : ∀ (tl : List S43) (i : Nat) (b : Int), (marksS a R).drop i = marksS b tl → i + tl.length = R.length → 0 ≤ b → b + (totS tl : Int) = a + (totS R : Int) → Ev (fun k => laws_heldTreeS.l0 k (marksS a R) b (i : Int)) (a + totS R) := by
    intro tl
    induction tl with
    | nil =>
      intro i b hd hi hb ht
      simp only [List.length_nil] at hi
      apply Ev.succ
      simp only [laws_heldTreeS.l0]
      refine Ev.neg (by omega) (Ev.some ?_)
      simp only [totS] at ht
      omega
    | cons x tl ih =>
      intro i b hd hi hb ht
      simp only [List.length_cons] at hi
      simp only [totS] at ht
      simp only [marksS] at hd
      have hr := rdT_at hd
      apply Ev.succ
      simp only [laws_heldTreeS.l0, hr]
      refine Ev.pos (by omega) (Ev.pos (by omega) (Ev.bind (laws_heldInt64S_ev x.f0.length b hb (by omega)) (Ev.neg (by omega) ?_)))
      rw [w64 (by omega), show (i : Int) + 1 = ((i + 1 : Nat) : Int) by omega]
      exact ih (i + 1) (b + x.f0.length) (drop_cons hd).2.2 (by omega) (by omega) (by omega)
  unfold laws_heldTreeS.f
  exact key R 0 a rfl (by omega) ha rfl
theorem totS_le : ∀ (R : List S43), (∀ x ∈ R, x.f0.length ≤ 24) → totS R ≤ 24 * R.length := by
  intro R
  induction R with
  | nil => intro _; simp [totS]
  | cons x xs ih =>
    intro h
    have h1 := h x (by simp)
    have h2 := ih (fun y hy => h y (by simp [hy]))
    simp only [totS, List.length_cons]
    omega
theorem FnExactTreesOf : ∀ (n : Int), (Lit.int .i64 n).wf = true → ∃ k, laws_FnExactTreesOf.f k n = some true := by
  intro n _
  apply Ev.rounds
  obtain ⟨R, e1, e2, hb, hx, _⟩ := TreesOf_ex n
  have ht := totS_le R.1 hx
  unfold laws_FnExactTreesOf.f
  refine Ev.bind e1 (Ev.bind e2 (Ev.pos rfl (Ev.bind (laws_eqTreeS_ev R.1 (by omega) (fun x h => by have := hx x h; omega)) (Ev.pos rfl ?_))))
  refine Ev.bind (laws_markTreeS_ev R.1 1 (by omega) (by omega) (by omega)) (Ev.bind (laws_heldTreeS_ev R.1 1 (by omega) (by omega) (by omega)) (Ev.pos rfl (Ev.pos (by omega) (Ev.now _))))

end Go.Proofs.Ytjpmichlhagbcaa.Pure
