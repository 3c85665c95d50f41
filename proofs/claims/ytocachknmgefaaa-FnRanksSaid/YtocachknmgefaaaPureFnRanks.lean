/- The pure statement of the law FnRanks is proved. Conditions: those of the statement alone. -/
import Derived.Test.YtocachknmgefaaaQFnRanksx12
import Derived.Test.YtocachknmgefaaaVFnRanksBase
import Derived.Test.YtocachknmgefaaaVFnRanksBase2
import Derived.Test.YtocachknmgefaaaVFnRanksBin
import Derived.Test.YtocachknmgefaaaVFnRanksBase3
import Derived.Test.YtocachknmgefaaaVFnRanksBase4
import Derived.Test.YtocachknmgefaaaVFnRanksBase5
import Derived.Test.YtocachknmgefaaaVFnRanksBase6
import Derived.Test.YtocachknmgefaaaVFnRanksPar
import Derived.Test.YtocachknmgefaaaVFnRanksPar2
import Derived.Test.YtocachknmgefaaaVFnRanksRem
import Derived.Test.YtocachknmgefaaaVFnRanksBin2
import Derived.Test.YtocachknmgefaaaVFnRanksNum
namespace Go.Proofs.Ytocachknmgefaaa.Pure
open Go.RowKit Go.Proofs.Ytocachknmgefaaa.QFnRanks Go.Proofs.Ytocachknmgefaaa.Base Go.Proofs.YtocachknmgefaaaW.PrintWords Go.Proofs.YtocachknmgefaaaW.PrintLast Go.Proofs.YtocachknmgefaaaW.PrintMore
open Go.Proofs.Ytocachknmgefaaa.Base.F
set_option linter.unusedVariables false
set_option linter.unusedSimpArgs false

theorem laws_big_eq (l : List Int) : laws_big.f l = some (decide ((l.length : Int) > 4096)) := rfl
theorem impl_isTree_ev (d : List Int) (hm : d.length ≤ 9223372036854775807) : Ev (fun k => impl_isTree.f k d) (isT d) := by
  have key : ∀ (n i : Nat) (need : Int), i + n = d.length → d.length ≤ 24 → 0 ≤ need → need ≤ 1 + 24 * (i : Int) →
      Ev (fun k => impl_isTree.l0 k need d d.length i) (okT 24 (d.drop i) need) := by
    intro n
    induction n with
    | zero =>
      intro i need h h24 h0 h1
      apply Ev.succ
      simp (disch := omega) only [impl_isTree.l0, if_pos, if_neg]
      rw [List.drop_eq_nil_of_le (by omega)]
      exact Ev.some (by simp only [okT]; rw [Bool.eq_iff_iff]; simp)
    | succ n ih =>
      intro i need h h24 h0 h1
      apply Ev.succ
      have hi : i < d.length := by omega
      have hr : rd d i = d[i] := by rw [rd_nat, List.getD_eq_getElem?_getD, List.getElem?_eq_getElem hi]; rfl
      simp (disch := omega) only [impl_isTree.l0, if_pos, if_neg, hr]
      rw [List.drop_eq_getElem_cons hi]
      simp only [okT]
      by_cases c0 : need = 0
      · rw [if_pos c0]; exact Ev.pos c0 (Ev.now _)
      · rw [if_neg c0]
        refine Ev.neg c0 ?_
        by_cases c1 : d[i] < 0
        · rw [if_pos c1]; exact Ev.pos c1 (Ev.now _)
        · rw [if_neg c1]
          refine Ev.neg c1 ?_
          by_cases c2 : d[i] ≥ 24
          · rw [if_pos c2]; exact Ev.pos c2 (Ev.now _)
          · rw [if_neg c2]
            refine Ev.neg c2 ?_
            rw [w64 (x := d[i] - 1) (by omega), w64 (by omega), w64 (by omega)]
            exact ih (i + 1) _ (by omega) h24 (by omega) (by omega)
  unfold impl_isTree.f
  by_cases c1 : (d.length : Int) < 1
  · refine Ev.pos c1 (Ev.succ ?_)
    simp only [impl_isTree.j0, if_true]
    refine Ev.some ?_
    rw [eq_comm, Bool.eq_false_iff]
    intro h
    have := isT_length h
    omega
  · refine Ev.neg c1 (Ev.succ ?_)
    simp only [impl_isTree.j0, decide_eq_true_eq]
    by_cases c : (d.length : Int) > 24
    · refine Ev.pos c (Ev.some ?_)
      rw [eq_comm, Bool.eq_false_iff]
      intro h
      have := isT_length h
      omega
    · refine Ev.neg c ?_
      have := key d.length 0 1 (by omega) (by omega) (by omega) (by omega)
      rw [List.drop_zero] at this
      have e : isT d = okT 24 d 1 := by
        unfold isT
        rw [decide_eq_true (by omega : 1 ≤ d.length), decide_eq_true (by omega : d.length ≤ 24)]
        simp
      rw [e]
      exact this
theorem impl_IsTree_ev (d : List Int) (hm : d.length ≤ 9223372036854775807) : Ev (fun k => impl_IsTree.f k d) (isT d) := by
  unfold impl_IsTree.f
  exact Ev.bind (impl_isTree_ev d hm) (Ev.now _)
theorem impl_areTrees_ev (ts : List S26) (hn : ts.length ≤ 9223372036854775807) (hl : ∀ t ∈ ts, t.f0.length ≤ 9223372036854775807) : Ev (fun m => impl_areTrees.f m ts) (ts.all fun t => isT t.f0) := by
  have key : ∀ (xs : List S26) (i : Nat), ts.drop i = xs → i + xs.length = ts.length → Ev (fun m => impl_areTrees.l0 m ts ts.length i) (xs.all fun t => isT t.f0) := by
    intro xs
    induction xs with
    | nil =>
      intro i h hi
      simp only [List.length_nil] at hi
      apply Ev.succ
      simp (disch := omega) only [impl_areTrees.l0, if_neg]
      exact Ev.some (by simp)
    | cons x xs ih =>
      intro i h hi
      simp only [List.length_cons] at hi
      have hd := (drop_cons h).2.2
      have hx : x ∈ ts := List.mem_of_mem_drop (by rw [h]; simp)
      have hr : rd_T26 ts (i : Int) = x := by
        unfold rd_T26
        rw [Int.toNat_natCast, List.getD_eq_getElem?_getD, (drop_cons h).2.1]
        rfl
      apply Ev.succ
      simp (disch := omega) only [impl_areTrees.l0, if_pos, hr, w64]
      refine Ev.bind (impl_IsTree_ev x.f0 (hl x hx)) ?_
      cases ht : isT x.f0 with
      | false => exact Ev.neg (by simp) (Ev.some (by simp [ht]))
      | true =>
        refine Ev.pos rfl ?_
        have := ih (i + 1) hd (by omega)
        simpa [ht] using this
  unfold impl_areTrees.f
  exact key ts 0 rfl (by omega)
theorem cmp_isNaN_int64_eq (a : Int) : cmp_isNaN_int64.f a = some false := by
  unfold cmp_isNaN_int64.f
  simp
theorem cmp_Compare_int64_eq (a b : Int) : cmp_Compare_int64.f a b = some (if a = b then 0 else if a < b then -1 else 1) := by
  unfold cmp_Compare_int64.f
  simp only [cmp_isNaN_int64_eq, Option.bind_some]
  rw [if_neg (by simp), if_neg (by simp)]
  by_cases c : a < b
  · rw [if_pos c, if_neg (by omega), if_pos c]
  · rw [if_neg c]
    by_cases c' : a > b
    · rw [if_pos c', if_neg (by omega), if_neg c]
    · rw [if_neg c', if_pos (by omega)]
theorem slices_Compare_int64_int64_ev (d e : List Int) (hl : d.length = e.length) (hd : d.length ≤ 9223372036854775807) : Ev (fun m => slices_Compare_int64_int64.f m d e) (lexV d e) := by
  have key : ∀ (xs ys : List Int) (i : Nat), d.drop i = xs → e.drop i = ys → i + xs.length = d.length → i + ys.length = e.length → Ev (fun m => slices_Compare_int64_int64.l0 m d e d d.length i) (lexV xs ys) := by
    intro xs
    induction xs with
    | nil =>
      intro ys i h1 h2 hi hj
      simp only [List.length_nil] at hi
      apply Ev.succ
      simp (disch := omega) only [slices_Compare_int64_int64.l0, if_neg]
      exact Ev.some (by cases ys <;> rfl)
    | cons x xs ih =>
      intro ys i h1 h2 hi hj
      cases ys with
      | nil => simp only [List.length_cons, List.length_nil] at hi hj; omega
      | cons y ys =>
        simp only [List.length_cons] at hi hj
        have r1 := rd_drop h1
        have r2 := rd_drop h2
        have d1 := (drop_cons h1).2.2
        have d2 := (drop_cons h2).2.2
        apply Ev.succ
        simp (disch := omega) only [slices_Compare_int64_int64.l0, if_pos, if_neg, r1, r2, w64, lexV, cmp_Compare_int64_eq, Option.bind_some]
        by_cases c : x = y
        · rw [if_pos c, if_pos c]
          exact Ev.pos rfl (ih ys (i + 1) d1 d2 (by omega) (by omega))
        · rw [if_neg c, if_neg c]
          by_cases c' : x < y
          · rw [if_pos c']
            exact Ev.neg (by decide) (Ev.now _)
          · rw [if_neg c']
            exact Ev.neg (by decide) (Ev.now _)
  unfold slices_Compare_int64_int64.f
  exact key d e 0 rfl rfl (by omega) (by omega)
theorem impl_compareTrees_ev (d e : List Int) (hd : d.length ≤ 1000) (he : e.length ≤ 1000) : ∃ x, Ev (fun m => impl_compareTrees.f m d e) x ∧ mx (mn x 1) (-1) = cmpV d e := by
  unfold impl_compareTrees.f cmpV
  by_cases c : (d.length : Int) - e.length = 0
  · refine ⟨lexV d e, ?_, ?_⟩
    · rw [w64 (by omega)]
      exact Ev.pos c (Ev.bind (slices_Compare_int64_int64_ev d e (by omega) (by omega)) (Ev.now _))
    · rw [if_neg (by omega), if_neg (by omega)]
      unfold mx mn
      rcases lexV_cases d e with h | h | h <;> rw [h] <;> decide
  · refine ⟨(d.length : Int) - e.length, ?_, ?_⟩
    · rw [w64 (by omega)]
      exact Ev.neg c (Ev.now _)
    · unfold mx mn
      repeat' split
      all_goals omega
theorem impl_CompareTrees_ev (d e : List Int) (hd : d.length ≤ 9223372036854775807) (he : e.length ≤ 9223372036854775807) : Ev (fun m => impl_CompareTrees.f m d e) (cmpR d e) := by
  have h0 := impl_areTrees_ev [(⟨d⟩ : S26), (⟨e⟩ : S26)] (by simp) (by simp; exact ⟨hd, he⟩)
  unfold impl_CompareTrees.f cmpR
  refine Ev.bind h0 ?_
  by_cases h : isT d = true ∧ isT e = true
  · rw [if_pos h]
    have l1 := isT_length h.1
    have l2 := isT_length h.2
    obtain ⟨x, hx, hm⟩ := impl_compareTrees_ev d e (by omega) (by omega)
    refine Ev.pos (by simp [h.1, h.2]) (Ev.bind hx (Ev.some (by rw [hm])))
  · rw [if_neg h]
    refine Ev.neg (by simpa using h) (Ev.now _)
theorem impl_isCounted_eq (a : Int) : impl_isCounted.f a = some (decide (1 ≤ a ∧ a ≤ 30)) := by
  unfold impl_isCounted.f
  by_cases h : a ≥ 1
  · rw [if_pos h]
    congr 1
    rw [Bool.eq_iff_iff, decide_eq_true_eq, decide_eq_true_eq]
    omega
  · rw [if_neg h]
    congr 1
    rw [eq_comm, decide_eq_false_iff_not]
    omega
theorem impl_CountTrees_eq (n : Int) : impl_CountTrees.f n = some (if 1 ≤ n ∧ n ≤ 30 then (tab n.toNat 1, 0) else (0, 2)) := by
  unfold impl_CountTrees.f
  rw [impl_isCounted_eq, Option.bind_some]
  by_cases c : 1 ≤ n ∧ n ≤ 30
  · rw [if_pos c, if_pos (by simpa using c), if_pos (by omega), if_pos (by omega)]
  · rw [if_neg c, if_neg (by simpa using c)]
/-- bytes -/
def bytesL (c : List Int) : Prop := ∀ x ∈ c, 0 ≤ x ∧ x ≤ 255
theorem rd_mem {xs : List Int} {p : Nat} (h : p < xs.length) : rd xs (p : Int) ∈ xs := by
  rw [rd_of_get (List.getElem?_eq_getElem h)]
  exact List.getElem_mem h
/-- the next state of the hash, and what is drawn of it -/
def nextH (h : Int) : Int := IntKind.u64.wrap ((IntKind.u64.wrap (h * 6364136223846793005)) + 1442695040888963407)
def topH (h : Int) : Int := Go.bits .and .u64 ((nextH h) / 8589934592) 16777215
theorem wrap_u64_lt (n : Int) : 0 ≤ IntKind.u64.wrap n ∧ IntKind.u64.wrap n < 18446744073709551616 := by
  rw [IntKind.wrap_u64]
  omega
theorem topH_eq (h : Int) : topH h = (nextH h / 8589934592) % 16777216 := by
  have hb := wrap_u64_lt ((IntKind.u64.wrap (h * 6364136223846793005)) + 1442695040888963407)
  exact bits_mask .u64 64 (by decide) (fun n h0 h1 => by rw [IntKind.wrap_u64]; omega) 24 (by decide) (nextH h / 8589934592) (by unfold nextH; omega) (by unfold nextH; omega)
theorem next_ex (c : List Int) (p h n : Int) (hc : bytesL c) (hl : c.length ≤ 4096) (hp : 0 ≤ p) (hn : 1 ≤ n) : ∃ v p' h', spec_l01Next.f c p h n = some (v, p', h') ∧ (0 ≤ v ∧ v < n) ∧ 0 ≤ p' := by
  have ht := topH_eq h
  have hw : wrap64 (topH h) = topH h := w64 (by omega)
  unfold spec_l01Next.f
  rw [if_neg (by omega)]
  by_cases c1 : p < (c.length : Int)
  · rw [if_pos c1, if_pos hp, if_neg (by omega)]
    obtain ⟨i, rfl⟩ : ∃ i : Nat, p = i := ⟨p.toNat, by omega⟩
    have hx := hc _ (rd_mem (xs := c) (p := i) (by omega))
    refine ⟨_, _, _, rfl, ?_, ?_⟩
    · change 0 ≤ Int.tmod (wrap64 (wrap64 (topH h) + wrap64 (rd c (i : Int)))) n ∧ Int.tmod (wrap64 (wrap64 (topH h) + wrap64 (rd c (i : Int)))) n < n
      rw [hw, w64 (x := rd c (i : Int)) (by omega), w64 (x := topH h + rd c (i : Int)) (by omega), Int.tmod_eq_emod_of_nonneg (by omega)]
      exact ⟨Int.emod_nonneg _ (by omega), Int.emod_lt_of_pos _ (by omega)⟩
    · rw [w64 (by omega)]
      omega
  · rw [if_neg c1, if_neg (by omega)]
    refine ⟨_, _, _, rfl, ?_, hp⟩
    change 0 ≤ Int.tmod (wrap64 (topH h)) n ∧ Int.tmod (wrap64 (topH h)) n < n
    rw [hw, Int.tmod_eq_emod_of_nonneg (by omega)]
    exact ⟨Int.emod_nonneg _ (by omega), Int.emod_lt_of_pos _ (by omega)⟩
theorem spec_l01Own_eq (l : List Int) (h : l.length ≤ 1000) : spec_l01Own.f l = some l := by
  unfold spec_l01Own.f
  simp only [Option.bind_some]
  rw [if_pos (by simp; omega)]
  rfl
theorem pick_ex (c : List Int) (p h : Int) (l : List Int) (hc : bytesL c) (hl : c.length ≤ 4096) (hp : 0 ≤ p) (h0 : 0 < l.length) : ∃ v p' h', spec_l01Pick.f c p h l = some (v, p', h') ∧ v ∈ l ∧ 0 ≤ p' := by
  obtain ⟨v, p', h', e, hv, hp'⟩ := next_ex c p h (l.length : Int) hc hl hp (by omega)
  obtain ⟨i, rfl⟩ : ∃ i : Nat, v = i := ⟨v.toNat, by omega⟩
  refine ⟨rd l (i : Int), p', h', ?_, rd_mem (by omega), hp'⟩
  unfold spec_l01Pick.f
  rw [e]
  simp only [Option.bind_some]
  rw [if_pos (by omega), if_pos (by omega)]
/-- a tree's degrees, by their sums -/
def okP (d : List Int) : Prop := (∀ x ∈ d, 0 ≤ x ∧ x ≤ d.length) ∧ d.sum = (d.length : Int) - 1 ∧ ∀ j, 0 < j → j < d.length → (j : Int) ≤ (d.take j).sum
theorem sum_set (d : List Int) (q : Nat) (x : Int) (h : q < d.length) : (d.set q x).sum = d.sum - d.getD q 0 + x := by
  induction d generalizing q with
  | nil => simp at h
  | cons y ys ih =>
    cases q with
    | zero => simp [List.set]; omega
    | succ q =>
      simp only [List.set, List.sum_cons, List.getD_cons_succ]
      rw [ih q (by simpa using h)]
      omega
theorem okP_step {d : List Int} {q : Nat} (h : okP d) (hq : q < d.length) : okP (d.set q (rd d (q : Int) + 1) ++ [0]) := by
  obtain ⟨h1, h2, h3⟩ := h
  have hlen : (d.set q (rd d (q : Int) + 1) ++ [0]).length = d.length + 1 := by simp
  have hr := rd_nat d q
  refine ⟨?_, ?_, ?_⟩
  · intro x hx
    rw [hlen]
    rcases List.mem_append.1 hx with hx | hx
    · rcases List.mem_or_eq_of_mem_set hx with hx | rfl
      · have := h1 x hx; omega
      · have := h1 _ (rd_mem hq); omega
    · simp only [List.mem_cons, List.not_mem_nil, or_false] at hx
      omega
  · rw [hlen, List.sum_append, sum_set _ _ _ hq, ← hr]
    simp
    omega
  · intro j hj0 hj
    rw [hlen] at hj
    rw [List.take_append_of_le_length (by simp; omega)]
    by_cases c : j ≤ q
    · rw [List.take_set_of_le c]
      exact h3 j hj0 (by omega)
    · rw [List.take_set, sum_set _ _ _ (by rw [List.length_take]; omega)]
      have e : (d.take j).getD q 0 = rd d (q : Int) := by
        rw [hr, List.getD_eq_getElem?_getD, List.getD_eq_getElem?_getD, List.getElem?_take, if_pos (by omega)]
      rw [e]
      by_cases c2 : j < d.length
      · have := h3 j hj0 c2
        omega
      · rw [List.take_of_length_le (by omega)]
        omega
theorem drawOf_tail {n deep N x9 v p1 h1 p h : Int} {c d w : List Int} {k j q : Nat} (h9 : x9 > 0) (e1 : spec_l01Next.f c p h deep = some (v, p1, h1)) (c0 : ¬ v = 0) (hj : wrap64 (x9 + 1) = (j : Int)) (hw : x9 < (w.length : Int)) (hjw : j ≤ w.length) (hw1 : w.length ≤ 1000) (hd1 : d.length ≤ 1000) (hq : rd w x9 = (q : Int)) (hqd : q < d.length) :
    spec_l01DrawOf.l1 (k + 1) n d w deep N x9 c p h = spec_l01DrawOf.l0 k n (d.set q (wrap64 (rd d (q : Int) + 1)) ++ [0]) (w.take j ++ [N]) deep (wrap64 (N + 1)) c p1 h1 := by
  have hm : (w.take j).length ≤ 1000 := by rw [List.length_take]; omega
  have hs : (d.set q (wrap64 (rd d (q : Int) + 1))).length ≤ 1000 := by rw [List.length_set]; omega
  generalize hD : d.set q (wrap64 (rd d (q : Int) + 1)) = D at hs ⊢
  simp only [spec_l01DrawOf.l1]
  rw [if_pos h9, e1, Option.bind_some]
  simp only [if_neg c0, hq, hj]
  rw [if_pos (by omega), if_pos hw, if_pos (by omega), if_pos (by omega), Option.bind_some, if_pos (by omega), if_pos (by omega), Int.toNat_natCast, Int.toNat_natCast, spec_l01Own_eq _ hm, Option.bind_some, if_pos (by omega), hD, if_pos (by omega)]
theorem drawOf_loop (c : List Int) (n : Nat) (deep : Int) (hc : bytesL c) (hl : c.length ≤ 4096) (hn : n ≤ 900) (hd : 1 ≤ deep) : ∀ (m : Nat) (d w : List Int) (p h : Int), d.length + m = n → okP d → 0 < w.length → w.length ≤ d.length → (∀ x ∈ w, 0 ≤ x ∧ x < d.length) → 0 ≤ p →
    ∃ t p' h', Ev (fun k => spec_l01DrawOf.l0 k (n : Int) d w deep (d.length : Int) c p h) (t, p', h') ∧ okP t ∧ t.length = n ∧ 0 ≤ p' := by
  intro m
  induction m with
  | zero =>
    intro d w p h hm hok _ _ _ hp
    refine ⟨d, p, h, Ev.succ ?_, hok, by omega, hp⟩
    simp only [spec_l01DrawOf.l0]
    exact Ev.neg (by omega) (Ev.now _)
  | succ m ih =>
    intro d w p h hm hok hw0 hwd hw hp
    -- the step, from a place on the way
    have step : ∀ (i : Nat) (p h : Int), i < w.length → 0 ≤ p → ∃ t p' h', Ev (fun k => spec_l01DrawOf.l0 k (n : Int) (d.set (rd w (i : Int)).toNat (wrap64 (rd d (rd w (i : Int)) + 1)) ++ [0]) (w.take (i + 1) ++ [(d.length : Int)]) deep (wrap64 ((d.length : Int) + 1)) c p h) (t, p', h') ∧ okP t ∧ t.length = n ∧ 0 ≤ p' := by
      intro i p h hi hp
      have hm1 := hw _ (rd_mem hi)
      obtain ⟨q, hq⟩ : ∃ q : Nat, rd w (i : Int) = q := ⟨(rd w (i : Int)).toNat, by omega⟩
      rw [hq] at hm1 ⊢
      have hb := hok.1 _ (rd_mem (xs := d) (p := q) (by omega))
      rw [Int.toNat_natCast, w64 (x := rd d (q : Int) + 1) (by omega), w64 (x := (d.length : Int) + 1) (by omega)]
      have hlen : (d.set q (rd d (q : Int) + 1) ++ [0]).length = d.length + 1 := by simp
      have e := ih (d.set q (rd d (q : Int) + 1) ++ [0]) (w.take (i + 1) ++ [(d.length : Int)]) p h (by omega) (okP_step hok (by omega)) (by simp) (by rw [hlen]; simp; omega) (by
        intro x hx
        rw [hlen]
        rcases List.mem_append.1 hx with hx | hx
        · have := hw x (List.mem_of_mem_take hx); omega
        · simp only [List.mem_cons, List.not_mem_nil, or_false] at hx
          omega) hp
      rw [hlen] at e
      exact e
    have inner : ∀ (i : Nat) (p h : Int), i < w.length → 0 ≤ p → ∃ t p' h', Ev (fun k => spec_l01DrawOf.l1 k (n : Int) d w deep (d.length : Int) (i : Int) c p h) (t, p', h') ∧ okP t ∧ t.length = n ∧ 0 ≤ p' := by
      intro i
      induction i with
      | zero =>
        intro p h hi hp
        obtain ⟨t, p', h', e, ht⟩ := step 0 p h hi hp
        have hm1 := hw _ (rd_mem hi)
        refine ⟨t, p', h', Ev.succ ?_, ht⟩
        simp only [spec_l01DrawOf.l1]
        refine Ev.neg (by omega) ?_
        refine Ev.pos (by omega) (Ev.pos (by omega) (Ev.pos (by omega) (Ev.pos (by omega) ?_)))
        simp only [Option.bind_some]
        rw [(w64 (x := ((0 : Nat) : Int) + 1) (by omega)).trans (show ((0 : Nat) : Int) + 1 = 1 by omega)]
        refine Ev.pos (by omega) (Ev.pos (by omega) ?_)
        have eo := spec_l01Own_eq (w.take (0 + 1)) (by rw [List.length_take]; omega)
        rw [show (1 : Int).toNat = 0 + 1 from rfl, eo]
        simp only [Option.bind_some]
        refine Ev.pos (by rw [List.length_take]; omega) (Ev.pos (by rw [List.length_set]; omega) ?_)
        exact e
      | succ i ihi =>
        intro p h hi hp
        have hm1 := hw _ (rd_mem hi)
        obtain ⟨v, p1, h1, e1, hv, hp1⟩ := next_ex c p h deep hc hl hp hd
        by_cases c0 : v = 0
        · obtain ⟨t, p', h', e, ht⟩ := ihi p1 h1 (by omega) hp1
          refine ⟨t, p', h', Ev.succ ?_, ht⟩
          simp only [spec_l01DrawOf.l1]
          refine Ev.pos (by omega) (Ev.bind (Ev.const e1) (Ev.pos c0 ?_))
          have ew : wrap64 (((i + 1 : Nat) : Int) - 1) = (i : Int) := by
            rw [w64 (by omega)]
            omega
          rw [ew]
          exact e
        · obtain ⟨t, p', h', e, ht⟩ := step (i + 1) p1 h1 hi hp1
          obtain ⟨q, hq⟩ : ∃ q : Nat, rd w ((i + 1 : Nat) : Int) = q := ⟨(rd w ((i + 1 : Nat) : Int)).toNat, by have := hw _ (rd_mem hi); omega⟩
          have hm2 := hw _ (rd_mem hi)
          rw [hq, Int.toNat_natCast] at e
          rw [hq] at hm2
          refine ⟨t, p', h', Ev.succ (Ev.congr (fun k => ?_) e), ht⟩
          have g1 : ((i + 1 : Nat) : Int) > 0 := by clear e hq; omega
          have g2 : ((i + 1 : Nat) : Int) < (w.length : Int) := by clear e hq; omega
          have g3 : i + 1 + 1 ≤ w.length := hi
          have g4 : w.length ≤ 1000 := by clear e hq; omega
          have g5 : d.length ≤ 1000 := by clear e hq; omega
          have g6 : q < d.length := by clear e hq; omega
          have g7 : ((i + 1 : Nat) : Int) + 1 = ((i + 1 + 1 : Nat) : Int) := by clear e hq; omega
          have g8 : -9223372036854775808 ≤ ((i + 1 : Nat) : Int) + 1 ∧ ((i + 1 : Nat) : Int) + 1 ≤ 9223372036854775807 := by clear e hq; omega
          exact drawOf_tail g1 e1 c0 ((w64 g8).trans g7) g2 g3 g4 g5 hq g6
    obtain ⟨t, p', h', e, ht⟩ := inner (w.length - 1) p h (by omega) hp
    refine ⟨t, p', h', Ev.succ ?_, ht⟩
    simp only [spec_l01DrawOf.l0]
    refine Ev.pos (by omega) ?_
    rw [w64 (x := (w.length : Int) - 1) (by omega), show (w.length : Int) - 1 = ((w.length - 1 : Nat) : Int) by omega]
    exact e
theorem drawOf_ex (c : List Int) (p h n : Int) (hc : bytesL c) (hl : c.length ≤ 4096) (hp : 0 ≤ p) (hn : 1 ≤ n ∧ n ≤ 900) : ∃ t p' h', Ev (fun k => spec_l01DrawOf.f k c p h n) (t, p', h') ∧ okP t ∧ t.length = n.toNat ∧ 0 ≤ p' := by
  obtain ⟨v, p1, h1, e1, hv, hp1⟩ := pick_ex c p h [1, 2, 4, 30] hc hl hp (by simp)
  obtain ⟨m, rfl⟩ : ∃ m : Nat, n = m := ⟨n.toNat, by omega⟩
  simp only [List.mem_cons, List.not_mem_nil, or_false] at hv
  obtain ⟨t, p', h', e, ht⟩ := drawOf_loop c m v hc hl (by omega) (by omega) (m - 1) [0] [0] p1 h1 (by simp; omega) ⟨by simp, by simp, by intro j hj hj2; simp at hj2; omega⟩ (by simp) (by simp) (by simp) hp1
  refine ⟨t, p', h', ?_, ht⟩
  simp only [spec_l01DrawOf.f, e1, Option.bind_some]
  exact e
theorem small_ex (c : List Int) (p h : Int) (hc : bytesL c) (hl : c.length ≤ 4096) (hp : 0 ≤ p) : ∃ t p' h', Ev (fun k => spec_l01Small.f k c p h) (t, p', h') ∧ okP t ∧ (1 ≤ t.length ∧ t.length ≤ 6) ∧ 0 ≤ p' := by
  obtain ⟨v, p1, h1, e1, hv, hp1⟩ := next_ex c p h 6 hc hl hp (by omega)
  obtain ⟨t, p', h', e, ho, ht, hp'⟩ := drawOf_ex c p1 h1 (1 + v) hc hl hp1 (by omega)
  refine ⟨t, p', h', ?_, ho, by omega, hp'⟩
  simp only [spec_l01Small.f, e1, Option.bind_some, w64 (x := 1 + v) (by omega)]
  exact Ev.bind e (Ev.now _)
/-- the degrees of trees behind others, if they are at most 24 -/
def jn : List S26 → List Int → Option (List Int)
  | [], d => some d
  | x :: xs, d => if (d ++ x.f0).length > 24 then none else jn xs (d ++ x.f0)
theorem jn_length : ∀ (xs : List S26) (d e : List Int), d.length ≤ 24 → jn xs d = some e → e.length ≤ 24 := by
  intro xs
  induction xs with
  | nil => intro d e h h1; simp only [jn, Option.some.injEq] at h1; subst h1; exact h
  | cons x xs ih =>
    intro d e h h1
    simp only [jn] at h1
    by_cases c : (d ++ x.f0).length > 24
    · rw [if_pos c] at h1; cases h1
    · rw [if_neg c] at h1
      exact ih _ _ (by omega) h1
/-- the answer: the joined tree, and its code -/
def joinR (ts : List S26) : List Int × Int :=
  if (ts.all fun t => isT t.f0) = true then (match jn ts [(ts.length : Int)] with | some d => (d, 0) | none => ([], 3)) else ([], 1)
theorem joinR_length (ts : List S26) : (joinR ts).1.length ≤ 24 := by
  unfold joinR
  by_cases c : (ts.all fun t => isT t.f0) = true
  · rw [if_pos c]
    cases h : jn ts [(ts.length : Int)] with
    | none => simp
    | some d => exact jn_length ts _ d (by simp) h
  · rw [if_neg c]; simp
theorem spec_l01Join_ev (ts : List S26) (hn : ts.length ≤ 1048576) (hx : ∀ x ∈ ts, x.f0.length ≤ 1048576) : Ev (fun k => spec_l01Join.f k ts) (match jn ts [(ts.length : Int)] with | some d => (d, true) | none => ([], false)) := by
  have key : ∀ (xs : List S26) (i : Nat) (d : List Int), ts.drop i = xs → i + xs.length = ts.length → d.length ≤ 24 → Ev (fun k => spec_l01Join.l0 k ts d (i : Int)) (match jn xs d with | some d => (d, true) | none => ([], false)) := by
    intro xs
    induction xs with
    | nil =>
      intro i d h hi hd
      simp only [List.length_nil] at hi
      apply Ev.succ
      simp only [spec_l01Join.l0, jn]
      exact Ev.neg (by omega) (Ev.now _)
    | cons x xs ih =>
      intro i d h hi hd
      simp only [List.length_cons] at hi
      have hmem : x ∈ ts := List.mem_of_mem_drop (by rw [h]; simp)
      have hxl := hx x hmem
      have hr : rd_T26 ts (i : Int) = x := by
        unfold rd_T26
        rw [Int.toNat_natCast, List.getD_eq_getElem?_getD, (drop_cons h).2.1]
        rfl
      apply Ev.succ
      simp only [spec_l01Join.l0, hr, jn, Option.bind_some]
      refine Ev.pos (by omega) (Ev.pos (by omega) (Ev.pos (by omega) ?_))
      by_cases c : (d ++ x.f0).length > 24
      · rw [if_pos c]
        exact Ev.pos (by omega) (Ev.now _)
      · rw [if_neg c, w64 (x := (i : Int) + 1) (by omega), show (i : Int) + 1 = ((i + 1 : Nat) : Int) by omega]
        exact Ev.neg (by omega) (ih (i + 1) _ (drop_cons h).2.2 (by omega) (by omega))
  unfold spec_l01Join.f
  exact key ts 0 _ rfl (by omega) (by simp)
/-- a tree's beginning: m trees are still to come behind it -/
def forP (d : List Int) (m : Nat) : Prop := 0 < d.length ∧ (∀ x ∈ d, 0 ≤ x ∧ x ≤ d.length + m) ∧ d.sum = (d.length : Int) - 1 + m ∧ ∀ j, 0 < j → j < d.length → (j : Int) ≤ (d.take j).sum
theorem forP_app {d u : List Int} {m : Nat} (h : forP d (m + 1)) (hu : okP u) : forP (d ++ u) m := by
  obtain ⟨h0, h1, h2, h3⟩ := h
  obtain ⟨u1, u2, u3⟩ := hu
  have hul : 0 < u.length := by
    cases u with
    | nil => simp at u2
    | cons x xs => simp
  refine ⟨by simp; omega, ?_, ?_, ?_⟩
  · intro x hx
    rw [List.length_append]
    rcases List.mem_append.1 hx with hx | hx
    · have := h1 x hx; omega
    · have := u1 x hx; omega
  · rw [List.sum_append, List.length_append, h2, u2]
    omega
  · intro j hj0 hj
    rw [List.length_append] at hj
    by_cases c : j ≤ d.length
    · rw [List.take_append_of_le_length c]
      by_cases c2 : j < d.length
      · exact h3 j hj0 c2
      · rw [List.take_of_length_le (by omega)]
        omega
    · rw [List.take_append, List.take_of_length_le (by omega), List.sum_append, h2]
      have := u3 (j - d.length) (by omega) (by omega)
      omega
theorem rep_join {u : List Int} (hu : okP u) (h5 : u.length ≤ 5) : ∀ (m : Nat) (d : List Int), forP d m → d.length + m * 5 ≤ 24 → ∃ e, jn (List.replicate m (⟨u⟩ : S26)) d = some e ∧ okP e ∧ 1 ≤ e.length ∧ e.length ≤ 24 := by
  intro m
  induction m with
  | zero =>
    intro d hd hl
    obtain ⟨h0, h1, h2, h3⟩ := hd
    exact ⟨d, rfl, ⟨fun x hx => by have := h1 x hx; omega, by omega, h3⟩, by omega, by omega⟩
  | succ m ih =>
    intro d hd hl
    simp only [List.replicate_succ, jn]
    rw [if_neg (by rw [List.length_append]; omega)]
    exact ih _ (forP_app hd hu) (by rw [List.length_append]; omega)
theorem last_ex (c : List Int) (p h : Int) (hc : bytesL c) (hl : c.length ≤ 4096) (hp : 0 ≤ p) : ∃ t p' h', Ev (fun k => spec_l01Draw.last k c p h) (t, p', h') ∧ okP t ∧ (1 ≤ t.length ∧ t.length ≤ 24) ∧ 0 ≤ p' := by
  obtain ⟨v, p1, h1, e1, hv, hp1⟩ := pick_ex c p h [8, 12, 24] hc hl hp (by simp)
  simp only [List.mem_cons, List.not_mem_nil, or_false] at hv
  obtain ⟨q, p2, h2, e2, hq, hp2⟩ := next_ex c p1 h1 v hc hl hp1 (by omega)
  obtain ⟨t, p3, h3, e3, ho, ht, hp3⟩ := drawOf_ex c p2 h2 (1 + q) hc hl hp2 (by omega)
  refine ⟨t, p3, h3, ?_, ho, by omega, hp3⟩
  simp only [spec_l01Draw.last, e1, e2, Option.bind_some, w64 (x := 1 + q) (by omega)]
  exact e3
theorem draw_ex (c : List Int) (p h : Int) (hc : bytesL c) (hl : c.length ≤ 4096) (hp : 0 ≤ p) : ∃ t p' h', Ev (fun k => spec_l01Draw.f k c p h) (t, p', h') ∧ okP t ∧ (1 ≤ t.length ∧ t.length ≤ 24) ∧ 0 ≤ p' := by
  obtain ⟨v, p1, h1, e1, hv, hp1⟩ := next_ex c p h 5 hc hl hp (by omega)
  by_cases c0 : v = 0
  · obtain ⟨t, p', h', e, ho, ht, hp'⟩ := small_ex c p1 h1 hc hl hp1
    refine ⟨t, p', h', ?_, ho, by omega, hp'⟩
    simp only [spec_l01Draw.f, e1, Option.bind_some]
    exact Ev.pos c0 e
  · by_cases c1 : v = 1
    · obtain ⟨b, p2, h2, e2, hb, hp2⟩ := next_ex c p1 h1 5 hc hl hp1 (by omega)
      obtain ⟨u, p3, h3, e3, hu, hul, hp3⟩ := drawOf_ex c p2 h2 (1 + b) hc hl hp2 (by omega)
      obtain ⟨n, p4, h4, e4, hn, hp4⟩ := next_ex c p3 h3 5 hc hl hp3 (by omega)
      obtain ⟨m, rfl⟩ : ∃ m : Nat, n = m := ⟨n.toNat, by omega⟩
      obtain ⟨e, je, ho, he⟩ := rep_join (u := u) hu (by omega) m [(m : Int)] ⟨by simp, by intro x hx; simp only [List.mem_cons, List.not_mem_nil, or_false] at hx; subst hx; simp only [List.length_cons, List.length_nil]; omega, by simp, by intro j hj hj2; simp at hj2; omega⟩ (by simp; omega)
      have ej := spec_l01Join_ev (List.replicate m (⟨u⟩ : S26)) (by simp; omega) (by intro x hx; rw [List.eq_of_mem_replicate hx]; show u.length ≤ 1048576; omega)
      rw [List.length_replicate, je] at ej
      refine ⟨e, p4, h4, ?_, ho, he, hp4⟩
      simp only [spec_l01Draw.f, e1, e2, Option.bind_some, w64 (x := 1 + b) (by omega)]
      refine Ev.neg c0 (Ev.pos c1 (Ev.bind e3 ?_))
      simp only [e4, Option.bind_some, spec_l01Draw.list, Int.toNat_natCast]
      exact Ev.pos (by omega) (Ev.pos (by omega) (Ev.bind ej (Ev.pos rfl (Ev.now _))))
    · obtain ⟨t, p', h', e, ho, ht, hp'⟩ := last_ex c p1 h1 hc hl hp1
      refine ⟨t, p', h', ?_, ho, ht, hp'⟩
      simp only [spec_l01Draw.f, e1, Option.bind_some]
      exact Ev.neg c0 (Ev.neg c1 e)
theorem spec_l01N_eq (d : List Int) : spec_l01N.f d = some (d.length : Int) := rfl
theorem spec_l01Make_eq (l : List Int) (h : l.length ≤ 1000) : spec_l01Make.f l = some l := by
  unfold spec_l01Make.f
  rw [spec_l01Own_eq l h]
  rfl
theorem spec_l01Copy_eq (l : List Int) (h : l.length ≤ 1000) : spec_l01Copy.f l = some l := by
  unfold spec_l01Copy.f
  rw [spec_l01Make_eq l h]
  rfl
theorem bad_ex (c : List Int) (p h : Int) (t : List Int) (hc : bytesL c) (hl : c.length ≤ 4096) (hp : 0 ≤ p) (ht : 1 ≤ t.length ∧ t.length ≤ 900) : ∃ t' p' h', spec_l01Bad.f c p h t = some (t', p', h') ∧ t'.length ≤ t.length + 1 ∧ 0 ≤ p' := by
  obtain ⟨v, p1, h1, e1, hv, hp1⟩ := next_ex c p h 50 hc hl hp (by omega)
  unfold spec_l01Bad.f
  rw [spec_l01Copy_eq t (by omega)]
  simp only [Option.bind_some, e1]
  by_cases c0 : v = 0
  · rw [if_pos c0]
    exact ⟨_, _, _, rfl, by simp, hp1⟩
  · rw [if_neg c0]
    by_cases c1 : v = 1
    · rw [if_pos c1, spec_l01N_eq]
      obtain ⟨i, p2, h2, e2, hi, hp2⟩ := next_ex c p1 h1 (t.length : Int) hc hl hp1 (by omega)
      obtain ⟨x, p3, h3, e3, _, hp3⟩ := pick_ex c p2 h2 [(-1), 0, 1, 2, 25] hc hl hp2 (by simp)
      simp only [Option.bind_some, e2, e3]
      rw [if_pos (by omega), if_pos (by omega)]
      exact ⟨_, _, _, rfl, by simp, hp3⟩
    · rw [if_neg c1]
      by_cases c2 : v = 2
      · rw [if_pos c2, if_pos (by omega)]
        exact ⟨_, _, _, rfl, by simp, hp1⟩
      · rw [if_neg c2]
        exact ⟨_, _, _, rfl, by omega, hp1⟩
theorem spoil_ex (c : List Int) (p h : Int) (hc : bytesL c) (hl : c.length ≤ 4096) (hp : 0 ≤ p) : ∃ t p' h', Ev (fun k => spec_l01Spoil.f k c p h) (t, p', h') ∧ t.length ≤ 25 ∧ 0 ≤ p' := by
  obtain ⟨t, p1, h1, e1, _, ht, hp1⟩ := draw_ex c p h hc hl hp
  obtain ⟨t', p', h', e2, ht', hp'⟩ := bad_ex c p1 h1 t hc hl hp1 (by omega)
  refine ⟨t', p', h', ?_, by omega, hp'⟩
  unfold spec_l01Spoil.f
  refine Ev.bind e1 ?_
  simp only [e2, Option.bind_some]
  exact Ev.now _
theorem from_ev (l : List Int) (hl : l.length ≤ 4096) : ∃ h, Ev (fun k => spec_l01From.f k l) (l, 0, h) := by
  have key : ∀ (m i : Nat) (h : Int), i + m = l.length → ∃ h', Ev (fun k => spec_l01From.l0 k l (i : Int) l 0 h) (l, 0, h') := by
    intro m
    induction m with
    | zero =>
      intro i h hi
      refine ⟨h, Ev.succ ?_⟩
      simp only [spec_l01From.l0]
      exact Ev.neg (by omega) (Ev.now _)
    | succ m ih =>
      intro i h hi
      obtain ⟨h', e⟩ := ih (i + 1) (IntKind.u64.wrap ((IntKind.u64.wrap ((IntKind.u64.wrap (h * 1099511628211)) + (IntKind.u64.wrap (rd l (i : Int))))) + 233)) (by omega)
      refine ⟨h', Ev.succ ?_⟩
      simp only [spec_l01From.l0]
      refine Ev.pos (by omega) (Ev.pos (by omega) (Ev.pos (by omega) ?_))
      rw [w64 (x := (i : Int) + 1) (by omega), show (i : Int) + 1 = ((i + 1 : Nat) : Int) by omega]
      exact e
  unfold spec_l01From.f
  exact key l.length 0 _ (by omega)
theorem DrawRankOfTree_ex (c : List Int) (hc : bytesL c) (hl : c.length ≤ 4096) : ∃ t, Ev (fun k => spec_DrawRankOfTree.f k c) t ∧ t.length ≤ 25 := by
  obtain ⟨h, e0⟩ := from_ev c hl
  obtain ⟨t, p1, h1, e1, ht, _⟩ := spoil_ex c 0 h hc hl (by omega)
  refine ⟨t, ?_, ht⟩
  unfold spec_DrawRankOfTree.f
  exact Ev.bind e0 (Ev.bind e1 (Ev.now _))

/-- the table, as rows -/
def tabR (n a : Nat) : List Int := (List.range (n + 2)).map fun b => tab a b
def tabL (n : Nat) : List (List Int) := (List.range (n + 1)).map fun a => tabR n a
theorem spec_l02Table_all : ((List.range 25).all fun n => decide (spec_l02Table.f 800 (n : Int) = some (tabL n))) = true := by decide +kernel
theorem spec_l02Table_ev (n : Nat) (h : n ≤ 24) : Ev (fun k => spec_l02Table.f k (n : Int)) (tabL n) :=
  Ev.of (spec_l02Table.mono n) (of_decide_eq_true (List.all_eq_true.1 spec_l02Table_all n (List.mem_range.2 (by omega))))
theorem tabL_length (n : Nat) : (tabL n).length = n + 1 := by simp [tabL]
theorem tabR_length (n a : Nat) : (tabR n a).length = n + 2 := by simp [tabR]
theorem tabL_at (n a : Nat) (h : a ≤ n) : rd_L2 (tabL n) (a : Int) = tabR n a := by
  unfold rd_L2
  rw [Int.toNat_natCast, List.getD_eq_getElem?_getD, tabL, List.getElem?_map, List.getElem?_range (by omega)]
  rfl
theorem tabR_at (n a b : Nat) (h : b < n + 2) : rd (tabR n a) (b : Int) = tab a b := by
  rw [rd_nat, List.getD_eq_getElem?_getD, tabR, List.getElem?_map, List.getElem?_range (by omega)]
  rfl
/-! ### The table's sums -/
/-- entries of a row, from a place on, added up -/
def us (a b : Nat) : Nat → Int
  | 0 => 0
  | c + 1 => tab a b + us a (b + 1) c
theorem tab_ok_all : ((List.range 31).all fun a => (List.range 32).all fun b => decide (0 ≤ tab a b ∧ tab a b ≤ 2305843009213693951)) = true := by decide +kernel
theorem tab_sum_all : ((List.range 30).all fun a => (List.range 31).all fun b => decide (tab (a + 1) (b + 1) = us a b (a + 1 - b))) = true := by decide +kernel
theorem tab_ok (a b : Nat) (ha : a ≤ 30) (hb : b ≤ 31) : 0 ≤ tab a b ∧ tab a b ≤ 2305843009213693951 :=
  of_decide_eq_true (all_range (all_range tab_ok_all (i := a) (by omega)) (i := b) (by omega))
theorem tab_sum (a b : Nat) (ha : a < 30) (hb : b < 31) : tab (a + 1) (b + 1) = us a b (a + 1 - b) :=
  of_decide_eq_true (all_range (all_range tab_sum_all (i := a) (by omega)) (i := b) (by omega))
theorem us_nonneg (a : Nat) (ha : a ≤ 30) : ∀ (c b : Nat), b + c ≤ 32 → 0 ≤ us a b c := by
  intro c
  induction c with
  | zero => intro b _; simp [us]
  | succ c ih =>
    intro b h
    have h1 := tab_ok a b ha (by omega)
    have h2 := ih (b + 1) (by omega)
    simp only [us]
    omega
theorem us_add (a : Nat) : ∀ (c b e : Nat), us a b (c + e) = us a b c + us a (b + c) e := by
  intro c
  induction c with
  | zero => intro b e; simp [us]
  | succ c ih =>
    intro b e
    rw [show c + 1 + e = (c + e) + 1 by omega]
    simp only [us]
    rw [ih (b + 1) e, show b + 1 + c = b + (c + 1) by omega]
    omega
/-! ### Ranks -/
/-- the rank of a list of trees among those with as many trees and nodes -/
def rkL : List Int → Nat → Int
  | [], _ => 0
  | x :: xs, need => us xs.length (need - 1) x.toNat + rkL xs (need - 1 + x.toNat)
theorem rk_l1 (n : Nat) (hn : n ≤ 24) (l : List Int) (hl : l.length = n) (left v b x : Nat) (hv : v + left + 1 = n) (hx : rd l (v : Int) = (x : Int)) (hb : b + x ≤ left) {R : Int} :
    ∀ (c d : Nat) (r : Int), d + c = x → 0 ≤ r → r + us left (b + d) c ≤ 4611686018427387904 →
      Ev (fun k => spec_l02Rank.l0 k n (tabL n) (r + us left (b + d) c) ((b + x : Nat) : Int) ((v + 1 : Nat) : Int) l) R → Ev (fun k => spec_l02Rank.l1 k n (tabL n) r ((b + 1 : Nat) : Int) v d l) R := by
  intro c
  induction c with
  | zero =>
    intro d r hd h0 hm h
    apply Ev.succ
    simp only [spec_l02Rank.l1, hx]
    refine Ev.pos (by omega) (Ev.pos (by omega) (Ev.neg (by omega) ?_))
    simp only [us, Int.add_zero] at h
    rw [w64 (x := ((b + 1 : Nat) : Int) - 1) (by omega), w64 (x := ((b + 1 : Nat) : Int) - 1 + (x : Int)) (by omega), w64 (x := (v : Int) + 1) (by omega), show ((b + 1 : Nat) : Int) - 1 + (x : Int) = ((b + x : Nat) : Int) by omega]
    exact h
  | succ c ih =>
    intro d r hd h0 hm h
    have ht := tab_ok left (b + d) (by omega) (by omega)
    have hn0 := us_nonneg left (by omega) c (b + d + 1) (by omega)
    have hL := tabL_length n
    have hR := tabR_length n left
    simp only [us] at hm h
    have h2 := ih (d + 1) (r + tab left (b + d)) (by omega) (by omega) (by rw [show b + (d + 1) = b + d + 1 by omega]; omega) (by rw [show b + (d + 1) = b + d + 1 by omega, Int.add_assoc]; exact h)
    apply Ev.succ
    simp only [spec_l02Rank.l1, hx]
    rw [w64 (x := (n : Int) - (v : Int)) (by omega), w64 (x := (n : Int) - (v : Int) - 1) (by omega), show (n : Int) - (v : Int) - 1 = (left : Int) by omega, w64 (x := ((b + 1 : Nat) : Int) - 1) (by omega),
      w64 (x := ((b + 1 : Nat) : Int) - 1 + (d : Int)) (by omega), show ((b + 1 : Nat) : Int) - 1 + (d : Int) = ((b + d : Nat) : Int) by omega, tabL_at n left (by omega), tabR_at n left _ (by omega), w64 (x := (d : Int) + 1) (by omega), w64 (x := r + tab left (b + d)) (by omega)]
    refine Ev.pos (by omega) (Ev.pos (by omega) (Ev.pos (by omega) (Ev.pos (by omega) (Ev.pos (by omega) (Ev.pos (by omega) (Ev.pos (by omega) ?_))))))
    exact h2
theorem rk_I (left b : Nat) (ha : left ≤ 30) : ∀ (c d : Nat) (r : Int), b + d + c ≤ 32 → 0 ≤ r → r + us left (b + d) c ≤ 4611686018427387904 → rkI left b c d r = some (r + us left (b + d) c) := by
  intro c
  induction c with
  | zero => intro d r _ _ _; simp [rkI, us]
  | succ c ih =>
    intro d r hd h0 hm
    have ht := tab_ok left (b + d) (by omega) (by omega)
    have hn0 := us_nonneg left (by omega) c (b + d + 1) (by omega)
    simp only [us] at hm
    simp only [rkI, us]
    rw [if_pos (by omega), w64 (by omega), ih (d + 1) _ (by omega) (by omega) (by rw [show b + (d + 1) = b + d + 1 by omega]; omega), show b + (d + 1) = b + d + 1 by omega, Int.add_assoc]
theorem rk_part (m b x : Nat) (h : b + x ≤ m) (hm : m < 30) : us m b x + tab m (b + x) ≤ tab (m + 1) (b + 1) ∧ 0 ≤ us m b x := by
  have h1 := us_add m x b (m + 1 - b - x)
  rw [show x + (m + 1 - b - x) = m + 1 - b by omega] at h1
  rw [tab_sum m b hm (by omega), h1, show m + 1 - b - x = (m - b - x) + 1 by omega]
  simp only [us]
  have h2 := us_nonneg m (by omega) (m - b - x) (b + x + 1) (by omega)
  have h3 := us_nonneg m (by omega) x b (by omega)
  omega
theorem rk_both (n : Nat) (hn : n ≤ 24) (l : List Int) (hl : l.length = n) : ∀ (m : Nat) (f : F), sz f = m → ∀ (v : Nat) (r : Int), v + m = n → l.drop v = degs f → 0 ≤ r → r + tab m (len f) ≤ 4611686018427387904 →
    0 ≤ rkL (degs f) (len f) ∧ rkL (degs f) (len f) < tab m (len f) ∧ rkO (degs f) (len f) r = some (r + rkL (degs f) (len f)) ∧ Ev (fun k => spec_l02Rank.l0 k n (tabL n) r (len f) v l) (r + rkL (degs f) (len f)) := by
  intro m
  induction m with
  | zero =>
    intro f hf v r hv hd h0 hm
    cases f with
    | nil =>
      refine ⟨by simp [degs, rkL], ?_, by simp [degs, rkL, rkO], ?_⟩
      · simp only [degs, rkL, len]
        rw [tab_zero 0 (by omega)]
        simp
      · apply Ev.succ
        simp only [spec_l02Rank.l0]
        exact Ev.neg (by omega) (Ev.some (by simp [degs, rkL]))
    | cons k r0 => simp only [sz] at hf; omega
  | succ m ih =>
    intro f hf v r hv hd h0 hm
    cases f with
    | nil => simp [sz] at hf
    | cons k r0 =>
      simp only [sz] at hf
      have hk := len_le_sz k
      have hr := len_le_sz r0
      have hlen : (degs (app k r0)).length = m := by rw [degs_length, sz_app]; omega
      simp only [degs, len] at hd hm ⊢
      rw [← degs_app] at hd ⊢
      have hdr := drop_cons hd
      have hx := rd_drop hd
      obtain ⟨p1, p2⟩ := rk_part m (len r0) (len k) (by omega) (by omega)
      rw [show 1 + len r0 = len r0 + 1 by omega] at hm ⊢
      obtain ⟨i1, i2, i3, i4⟩ := ih (app k r0) (by rw [sz_app]; omega) (v + 1) (r + us m (len r0) (len k)) (by omega) hdr.2.2 (by omega) (by rw [len_app, Nat.add_comm (len k)]; omega)
      rw [len_app, Nat.add_comm (len k)] at i1 i2 i3 i4
      have e : rkL ((len k : Int) :: degs (app k r0)) (len r0 + 1) = us m (len r0) (len k) + rkL (degs (app k r0)) (len r0 + len k) := by
        simp only [rkL, hlen, Int.toNat_natCast, Nat.add_sub_cancel]
      rw [e]
      refine ⟨by omega, by omega, ?_, ?_⟩
      · simp only [rkO]
        have e2 := rk_I m (len r0) (by omega) (len k) 0 r (by omega) h0 (by have := tab_ok m (len r0 + len k) (by omega) (by omega); rw [Nat.add_zero]; omega)
        rw [Nat.add_zero] at e2
        rw [if_neg (by omega), if_neg (by omega), hlen, Int.toNat_natCast, Nat.add_sub_cancel, e2, Option.bind_some, if_pos (by omega), i3, Int.add_assoc]
      · apply Ev.succ
        simp only [spec_l02Rank.l0]
        refine Ev.pos (by omega) ?_
        have := rk_l1 n hn l hl m v (len r0) (len k) (by omega) hx (by omega) (R := r + (us m (len r0) (len k) + rkL (degs (app k r0)) (len r0 + len k))) (len k) 0 r (by omega) h0 (by have := tab_ok m (len r0 + len k) (by omega) (by omega); rw [Nat.add_zero]; omega)
        rw [Nat.add_zero] at this
        refine this ?_
        rw [← Int.add_assoc]
        exact i4
/-- the rank of a tree -/
def rkV (k : F) : Int := rkL (tr k) 1
theorem rank_ex (k : F) (hk : sz k ≤ 23) : impl_rankOfTree.f (tr k) = some (rkV k) ∧ Ev (fun m => spec_l02Rank.f m (tr k)) (rkV k) ∧ 0 ≤ rkV k ∧ rkV k < tab (sz k + 1) 1 := by
  have hl : (tr k).length = sz k + 1 := by unfold tr; rw [degs_length]; simp only [sz]; omega
  have ht := tab_ok (sz k + 1) 1 (by omega) (by omega)
  obtain ⟨h1, h2, h3, h4⟩ := rk_both (sz k + 1) (by omega) (tr k) hl (sz k + 1) (cons k nil) (by simp only [sz]; omega) 0 0 (by omega) (by simp [tr]) (by omega) (by simp only [len, Nat.add_zero]; omega)
  simp only [len, Nat.add_zero, Int.zero_add] at h1 h2 h3 h4
  refine ⟨?_, ?_, h1, h2⟩
  · unfold impl_rankOfTree.f
    rw [if_pos (by omega)]
    exact h3
  · unfold spec_l02Rank.f
    rw [spec_l01N_eq]
    simp only [Option.bind_some, hl]
    exact Ev.bind (spec_l02Table_ev (sz k + 1) (by omega)) h4
theorem impl_RankOfTree_ev (d : List Int) (hd : d.length ≤ 9223372036854775807) {R} (h : treeR rkV 0 d R) : Ev (fun m => impl_RankOfTree.f m d) R := by
  rcases h with ⟨h, rfl⟩ | ⟨k, rfl, hk, h, rfl⟩
  · have e := impl_IsTree_ev d hd
    rw [h] at e
    unfold impl_RankOfTree.f
    exact Ev.bind e (Ev.neg (by simp) (Ev.now _))
  · have e := impl_IsTree_ev (tr k) hd
    rw [h] at e
    unfold impl_RankOfTree.f
    refine Ev.bind e (Ev.pos rfl ?_)
    exact Ev.bind (Ev.const (rank_ex k hk).1) (Ev.now _)
theorem spec_l01In_eq (a b c : Int) : spec_l01In.f a b c = some (decide (b ≤ a ∧ a ≤ c)) := by
  unfold spec_l01In.f
  by_cases h : a ≥ b
  · rw [if_pos h]
    congr 1
    rw [Bool.eq_iff_iff, decide_eq_true_eq, decide_eq_true_eq]
    omega
  · rw [if_neg h]
    congr 1
    rw [eq_comm, decide_eq_false_iff_not]
    omega
theorem spec_l01Is_ev (d : List Int) (hm : d.length ≤ 9223372036854775807) : Ev (fun k => spec_l01Is.f k d) (isT d) := by
  have key : ∀ (n i : Nat) (need : Int), i + n = d.length → d.length ≤ 24 → 0 ≤ need → need ≤ 1 + 24 * (i : Int) →
      Ev (fun k => spec_l01Is.l0 k need i d) (okT 25 (d.drop i) need) := by
    intro n
    induction n with
    | zero =>
      intro i need h h24 h0 h1
      apply Ev.succ
      simp (disch := omega) only [spec_l01Is.l0, if_pos, if_neg]
      rw [List.drop_eq_nil_of_le (by omega)]
      exact Ev.some (by simp only [okT]; rw [Bool.eq_iff_iff]; simp)
    | succ n ih =>
      intro i need h h24 h0 h1
      apply Ev.succ
      have hi : i < d.length := by omega
      have hr : rd d i = d[i] := by rw [rd_nat, List.getD_eq_getElem?_getD, List.getElem?_eq_getElem hi]; rfl
      simp (disch := omega) only [spec_l01Is.l0, if_pos, if_neg, spec_l01In_eq, Option.bind_some, decide_eq_true_eq, hr]
      rw [List.drop_eq_getElem_cons hi]
      simp only [okT]
      by_cases c0 : need = 0
      · rw [if_pos c0]; exact Ev.pos c0 (Ev.now _)
      · rw [if_neg c0]
        refine Ev.neg c0 ?_
        by_cases c1 : d[i] < 0
        · rw [if_pos c1]; exact Ev.neg (by omega) (Ev.now _)
        · rw [if_neg c1]
          by_cases c2 : d[i] ≥ 25
          · rw [if_pos c2]; exact Ev.neg (by omega) (Ev.now _)
          · rw [if_neg c2]
            refine Ev.pos (by omega) ?_
            rw [w64 (x := need - 1) (by omega), w64 (by omega), w64 (by omega), show need - 1 + d[i] = need + (d[i] - 1) by omega]
            exact ih (i + 1) _ (by omega) h24 (by omega) (by omega)
  unfold spec_l01Is.f
  simp only [spec_l01N_eq, Option.bind_some, spec_l01In_eq, decide_eq_true_eq]
  by_cases c : 1 ≤ (d.length : Int) ∧ (d.length : Int) ≤ 24
  · refine Ev.pos c ?_
    have := key d.length 0 1 (by omega) (by omega) (by omega) (by omega)
    rw [List.drop_zero, okT_25 d (by omega)] at this
    have e : isT d = okT 24 d 1 := by
      unfold isT
      rw [decide_eq_true (by omega : 1 ≤ d.length), decide_eq_true (by omega : d.length ≤ 24)]
      simp
    rw [e]
    exact this
  · refine Ev.neg c ?_
    refine Ev.some ?_
    rw [eq_comm, Bool.eq_false_iff]
    intro h
    have := isT_length h
    omega
theorem spec_RankOfTree_ev (d : List Int) (hd : d.length ≤ 9223372036854775807) {R} (h : treeR rkV 0 d R) : Ev (fun m => spec_RankOfTree.f m d) R := by
  rcases h with ⟨h, rfl⟩ | ⟨k, rfl, hk, h, rfl⟩
  · have e := spec_l01Is_ev d hd
    rw [h] at e
    unfold spec_RankOfTree.f
    exact Ev.bind e (Ev.neg (by simp) (Ev.now _))
  · have e := spec_l01Is_ev (tr k) hd
    rw [h] at e
    unfold spec_RankOfTree.f
    refine Ev.bind e (Ev.pos rfl ?_)
    exact Ev.bind (rank_ex k hk).2.1 (Ev.now _)

/-! ### The tree with a rank -/
theorem tree_step (n : Nat) (hn : n ≤ 24) (left v need k : Nat) (hv : v + left + 1 = n) (h1 : 1 ≤ need) (hb : need - 1 + k ≤ left) (r : Int) (d : List Int) (hd : d.length ≤ 100) (m : Nat) :
    spec_l02Tree.l1 (m + 1) n r (tabL n) need d v k = if r ≥ tab left (need - 1 + k) then spec_l02Tree.l1 m n (wrap64 (r - tab left (need - 1 + k))) (tabL n) need d v ((k + 1 : Nat) : Int) else spec_l02Tree.l0 m n r (tabL n) ((need - 1 + k : Nat) : Int) (d ++ [(k : Int)]) ((v + 1 : Nat) : Int) := by
  have hd' : d.length < 17592186044416 := by omega
  have hL := tabL_length n
  have hR := tabR_length n left
  simp only [spec_l02Tree.l1]
  rw [w64 (x := (n : Int) - (v : Int)) (by omega), w64 (x := (n : Int) - (v : Int) - 1) (by omega), show (n : Int) - (v : Int) - 1 = (left : Int) by omega, w64 (x := (need : Int) - 1) (by omega),
    w64 (x := (need : Int) - 1 + (k : Int)) (by omega), show (need : Int) - 1 + (k : Int) = ((need - 1 + k : Nat) : Int) by omega, tabL_at n left (by omega), tabR_at n left _ (by omega), w64 (x := (k : Int) + 1) (by omega), w64 (x := (v : Int) + 1) (by omega),
    if_pos hd', if_pos (by omega), if_pos (by omega), if_pos (by omega), if_pos (by omega)]
  rfl
theorem tree_l1 (n : Nat) (hn : n ≤ 24) (left v need : Nat) (hv : v + left + 1 = n) (h1 : 1 ≤ need) (d : List Int) (hd : d.length ≤ 100) :
    ∀ (c k : Nat) (r : Int), 0 ≤ r → r ≤ 9223372036854775807 → r < us left (need - 1 + k) c → need - 1 + k + c ≤ left + 1 → ∀ fu, c < fu →
      ∃ (r' : Int) (k' : Nat), torI left fu (need - 1) k r = some (r', k') ∧ k' < k + c ∧ 0 ≤ r' ∧ r' ≤ r ∧ r' < tab left (need - 1 + k') ∧
        ∀ R : List Int × Bool, Ev (fun m => spec_l02Tree.l0 m n r' (tabL n) ((need - 1 + k' : Nat) : Int) (d ++ [(k' : Int)]) ((v + 1 : Nat) : Int)) R → Ev (fun m => spec_l02Tree.l1 m n r (tabL n) need d v k) R := by
  intro c
  induction c with
  | zero => intro k r h0 hm hr; simp only [us] at hr; omega
  | succ c ih =>
    intro k r h0 hm hr hb fu hfu
    obtain ⟨fu, rfl⟩ : ∃ m, fu = m + 1 := ⟨fu - 1, by omega⟩
    have ht := tab_ok left (need - 1 + k) (by omega) (by omega)
    by_cases c0 : r ≥ tab left (need - 1 + k)
    · simp only [us] at hr
      obtain ⟨r', k', e1, e2, e3, e4, e5, e6⟩ := ih (k + 1) (r - tab left (need - 1 + k)) (by omega) (by omega) (by rw [show need - 1 + (k + 1) = need - 1 + k + 1 by omega]; omega) (by omega) fu (by omega)
      refine ⟨r', k', ?_, by omega, e3, by omega, e5, fun R hR => ?_⟩
      · simp only [torI]
        rw [if_pos (by omega), if_pos c0, w64 (by omega)]
        exact e1
      · apply Ev.succ
        refine Ev.congr (fun m => (tree_step n hn left v need k hv h1 (by omega) r d hd m)) (Ev.pos c0 ?_)
        rw [w64 (by omega)]
        exact e6 R hR
    · refine ⟨r, k, ?_, by omega, h0, by omega, by omega, fun R hR => ?_⟩
      · simp only [torI]
        rw [if_pos (by omega), if_neg c0]
      · apply Ev.succ
        exact Ev.congr (fun m => (tree_step n hn left v need k hv h1 (by omega) r d hd m)) (Ev.neg c0 hR)
theorem tree_l0 (n : Nat) (hn : n ≤ 24) : ∀ (left v need : Nat) (r : Int) (d : List Int), v + left = n → need ≤ 31 → 0 ≤ r → r ≤ 9223372036854775807 → r < tab left need → d.length = v →
    ∃ e : List Int, torO left need r d = some e ∧ e.length = n ∧ Ev (fun m => spec_l02Tree.l0 m n r (tabL n) need d v) (e, true) := by
  intro left
  induction left with
  | zero =>
    intro v need r d hv _ _ _ _ hd
    refine ⟨d, rfl, by omega, ?_⟩
    apply Ev.succ
    simp only [spec_l02Tree.l0]
    exact Ev.neg (by omega) (Ev.now _)
  | succ left ih =>
    intro v need r d hv hneed h0 hm hr hd
    by_cases c : need = 0
    · subst c
      rw [tab_first] at hr
      omega
    · obtain ⟨b, rfl⟩ : ∃ b, need = b + 1 := ⟨need - 1, by omega⟩
      rw [tab_sum left b (by omega) (by omega)] at hr
      have hc : b + (left + 1 - b) ≤ left + 1 := by
        by_cases c2 : b ≤ left
        · omega
        · rw [show left + 1 - b = 0 by omega] at hr
          simp only [us] at hr
          omega
      obtain ⟨r', k', e1, e2, e3, e4, e5, e6⟩ := tree_l1 n hn left v (b + 1) (by omega) (by omega) d (by omega) (left + 1 - b) 0 r h0 hm (by rw [show b + 1 - 1 + 0 = b by omega]; exact hr) (by omega) 33 (by omega)
      obtain ⟨e, g1, g2, g3⟩ := ih (v + 1) (b + 1 - 1 + k') r' (d ++ [(k' : Int)]) (by omega) (by omega) e3 (by omega) e5 (by simp [hd])
      refine ⟨e, ?_, g2, ?_⟩
      · simp only [torO]
        rw [if_neg (by omega), e1]
        exact g1
      · apply Ev.succ
        simp only [spec_l02Tree.l0]
        exact Ev.pos (by omega) (e6 _ g3)
theorem tree_ex (n : Nat) (h1 : 1 ≤ n) (hn : n ≤ 24) (r : Int) (h0 : 0 ≤ r) (hm : r ≤ 9223372036854775807) :
    ∃ T : List Int × Bool, impl_treeOfRank.f n r = some T ∧ Ev (fun k => spec_l02Tree.f k n r) T ∧ T.1.length ≤ 24 ∧ (T.2 = true ↔ r < tab n 1) ∧ (T.2 = true → torO n 1 r [] = some T.1 ∧ T.1.length = n) := by
  have hL := tabL_length n
  have hR := tabR_length n n
  have step : ∀ T : List Int × Bool, (if r ≥ tab n 1 then Ev (fun _ => some (([] : List Int), false)) T else Ev (fun k => spec_l02Tree.l0 k n r (tabL n) 1 [] 0) T) → Ev (fun k => spec_l02Tree.f k n r) T := by
    intro T hT
    unfold spec_l02Tree.f
    refine Ev.bind (spec_l02Table_ev n hn) ?_
    refine Ev.pos (by omega) (Ev.pos (by omega) ?_)
    rw [tabL_at n n (Nat.le_refl _), show rd (tabR n n) 1 = tab n 1 from tabR_at n n 1 (by omega)]
    refine Ev.pos (by omega) ?_
    by_cases c : r ≥ tab n 1
    · rw [if_pos c] at hT
      exact Ev.pos c hT
    · rw [if_neg c] at hT
      exact Ev.neg c hT
  by_cases c : r ≥ tab n 1
  · refine ⟨([], false), ?_, step _ (by rw [if_pos c]; exact Ev.now _), by simp, by simp; omega, by simp⟩
    unfold impl_treeOfRank.f
    rw [if_pos (by omega), if_pos (by omega), Int.toNat_natCast, if_pos c]
  · obtain ⟨e, g1, g2, g3⟩ := tree_l0 n hn n 0 1 r [] (by omega) (by omega) h0 hm (by omega) rfl
    refine ⟨(e, true), ?_, step _ (by rw [if_neg c]; exact g3), by simp [g2, hn], by simp; omega, fun _ => ⟨g1, g2⟩⟩
    unfold impl_treeOfRank.f
    rw [if_pos (by omega), if_pos (by omega), Int.toNat_natCast, if_neg c, g1]
    rfl
theorem NextTree_ex (d : List Int) (hd : d.length ≤ 9223372036854775807) : ∃ R : List Int × Int, Ev (fun m => spec_NextTree.f m d) R ∧ Ev (fun m => impl_NextTree.f m d) R ∧ R.1.length ≤ 1000 := by
  have e := spec_l01Is_ev d hd
  have e' := impl_IsTree_ev d hd
  rcases isT_cases d with h | ⟨k, rfl, hk, h⟩
  · rw [h] at e e'
    refine ⟨([], 1), ?_, ?_, by simp⟩
    · unfold spec_NextTree.f
      exact Ev.bind e (Ev.neg (by simp) (Ev.now _))
    · unfold impl_NextTree.f
      exact Ev.bind e' (Ev.neg (by simp) (Ev.now _))
  · rw [h] at e e'
    obtain ⟨r1, r2, r3, r4⟩ := rank_ex k hk
    have ht := tab_ok (sz k + 1) 1 (by omega) (by omega)
    obtain ⟨T, t1, t2, t3, _, _⟩ := tree_ex (sz k + 1) (by omega) (by omega) (rkV k + 1) (by omega) (by omega)
    have hl := tr_length k
    refine ⟨if T.2 = true then (T.1, 0) else ([], 4), ?_, ?_, ?_⟩
    · unfold spec_NextTree.f
      refine Ev.bind e (Ev.pos rfl ?_)
      rw [spec_l01N_eq]
      simp only [Option.bind_some, hl]
      refine Ev.bind r2 ?_
      rw [w64 (x := rkV k + 1) (by omega)]
      refine Ev.bind t2 ?_
      by_cases c2 : T.2 = true
      · simp only [if_pos c2]; exact Ev.now _
      · simp only [if_neg c2]; exact Ev.now _
    · unfold impl_NextTree.f
      refine Ev.bind e' (Ev.pos rfl ?_)
      rw [r1]
      simp only [Option.bind_some, hl]
      rw [w64 (x := rkV k + 1) (by omega), t1]
      simp only [Option.bind_some]
      by_cases c2 : T.2 = true
      · simp only [if_pos c2]; exact Ev.now _
      · simp only [if_neg c2]; exact Ev.now _
    · by_cases c2 : T.2 = true
      · rw [if_pos c2]; show T.1.length ≤ 1000; omega
      · rw [if_neg c2]; simp

theorem likeInts_self (a : List Int) (h : a.length ≤ 9223372036854775807) : Ev (fun k => laws_likeInts.f k a a) true := by
  have key : ∀ (m i : Nat), i + m = a.length → Ev (fun k => laws_likeInts.l0 k a a (i : Int)) true := by
    intro m
    induction m with
    | zero =>
      intro i hi
      refine Ev.succ ?_
      simp only [laws_likeInts.l0]
      exact Ev.neg (by omega) (Ev.now _)
    | succ m ih =>
      intro i hi
      refine Ev.succ ?_
      simp only [laws_likeInts.l0]
      refine Ev.pos (by omega) (Ev.pos (by omega) (Ev.pos (by omega) (Ev.pos (by trivial) ?_)))
      rw [w64 (x := (i : Int) + 1) (by omega), show (i : Int) + 1 = ((i + 1 : Nat) : Int) by omega]
      exact ih (i + 1) (by omega)
  unfold laws_likeInts.f
  exact Ev.pos (by trivial) (key a.length 0 (by omega))
theorem tree9_self (a : List Int) (h : a.length ≤ 9223372036854775807) : Ev (fun k => laws_tree9.f k a a) true := by
  unfold laws_tree9.f
  exact Ev.bind (likeInts_self a h) (Ev.now _)
theorem near_ex (c : List Int) (p h m : Int) (hc : bytesL c) (hl : c.length ≤ 4096) (hp : 0 ≤ p) (hm : 0 ≤ m ∧ m ≤ 4611686018427387904) : ∃ v p' h', spec_l01Near.f c p h m = some (v, p', h') ∧ (-4611686018427387904 ≤ v ∧ v ≤ 4611686018427387905) ∧ 0 ≤ p' := by
  have hw : wrap64 (m + 1) = m + 1 := w64 (by omega)
  obtain ⟨v, p', h', e, hv, hp'⟩ := next_ex c p h 14 hc hl hp (by omega)
  unfold spec_l01Near.f
  rw [e, hw]
  simp only [Option.bind_some]
  by_cases c0 : v = 0
  · rw [if_pos c0]
    obtain ⟨v2, p2, h2, e2, hv2, hp2⟩ := pick_ex c p' h' [(-1), m + 1, 1099511627776, (-4611686018427387904)] hc hl hp' (by simp)
    refine ⟨v2, p2, h2, by rw [e2]; rfl, ?_, hp2⟩
    simp only [List.mem_cons, List.not_mem_nil, or_false] at hv2
    omega
  · rw [if_neg c0]
    obtain ⟨v2, p2, h2, e2, hv2, hp2⟩ := next_ex c p' h' (m + 1) hc hl hp' (by omega)
    exact ⟨v2, p2, h2, by rw [e2]; rfl, by omega, hp2⟩

theorem spec_CountTrees_all : ((List.range 31).all fun n => decide (n = 0 ∨ spec_CountTrees.f 700 (n : Int) = some (tab n 1, 0))) = true := by decide +kernel
theorem spec_CountTrees_ev (n : Int) : Ev (fun k => spec_CountTrees.f k n) (if 1 ≤ n ∧ n ≤ 30 then (tab n.toNat 1, 0) else (0, 2)) := by
  by_cases c : 1 ≤ n ∧ n ≤ 30
  · rw [if_pos c]
    obtain ⟨m, rfl⟩ : ∃ m : Nat, n = m := ⟨n.toNat, by omega⟩
    have h := of_decide_eq_true (List.all_eq_true.1 spec_CountTrees_all m (List.mem_range.2 (by omega)))
    rcases h with h | h
    · omega
    · rw [Int.toNat_natCast]
      exact Ev.of (spec_CountTrees.mono m) h
  · rw [if_neg c]
    unfold spec_CountTrees.f
    simp only [spec_l01In_eq, Option.bind_some]
    exact Ev.neg (by simp; omega) (Ev.now _)
theorem wrap64_max (n : Int) : wrap64 n ≤ 9223372036854775807 := by
  unfold wrap64
  omega
theorem DrawTreeOfRank_ex (c : List Int) (hc : bytesL c) (hl : c.length ≤ 4096) : ∃ n r, Ev (fun k => spec_DrawTreeOfRank.f k c) (n, r) ∧ r ≤ 9223372036854775807 := by
  obtain ⟨h, e0⟩ := from_ev c hl
  obtain ⟨v1, p1, h1, e1, hv1, hp1⟩ := near_ex c 0 h 24 hc hl (by omega) (by omega)
  obtain ⟨v2, p2, h2, e2, hv2, hp2⟩ := pick_ex c p1 h1 [1, 2, 3, 4, 5, 8, 12, 20, v1] hc hl hp1 (by simp)
  obtain ⟨v3, p3, h3, e3, hv3, hp3⟩ := pick_ex c p2 h2 [3, 20, 1000, 100000000] hc hl hp2 (by simp)
  simp only [List.mem_cons, List.not_mem_nil, or_false] at hv3
  obtain ⟨v4, p4, h4, e4, hv4, hp4⟩ := near_ex c p3 h3 v3 hc hl hp3 (by omega)
  have e5 := spec_CountTrees_ev v2
  generalize (if 1 ≤ v2 ∧ v2 ≤ 30 then (tab v2.toNat 1, (0 : Int)) else (0, 2)) = R at e5
  by_cases c5 : R.2 = 0
  · obtain ⟨v6, p6, h6, e6, hv6, hp6⟩ := next_ex c p4 h4 3 hc hl hp4 (by omega)
    by_cases c6 : v6 = 0
    · obtain ⟨v7, p7, h7, e7, hv7, hp7⟩ := next_ex c p6 h6 2 hc hl hp6 (by omega)
      refine ⟨v2, _, ?_, wrap64_max ((wrap64 (R.1 - 1)) + v7)⟩
      unfold spec_DrawTreeOfRank.f
      refine Ev.bind e0 ?_
      simp only [e1, e2, e3, e4, Option.bind_some]
      refine Ev.bind e5 (Ev.pos c5 ?_)
      simp only [e6, e7, Option.bind_some]
      exact Ev.pos c6 (Ev.now _)
    · refine ⟨v2, v4, ?_, by omega⟩
      unfold spec_DrawTreeOfRank.f
      refine Ev.bind e0 ?_
      simp only [e1, e2, e3, e4, Option.bind_some]
      refine Ev.bind e5 (Ev.pos c5 ?_)
      simp only [e6, Option.bind_some]
      exact Ev.neg c6 (Ev.now _)
  · refine ⟨v2, v4, ?_, by omega⟩
    unfold spec_DrawTreeOfRank.f
    refine Ev.bind e0 ?_
    simp only [e1, e2, e3, e4, Option.bind_some]
    exact Ev.bind e5 (Ev.neg c5 (Ev.now _))
theorem impl_isNodes_eq (n : Int) : impl_isNodes.f n = some (decide (1 ≤ n ∧ n ≤ 24)) := by
  unfold impl_isNodes.f
  by_cases c : 1 ≤ n
  · rw [if_pos c]
    congr 1
    rw [Bool.eq_iff_iff, decide_eq_true_eq, decide_eq_true_eq]
    omega
  · rw [if_neg c]
    congr 1
    rw [eq_comm, decide_eq_false_iff_not]
    omega
theorem spec_l02Whole_eq (n : Int) : spec_l02Whole.f n = some (decide (1 ≤ n ∧ n ≤ 24)) := by
  unfold spec_l02Whole.f
  rw [spec_l01In_eq]
  rfl
theorem TreeOfRank_ex (n r : Int) (hm : r ≤ 9223372036854775807) : ∃ R : List Int × Int, Ev (fun k => spec_TreeOfRank.f k n r) R ∧ Ev (fun k => impl_TreeOfRank.f k n r) R ∧ R.1.length ≤ 24 ∧ (R.2 = 0 ↔ (1 ≤ n ∧ n ≤ 24) ∧ 0 ≤ r ∧ r < tab n.toNat 1) ∧ (R.2 = 0 → torO n.toNat 1 r [] = some R.1 ∧ R.1.length = n.toNat) := by
  have bad : ¬ ((1 ≤ n ∧ n ≤ 24) ∧ 0 ≤ r) → Ev (fun k => spec_TreeOfRank.f k n r) ([], 2) ∧ Ev (fun k => impl_TreeOfRank.f k n r) ([], 2) := by
    intro c
    unfold spec_TreeOfRank.f impl_TreeOfRank.f
    simp only [spec_l02Whole_eq, impl_isNodes_eq, Option.bind_some, decide_eq_true_eq]
    by_cases c1 : 1 ≤ n ∧ n ≤ 24
    · have c2 : r < 0 := by omega
      constructor
      · refine Ev.pos c1 (Ev.succ ?_)
        simp only [spec_TreeOfRank.j0]
        exact Ev.pos (decide_eq_true c2) (Ev.now _)
      · refine Ev.pos c1 (Ev.succ ?_)
        simp only [impl_TreeOfRank.j0]
        exact Ev.pos (decide_eq_true c2) (Ev.now _)
    · constructor
      · refine Ev.neg c1 (Ev.succ ?_)
        simp only [spec_TreeOfRank.j0]
        exact Ev.pos (by first | rfl | trivial) (Ev.now _)
      · refine Ev.neg c1 (Ev.succ ?_)
        simp only [impl_TreeOfRank.j0]
        exact Ev.pos (by first | rfl | trivial) (Ev.now _)
  by_cases c : (1 ≤ n ∧ n ≤ 24) ∧ 0 ≤ r
  · obtain ⟨m, rfl⟩ : ∃ m : Nat, n = m := ⟨n.toNat, by omega⟩
    obtain ⟨T, t1, t2, t3, t4, t5⟩ := tree_ex m (by omega) (by omega) r c.2 hm
    refine ⟨if T.2 = true then (T.1, 0) else ([], 4), ?_, ?_, ?_, ?_, ?_⟩
    · unfold spec_TreeOfRank.f
      simp only [spec_l02Whole_eq, Option.bind_some, decide_eq_true_eq]
      refine Ev.pos c.1 (Ev.succ ?_)
      simp only [spec_TreeOfRank.j0]
      refine Ev.neg (by simp; omega) (Ev.bind t2 ?_)
      by_cases c2 : T.2 = true
      · simp only [if_pos c2]; exact Ev.now _
      · simp only [if_neg c2]; exact Ev.now _
    · unfold impl_TreeOfRank.f
      simp only [impl_isNodes_eq, Option.bind_some, decide_eq_true_eq]
      refine Ev.pos c.1 (Ev.succ ?_)
      simp only [impl_TreeOfRank.j0, t1, Option.bind_some]
      refine Ev.neg (by simp; omega) ?_
      by_cases c2 : T.2 = true
      · simp only [if_pos c2]; exact Ev.now _
      · simp only [if_neg c2]; exact Ev.now _
    · by_cases c2 : T.2 = true
      · rw [if_pos c2]; exact t3
      · rw [if_neg c2]; simp
    · by_cases c2 : T.2 = true
      · rw [if_pos c2]
        have := t4.1 c2
        simp only [Int.toNat_natCast, true_iff]
        omega
      · rw [if_neg c2]
        have : ¬ r < tab m 1 := fun e => c2 (t4.2 e)
        simp only [Int.toNat_natCast]
        constructor
        · intro e; omega
        · intro e; omega
    · by_cases c2 : T.2 = true
      · rw [if_pos c2]
        intro _
        rw [Int.toNat_natCast]
        exact t5 c2
      · rw [if_neg c2]
        intro e
        simp at e
  · exact ⟨([], 2), (bad c).1, (bad c).2, by simp, by simp; omega, by simp⟩

theorem DrawFirstTree_ex (c : List Int) (hc : bytesL c) (hl : c.length ≤ 4096) : ∃ n, Ev (fun k => spec_DrawFirstTree.f k c) n ∧ -4611686018427387904 ≤ n ∧ n ≤ 4611686018427387905 := by
  obtain ⟨h, e0⟩ := from_ev c hl
  obtain ⟨n, p1, h1, e1, hn, _⟩ := near_ex c 0 h 24 hc hl (by omega) (by omega)
  refine ⟨n, ?_, hn⟩
  unfold spec_DrawFirstTree.f
  refine Ev.bind e0 ?_
  simp only [e1, Option.bind_some]
  exact Ev.now _
/-- the first tree's degrees -/
def firstD (n : Nat) : List Int := List.replicate (n - 1) 1 ++ [0]
theorem first_all : ((List.range 25).all fun n => decide (n = 0 ∨ (impl_FirstTree.f (n : Int) = some (firstD n, 0) ∧ spec_FirstTree.f 60 (n : Int) = some (firstD n, 0)))) = true := by decide +kernel
def firstR (n : Int) : List Int × Int := if 1 ≤ n ∧ n ≤ 24 then (firstD n.toNat, 0) else ([], 2)
theorem impl_FirstTree_ev (n : Int) : impl_FirstTree.f n = some (firstR n) := by
  unfold firstR
  by_cases c : 1 ≤ n ∧ n ≤ 24
  · rw [if_pos c]
    obtain ⟨m, rfl⟩ : ∃ m : Nat, n = m := ⟨n.toNat, by omega⟩
    have h := of_decide_eq_true (all_range first_all (i := m) (by omega))
    rcases h with h | h
    · omega
    · rw [Int.toNat_natCast]; exact h.1
  · rw [if_neg c]
    unfold impl_FirstTree.f
    rw [impl_isNodes_eq, Option.bind_some, if_neg (by simpa using c)]
theorem spec_FirstTree_ev (n : Int) : Ev (fun k => spec_FirstTree.f k n) (firstR n) := by
  unfold firstR
  by_cases c : 1 ≤ n ∧ n ≤ 24
  · rw [if_pos c]
    obtain ⟨m, rfl⟩ : ∃ m : Nat, n = m := ⟨n.toNat, by omega⟩
    have h := of_decide_eq_true (all_range first_all (i := m) (by omega))
    rcases h with h | h
    · omega
    · rw [Int.toNat_natCast]; exact Ev.of (spec_FirstTree.mono m) h.2
  · rw [if_neg c]
    unfold spec_FirstTree.f
    simp only [spec_l02Whole_eq, Option.bind_some, decide_eq_true_eq]
    exact Ev.neg c (Ev.now _)
theorem firstR_len (n : Int) : (firstR n).1.length ≤ 24 := by
  unfold firstR firstD
  by_cases c : 1 ≤ n ∧ n ≤ 24
  · rw [if_pos c]; simp; omega
  · rw [if_neg c]; simp

/-- the last tree's degrees -/
def lastD (n : Nat) : List Int := ((n : Int) - 1) :: List.replicate (n - 1) 0
theorem last_all : ((List.range 25).all fun n => decide (n = 0 ∨ (impl_LastTree.f (n : Int) = some (lastD n, 0) ∧ spec_LastTree.f (n : Int) = some (lastD n, 0)))) = true := by decide +kernel
def lastR (n : Int) : List Int × Int := if 1 ≤ n ∧ n ≤ 24 then (lastD n.toNat, 0) else ([], 2)
theorem impl_LastTree_ev (n : Int) : impl_LastTree.f n = some (lastR n) := by
  unfold lastR
  by_cases c : 1 ≤ n ∧ n ≤ 24
  · rw [if_pos c]
    obtain ⟨m, rfl⟩ : ∃ m : Nat, n = m := ⟨n.toNat, by omega⟩
    have h := of_decide_eq_true (all_range last_all (i := m) (by omega))
    rcases h with h | h
    · omega
    · rw [Int.toNat_natCast]; exact h.1
  · rw [if_neg c]
    unfold impl_LastTree.f
    rw [impl_isNodes_eq, Option.bind_some, if_neg (by simpa using c)]
theorem spec_LastTree_ev (n : Int) : spec_LastTree.f n = some (lastR n) := by
  unfold lastR
  by_cases c : 1 ≤ n ∧ n ≤ 24
  · rw [if_pos c]
    obtain ⟨m, rfl⟩ : ∃ m : Nat, n = m := ⟨n.toNat, by omega⟩
    have h := of_decide_eq_true (all_range last_all (i := m) (by omega))
    rcases h with h | h
    · omega
    · rw [Int.toNat_natCast]; exact h.2
  · rw [if_neg c]
    unfold spec_LastTree.f
    rw [spec_l02Whole_eq, Option.bind_some, if_neg (by simpa using c)]
theorem lastR_len (n : Int) : (lastR n).1.length ≤ 24 := by
  unfold lastR lastD
  by_cases c : 1 ≤ n ∧ n ≤ 24
  · rw [if_pos c]; simp; omega
  · rw [if_neg c]; simp

/-! ### Ranks: there and back, and their order -/
theorem rk_range (f : F) (h : sz f ≤ 24) : 0 ≤ rkL (degs f) (len f) ∧ rkL (degs f) (len f) < tab (sz f) (len f) := by
  have hl := len_le_sz f
  have ht := tab_ok (sz f) (len f) (by omega) (by omega)
  obtain ⟨h1, h2, _, _⟩ := rk_both (sz f) h (degs f) (degs_length f) (sz f) f rfl 0 0 (by omega) rfl (by omega) (by omega)
  exact ⟨h1, h2⟩
theorem us_step (m b x : Nat) : us m b (x + 1) = us m b x + tab m (b + x) := by
  rw [us_add m x b 1]
  simp [us]
theorem us_mono (m b x y : Nat) (hm : m ≤ 30) (h : x ≤ y) (hy : b + y ≤ 32) : us m b x ≤ us m b y := by
  obtain ⟨e, rfl⟩ : ∃ e, y = x + e := ⟨y - x, by omega⟩
  have := us_nonneg m hm e (b + x) (by omega)
  rw [us_add m x b e]
  omega
theorem rk_lex : ∀ (m : Nat) (f g : F), sz f = m → sz g = m → len f = len g → m ≤ 24 →
    (rkL (degs f) (len f) = rkL (degs g) (len g) → degs f = degs g) ∧ (rkL (degs f) (len f) < rkL (degs g) (len g) → lexV (degs f) (degs g) = -1) := by
  intro m
  induction m with
  | zero =>
    intro f g hf hg hl hm
    cases f with
    | cons a r => simp only [sz] at hf; omega
    | nil =>
      cases g with
      | cons b s => simp only [sz] at hg; omega
      | nil => exact ⟨fun _ => rfl, fun h => absurd h (by simp)⟩
  | succ m ih =>
    intro f g hf hg hl hm
    cases f with
    | nil => simp only [sz] at hf; omega
    | cons a r =>
      cases g with
      | nil => simp only [sz] at hg; omega
      | cons b s =>
        simp only [sz] at hf hg
        simp only [len] at hl
        have ef : degs (cons a r) = (len a : Int) :: degs (app a r) := by rw [degs_app]; rfl
        have eg : degs (cons b s) = (len b : Int) :: degs (app b s) := by rw [degs_app]; rfl
        have sf : sz (app a r) = m := by rw [sz_app]; omega
        have sg : sz (app b s) = m := by rw [sz_app]; omega
        have lf : len (app a r) = len r + len a := by rw [len_app]; omega
        have lg : len (app b s) = len r + len b := by rw [len_app]; omega
        have bf := len_le_sz (app a r)
        have bg := len_le_sz (app b s)
        obtain ⟨f1, f2⟩ := rk_range (app a r) (by omega)
        obtain ⟨g1, g2⟩ := rk_range (app b s) (by omega)
        have lf' := degs_length (app a r)
        have lg' := degs_length (app b s)
        have rf : rkL (degs (cons a r)) (len (cons a r)) = us m (len r) (len a) + rkL (degs (app a r)) (len (app a r)) := by
          rw [ef]
          simp only [rkL, len, lf', sf, lf]
          rw [show 1 + len r - 1 = len r by omega, Int.toNat_natCast]
        have rg : rkL (degs (cons b s)) (len (cons b s)) = us m (len r) (len b) + rkL (degs (app b s)) (len (app b s)) := by
          rw [eg]
          simp only [rkL, len, lg', sg, lg]
          rw [show 1 + len s - 1 = len r by omega, Int.toNat_natCast]
        rw [rf, rg, ef, eg]
        rw [sf, lf] at f2
        rw [sg, lg] at g2
        rcases Nat.lt_trichotomy (len a) (len b) with c | c | c
        · have u1 := us_step m (len r) (len a)
          have u2 := us_mono m (len r) (len a + 1) (len b) (by omega) (by omega) (by omega)
          rw [lf] at f1 ⊢
          rw [lg] at g1 ⊢
          refine ⟨fun h => by omega, fun _ => ?_⟩
          simp only [lexV]
          rw [if_neg (by omega), if_pos (by omega)]
        · obtain ⟨i1, i2⟩ := ih (app a r) (app b s) sf sg (by omega) (by omega)
          rw [c] at *
          refine ⟨fun h => by rw [i1 (by omega)], fun h => ?_⟩
          simp only [lexV]
          rw [if_pos trivial]
          exact i2 (by omega)
        · have u1 := us_step m (len r) (len b)
          have u2 := us_mono m (len r) (len b + 1) (len a) (by omega) (by omega) (by omega)
          rw [lf] at f1 ⊢
          rw [lg] at g1 ⊢
          exact ⟨fun h => by omega, fun h => by omega⟩
theorem torI_inv (row : Nat) (hr : row ≤ 30) : ∀ (fu b k : Nat) (r : Int) (q : Int × Nat), 0 ≤ r → r ≤ 9223372036854775807 → torI row fu b k r = some q → k ≤ q.2 ∧ b + q.2 < 32 ∧ r = us row (b + k) (q.2 - k) + q.1 ∧ 0 ≤ q.1 ∧ q.1 < tab row (b + q.2) := by
  intro fu
  induction fu with
  | zero => intro b k r q _ _ h; simp [torI] at h
  | succ fu ih =>
    intro b k r q h0 hm h
    simp only [torI] at h
    by_cases c : b + k < 32
    · rw [if_pos c] at h
      have ht := tab_ok row (b + k) hr (by omega)
      by_cases c2 : r ≥ tab row (b + k)
      · rw [if_pos c2, w64 (by omega)] at h
        obtain ⟨i1, i2, i3, i4, i5⟩ := ih b (k + 1) _ q (by omega) (by omega) h
        refine ⟨by omega, i2, ?_, i4, i5⟩
        obtain ⟨e, he⟩ : ∃ e, q.2 - k = e + 1 := ⟨q.2 - k - 1, by omega⟩
        rw [show q.2 - (k + 1) = e by omega] at i3
        rw [he]
        simp only [us]
        rw [show b + (k + 1) = b + k + 1 by omega] at i3
        omega
      · rw [if_neg c2] at h
        obtain rfl := Option.some.inj h
        refine ⟨Nat.le_refl _, c, ?_, h0, by simpa using c2⟩
        simp [us]
    · rw [if_neg c] at h
      cases h
theorem torO_inv : ∀ (left need : Nat) (r : Int) (acc e : List Int), left ≤ 24 → need ≤ 31 → 0 ≤ r → r ≤ 9223372036854775807 → r < tab left need → torO left need r acc = some e →
    ∃ f, sz f = left ∧ len f = need ∧ e = acc ++ degs f ∧ rkL (degs f) need = r := by
  intro left
  induction left with
  | zero =>
    intro need r acc e _ hn h0 hm ht h
    rw [tab_zero need (by omega)] at ht
    by_cases c : need = 0
    · rw [if_pos c] at ht
      simp only [torO, Option.some.injEq] at h
      subst h
      exact ⟨nil, rfl, by simp [len, c], by simp [degs], by simp [degs, rkL]; omega⟩
    · rw [if_neg c] at ht
      omega
  | succ left ih =>
    intro need r acc e hl hn h0 hm ht h
    simp only [torO] at h
    by_cases c : need = 0
    · rw [if_pos c] at h
      cases h
    · rw [if_neg c] at h
      obtain ⟨⟨r', x⟩, h1, h2⟩ := Option.bind_eq_some_iff.mp h
      obtain ⟨_, i2, i3, i4, i5⟩ := torI_inv left (by omega) 33 (need - 1) 0 r (r', x) h0 hm h1
      simp only at i2 i3 i4 i5 h2
      have hu := us_nonneg left (by omega) x (need - 1) (by omega)
      rw [Nat.add_zero, Nat.sub_zero] at i3
      obtain ⟨g, g1, g2, g3, g4⟩ := ih (need - 1 + x) r' (acc ++ [(x : Int)]) e (by omega) (by omega) i4 (by omega) i5 h2
      obtain ⟨a, b, rfl, hx⟩ := split g x (by omega)
      rw [sz_app] at g1
      rw [len_app] at g2
      refine ⟨cons a b, by simp only [sz]; omega, by simp only [len]; omega, ?_, ?_⟩
      · rw [g3, degs_app]
        simp only [degs, hx, List.append_assoc, List.cons_append, List.nil_append]
      · have hd : degs (cons a b) = (len a : Int) :: degs (app a b) := by rw [degs_app]; rfl
        rw [hd, hx]
        simp only [rkL, degs_length, sz_app, Int.toNat_natCast]
        rw [g4, show sz a + sz b = left by omega]
        omega
/-- a tree with a rank -/
theorem torO_tree (n : Nat) (hn : n ≤ 24) (r : Int) (e : List Int) (h0 : 0 ≤ r) (hm : r ≤ 9223372036854775807) (ht : r < tab n 1) (h : torO n 1 r [] = some e) : ∃ k, e = tr k ∧ sz k + 1 = n ∧ rkV k = r := by
  obtain ⟨f, f1, f2, f3, f4⟩ := torO_inv n 1 r [] e hn (by omega) h0 hm ht h
  cases f with
  | nil => simp [len] at f2
  | cons a b =>
    simp only [len] at f2
    cases b with
    | cons b1 b2 => simp only [len] at f2; omega
    | nil =>
      simp only [sz] at f1
      refine ⟨a, ?_, by omega, ?_⟩
      · rw [f3]; rfl
      · rw [← f4]; rfl
theorem rkV_inj {k k' : F} (h : sz k = sz k') (hk : sz k ≤ 23) (hr : rkV k = rkV k') : tr k = tr k' :=
  (rk_lex (sz k + 1) (cons k nil) (cons k' nil) (by simp only [sz]; omega) (by simp only [sz]; omega) rfl (by omega)).1 hr
theorem rkV_lex {k k' : F} (h : sz k = sz k') (hk : sz k ≤ 23) (hr : rkV k < rkV k') : lexV (tr k) (tr k') = -1 :=
  (rk_lex (sz k + 1) (cons k nil) (cons k' nil) (by simp only [sz]; omega) (by simp only [sz]; omega) rfl (by omega)).2 hr
theorem ends_all : ((List.range 25).all fun n => decide (n = 0 ∨ (torO n 1 0 [] = some (firstD n) ∧ torO n 1 (tab n 1 - 1) [] = some (lastD n) ∧ 1 ≤ tab n 1))) = true := by decide +kernel
theorem ends (n : Nat) (h : 1 ≤ n ∧ n ≤ 24) : (∃ k, firstD n = tr k ∧ sz k + 1 = n ∧ rkV k = 0) ∧ ∃ k, lastD n = tr k ∧ sz k + 1 = n ∧ rkV k = tab n 1 - 1 := by
  have h1 := tab_ok n 1 (by omega) (by omega)
  rcases of_decide_eq_true (all_range ends_all (i := n) (by omega)) with h2 | ⟨h2, h3, h4⟩
  · omega
  · exact ⟨torO_tree n h.2 0 _ (by omega) (by omega) (by omega) h2, torO_tree n h.2 _ _ (by omega) (by omega) (by omega) h3⟩
theorem next_strong (d : List Int) (hd : d.length ≤ 9223372036854775807) : ∃ R : List Int × Int, Ev (fun m => spec_NextTree.f m d) R ∧ Ev (fun m => impl_NextTree.f m d) R ∧ R.1.length ≤ 1000 ∧ (isT d = false → R = ([], 1)) ∧
    (∀ k, d = tr k → sz k ≤ 23 → isT d = true → (R = ([], 4) ∧ tab (sz k + 1) 1 ≤ rkV k + 1) ∨ (R.2 = 0 ∧ ∃ k', R.1 = tr k' ∧ sz k' = sz k ∧ rkV k' = rkV k + 1)) := by
  have e := spec_l01Is_ev d hd
  have e' := impl_IsTree_ev d hd
  obtain ⟨R, h1, h2, h3⟩ := NextTree_ex d hd
  refine ⟨R, h1, h2, h3, fun h => ?_, fun k hdk hk h => ?_⟩
  · rw [h] at e
    refine Ev.unique h1 ?_
    unfold spec_NextTree.f
    exact Ev.bind e (Ev.neg (by simp) (Ev.now _))
  · subst hdk
    rw [h] at e
    obtain ⟨r1, r2, r3, r4⟩ := rank_ex k hk
    have ht := tab_ok (sz k + 1) 1 (by omega) (by omega)
    obtain ⟨T, t1, t2, t3, t4, t5⟩ := tree_ex (sz k + 1) (by omega) (by omega) (rkV k + 1) (by omega) (by omega)
    have hl := tr_length k
    have hR : R = if T.2 = true then (T.1, 0) else ([], 4) := by
      refine Ev.unique h1 ?_
      unfold spec_NextTree.f
      refine Ev.bind e (Ev.pos (by trivial) ?_)
      rw [spec_l01N_eq]
      simp only [Option.bind_some, hl]
      refine Ev.bind r2 ?_
      rw [w64 (x := rkV k + 1) (by omega)]
      refine Ev.bind t2 ?_
      by_cases c2 : T.2 = true
      · simp only [if_pos c2]; exact Ev.now _
      · simp only [if_neg c2]; exact Ev.now _
    by_cases c2 : T.2 = true
    · rw [if_pos c2] at hR
      obtain ⟨k', k1, k2, k3⟩ := torO_tree (sz k + 1) (by omega) (rkV k + 1) T.1 (by omega) (by omega) (t4.1 c2) (t5 c2).1
      exact .inr ⟨by rw [hR], k', by rw [hR]; exact k1, by omega, k3⟩
    · rw [if_neg c2] at hR
      refine .inl ⟨hR, ?_⟩
      by_cases c3 : rkV k + 1 < tab (sz k + 1) 1
      · exact absurd (t4.2 c3) c2
      · omega
theorem rank_of {d : List Int} {k : F} (h : d = tr k) (hk : sz k ≤ 23) : treeR rkV 0 d (rkV k, 0) := .inr ⟨k, h, hk, by rw [h]; exact isT_tr hk, rfl⟩
theorem FnRanks : ∀ (l : List Int), l.length ≤ maxLen → (∀ x ∈ l, (Lit.int .u8 x).wf = true) → ∃ k, laws_FnRanks.f k l = some true := by
  intro l hmax hwf
  suffices H : Ev (fun k => laws_FnRanks.f k l) true by
    obtain ⟨K, h⟩ := H
    exact ⟨K, h K (Nat.le_refl _)⟩
  unfold laws_FnRanks.f
  simp only [laws_big_eq, Option.bind_some]
  by_cases c : (l.length : Int) > 4096
  · exact Ev.pos (by simpa using c) (Ev.now _)
  · refine Ev.neg (by simpa using c) ?_
    have hl : l.length ≤ 4096 := by omega
    have hb : bytesL l := fun x hx => by
      have := hwf x hx
      simp only [Lit.wf, Bool.and_eq_true, decide_eq_true_eq] at this
      exact this
    obtain ⟨t, e0, ht⟩ := DrawRankOfTree_ex l hb hl
    obtain ⟨R1, hR1⟩ := treeR_ex rkV 0 t
    have e1 := impl_RankOfTree_ev t (by omega) hR1
    have e2 := spec_RankOfTree_ev t (by omega) hR1
    obtain ⟨R2, e3, e4, hR2, n1, n2⟩ := next_strong t (by omega)
    obtain ⟨n, r, e5, hr⟩ := DrawTreeOfRank_ex l hb hl
    obtain ⟨R3, e6, e7, hR3, t1, t2⟩ := TreeOfRank_ex n r hr
    obtain ⟨q, e8, _⟩ := DrawFirstTree_ex l hb hl
    have hf := firstR_len q
    have hla := lastR_len q
    refine Ev.bind e0 (Ev.bind e1 (Ev.bind e2 (Ev.pos (by trivial) ?_)))
    rw [show (R1.1 != R1.1) = false by simp]
    apply Ev.succ
    simp only [laws_FnRanks.j0]
    refine Ev.neg (by simp) (Ev.bind e4 (Ev.bind e3 (Ev.pos (by trivial) (Ev.bind (tree9_self _ (by omega)) ?_))))
    apply Ev.succ
    simp only [laws_FnRanks.j1]
    refine Ev.neg (by simp) (Ev.bind e5 (Ev.bind e7 (Ev.bind e6 (Ev.pos (by trivial) (Ev.bind (tree9_self _ (by omega)) ?_)))))
    apply Ev.succ
    simp only [laws_FnRanks.j2]
    refine Ev.neg (by simp) (Ev.bind e8 ?_)
    simp only [impl_FirstTree_ev, Option.bind_some]
    refine Ev.bind (spec_FirstTree_ev q) (Ev.pos (by trivial) (Ev.bind (tree9_self _ (by omega)) ?_))
    apply Ev.succ
    simp only [laws_FnRanks.j3]
    refine Ev.neg (by simp) ?_
    simp only [impl_LastTree_ev, spec_LastTree_ev, Option.bind_some]
    refine Ev.pos (by trivial) (Ev.bind (tree9_self _ (by omega)) ?_)
    apply Ev.succ
    simp only [laws_FnRanks.j4]
    refine Ev.neg (by simp) ?_
    have last : Ev (fun k => laws_FnRanks.j6 k R1.1 R1.2 R2.2 t R2.1) true := by
      apply Ev.succ
      simp only [laws_FnRanks.j6]
      rcases hR1 with ⟨hi, rfl⟩ | ⟨k, hk1, hk2, hk3, rfl⟩
      · rw [n1 hi]
        exact Ev.neg (by simp) (Ev.pos (by trivial) (Ev.some (by simp)))
      · refine Ev.pos (by trivial) ?_
        obtain ⟨_, _, q3, q4⟩ := rank_ex k hk2
        have ht2 := tab_ok (sz k + 1) 1 (by omega) (by omega)
        have hkl : t.length = sz k + 1 := by rw [hk1, tr_length]
        rcases n2 k hk1 hk2 hk3 with ⟨hR, hge⟩ | ⟨hR, k', g1, g2, g3⟩
        · obtain ⟨_, k', g1, g2, g3⟩ := ends (sz k + 1) (by omega)
          have hlast : lastD (sz k + 1) = t := by
            rw [g1, hk1]
            exact rkV_inj (by omega) (by omega) (by omega)
          rw [hR]
          refine Ev.neg (by simp) ?_
          rw [impl_LastTree_ev]
          have : lastR (t.length : Int) = (t, 0) := by
            unfold lastR
            rw [if_pos (by omega), Int.toNat_natCast, hkl, hlast]
          rw [this]
          simp only [Option.bind_some]
          exact Ev.pos (by trivial) (Ev.pos (by trivial) (Ev.bind (tree9_self _ (by omega)) (Ev.now _)))
        · refine Ev.pos hR ?_
          have hk' : sz k' ≤ 23 := by omega
          have hc := impl_CompareTrees_ev t R2.1 (by omega) (by omega)
          have hcv : cmpR t R2.1 = (-1, 0) := by
            have l1 := tr_length k
            have l2 := tr_length k'
            unfold cmpR
            rw [if_pos ⟨hk3, by rw [g1]; exact isT_tr hk'⟩]
            unfold cmpV
            rw [hk1, g1, if_neg (by omega), if_neg (by omega), rkV_lex (by omega) (by omega) (by omega)]
          rw [hcv] at hc
          refine Ev.bind (impl_RankOfTree_ev R2.1 (by omega) (rank_of g1 hk')) (Ev.bind hc ?_)
          refine Ev.pos (by trivial) (Ev.pos ?_ (Ev.pos (by trivial) (Ev.some (by simp))))
          rw [w64 (by omega)]
          exact g3
    have five : Ev (fun k => laws_FnRanks.j5 k R1.1 R1.2 R2.2 q (firstR q).2 t R2.1 (firstR q).1 (lastR q).1) true := by
      apply Ev.succ
      simp only [laws_FnRanks.j5]
      by_cases c5 : 1 ≤ q ∧ q ≤ 24
      · have ef : firstR q = (firstD q.toNat, 0) := by unfold firstR; rw [if_pos c5]
        have el : lastR q = (lastD q.toNat, 0) := by unfold lastR; rw [if_pos c5]
        obtain ⟨⟨k1, a1, a2, a3⟩, k2, b1, b2, b3⟩ := ends q.toNat (by omega)
        have ht2 := tab_ok q.toNat 1 (by omega) (by omega)
        rw [ef] at hf
        rw [el] at hla
        rw [ef, el]
        refine Ev.pos (by trivial) ?_
        refine Ev.bind (impl_RankOfTree_ev _ (by simp only at hf ⊢; omega) (rank_of a1 (by omega))) (Ev.bind (impl_RankOfTree_ev _ (by simp only at hla ⊢; omega) (rank_of b1 (by omega))) ?_)
        simp only [impl_CountTrees_eq, Option.bind_some]
        rw [if_pos (by omega)]
        refine Ev.pos (by trivial) (Ev.pos (by trivial) (Ev.pos (by trivial) (Ev.pos a3 (Ev.pos ?_ last))))
        rw [w64 (by omega)]
        exact b3
      · have ef : firstR q = ([], 2) := by unfold firstR; rw [if_neg c5]
        rw [ef]
        exact Ev.neg (by simp) (by rw [ef] at *; exact last)
    by_cases c4 : R3.2 = 0
    · obtain ⟨⟨s1, s2⟩, s3, s4⟩ := t1.1 c4
      obtain ⟨s5, s6⟩ := t2 c4
      obtain ⟨k, k1, k2, k3⟩ := torO_tree n.toNat (by omega) r R3.1 s3 hr s4 s5
      refine Ev.pos c4 (Ev.bind (impl_RankOfTree_ev R3.1 (by omega) (rank_of k1 (by omega))) (Ev.pos (by trivial) (Ev.pos k3 five)))
    · exact Ev.neg c4 five

end Go.Proofs.Ytocachknmgefaaa.Pure
