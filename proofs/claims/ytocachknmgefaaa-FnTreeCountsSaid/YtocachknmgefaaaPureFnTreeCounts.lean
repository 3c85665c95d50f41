/- The pure statement of the law FnTreeCounts is proved. Conditions: those of the statement alone. -/
import Derived.Test.YtocachknmgefaaaQFnTreeCountsx15
import Derived.Test.YtocachknmgefaaaVFnTreeCountsBase
import Derived.Test.YtocachknmgefaaaVFnTreeCountsBase2
import Derived.Test.YtocachknmgefaaaVFnTreeCountsBin
import Derived.Test.YtocachknmgefaaaVFnTreeCountsBase3
import Derived.Test.YtocachknmgefaaaVFnTreeCountsBase4
import Derived.Test.YtocachknmgefaaaVFnTreeCountsBase5
import Derived.Test.YtocachknmgefaaaVFnTreeCountsBase6
import Derived.Test.YtocachknmgefaaaVFnTreeCountsPar
import Derived.Test.YtocachknmgefaaaVFnTreeCountsPar2
import Derived.Test.YtocachknmgefaaaVFnTreeCountsRem
import Derived.Test.YtocachknmgefaaaVFnTreeCountsBin2
import Derived.Test.YtocachknmgefaaaVFnTreeCountsNum
namespace Go.Proofs.Ytocachknmgefaaa.Pure
open Go.RowKit Go.Proofs.Ytocachknmgefaaa.QFnTreeCounts Go.Proofs.Ytocachknmgefaaa.Base Go.Proofs.YtocachknmgefaaaW.PrintWords Go.Proofs.YtocachknmgefaaaW.PrintLast Go.Proofs.YtocachknmgefaaaW.PrintMore
open Go.Proofs.Ytocachknmgefaaa.Base.F
set_option linter.unusedVariables false
set_option linter.unusedSimpArgs false

theorem laws_big_eq (l : List Int) : laws_big.f l = some (decide ((l.length : Int) > 4096)) := rfl
theorem likeInts_self (a : List Int) (h : a.length ≤ 9223372036854775807) : Ev (fun k => laws_likeInts.f k a a) true := by
  have key : ∀ (m i : Nat), i + m = a.length → Ev (fun k => laws_likeInts.l0 k a a (i : Int)) true := by
    intro m
    induction m with
    | zero =>
      intro i hi
      refine Ev.succ ?_
      simp only [laws_likeInts.l0]
      exact Ev.neg (by omega) (Ev.now _)
    | succ m ih =>
      intro i hi
      refine Ev.succ ?_
      simp only [laws_likeInts.l0]
      refine Ev.pos (by omega) (Ev.pos (by omega) (Ev.pos (by omega) (Ev.pos (by trivial) ?_)))
      rw [w64 (x := (i : Int) + 1) (by omega), show (i : Int) + 1 = ((i + 1 : Nat) : Int) by omega]
      exact ih (i + 1) (by omega)
  unfold laws_likeInts.f
  exact Ev.pos (by trivial) (key a.length 0 (by omega))
theorem laws_sum_ev (l : List Int) (hl : l.length ≤ 1000) (hx : ∀ x ∈ l, 0 ≤ x ∧ x ≤ 1000) : Ev (fun k => laws_sum.f k l) l.sum := by
  have key : ∀ (xs : List Int) (i : Nat) (acc : Int), l.drop i = xs → i + xs.length = l.length → 0 ≤ acc → acc ≤ 1000 * (i : Int) → Ev (fun k => laws_sum.l0 k l acc (i : Int)) (acc + xs.sum) := by
    intro xs
    induction xs with
    | nil =>
      intro i acc h hi _ _
      simp only [List.length_nil] at hi
      apply Ev.succ
      simp only [laws_sum.l0]
      exact Ev.neg (by omega) (Ev.some (by simp))
    | cons x xs ih =>
      intro i acc h hi h0 h1
      simp only [List.length_cons] at hi
      have hr := rd_drop h
      have hm : x ∈ l := List.mem_of_mem_drop (i := i) (by rw [h]; simp)
      have hb := hx x hm
      apply Ev.succ
      simp only [laws_sum.l0, hr]
      refine Ev.pos (by omega) (Ev.pos (by omega) ?_)
      rw [w64 (x := acc + x) (by omega), w64 (x := (i : Int) + 1) (by omega), List.sum_cons, ← Int.add_assoc]
      exact ih (i + 1) (acc + x) (drop_cons h).2.2 (by omega) (by omega) (by omega)
  have e := key l 0 0 rfl (by omega) (by omega) (by omega)
  rw [Int.zero_add] at e
  exact e
theorem from_ev (l : List Int) (hl : l.length ≤ 4096) : ∃ h, Ev (fun k => spec_l01From.f k l) (l, 0, h) := by
  have key : ∀ (m i : Nat) (h : Int), i + m = l.length → ∃ h', Ev (fun k => spec_l01From.l0 k l (i : Int) l 0 h) (l, 0, h') := by
    intro m
    induction m with
    | zero =>
      intro i h hi
      refine ⟨h, Ev.succ ?_⟩
      simp only [spec_l01From.l0]
      exact Ev.neg (by omega) (Ev.now _)
    | succ m ih =>
      intro i h hi
      obtain ⟨h', e⟩ := ih (i + 1) (IntKind.u64.wrap ((IntKind.u64.wrap ((IntKind.u64.wrap (h * 1099511628211)) + (IntKind.u64.wrap (rd l (i : Int))))) + 233)) (by omega)
      refine ⟨h', Ev.succ ?_⟩
      simp only [spec_l01From.l0]
      refine Ev.pos (by omega) (Ev.pos (by omega) (Ev.pos (by omega) ?_))
      rw [w64 (x := (i : Int) + 1) (by omega), show (i : Int) + 1 = ((i + 1 : Nat) : Int) by omega]
      exact e
  unfold spec_l01From.f
  exact key l.length 0 _ (by omega)
/-- bytes -/
def bytesL (c : List Int) : Prop := ∀ x ∈ c, 0 ≤ x ∧ x ≤ 255
theorem rd_mem {xs : List Int} {p : Nat} (h : p < xs.length) : rd xs (p : Int) ∈ xs := by
  rw [rd_of_get (List.getElem?_eq_getElem h)]
  exact List.getElem_mem h
/-- the next state of the hash, and what is drawn of it -/
def nextH (h : Int) : Int := IntKind.u64.wrap ((IntKind.u64.wrap (h * 6364136223846793005)) + 1442695040888963407)
def topH (h : Int) : Int := Go.bits .and .u64 ((nextH h) / 8589934592) 16777215
theorem wrap_u64_lt (n : Int) : 0 ≤ IntKind.u64.wrap n ∧ IntKind.u64.wrap n < 18446744073709551616 := by
  rw [IntKind.wrap_u64]
  omega
theorem topH_eq (h : Int) : topH h = (nextH h / 8589934592) % 16777216 := by
  have hb := wrap_u64_lt ((IntKind.u64.wrap (h * 6364136223846793005)) + 1442695040888963407)
  exact bits_mask .u64 64 (by decide) (fun n h0 h1 => by rw [IntKind.wrap_u64]; omega) 24 (by decide) (nextH h / 8589934592) (by unfold nextH; omega) (by unfold nextH; omega)
theorem next_ex (c : List Int) (p h n : Int) (hc : bytesL c) (hl : c.length ≤ 4096) (hp : 0 ≤ p) (hn : 1 ≤ n) : ∃ v p' h', spec_l01Next.f c p h n = some (v, p', h') ∧ (0 ≤ v ∧ v < n) ∧ 0 ≤ p' := by
  have ht := topH_eq h
  have hw : wrap64 (topH h) = topH h := w64 (by omega)
  unfold spec_l01Next.f
  rw [if_neg (by omega)]
  by_cases c1 : p < (c.length : Int)
  · rw [if_pos c1, if_pos hp, if_neg (by omega)]
    obtain ⟨i, rfl⟩ : ∃ i : Nat, p = i := ⟨p.toNat, by omega⟩
    have hx := hc _ (rd_mem (xs := c) (p := i) (by omega))
    refine ⟨_, _, _, rfl, ?_, ?_⟩
    · change 0 ≤ Int.tmod (wrap64 (wrap64 (topH h) + wrap64 (rd c (i : Int)))) n ∧ Int.tmod (wrap64 (wrap64 (topH h) + wrap64 (rd c (i : Int)))) n < n
      rw [hw, w64 (x := rd c (i : Int)) (by omega), w64 (x := topH h + rd c (i : Int)) (by omega), Int.tmod_eq_emod_of_nonneg (by omega)]
      exact ⟨Int.emod_nonneg _ (by omega), Int.emod_lt_of_pos _ (by omega)⟩
    · rw [w64 (by omega)]
      omega
  · rw [if_neg c1, if_neg (by omega)]
    refine ⟨_, _, _, rfl, ?_, hp⟩
    change 0 ≤ Int.tmod (wrap64 (topH h)) n ∧ Int.tmod (wrap64 (topH h)) n < n
    rw [hw, Int.tmod_eq_emod_of_nonneg (by omega)]
    exact ⟨Int.emod_nonneg _ (by omega), Int.emod_lt_of_pos _ (by omega)⟩
theorem pick_ex (c : List Int) (p h : Int) (l : List Int) (hc : bytesL c) (hl : c.length ≤ 4096) (hp : 0 ≤ p) (h0 : 0 < l.length) : ∃ v p' h', spec_l01Pick.f c p h l = some (v, p', h') ∧ v ∈ l ∧ 0 ≤ p' := by
  obtain ⟨v, p', h', e, hv, hp'⟩ := next_ex c p h (l.length : Int) hc hl hp (by omega)
  obtain ⟨i, rfl⟩ : ∃ i : Nat, v = i := ⟨v.toNat, by omega⟩
  refine ⟨rd l (i : Int), p', h', ?_, rd_mem (by omega), hp'⟩
  unfold spec_l01Pick.f
  rw [e]
  simp only [Option.bind_some]
  rw [if_pos (by omega), if_pos (by omega)]
theorem near_ex (c : List Int) (p h m : Int) (hc : bytesL c) (hl : c.length ≤ 4096) (hp : 0 ≤ p) (hm : 0 ≤ m ∧ m ≤ 4611686018427387904) : ∃ v p' h', spec_l01Near.f c p h m = some (v, p', h') ∧ (-4611686018427387904 ≤ v ∧ v ≤ 4611686018427387905) ∧ 0 ≤ p' := by
  have hw : wrap64 (m + 1) = m + 1 := w64 (by omega)
  obtain ⟨v, p', h', e, hv, hp'⟩ := next_ex c p h 14 hc hl hp (by omega)
  unfold spec_l01Near.f
  rw [e, hw]
  simp only [Option.bind_some]
  by_cases c0 : v = 0
  · rw [if_pos c0]
    obtain ⟨v2, p2, h2, e2, hv2, hp2⟩ := pick_ex c p' h' [(-1), m + 1, 1099511627776, (-4611686018427387904)] hc hl hp' (by simp)
    refine ⟨v2, p2, h2, by rw [e2]; rfl, ?_, hp2⟩
    simp only [List.mem_cons, List.not_mem_nil, or_false] at hv2
    omega
  · rw [if_neg c0]
    obtain ⟨v2, p2, h2, e2, hv2, hp2⟩ := next_ex c p' h' (m + 1) hc hl hp' (by omega)
    exact ⟨v2, p2, h2, by rw [e2]; rfl, by omega, hp2⟩
theorem mnmx (v : Int) : 0 ≤ mn (mx v 0) 31 ∧ mn (mx v 0) 31 ≤ 31 := by
  have e : mx v 0 = if v < 0 then 0 else v := rfl
  have e2 : mn (mx v 0) 31 = if 31 < mx v 0 then 31 else mx v 0 := rfl
  rw [e2, e]
  repeat' split
  all_goals omega
theorem l02DrawTwo_ex (c : List Int) (hc : bytesL c) (hl : c.length ≤ 4096) : ∃ n k, Ev (fun m => spec_l02DrawTwo.f m c) (n, k) ∧ (-4611686018427387904 ≤ n ∧ n ≤ 4611686018427387905) ∧ (-4611686018427387904 ≤ k ∧ k ≤ 4611686018427387905) := by
  obtain ⟨h, e0⟩ := from_ev c hl
  obtain ⟨v, p1, h1, e1, hv, hp1⟩ := pick_ex c 0 h [6, 12, 30] hc hl (by omega) (by simp)
  simp only [List.mem_cons, List.not_mem_nil, or_false] at hv
  obtain ⟨n, p2, h2, e2, hn, hp2⟩ := near_ex c p1 h1 v hc hl hp1 (by omega)
  have hm := mnmx n
  obtain ⟨k, p3, h3, e3, hk, hp3⟩ := near_ex c p2 h2 (mn (mx n 0) 31) hc hl hp2 (by omega)
  refine ⟨n, k, ?_, hn, hk⟩
  unfold spec_l02DrawTwo.f
  refine Ev.bind e0 ?_
  simp only [e1, e2, e3, Option.bind_some]
  exact Ev.now _
theorem DrawCountByLeaves_ex (c : List Int) (hc : bytesL c) (hl : c.length ≤ 4096) : ∃ n k, Ev (fun m => spec_DrawCountByLeaves.f m c) (n, k) ∧ (-4611686018427387904 ≤ n ∧ n ≤ 4611686018427387905) ∧ (-4611686018427387904 ≤ k ∧ k ≤ 4611686018427387905) := by
  obtain ⟨n, k, e, h⟩ := l02DrawTwo_ex c hc hl
  refine ⟨n, k, ?_, h⟩
  unfold spec_DrawCountByLeaves.f
  exact Ev.bind e (Ev.now _)
theorem impl_isCounted_eq (a : Int) : impl_isCounted.f a = some (decide (1 ≤ a ∧ a ≤ 30)) := by
  unfold impl_isCounted.f
  by_cases h : a ≥ 1
  · rw [if_pos h]
    congr 1
    rw [Bool.eq_iff_iff, decide_eq_true_eq, decide_eq_true_eq]
    omega
  · rw [if_neg h]
    congr 1
    rw [eq_comm, decide_eq_false_iff_not]
    omega
theorem impl_choose_table : ((List.range 31).all fun n => (List.range (n + 1)).all fun k => decide (impl_choose.f 40 (n : Int) (k : Int) = some (ch n k))) = true := by decide +kernel
theorem impl_choose_ev (n k : Int) (h : 0 ≤ n ∧ n ≤ 30) : Ev (fun m => impl_choose.f m n k) (chz n k) := by
  by_cases c : k < 0 ∨ k > n
  · unfold chz
    rw [if_pos c]
    unfold impl_choose.f
    by_cases c0 : k < 0
    · refine Ev.pos c0 (Ev.succ ?_)
      simp only [impl_choose.j0, if_true]
      exact Ev.now _
    · refine Ev.neg c0 (Ev.succ ?_)
      simp only [impl_choose.j0]
      exact Ev.pos (decide_eq_true (by omega)) (Ev.now _)
  · have t := of_decide_eq_true (all_two impl_choose_table (a := n.toNat) (b := k.toNat) (by omega) (by omega))
    rw [Int.toNat_of_nonneg (by omega), Int.toNat_of_nonneg (by omega)] at t
    unfold chz
    rw [if_neg c]
    exact Ev.of (impl_choose.mono n k) t
theorem spec_l01In_eq (a b c : Int) : spec_l01In.f a b c = some (decide (b ≤ a ∧ a ≤ c)) := by
  unfold spec_l01In.f
  by_cases h : a ≥ b
  · rw [if_pos h]
    congr 1
    rw [Bool.eq_iff_iff, decide_eq_true_eq, decide_eq_true_eq]
    omega
  · rw [if_neg h]
    congr 1
    rw [eq_comm, decide_eq_false_iff_not]
    omega
theorem spec_l02Numbers_eq (a b : Int) : spec_l02Numbers.f a b = some (decide ((1 ≤ a ∧ a ≤ 30) ∧ 0 ≤ b ∧ b ≤ a)) := by
  unfold spec_l02Numbers.f
  simp only [spec_l01In_eq, Option.bind_some, decide_eq_true_eq]
  by_cases h : 1 ≤ a ∧ a ≤ 30
  · rw [if_pos h]
    congr 1
    rw [Bool.eq_iff_iff, decide_eq_true_eq, decide_eq_true_eq]
    exact ⟨fun e => ⟨h, e⟩, fun e => e.2⟩
  · rw [if_neg h]
    congr 1
    rw [eq_comm, decide_eq_false_iff_not]
    exact fun e => h e.1
theorem spec_l02Choose_table : ((List.range 31).all fun n => (List.range (n + 1)).all fun k => decide (spec_l02Choose.f 40 (n : Int) (k : Int) = some (ch n k))) = true := by decide +kernel
theorem spec_l02Choose_ev (n k : Int) (h : 0 ≤ n ∧ n ≤ 30) : Ev (fun m => spec_l02Choose.f m n k) (chz n k) := by
  by_cases c : k < 0 ∨ k > n
  · unfold chz
    rw [if_pos c]
    unfold spec_l02Choose.f
    by_cases c0 : k < 0
    · refine Ev.pos c0 (Ev.succ ?_)
      simp only [spec_l02Choose.j0, if_true]
      exact Ev.now _
    · refine Ev.neg c0 (Ev.succ ?_)
      simp only [spec_l02Choose.j0]
      exact Ev.pos (decide_eq_true (by omega)) (Ev.now _)
  · have t := of_decide_eq_true (all_two spec_l02Choose_table (a := n.toNat) (b := k.toNat) (by omega) (by omega))
    rw [Int.toNat_of_nonneg (by omega), Int.toNat_of_nonneg (by omega)] at t
    unfold chz
    rw [if_neg c]
    exact Ev.of (spec_l02Choose.mono n k) t
def byLeaves (n k : Int) : Int := if n = 1 then k else wrap64 (Int.tdiv (wrap64 (chz (n - 1) k * chz (n - 1) (k - 1))) (n - 1))
theorem spec_CountByLeaves_ev (n k : Int) (hn : -9223372036854775808 ≤ n ∧ n ≤ 9223372036854775807) (hk : -9223372036854775808 ≤ k ∧ k ≤ 9223372036854775807) :
    Ev (fun m => spec_CountByLeaves.f m n k) (if (1 ≤ n ∧ n ≤ 30) ∧ 0 ≤ k ∧ k ≤ n then (byLeaves n k, 0) else (0, 2)) := by
  unfold spec_CountByLeaves.f
  simp only [spec_l02Numbers_eq, Option.bind_some, decide_eq_true_eq]
  by_cases c : (1 ≤ n ∧ n ≤ 30) ∧ 0 ≤ k ∧ k ≤ n
  · rw [if_pos c]
    refine Ev.pos c ?_
    unfold byLeaves
    by_cases c1 : n = 1
    · rw [if_pos c1]; exact Ev.pos c1 (Ev.now _)
    · rw [if_neg c1]
      refine Ev.neg c1 ?_
      rw [w64 (x := n - 1) (by omega), w64 (x := k - 1) (by omega)]
      refine Ev.bind (spec_l02Choose_ev _ _ (by omega)) (Ev.bind (spec_l02Choose_ev _ _ (by omega)) (Ev.neg (by omega) (Ev.now _)))
  · rw [if_neg c]
    exact Ev.neg c (Ev.now _)
theorem impl_CountByLeaves_ev (n k : Int) (hn : -9223372036854775808 ≤ n ∧ n ≤ 9223372036854775807) (hk : -9223372036854775808 ≤ k ∧ k ≤ 9223372036854775807) :
    Ev (fun m => impl_CountByLeaves.f m n k) (if (1 ≤ n ∧ n ≤ 30) ∧ 0 ≤ k ∧ k ≤ n then (byLeaves n k, 0) else (0, 2)) := by
  have key : ∀ b : Bool, (b = false ↔ (1 ≤ n ∧ n ≤ 30) ∧ 0 ≤ k ∧ k ≤ n) →
      Ev (fun m => impl_CountByLeaves.j0 m n k b) (if (1 ≤ n ∧ n ≤ 30) ∧ 0 ≤ k ∧ k ≤ n then (byLeaves n k, 0) else (0, 2)) := by
    intro b hb
    apply Ev.succ
    simp only [impl_CountByLeaves.j0]
    cases b with
    | true =>
      rw [if_neg (fun h => by have := hb.2 h; cases this)]
      simp only [if_true]
      exact Ev.now _
    | false =>
      have c := hb.1 rfl
      rw [if_pos c]
      simp only [Bool.false_eq_true, if_false]
      unfold byLeaves
      by_cases c1 : n = 1
      · rw [if_pos c1]; exact Ev.pos c1 (Ev.now _)
      · rw [if_neg c1]
        refine Ev.neg c1 ?_
        rw [w64 (x := n - 1) (by omega), w64 (x := k - 1) (by omega)]
        exact Ev.bind (impl_choose_ev _ _ (by omega)) (Ev.bind (impl_choose_ev _ _ (by omega)) (Ev.neg (by omega) (Ev.now _)))
  unfold impl_CountByLeaves.f
  simp only [impl_isCounted_eq, Option.bind_some, decide_eq_true_eq]
  by_cases c : 1 ≤ n ∧ n ≤ 30
  · refine Ev.pos c ?_
    by_cases c1 : k < 0
    · exact Ev.pos c1 (key true (by simp; omega))
    · refine Ev.neg c1 (key _ ?_)
      rw [decide_eq_false_iff_not]
      omega
  · exact Ev.neg c (key true (by simp; omega))
theorem impl_atMost_inner {R : List Int} (now : List Int) (hl : now.length = 31) (T I : Int) (m : Nat) (hm : m + 1 ≤ 30)
    (next : Ev (fun k => impl_atMost.l1 k now (lst now (m + 1) ++ List.replicate (30 - (m + 1)) 0) ((m + 1 + 1 : Nat) : Int) T I) R) :
    ∀ (d j : Nat), j + d = m + 1 → Ev (fun k => impl_atMost.l2 k now (lst now m ++ dot now (lst now m) (m + 1) j :: List.replicate (30 - (m + 1)) 0) ((m + 1 : Nat) : Int) ((j + 1 : Nat) : Int) T I) R := by
  have hL := lst_length now m
  intro d
  induction d with
  | zero =>
    intro j h
    obtain rfl : j = m + 1 := by omega
    apply Ev.succ
    simp (disch := omega) only [impl_atMost.l2, if_pos, if_neg, w64]
    rw [show ((m + 1 : Nat) : Int) + 1 = ((m + 1 + 1 : Nat) : Int) by omega]
    simp only [lst, List.append_assoc, List.singleton_append] at next
    exact next
  | succ d ih =>
    intro j h
    have hlen : (lst now m ++ dot now (lst now m) (m + 1) j :: List.replicate (30 - (m + 1)) 0).length = 31 := by
      simp only [List.length_append, List.length_cons, List.length_replicate, hL]; omega
    have h1 : rd (lst now m ++ dot now (lst now m) (m + 1) j :: List.replicate (30 - (m + 1)) 0) ((m + 1 : Nat) : Int) = dot now (lst now m) (m + 1) j := by
      have := rd_at (a := lst now m) (x := dot now (lst now m) (m + 1) j) (b := List.replicate (30 - (m + 1)) 0)
      rwa [hL] at this
    have h2 : rd (lst now m ++ dot now (lst now m) (m + 1) j :: List.replicate (30 - (m + 1)) 0) (((m + 1 : Nat) : Int) - ((j + 1 : Nat) : Int)) = rd (lst now m) (((m + 1 : Nat) : Int) - ((j + 1 : Nat) : Int)) := by
      rw [show ((m + 1 : Nat) : Int) - ((j + 1 : Nat) : Int) = ((m - j : Nat) : Int) by omega]
      exact rd_append_left (by omega)
    apply Ev.succ
    simp (disch := omega) only [impl_atMost.l2, if_pos, if_neg]
    rw [w64 (x := ((m + 1 : Nat) : Int) - ((j + 1 : Nat) : Int)) (by omega), w64 (x := ((j + 1 : Nat) : Int) + 1) (by omega), h1, h2]
    refine Ev.pos (by omega) (Ev.pos (by omega) ?_)
    have hs : (lst now m ++ dot now (lst now m) (m + 1) j :: List.replicate (30 - (m + 1)) 0).set (((m + 1 : Nat) : Int).toNat) (dot now (lst now m) (m + 1) (j + 1)) = lst now m ++ dot now (lst now m) (m + 1) (j + 1) :: List.replicate (30 - (m + 1)) 0 := by
      rw [Int.toNat_natCast, ← hL]
      exact set_at
    have := ih (j + 1) (by omega)
    rw [← hs] at this
    exact this
theorem impl_atMost_l1 {R : List Int} (now : List Int) (hl : now.length = 31) (h i : Int) (hi : 0 ≤ i ∧ i ≤ 31)
    (next : Ev (fun k => impl_atMost.l0 k ([0] ++ (lst now 30).take 30) h (i + 1)) R) :
    ∀ (e m : Nat), m + e = 30 → Ev (fun k => impl_atMost.l1 k now (lst now m ++ List.replicate (30 - m) 0) ((m + 1 : Nat) : Int) h i) R := by
  intro e
  induction e with
  | zero =>
    intro m hm
    obtain ⟨N, hN⟩ : ∃ N : Nat, N = 30 := ⟨_, rfl⟩
    have hL := lst_length now m
    have e1 : lst now m ++ List.replicate (30 - m) 0 = lst now m := by rw [show 30 - m = 0 by omega, List.replicate_zero, List.append_nil]
    rw [e1]
    have e2 : lst now 30 = lst now m := by rw [show 30 = m by omega]
    rw [e2] at next
    generalize lst now m = L at hL next ⊢
    have hT : (List.take 30 L).length = 30 := by rw [List.length_take]; omega
    apply Ev.succ
    simp only [impl_atMost.l1]
    refine Ev.neg (by omega) ?_
    simp only [Option.bind_some]
    generalize List.take 30 L = T at hT next ⊢
    refine Ev.pos (by omega) ?_
    refine Ev.pos (by simp only [List.length_cons, List.length_nil, hT]; omega) ?_
    rw [w64 (by omega)]
    exact next
  | succ e ihe =>
    intro m hm
    apply Ev.succ
    simp (disch := omega) only [impl_atMost.l1, if_pos]
    have := impl_atMost_inner now hl h i m (by omega) (ihe (m + 1) (by omega)) (m + 1) 0 (by omega)
    rw [show 30 - m = (30 - (m + 1)) + 1 by omega, List.replicate_succ]
    exact this
theorem low_next (i : Nat) : low 30 (i + 1) = [0] ++ (lst (low 30 i) 30).take 30 := by simp only [low, List.cons_append, List.nil_append]
theorem impl_atMost_l0 (h : Nat) (hh : h ≤ 31) : ∀ (d i : Nat), i + d = h → Ev (fun k => impl_atMost.l0 k (low 30 i) h i) (low 30 h) := by
  intro d
  induction d with
  | zero =>
    intro i hi
    obtain rfl : i = h := by omega
    apply Ev.succ
    simp only [impl_atMost.l0]
    exact Ev.neg (by omega) (Ev.now _)
  | succ d ih =>
    intro i hi
    have hl := low_length 30 i
    have next := ih (i + 1) (by omega)
    rw [low_next] at next
    generalize low 30 i = now at hl next ⊢
    generalize low 30 h = R at next ⊢
    have e1 := impl_atMost_l1 now hl h i (by omega) next 30 0 rfl
    have e0 : (List.replicate 31 (0 : Int)).set (0 : Int).toNat 1 = lst now 0 ++ List.replicate (30 - 0) 0 := by rw [List.replicate_succ]; rfl
    rw [← e0] at e1
    apply Ev.succ
    simp only [impl_atMost.l0, Option.bind_some]
    refine Ev.pos (by omega) (Ev.pos (by omega) (Ev.pos (by rw [List.length_replicate]; omega) ?_))
    exact e1
theorem impl_atMost_ev (h : Nat) (hh : h ≤ 31) : Ev (fun k => impl_atMost.f k ((h : Int) - 1)) (low 30 h) := by
  unfold impl_atMost.f
  refine Ev.pos (by omega) ?_
  rw [w64 (by omega), show (h : Int) - 1 + 1 = (h : Int) by omega]
  exact impl_atMost_l0 h hh h 0 (by omega)
theorem spec_l02Low_inner {R : List Int} (n : Nat) (hn : n ≤ 30) (out less : List Int) (hl : less.length = n + 1) (m : Nat) (hm : m + 1 ≤ n)
    (next : Ev (fun k => spec_l02Low.l0 k n out less (lst less (m + 1) ++ List.replicate (n - (m + 1)) 0) ((m + 1 + 1 : Nat) : Int)) R) :
    ∀ (d j : Nat), j + d = m + 1 → Ev (fun k => spec_l02Low.l1 k n out less (lst less m ++ dot less (lst less m) (m + 1) j :: List.replicate (n - (m + 1)) 0) ((m + 1 : Nat) : Int) ((j + 1 : Nat) : Int)) R := by
  have hL := lst_length less m
  intro d
  induction d with
  | zero =>
    intro j h
    obtain rfl : j = m + 1 := by omega
    apply Ev.succ
    simp (disch := omega) only [spec_l02Low.l1, if_pos, if_neg, w64]
    rw [show ((m + 1 : Nat) : Int) + 1 = ((m + 1 + 1 : Nat) : Int) by omega]
    simp only [lst, List.append_assoc, List.singleton_append] at next
    exact next
  | succ d ih =>
    intro j h
    have hlen : (lst less m ++ dot less (lst less m) (m + 1) j :: List.replicate (n - (m + 1)) 0).length = n + 1 := by
      simp only [List.length_append, List.length_cons, List.length_replicate, hL]; omega
    have h1 : rd (lst less m ++ dot less (lst less m) (m + 1) j :: List.replicate (n - (m + 1)) 0) ((m + 1 : Nat) : Int) = dot less (lst less m) (m + 1) j := by
      have := rd_at (a := lst less m) (x := dot less (lst less m) (m + 1) j) (b := List.replicate (n - (m + 1)) 0)
      rwa [hL] at this
    have h2 : rd (lst less m ++ dot less (lst less m) (m + 1) j :: List.replicate (n - (m + 1)) 0) (((m + 1 : Nat) : Int) - ((j + 1 : Nat) : Int)) = rd (lst less m) (((m + 1 : Nat) : Int) - ((j + 1 : Nat) : Int)) := by
      rw [show ((m + 1 : Nat) : Int) - ((j + 1 : Nat) : Int) = ((m - j : Nat) : Int) by omega]
      exact rd_append_left (by omega)
    apply Ev.succ
    simp (disch := omega) only [spec_l02Low.l1, if_pos, if_neg]
    rw [w64 (x := ((m + 1 : Nat) : Int) - ((j + 1 : Nat) : Int)) (by omega), w64 (x := ((j + 1 : Nat) : Int) + 1) (by omega), h1, h2]
    refine Ev.pos (by omega) (Ev.pos (by omega) ?_)
    have hs : (lst less m ++ dot less (lst less m) (m + 1) j :: List.replicate (n - (m + 1)) 0).set (((m + 1 : Nat) : Int).toNat) (dot less (lst less m) (m + 1) (j + 1)) = lst less m ++ dot less (lst less m) (m + 1) (j + 1) :: List.replicate (n - (m + 1)) 0 := by
      rw [Int.toNat_natCast, ← hL]
      exact set_at
    have := ih (j + 1) (by omega)
    rw [← hs] at this
    exact this
theorem spec_l02Low_l2 (n : Nat) (hn : n ≤ 30) (fs : List Int) (hf : fs.length = n + 1) :
    ∀ (d m : Nat), m + d = n → Ev (fun k => spec_l02Low.l2 k n ((0 :: fs.take m) ++ List.replicate (n - m) 0) fs ((m + 1 : Nat) : Int)) (0 :: fs.take n) := by
  intro d
  induction d with
  | zero =>
    intro m h
    obtain rfl : m = n := by omega
    apply Ev.succ
    simp (disch := omega) only [spec_l02Low.l2, if_neg]
    exact Ev.some (by simp)
  | succ d ih =>
    intro m h
    have hlen : ((0 :: fs.take m) ++ List.replicate (n - m) 0).length = n + 1 := by
      simp only [List.length_append, List.length_cons, List.length_replicate, List.length_take]; omega
    apply Ev.succ
    simp (disch := omega) only [spec_l02Low.l2, if_pos]
    rw [w64 (x := ((m + 1 : Nat) : Int) - 1) (by omega), w64 (x := ((m + 1 : Nat) : Int) + 1) (by omega)]
    refine Ev.pos (by omega) (Ev.pos (by omega) ?_)
    have hs : ((0 :: fs.take m) ++ List.replicate (n - m) 0).set (((m + 1 : Nat) : Int).toNat) (rd fs (((m + 1 : Nat) : Int) - 1)) = (0 :: fs.take (m + 1)) ++ List.replicate (n - (m + 1)) 0 := by
      have e := set_snoc (a := 0 :: fs.take m) (n := n - m) (v := rd fs (m : Int)) (by omega)
      have e1 : (0 :: fs.take m).length = m + 1 := by simp only [List.length_cons, List.length_take]; omega
      rw [e1] at e
      rw [Int.toNat_natCast, show ((m + 1 : Nat) : Int) - 1 = (m : Int) by omega, e, List.cons_append, take_rd_succ _ _ (by omega), show n - m - 1 = n - (m + 1) by omega]
    rw [hs]
    exact ih (m + 1) (by omega)
theorem spec_l02Low_ev (n : Nat) (hn : n ≤ 30) : ∀ h : Nat, h ≤ 31 → Ev (fun k => spec_l02Low.f k (n : Int) ((h : Int) - 1)) (low n h) := by
  intro h
  induction h with
  | zero =>
    intro _
    apply Ev.succ
    simp (disch := omega) only [spec_l02Low.f, if_pos, w64, Option.bind_some]
    refine Ev.some ?_
    rw [show ((n : Int) + 1).toNat = n + 1 by omega]
    rfl
  | succ h ih =>
    intro hh
    apply Ev.succ
    simp (disch := omega) only [spec_l02Low.f, if_pos, if_neg, w64, Option.bind_some]
    rw [show ((h + 1 : Nat) : Int) - 1 - 1 = (h : Int) - 1 by omega, show ((n : Int) + 1).toNat = n + 1 by omega]
    refine Ev.bind (ih (by omega)) (Ev.pos (by rw [List.length_replicate]; omega) ?_)
    have hl := low_length n h
    have e0 : (List.replicate (n + 1) (0 : Int)).set (0 : Int).toNat 1 = lst (low n h) 0 ++ List.replicate (n - 0) 0 := by
      rw [List.replicate_succ]; rfl
    have l0 : ∀ (d m : Nat), m + d = n → Ev (fun k => spec_l02Low.l0 k n (List.replicate (n + 1) 0) (low n h) (lst (low n h) m ++ List.replicate (n - m) 0) ((m + 1 : Nat) : Int)) (low n (h + 1)) := by
      intro d
      induction d with
      | zero =>
        intro m hm
        obtain rfl : m = n := by omega
        apply Ev.succ
        simp (disch := omega) only [spec_l02Low.l0, if_neg]
        have := spec_l02Low_l2 m hn (lst (low m h) m) (lst_length _ _) m 0 (by omega)
        rw [Nat.sub_self, List.replicate_zero, List.append_nil]
        simpa [low, List.replicate_succ] using this
      | succ d ihd =>
        intro m hm
        apply Ev.succ
        simp (disch := omega) only [spec_l02Low.l0, if_pos]
        have := spec_l02Low_inner n hn (List.replicate (n + 1) 0) (low n h) hl m (by omega) (ihd (m + 1) (by omega)) (m + 1) 0 (by omega)
        rw [show n - m = (n - (m + 1)) + 1 by omega, List.replicate_succ]
        exact this
    rw [e0]
    exact l0 n 0 (by omega)
def byHeight (n h : Int) : Int := wrap64 (rd (low 30 (h.toNat + 1)) n - rd (low 30 h.toNat) n)
theorem spec_CountByHeight_ev (n h : Int) :
    Ev (fun m => spec_CountByHeight.f m n h) (if (1 ≤ n ∧ n ≤ 30) ∧ 0 ≤ h ∧ h ≤ n then (byHeight n h, 0) else (0, 2)) := by
  unfold spec_CountByHeight.f
  simp only [spec_l02Numbers_eq, Option.bind_some, decide_eq_true_eq]
  by_cases c : (1 ≤ n ∧ n ≤ 30) ∧ 0 ≤ h ∧ h ≤ n
  · rw [if_pos c]
    refine Ev.pos c ?_
    obtain ⟨n', rfl⟩ : ∃ n' : Nat, n = n' := ⟨n.toNat, by omega⟩
    obtain ⟨h', rfl⟩ : ∃ h' : Nat, h = h' := ⟨h.toNat, by omega⟩
    have e1 := spec_l02Low_ev n' (by omega) (h' + 1) (by omega)
    have e2 := spec_l02Low_ev n' (by omega) h' (by omega)
    rw [show ((h' + 1 : Nat) : Int) - 1 = (h' : Int) by omega] at e1
    rw [w64 (x := (h' : Int) - 1) (by omega)]
    refine Ev.bind e1 (Ev.pos (by omega) (Ev.pos (by rw [low_length]; omega) (Ev.bind e2 (Ev.pos (by rw [low_length]; omega) (Ev.some ?_)))))
    unfold byHeight
    rw [Int.toNat_natCast, low_rd (n := n') (n' := 30) (by omega) _ n' (Nat.le_refl _), low_rd (n := n') (n' := 30) (by omega) _ n' (Nat.le_refl _)]
  · rw [if_neg c]
    exact Ev.neg c (Ev.now _)
theorem impl_CountByHeight_ev (n h : Int) :
    Ev (fun m => impl_CountByHeight.f m n h) (if (1 ≤ n ∧ n ≤ 30) ∧ 0 ≤ h ∧ h ≤ n then (byHeight n h, 0) else (0, 2)) := by
  have key : ∀ b : Bool, (b = false ↔ (1 ≤ n ∧ n ≤ 30) ∧ 0 ≤ h ∧ h ≤ n) →
      Ev (fun m => impl_CountByHeight.j0 m n h b) (if (1 ≤ n ∧ n ≤ 30) ∧ 0 ≤ h ∧ h ≤ n then (byHeight n h, 0) else (0, 2)) := by
    intro b hb
    apply Ev.succ
    simp only [impl_CountByHeight.j0]
    cases b with
    | true =>
      rw [if_neg (fun h => by have := hb.2 h; cases this)]
      simp only [if_true]
      exact Ev.now _
    | false =>
      have c := hb.1 rfl
      rw [if_pos c]
      simp only [Bool.false_eq_true, if_false]
      obtain ⟨n', rfl⟩ : ∃ n' : Nat, n = n' := ⟨n.toNat, by omega⟩
      obtain ⟨h', rfl⟩ : ∃ h' : Nat, h = h' := ⟨h.toNat, by omega⟩
      have e1 := impl_atMost_ev (h' + 1) (by omega)
      have e2 := impl_atMost_ev h' (by omega)
      rw [show ((h' + 1 : Nat) : Int) - 1 = (h' : Int) by omega] at e1
      rw [w64 (x := (h' : Int) - 1) (by omega)]
      refine Ev.bind e1 (Ev.pos (by omega) (Ev.pos (by rw [low_length]; omega) (Ev.bind e2 (Ev.pos (by rw [low_length]; omega) (Ev.some ?_)))))
      unfold byHeight
      rw [Int.toNat_natCast]
  unfold impl_CountByHeight.f
  simp only [impl_isCounted_eq, Option.bind_some, decide_eq_true_eq]
  by_cases c : 1 ≤ n ∧ n ≤ 30
  · refine Ev.pos c ?_
    by_cases c1 : h < 0
    · exact Ev.pos c1 (key true (by simp; omega))
    · refine Ev.neg c1 (key _ ?_)
      rw [decide_eq_false_iff_not]
      omega
  · exact Ev.neg c (key true (by simp; omega))
theorem impl_CountByRoot_eq (n k : Int) : impl_CountByRoot.f n k = some (if 1 ≤ n ∧ n ≤ 30 ∧ 0 ≤ k ∧ k ≤ n then (tab (n - 1).toNat k.toNat, 0) else (0, 2)) := by
  unfold impl_CountByRoot.f
  rw [impl_isCounted_eq, Option.bind_some]
  by_cases c : 1 ≤ n ∧ n ≤ 30 ∧ 0 ≤ k ∧ k ≤ n
  · rw [if_pos c, if_neg (by simp; omega), if_pos ⟨c.1, c.2.1⟩]
  · rw [if_neg c, if_pos (by simp; omega)]

/-- the numbers of trees, by their nodes -/
def catL : List Int := [0, 1, 1, 2, 5, 14, 42, 132, 429, 1430, 4862, 16796, 58786, 208012, 742900, 2674440, 9694845, 35357670, 129644790, 477638700, 1767263190, 6564120420, 24466267020, 91482563640, 343059613650, 1289904147324, 4861946401452, 18367353072152, 69533550916004, 263747951750360, 1002242216651368]
theorem spec_l02Catalan_all : ((List.range 31).all fun n => decide (n = 0 ∨ spec_l02Catalan.f 700 (n : Int) = some (catL.take (n + 1)))) = true := by decide +kernel
theorem spec_l02Catalan_ev (n : Nat) (h0 : 1 ≤ n) (h : n ≤ 30) : Ev (fun k => spec_l02Catalan.f k (n : Int)) (catL.take (n + 1)) := by
  have h := of_decide_eq_true (List.all_eq_true.1 spec_l02Catalan_all n (List.mem_range.2 (by omega)))
  rcases h with h | h
  · omega
  · exact Ev.of (spec_l02Catalan.mono n) h
/-- the numbers of lists of so many trees, by their nodes together -/
def wy : Nat → List Int
  | 0 => 1 :: List.replicate 29 0
  | t + 1 => (List.range 30).map fun m => dot catL (wy t) m m
theorem wy_length (t : Nat) : (wy t).length = 30 := by
  cases t with
  | zero => rfl
  | succ t => simp [wy]
theorem wy_at (t m : Nat) (h : m < 30) : rd (wy (t + 1)) (m : Int) = dot catL (wy t) m m := by
  apply rd_of_get
  simp [wy, h]
theorem wy_all : ((List.range 31).all fun n => (List.range (n + 1)).all fun k => decide (n = 0 ∨ rd (wy k) ((n - 1 : Nat) : Int) = tab (n - 1) k)) = true := by decide +kernel
theorem spec_CountByRoot_l2 {R : Int × Int} (n t : Nat) (hn : n ≤ 30) (x1 : Int) (m : Nat) (hm : m < n)
    (next : Ev (fun k => spec_CountByRoot.l1 k n x1 (catL.take (n + 1)) ((wy t).take n) ((wy (t + 1)).take (m + 1) ++ List.replicate (n - (m + 1)) 0) ((m + 1 : Nat) : Int)) R) :
    ∀ (d j : Nat), j + d = m → Ev (fun k => spec_CountByRoot.l2 k n x1 (catL.take (n + 1)) ((wy t).take n) ((wy (t + 1)).take m ++ dot catL (wy t) m j :: List.replicate (n - (m + 1)) 0) (m : Int) ((j + 1 : Nat) : Int)) R := by
  have hW := wy_length t
  have hW1 := wy_length (t + 1)
  have hL : ((wy (t + 1)).take m).length = m := by rw [List.length_take, hW1]; omega
  have hA : (catL.take (n + 1)).length = n + 1 := by rw [List.length_take]; show min (n + 1) 31 = n + 1; omega
  have hB : ((wy t).take n).length = n := by rw [List.length_take, hW]; omega
  intro d
  induction d with
  | zero =>
    intro j h
    obtain rfl : j = m := by omega
    apply Ev.succ
    simp (disch := omega) only [spec_CountByRoot.l2, if_neg, w64]
    rw [show (j : Int) + 1 = ((j + 1 : Nat) : Int) by omega]
    have e := take_rd_succ (wy (t + 1)) j (by omega)
    rw [wy_at t j (by omega)] at e
    rw [← e, List.append_assoc, List.singleton_append] at next
    exact next
  | succ d ih =>
    intro j h
    have hlen : ((wy (t + 1)).take m ++ dot catL (wy t) m j :: List.replicate (n - (m + 1)) 0).length = n := by
      simp only [List.length_append, List.length_cons, List.length_replicate, hL]; omega
    have h1 : rd ((wy (t + 1)).take m ++ dot catL (wy t) m j :: List.replicate (n - (m + 1)) 0) (m : Int) = dot catL (wy t) m j := by
      have := rd_at (a := (wy (t + 1)).take m) (x := dot catL (wy t) m j) (b := List.replicate (n - (m + 1)) 0)
      rwa [hL] at this
    have h2 : rd (catL.take (n + 1)) ((j + 1 : Nat) : Int) = rd catL ((j + 1 : Nat) : Int) := rd_take (by omega)
    have h3 : rd ((wy t).take n) ((m : Int) - ((j + 1 : Nat) : Int)) = rd (wy t) ((m : Int) - ((j + 1 : Nat) : Int)) := by
      rw [show (m : Int) - ((j + 1 : Nat) : Int) = ((m - (j + 1) : Nat) : Int) by omega]
      exact rd_take (by omega)
    apply Ev.succ
    simp (disch := omega) only [spec_CountByRoot.l2, if_pos, if_neg]
    rw [w64 (x := (m : Int) - ((j + 1 : Nat) : Int)) (by omega), w64 (x := ((j + 1 : Nat) : Int) + 1) (by omega), h1, h2, h3]
    refine Ev.pos (by omega) (Ev.pos (by omega) ?_)
    have hs : ((wy (t + 1)).take m ++ dot catL (wy t) m j :: List.replicate (n - (m + 1)) 0).set ((m : Int).toNat) (dot catL (wy t) m (j + 1)) = (wy (t + 1)).take m ++ dot catL (wy t) m (j + 1) :: List.replicate (n - (m + 1)) 0 := by
      have := set_at (a := (wy (t + 1)).take m) (x := dot catL (wy t) m j) (b := List.replicate (n - (m + 1)) 0) (v := dot catL (wy t) m (j + 1))
      rw [hL] at this
      rw [Int.toNat_natCast]
      exact this
    have := ih (j + 1) (by omega)
    rw [← hs] at this
    exact this
theorem spec_CountByRoot_l1 {R : Int × Int} (n t : Nat) (hn : n ≤ 30) (x1 : Int) (hx : 1 ≤ x1 ∧ x1 ≤ 30)
    (next : Ev (fun k => spec_CountByRoot.l0 k n (x1 - 1) (catL.take (n + 1)) ((wy (t + 1)).take n)) R) :
    ∀ (d m : Nat), m + d = n → Ev (fun k => spec_CountByRoot.l1 k n x1 (catL.take (n + 1)) ((wy t).take n) ((wy (t + 1)).take m ++ List.replicate (n - m) 0) (m : Int)) R := by
  intro d
  induction d with
  | zero =>
    intro m h
    obtain rfl : m = n := by omega
    apply Ev.succ
    simp (disch := omega) only [spec_CountByRoot.l1, if_neg, w64]
    rw [Nat.sub_self, List.replicate_zero, List.append_nil]
    exact next
  | succ d ih =>
    intro m h
    apply Ev.succ
    simp (disch := omega) only [spec_CountByRoot.l1, if_pos]
    have := spec_CountByRoot_l2 n t hn x1 m (by omega) (ih (m + 1) (by omega)) m 0 (by omega)
    rw [show n - m = (n - (m + 1)) + 1 by omega, List.replicate_succ]
    exact this
theorem spec_CountByRoot_l0 (n : Nat) (h1 : 1 ≤ n) (hn : n ≤ 30) :
    ∀ (d t : Nat), t + d ≤ 30 → Ev (fun k => spec_CountByRoot.l0 k n (d : Int) (catL.take (n + 1)) ((wy t).take n)) (rd (wy (t + d)) ((n - 1 : Nat) : Int), 0) := by
  intro d
  induction d with
  | zero =>
    intro t _
    have hB : ((wy t).take n).length = n := by rw [List.length_take, wy_length]; omega
    apply Ev.succ
    simp (disch := omega) only [spec_CountByRoot.l0, if_neg, if_pos, w64]
    refine Ev.some ?_
    rw [show (n : Int) - 1 = ((n - 1 : Nat) : Int) by omega, rd_take (by omega)]
    rfl
  | succ d ih =>
    intro t h
    apply Ev.succ
    simp (disch := omega) only [spec_CountByRoot.l0, if_pos]
    have e := ih (t + 1) (by omega)
    rw [show t + 1 + d = t + (d + 1) by omega, show (d : Int) = ((d + 1 : Nat) : Int) - 1 by omega] at e
    have := spec_CountByRoot_l1 n t hn ((d + 1 : Nat) : Int) (by omega) e n 0 (by omega)
    rw [Int.toNat_natCast]
    exact this
theorem spec_CountByRoot_ev (n k : Int) : Ev (fun m => spec_CountByRoot.f m n k) (if 1 ≤ n ∧ n ≤ 30 ∧ 0 ≤ k ∧ k ≤ n then (tab (n - 1).toNat k.toNat, 0) else (0, 2)) := by
  by_cases c : 1 ≤ n ∧ n ≤ 30 ∧ 0 ≤ k ∧ k ≤ n
  · rw [if_pos c]
    obtain ⟨m, rfl⟩ : ∃ m : Nat, n = m := ⟨n.toNat, by omega⟩
    obtain ⟨j, rfl⟩ : ∃ j : Nat, k = j := ⟨k.toNat, by omega⟩
    have h := of_decide_eq_true (all_two wy_all (a := m) (b := j) (by omega) (by omega))
    rcases h with h | h
    · omega
    · rw [Int.toNat_natCast, show ((m : Int) - 1).toNat = m - 1 by omega, ← h]
      unfold spec_CountByRoot.f
      refine Ev.bind (Ev.const (spec_l02Numbers_eq m j)) ?_
      refine Ev.pos (by simp; omega) (Ev.bind (spec_l02Catalan_ev m (by omega) (by omega)) (Ev.pos (by omega) (Ev.pos (by omega) ?_)))
      simp only [Option.bind_some, Int.toNat_natCast]
      refine Ev.pos (by rw [List.length_replicate]; omega) ?_
      have e := spec_CountByRoot_l0 m (by omega) (by omega) j 0 (by omega)
      rw [Nat.zero_add] at e
      have e0 : (List.replicate m (0 : Int)).set (0 : Int).toNat 1 = (wy 0).take m := by
        obtain ⟨i, rfl⟩ : ∃ i, m = i + 1 := ⟨m - 1, by omega⟩
        rw [List.replicate_succ, wy, List.take_succ_cons, List.take_replicate, show min i 29 = i by omega]
        rfl
      rw [e0]
      exact e
  · rw [if_neg c]
    unfold spec_CountByRoot.f
    refine Ev.bind (Ev.const (spec_l02Numbers_eq n k)) ?_
    exact Ev.neg (by simp; omega) (Ev.now _)
theorem DrawTreesOf_ex (c : List Int) (hc : bytesL c) (hl : c.length ≤ 4096) : ∃ n, Ev (fun k => spec_DrawTreesOf.f k c) n := by
  obtain ⟨h, e0⟩ := from_ev c hl
  obtain ⟨n, p1, h1, e1, hn, hp1⟩ := near_ex c 0 h 24 hc hl (by omega) (by omega)
  obtain ⟨v, p2, h2, e2, hv, hp2⟩ := pick_ex c p1 h1 [1, 2, 3, 4, 5, 6, 7, 8, n] hc hl hp1 (by simp)
  refine ⟨v, ?_⟩
  unfold spec_DrawTreesOf.f
  refine Ev.bind e0 ?_
  simp only [e1, e2, Option.bind_some]
  exact Ev.now _
theorem impl_isNodes_eq (n : Int) : impl_isNodes.f n = some (decide (1 ≤ n ∧ n ≤ 24)) := by
  unfold impl_isNodes.f
  by_cases c : 1 ≤ n
  · rw [if_pos c]
    congr 1
    rw [Bool.eq_iff_iff, decide_eq_true_eq, decide_eq_true_eq]
    omega
  · rw [if_neg c]
    congr 1
    rw [eq_comm, decide_eq_false_iff_not]
    omega


theorem spec_l02Whole_eq (n : Int) : spec_l02Whole.f n = some (decide (1 ≤ n ∧ n ≤ 24)) := by
  unfold spec_l02Whole.f
  rw [spec_l01In_eq]
  rfl
/-- the table, as rows -/
def tabR (n a : Nat) : List Int := (List.range (n + 2)).map fun b => tab a b
def tabL (n : Nat) : List (List Int) := (List.range (n + 1)).map fun a => tabR n a
theorem spec_l02Table_all : ((List.range 25).all fun n => decide (spec_l02Table.f 800 (n : Int) = some (tabL n))) = true := by decide +kernel
theorem spec_l02Table_ev (n : Nat) (h : n ≤ 24) : Ev (fun k => spec_l02Table.f k (n : Int)) (tabL n) :=
  Ev.of (spec_l02Table.mono n) (of_decide_eq_true (List.all_eq_true.1 spec_l02Table_all n (List.mem_range.2 (by omega))))
theorem tabL_length (n : Nat) : (tabL n).length = n + 1 := by simp [tabL]
theorem tabR_length (n a : Nat) : (tabR n a).length = n + 2 := by simp [tabR]
theorem tabL_at (n a : Nat) (h : a ≤ n) : rd_L2 (tabL n) (a : Int) = tabR n a := by
  unfold rd_L2
  rw [Int.toNat_natCast, List.getD_eq_getElem?_getD, tabL, List.getElem?_map, List.getElem?_range (by omega)]
  rfl
theorem tabR_at (n a b : Nat) (h : b < n + 2) : rd (tabR n a) (b : Int) = tab a b := by
  rw [rd_nat, List.getD_eq_getElem?_getD, tabR, List.getElem?_map, List.getElem?_range (by omega)]
  rfl
/-! ### The table's sums -/
/-- entries of a row, from a place on, added up -/
def us (a b : Nat) : Nat → Int
  | 0 => 0
  | c + 1 => tab a b + us a (b + 1) c
theorem tab_ok_all : ((List.range 31).all fun a => (List.range 32).all fun b => decide (0 ≤ tab a b ∧ tab a b ≤ 2305843009213693951)) = true := by decide +kernel
theorem tab_sum_all : ((List.range 30).all fun a => (List.range 31).all fun b => decide (tab (a + 1) (b + 1) = us a b (a + 1 - b))) = true := by decide +kernel
theorem tab_ok (a b : Nat) (ha : a ≤ 30) (hb : b ≤ 31) : 0 ≤ tab a b ∧ tab a b ≤ 2305843009213693951 :=
  of_decide_eq_true (all_range (all_range tab_ok_all (i := a) (by omega)) (i := b) (by omega))
theorem tab_sum (a b : Nat) (ha : a < 30) (hb : b < 31) : tab (a + 1) (b + 1) = us a b (a + 1 - b) :=
  of_decide_eq_true (all_range (all_range tab_sum_all (i := a) (by omega)) (i := b) (by omega))
theorem us_nonneg (a : Nat) (ha : a ≤ 30) : ∀ (c b : Nat), b + c ≤ 32 → 0 ≤ us a b c := by
  intro c
  induction c with
  | zero => intro b _; simp [us]
  | succ c ih =>
    intro b h
    have h1 := tab_ok a b ha (by omega)
    have h2 := ih (b + 1) (by omega)
    simp only [us]
    omega
theorem us_add (a : Nat) : ∀ (c b e : Nat), us a b (c + e) = us a b c + us a (b + c) e := by
  intro c
  induction c with
  | zero => intro b e; simp [us]
  | succ c ih =>
    intro b e
    rw [show c + 1 + e = (c + e) + 1 by omega]
    simp only [us]
    rw [ih (b + 1) e, show b + 1 + c = b + (c + 1) by omega]
    omega
/-! ### The tree with a rank -/
theorem tree_step (n : Nat) (hn : n ≤ 24) (left v need k : Nat) (hv : v + left + 1 = n) (h1 : 1 ≤ need) (hb : need - 1 + k ≤ left) (r : Int) (d : List Int) (hd : d.length ≤ 100) (m : Nat) :
    spec_l02Tree.l1 (m + 1) n r (tabL n) need d v k = if r ≥ tab left (need - 1 + k) then spec_l02Tree.l1 m n (wrap64 (r - tab left (need - 1 + k))) (tabL n) need d v ((k + 1 : Nat) : Int) else spec_l02Tree.l0 m n r (tabL n) ((need - 1 + k : Nat) : Int) (d ++ [(k : Int)]) ((v + 1 : Nat) : Int) := by
  have hd' : d.length < 17592186044416 := by omega
  have hL := tabL_length n
  have hR := tabR_length n left
  simp only [spec_l02Tree.l1]
  rw [w64 (x := (n : Int) - (v : Int)) (by omega), w64 (x := (n : Int) - (v : Int) - 1) (by omega), show (n : Int) - (v : Int) - 1 = (left : Int) by omega, w64 (x := (need : Int) - 1) (by omega),
    w64 (x := (need : Int) - 1 + (k : Int)) (by omega), show (need : Int) - 1 + (k : Int) = ((need - 1 + k : Nat) : Int) by omega, tabL_at n left (by omega), tabR_at n left _ (by omega), w64 (x := (k : Int) + 1) (by omega), w64 (x := (v : Int) + 1) (by omega),
    if_pos hd', if_pos (by omega), if_pos (by omega), if_pos (by omega), if_pos (by omega)]
  rfl
theorem tree_l1 (n : Nat) (hn : n ≤ 24) (left v need : Nat) (hv : v + left + 1 = n) (h1 : 1 ≤ need) (d : List Int) (hd : d.length ≤ 100) :
    ∀ (c k : Nat) (r : Int), 0 ≤ r → r ≤ 9223372036854775807 → r < us left (need - 1 + k) c → need - 1 + k + c ≤ left + 1 → ∀ fu, c < fu →
      ∃ (r' : Int) (k' : Nat), torI left fu (need - 1) k r = some (r', k') ∧ k' < k + c ∧ 0 ≤ r' ∧ r' ≤ r ∧ r' < tab left (need - 1 + k') ∧
        ∀ R : List Int × Bool, Ev (fun m => spec_l02Tree.l0 m n r' (tabL n) ((need - 1 + k' : Nat) : Int) (d ++ [(k' : Int)]) ((v + 1 : Nat) : Int)) R → Ev (fun m => spec_l02Tree.l1 m n r (tabL n) need d v k) R := by
  intro c
  induction c with
  | zero => intro k r h0 hm hr; simp only [us] at hr; omega
  | succ c ih =>
    intro k r h0 hm hr hb fu hfu
    obtain ⟨fu, rfl⟩ : ∃ m, fu = m + 1 := ⟨fu - 1, by omega⟩
    have ht := tab_ok left (need - 1 + k) (by omega) (by omega)
    by_cases c0 : r ≥ tab left (need - 1 + k)
    · simp only [us] at hr
      obtain ⟨r', k', e1, e2, e3, e4, e5, e6⟩ := ih (k + 1) (r - tab left (need - 1 + k)) (by omega) (by omega) (by rw [show need - 1 + (k + 1) = need - 1 + k + 1 by omega]; omega) (by omega) fu (by omega)
      refine ⟨r', k', ?_, by omega, e3, by omega, e5, fun R hR => ?_⟩
      · simp only [torI]
        rw [if_pos (by omega), if_pos c0, w64 (by omega)]
        exact e1
      · apply Ev.succ
        refine Ev.congr (fun m => (tree_step n hn left v need k hv h1 (by omega) r d hd m)) (Ev.pos c0 ?_)
        rw [w64 (by omega)]
        exact e6 R hR
    · refine ⟨r, k, ?_, by omega, h0, by omega, by omega, fun R hR => ?_⟩
      · simp only [torI]
        rw [if_pos (by omega), if_neg c0]
      · apply Ev.succ
        exact Ev.congr (fun m => (tree_step n hn left v need k hv h1 (by omega) r d hd m)) (Ev.neg c0 hR)
theorem tree_l0 (n : Nat) (hn : n ≤ 24) : ∀ (left v need : Nat) (r : Int) (d : List Int), v + left = n → need ≤ 31 → 0 ≤ r → r ≤ 9223372036854775807 → r < tab left need → d.length = v →
    ∃ e : List Int, torO left need r d = some e ∧ e.length = n ∧ Ev (fun m => spec_l02Tree.l0 m n r (tabL n) need d v) (e, true) := by
  intro left
  induction left with
  | zero =>
    intro v need r d hv _ _ _ _ hd
    refine ⟨d, rfl, by omega, ?_⟩
    apply Ev.succ
    simp only [spec_l02Tree.l0]
    exact Ev.neg (by omega) (Ev.now _)
  | succ left ih =>
    intro v need r d hv hneed h0 hm hr hd
    by_cases c : need = 0
    · subst c
      rw [tab_first] at hr
      omega
    · obtain ⟨b, rfl⟩ : ∃ b, need = b + 1 := ⟨need - 1, by omega⟩
      rw [tab_sum left b (by omega) (by omega)] at hr
      have hc : b + (left + 1 - b) ≤ left + 1 := by
        by_cases c2 : b ≤ left
        · omega
        · rw [show left + 1 - b = 0 by omega] at hr
          simp only [us] at hr
          omega
      obtain ⟨r', k', e1, e2, e3, e4, e5, e6⟩ := tree_l1 n hn left v (b + 1) (by omega) (by omega) d (by omega) (left + 1 - b) 0 r h0 hm (by rw [show b + 1 - 1 + 0 = b by omega]; exact hr) (by omega) 33 (by omega)
      obtain ⟨e, g1, g2, g3⟩ := ih (v + 1) (b + 1 - 1 + k') r' (d ++ [(k' : Int)]) (by omega) (by omega) e3 (by omega) e5 (by simp [hd])
      refine ⟨e, ?_, g2, ?_⟩
      · simp only [torO]
        rw [if_neg (by omega), e1]
        exact g1
      · apply Ev.succ
        simp only [spec_l02Tree.l0]
        exact Ev.pos (by omega) (e6 _ g3)
theorem tree_ex (n : Nat) (h1 : 1 ≤ n) (hn : n ≤ 24) (r : Int) (h0 : 0 ≤ r) (hm : r ≤ 9223372036854775807) :
    ∃ T : List Int × Bool, impl_treeOfRank.f n r = some T ∧ Ev (fun k => spec_l02Tree.f k n r) T ∧ T.1.length ≤ 24 ∧ (T.2 = true ↔ r < tab n 1) ∧ (T.2 = true → torO n 1 r [] = some T.1 ∧ T.1.length = n) := by
  have hL := tabL_length n
  have hR := tabR_length n n
  have step : ∀ T : List Int × Bool, (if r ≥ tab n 1 then Ev (fun _ => some (([] : List Int), false)) T else Ev (fun k => spec_l02Tree.l0 k n r (tabL n) 1 [] 0) T) → Ev (fun k => spec_l02Tree.f k n r) T := by
    intro T hT
    unfold spec_l02Tree.f
    refine Ev.bind (spec_l02Table_ev n hn) ?_
    refine Ev.pos (by omega) (Ev.pos (by omega) ?_)
    rw [tabL_at n n (Nat.le_refl _), show rd (tabR n n) 1 = tab n 1 from tabR_at n n 1 (by omega)]
    refine Ev.pos (by omega) ?_
    by_cases c : r ≥ tab n 1
    · rw [if_pos c] at hT
      exact Ev.pos c hT
    · rw [if_neg c] at hT
      exact Ev.neg c hT
  by_cases c : r ≥ tab n 1
  · refine ⟨([], false), ?_, step _ (by rw [if_pos c]; exact Ev.now _), by simp, by simp; omega, by simp⟩
    unfold impl_treeOfRank.f
    rw [if_pos (by omega), if_pos (by omega), Int.toNat_natCast, if_pos c]
  · obtain ⟨e, g1, g2, g3⟩ := tree_l0 n hn n 0 1 r [] (by omega) (by omega) h0 hm (by omega) rfl
    refine ⟨(e, true), ?_, step _ (by rw [if_neg c]; exact g3), by simp [g2, hn], by simp; omega, fun _ => ⟨g1, g2⟩⟩
    unfold impl_treeOfRank.f
    rw [if_pos (by omega), if_pos (by omega), Int.toNat_natCast, if_neg c, g1]
    rfl
theorem tab_small_all : ((List.range 8).all fun n => decide (tab n 1 ≤ 132)) = true := by decide +kernel
theorem tab_small (n : Nat) (h : n ≤ 7) : tab n 1 ≤ 132 := of_decide_eq_true (all_range tab_small_all (i := n) (by omega))
theorem trees_loop (n : Nat) (h1 : 1 ≤ n) (hn : n ≤ 7) : ∀ (d r : Nat) (acc : List S26), (r : Int) + d = tab n 1 → acc.length = r → (∀ x ∈ acc, x.f0.length ≤ 24) →
    ∃ R : List S26, Ev (fun k => spec_TreesOf.l0 k n acc r) (R, 0) ∧ Ev (fun k => impl_treesOf.l0 k n acc r) R ∧ R.length ≤ 132 ∧ (R.length : Int) = tab n 1 ∧ ∀ x ∈ R, x.f0.length ≤ 24 := by
  have ht := tab_small n hn
  intro d
  induction d with
  | zero =>
    intro r acc hr ha hx
    obtain ⟨T, t1, t2, t3, t4, _⟩ := tree_ex n h1 (by omega) (r : Int) (by omega) (by omega)
    have hf : T.2 = false := by
      cases hT : T.2 with
      | false => rfl
      | true => have := t4.1 hT; omega
    refine ⟨acc, ?_, ?_, by omega, by omega, hx⟩
    · apply Ev.succ
      simp only [spec_TreesOf.l0]
      refine Ev.bind t2 (Ev.neg (by simp [hf]) (Ev.now _))
    · apply Ev.succ
      simp only [impl_treesOf.l0, t1, Option.bind_some]
      exact Ev.neg (by simp [hf]) (Ev.now _)
  | succ d ih =>
    intro r acc hr ha hx
    obtain ⟨T, t1, t2, t3, t4, _⟩ := tree_ex n h1 (by omega) (r : Int) (by omega) (by omega)
    have hf : T.2 = true := t4.2 (by omega)
    obtain ⟨R, r1, r2, r3, r4, r5⟩ := ih (r + 1) (acc ++ [⟨T.1⟩]) (by omega) (by simp [ha]) (by
      intro x hx'
      rcases List.mem_append.1 hx' with hx' | hx'
      · exact hx x hx'
      · simp only [List.mem_singleton] at hx'
        subst hx'
        exact t3)
    refine ⟨R, ?_, ?_, r3, r4, r5⟩
    · apply Ev.succ
      simp only [spec_TreesOf.l0]
      refine Ev.bind t2 (Ev.pos hf (Ev.pos (by omega) ?_))
      rw [w64 (by omega), show (r : Int) + 1 = ((r + 1 : Nat) : Int) by omega]
      exact r1
    · apply Ev.succ
      simp only [impl_treesOf.l0, t1, Option.bind_some]
      refine Ev.pos hf (Ev.pos (by omega) ?_)
      rw [w64 (by omega), show (r : Int) + 1 = ((r + 1 : Nat) : Int) by omega]
      exact r2
theorem TreesOf_ex (n : Int) : ∃ R : List S26 × Int, Ev (fun k => spec_TreesOf.f k n) R ∧ Ev (fun k => impl_TreesOf.f k n) R ∧ R.1.length ≤ 132 ∧ (∀ x ∈ R.1, x.f0.length ≤ 24) ∧ (R.2 = 0 → 1 ≤ n ∧ n ≤ 7 ∧ (R.1.length : Int) = tab n.toNat 1) := by
  unfold spec_TreesOf.f impl_TreesOf.f
  simp only [spec_l02Whole_eq, impl_isNodes_eq, Option.bind_some, decide_eq_true_eq]
  by_cases c : 1 ≤ n ∧ n ≤ 24
  · by_cases c2 : n > 7
    · exact ⟨([], 3), Ev.pos c (Ev.pos c2 (Ev.now _)), Ev.pos c (Ev.pos c2 (Ev.now _)), by simp, by simp, by simp⟩
    · obtain ⟨m, rfl⟩ : ∃ m : Nat, n = m := ⟨n.toNat, by omega⟩
      have h0 := tab_ok m 1 (by omega) (by omega)
      obtain ⟨d, hd⟩ : ∃ d : Nat, (d : Int) = tab m 1 := ⟨(tab m 1).toNat, by omega⟩
      obtain ⟨R, r1, r2, r3, r4, r5⟩ := trees_loop m (by omega) (by omega) d 0 [] (by simp [hd]) rfl (by simp)
      refine ⟨(R, 0), Ev.pos c (Ev.neg c2 r1), Ev.pos c (Ev.neg c2 ?_), r3, r5, fun _ => ⟨by omega, by omega, by rw [Int.toNat_natCast]; exact r4⟩⟩
      refine Ev.bind ?_ (Ev.now _)
      unfold impl_treesOf.f
      exact r2
  · exact ⟨([], 2), Ev.neg c (Ev.now _), Ev.neg c (Ev.now _), by simp, by simp, by simp⟩

theorem tree9_self (a : List Int) (h : a.length ≤ 9223372036854775807) : Ev (fun k => laws_tree9.f k a a) true := by
  unfold laws_tree9.f
  exact Ev.bind (likeInts_self a h) (Ev.now _)
theorem rdT_len {R : List S26} {n : Nat} (h : ∀ x ∈ R, x.f0.length ≤ n) (i : Int) : (rd_T26 R i).f0.length ≤ n := by
  unfold rd_T26
  rw [List.getD_eq_getElem?_getD]
  cases e : R[i.toNat]? with
  | none => simp [z26]
  | some x => exact h x (List.mem_of_getElem? e)
theorem trees9_self (R : List S26) (hl : R.length ≤ 10000) (hx : ∀ x ∈ R, x.f0.length ≤ 24) : Ev (fun k => laws_trees9.f k R R) true := by
  have key : ∀ (m i : Nat), i + m = R.length → Ev (fun k => laws_trees9.l0 k R R (i : Int)) true := by
    intro m
    induction m with
    | zero =>
      intro i hi
      apply Ev.succ
      simp only [laws_trees9.l0]
      exact Ev.neg (by omega) (Ev.now _)
    | succ m ih =>
      intro i hi
      have hb := rdT_len hx (i : Int)
      apply Ev.succ
      simp only [laws_trees9.l0]
      refine Ev.pos (by omega) (Ev.pos (by omega) (Ev.pos (by omega) (Ev.bind (tree9_self _ (by omega)) (Ev.pos (by trivial) ?_))))
      rw [w64 (x := (i : Int) + 1) (by omega), show (i : Int) + 1 = ((i + 1 : Nat) : Int) by omega]
      exact ih (i + 1) (by omega)
  unfold laws_trees9.f
  exact Ev.pos (by trivial) (key R.length 0 (by omega))
theorem spec_l01Own_eq (l : List Int) (h : l.length ≤ 1000) : spec_l01Own.f l = some l := by
  unfold spec_l01Own.f
  simp only [Option.bind_some]
  rw [if_pos (by simp; omega)]
  rfl
/-- a tree's degrees, by their sums -/
def okP (d : List Int) : Prop := (∀ x ∈ d, 0 ≤ x ∧ x ≤ d.length) ∧ d.sum = (d.length : Int) - 1 ∧ ∀ j, 0 < j → j < d.length → (j : Int) ≤ (d.take j).sum
theorem sum_set (d : List Int) (q : Nat) (x : Int) (h : q < d.length) : (d.set q x).sum = d.sum - d.getD q 0 + x := by
  induction d generalizing q with
  | nil => simp at h
  | cons y ys ih =>
    cases q with
    | zero => simp [List.set]; omega
    | succ q =>
      simp only [List.set, List.sum_cons, List.getD_cons_succ]
      rw [ih q (by simpa using h)]
      omega
theorem okP_step {d : List Int} {q : Nat} (h : okP d) (hq : q < d.length) : okP (d.set q (rd d (q : Int) + 1) ++ [0]) := by
  obtain ⟨h1, h2, h3⟩ := h
  have hlen : (d.set q (rd d (q : Int) + 1) ++ [0]).length = d.length + 1 := by simp
  have hr := rd_nat d q
  refine ⟨?_, ?_, ?_⟩
  · intro x hx
    rw [hlen]
    rcases List.mem_append.1 hx with hx | hx
    · rcases List.mem_or_eq_of_mem_set hx with hx | rfl
      · have := h1 x hx; omega
      · have := h1 _ (rd_mem hq); omega
    · simp only [List.mem_cons, List.not_mem_nil, or_false] at hx
      omega
  · rw [hlen, List.sum_append, sum_set _ _ _ hq, ← hr]
    simp
    omega
  · intro j hj0 hj
    rw [hlen] at hj
    rw [List.take_append_of_le_length (by simp; omega)]
    by_cases c : j ≤ q
    · rw [List.take_set_of_le c]
      exact h3 j hj0 (by omega)
    · rw [List.take_set, sum_set _ _ _ (by rw [List.length_take]; omega)]
      have e : (d.take j).getD q 0 = rd d (q : Int) := by
        rw [hr, List.getD_eq_getElem?_getD, List.getD_eq_getElem?_getD, List.getElem?_take, if_pos (by omega)]
      rw [e]
      by_cases c2 : j < d.length
      · have := h3 j hj0 c2
        omega
      · rw [List.take_of_length_le (by omega)]
        omega
theorem drawOf_tail {n deep N x9 v p1 h1 p h : Int} {c d w : List Int} {k j q : Nat} (h9 : x9 > 0) (e1 : spec_l01Next.f c p h deep = some (v, p1, h1)) (c0 : ¬ v = 0) (hj : wrap64 (x9 + 1) = (j : Int)) (hw : x9 < (w.length : Int)) (hjw : j ≤ w.length) (hw1 : w.length ≤ 1000) (hd1 : d.length ≤ 1000) (hq : rd w x9 = (q : Int)) (hqd : q < d.length) :
    spec_l01DrawOf.l1 (k + 1) n d w deep N x9 c p h = spec_l01DrawOf.l0 k n (d.set q (wrap64 (rd d (q : Int) + 1)) ++ [0]) (w.take j ++ [N]) deep (wrap64 (N + 1)) c p1 h1 := by
  have hm : (w.take j).length ≤ 1000 := by rw [List.length_take]; omega
  have hs : (d.set q (wrap64 (rd d (q : Int) + 1))).length ≤ 1000 := by rw [List.length_set]; omega
  generalize hD : d.set q (wrap64 (rd d (q : Int) + 1)) = D at hs ⊢
  simp only [spec_l01DrawOf.l1]
  rw [if_pos h9, e1, Option.bind_some]
  simp only [if_neg c0, hq, hj]
  rw [if_pos (by omega), if_pos hw, if_pos (by omega), if_pos (by omega), Option.bind_some, if_pos (by omega), if_pos (by omega), Int.toNat_natCast, Int.toNat_natCast, spec_l01Own_eq _ hm, Option.bind_some, if_pos (by omega), hD, if_pos (by omega)]
theorem drawOf_loop (c : List Int) (n : Nat) (deep : Int) (hc : bytesL c) (hl : c.length ≤ 4096) (hn : n ≤ 900) (hd : 1 ≤ deep) : ∀ (m : Nat) (d w : List Int) (p h : Int), d.length + m = n → okP d → 0 < w.length → w.length ≤ d.length → (∀ x ∈ w, 0 ≤ x ∧ x < d.length) → 0 ≤ p →
    ∃ t p' h', Ev (fun k => spec_l01DrawOf.l0 k (n : Int) d w deep (d.length : Int) c p h) (t, p', h') ∧ okP t ∧ t.length = n ∧ 0 ≤ p' := by
  intro m
  induction m with
  | zero =>
    intro d w p h hm hok _ _ _ hp
    refine ⟨d, p, h, Ev.succ ?_, hok, by omega, hp⟩
    simp only [spec_l01DrawOf.l0]
    exact Ev.neg (by omega) (Ev.now _)
  | succ m ih =>
    intro d w p h hm hok hw0 hwd hw hp
    -- the step, from a place on the way
    have step : ∀ (i : Nat) (p h : Int), i < w.length → 0 ≤ p → ∃ t p' h', Ev (fun k => spec_l01DrawOf.l0 k (n : Int) (d.set (rd w (i : Int)).toNat (wrap64 (rd d (rd w (i : Int)) + 1)) ++ [0]) (w.take (i + 1) ++ [(d.length : Int)]) deep (wrap64 ((d.length : Int) + 1)) c p h) (t, p', h') ∧ okP t ∧ t.length = n ∧ 0 ≤ p' := by
      intro i p h hi hp
      have hm1 := hw _ (rd_mem hi)
      obtain ⟨q, hq⟩ : ∃ q : Nat, rd w (i : Int) = q := ⟨(rd w (i : Int)).toNat, by omega⟩
      rw [hq] at hm1 ⊢
      have hb := hok.1 _ (rd_mem (xs := d) (p := q) (by omega))
      rw [Int.toNat_natCast, w64 (x := rd d (q : Int) + 1) (by omega), w64 (x := (d.length : Int) + 1) (by omega)]
      have hlen : (d.set q (rd d (q : Int) + 1) ++ [0]).length = d.length + 1 := by simp
      have e := ih (d.set q (rd d (q : Int) + 1) ++ [0]) (w.take (i + 1) ++ [(d.length : Int)]) p h (by omega) (okP_step hok (by omega)) (by simp) (by rw [hlen]; simp; omega) (by
        intro x hx
        rw [hlen]
        rcases List.mem_append.1 hx with hx | hx
        · have := hw x (List.mem_of_mem_take hx); omega
        · simp only [List.mem_cons, List.not_mem_nil, or_false] at hx
          omega) hp
      rw [hlen] at e
      exact e
    have inner : ∀ (i : Nat) (p h : Int), i < w.length → 0 ≤ p → ∃ t p' h', Ev (fun k => spec_l01DrawOf.l1 k (n : Int) d w deep (d.length : Int) (i : Int) c p h) (t, p', h') ∧ okP t ∧ t.length = n ∧ 0 ≤ p' := by
      intro i
      induction i with
      | zero =>
        intro p h hi hp
        obtain ⟨t, p', h', e, ht⟩ := step 0 p h hi hp
        have hm1 := hw _ (rd_mem hi)
        refine ⟨t, p', h', Ev.succ ?_, ht⟩
        simp only [spec_l01DrawOf.l1]
        refine Ev.neg (by omega) ?_
        refine Ev.pos (by omega) (Ev.pos (by omega) (Ev.pos (by omega) (Ev.pos (by omega) ?_)))
        simp only [Option.bind_some]
        rw [(w64 (x := ((0 : Nat) : Int) + 1) (by omega)).trans (show ((0 : Nat) : Int) + 1 = 1 by omega)]
        refine Ev.pos (by omega) (Ev.pos (by omega) ?_)
        have eo := spec_l01Own_eq (w.take (0 + 1)) (by rw [List.length_take]; omega)
        rw [show (1 : Int).toNat = 0 + 1 from rfl, eo]
        simp only [Option.bind_some]
        refine Ev.pos (by rw [List.length_take]; omega) (Ev.pos (by rw [List.length_set]; omega) ?_)
        exact e
      | succ i ihi =>
        intro p h hi hp
        have hm1 := hw _ (rd_mem hi)
        obtain ⟨v, p1, h1, e1, hv, hp1⟩ := next_ex c p h deep hc hl hp hd
        by_cases c0 : v = 0
        · obtain ⟨t, p', h', e, ht⟩ := ihi p1 h1 (by omega) hp1
          refine ⟨t, p', h', Ev.succ ?_, ht⟩
          simp only [spec_l01DrawOf.l1]
          refine Ev.pos (by omega) (Ev.bind (Ev.const e1) (Ev.pos c0 ?_))
          have ew : wrap64 (((i + 1 : Nat) : Int) - 1) = (i : Int) := by
            rw [w64 (by omega)]
            omega
          rw [ew]
          exact e
        · obtain ⟨t, p', h', e, ht⟩ := step (i + 1) p1 h1 hi hp1
          obtain ⟨q, hq⟩ : ∃ q : Nat, rd w ((i + 1 : Nat) : Int) = q := ⟨(rd w ((i + 1 : Nat) : Int)).toNat, by have := hw _ (rd_mem hi); omega⟩
          have hm2 := hw _ (rd_mem hi)
          rw [hq, Int.toNat_natCast] at e
          rw [hq] at hm2
          refine ⟨t, p', h', Ev.succ (Ev.congr (fun k => ?_) e), ht⟩
          have g1 : ((i + 1 : Nat) : Int) > 0 := by clear e hq; omega
          have g2 : ((i + 1 : Nat) : Int) < (w.length : Int) := by clear e hq; omega
          have g3 : i + 1 + 1 ≤ w.length := hi
          have g4 : w.length ≤ 1000 := by clear e hq; omega
          have g5 : d.length ≤ 1000 := by clear e hq; omega
          have g6 : q < d.length := by clear e hq; omega
          have g7 : ((i + 1 : Nat) : Int) + 1 = ((i + 1 + 1 : Nat) : Int) := by clear e hq; omega
          have g8 : -9223372036854775808 ≤ ((i + 1 : Nat) : Int) + 1 ∧ ((i + 1 : Nat) : Int) + 1 ≤ 9223372036854775807 := by clear e hq; omega
          exact drawOf_tail g1 e1 c0 ((w64 g8).trans g7) g2 g3 g4 g5 hq g6
    obtain ⟨t, p', h', e, ht⟩ := inner (w.length - 1) p h (by omega) hp
    refine ⟨t, p', h', Ev.succ ?_, ht⟩
    simp only [spec_l01DrawOf.l0]
    refine Ev.pos (by omega) ?_
    rw [w64 (x := (w.length : Int) - 1) (by omega), show (w.length : Int) - 1 = ((w.length - 1 : Nat) : Int) by omega]
    exact e
theorem drawOf_ex (c : List Int) (p h n : Int) (hc : bytesL c) (hl : c.length ≤ 4096) (hp : 0 ≤ p) (hn : 1 ≤ n ∧ n ≤ 900) : ∃ t p' h', Ev (fun k => spec_l01DrawOf.f k c p h n) (t, p', h') ∧ okP t ∧ t.length = n.toNat ∧ 0 ≤ p' := by
  obtain ⟨v, p1, h1, e1, hv, hp1⟩ := pick_ex c p h [1, 2, 4, 30] hc hl hp (by simp)
  obtain ⟨m, rfl⟩ : ∃ m : Nat, n = m := ⟨n.toNat, by omega⟩
  simp only [List.mem_cons, List.not_mem_nil, or_false] at hv
  obtain ⟨t, p', h', e, ht⟩ := drawOf_loop c m v hc hl (by omega) (by omega) (m - 1) [0] [0] p1 h1 (by simp; omega) ⟨by simp, by simp, by intro j hj hj2; simp at hj2; omega⟩ (by simp) (by simp) (by simp) hp1
  refine ⟨t, p', h', ?_, ht⟩
  simp only [spec_l01DrawOf.f, e1, Option.bind_some]
  exact e
theorem small_ex (c : List Int) (p h : Int) (hc : bytesL c) (hl : c.length ≤ 4096) (hp : 0 ≤ p) : ∃ t p' h', Ev (fun k => spec_l01Small.f k c p h) (t, p', h') ∧ okP t ∧ (1 ≤ t.length ∧ t.length ≤ 6) ∧ 0 ≤ p' := by
  obtain ⟨v, p1, h1, e1, hv, hp1⟩ := next_ex c p h 6 hc hl hp (by omega)
  obtain ⟨t, p', h', e, ho, ht, hp'⟩ := drawOf_ex c p1 h1 (1 + v) hc hl hp1 (by omega)
  refine ⟨t, p', h', ?_, ho, by omega, hp'⟩
  simp only [spec_l01Small.f, e1, Option.bind_some, w64 (x := 1 + v) (by omega)]
  exact Ev.bind e (Ev.now _)
/-- the degrees of trees behind others, if they are at most 24 -/
def jn : List S26 → List Int → Option (List Int)
  | [], d => some d
  | x :: xs, d => if (d ++ x.f0).length > 24 then none else jn xs (d ++ x.f0)
theorem jn_length : ∀ (xs : List S26) (d e : List Int), d.length ≤ 24 → jn xs d = some e → e.length ≤ 24 := by
  intro xs
  induction xs with
  | nil => intro d e h h1; simp only [jn, Option.some.injEq] at h1; subst h1; exact h
  | cons x xs ih =>
    intro d e h h1
    simp only [jn] at h1
    by_cases c : (d ++ x.f0).length > 24
    · rw [if_pos c] at h1; cases h1
    · rw [if_neg c] at h1
      exact ih _ _ (by omega) h1
/-- the answer: the joined tree, and its code -/
def joinR (ts : List S26) : List Int × Int :=
  if (ts.all fun t => isT t.f0) = true then (match jn ts [(ts.length : Int)] with | some d => (d, 0) | none => ([], 3)) else ([], 1)
theorem joinR_length (ts : List S26) : (joinR ts).1.length ≤ 24 := by
  unfold joinR
  by_cases c : (ts.all fun t => isT t.f0) = true
  · rw [if_pos c]
    cases h : jn ts [(ts.length : Int)] with
    | none => simp
    | some d => exact jn_length ts _ d (by simp) h
  · rw [if_neg c]; simp
theorem spec_l01Join_ev (ts : List S26) (hn : ts.length ≤ 1048576) (hx : ∀ x ∈ ts, x.f0.length ≤ 1048576) : Ev (fun k => spec_l01Join.f k ts) (match jn ts [(ts.length : Int)] with | some d => (d, true) | none => ([], false)) := by
  have key : ∀ (xs : List S26) (i : Nat) (d : List Int), ts.drop i = xs → i + xs.length = ts.length → d.length ≤ 24 → Ev (fun k => spec_l01Join.l0 k ts d (i : Int)) (match jn xs d with | some d => (d, true) | none => ([], false)) := by
    intro xs
    induction xs with
    | nil =>
      intro i d h hi hd
      simp only [List.length_nil] at hi
      apply Ev.succ
      simp only [spec_l01Join.l0, jn]
      exact Ev.neg (by omega) (Ev.now _)
    | cons x xs ih =>
      intro i d h hi hd
      simp only [List.length_cons] at hi
      have hmem : x ∈ ts := List.mem_of_mem_drop (by rw [h]; simp)
      have hxl := hx x hmem
      have hr : rd_T26 ts (i : Int) = x := by
        unfold rd_T26
        rw [Int.toNat_natCast, List.getD_eq_getElem?_getD, (drop_cons h).2.1]
        rfl
      apply Ev.succ
      simp only [spec_l01Join.l0, hr, jn, Option.bind_some]
      refine Ev.pos (by omega) (Ev.pos (by omega) (Ev.pos (by omega) ?_))
      by_cases c : (d ++ x.f0).length > 24
      · rw [if_pos c]
        exact Ev.pos (by omega) (Ev.now _)
      · rw [if_neg c, w64 (x := (i : Int) + 1) (by omega), show (i : Int) + 1 = ((i + 1 : Nat) : Int) by omega]
        exact Ev.neg (by omega) (ih (i + 1) _ (drop_cons h).2.2 (by omega) (by omega))
  unfold spec_l01Join.f
  exact key ts 0 _ rfl (by omega) (by simp)
/-- a tree's beginning: m trees are still to come behind it -/
def forP (d : List Int) (m : Nat) : Prop := 0 < d.length ∧ (∀ x ∈ d, 0 ≤ x ∧ x ≤ d.length + m) ∧ d.sum = (d.length : Int) - 1 + m ∧ ∀ j, 0 < j → j < d.length → (j : Int) ≤ (d.take j).sum
theorem forP_app {d u : List Int} {m : Nat} (h : forP d (m + 1)) (hu : okP u) : forP (d ++ u) m := by
  obtain ⟨h0, h1, h2, h3⟩ := h
  obtain ⟨u1, u2, u3⟩ := hu
  have hul : 0 < u.length := by
    cases u with
    | nil => simp at u2
    | cons x xs => simp
  refine ⟨by simp; omega, ?_, ?_, ?_⟩
  · intro x hx
    rw [List.length_append]
    rcases List.mem_append.1 hx with hx | hx
    · have := h1 x hx; omega
    · have := u1 x hx; omega
  · rw [List.sum_append, List.length_append, h2, u2]
    omega
  · intro j hj0 hj
    rw [List.length_append] at hj
    by_cases c : j ≤ d.length
    · rw [List.take_append_of_le_length c]
      by_cases c2 : j < d.length
      · exact h3 j hj0 c2
      · rw [List.take_of_length_le (by omega)]
        omega
    · rw [List.take_append, List.take_of_length_le (by omega), List.sum_append, h2]
      have := u3 (j - d.length) (by omega) (by omega)
      omega
theorem rep_join {u : List Int} (hu : okP u) (h5 : u.length ≤ 5) : ∀ (m : Nat) (d : List Int), forP d m → d.length + m * 5 ≤ 24 → ∃ e, jn (List.replicate m (⟨u⟩ : S26)) d = some e ∧ okP e ∧ 1 ≤ e.length ∧ e.length ≤ 24 := by
  intro m
  induction m with
  | zero =>
    intro d hd hl
    obtain ⟨h0, h1, h2, h3⟩ := hd
    exact ⟨d, rfl, ⟨fun x hx => by have := h1 x hx; omega, by omega, h3⟩, by omega, by omega⟩
  | succ m ih =>
    intro d hd hl
    simp only [List.replicate_succ, jn]
    rw [if_neg (by rw [List.length_append]; omega)]
    exact ih _ (forP_app hd hu) (by rw [List.length_append]; omega)
theorem last_ex (c : List Int) (p h : Int) (hc : bytesL c) (hl : c.length ≤ 4096) (hp : 0 ≤ p) : ∃ t p' h', Ev (fun k => spec_l01Draw.last k c p h) (t, p', h') ∧ okP t ∧ (1 ≤ t.length ∧ t.length ≤ 24) ∧ 0 ≤ p' := by
  obtain ⟨v, p1, h1, e1, hv, hp1⟩ := pick_ex c p h [8, 12, 24] hc hl hp (by simp)
  simp only [List.mem_cons, List.not_mem_nil, or_false] at hv
  obtain ⟨q, p2, h2, e2, hq, hp2⟩ := next_ex c p1 h1 v hc hl hp1 (by omega)
  obtain ⟨t, p3, h3, e3, ho, ht, hp3⟩ := drawOf_ex c p2 h2 (1 + q) hc hl hp2 (by omega)
  refine ⟨t, p3, h3, ?_, ho, by omega, hp3⟩
  simp only [spec_l01Draw.last, e1, e2, Option.bind_some, w64 (x := 1 + q) (by omega)]
  exact e3
theorem draw_ex (c : List Int) (p h : Int) (hc : bytesL c) (hl : c.length ≤ 4096) (hp : 0 ≤ p) : ∃ t p' h', Ev (fun k => spec_l01Draw.f k c p h) (t, p', h') ∧ okP t ∧ (1 ≤ t.length ∧ t.length ≤ 24) ∧ 0 ≤ p' := by
  obtain ⟨v, p1, h1, e1, hv, hp1⟩ := next_ex c p h 5 hc hl hp (by omega)
  by_cases c0 : v = 0
  · obtain ⟨t, p', h', e, ho, ht, hp'⟩ := small_ex c p1 h1 hc hl hp1
    refine ⟨t, p', h', ?_, ho, by omega, hp'⟩
    simp only [spec_l01Draw.f, e1, Option.bind_some]
    exact Ev.pos c0 e
  · by_cases c1 : v = 1
    · obtain ⟨b, p2, h2, e2, hb, hp2⟩ := next_ex c p1 h1 5 hc hl hp1 (by omega)
      obtain ⟨u, p3, h3, e3, hu, hul, hp3⟩ := drawOf_ex c p2 h2 (1 + b) hc hl hp2 (by omega)
      obtain ⟨n, p4, h4, e4, hn, hp4⟩ := next_ex c p3 h3 5 hc hl hp3 (by omega)
      obtain ⟨m, rfl⟩ : ∃ m : Nat, n = m := ⟨n.toNat, by omega⟩
      obtain ⟨e, je, ho, he⟩ := rep_join (u := u) hu (by omega) m [(m : Int)] ⟨by simp, by intro x hx; simp only [List.mem_cons, List.not_mem_nil, or_false] at hx; subst hx; simp only [List.length_cons, List.length_nil]; omega, by simp, by intro j hj hj2; simp at hj2; omega⟩ (by simp; omega)
      have ej := spec_l01Join_ev (List.replicate m (⟨u⟩ : S26)) (by simp; omega) (by intro x hx; rw [List.eq_of_mem_replicate hx]; show u.length ≤ 1048576; omega)
      rw [List.length_replicate, je] at ej
      refine ⟨e, p4, h4, ?_, ho, he, hp4⟩
      simp only [spec_l01Draw.f, e1, e2, Option.bind_some, w64 (x := 1 + b) (by omega)]
      refine Ev.neg c0 (Ev.pos c1 (Ev.bind e3 ?_))
      simp only [e4, Option.bind_some, spec_l01Draw.list, Int.toNat_natCast]
      exact Ev.pos (by omega) (Ev.pos (by omega) (Ev.bind ej (Ev.pos rfl (Ev.now _))))
    · obtain ⟨t, p', h', e, ho, ht, hp'⟩ := last_ex c p1 h1 hc hl hp1
      refine ⟨t, p', h', ?_, ho, ht, hp'⟩
      simp only [spec_l01Draw.f, e1, Option.bind_some]
      exact Ev.neg c0 (Ev.neg c1 e)
theorem spec_l01N_eq (d : List Int) : spec_l01N.f d = some (d.length : Int) := rfl
theorem spec_l01Make_eq (l : List Int) (h : l.length ≤ 1000) : spec_l01Make.f l = some l := by
  unfold spec_l01Make.f
  rw [spec_l01Own_eq l h]
  rfl
theorem spec_l01Copy_eq (l : List Int) (h : l.length ≤ 1000) : spec_l01Copy.f l = some l := by
  unfold spec_l01Copy.f
  rw [spec_l01Make_eq l h]
  rfl
theorem bad_ex (c : List Int) (p h : Int) (t : List Int) (hc : bytesL c) (hl : c.length ≤ 4096) (hp : 0 ≤ p) (ht : 1 ≤ t.length ∧ t.length ≤ 900) : ∃ t' p' h', spec_l01Bad.f c p h t = some (t', p', h') ∧ t'.length ≤ t.length + 1 ∧ 0 ≤ p' := by
  obtain ⟨v, p1, h1, e1, hv, hp1⟩ := next_ex c p h 50 hc hl hp (by omega)
  unfold spec_l01Bad.f
  rw [spec_l01Copy_eq t (by omega)]
  simp only [Option.bind_some, e1]
  by_cases c0 : v = 0
  · rw [if_pos c0]
    exact ⟨_, _, _, rfl, by simp, hp1⟩
  · rw [if_neg c0]
    by_cases c1 : v = 1
    · rw [if_pos c1, spec_l01N_eq]
      obtain ⟨i, p2, h2, e2, hi, hp2⟩ := next_ex c p1 h1 (t.length : Int) hc hl hp1 (by omega)
      obtain ⟨x, p3, h3, e3, _, hp3⟩ := pick_ex c p2 h2 [(-1), 0, 1, 2, 25] hc hl hp2 (by simp)
      simp only [Option.bind_some, e2, e3]
      rw [if_pos (by omega), if_pos (by omega)]
      exact ⟨_, _, _, rfl, by simp, hp3⟩
    · rw [if_neg c1]
      by_cases c2 : v = 2
      · rw [if_pos c2, if_pos (by omega)]
        exact ⟨_, _, _, rfl, by simp, hp1⟩
      · rw [if_neg c2]
        exact ⟨_, _, _, rfl, by omega, hp1⟩
theorem spoil_ex (c : List Int) (p h : Int) (hc : bytesL c) (hl : c.length ≤ 4096) (hp : 0 ≤ p) : ∃ t p' h', Ev (fun k => spec_l01Spoil.f k c p h) (t, p', h') ∧ t.length ≤ 25 ∧ 0 ≤ p' := by
  obtain ⟨t, p1, h1, e1, _, ht, hp1⟩ := draw_ex c p h hc hl hp
  obtain ⟨t', p', h', e2, ht', hp'⟩ := bad_ex c p1 h1 t hc hl hp1 (by omega)
  refine ⟨t', p', h', ?_, by omega, hp'⟩
  unfold spec_l01Spoil.f
  refine Ev.bind e1 ?_
  simp only [e2, Option.bind_some]
  exact Ev.now _
theorem DrawCountsOfTree_ex (c : List Int) (hc : bytesL c) (hl : c.length ≤ 4096) : ∃ t, Ev (fun k => spec_DrawCountsOfTree.f k c) t ∧ t.length ≤ 25 := by
  obtain ⟨h, e0⟩ := from_ev c hl
  obtain ⟨t, p1, h1, e1, ht, _⟩ := spoil_ex c 0 h hc hl (by omega)
  refine ⟨t, ?_, ht⟩
  unfold spec_DrawCountsOfTree.f
  exact Ev.bind e0 (Ev.bind e1 (Ev.now _))
theorem impl_isTree_ev (d : List Int) (hm : d.length ≤ 9223372036854775807) : Ev (fun k => impl_isTree.f k d) (isT d) := by
  have key : ∀ (n i : Nat) (need : Int), i + n = d.length → d.length ≤ 24 → 0 ≤ need → need ≤ 1 + 24 * (i : Int) →
      Ev (fun k => impl_isTree.l0 k need d d.length i) (okT 24 (d.drop i) need) := by
    intro n
    induction n with
    | zero =>
      intro i need h h24 h0 h1
      apply Ev.succ
      simp (disch := omega) only [impl_isTree.l0, if_pos, if_neg]
      rw [List.drop_eq_nil_of_le (by omega)]
      exact Ev.some (by simp only [okT]; rw [Bool.eq_iff_iff]; simp)
    | succ n ih =>
      intro i need h h24 h0 h1
      apply Ev.succ
      have hi : i < d.length := by omega
      have hr : rd d i = d[i] := by rw [rd_nat, List.getD_eq_getElem?_getD, List.getElem?_eq_getElem hi]; rfl
      simp (disch := omega) only [impl_isTree.l0, if_pos, if_neg, hr]
      rw [List.drop_eq_getElem_cons hi]
      simp only [okT]
      by_cases c0 : need = 0
      · rw [if_pos c0]; exact Ev.pos c0 (Ev.now _)
      · rw [if_neg c0]
        refine Ev.neg c0 ?_
        by_cases c1 : d[i] < 0
        · rw [if_pos c1]; exact Ev.pos c1 (Ev.now _)
        · rw [if_neg c1]
          refine Ev.neg c1 ?_
          by_cases c2 : d[i] ≥ 24
          · rw [if_pos c2]; exact Ev.pos c2 (Ev.now _)
          · rw [if_neg c2]
            refine Ev.neg c2 ?_
            rw [w64 (x := d[i] - 1) (by omega), w64 (by omega), w64 (by omega)]
            exact ih (i + 1) _ (by omega) h24 (by omega) (by omega)
  unfold impl_isTree.f
  by_cases c1 : (d.length : Int) < 1
  · refine Ev.pos c1 (Ev.succ ?_)
    simp only [impl_isTree.j0, if_true]
    refine Ev.some ?_
    rw [eq_comm, Bool.eq_false_iff]
    intro h
    have := isT_length h
    omega
  · refine Ev.neg c1 (Ev.succ ?_)
    simp only [impl_isTree.j0, decide_eq_true_eq]
    by_cases c : (d.length : Int) > 24
    · refine Ev.pos c (Ev.some ?_)
      rw [eq_comm, Bool.eq_false_iff]
      intro h
      have := isT_length h
      omega
    · refine Ev.neg c ?_
      have := key d.length 0 1 (by omega) (by omega) (by omega) (by omega)
      rw [List.drop_zero] at this
      have e : isT d = okT 24 d 1 := by
        unfold isT
        rw [decide_eq_true (by omega : 1 ≤ d.length), decide_eq_true (by omega : d.length ≤ 24)]
        simp
      rw [e]
      exact this
theorem impl_IsTree_ev (d : List Int) (hm : d.length ≤ 9223372036854775807) : Ev (fun k => impl_IsTree.f k d) (isT d) := by
  unfold impl_IsTree.f
  exact Ev.bind (impl_isTree_ev d hm) (Ev.now _)
theorem slices_Max_int64_int64_ev (x : Int) (xs : List Int) (hl : xs.length ≤ 1000000) : Ev (fun m => slices_Max_int64_int64.f m (x :: xs)) (xs.foldl mx x) := by
  have key : ∀ (ys : List Int) (i : Nat) (m : Int), (x :: xs).drop i = ys → i + ys.length = (x :: xs).length → Ev (fun k => slices_Max_int64_int64.l0 k (x :: xs) m i) (ys.foldl mx m) := by
    intro ys
    induction ys with
    | nil =>
      intro i m h hi
      simp only [List.length_nil, List.length_cons] at hi
      refine Ev.step (fun k => by rw [slices_Max_int64_int64.l0]) ?_
      refine Ev.neg (by simp only [List.length_cons]; omega) (Ev.now _)
    | cons y ys ih =>
      intro i m h hi
      have hr := rd_drop h
      have hd := (drop_cons h).2.2
      simp only [List.length_cons] at hi
      refine Ev.step (fun k => by rw [slices_Max_int64_int64.l0]) ?_
      refine Ev.pos (by simp only [List.length_cons]; omega) (Ev.pos (by omega) ?_)
      rw [hr, w64 (by omega)]
      exact ih (i + 1) (mx m y) hd (by simp only [List.length_cons]; omega)
  unfold slices_Max_int64_int64.f
  exact Ev.neg (by simp only [List.length_cons]; omega) (Ev.pos (by simp only [List.length_cons]; omega) (key xs 1 x rfl (by simp only [List.length_cons]; omega)))
theorem impl_CountsOfTree_ev (d : List Int) (hd : d.length ≤ 9223372036854775807) {R} (h : treeR cntV [] d R) : Ev (fun m => impl_CountsOfTree.f m d) R := by
  rcases h with ⟨h, rfl⟩ | ⟨k, rfl, hk, h, rfl⟩
  · have e := impl_IsTree_ev d hd
    rw [h] at e
    unfold impl_CountsOfTree.f
    exact Ev.bind e (Ev.neg (by simp) (Ev.now _))
  · have e := impl_IsTree_ev (tr k) hd
    rw [h] at e
    have hl := tr_length k
    unfold impl_CountsOfTree.f
    refine Ev.bind e (Ev.pos rfl ?_)
    have hb : ∀ x ∈ tr k, 0 ≤ x ∧ x < 24 := fun x hx => by have := tr_bound x hx; omega
    have hne : tr k = (len k : Int) :: (degs k ++ []) := rfl
    have hnf := nf_bound (tr k) 0
    have hle := nf_le (tr k) 24 0 (by omega) (fun x hx => by have := hb x hx; omega) (by omega)
    have e2 := slices_Max_int64_int64_ev (len k : Int) (degs k ++ []) (by rw [List.append_nil, degs_length]; omega)
    have em := mx_nf (degs k ++ []) (len k : Int) (by omega) (fun x hx => (hb x (by rw [hne]; simp at hx ⊢; exact .inr hx)).1)
    have en : nf 0 (tr k) = nf ((len k : Int).toNat + 1) (degs k ++ []) := by
      rw [hne]
      simp only [nf]
      congr 1
    refine Ev.bind e2 ?_
    rw [w64 (by omega), em, ← en]
    refine Ev.pos (by omega) (Ev.pos (by omega) ?_)
    rw [Int.toNat_natCast]
    have key : ∀ (xs : List Int) (i : Nat) (p : List Int), (tr k).drop i = xs → i + xs.length = (tr k).length → p ++ xs = tr k → p.length ≤ 24 →
        Ev (fun m => impl_CountsOfTree.l0 m (cnt p (nf 0 (tr k))) (tr k) (tr k).length i) (cntV k, 0) := by
      intro xs
      induction xs with
      | nil =>
        intro i p h hi hp _
        simp only [List.length_nil] at hi
        rw [List.append_nil] at hp
        subst hp
        refine Ev.step (fun k => by rw [impl_CountsOfTree.l0]) ?_
        refine Ev.neg (by omega) (Ev.now _)
      | cons x xs ih =>
        intro i p h hi hp hpl
        have hr := rd_drop h
        have hd := (drop_cons h).2.2
        have hx : x ∈ tr k := by rw [← hp]; simp
        have hx1 := hb x hx
        have hx2 := hnf x hx
        simp only [List.length_cons] at hi
        have hpl2 : p.length + xs.length + 1 = (tr k).length := by rw [← hp]; simp; omega
        obtain ⟨n, rfl⟩ : ∃ n : Nat, x = n := ⟨x.toNat, by omega⟩
        have hcl := cnt_length p (nf 0 (tr k))
        have hcs := cnt_set p (nf 0 (tr k)) n (by omega)
        have hcr := cnt_rd p (nf 0 (tr k)) n (by omega)
        have hcc := List.count_le_length (a := (n : Int)) (l := p)
        refine Ev.step (fun k => by rw [impl_CountsOfTree.l0]) ?_
        refine Ev.pos (by omega) (Ev.pos (by omega) (Ev.pos (by omega) ?_))
        rw [hr]
        refine Ev.pos (by omega) (Ev.pos (by omega) ?_)
        rw [w64 (x := rd _ _ + 1) (by rw [hcr]; omega), w64 (by omega), Int.toNat_natCast, hcs]
        exact ih (i + 1) (p ++ [(n : Int)]) hd (by omega) (by rw [← hp]; simp) (by simp; omega)
    have h0 : List.replicate (nf 0 (tr k)) (0 : Int) = cnt [] (nf 0 (tr k)) := by
      refine List.ext_getElem (by simp [cnt]) (fun j h1 h2 => by simp [cnt])
    rw [h0]
    exact key (tr k) 0 [] rfl (by omega) rfl (by simp)
theorem spec_l01Is_ev (d : List Int) (hm : d.length ≤ 9223372036854775807) : Ev (fun k => spec_l01Is.f k d) (isT d) := by
  have key : ∀ (n i : Nat) (need : Int), i + n = d.length → d.length ≤ 24 → 0 ≤ need → need ≤ 1 + 24 * (i : Int) →
      Ev (fun k => spec_l01Is.l0 k need i d) (okT 25 (d.drop i) need) := by
    intro n
    induction n with
    | zero =>
      intro i need h h24 h0 h1
      apply Ev.succ
      simp (disch := omega) only [spec_l01Is.l0, if_pos, if_neg]
      rw [List.drop_eq_nil_of_le (by omega)]
      exact Ev.some (by simp only [okT]; rw [Bool.eq_iff_iff]; simp)
    | succ n ih =>
      intro i need h h24 h0 h1
      apply Ev.succ
      have hi : i < d.length := by omega
      have hr : rd d i = d[i] := by rw [rd_nat, List.getD_eq_getElem?_getD, List.getElem?_eq_getElem hi]; rfl
      simp (disch := omega) only [spec_l01Is.l0, if_pos, if_neg, spec_l01In_eq, Option.bind_some, decide_eq_true_eq, hr]
      rw [List.drop_eq_getElem_cons hi]
      simp only [okT]
      by_cases c0 : need = 0
      · rw [if_pos c0]; exact Ev.pos c0 (Ev.now _)
      · rw [if_neg c0]
        refine Ev.neg c0 ?_
        by_cases c1 : d[i] < 0
        · rw [if_pos c1]; exact Ev.neg (by omega) (Ev.now _)
        · rw [if_neg c1]
          by_cases c2 : d[i] ≥ 25
          · rw [if_pos c2]; exact Ev.neg (by omega) (Ev.now _)
          · rw [if_neg c2]
            refine Ev.pos (by omega) ?_
            rw [w64 (x := need - 1) (by omega), w64 (by omega), w64 (by omega), show need - 1 + d[i] = need + (d[i] - 1) by omega]
            exact ih (i + 1) _ (by omega) h24 (by omega) (by omega)
  unfold spec_l01Is.f
  simp only [spec_l01N_eq, Option.bind_some, spec_l01In_eq, decide_eq_true_eq]
  by_cases c : 1 ≤ (d.length : Int) ∧ (d.length : Int) ≤ 24
  · refine Ev.pos c ?_
    have := key d.length 0 1 (by omega) (by omega) (by omega) (by omega)
    rw [List.drop_zero, okT_25 d (by omega)] at this
    have e : isT d = okT 24 d 1 := by
      unfold isT
      rw [decide_eq_true (by omega : 1 ≤ d.length), decide_eq_true (by omega : d.length ≤ 24)]
      simp
    rw [e]
    exact this
  · refine Ev.neg c ?_
    refine Ev.some ?_
    rw [eq_comm, Bool.eq_false_iff]
    intro h
    have := isT_length h
    omega
theorem spec_CountsOfTree_ev (d : List Int) (hd : d.length ≤ 9223372036854775807) {R} (h : treeR cntV [] d R) : Ev (fun m => spec_CountsOfTree.f m d) R := by
  rcases h with ⟨h, rfl⟩ | ⟨k, rfl, hk, h, rfl⟩
  · have e := spec_l01Is_ev d hd
    rw [h] at e
    unfold spec_CountsOfTree.f
    exact Ev.bind e (Ev.neg (by simp) (Ev.now _))
  · have e := spec_l01Is_ev (tr k) hd
    rw [h] at e
    have hl := tr_length k
    unfold spec_CountsOfTree.f
    refine Ev.bind e (Ev.pos rfl ?_)
    have hb : ∀ x ∈ tr k, 0 ≤ x ∧ x < 24 := fun x hx => by have := tr_bound x hx; omega
    have key : ∀ (xs : List Int) (i : Nat) (p : List Int), (tr k).drop i = xs → i + xs.length = (tr k).length → p ++ xs = tr k → p.length ≤ 24 →
        Ev (fun m => spec_CountsOfTree.l0 m (cnt p (nf 0 p)) i (tr k)) (cntV k, 0) := by
      intro xs
      induction xs with
      | nil =>
        intro i p h hi hp _
        simp only [List.length_nil] at hi
        rw [List.append_nil] at hp
        subst hp
        refine Ev.step (fun k => by rw [spec_CountsOfTree.l0]) ?_
        refine Ev.neg (by omega) (Ev.now _)
      | cons x xs ih =>
        intro i p h hi hp hpl
        have hr := rd_drop h
        have hd := (drop_cons h).2.2
        have hx : x ∈ tr k := by rw [← hp]; simp
        have hx1 := hb x hx
        simp only [List.length_cons] at hi
        have hpl2 : p.length + xs.length + 1 = (tr k).length := by rw [← hp]; simp; omega
        obtain ⟨n, rfl⟩ : ∃ n : Nat, x = n := ⟨x.toNat, by omega⟩
        have hpb := nf_bound p 0
        have hnp := nf_le p 24 0 (by omega) (fun x hx => (hb x (by rw [← hp]; simp [hx])).2) (by omega)
        have grow : ∀ (e c : Nat), nf 0 p ≤ c → c + e = max (nf 0 p) (n + 1) → Ev (fun m => spec_CountsOfTree.l1 m (cnt p c) i (tr k)) (cntV k, 0) := by
          intro e
          induction e with
          | zero =>
            intro c hc he
            have hcl := cnt_length p c
            have hcs := cnt_set p c n (by omega)
            have hcr := cnt_rd p c n (by omega)
            have hcc := List.count_le_length (a := (n : Int)) (l := p)
            refine Ev.step (fun k => by rw [spec_CountsOfTree.l1]) ?_
            refine Ev.pos (by omega) (Ev.pos (by omega) ?_)
            rw [hr]
            refine Ev.neg (by omega) (Ev.pos (by omega) (Ev.pos (by omega) ?_))
            rw [w64 (x := rd _ _ + 1) (by rw [hcr]; omega), w64 (by omega), Int.toNat_natCast, hcs]
            have := ih (i + 1) (p ++ [(n : Int)]) hd (by omega) (by rw [← hp]; simp) (by simp; omega)
            have en : nf 0 (p ++ [(n : Int)]) = c := by
              rw [nf_append]
              simp only [nf]
              omega
            rw [en] at this
            exact this
          | succ e ihe =>
            intro c hc he
            have hcl := cnt_length p c
            refine Ev.step (fun k => by rw [spec_CountsOfTree.l1]) ?_
            refine Ev.pos (by omega) (Ev.pos (by omega) ?_)
            rw [hr]
            refine Ev.pos (by omega) (Ev.pos (by omega) ?_)
            rw [← cnt_push (fun x hx => by have := hpb x hx; omega)]
            exact ihe (c + 1) (by omega) (by omega)
        refine Ev.step (fun k => by rw [spec_CountsOfTree.l0]) ?_
        refine Ev.pos (by omega) ?_
        exact grow (max (nf 0 p) (n + 1) - nf 0 p) (nf 0 p) (Nat.le_refl _) (by omega)
    exact key (tr k) 0 [] rfl (by omega) rfl (by simp)
/-- a list of degrees whose sums are a tree's is a tree -/
theorem okT_of (m : Int) : ∀ (xs : List Int) (need : Int), (∀ x ∈ xs, 0 ≤ x ∧ x < m) → need + xs.sum = xs.length → (∀ j, j < xs.length → 1 + (j : Int) ≤ need + (xs.take j).sum) → okT m xs need = true := by
  intro xs
  induction xs with
  | nil => intro need _ h _; simp at h; simp [okT, h]
  | cons x xs ih =>
    intro need hx h hj
    have h0 := hj 0 (by simp)
    have hx0 := hx x (by simp)
    simp only [List.take_zero, List.sum_nil] at h0
    simp only [okT]
    rw [if_neg (by omega), if_neg (by omega), if_neg (by omega)]
    refine ih (need + (x - 1)) (fun y hy => hx y (by simp [hy])) ?_ (fun j hjl => ?_)
    · simp only [List.sum_cons, List.length_cons] at h
      omega
    · have := hj (j + 1) (by simp; omega)
      simp only [List.take_succ_cons, List.sum_cons] at this
      omega
theorem sum_ge : ∀ (xs : List Int), (∀ x ∈ xs, 0 ≤ x) → 0 ≤ xs.sum ∧ ∀ x ∈ xs, x ≤ xs.sum := by
  intro xs
  induction xs with
  | nil => intro _; simp
  | cons x xs ih =>
    intro h
    obtain ⟨i1, i2⟩ := ih (fun y hy => h y (by simp [hy]))
    have h0 := h x (by simp)
    rw [List.sum_cons]
    refine ⟨by omega, fun y hy => ?_⟩
    rcases List.mem_cons.1 hy with rfl | hy
    · omega
    · have := i2 y hy; omega
theorem okP_isT {d : List Int} (h : okP d) (h1 : 1 ≤ d.length ∧ d.length ≤ 24) : isT d = true := by
  obtain ⟨a1, a2, a3⟩ := h
  obtain ⟨s1, s2⟩ := sum_ge d (fun x hx => (a1 x hx).1)
  simp only [isT, Bool.and_eq_true, decide_eq_true_eq]
  refine ⟨h1.1, h1.2, okT_of 24 d 1 (fun x hx => ?_) (by omega) (fun j hj => ?_)⟩
  · have e1 := a1 x hx
    have e2 := s2 x hx
    omega
  · by_cases c : j = 0
    · subst c; simp
    · have := a3 j (by omega) hj
      omega
theorem cntV_len (k : F) (hk : sz k ≤ 23) : 1 ≤ (cntV k).length ∧ (cntV k).length ≤ 24 ∧ ∀ x ∈ cntV k, 0 ≤ x ∧ x ≤ 24 := by
  have hl := tr_length k
  have hb : ∀ x ∈ tr k, 0 ≤ x ∧ x < 24 := fun x hx => by have := tr_bound x hx; omega
  have hle := nf_le (tr k) 24 0 (by omega) (fun x hx => by have := hb x hx; omega) (by omega)
  have hnf := nf_bound (tr k) 0 (len k : Int) (by unfold tr; simp [degs])
  refine ⟨by unfold cntV; rw [cnt_length]; omega, by unfold cntV; rw [cnt_length]; omega, fun x hx => ?_⟩
  unfold cntV cnt at hx
  obtain ⟨j, _, rfl⟩ := List.mem_map.1 hx
  have := List.count_le_length (a := (j : Int)) (l := tr k)
  omega
theorem DrawCountByCounts_ex (c : List Int) (hc : bytesL c) (hl : c.length ≤ 4096) : ∃ l, Ev (fun k => spec_DrawCountByCounts.f k c) l := by
  obtain ⟨h, e0⟩ := from_ev c hl
  obtain ⟨v, p1, h1, e1, hv, hp1⟩ := pick_ex c 0 h [6, 20] hc hl (by omega) (by simp)
  simp only [List.mem_cons, List.not_mem_nil, or_false] at hv
  obtain ⟨u, p2, h2, e2, hu, hp2⟩ := next_ex c p1 h1 v hc hl hp1 (by omega)
  obtain ⟨t, p3, h3, e3, ho, ht, hp3⟩ := drawOf_ex c p2 h2 (1 + u) hc hl hp2 (by omega)
  have hi := okP_isT ho (by omega)
  obtain ⟨R, hR⟩ := treeR_ex cntV [] t
  have e4 := spec_CountsOfTree_ev t (by omega) hR
  obtain ⟨x, p4, h4, e5, hx, hp4⟩ := next_ex c p3 h3 8 hc hl hp3 (by omega)
  have hR1 : 1 ≤ R.1.length ∧ R.1.length ≤ 24 := by
    rcases hR with ⟨hf, _⟩ | ⟨k, _, hk, _, rfl⟩
    · rw [hi] at hf; cases hf
    · have := cntV_len k hk
      exact ⟨this.1, this.2.1⟩
  obtain ⟨y, p5, h5, e6, hy, hp5⟩ := next_ex c p4 h4 (R.1.length : Int) hc hl hp4 (by omega)
  obtain ⟨z, p6, h6, e7, hz, hp6⟩ := pick_ex c p5 h5 [0, 1, 2, (-1), 21] hc hl hp5 (by simp)
  obtain ⟨z2, p7, h7, e8, hz2, hp7⟩ := pick_ex c p4 h4 [0, 1] hc hl hp4 (by simp)
  have start : ∀ l, Ev (fun k => (if x = 0 then ((spec_l01Next.f c p4 h4 (R.1.length : Int)).bind fun bt489 => ((spec_l01Pick.f c bt489.2.1 bt489.2.2 (([0, 1, 2, (-1), 21] : List Int))).bind fun bt495 => (if 0 ≤ bt489.1 then (if bt489.1 < (R.1.length : Int) then (some (R.1.set (bt489.1 : Int).toNat bt495.1)) else (none)) else (none)))) else (if x = 1 then ((spec_l01Pick.f c p4 h4 (([0, 1] : List Int))).bind fun bt502 => (if R.1.length < 17592186044416 then (some (R.1 ++ [bt502.1])) else (none))) else (some R.1)))) l →
      Ev (fun k => spec_DrawCountByCounts.f k c) l := by
    intro l e
    unfold spec_DrawCountByCounts.f
    refine Ev.bind e0 ?_
    simp only [e1, e2, Option.bind_some]
    rw [w64 (x := 1 + u) (by omega)]
    refine Ev.bind e3 (Ev.bind e4 ?_)
    simp only [e5, Option.bind_some]
    exact e
  by_cases c0 : x = 0
  · refine ⟨R.1.set y.toNat z, start _ ?_⟩
    refine Ev.pos c0 ?_
    simp only [e6, e7, Option.bind_some]
    exact Ev.pos hy.1 (Ev.pos hy.2 (Ev.now _))
  · by_cases c1 : x = 1
    · refine ⟨R.1 ++ [z2], start _ ?_⟩
      refine Ev.neg c0 (Ev.pos c1 ?_)
      simp only [e8, Option.bind_some]
      exact Ev.pos (by omega) (Ev.now _)
    · exact ⟨R.1, start _ (Ev.neg c0 (Ev.neg c1 (Ev.now _)))⟩
theorem impl_CountByCounts_l1 (l : List Int) (hl : l.length ≤ 30) (n : Int) (hn : 1 ≤ n ∧ n ≤ 20) :
    ∀ (xs : List Int) (i : Nat) (out left : Int), l.drop i = xs → i + xs.length = l.length → left = sumI xs → left ≤ 20 → (∀ x ∈ xs, 0 ≤ x ∧ x ≤ 20) →
      Ev (fun k => impl_CountByCounts.l1 k n out left l l.length i) (wrap64 (Int.tdiv (cbcProd xs out left) n), 0) := by
  intro xs
  induction xs with
  | nil =>
    intro i out left h hi _ _ _
    simp only [List.length_nil] at hi
    apply Ev.succ
    simp (disch := omega) only [impl_CountByCounts.l1, if_neg]
    exact Ev.now _
  | cons x xs ih =>
    intro i out left h hi hL hb hx
    simp only [List.length_cons] at hi
    have hr := rd_drop h
    have hd := (drop_cons h).2.2
    have h1 := hx x (by simp)
    have h2 := sumI_nonneg xs (fun y hy => hx y (by simp [hy]))
    simp only [sumI] at hL
    apply Ev.succ
    simp (disch := omega) only [impl_CountByCounts.l1, if_pos, hr]
    refine Ev.bind (impl_choose_ev left x (by omega)) ?_
    rw [w64 (x := left - x) (by omega), w64 (x := (i : Int) + 1) (by omega)]
    simp only [cbcProd]
    exact ih (i + 1) _ (left - x) hd (by omega) (by omega) (by omega) (fun y hy => hx y (by simp [hy]))
theorem impl_CountByCounts_ev (l : List Int) : Ev (fun k => impl_CountByCounts.f k l) (cbc l) := by
  have key : l.length ≤ 30 → ∀ (xs : List Int) (i : Nat) (n c : Int), l.drop i = xs → i + xs.length = l.length → 0 ≤ n → n ≤ 20 * (i : Int) → 0 ≤ c → c ≤ 600 * (i : Int) → n + sumI xs = sumI l →
      (∀ n' c', cbcSum xs i n c = some (n', c') → ∀ x ∈ l, 0 ≤ x ∧ x ≤ 20) →
      Ev (fun k => impl_CountByCounts.l0 k l n c l l.length i) (match cbcSum xs i n c with
        | none => (0, 2)
        | some (n, c) => if n > 20 then (0, 2) else if c = n - 1 then (wrap64 (Int.tdiv (cbcProd l 1 n) n), 0) else (0, 5)) := by
    intro hl xs
    induction xs with
    | nil =>
      intro i n c h hi h0 h1 h2 h3 hs hx
      simp only [List.length_nil] at hi
      apply Ev.succ
      simp (disch := omega) only [impl_CountByCounts.l0, if_neg, cbcSum]
      simp only [sumI] at hs
      by_cases c0 : n > 20
      · rw [if_pos c0]; exact Ev.pos c0 (Ev.now _)
      · rw [if_neg c0]
        refine Ev.neg c0 ?_
        rw [w64 (x := n - 1) (by omega)]
        by_cases c1 : c = n - 1
        · rw [if_pos c1]
          refine Ev.pos c1 ?_
          exact impl_CountByCounts_l1 l hl n (by omega) l 0 1 n rfl (by omega) (by omega) (by omega) (hx n c rfl)
        · rw [if_neg c1]
          exact Ev.neg c1 (Ev.now _)
    | cons x xs ih =>
      intro i n c h hi h0 h1 h2 h3 hs hx
      simp only [List.length_cons] at hi
      have hr := rd_drop h
      have hd := (drop_cons h).2.2
      simp only [sumI] at hs
      apply Ev.succ
      simp (disch := omega) only [impl_CountByCounts.l0, if_pos, hr, cbcSum]
      by_cases c0 : 0 ≤ x ∧ x ≤ 20
      · have hx' : ∀ n' c', cbcSum xs ((i + 1 : Nat) : Int) (n + x) (c + (i : Int) * x) = some (n', c') → ∀ x ∈ l, 0 ≤ x ∧ x ≤ 20 := by
          intro n' c' e
          refine hx n' c' ?_
          simp only [cbcSum]
          rw [if_pos c0]
          exact e
        have hp := Int.mul_nonneg (show (0 : Int) ≤ (i : Int) by omega) c0.1
        have hq : (i : Int) * x ≤ 30 * 20 := Int.mul_le_mul (by omega) c0.2 c0.1 (by omega)
        rw [if_pos c0]
        refine Ev.neg (by omega) (Ev.neg (by omega) ?_)
        rw [w64 (x := n + x) (by omega), w64 (x := (i : Int) * x) (by omega), w64 (x := c + (i : Int) * x) (by omega), w64 (x := (i : Int) + 1) (by omega)]
        exact ih (i + 1) (n + x) (c + (i : Int) * x) hd (by omega) (by omega) (by omega) (by omega) (by omega) (by omega) hx'
      · rw [if_neg c0]
        by_cases c1 : x < 0
        · exact Ev.pos c1 (Ev.now _)
        · exact Ev.neg c1 (Ev.pos (by omega) (Ev.now _))
  unfold impl_CountByCounts.f cbc
  by_cases c0 : l.length < 1
  · rw [if_pos (Or.inl c0)]
    refine Ev.pos (by omega) (Ev.succ ?_)
    simp only [impl_CountByCounts.j0, if_true]
    exact Ev.now _
  · refine Ev.neg (by omega) ?_
    by_cases c1 : 30 < l.length
    · rw [if_pos (Or.inr (Or.inl c1))]
      refine Ev.pos (by omega) (Ev.succ ?_)
      simp only [impl_CountByCounts.j0, if_true]
      exact Ev.now _
    · refine Ev.neg (by omega) ?_
      rw [w64 (x := (l.length : Int) - 1) (by omega)]
      refine Ev.pos (by omega) (Ev.pos (by omega) (Ev.succ ?_))
      simp only [impl_CountByCounts.j0, beq_iff_eq]
      by_cases c2 : rd l ((l.length : Int) - 1) = 0
      · rw [if_pos (Or.inr (Or.inr c2))]
        exact Ev.pos c2 (Ev.now _)
      · rw [if_neg (by omega)]
        refine Ev.neg c2 ?_
        exact key (by omega) l 0 0 0 rfl (by omega) (by omega) (by omega) (by omega) (by omega) (by omega) (fun n' c' h => (cbcSum_tells l 0 0 0 n' c' (by omega) (by omega) h).2.2)
theorem spec_CountByCounts_l1 (l : List Int) (hl : l.length ≤ 30) (n : Int) (hn : 1 ≤ n ∧ n ≤ 20) :
    ∀ (xs : List Int) (i : Nat) (out left : Int), l.drop i = xs → i + xs.length = l.length → left = sumI xs → left ≤ 20 → (∀ x ∈ xs, 0 ≤ x ∧ x ≤ 20) →
      Ev (fun k => spec_CountByCounts.l1 k l n out left i) (wrap64 (Int.tdiv (cbcProd xs out left) n), 0) := by
  intro xs
  induction xs with
  | nil =>
    intro i out left h hi _ _ _
    simp only [List.length_nil] at hi
    apply Ev.succ
    simp (disch := omega) only [spec_CountByCounts.l1, if_neg]
    exact Ev.now _
  | cons x xs ih =>
    intro i out left h hi hL hb hx
    simp only [List.length_cons] at hi
    have hr := rd_drop h
    have hd := (drop_cons h).2.2
    have h1 := hx x (by simp)
    have h2 := sumI_nonneg xs (fun y hy => hx y (by simp [hy]))
    simp only [sumI] at hL
    apply Ev.succ
    simp (disch := omega) only [spec_CountByCounts.l1, if_pos, hr]
    refine Ev.bind (spec_l02Choose_ev left x (by omega)) ?_
    rw [w64 (x := left - x) (by omega), w64 (x := (i : Int) + 1) (by omega)]
    simp only [cbcProd]
    exact ih (i + 1) _ (left - x) hd (by omega) (by omega) (by omega) (fun y hy => hx y (by simp [hy]))
theorem spec_CountByCounts_ev (l : List Int) : Ev (fun k => spec_CountByCounts.f k l) (cbc l) := by
  have key : l.length ≤ 30 → ∀ (xs : List Int) (i : Nat) (n c : Int), l.drop i = xs → i + xs.length = l.length → 0 ≤ n → n ≤ 20 * (i : Int) → 0 ≤ c → c ≤ 600 * (i : Int) → n + sumI xs = sumI l →
      (∀ n' c', cbcSum xs i n c = some (n', c') → ∀ x ∈ l, 0 ≤ x ∧ x ≤ 20) →
      Ev (fun k => spec_CountByCounts.l0 k l n c i) (match cbcSum xs i n c with
        | none => (0, 2)
        | some (n, c) => if n > 20 then (0, 2) else if c = n - 1 then (wrap64 (Int.tdiv (cbcProd l 1 n) n), 0) else (0, 5)) := by
    intro hl xs
    induction xs with
    | nil =>
      intro i n c h hi h0 h1 h2 h3 hs hx
      simp only [List.length_nil] at hi
      apply Ev.succ
      simp (disch := omega) only [spec_CountByCounts.l0, if_neg, cbcSum]
      simp only [sumI] at hs
      by_cases c0 : n > 20
      · rw [if_pos c0]; exact Ev.pos c0 (Ev.now _)
      · rw [if_neg c0]
        refine Ev.neg c0 ?_
        rw [w64 (x := n - 1) (by omega)]
        by_cases c1 : c = n - 1
        · rw [if_pos c1]
          refine Ev.pos c1 ?_
          exact spec_CountByCounts_l1 l hl n (by omega) l 0 1 n rfl (by omega) (by omega) (by omega) (hx n c rfl)
        · rw [if_neg c1]
          exact Ev.neg c1 (Ev.now _)
    | cons x xs ih =>
      intro i n c h hi h0 h1 h2 h3 hs hx
      simp only [List.length_cons] at hi
      have hr := rd_drop h
      have hd := (drop_cons h).2.2
      simp only [sumI] at hs
      apply Ev.succ
      simp (disch := omega) only [spec_CountByCounts.l0, if_pos, hr, cbcSum]
      by_cases c0 : 0 ≤ x ∧ x ≤ 20
      · have hx' : ∀ n' c', cbcSum xs ((i + 1 : Nat) : Int) (n + x) (c + (i : Int) * x) = some (n', c') → ∀ x ∈ l, 0 ≤ x ∧ x ≤ 20 := by
          intro n' c' e
          refine hx n' c' ?_
          simp only [cbcSum]
          rw [if_pos c0]
          exact e
        have hp := Int.mul_nonneg (show (0 : Int) ≤ (i : Int) by omega) c0.1
        have hq : (i : Int) * x ≤ 30 * 20 := Int.mul_le_mul (by omega) c0.2 c0.1 (by omega)
        rw [if_pos c0]
        simp only [spec_l01In_eq, Option.bind_some, decide_eq_true_eq]
        refine Ev.pos c0 ?_
        rw [w64 (x := n + x) (by omega), w64 (x := (i : Int) * x) (by omega), w64 (x := c + (i : Int) * x) (by omega), w64 (x := (i : Int) + 1) (by omega)]
        exact ih (i + 1) (n + x) (c + (i : Int) * x) hd (by omega) (by omega) (by omega) (by omega) (by omega) (by omega) hx'
      · rw [if_neg c0]
        simp only [spec_l01In_eq, Option.bind_some, decide_eq_true_eq]
        exact Ev.neg c0 (Ev.now _)
  unfold spec_CountByCounts.f cbc
  by_cases c0 : l.length < 1
  · rw [if_pos (Or.inl c0)]
    refine Ev.pos (by omega) (Ev.succ ?_)
    simp only [spec_CountByCounts.j0, if_true]
    exact Ev.now _
  · refine Ev.neg (by omega) ?_
    by_cases c1 : 30 < l.length
    · rw [if_pos (Or.inr (Or.inl c1))]
      refine Ev.pos (by omega) (Ev.succ ?_)
      simp only [spec_CountByCounts.j0, if_true]
      exact Ev.now _
    · refine Ev.neg (by omega) ?_
      rw [w64 (x := (l.length : Int) - 1) (by omega)]
      refine Ev.pos (by omega) (Ev.pos (by omega) (Ev.succ ?_))
      simp only [spec_CountByCounts.j0, beq_iff_eq]
      by_cases c2 : rd l ((l.length : Int) - 1) = 0
      · rw [if_pos (Or.inr (Or.inr c2))]
        exact Ev.pos c2 (Ev.now _)
      · rw [if_neg (by omega)]
        refine Ev.neg c2 ?_
        exact key (by omega) l 0 0 0 rfl (by omega) (by omega) (by omega) (by omega) (by omega) (by omega) (fun n' c' h => (cbcSum_tells l 0 0 0 n' c' (by omega) (by omega) h).2.2)
theorem impl_CountTrees_eq (n : Int) : impl_CountTrees.f n = some (if 1 ≤ n ∧ n ≤ 30 then (tab n.toNat 1, 0) else (0, 2)) := by
  unfold impl_CountTrees.f
  rw [impl_isCounted_eq, Option.bind_some]
  by_cases c : 1 ≤ n ∧ n ≤ 30
  · rw [if_pos c, if_pos (by simpa using c), if_pos (by omega), if_pos (by omega)]
  · rw [if_neg c, if_neg (by simpa using c)]
/-! ### Numbers that add up -/
/-- a sum, as the machine adds -/
def psum (g : Nat → Int) : Nat → Int
  | 0 => 0
  | j + 1 => wrap64 (psum g j + g j)
theorem psum_congr {g g' : Nat → Int} : ∀ n, (∀ i, i < n → g i = g' i) → psum g n = psum g' n := by
  intro n
  induction n with
  | zero => intro _; rfl
  | succ n ih =>
    intro h
    simp only [psum]
    rw [ih (fun i hi => h i (by omega)), h n (by omega)]
theorem leaves_all : ((List.range 31).all fun n => decide (n = 0 ∨ psum (fun j => byLeaves (n : Int) (j : Int)) (n + 1) = tab n 1)) = true := by decide +kernel
theorem heights_all : ((List.range 31).all fun n => decide (n = 0 ∨ psum (fun j => byHeight (n : Int) (j : Int)) (n + 1) = tab n 1)) = true := by decide +kernel
theorem roots_all : ((List.range 31).all fun n => decide (n = 0 ∨ psum (fun j => tab (n - 1) j) (n + 1) = tab n 1)) = true := by decide +kernel
theorem sums (n : Nat) (h : 1 ≤ n ∧ n ≤ 30) : psum (fun j => byLeaves (n : Int) (j : Int)) (n + 1) = tab n 1 ∧ psum (fun j => byHeight (n : Int) (j : Int)) (n + 1) = tab n 1 ∧ psum (fun j => tab (n - 1) j) (n + 1) = tab n 1 := by
  have h1 := of_decide_eq_true (all_range leaves_all (i := n) (by omega))
  have h2 := of_decide_eq_true (all_range heights_all (i := n) (by omega))
  have h3 := of_decide_eq_true (all_range roots_all (i := n) (by omega))
  exact ⟨h1.resolve_left (by omega), h2.resolve_left (by omega), h3.resolve_left (by omega)⟩
theorem counts_loop (n : Nat) (h : 1 ≤ n ∧ n ≤ 30) : Ev (fun k => laws_FnTreeCounts.l0 k (n : Int) (tab n 1) 0 0 0 0 0) true := by
  obtain ⟨s1, s2, s3⟩ := sums n h
  have key : ∀ (m j : Nat), j + m = n + 1 → Ev (fun k => laws_FnTreeCounts.l0 k (n : Int) (tab n 1) 0 (psum (fun j => byLeaves (n : Int) (j : Int)) j) (psum (fun j => byHeight (n : Int) (j : Int)) j) (psum (fun j => tab (n - 1) j) j) (j : Int)) true := by
    intro m
    induction m with
    | zero =>
      intro j hj
      have : j = n + 1 := by omega
      subst this
      rw [s1, s2, s3]
      apply Ev.succ
      simp only [laws_FnTreeCounts.l0]
      refine Ev.neg (by omega) (Ev.pos (by trivial) (Ev.pos (by trivial) (Ev.pos (by trivial) (Ev.some (by simp)))))
    | succ m ih =>
      intro j hj
      have e1 := impl_CountByLeaves_ev (n : Int) (j : Int) (by omega) (by omega)
      have e2 := impl_CountByHeight_ev (n : Int) (j : Int)
      rw [if_pos (by omega)] at e1 e2
      apply Ev.succ
      simp only [laws_FnTreeCounts.l0]
      refine Ev.pos (by omega) (Ev.bind e1 (Ev.bind e2 ?_))
      simp only [impl_CountByRoot_eq, Option.bind_some]
      rw [if_pos (by omega), w64 (x := (j : Int) + 1) (by omega), show (j : Int) + 1 = ((j + 1 : Nat) : Int) by omega, show ((n : Int) - 1).toNat = n - 1 by omega, Int.toNat_natCast]
      exact Ev.pos (by trivial) (Ev.pos (by trivial) (Ev.pos (by trivial) (ih (j + 1) (by omega))))
  exact key (n + 1) 0 (by omega)
/-! ### A number by counts is at least 1 -/
def fac : Nat → Int
  | 0 => 1
  | n + 1 => ((n + 1 : Nat) : Int) * fac n
theorem ch_all : ((List.range 21).all fun n => (List.range (n + 1)).all fun j => decide (1 ≤ ch (n : Int) j ∧ ch (n : Int) j * fac (n - j) ≤ fac n ∧ (1 ≤ j → j < n → (n : Int) ≤ ch (n : Int) j) ∧ 1 ≤ fac n)) = true := by decide +kernel
theorem cbcProd_ge : ∀ (xs : List Int) (out left : Int), (∀ x ∈ xs, 0 ≤ x ∧ x ≤ 20) → left = sumI xs → left ≤ 20 → 1 ≤ out → out * fac left.toNat ≤ 2432902008176640000 → out ≤ cbcProd xs out left ∧ cbcProd xs out left ≤ 2432902008176640000 := by
  intro xs
  induction xs with
  | nil =>
    intro out left _ h _ h1 h2
    simp only [sumI] at h
    subst h
    simp only [cbcProd]
    simp only [Int.toNat_zero, fac, Int.mul_one] at h2
    omega
  | cons x xs ih =>
    intro out left hx h hl h1 h2
    simp only [sumI] at h
    have hx0 := hx x (by simp)
    have hs := sumI_nonneg xs (fun y hy => hx y (by simp [hy]))
    obtain ⟨n, rfl⟩ : ∃ n : Nat, left = n := ⟨left.toNat, by omega⟩
    obtain ⟨j, rfl⟩ : ∃ j : Nat, x = j := ⟨x.toNat, by omega⟩
    obtain ⟨c1, c2, _, c4⟩ := of_decide_eq_true (all_two ch_all (a := n) (b := j) (by omega) (by omega))
    obtain ⟨_, _, _, c5⟩ := of_decide_eq_true (all_two ch_all (a := n - j) (b := 0) (by omega) (by omega))
    have hz : chz (n : Int) (j : Int) = ch (n : Int) j := by unfold chz; rw [if_neg (by omega), Int.toNat_natCast]
    rw [Int.toNat_natCast] at h2
    simp only [cbcProd]
    rw [hz]
    generalize ch (n : Int) j = C at *
    generalize hF : fac n = F at *
    generalize hG : fac (n - j) = G at *
    have m1 : out * 1 ≤ out * C := Int.mul_le_mul_of_nonneg_left c1 (by omega)
    have m2 : out * (C * G) ≤ out * F := Int.mul_le_mul_of_nonneg_left c2 (by omega)
    rw [← Int.mul_assoc] at m2
    have m3 : out * C * 1 ≤ out * C * G := Int.mul_le_mul_of_nonneg_left c5 (by omega)
    have hw : wrap64 (out * C) = out * C := w64 (by omega)
    rw [hw]
    obtain ⟨i1, i2⟩ := ih (out * C) ((n : Int) - (j : Int)) (fun y hy => hx y (by simp [hy])) (by omega) (by omega) (by omega) (by rw [show ((n : Int) - (j : Int)).toNat = n - j by omega, hG]; omega)
    exact ⟨by omega, i2⟩
theorem cbcSum_more : ∀ (l : List Int) (i n c n' c' : Int), 1 ≤ i → cbcSum l i n c = some (n', c') → n ≤ n' ∧ n' - n ≤ c' - c ∧ (n' = n → c' = c) := by
  intro l
  induction l with
  | nil =>
    intro i n c n' c' _ h
    simp only [cbcSum, Option.some.injEq, Prod.mk.injEq] at h
    omega
  | cons x xs ih =>
    intro i n c n' c' hi h
    simp only [cbcSum] at h
    by_cases c0 : 0 ≤ x ∧ x ≤ 20
    · rw [if_pos c0] at h
      obtain ⟨h1, h2, h3⟩ := ih (i + 1) (n + x) (c + i * x) n' c' (by omega) h
      have hp : 1 * x ≤ i * x := Int.mul_le_mul_of_nonneg_right hi c0.1
      refine ⟨by omega, by omega, fun he => ?_⟩
      have hx : x = 0 := by omega
      have := h3 (by omega)
      rw [hx, Int.mul_zero] at this
      omega
    · rw [if_neg c0] at h; cases h
theorem cbc_ge (l : List Int) (h : (cbc l).2 = 0) : 1 ≤ (cbc l).1 := by
  unfold cbc at h ⊢
  by_cases c0 : l.length < 1 ∨ 30 < l.length ∨ rd l ((l.length : Int) - 1) = 0
  · rw [if_pos c0] at h; cases h
  · rw [if_neg c0] at h ⊢
    cases e : cbcSum l 0 0 0 with
    | none => rw [e] at h; cases h
    | some q =>
      obtain ⟨n, c⟩ := q
      rw [e] at h
      simp only at h ⊢
      by_cases c1 : n > 20
      · rw [if_pos c1] at h; cases h
      · rw [if_neg c1] at h ⊢
        by_cases c2 : c = n - 1
        · rw [if_pos c2]
          cases l with
          | nil => simp at c0
          | cons x xs =>
            obtain ⟨t1, t2, t3⟩ := cbcSum_tells (x :: xs) 0 0 0 n c (by omega) (by omega) e
            have hx0 := t3 x (by simp)
            have e' := e
            simp only [cbcSum] at e'
            rw [if_pos hx0] at e'
            obtain ⟨g1, g2, g3⟩ := cbcSum_more xs (0 + 1) (0 + x) (0 + 0 * x) n c (by omega) e'
            rw [Int.zero_mul] at g2 g3
            simp only [sumI] at t1
            obtain ⟨a, rfl⟩ : ∃ a : Nat, n = a := ⟨n.toNat, by omega⟩
            obtain ⟨j, rfl⟩ : ∃ j : Nat, x = j := ⟨x.toNat, by omega⟩
            have hj : (j : Int) ≤ a := by omega
            obtain ⟨c3, c4, c5, c6⟩ := of_decide_eq_true (all_two ch_all (a := a) (b := j) (by omega) (by omega))
            obtain ⟨_, _, _, c7⟩ := of_decide_eq_true (all_two ch_all (a := a - j) (b := 0) (by omega) (by omega))
            obtain ⟨f1, f2⟩ : 1 ≤ fac 20 ∧ fac 20 = 2432902008176640000 := by decide +kernel
            have hfa : fac a ≤ 2432902008176640000 := by
              have := of_decide_eq_true (all_range (show ((List.range 21).all fun i => decide (fac i ≤ 2432902008176640000)) = true by decide +kernel) (i := a) (by omega))
              exact this
            have hz : chz (a : Int) (j : Int) = ch (a : Int) j := by unfold chz; rw [if_neg (by omega), Int.toNat_natCast]
            have hge : (a : Int) ≤ ch (a : Int) j := by
              by_cases d1 : (j : Int) = a
              · have : a = 1 := by have := g3 (by omega); omega
                omega
              · exact c5 (by omega) (by omega)
            simp only [cbcProd]
            rw [hz]
            generalize ch (a : Int) j = C at *
            generalize hF : fac a = F at *
            generalize hG : fac (a - j) = G at *
            have m1 : C * 1 ≤ C * G := Int.mul_le_mul_of_nonneg_left c7 (by omega)
            rw [Int.one_mul, w64 (x := C) (by omega)]
            obtain ⟨i1, i2⟩ := cbcProd_ge xs C ((a : Int) - (j : Int)) (fun y hy => t3 y (by simp [hy])) (by omega) (by omega) (by omega) (by rw [show ((a : Int) - (j : Int)).toNat = a - j by omega, hG]; omega)
            generalize cbcProd xs C ((a : Int) - (j : Int)) = Q at *
            have ha : 0 < (a : Int) := by omega
            rw [Int.tdiv_eq_ediv_of_nonneg (by omega)]
            have q1 : 1 ≤ Q / (a : Int) := by
              have := (Int.le_ediv_iff_mul_le (a := 1) (b := Q) ha).2 (by omega)
              exact this
            have q2 : Q / (a : Int) ≤ Q := Int.ediv_le_self _ (by omega)
            rw [w64 (by omega)]
            exact q1
        · rw [if_neg c2] at h; cases h
/-! ### The counts of a tree add up to its nodes -/
theorem cnt_sum : ∀ (m : Nat) (p : List Int) (n : Nat), p.length = m → (∀ x ∈ p, 0 ≤ x ∧ x < (n : Int)) → (cnt p n).sum = (m : Int) := by
  intro m
  induction m with
  | zero =>
    intro p n hp _
    have : p = [] := List.length_eq_zero_iff.1 hp
    subst this
    have : cnt [] n = List.replicate n 0 := by
      refine List.ext_getElem (by simp [cnt]) (fun j h1 h2 => by simp [cnt])
    rw [this]
    simp
  | succ m ih =>
    intro p n hp hx
    have hne : p ≠ [] := fun h => by rw [h] at hp; simp at hp
    have hs : p = p.dropLast ++ [p.getLast hne] := (List.dropLast_concat_getLast hne).symm
    have hlast := hx _ (List.getLast_mem hne)
    obtain ⟨a, ha⟩ : ∃ a : Nat, p.getLast hne = a := ⟨(p.getLast hne).toNat, by omega⟩
    rw [ha] at hs hlast
    have hi := ih p.dropLast n (by simp [hp]) (fun x hxm => hx x ((List.dropLast_sublist p).subset hxm))
    rw [hs, ← cnt_set p.dropLast n a (by omega), sum_set _ _ _ (by rw [cnt_length]; omega), hi, ← rd_nat]
    omega
theorem cntV_sum (k : F) : (cntV k).sum = ((tr k).length : Int) :=
  cnt_sum (tr k).length (tr k) (nf 0 (tr k)) rfl (fun x hx => ⟨(tr_bound x hx).1, nf_bound (tr k) 0 x hx⟩)
theorem FnTreeCounts : ∀ (l : List Int), l.length ≤ maxLen → (∀ x ∈ l, (Lit.int .u8 x).wf = true) → ∃ k, laws_FnTreeCounts.f k l = some true := by
  intro l hmax hwf
  suffices H : Ev (fun k => laws_FnTreeCounts.f k l) true by
    obtain ⟨K, h⟩ := H
    exact ⟨K, h K (Nat.le_refl _)⟩
  unfold laws_FnTreeCounts.f
  simp only [laws_big_eq, Option.bind_some]
  by_cases c : (l.length : Int) > 4096
  · exact Ev.pos (by simpa using c) (Ev.now _)
  · refine Ev.neg (by simpa using c) ?_
    have hl : l.length ≤ 4096 := by omega
    have hb : bytesL l := fun x hx => by
      have := hwf x hx
      simp only [Lit.wf, Bool.and_eq_true, decide_eq_true_eq] at this
      exact this
    obtain ⟨n, k, e0, hn, hk⟩ := DrawCountByLeaves_ex l hb hl
    have e1 := impl_CountByLeaves_ev n k (by omega) (by omega)
    have e2 := spec_CountByLeaves_ev n k (by omega) (by omega)
    have e3 := impl_CountByHeight_ev n k
    have e4 := spec_CountByHeight_ev n k
    have e5 := impl_CountByRoot_eq n k
    have e6 := spec_CountByRoot_ev n k
    obtain ⟨m, e7⟩ := DrawTreesOf_ex l hb hl
    obtain ⟨T, e8, e9, t1, t2, t3⟩ := TreesOf_ex m
    obtain ⟨d, e10, hd⟩ := DrawCountsOfTree_ex l hb hl
    obtain ⟨R, hR⟩ := treeR_ex cntV [] d
    have e11 := impl_CountsOfTree_ev d (by omega) hR
    have e12 := spec_CountsOfTree_ev d (by omega) hR
    have hRl : R.1.length ≤ 24 ∧ (∀ x ∈ R.1, 0 ≤ x ∧ x ≤ 24) ∧ (R.2 = 0 → R.1.sum = (d.length : Int)) := by
      rcases hR with ⟨_, rfl⟩ | ⟨k, hk1, hk2, _, rfl⟩
      · simp
      · have := cntV_len k hk2
        exact ⟨this.2.1, this.2.2, fun _ => by rw [hk1]; exact cntV_sum k⟩
    obtain ⟨g, e13⟩ := DrawCountByCounts_ex l hb hl
    have e14 := impl_CountByCounts_ev g
    have e15 := spec_CountByCounts_ev g
    have e16 := cbc_ge g
    generalize cbc g = Q at *
    have last : Ev (fun j => laws_FnTreeCounts.j8 j n (if (1 ≤ n ∧ n ≤ 30) ∧ 0 ≤ k ∧ k ≤ n then (byLeaves n k, 0) else (0, 2) : Int × Int).1 (if (1 ≤ n ∧ n ≤ 30) ∧ 0 ≤ k ∧ k ≤ n then (byLeaves n k, 0) else (0, 2) : Int × Int).2 (if (1 ≤ n ∧ n ≤ 30) ∧ 0 ≤ k ∧ k ≤ n then (byHeight n k, 0) else (0, 2) : Int × Int).2 (if 1 ≤ n ∧ n ≤ 30 ∧ 0 ≤ k ∧ k ≤ n then (tab (n - 1).toNat k.toNat, 0) else (0, 2) : Int × Int).2 false) true := by
      apply Ev.succ
      simp only [laws_FnTreeCounts.j8]
      refine Ev.neg (by simp) ?_
      by_cases c1 : (1 ≤ n ∧ n ≤ 30) ∧ 0 ≤ k ∧ k ≤ n
      · have c2 : 1 ≤ n ∧ n ≤ 30 ∧ 0 ≤ k ∧ k ≤ n := by omega
        rw [if_pos c1, if_pos c1, if_pos c2]
        refine Ev.pos (by trivial) ?_
        simp only [impl_CountTrees_eq, Option.bind_some]
        rw [if_pos c1.1]
        obtain ⟨a, rfl⟩ : ∃ a : Nat, n = a := ⟨n.toNat, by omega⟩
        rw [Int.toNat_natCast]
        exact counts_loop a (by omega)
      · have c2 : ¬ (1 ≤ n ∧ n ≤ 30 ∧ 0 ≤ k ∧ k ≤ n) := by omega
        rw [if_neg c1, if_neg c1, if_neg c2]
        exact Ev.neg (by simp) (Ev.pos (by trivial) (Ev.pos (by trivial) (Ev.some (by simp))))
    generalize (if (1 ≤ n ∧ n ≤ 30) ∧ 0 ≤ k ∧ k ≤ n then (byLeaves n k, 0) else (0, 2) : Int × Int) = A at *
    generalize (if (1 ≤ n ∧ n ≤ 30) ∧ 0 ≤ k ∧ k ≤ n then (byHeight n k, 0) else (0, 2) : Int × Int) = B at *
    generalize (if 1 ≤ n ∧ n ≤ 30 ∧ 0 ≤ k ∧ k ≤ n then (tab (n - 1).toNat k.toNat, 0) else (0, 2) : Int × Int) = C at *
    have ne : ∀ x : Int, (x != x) = false := fun x => by simp
    refine Ev.bind e0 (Ev.bind e1 (Ev.bind e2 (Ev.pos (by trivial) ?_)))
    rw [ne]
    apply Ev.succ
    simp only [laws_FnTreeCounts.j0]
    refine Ev.neg (by simp) (Ev.bind e3 (Ev.bind e4 (Ev.pos (by trivial) ?_)))
    rw [ne]
    apply Ev.succ
    simp only [laws_FnTreeCounts.j1, e5, Option.bind_some]
    refine Ev.neg (by simp) (Ev.bind e6 (Ev.pos (by trivial) ?_))
    rw [ne]
    apply Ev.succ
    simp only [laws_FnTreeCounts.j2]
    refine Ev.neg (by simp) (Ev.bind e7 (Ev.bind e9 (Ev.bind e8 (Ev.pos (by trivial) (Ev.bind (trees9_self T.1 (by omega) t2) ?_)))))
    apply Ev.succ
    simp only [laws_FnTreeCounts.j3]
    refine Ev.neg (by simp) (Ev.bind e10 (Ev.bind e11 (Ev.bind e12 (Ev.pos (by trivial) (Ev.bind (likeInts_self R.1 (by omega)) ?_)))))
    apply Ev.succ
    simp only [laws_FnTreeCounts.j4]
    refine Ev.neg (by simp) (Ev.bind e13 (Ev.bind e14 (Ev.bind e15 (Ev.pos (by trivial) ?_))))
    rw [ne]
    apply Ev.succ
    simp only [laws_FnTreeCounts.j5]
    refine Ev.neg (by simp) ?_
    have seven : Ev (fun j => laws_FnTreeCounts.j7 j n A.1 A.2 B.2 C.2 Q.1 Q.2) true := by
      apply Ev.succ
      simp only [laws_FnTreeCounts.j7]
      by_cases q0 : Q.2 = 0
      · refine Ev.pos q0 ?_
        rw [show decide (Q.1 < 1) = false by have := e16 q0; simp; omega]
        exact last
      · exact Ev.neg q0 last
    have six : Ev (fun j => laws_FnTreeCounts.j6 j n A.1 A.2 B.2 C.2 m T.1 T.2 Q.1 Q.2 false) true := by
      apply Ev.succ
      simp only [laws_FnTreeCounts.j6]
      refine Ev.neg (by simp) ?_
      by_cases q0 : T.2 = 0
      · obtain ⟨u1, u2, u3⟩ := t3 q0
        refine Ev.pos q0 ?_
        simp only [impl_CountTrees_eq, Option.bind_some]
        rw [if_pos (by omega)]
        exact Ev.pos (by trivial) (Ev.pos u3 seven)
      · exact Ev.neg q0 seven
    by_cases q0 : R.2 = 0
    · refine Ev.pos q0 (Ev.bind (laws_sum_ev R.1 (by omega) (fun x hx => by have := hRl.2.1 x hx; omega)) ?_)
      rw [hRl.2.2 q0, ne]
      exact six
    · exact Ev.neg q0 six

end Go.Proofs.Ytocachknmgefaaa.Pure
