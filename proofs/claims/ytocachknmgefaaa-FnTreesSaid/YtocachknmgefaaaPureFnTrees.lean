/- The pure statement of the law FnTrees is proved. Conditions: those of the statement alone. -/
import Derived.Test.YtocachknmgefaaaQFnTreesx15
import Derived.Test.YtocachknmgefaaaVFnTreesBase
import Derived.Test.YtocachknmgefaaaVFnTreesBase2
import Derived.Test.YtocachknmgefaaaVFnTreesBin
import Derived.Test.YtocachknmgefaaaVFnTreesBase3
import Derived.Test.YtocachknmgefaaaVFnTreesBase4
import Derived.Test.YtocachknmgefaaaVFnTreesBase5
import Derived.Test.YtocachknmgefaaaVFnTreesBase6
import Derived.Test.YtocachknmgefaaaVFnTreesPar
import Derived.Test.YtocachknmgefaaaVFnTreesPar2
import Derived.Test.YtocachknmgefaaaVFnTreesRem
import Derived.Test.YtocachknmgefaaaVFnTreesBin2
import Derived.Test.YtocachknmgefaaaVFnTreesNum
namespace Go.Proofs.Ytocachknmgefaaa.Pure
open Go.RowKit Go.Proofs.Ytocachknmgefaaa.QFnTrees Go.Proofs.Ytocachknmgefaaa.Base Go.Proofs.YtocachknmgefaaaW.PrintWords Go.Proofs.YtocachknmgefaaaW.PrintLast Go.Proofs.YtocachknmgefaaaW.PrintMore
open Go.Proofs.Ytocachknmgefaaa.Base.F
set_option linter.unusedVariables false
set_option linter.unusedSimpArgs false

theorem laws_big_eq (l : List Int) : laws_big.f l = some (decide ((l.length : Int) > 4096)) := rfl
/-- bytes -/
def bytesL (c : List Int) : Prop := ∀ x ∈ c, 0 ≤ x ∧ x ≤ 255
theorem rd_mem {xs : List Int} {p : Nat} (h : p < xs.length) : rd xs (p : Int) ∈ xs := by
 rw [rd_of_get (List.getElem?_eq_getElem h)]
 exact List.getElem_mem h
/-- the next state of the hash, and what is drawn of it -/
def nextH (h : Int) : Int := IntKind.u64.wrap ((IntKind.u64.wrap (h * 6364136223846793005)) + 1442695040888963407)
def topH (h : Int) : Int := Go.bits .and .u64 ((nextH h) / 8589934592) 16777215
theorem wrap_u64_lt (n : Int) : 0 ≤ IntKind.u64.wrap n ∧ IntKind.u64.wrap n < 18446744073709551616 := by
 rw [IntKind.wrap_u64]
 omega
theorem topH_eq (h : Int) : topH h = (nextH h / 8589934592) % 16777216 := by
 have hb := wrap_u64_lt ((IntKind.u64.wrap (h * 6364136223846793005)) + 1442695040888963407)
 exact bits_mask .u64 64 (by decide) (fun n h0 h1 => by rw [IntKind.wrap_u64]; omega) 24 (by decide) (nextH h / 8589934592) (by unfold nextH; omega) (by unfold nextH; omega)
theorem next_ex (c : List Int) (p h n : Int) (hc : bytesL c) (hl : c.length ≤ 4096) (hp : 0 ≤ p) (hn : 1 ≤ n) : ∃ v p' h', spec_l01Next.f c p h n = some (v, p', h') ∧ (0 ≤ v ∧ v < n) ∧ 0 ≤ p' := by
 have ht := topH_eq h
 have hw : wrap64 (topH h) = topH h := w64 (by omega)
 unfold spec_l01Next.f
 rw [if_neg (by omega)]
 by_cases c1 : p < (c.length : Int)
 ·rw [if_pos c1, if_pos hp, if_neg (by omega)]
  obtain ⟨i, rfl⟩ : ∃ i : Nat, p = i := ⟨p.toNat, by omega⟩
  have hx := hc _ (rd_mem (xs := c) (p := i) (by omega))
  refine ⟨_, _, _, rfl, ?_, ?_⟩
  ·change 0 ≤ Int.tmod (wrap64 (wrap64 (topH h) + wrap64 (rd c (i : Int)))) n ∧ Int.tmod (wrap64 (wrap64 (topH h) + wrap64 (rd c (i : Int)))) n < n
   rw [hw, w64 (x := rd c (i : Int)) (by omega), w64 (x := topH h + rd c (i : Int)) (by omega), Int.tmod_eq_emod_of_nonneg (by omega)]
   exact ⟨Int.emod_nonneg _ (by omega), Int.emod_lt_of_pos _ (by omega)⟩
  ·rw [w64 (by omega)]
   omega
 ·rw [if_neg c1, if_neg (by omega)]
  refine ⟨_, _, _, rfl, ?_, hp⟩
  change 0 ≤ Int.tmod (wrap64 (topH h)) n ∧ Int.tmod (wrap64 (topH h)) n < n
  rw [hw, Int.tmod_eq_emod_of_nonneg (by omega)]
  exact ⟨Int.emod_nonneg _ (by omega), Int.emod_lt_of_pos _ (by omega)⟩
theorem spec_l01Own_eq (l : List Int) (h : l.length ≤ 1000) : spec_l01Own.f l = some l := by
 unfold spec_l01Own.f
 simp only [Option.bind_some]
 rw [if_pos (by simp; omega)]
 rfl
theorem pick_ex (c : List Int) (p h : Int) (l : List Int) (hc : bytesL c) (hl : c.length ≤ 4096) (hp : 0 ≤ p) (h0 : 0 < l.length) : ∃ v p' h', spec_l01Pick.f c p h l = some (v, p', h') ∧ v ∈ l ∧ 0 ≤ p' := by
 obtain ⟨v, p', h', e, hv, hp'⟩ := next_ex c p h (l.length : Int) hc hl hp (by omega)
 obtain ⟨i, rfl⟩ : ∃ i : Nat, v = i := ⟨v.toNat, by omega⟩
 refine ⟨rd l (i : Int), p', h', ?_, rd_mem (by omega), hp'⟩
 unfold spec_l01Pick.f
 rw [e]
 simp only [Option.bind_some]
 rw [if_pos (by omega), if_pos (by omega)]
/-- a tree's degrees, by their sums -/
def okP (d : List Int) : Prop := (∀ x ∈ d, 0 ≤ x ∧ x ≤ d.length) ∧ d.sum = (d.length : Int) - 1 ∧ ∀ j, 0 < j → j < d.length → (j : Int) ≤ (d.take j).sum
theorem sum_set (d : List Int) (q : Nat) (x : Int) (h : q < d.length) : (d.set q x).sum = d.sum - d.getD q 0 + x := by
 induction d generalizing q with
 | nil => simp at h
 | cons y ys ih =>
  cases q with
  | zero => simp [List.set]; omega
  | succ q =>
   simp only [List.set, List.sum_cons, List.getD_cons_succ]
   rw [ih q (by simpa using h)]
   omega
theorem okP_step {d : List Int} {q : Nat} (h : okP d) (hq : q < d.length) : okP (d.set q (rd d (q : Int) + 1) ++ [0]) := by
 obtain ⟨h1, h2, h3⟩ := h
 have hlen : (d.set q (rd d (q : Int) + 1) ++ [0]).length = d.length + 1 := by simp
 have hr := rd_nat d q
 refine ⟨?_, ?_, ?_⟩
 ·intro x hx
  rw [hlen]
  rcases List.mem_append.1 hx with hx | hx
  ·rcases List.mem_or_eq_of_mem_set hx with hx | rfl
   ·have := h1 x hx; omega
   ·have := h1 _ (rd_mem hq); omega
  ·simp only [List.mem_cons, List.not_mem_nil, or_false] at hx
   omega
 ·rw [hlen, List.sum_append, sum_set _ _ _ hq, ← hr]
  simp
  omega
 ·intro j hj0 hj
  rw [hlen] at hj
  rw [List.take_append_of_le_length (by simp; omega)]
  by_cases c : j ≤ q
  ·rw [List.take_set_of_le c]
   exact h3 j hj0 (by omega)
  ·rw [List.take_set, sum_set _ _ _ (by rw [List.length_take]; omega)]
   have e : (d.take j).getD q 0 = rd d (q : Int) := by
    rw [hr, List.getD_eq_getElem?_getD, List.getD_eq_getElem?_getD, List.getElem?_take, if_pos (by omega)]
   rw [e]
   by_cases c2 : j < d.length
   ·have := h3 j hj0 c2
    omega
   ·rw [List.take_of_length_le (by omega)]
    omega
theorem drawOf_tail {n deep N x9 v p1 h1 p h : Int} {c d w : List Int} {k j q : Nat} (h9 : x9 > 0) (e1 : spec_l01Next.f c p h deep = some (v, p1, h1)) (c0 : ¬ v = 0) (hj : wrap64 (x9 + 1) = (j : Int)) (hw : x9 < (w.length : Int)) (hjw : j ≤ w.length) (hw1 : w.length ≤ 1000) (hd1 : d.length ≤ 1000) (hq : rd w x9 = (q : Int)) (hqd : q < d.length) :
  spec_l01DrawOf.l1 (k + 1) n d w deep N x9 c p h = spec_l01DrawOf.l0 k n (d.set q (wrap64 (rd d (q : Int) + 1)) ++ [0]) (w.take j ++ [N]) deep (wrap64 (N + 1)) c p1 h1 := by
 have hm : (w.take j).length ≤ 1000 := by rw [List.length_take]; omega
 have hs : (d.set q (wrap64 (rd d (q : Int) + 1))).length ≤ 1000 := by rw [List.length_set]; omega
 generalize hD : d.set q (wrap64 (rd d (q : Int) + 1)) = D at hs ⊢
 simp only [spec_l01DrawOf.l1]
 rw [if_pos h9, e1, Option.bind_some]
 simp only [if_neg c0, hq, hj]
 rw [if_pos (by omega), if_pos hw, if_pos (by omega), if_pos (by omega), Option.bind_some, if_pos (by omega), if_pos (by omega), Int.toNat_natCast, Int.toNat_natCast, spec_l01Own_eq _ hm, Option.bind_some, if_pos (by omega), hD, if_pos (by omega)]
theorem drawOf_loop (c : List Int) (n : Nat) (deep : Int) (hc : bytesL c) (hl : c.length ≤ 4096) (hn : n ≤ 900) (hd : 1 ≤ deep) : ∀ (m : Nat) (d w : List Int) (p h : Int), d.length + m = n → okP d → 0 < w.length → w.length ≤ d.length → (∀ x ∈ w, 0 ≤ x ∧ x < d.length) → 0 ≤ p →
  ∃ t p' h', Ev (fun k => spec_l01DrawOf.l0 k (n : Int) d w deep (d.length : Int) c p h) (t, p', h') ∧ okP t ∧ t.length = n ∧ 0 ≤ p' := by
 intro m
 induction m with
 | zero =>
  intro d w p h hm hok _ _ _ hp
  refine ⟨d, p, h, Ev.succ ?_, hok, by omega, hp⟩
  simp only [spec_l01DrawOf.l0]
  exact Ev.neg (by omega) (Ev.now _)
 | succ m ih =>
  intro d w p h hm hok hw0 hwd hw hp
  -- the step, from a place on the way
  have step : ∀ (i : Nat) (p h : Int), i < w.length → 0 ≤ p → ∃ t p' h', Ev (fun k => spec_l01DrawOf.l0 k (n : Int) (d.set (rd w (i : Int)).toNat (wrap64 (rd d (rd w (i : Int)) + 1)) ++ [0]) (w.take (i + 1) ++ [(d.length : Int)]) deep (wrap64 ((d.length : Int) + 1)) c p h) (t, p', h') ∧ okP t ∧ t.length = n ∧ 0 ≤ p' := by
   intro i p h hi hp
   have hm1 := hw _ (rd_mem hi)
   obtain ⟨q, hq⟩ : ∃ q : Nat, rd w (i : Int) = q := ⟨(rd w (i : Int)).toNat, by omega⟩
   rw [hq] at hm1 ⊢
   have hb := hok.1 _ (rd_mem (xs := d) (p := q) (by omega))
   rw [Int.toNat_natCast, w64 (x := rd d (q : Int) + 1) (by omega), w64 (x := (d.length : Int) + 1) (by omega)]
   have hlen : (d.set q (rd d (q : Int) + 1) ++ [0]).length = d.length + 1 := by simp
   have e := ih (d.set q (rd d (q : Int) + 1) ++ [0]) (w.take (i + 1) ++ [(d.length : Int)]) p h (by omega) (okP_step hok (by omega)) (by simp) (by rw [hlen]; simp; omega) (by
    intro x hx
    rw [hlen]
    rcases List.mem_append.1 hx with hx | hx
    ·have := hw x (List.mem_of_mem_take hx); omega
    ·simp only [List.mem_cons, List.not_mem_nil, or_false] at hx
     omega) hp
   rw [hlen] at e
   exact e
  have inner : ∀ (i : Nat) (p h : Int), i < w.length → 0 ≤ p → ∃ t p' h', Ev (fun k => spec_l01DrawOf.l1 k (n : Int) d w deep (d.length : Int) (i : Int) c p h) (t, p', h') ∧ okP t ∧ t.length = n ∧ 0 ≤ p' := by
   intro i
   induction i with
   | zero =>
    intro p h hi hp
    obtain ⟨t, p', h', e, ht⟩ := step 0 p h hi hp
    have hm1 := hw _ (rd_mem hi)
    refine ⟨t, p', h', Ev.succ ?_, ht⟩
    simp only [spec_l01DrawOf.l1]
    refine Ev.neg (by omega) ?_
    refine Ev.pos (by omega) (Ev.pos (by omega) (Ev.pos (by omega) (Ev.pos (by omega) ?_)))
    simp only [Option.bind_some]
    rw [(w64 (x := ((0 : Nat) : Int) + 1) (by omega)).trans (show ((0 : Nat) : Int) + 1 = 1 by omega)]
    refine Ev.pos (by omega) (Ev.pos (by omega) ?_)
    have eo := spec_l01Own_eq (w.take (0 + 1)) (by rw [List.length_take]; omega)
    rw [show (1 : Int).toNat = 0 + 1 from rfl, eo]
    simp only [Option.bind_some]
    refine Ev.pos (by rw [List.length_take]; omega) (Ev.pos (by rw [List.length_set]; omega) ?_)
    exact e
   | succ i ihi =>
    intro p h hi hp
    have hm1 := hw _ (rd_mem hi)
    obtain ⟨v, p1, h1, e1, hv, hp1⟩ := next_ex c p h deep hc hl hp hd
    by_cases c0 : v = 0
    ·obtain ⟨t, p', h', e, ht⟩ := ihi p1 h1 (by omega) hp1
     refine ⟨t, p', h', Ev.succ ?_, ht⟩
     simp only [spec_l01DrawOf.l1]
     refine Ev.pos (by omega) (Ev.bind (Ev.const e1) (Ev.pos c0 ?_))
     have ew : wrap64 (((i + 1 : Nat) : Int) - 1) = (i : Int) := by
      rw [w64 (by omega)]
      omega
     rw [ew]
     exact e
    ·obtain ⟨t, p', h', e, ht⟩ := step (i + 1) p1 h1 hi hp1
     obtain ⟨q, hq⟩ : ∃ q : Nat, rd w ((i + 1 : Nat) : Int) = q := ⟨(rd w ((i + 1 : Nat) : Int)).toNat, by have := hw _ (rd_mem hi); omega⟩
     have hm2 := hw _ (rd_mem hi)
     rw [hq, Int.toNat_natCast] at e
     rw [hq] at hm2
     refine ⟨t, p', h', Ev.succ (Ev.congr (fun k => ?_) e), ht⟩
     have g1 : ((i + 1 : Nat) : Int) > 0 := by clear e hq; omega
     have g2 : ((i + 1 : Nat) : Int) < (w.length : Int) := by clear e hq; omega
     have g3 : i + 1 + 1 ≤ w.length := hi
     have g4 : w.length ≤ 1000 := by clear e hq; omega
     have g5 : d.length ≤ 1000 := by clear e hq; omega
     have g6 : q < d.length := by clear e hq; omega
     have g7 : ((i + 1 : Nat) : Int) + 1 = ((i + 1 + 1 : Nat) : Int) := by clear e hq; omega
     have g8 : -9223372036854775808 ≤ ((i + 1 : Nat) : Int) + 1 ∧ ((i + 1 : Nat) : Int) + 1 ≤ 9223372036854775807 := by clear e hq; omega
     exact drawOf_tail g1 e1 c0 ((w64 g8).trans g7) g2 g3 g4 g5 hq g6
  obtain ⟨t, p', h', e, ht⟩ := inner (w.length - 1) p h (by omega) hp
  refine ⟨t, p', h', Ev.succ ?_, ht⟩
  simp only [spec_l01DrawOf.l0]
  refine Ev.pos (by omega) ?_
  rw [w64 (x := (w.length : Int) - 1) (by omega), show (w.length : Int) - 1 = ((w.length - 1 : Nat) : Int) by omega]
  exact e
theorem drawOf_ex (c : List Int) (p h n : Int) (hc : bytesL c) (hl : c.length ≤ 4096) (hp : 0 ≤ p) (hn : 1 ≤ n ∧ n ≤ 900) : ∃ t p' h', Ev (fun k => spec_l01DrawOf.f k c p h n) (t, p', h') ∧ okP t ∧ t.length = n.toNat ∧ 0 ≤ p' := by
 obtain ⟨v, p1, h1, e1, hv, hp1⟩ := pick_ex c p h [1, 2, 4, 30] hc hl hp (by simp)
 obtain ⟨m, rfl⟩ : ∃ m : Nat, n = m := ⟨n.toNat, by omega⟩
 simp only [List.mem_cons, List.not_mem_nil, or_false] at hv
 obtain ⟨t, p', h', e, ht⟩ := drawOf_loop c m v hc hl (by omega) (by omega) (m - 1) [0] [0] p1 h1 (by simp; omega) ⟨by simp, by simp, by intro j hj hj2; simp at hj2; omega⟩ (by simp) (by simp) (by simp) hp1
 refine ⟨t, p', h', ?_, ht⟩
 simp only [spec_l01DrawOf.f, e1, Option.bind_some]
 exact e
/-- a list of degrees whose sums are a tree's is a tree -/
theorem okT_of (m : Int) : ∀ (xs : List Int) (need : Int), (∀ x ∈ xs, 0 ≤ x ∧ x < m) → need + xs.sum = xs.length → (∀ j, j < xs.length → 1 + (j : Int) ≤ need + (xs.take j).sum) → okT m xs need = true := by
 intro xs
 induction xs with
 | nil => intro need _ h _; simp at h; simp [okT, h]
 | cons x xs ih =>
  intro need hx h hj
  have h0 := hj 0 (by simp)
  have hx0 := hx x (by simp)
  simp only [List.take_zero, List.sum_nil] at h0
  simp only [okT]
  rw [if_neg (by omega), if_neg (by omega), if_neg (by omega)]
  refine ih (need + (x - 1)) (fun y hy => hx y (by simp [hy])) ?_ (fun j hjl => ?_)
  ·simp only [List.sum_cons, List.length_cons] at h
   omega
  ·have := hj (j + 1) (by simp; omega)
   simp only [List.take_succ_cons, List.sum_cons] at this
   omega
theorem sum_ge : ∀ (xs : List Int), (∀ x ∈ xs, 0 ≤ x) → 0 ≤ xs.sum ∧ ∀ x ∈ xs, x ≤ xs.sum := by
 intro xs
 induction xs with
 | nil => intro _; simp
 | cons x xs ih =>
  intro h
  obtain ⟨i1, i2⟩ := ih (fun y hy => h y (by simp [hy]))
  have h0 := h x (by simp)
  rw [List.sum_cons]
  refine ⟨by omega, fun y hy => ?_⟩
  rcases List.mem_cons.1 hy with rfl | hy
  ·omega
  ·have := i2 y hy; omega
theorem okP_isT {d : List Int} (h : okP d) (h1 : 1 ≤ d.length ∧ d.length ≤ 24) : isT d = true := by
 obtain ⟨a1, a2, a3⟩ := h
 obtain ⟨s1, s2⟩ := sum_ge d (fun x hx => (a1 x hx).1)
 simp only [isT, Bool.and_eq_true, decide_eq_true_eq]
 refine ⟨h1.1, h1.2, okT_of 24 d 1 (fun x hx => ?_) (by omega) (fun j hj => ?_)⟩
 ·have e1 := a1 x hx
  have e2 := s2 x hx
  omega
 ·by_cases c : j = 0
  ·subst c; simp
  ·have := a3 j (by omega) hj
   omega
theorem small_ex (c : List Int) (p h : Int) (hc : bytesL c) (hl : c.length ≤ 4096) (hp : 0 ≤ p) : ∃ t p' h', Ev (fun k => spec_l01Small.f k c p h) (t, p', h') ∧ okP t ∧ (1 ≤ t.length ∧ t.length ≤ 6) ∧ 0 ≤ p' := by
 obtain ⟨v, p1, h1, e1, hv, hp1⟩ := next_ex c p h 6 hc hl hp (by omega)
 obtain ⟨t, p', h', e, ho, ht, hp'⟩ := drawOf_ex c p1 h1 (1 + v) hc hl hp1 (by omega)
 refine ⟨t, p', h', ?_, ho, by omega, hp'⟩
 simp only [spec_l01Small.f, e1, Option.bind_some, w64 (x := 1 + v) (by omega)]
 exact Ev.bind e (Ev.now _)
/-- the degrees of trees behind others, if they are at most 24 -/
def jn : List S26 → List Int → Option (List Int)
 | [], d => some d
 | x :: xs, d => if (d ++ x.f0).length > 24 then none else jn xs (d ++ x.f0)
theorem spec_l01Join_ev (ts : List S26) (hn : ts.length ≤ 1048576) (hx : ∀ x ∈ ts, x.f0.length ≤ 1048576) : Ev (fun k => spec_l01Join.f k ts) (match jn ts [(ts.length : Int)] with | some d => (d, true) | none => ([], false)) := by
 have key : ∀ (xs : List S26) (i : Nat) (d : List Int), ts.drop i = xs → i + xs.length = ts.length → d.length ≤ 24 → Ev (fun k => spec_l01Join.l0 k ts d (i : Int)) (match jn xs d with | some d => (d, true) | none => ([], false)) := by
  intro xs
  induction xs with
  | nil =>
   intro i d h hi hd
   simp only [List.length_nil] at hi
   apply Ev.succ
   simp only [spec_l01Join.l0, jn]
   exact Ev.neg (by omega) (Ev.now _)
  | cons x xs ih =>
   intro i d h hi hd
   simp only [List.length_cons] at hi
   have hmem : x ∈ ts := List.mem_of_mem_drop (by rw [h]; simp)
   have hxl := hx x hmem
   have hr : rd_T26 ts (i : Int) = x := by
    unfold rd_T26
    rw [Int.toNat_natCast, List.getD_eq_getElem?_getD, (drop_cons h).2.1]
    rfl
   apply Ev.succ
   simp only [spec_l01Join.l0, hr, jn, Option.bind_some]
   refine Ev.pos (by omega) (Ev.pos (by omega) (Ev.pos (by omega) ?_))
   by_cases c : (d ++ x.f0).length > 24
   ·rw [if_pos c]
    exact Ev.pos (by omega) (Ev.now _)
   ·rw [if_neg c, w64 (x := (i : Int) + 1) (by omega), show (i : Int) + 1 = ((i + 1 : Nat) : Int) by omega]
    exact Ev.neg (by omega) (ih (i + 1) _ (drop_cons h).2.2 (by omega) (by omega))
 unfold spec_l01Join.f
 exact key ts 0 _ rfl (by omega) (by simp)
/-- a tree's beginning: m trees are still to come behind it -/
def forP (d : List Int) (m : Nat) : Prop := 0 < d.length ∧ (∀ x ∈ d, 0 ≤ x ∧ x ≤ d.length + m) ∧ d.sum = (d.length : Int) - 1 + m ∧ ∀ j, 0 < j → j < d.length → (j : Int) ≤ (d.take j).sum
theorem forP_app {d u : List Int} {m : Nat} (h : forP d (m + 1)) (hu : okP u) : forP (d ++ u) m := by
 obtain ⟨h0, h1, h2, h3⟩ := h
 obtain ⟨u1, u2, u3⟩ := hu
 have hul : 0 < u.length := by
  cases u with
  | nil => simp at u2
  | cons x xs => simp
 refine ⟨by simp; omega, ?_, ?_, ?_⟩
 ·intro x hx
  rw [List.length_append]
  rcases List.mem_append.1 hx with hx | hx
  ·have := h1 x hx; omega
  ·have := u1 x hx; omega
 ·rw [List.sum_append, List.length_append, h2, u2]
  omega
 ·intro j hj0 hj
  rw [List.length_append] at hj
  by_cases c : j ≤ d.length
  ·rw [List.take_append_of_le_length c]
   by_cases c2 : j < d.length
   ·exact h3 j hj0 c2
   ·rw [List.take_of_length_le (by omega)]
    omega
  ·rw [List.take_append, List.take_of_length_le (by omega), List.sum_append, h2]
   have := u3 (j - d.length) (by omega) (by omega)
   omega
theorem rep_join {u : List Int} (hu : okP u) (h5 : u.length ≤ 5) : ∀ (m : Nat) (d : List Int), forP d m → d.length + m * 5 ≤ 24 → ∃ e, jn (List.replicate m (⟨u⟩ : S26)) d = some e ∧ okP e ∧ 1 ≤ e.length ∧ e.length ≤ 24 := by
 intro m
 induction m with
 | zero =>
  intro d hd hl
  obtain ⟨h0, h1, h2, h3⟩ := hd
  exact ⟨d, rfl, ⟨fun x hx => by have := h1 x hx; omega, by omega, h3⟩, by omega, by omega⟩
 | succ m ih =>
  intro d hd hl
  simp only [List.replicate_succ, jn]
  rw [if_neg (by rw [List.length_append]; omega)]
  exact ih _ (forP_app hd hu) (by rw [List.length_append]; omega)
theorem last_ex (c : List Int) (p h : Int) (hc : bytesL c) (hl : c.length ≤ 4096) (hp : 0 ≤ p) : ∃ t p' h', Ev (fun k => spec_l01Draw.last k c p h) (t, p', h') ∧ okP t ∧ (1 ≤ t.length ∧ t.length ≤ 24) ∧ 0 ≤ p' := by
 obtain ⟨v, p1, h1, e1, hv, hp1⟩ := pick_ex c p h [8, 12, 24] hc hl hp (by simp)
 simp only [List.mem_cons, List.not_mem_nil, or_false] at hv
 obtain ⟨q, p2, h2, e2, hq, hp2⟩ := next_ex c p1 h1 v hc hl hp1 (by omega)
 obtain ⟨t, p3, h3, e3, ho, ht, hp3⟩ := drawOf_ex c p2 h2 (1 + q) hc hl hp2 (by omega)
 refine ⟨t, p3, h3, ?_, ho, by omega, hp3⟩
 simp only [spec_l01Draw.last, e1, e2, Option.bind_some, w64 (x := 1 + q) (by omega)]
 exact e3
theorem draw_ex (c : List Int) (p h : Int) (hc : bytesL c) (hl : c.length ≤ 4096) (hp : 0 ≤ p) : ∃ t p' h', Ev (fun k => spec_l01Draw.f k c p h) (t, p', h') ∧ okP t ∧ (1 ≤ t.length ∧ t.length ≤ 24) ∧ 0 ≤ p' := by
 obtain ⟨v, p1, h1, e1, hv, hp1⟩ := next_ex c p h 5 hc hl hp (by omega)
 by_cases c0 : v = 0
 ·obtain ⟨t, p', h', e, ho, ht, hp'⟩ := small_ex c p1 h1 hc hl hp1
  refine ⟨t, p', h', ?_, ho, by omega, hp'⟩
  simp only [spec_l01Draw.f, e1, Option.bind_some]
  exact Ev.pos c0 e
 ·by_cases c1 : v = 1
  ·obtain ⟨b, p2, h2, e2, hb, hp2⟩ := next_ex c p1 h1 5 hc hl hp1 (by omega)
   obtain ⟨u, p3, h3, e3, hu, hul, hp3⟩ := drawOf_ex c p2 h2 (1 + b) hc hl hp2 (by omega)
   obtain ⟨n, p4, h4, e4, hn, hp4⟩ := next_ex c p3 h3 5 hc hl hp3 (by omega)
   obtain ⟨m, rfl⟩ : ∃ m : Nat, n = m := ⟨n.toNat, by omega⟩
   obtain ⟨e, je, ho, he⟩ := rep_join (u := u) hu (by omega) m [(m : Int)] ⟨by simp, by intro x hx; simp only [List.mem_cons, List.not_mem_nil, or_false] at hx; subst hx; simp only [List.length_cons, List.length_nil]; omega, by simp, by intro j hj hj2; simp at hj2; omega⟩ (by simp; omega)
   have ej := spec_l01Join_ev (List.replicate m (⟨u⟩ : S26)) (by simp; omega) (by intro x hx; rw [List.eq_of_mem_replicate hx]; show u.length ≤ 1048576; omega)
   rw [List.length_replicate, je] at ej
   refine ⟨e, p4, h4, ?_, ho, he, hp4⟩
   simp only [spec_l01Draw.f, e1, e2, Option.bind_some, w64 (x := 1 + b) (by omega)]
   refine Ev.neg c0 (Ev.pos c1 (Ev.bind e3 ?_))
   simp only [e4, Option.bind_some, spec_l01Draw.list, Int.toNat_natCast]
   exact Ev.pos (by omega) (Ev.pos (by omega) (Ev.bind ej (Ev.pos rfl (Ev.now _))))
  ·obtain ⟨t, p', h', e, ho, ht, hp'⟩ := last_ex c p1 h1 hc hl hp1
   refine ⟨t, p', h', ?_, ho, ht, hp'⟩
   simp only [spec_l01Draw.f, e1, Option.bind_some]
   exact Ev.neg c0 (Ev.neg c1 e)
theorem spec_l01N_eq (d : List Int) : spec_l01N.f d = some (d.length : Int) := rfl
theorem spec_l01Make_eq (l : List Int) (h : l.length ≤ 1000) : spec_l01Make.f l = some l := by
 unfold spec_l01Make.f
 rw [spec_l01Own_eq l h]
 rfl
theorem spec_l01Copy_eq (l : List Int) (h : l.length ≤ 1000) : spec_l01Copy.f l = some l := by
 unfold spec_l01Copy.f
 rw [spec_l01Make_eq l h]
 rfl
theorem bad_ex (c : List Int) (p h : Int) (t : List Int) (hc : bytesL c) (hl : c.length ≤ 4096) (hp : 0 ≤ p) (ht : 1 ≤ t.length ∧ t.length ≤ 900) : ∃ t' p' h', spec_l01Bad.f c p h t = some (t', p', h') ∧ t'.length ≤ t.length + 1 ∧ 0 ≤ p' := by
 obtain ⟨v, p1, h1, e1, hv, hp1⟩ := next_ex c p h 50 hc hl hp (by omega)
 unfold spec_l01Bad.f
 rw [spec_l01Copy_eq t (by omega)]
 simp only [Option.bind_some, e1]
 by_cases c0 : v = 0
 ·rw [if_pos c0]
  exact ⟨_, _, _, rfl, by simp, hp1⟩
 ·rw [if_neg c0]
  by_cases c1 : v = 1
  ·rw [if_pos c1, spec_l01N_eq]
   obtain ⟨i, p2, h2, e2, hi, hp2⟩ := next_ex c p1 h1 (t.length : Int) hc hl hp1 (by omega)
   obtain ⟨x, p3, h3, e3, _, hp3⟩ := pick_ex c p2 h2 [(-1), 0, 1, 2, 25] hc hl hp2 (by simp)
   simp only [Option.bind_some, e2, e3]
   rw [if_pos (by omega), if_pos (by omega)]
   exact ⟨_, _, _, rfl, by simp, hp3⟩
  ·rw [if_neg c1]
   by_cases c2 : v = 2
   ·rw [if_pos c2, if_pos (by omega)]
    exact ⟨_, _, _, rfl, by simp, hp1⟩
   ·rw [if_neg c2]
    exact ⟨_, _, _, rfl, by omega, hp1⟩
theorem spoil_ex (c : List Int) (p h : Int) (hc : bytesL c) (hl : c.length ≤ 4096) (hp : 0 ≤ p) : ∃ t p' h', Ev (fun k => spec_l01Spoil.f k c p h) (t, p', h') ∧ t.length ≤ 25 ∧ 0 ≤ p' := by
 obtain ⟨t, p1, h1, e1, _, ht, hp1⟩ := draw_ex c p h hc hl hp
 obtain ⟨t', p', h', e2, ht', hp'⟩ := bad_ex c p1 h1 t hc hl hp1 (by omega)
 refine ⟨t', p', h', ?_, by omega, hp'⟩
 unfold spec_l01Spoil.f
 refine Ev.bind e1 ?_
 simp only [e2, Option.bind_some]
 exact Ev.now _
theorem from_ev (l : List Int) (hl : l.length ≤ 4096) : ∃ h, Ev (fun k => spec_l01From.f k l) (l, 0, h) := by
 have key : ∀ (m i : Nat) (h : Int), i + m = l.length → ∃ h', Ev (fun k => spec_l01From.l0 k l (i : Int) l 0 h) (l, 0, h') := by
  intro m
  induction m with
  | zero =>
   intro i h hi
   refine ⟨h, Ev.succ ?_⟩
   simp only [spec_l01From.l0]
   exact Ev.neg (by omega) (Ev.now _)
  | succ m ih =>
   intro i h hi
   obtain ⟨h', e⟩ := ih (i + 1) (IntKind.u64.wrap ((IntKind.u64.wrap ((IntKind.u64.wrap (h * 1099511628211)) + (IntKind.u64.wrap (rd l (i : Int))))) + 233)) (by omega)
   refine ⟨h', Ev.succ ?_⟩
   simp only [spec_l01From.l0]
   refine Ev.pos (by omega) (Ev.pos (by omega) (Ev.pos (by omega) ?_))
   rw [w64 (x := (i : Int) + 1) (by omega), show (i : Int) + 1 = ((i + 1 : Nat) : Int) by omega]
   exact e
 unfold spec_l01From.f
 exact key l.length 0 _ (by omega)
theorem DrawSizesOf_ex (c : List Int) (hc : bytesL c) (hl : c.length ≤ 4096) : ∃ t, Ev (fun k => spec_DrawSizesOf.f k c) t ∧ t.length ≤ 25 := by
 obtain ⟨h, e0⟩ := from_ev c hl
 obtain ⟨t, p1, h1, e1, ht, _⟩ := spoil_ex c 0 h hc hl (by omega)
 refine ⟨t, ?_, ht⟩
 unfold spec_DrawSizesOf.f
 exact Ev.bind e0 (Ev.bind e1 (Ev.now _))
theorem impl_isTree_ev (d : List Int) (hm : d.length ≤ 9223372036854775807) : Ev (fun k => impl_isTree.f k d) (isT d) := by
 have key : ∀ (n i : Nat) (need : Int), i + n = d.length → d.length ≤ 24 → 0 ≤ need → need ≤ 1 + 24 * (i : Int) →
   Ev (fun k => impl_isTree.l0 k need d d.length i) (okT 24 (d.drop i) need) := by
  intro n
  induction n with
  | zero =>
   intro i need h h24 h0 h1
   apply Ev.succ
   simp (disch := omega) only [impl_isTree.l0, if_pos, if_neg]
   rw [List.drop_eq_nil_of_le (by omega)]
   exact Ev.some (by simp only [okT]; rw [Bool.eq_iff_iff]; simp)
  | succ n ih =>
   intro i need h h24 h0 h1
   apply Ev.succ
   have hi : i < d.length := by omega
   have hr : rd d i = d[i] := by rw [rd_nat, List.getD_eq_getElem?_getD, List.getElem?_eq_getElem hi]; rfl
   simp (disch := omega) only [impl_isTree.l0, if_pos, if_neg, hr]
   rw [List.drop_eq_getElem_cons hi]
   simp only [okT]
   by_cases c0 : need = 0
   ·rw [if_pos c0]; exact Ev.pos c0 (Ev.now _)
   ·rw [if_neg c0]
    refine Ev.neg c0 ?_
    by_cases c1 : d[i] < 0
    ·rw [if_pos c1]; exact Ev.pos c1 (Ev.now _)
    ·rw [if_neg c1]
     refine Ev.neg c1 ?_
     by_cases c2 : d[i] ≥ 24
     ·rw [if_pos c2]; exact Ev.pos c2 (Ev.now _)
     ·rw [if_neg c2]
      refine Ev.neg c2 ?_
      rw [w64 (x := d[i] - 1) (by omega), w64 (by omega), w64 (by omega)]
      exact ih (i + 1) _ (by omega) h24 (by omega) (by omega)
 unfold impl_isTree.f
 by_cases c1 : (d.length : Int) < 1
 ·refine Ev.pos c1 (Ev.succ ?_)
  simp only [impl_isTree.j0, if_true]
  refine Ev.some ?_
  rw [eq_comm, Bool.eq_false_iff]
  intro h
  have := isT_length h
  omega
 ·refine Ev.neg c1 (Ev.succ ?_)
  simp only [impl_isTree.j0, decide_eq_true_eq]
  by_cases c : (d.length : Int) > 24
  ·refine Ev.pos c (Ev.some ?_)
   rw [eq_comm, Bool.eq_false_iff]
   intro h
   have := isT_length h
   omega
  ·refine Ev.neg c ?_
   have := key d.length 0 1 (by omega) (by omega) (by omega) (by omega)
   rw [List.drop_zero] at this
   have e : isT d = okT 24 d 1 := by
    unfold isT
    rw [decide_eq_true (by omega : 1 ≤ d.length), decide_eq_true (by omega : d.length ≤ 24)]
    simp
   rw [e]
   exact this
theorem impl_IsTree_ev (d : List Int) (hm : d.length ≤ 9223372036854775807) : Ev (fun k => impl_IsTree.f k d) (isT d) := by
 unfold impl_IsTree.f
 exact Ev.bind (impl_isTree_ev d hm) (Ev.now _)
theorem impl_endOf_at (d : List Int) (hd : d.length ≤ 24) : ∀ (n : Nat) (f : F) (a : Nat), sz f = n → At d a f → Ev (fun m => impl_endOf.l0 m d a (len f)) ((a + sz f : Nat) : Int) := by
 intro n
 induction n with
 | zero =>
  intro f a hf h
  cases f with
  | nil =>
   apply Ev.succ
   simp (disch := omega) only [impl_endOf.l0, if_neg, len]
   exact Ev.some (by simp [sz])
  | cons k r => simp only [sz] at hf; omega
 | succ n ih =>
  intro f a hf h
  cases f with
  | nil => simp [sz] at hf
  | cons k r =>
   obtain ⟨h1, h2, _, _⟩ := h.step
   have h3 := h.app
   have hb := h.1
   have hl := len_le_sz k
   have hl2 := len_le_sz r
   simp only [sz] at hf hb
   have e := ih (app k r) (a + 1) (by rw [sz_app]; omega) h3
   rw [len_app, sz_app] at e
   apply Ev.succ
   simp (disch := omega) only [impl_endOf.l0, if_pos, len, h2, w64]
   rw [show ((1 + len r : Nat) : Int) + ((len k : Int) - 1) = ((len k + len r : Nat) : Int) by omega, show (a : Int) + 1 = ((a + 1 : Nat) : Int) by omega]
   simp only [sz]
   rw [show a + (1 + sz k + sz r) = a + 1 + (sz k + sz r) by omega]
   exact e
theorem impl_endOf_ev (d : List Int) (hd : d.length ≤ 24) {a : Nat} {k r : F} (h : At d a (cons k r)) : Ev (fun m => impl_endOf.f m d a) ((a + 1 + sz k : Nat) : Int) := by
 have e := impl_endOf_at d hd _ (cons k nil) a rfl h.one
 simp only [len, sz] at e
 rw [show a + (1 + sz k + 0) = a + 1 + sz k by omega] at e
 unfold impl_endOf.f
 exact e
theorem impl_sizesOf_l0 (k : F) (hk : sz k ≤ 23) : ∀ (n v : Nat), v + n = sz k + 1 →
  Ev (fun m => impl_sizesOf.l0 m (tr k) ((List.range v).map (sizeAt k)) (tr k).length v) (sizesV k) := by
 have hl := tr_length k
 intro n
 induction n with
 | zero =>
  intro v h
  apply Ev.succ
  simp (disch := omega) only [impl_sizesOf.l0, if_neg]
  exact Ev.some (by rw [show v = sz k + 1 by omega]; rfl)
 | succ n ih =>
  intro v h
  have e := impl_endOf_ev (tr k) (by omega) (st_At k v (by omega))
  have hs := sub_small k v (by omega)
  have := ih (v + 1) (by omega)
  rw [map_range_snoc] at this
  apply Ev.succ
  simp (disch := omega) only [impl_sizesOf.l0, if_pos, w64]
  refine Ev.bind e ?_
  have hlen : ((List.range v).map (sizeAt k)).length ≤ 24 := by rw [List.length_map, List.length_range]; omega
  rw [w64 (by omega), show ((v + 1 + sz (st k v) : Nat) : Int) - (v : Int) = sizeAt k v by unfold sizeAt; omega]
  exact Ev.pos (by omega) this
theorem impl_sizesOf_ev (k : F) (hk : sz k ≤ 23) : Ev (fun m => impl_sizesOf.f m (tr k)) (sizesV k) := by
 unfold impl_sizesOf.f
 exact impl_sizesOf_l0 k hk (sz k + 1) 0 (by omega)
theorem impl_SizesOf_ev (d : List Int) (hd : d.length ≤ 9223372036854775807) {R} (h : treeR sizesV [] d R) : Ev (fun m => impl_SizesOf.f m d) R := by
 rcases h with ⟨h, rfl⟩ | ⟨k, rfl, hk, h, rfl⟩
 ·have e := impl_IsTree_ev d hd
  rw [h] at e
  unfold impl_SizesOf.f
  exact Ev.bind e (Ev.neg (by simp) (Ev.now _))
 ·have e := impl_IsTree_ev (tr k) hd
  rw [h] at e
  have hl := tr_length k
  unfold impl_SizesOf.f
  refine Ev.bind e (Ev.pos rfl ?_)
  exact Ev.bind (impl_sizesOf_ev k hk) (Ev.now _)
theorem spec_l01In_eq (a b c : Int) : spec_l01In.f a b c = some (decide (b ≤ a ∧ a ≤ c)) := by
 unfold spec_l01In.f
 by_cases h : a ≥ b
 ·rw [if_pos h]
  congr 1
  rw [Bool.eq_iff_iff, decide_eq_true_eq, decide_eq_true_eq]
  omega
 ·rw [if_neg h]
  congr 1
  rw [eq_comm, decide_eq_false_iff_not]
  omega
theorem spec_l01Is_ev (d : List Int) (hm : d.length ≤ 9223372036854775807) : Ev (fun k => spec_l01Is.f k d) (isT d) := by
 have key : ∀ (n i : Nat) (need : Int), i + n = d.length → d.length ≤ 24 → 0 ≤ need → need ≤ 1 + 24 * (i : Int) →
   Ev (fun k => spec_l01Is.l0 k need i d) (okT 25 (d.drop i) need) := by
  intro n
  induction n with
  | zero =>
   intro i need h h24 h0 h1
   apply Ev.succ
   simp (disch := omega) only [spec_l01Is.l0, if_pos, if_neg]
   rw [List.drop_eq_nil_of_le (by omega)]
   exact Ev.some (by simp only [okT]; rw [Bool.eq_iff_iff]; simp)
  | succ n ih =>
   intro i need h h24 h0 h1
   apply Ev.succ
   have hi : i < d.length := by omega
   have hr : rd d i = d[i] := by rw [rd_nat, List.getD_eq_getElem?_getD, List.getElem?_eq_getElem hi]; rfl
   simp (disch := omega) only [spec_l01Is.l0, if_pos, if_neg, spec_l01In_eq, Option.bind_some, decide_eq_true_eq, hr]
   rw [List.drop_eq_getElem_cons hi]
   simp only [okT]
   by_cases c0 : need = 0
   ·rw [if_pos c0]; exact Ev.pos c0 (Ev.now _)
   ·rw [if_neg c0]
    refine Ev.neg c0 ?_
    by_cases c1 : d[i] < 0
    ·rw [if_pos c1]; exact Ev.neg (by omega) (Ev.now _)
    ·rw [if_neg c1]
     by_cases c2 : d[i] ≥ 25
     ·rw [if_pos c2]; exact Ev.neg (by omega) (Ev.now _)
     ·rw [if_neg c2]
      refine Ev.pos (by omega) ?_
      rw [w64 (x := need - 1) (by omega), w64 (by omega), w64 (by omega), show need - 1 + d[i] = need + (d[i] - 1) by omega]
      exact ih (i + 1) _ (by omega) h24 (by omega) (by omega)
 unfold spec_l01Is.f
 simp only [spec_l01N_eq, Option.bind_some, spec_l01In_eq, decide_eq_true_eq]
 by_cases c : 1 ≤ (d.length : Int) ∧ (d.length : Int) ≤ 24
 ·refine Ev.pos c ?_
  have := key d.length 0 1 (by omega) (by omega) (by omega) (by omega)
  rw [List.drop_zero, okT_25 d (by omega)] at this
  have e : isT d = okT 24 d 1 := by
   unfold isT
   rw [decide_eq_true (by omega : 1 ≤ d.length), decide_eq_true (by omega : d.length ≤ 24)]
   simp
  rw [e]
  exact this
 ·refine Ev.neg c ?_
  refine Ev.some ?_
  rw [eq_comm, Bool.eq_false_iff]
  intro h
  have := isT_length h
  omega
theorem spec_l01End_at (d : List Int) (hd : d.length ≤ 24) : ∀ (n : Nat) (f : F) (a : Nat), sz f = n → At d a f → Ev (fun m => spec_l01End.l0 m a (len f) d) ((a + sz f : Nat) : Int) := by
 intro n
 induction n with
 | zero =>
  intro f a hf h
  cases f with
  | nil =>
   apply Ev.succ
   simp (disch := omega) only [spec_l01End.l0, if_neg, len]
   exact Ev.some (by simp [sz])
  | cons k r => simp only [sz] at hf; omega
 | succ n ih =>
  intro f a hf h
  cases f with
  | nil => simp [sz] at hf
  | cons k r =>
   obtain ⟨h1, h2, _, _⟩ := h.step
   have h3 := h.app
   have hb := h.1
   have hl := len_le_sz k
   have hl2 := len_le_sz r
   simp only [sz] at hf hb
   have e := ih (app k r) (a + 1) (by rw [sz_app]; omega) h3
   rw [len_app, sz_app] at e
   apply Ev.succ
   simp (disch := omega) only [spec_l01End.l0, if_pos, len, h2, w64]
   rw [show ((1 + len r : Nat) : Int) - 1 + (len k : Int) = ((len k + len r : Nat) : Int) by omega, show (a : Int) + 1 = ((a + 1 : Nat) : Int) by omega]
   simp only [sz]
   rw [show a + (1 + sz k + sz r) = a + 1 + (sz k + sz r) by omega]
   exact e
theorem spec_l01End_ev (d : List Int) (hd : d.length ≤ 24) {a : Nat} {k r : F} (h : At d a (cons k r)) : Ev (fun m => spec_l01End.f m d a) ((a + 1 + sz k : Nat) : Int) := by
 have e := spec_l01End_at d hd _ (cons k nil) a rfl h.one
 simp only [len, sz] at e
 rw [show a + (1 + sz k + 0) = a + 1 + sz k by omega] at e
 unfold spec_l01End.f
 exact e
theorem spec_SizesOf_l0 (k : F) (hk : sz k ≤ 23) : ∀ (n v : Nat), v + n = sz k + 1 →
  Ev (fun m => spec_SizesOf.l0 m ((List.range v).map (sizeAt k)) v (tr k)) (sizesV k, 0) := by
 have hl := tr_length k
 intro n
 induction n with
 | zero =>
  intro v h
  apply Ev.succ
  simp (disch := omega) only [spec_SizesOf.l0, if_neg, spec_l01N_eq, Option.bind_some]
  exact Ev.some (by rw [show v = sz k + 1 by omega]; rfl)
 | succ n ih =>
  intro v h
  have e := spec_l01End_ev (tr k) (by omega) (st_At k v (by omega))
  have hs := sub_small k v (by omega)
  have := ih (v + 1) (by omega)
  rw [map_range_snoc] at this
  apply Ev.succ
  simp (disch := omega) only [spec_SizesOf.l0, if_pos, w64, spec_l01N_eq, Option.bind_some]
  refine Ev.bind e ?_
  have hlen : ((List.range v).map (sizeAt k)).length ≤ 24 := by rw [List.length_map, List.length_range]; omega
  rw [w64 (by omega), show ((v + 1 + sz (st k v) : Nat) : Int) - (v : Int) = sizeAt k v by unfold sizeAt; omega]
  exact Ev.pos (by omega) this
theorem spec_SizesOf_ev (d : List Int) (hd : d.length ≤ 9223372036854775807) {R} (h : treeR sizesV [] d R) : Ev (fun m => spec_SizesOf.f m d) R := by
 rcases h with ⟨h, rfl⟩ | ⟨k, rfl, hk, h, rfl⟩
 ·have e := spec_l01Is_ev d hd
  rw [h] at e
  unfold spec_SizesOf.f
  exact Ev.bind e (Ev.neg (by simp) (Ev.now _))
 ·have e := spec_l01Is_ev (tr k) hd
  rw [h] at e
  have hl := tr_length k
  unfold spec_SizesOf.f
  refine Ev.bind e (Ev.pos rfl ?_)
  exact spec_SizesOf_l0 k hk (sz k + 1) 0 (by omega)
theorem impl_kidsOf_at (d : List Int) (hd : d.length ≤ 24) (n : Nat) (hn : n ≤ 24) : ∀ (f : F) (c : Nat) (out : List Int) (i : Nat), At d c f → i + len f = n → out.length ≤ 1000 + i →
  Ev (fun m => impl_kidsOf.l0 m d out c n i) (out ++ offs c f) := by
 intro f
 induction f with
 | nil =>
  intro c out i h hi ho
  simp only [len] at hi
  apply Ev.succ
  simp (disch := omega) only [impl_kidsOf.l0, if_neg]
  exact Ev.some (by simp [offs])
 | cons k r _ ihr =>
  intro c out i h hi ho
  simp only [len] at hi
  have e := impl_endOf_ev d hd h
  have hh := h.step
  apply Ev.succ
  simp (disch := omega) only [impl_kidsOf.l0, if_pos, w64]
  refine Ev.bind e ?_
  have := ihr (c + 1 + sz k) (out ++ [(c : Int)]) (i + 1) hh.2.2.2 (by omega) (by simp only [List.length_append, List.length_cons, List.length_nil]; omega)
  simp only [List.append_assoc, List.singleton_append] at this
  exact this
theorem impl_kidsOf_ev (d : List Int) (hd : d.length ≤ 24) {a : Nat} {k r : F} (h : At d a (cons k r)) : Ev (fun m => impl_kidsOf.f m d a) (offs (a + 1) k) := by
 have hh := h.step
 have hb := h.1
 have hl := len_le_sz k
 simp only [sz] at hb
 have e := impl_kidsOf_at d hd (len k) (by omega) k (a + 1) [] 0 hh.2.2.1 (by omega) (by simp)
 unfold impl_kidsOf.f
 rw [hh.2.1, w64 (x := (a : Int) + 1) (by omega)]
 exact Ev.pos (by omega) (Ev.pos (by omega) e)

theorem impl_parentsOf_l1 (d cs : List Int) (m : Nat) (n : Nat) (hm : m ≤ 24) (hcs : cs.length ≤ 1000) {R : List Int} : ∀ (xs : List Int) (i : Nat) (P : List Int), cs.drop i = xs → i + xs.length = cs.length → (∀ c ∈ xs, 0 ≤ c ∧ c < (P.length : Int)) →
  Ev (fun k => impl_parentsOf.l0 k d (setAll P xs (m : Int)) (n : Int) ((m + 1 : Nat) : Int)) R → Ev (fun k => impl_parentsOf.l1 k d P m n m cs cs.length i) R := by
 intro xs
 induction xs with
 | nil =>
  intro i P h hi _ e
  simp only [List.length_nil] at hi
  refine Ev.step (fun k => by rw [impl_parentsOf.l1]) ?_
  refine Ev.neg (by omega) ?_
  rw [w64 (by omega)]
  exact e
 | cons x xs ih =>
  intro i P h hi hb e
  have hr := rd_drop h
  have hd := (drop_cons h).2.2
  have hx := hb x (by simp)
  simp only [List.length_cons] at hi
  refine Ev.step (fun k => by rw [impl_parentsOf.l1]) ?_
  rw [hr]
  refine Ev.pos (by omega) (Ev.pos (by omega) (Ev.pos (by omega) (Ev.pos (by omega) (Ev.pos (by omega) ?_))))
  rw [w64 (by omega)]
  exact ih (i + 1) (P.set x.toNat m) hd (by omega) (fun c hc => by rw [List.length_set]; exact hb c (by simp [hc])) e
theorem impl_parentsOf_l0 (k : F) (hk : sz k ≤ 23) : ∀ (n m : Nat), m + n = sz k + 1 → Ev (fun j => impl_parentsOf.l0 j (tr k) (parS k (-1) m) ((tr k).length : Int) m) (parV k) := by
 have hl := tr_length k
 intro n
 induction n with
 | zero =>
  intro m h
  refine Ev.step (fun k => by rw [impl_parentsOf.l0]) ?_
  refine Ev.neg (by omega) (Ev.some ?_)
  rw [show m = sz k + 1 by omega]
  exact parS_end k (-1)
 | succ n ih =>
  intro m h
  have hs := sub_small k m (by omega)
  have hkl := len_le_sz (st k m)
  have ol := offs_length (st k m) (m + 1)
  have e := impl_kidsOf_ev (tr k) (by omega) (st_At k m (by omega))
  refine Ev.step (fun k => by rw [impl_parentsOf.l0]) ?_
  refine Ev.pos (by omega) (Ev.bind e ?_)
  refine impl_parentsOf_l1 (tr k) _ m _ (by omega) (by omega) (offs (m + 1) (st k m)) 0 (parS k (-1) m) rfl (by omega) (fun c hc => ?_) ?_
  ·have := offs_bound (st k m) (m + 1) c hc
   rw [parS_length]
   omega
  ·rw [parS_step k (-1) (by omega)]
   exact ih (m + 1) (by omega)
theorem impl_parentsOf_ev (k : F) (hk : sz k ≤ 23) : Ev (fun j => impl_parentsOf.f j (tr k)) (parV k) := by
 have hl := tr_length k
 have e := impl_parentsOf_l0 k hk (sz k + 1) 0 (by omega)
 rw [parS_impl] at e
 have er : slices_Repeat_int64_int64.f ([(-1)] : List Int) ((tr k).length : Int) = some (List.replicate (sz k + 1) (-1)) := by
  unfold slices_Repeat_int64_int64.f
  rw [if_pos (show ([(-1)] : List Int).length = 1 from rfl), if_pos (by omega), if_pos (by omega), Int.toNat_natCast, hl]
  rfl
 unfold impl_parentsOf.f
 rw [er]
 exact e
theorem impl_ParentsOf_ev (d : List Int) (hd : d.length ≤ 9223372036854775807) {R} (h : treeR parV [] d R) : Ev (fun m => impl_ParentsOf.f m d) R := by
 rcases h with ⟨h, rfl⟩ | ⟨k, rfl, hk, h, rfl⟩
 ·have e := impl_IsTree_ev d hd
  rw [h] at e
  unfold impl_ParentsOf.f
  exact Ev.bind e (Ev.neg (by simp) (Ev.now _))
 ·have e := impl_IsTree_ev (tr k) hd
  rw [h] at e
  unfold impl_ParentsOf.f
  refine Ev.bind e (Ev.pos rfl ?_)
  exact Ev.bind (impl_parentsOf_ev k hk) (Ev.now _)
theorem spec_l01Children_at (d : List Int) (hd : d.length ≤ 24) : ∀ (f : F) (c : Nat) (out : List Int), At d c f → len f ≤ 24 → out.length + len f ≤ 1000 →
  Ev (fun m => spec_l01Children.l0 m out c (len f) d) (out ++ offs c f) := by
 intro f
 induction f with
 | nil =>
  intro c out h hi ho
  apply Ev.succ
  simp (disch := omega) only [spec_l01Children.l0, if_neg, len]
  exact Ev.some (by simp [offs])
 | cons k r _ ihr =>
  intro c out h hi ho
  have e := spec_l01End_ev d hd h
  have hh := h.step
  simp only [len] at hi ho
  apply Ev.succ
  simp (disch := omega) only [spec_l01Children.l0, if_pos, w64, len]
  refine Ev.bind e ?_
  have := ihr (c + 1 + sz k) (out ++ [(c : Int)]) hh.2.2.2 (by omega) (by simp only [List.length_append, List.length_cons, List.length_nil]; omega)
  simp only [List.append_assoc, List.singleton_append] at this
  rw [show ((1 + len r : Nat) : Int) - 1 = (len r : Int) by omega]
  exact this
theorem spec_l01Children_ev (d : List Int) (hd : d.length ≤ 24) {a : Nat} {k r : F} (h : At d a (cons k r)) : Ev (fun m => spec_l01Children.f m d a) (offs (a + 1) k) := by
 have hh := h.step
 have hb := h.1
 have hl := len_le_sz k
 simp only [sz] at hb
 have e := spec_l01Children_at d hd k (a + 1) [] hh.2.2.1 (by omega) (by simp; omega)
 unfold spec_l01Children.f
 rw [hh.2.1, w64 (x := (a : Int) + 1) (by omega)]
 exact Ev.pos (by omega) (Ev.pos (by omega) e)
theorem spec_l01Parents_l1 (d cs : List Int) (m : Nat) (hm : m ≤ 24) (hcs : cs.length ≤ 1000) {R : List Int} : ∀ (xs : List Int) (i : Nat) (P : List Int), cs.drop i = xs → i + xs.length = cs.length → (∀ c ∈ xs, 0 ≤ c ∧ c < (P.length : Int)) →
  Ev (fun k => spec_l01Parents.l0 k (setAll P xs (m : Int)) ((m + 1 : Nat) : Int) d) R → Ev (fun k => spec_l01Parents.l1 k P m cs i d) R := by
 intro xs
 induction xs with
 | nil =>
  intro i P h hi _ e
  simp only [List.length_nil] at hi
  refine Ev.step (fun k => by rw [spec_l01Parents.l1]) ?_
  refine Ev.neg (by omega) ?_
  rw [w64 (by omega)]
  exact e
 | cons x xs ih =>
  intro i P h hi hb e
  have hr := rd_drop h
  have hd := (drop_cons h).2.2
  have hx := hb x (by simp)
  simp only [List.length_cons] at hi
  refine Ev.step (fun k => by rw [spec_l01Parents.l1]) ?_
  rw [hr]
  refine Ev.pos (by omega) (Ev.pos (by omega) (Ev.pos (by omega) (Ev.pos (by omega) ?_)))
  rw [w64 (by omega)]
  exact ih (i + 1) (P.set x.toNat m) hd (by omega) (fun c hc => by rw [List.length_set]; exact hb c (by simp [hc])) e
theorem spec_l01Parents_l0 (k : F) (hk : sz k ≤ 23) : ∀ (n m : Nat), m + n = sz k + 1 → Ev (fun j => spec_l01Parents.l0 j (parS k 0 m) m (tr k)) (parV k) := by
 have hl := tr_length k
 intro n
 induction n with
 | zero =>
  intro m h
  refine Ev.step (fun k => by rw [spec_l01Parents.l0]) ?_
  simp only [spec_l01N_eq, Option.bind_some]
  refine Ev.neg (by omega) (Ev.some ?_)
  rw [show m = sz k + 1 by omega]
  exact parS_end k 0
 | succ n ih =>
  intro m h
  have hs := sub_small k m (by omega)
  have hkl := len_le_sz (st k m)
  have ol := offs_length (st k m) (m + 1)
  have e := spec_l01Children_ev (tr k) (by omega) (st_At k m (by omega))
  refine Ev.step (fun k => by rw [spec_l01Parents.l0]) ?_
  simp only [spec_l01N_eq, Option.bind_some]
  refine Ev.pos (by omega) (Ev.bind e ?_)
  refine spec_l01Parents_l1 (tr k) _ m (by omega) (by omega) (offs (m + 1) (st k m)) 0 (parS k 0 m) rfl (by omega) (fun c hc => ?_) ?_
  ·have := offs_bound (st k m) (m + 1) c hc
   rw [parS_length]
   omega
  ·rw [parS_step k 0 (by omega)]
   exact ih (m + 1) (by omega)
theorem spec_l01Parents_ev (k : F) (hk : sz k ≤ 23) : Ev (fun j => spec_l01Parents.f j (tr k)) (parV k) := by
 have hl := tr_length k
 have e := spec_l01Parents_l0 k hk (sz k + 1) 0 (by omega)
 rw [parS_spec] at e
 unfold spec_l01Parents.f
 simp only [spec_l01N_eq, Option.bind_some]
 refine Ev.pos (by omega) (Ev.pos (by omega) (Ev.pos (by rw [List.length_replicate]; omega) ?_))
 rw [Int.toNat_natCast, hl]
 exact e
theorem spec_ParentsOf_ev (d : List Int) (hd : d.length ≤ 9223372036854775807) {R} (h : treeR parV [] d R) : Ev (fun m => spec_ParentsOf.f m d) R := by
 rcases h with ⟨h, rfl⟩ | ⟨k, rfl, hk, h, rfl⟩
 ·have e := spec_l01Is_ev d hd
  rw [h] at e
  unfold spec_ParentsOf.f
  exact Ev.bind e (Ev.neg (by simp) (Ev.now _))
 ·have e := spec_l01Is_ev (tr k) hd
  rw [h] at e
  unfold spec_ParentsOf.f
  refine Ev.bind e (Ev.pos rfl ?_)
  exact Ev.bind (spec_l01Parents_ev k hk) (Ev.now _)
theorem impl_depthsOf_l0 (k : F) (hk : sz k ≤ 23) : ∀ (n v : Nat), v + n = sz k + 1 → Ev (fun j => impl_depthsOf.l0 j (depS k v) (parV k) ((parV k).length : Int) v) (depV k) := by
 have hpl := parV_length k
 intro n
 induction n with
 | zero =>
  intro v h
  refine Ev.step (fun k => by rw [impl_depthsOf.l0]) ?_
  refine Ev.neg (by omega) (Ev.some ?_)
  rw [show v = sz k + 1 by omega]
  exact depS_end k
 | succ n ih =>
  intro v h
  refine Ev.step (fun k => by rw [impl_depthsOf.l0]) ?_
  rw [parV_rd k (by omega)]
  refine Ev.pos (by omega) (Ev.pos (by omega) (Ev.pos (by omega) ?_))
  by_cases c : v = 0
  ·subst c
   rw [par_zero]
   refine Ev.neg (by omega) ?_
   rw [w64 (by omega)]
   have := ih 1 (by omega)
   rw [depS_one, ← depS_zero] at this
   exact this
  ·have hp := par_pos k (by omega) (j := v) (by omega)
   have hd := dep_par k (j := v) (by omega) (by omega)
   have hb := dep_bound k 24 (par k v).toNat (by omega) (by omega)
   have hr := depS_rd k v (j := (par k v).toNat) (by omega) (by omega)
   rw [Int.toNat_of_nonneg hp.1] at hr
   rw [hr, depS_length]
   refine Ev.pos (by omega) (Ev.pos (by omega) (Ev.pos (by omega) (Ev.pos (by omega) ?_)))
   rw [w64 (by omega), w64 (by omega), ← hd, Int.toNat_natCast, depS_step k (by omega)]
   exact ih (v + 1) (by omega)
theorem impl_depthsOf_ev (k : F) (hk : sz k ≤ 23) : Ev (fun j => impl_depthsOf.f j (tr k)) (depV k) := by
 have hl := tr_length k
 have e := impl_depthsOf_l0 k hk (sz k + 1) 0 (by omega)
 rw [depS_zero] at e
 unfold impl_depthsOf.f
 refine Ev.pos (by omega) (Ev.pos (by omega) ?_)
 refine Ev.bind (impl_parentsOf_ev k hk) ?_
 rw [Int.toNat_natCast, hl]
 exact e
theorem impl_DepthsOf_ev (d : List Int) (hd : d.length ≤ 9223372036854775807) {R} (h : treeR depV [] d R) : Ev (fun m => impl_DepthsOf.f m d) R := by
 rcases h with ⟨h, rfl⟩ | ⟨k, rfl, hk, h, rfl⟩
 ·have e := impl_IsTree_ev d hd
  rw [h] at e
  unfold impl_DepthsOf.f
  exact Ev.bind e (Ev.neg (by simp) (Ev.now _))
 ·have e := impl_IsTree_ev (tr k) hd
  rw [h] at e
  unfold impl_DepthsOf.f
  refine Ev.bind e (Ev.pos rfl ?_)
  exact Ev.bind (impl_depthsOf_ev k hk) (Ev.now _)
theorem spec_l01Depths_l0 (k : F) (hk : sz k ≤ 23) : ∀ (n v : Nat), 1 ≤ v → v + n = sz k + 1 → Ev (fun j => spec_l01Depths.l0 j (parV k) (depS k v) v) (depV k) := by
 intro n
 induction n with
 | zero =>
  intro v _ h
  refine Ev.step (fun k => by rw [spec_l01Depths.l0]) ?_
  refine Ev.neg (by rw [depS_length]; omega) (Ev.some ?_)
  rw [show v = sz k + 1 by omega]
  exact depS_end k
 | succ n ih =>
  intro v h1 h
  have hp := par_pos k h1 (by omega)
  have hd := dep_par k h1 (by omega)
  have hb := dep_bound k 24 (par k v).toNat (by omega) (by omega)
  have hr := depS_rd k v (j := (par k v).toNat) (by omega) (by omega)
  rw [Int.toNat_of_nonneg hp.1] at hr
  refine Ev.step (fun k => by rw [spec_l01Depths.l0]) ?_
  rw [parV_rd k (by omega), depS_length, parV_length, hr]
  refine Ev.pos (by omega) (Ev.pos (by omega) (Ev.pos (by omega) (Ev.pos (by omega) (Ev.pos (by omega) ?_))))
  rw [w64 (by omega), w64 (by omega), ← hd, Int.toNat_natCast, depS_step k (by omega)]
  exact ih (v + 1) (by omega) (by omega)
theorem spec_l01Depths_ev (k : F) (hk : sz k ≤ 23) : Ev (fun j => spec_l01Depths.f j (tr k)) (depV k) := by
 have hl := tr_length k
 have e := spec_l01Depths_l0 k hk (sz k) 1 (by omega) (by omega)
 rw [depS_one] at e
 unfold spec_l01Depths.f
 refine Ev.bind (spec_l01Parents_ev k hk) ?_
 simp only [spec_l01N_eq, Option.bind_some]
 refine Ev.pos (by omega) (Ev.pos (by omega) ?_)
 rw [Int.toNat_natCast, hl]
 exact e
theorem spec_DepthsOf_ev (d : List Int) (hd : d.length ≤ 9223372036854775807) {R} (h : treeR depV [] d R) : Ev (fun m => spec_DepthsOf.f m d) R := by
 rcases h with ⟨h, rfl⟩ | ⟨k, rfl, hk, h, rfl⟩
 ·have e := spec_l01Is_ev d hd
  rw [h] at e
  unfold spec_DepthsOf.f
  exact Ev.bind e (Ev.neg (by simp) (Ev.now _))
 ·have e := spec_l01Is_ev (tr k) hd
  rw [h] at e
  unfold spec_DepthsOf.f
  refine Ev.bind e (Ev.pos rfl ?_)
  exact Ev.bind (spec_l01Depths_ev k hk) (Ev.now _)
theorem impl_LeavesOf_l0 (d : List Int) (hd : d.length ≤ 24) : ∀ (xs : List Int) (i : Nat) (out : List Int), d.drop i = xs → i + xs.length = d.length → out.length ≤ i →
  Ev (fun m => impl_LeavesOf.l0 m out d d.length i) (out ++ leavesFrom i xs, 0) := by
 intro xs
 induction xs with
 | nil =>
  intro i out h hi ho
  simp only [List.length_nil] at hi
  apply Ev.succ
  simp (disch := omega) only [impl_LeavesOf.l0, if_neg, leavesFrom]
  exact Ev.some (by simp)
 | cons x xs ih =>
  intro i out h hi ho
  simp only [List.length_cons] at hi
  have hr := rd_drop h
  have hdr := (drop_cons h).2.2
  apply Ev.succ
  simp (disch := omega) only [impl_LeavesOf.l0, if_pos, hr, w64, leavesFrom]
  by_cases c : x = 0
  ·rw [if_pos c]
   have := ih (i + 1) (out ++ [(i : Int)]) hdr (by omega) (by simp; omega)
   simp only [List.append_assoc, List.singleton_append] at this
   exact Ev.pos c this
  ·rw [if_neg c]
   exact Ev.neg c (ih (i + 1) out hdr (by omega) (by omega))
theorem impl_LeavesOf_ev (d : List Int) (hd : d.length ≤ 9223372036854775807) {R} (h : treeR leavesV [] d R) : Ev (fun m => impl_LeavesOf.f m d) R := by
 rcases h with ⟨h, rfl⟩ | ⟨k, rfl, hk, h, rfl⟩
 ·have e := impl_IsTree_ev d hd
  rw [h] at e
  unfold impl_LeavesOf.f
  exact Ev.bind e (Ev.neg (by simp) (Ev.now _))
 ·have e := impl_IsTree_ev (tr k) hd
  rw [h] at e
  have hl := tr_length k
  unfold impl_LeavesOf.f
  refine Ev.bind e (Ev.pos rfl ?_)
  exact impl_LeavesOf_l0 (tr k) (by omega) (tr k) 0 [] rfl (by omega) (by simp)
theorem spec_LeavesOf_l0 (d : List Int) (hd : d.length ≤ 24) : ∀ (xs : List Int) (i : Nat) (out : List Int), d.drop i = xs → i + xs.length = d.length → out.length ≤ i →
  Ev (fun m => spec_LeavesOf.l0 m out i d) (out ++ leavesFrom i xs, 0) := by
 intro xs
 induction xs with
 | nil =>
  intro i out h hi ho
  simp only [List.length_nil] at hi
  apply Ev.succ
  simp (disch := omega) only [spec_LeavesOf.l0, if_neg, leavesFrom, spec_l01N_eq, Option.bind_some]
  exact Ev.some (by simp)
 | cons x xs ih =>
  intro i out h hi ho
  simp only [List.length_cons] at hi
  have hr := rd_drop h
  have hdr := (drop_cons h).2.2
  apply Ev.succ
  simp (disch := omega) only [spec_LeavesOf.l0, if_pos, hr, w64, leavesFrom, spec_l01N_eq, Option.bind_some]
  by_cases c : x = 0
  ·rw [if_pos c]
   have := ih (i + 1) (out ++ [(i : Int)]) hdr (by omega) (by simp; omega)
   simp only [List.append_assoc, List.singleton_append] at this
   exact Ev.pos c this
  ·rw [if_neg c]
   exact Ev.neg c (ih (i + 1) out hdr (by omega) (by omega))
theorem spec_LeavesOf_ev (d : List Int) (hd : d.length ≤ 9223372036854775807) {R} (h : treeR leavesV [] d R) : Ev (fun m => spec_LeavesOf.f m d) R := by
 rcases h with ⟨h, rfl⟩ | ⟨k, rfl, hk, h, rfl⟩
 ·have e := spec_l01Is_ev d hd
  rw [h] at e
  unfold spec_LeavesOf.f
  exact Ev.bind e (Ev.neg (by simp) (Ev.now _))
 ·have e := spec_l01Is_ev (tr k) hd
  rw [h] at e
  have hl := tr_length k
  unfold spec_LeavesOf.f
  refine Ev.bind e (Ev.pos rfl ?_)
  exact spec_LeavesOf_l0 (tr k) (by omega) (tr k) 0 [] rfl (by omega) (by simp)
theorem impl_postorder_at (d : List Int) (hd : d.length ≤ 24) (v : Int) : ∀ (f : F) (a : Nat) (v : Int) (pre out : List Int), At d a f → pre.length + len f ≤ 100 → out.length + sz f ≤ 1000 →
  Ev (fun m => impl_postorder.l0 m d v out (pre ++ offs a f) (pre.length + len f : Nat) pre.length) (out ++ post a f ++ [v]) := by
 intro f
 induction f with
 | nil =>
  intro a v pre out h hp ho
  simp only [sz] at ho
  apply Ev.succ
  simp (disch := omega) only [impl_postorder.l0, if_neg, if_pos, len]
  exact Ev.some (by simp [post])
 | cons k r ihk ihr =>
  intro a v pre out h hp ho
  have hh := h.step
  have hlo := offs_length (cons k r) a
  have hlk := offs_length k (a + 1)
  have hlk2 := len_le_sz k
  have hb := h.1
  simp only [sz] at hb ho
  simp only [len] at hp
  have e1 : Ev (fun m => impl_postorder.f m d a) (post (a + 1) k ++ [(a : Int)]) := by
   apply Ev.succ
   simp only [impl_postorder.f]
   refine Ev.bind (impl_kidsOf_ev d hd h) ?_
   have := ihk (a + 1) a [] [] hh.2.2.1 (by simp; omega) (by simp; omega)
   simpa [hlk] using this
  have hr : rd (pre ++ offs a (cons k r)) (pre.length : Int) = (a : Int) := rd_mid rfl
  have hpl := post_length k (a + 1)
  apply Ev.succ
  rw [len] at hlo
  simp only [impl_postorder.l0, len]
  refine Ev.pos (by omega) (Ev.pos (by omega) (Ev.pos (by rw [List.length_append, hlo]; omega) ?_))
  rw [hr]
  refine Ev.bind e1 (Ev.pos (by simp only [List.length_append, List.length_cons, List.length_nil]; omega) ?_)
  rw [w64 (by omega)]
  have := ihr (a + 1 + sz k) v (pre ++ [(a : Int)]) (out ++ (post (a + 1) k ++ [(a : Int)])) hh.2.2.2 (by simp; omega) (by simp; omega)
  simp only [List.length_append, List.length_cons, List.length_nil, List.append_assoc, List.singleton_append, Nat.zero_add] at this
  rw [show pre.length + (1 + len r) = pre.length + 1 + len r by omega, show (pre.length : Int) + 1 = ((pre.length + 1 : Nat) : Int) by omega]
  simp only [offs, post, List.append_assoc, List.cons_append]
  exact this
theorem impl_postorder_ev (d : List Int) (hd : d.length ≤ 24) {a : Nat} {k r : F} (h : At d a (cons k r)) : Ev (fun m => impl_postorder.f m d a) (post (a + 1) k ++ [(a : Int)]) := by
 have hb := h.1
 have hlk := offs_length k (a + 1)
 have hlk2 := len_le_sz k
 simp only [sz] at hb
 apply Ev.succ
 simp only [impl_postorder.f]
 refine Ev.bind (impl_kidsOf_ev d hd h) ?_
 have := impl_postorder_at d hd 0 k (a + 1) a [] [] h.step.2.2.1 (by simp; omega) (by simp; omega)
 simpa [hlk] using this
theorem impl_PostorderOf_ev (d : List Int) (hd : d.length ≤ 9223372036854775807) {R} (h : treeR postV [] d R) : Ev (fun m => impl_PostorderOf.f m d) R := by
 rcases h with ⟨h, rfl⟩ | ⟨k, rfl, hk, h, rfl⟩
 ·have e := impl_IsTree_ev d hd
  rw [h] at e
  unfold impl_PostorderOf.f
  exact Ev.bind e (Ev.neg (by simp) (Ev.now _))
 ·have e := impl_IsTree_ev (tr k) hd
  rw [h] at e
  have hl := tr_length k
  unfold impl_PostorderOf.f
  refine Ev.bind e (Ev.pos rfl ?_)
  have := impl_postorder_ev (tr k) (by omega) (tr_At k)
  exact Ev.bind this (Ev.some (by simp [postV, post]))
theorem spec_l01Post_at (d : List Int) (hd : d.length ≤ 24) (v : Int) : ∀ (f : F) (a : Nat) (v : Int) (pre out : List Int), At d a f → pre.length + len f ≤ 100 → out.length + sz f ≤ 1000 →
  Ev (fun m => spec_l01Post.l0 m v out (pre ++ offs a f) pre.length d) (out ++ post a f ++ [v]) := by
 intro f
 induction f with
 | nil =>
  intro a v pre out h hp ho
  simp only [sz] at ho
  apply Ev.succ
  simp (disch := omega) only [spec_l01Post.l0, if_neg, if_pos, offs, List.append_nil]
  exact Ev.some (by simp [post])
 | cons k r ihk ihr =>
  intro a v pre out h hp ho
  have hh := h.step
  have hlo := offs_length (cons k r) a
  have hlk := offs_length k (a + 1)
  have hlk2 := len_le_sz k
  have hb := h.1
  simp only [sz] at hb ho
  simp only [len] at hp
  have e1 : Ev (fun m => spec_l01Post.f m d a) (post (a + 1) k ++ [(a : Int)]) := by
   apply Ev.succ
   simp only [spec_l01Post.f]
   refine Ev.bind (spec_l01Children_ev d hd h) ?_
   have := ihk (a + 1) a [] [] hh.2.2.1 (by simp; omega) (by simp; omega)
   simpa [hlk] using this
  have hr : rd (pre ++ offs a (cons k r)) (pre.length : Int) = (a : Int) := rd_mid rfl
  have hpl := post_length k (a + 1)
  apply Ev.succ
  rw [len] at hlo
  simp only [spec_l01Post.l0]
  refine Ev.pos (by rw [List.length_append, hlo]; omega) (Ev.pos (by omega) ?_)
  rw [hr]
  refine Ev.bind e1 (Ev.pos (by simp only [List.length_append, List.length_cons, List.length_nil]; omega) ?_)
  rw [w64 (by omega)]
  have := ihr (a + 1 + sz k) v (pre ++ [(a : Int)]) (out ++ (post (a + 1) k ++ [(a : Int)])) hh.2.2.2 (by simp; omega) (by simp; omega)
  simp only [List.length_append, List.length_cons, List.length_nil, List.append_assoc, List.singleton_append, Nat.zero_add] at this
  rw [show (pre.length : Int) + 1 = ((pre.length + 1 : Nat) : Int) by omega]
  simp only [offs, post, List.append_assoc, List.cons_append]
  exact this
theorem spec_l01Post_ev (d : List Int) (hd : d.length ≤ 24) {a : Nat} {k r : F} (h : At d a (cons k r)) : Ev (fun m => spec_l01Post.f m d a) (post (a + 1) k ++ [(a : Int)]) := by
 have hb := h.1
 have hlk := offs_length k (a + 1)
 have hlk2 := len_le_sz k
 simp only [sz] at hb
 apply Ev.succ
 simp only [spec_l01Post.f]
 refine Ev.bind (spec_l01Children_ev d hd h) ?_
 have := spec_l01Post_at d hd 0 k (a + 1) a [] [] h.step.2.2.1 (by simp; omega) (by simp; omega)
 simpa [hlk] using this
theorem spec_PostorderOf_ev (d : List Int) (hd : d.length ≤ 9223372036854775807) {R} (h : treeR postV [] d R) : Ev (fun m => spec_PostorderOf.f m d) R := by
 rcases h with ⟨h, rfl⟩ | ⟨k, rfl, hk, h, rfl⟩
 ·have e := spec_l01Is_ev d hd
  rw [h] at e
  unfold spec_PostorderOf.f
  exact Ev.bind e (Ev.neg (by simp) (Ev.now _))
 ·have e := spec_l01Is_ev (tr k) hd
  rw [h] at e
  have hl := tr_length k
  unfold spec_PostorderOf.f
  refine Ev.bind e (Ev.pos rfl ?_)
  have := spec_l01Post_ev (tr k) (by omega) (tr_At k)
  exact Ev.bind this (Ev.some (by simp [postV, post]))
theorem impl_levelOrder_at (d : List Int) (hd : d.length ≤ 24) : ∀ (n : Nat) (q : List (Nat × F)) (done : List Int), szs q = n → (∀ p ∈ q, At d p.1 (cons p.2 nil)) → done.length + n ≤ 1000 →
  Ev (fun m => impl_levelOrder.l0 m d (done ++ q.map fun p => (p.1 : Int)) done.length) (done ++ bfs n q) := by
 intro n
 induction n with
 | zero =>
  intro q done hq hp ho
  cases q with
  | nil =>
   apply Ev.succ
   simp (disch := omega) only [impl_levelOrder.l0, if_neg, List.map_nil, List.append_nil, bfs]
   exact Ev.now _
  | cons p q => simp only [szs] at hq; omega
 | succ n ih =>
  intro q done hq hp ho
  cases q with
  | nil => simp [szs] at hq
  | cons p q =>
   obtain ⟨a, s⟩ := p
   have h0 := hp (a, s) (by simp)
   have e := impl_kidsOf_ev d hd h0
   have hr : rd (done ++ ((a, s) :: q).map fun p => (p.1 : Int)) (done.length : Int) = (a : Int) := rd_mid rfl
   have hql : (((a, s) :: q).map fun p => (p.1 : Int)).length = q.length + 1 := by simp
   have hol := offs_length s (a + 1)
   have hls := len_le_sz s
   have hsz : ∀ l : List (Nat × F), l.length ≤ szs l := by
    intro l
    induction l with
    | nil => simp [szs]
    | cons x l ihl => simp only [szs, List.length_cons]; omega
   have hq2 := hsz q
   simp only [szs] at hq
   apply Ev.succ
   simp only [impl_levelOrder.l0]
   rw [hr]
   refine Ev.pos (by rw [List.length_append, hql]; omega) (Ev.pos (by omega) (Ev.bind e (Ev.pos (by rw [List.length_append, hql, hol]; omega) ?_)))
   rw [w64 (by omega)]
   have := ih (q ++ tops (a + 1) s) (done ++ [(a : Int)]) (by rw [szs_append, szs_tops]; omega) (by
    intro p hp'
    rcases List.mem_append.1 hp' with h' | h'
    ·exact hp p (by simp [h'])
    ·exact tops_At s (a + 1) h0.step.2.2.1 p h') (by simp; omega)
   rw [List.map_append, ← tops_offs] at this
   simp only [List.length_append, List.length_cons, List.length_nil, List.append_assoc, List.singleton_append, Nat.zero_add] at this
   simp only [bfs, List.map_cons, List.append_assoc, List.cons_append]
   rw [show (done.length : Int) + 1 = ((done.length + 1 : Nat) : Int) by omega]
   exact this
theorem impl_levelOrder_ev (k : F) (hk : sz k ≤ 23) : Ev (fun m => impl_levelOrder.f m (tr k)) (levelV k) := by
 have hl := tr_length k
 have e := impl_levelOrder_at (tr k) (by omega) (sz k + 1) [(0, k)] [] (by simp only [szs]; omega) (by intro p hp; simp only [List.mem_singleton] at hp; subst hp; exact tr_At k) (by simp; omega)
 unfold impl_levelOrder.f
 exact e
theorem impl_LevelOrderOf_ev (d : List Int) (hd : d.length ≤ 9223372036854775807) {R} (h : treeR levelV [] d R) : Ev (fun m => impl_LevelOrderOf.f m d) R := by
 rcases h with ⟨h, rfl⟩ | ⟨k, rfl, hk, h, rfl⟩
 ·have e := impl_IsTree_ev d hd
  rw [h] at e
  unfold impl_LevelOrderOf.f
  exact Ev.bind e (Ev.neg (by simp) (Ev.now _))
 ·have e := impl_IsTree_ev (tr k) hd
  rw [h] at e
  have hl := tr_length k
  unfold impl_LevelOrderOf.f
  refine Ev.bind e (Ev.pos rfl ?_)
  exact Ev.bind (impl_levelOrder_ev k hk) (Ev.now _)
theorem spec_LevelOrderOf_at (d : List Int) (hd : d.length ≤ 24) : ∀ (n : Nat) (q : List (Nat × F)) (done : List Int), szs q = n → (∀ p ∈ q, At d p.1 (cons p.2 nil)) → done.length + n ≤ 1000 →
  Ev (fun m => spec_LevelOrderOf.l0 m (done ++ q.map fun p => (p.1 : Int)) done.length d) (done ++ bfs n q, 0) := by
 intro n
 induction n with
 | zero =>
  intro q done hq hp ho
  cases q with
  | nil =>
   apply Ev.succ
   simp (disch := omega) only [spec_LevelOrderOf.l0, if_neg, List.map_nil, List.append_nil, bfs]
   exact Ev.now _
  | cons p q => simp only [szs] at hq; omega
 | succ n ih =>
  intro q done hq hp ho
  cases q with
  | nil => simp [szs] at hq
  | cons p q =>
   obtain ⟨a, s⟩ := p
   have h0 := hp (a, s) (by simp)
   have e := spec_l01Children_ev d hd h0
   have hr : rd (done ++ ((a, s) :: q).map fun p => (p.1 : Int)) (done.length : Int) = (a : Int) := rd_mid rfl
   have hql : (((a, s) :: q).map fun p => (p.1 : Int)).length = q.length + 1 := by simp
   have hol := offs_length s (a + 1)
   have hls := len_le_sz s
   have hsz : ∀ l : List (Nat × F), l.length ≤ szs l := by
    intro l
    induction l with
    | nil => simp [szs]
    | cons x l ihl => simp only [szs, List.length_cons]; omega
   have hq2 := hsz q
   simp only [szs] at hq
   apply Ev.succ
   simp only [spec_LevelOrderOf.l0]
   rw [hr]
   refine Ev.pos (by rw [List.length_append, hql]; omega) (Ev.pos (by omega) (Ev.bind e (Ev.pos (by rw [List.length_append, hql, hol]; omega) ?_)))
   rw [w64 (by omega)]
   have := ih (q ++ tops (a + 1) s) (done ++ [(a : Int)]) (by rw [szs_append, szs_tops]; omega) (by
    intro p hp'
    rcases List.mem_append.1 hp' with h' | h'
    ·exact hp p (by simp [h'])
    ·exact tops_At s (a + 1) h0.step.2.2.1 p h') (by simp; omega)
   rw [List.map_append, ← tops_offs] at this
   simp only [List.length_append, List.length_cons, List.length_nil, List.append_assoc, List.singleton_append, Nat.zero_add] at this
   simp only [bfs, List.map_cons, List.append_assoc, List.cons_append]
   rw [show (done.length : Int) + 1 = ((done.length + 1 : Nat) : Int) by omega]
   exact this
theorem spec_LevelOrderOf_ev (d : List Int) (hd : d.length ≤ 9223372036854775807) {R} (h : treeR levelV [] d R) : Ev (fun m => spec_LevelOrderOf.f m d) R := by
 rcases h with ⟨h, rfl⟩ | ⟨k, rfl, hk, h, rfl⟩
 ·have e := spec_l01Is_ev d hd
  rw [h] at e
  unfold spec_LevelOrderOf.f
  exact Ev.bind e (Ev.neg (by simp) (Ev.now _))
 ·have e := spec_l01Is_ev (tr k) hd
  rw [h] at e
  have hl := tr_length k
  unfold spec_LevelOrderOf.f
  refine Ev.bind e (Ev.pos rfl ?_)
  exact spec_LevelOrderOf_at (tr k) (by omega) (sz k + 1) [(0, k)] [] (by simp only [szs]; omega) (by intro p hp; simp only [List.mem_singleton] at hp; subst hp; exact tr_At k) (by simp; omega)
theorem slices_Max_int64_int64_ev (x : Int) (xs : List Int) (hl : xs.length ≤ 1000000) : Ev (fun m => slices_Max_int64_int64.f m (x :: xs)) (xs.foldl mx x) := by
 have key : ∀ (ys : List Int) (i : Nat) (m : Int), (x :: xs).drop i = ys → i + ys.length = (x :: xs).length → Ev (fun k => slices_Max_int64_int64.l0 k (x :: xs) m i) (ys.foldl mx m) := by
  intro ys
  induction ys with
  | nil =>
   intro i m h hi
   simp only [List.length_nil, List.length_cons] at hi
   refine Ev.step (fun k => by rw [slices_Max_int64_int64.l0]) ?_
   refine Ev.neg (by simp only [List.length_cons]; omega) (Ev.now _)
  | cons y ys ih =>
   intro i m h hi
   have hr := rd_drop h
   have hd := (drop_cons h).2.2
   simp only [List.length_cons] at hi
   refine Ev.step (fun k => by rw [slices_Max_int64_int64.l0]) ?_
   refine Ev.pos (by simp only [List.length_cons]; omega) (Ev.pos (by omega) ?_)
   rw [hr, w64 (by omega)]
   exact ih (i + 1) (mx m y) hd (by simp only [List.length_cons]; omega)
 unfold slices_Max_int64_int64.f
 exact Ev.neg (by simp only [List.length_cons]; omega) (Ev.pos (by simp only [List.length_cons]; omega) (key xs 1 x rfl (by simp only [List.length_cons]; omega)))
theorem impl_HeightOf_ev (d : List Int) (hd : d.length ≤ 9223372036854775807) {R} (h : treeR hgtV 0 d R) : Ev (fun m => impl_HeightOf.f m d) R := by
 rcases h with ⟨h, rfl⟩ | ⟨k, rfl, hk, h, rfl⟩
 ·have e := impl_IsTree_ev d hd
  rw [h] at e
  unfold impl_HeightOf.f
  exact Ev.bind e (Ev.neg (by simp) (Ev.now _))
 ·have e := impl_IsTree_ev (tr k) hd
  rw [h] at e
  unfold impl_HeightOf.f
  refine Ev.bind e (Ev.pos rfl ?_)
  obtain ⟨xs, hx, hxl⟩ := depV_cons k
  refine Ev.bind (impl_depthsOf_ev k hk) ?_
  have e2 := slices_Max_int64_int64_ev 0 xs (by omega)
  rw [← hx] at e2
  refine Ev.bind e2 (Ev.some ?_)
  unfold hgtV
  rw [hx]
  rfl
theorem spec_l01Height_l0 (ds : List Int) (hl : ds.length ≤ 1000) : ∀ (xs : List Int) (i : Nat) (m : Int), ds.drop i = xs → i + xs.length = ds.length → Ev (fun j => spec_l01Height.l0 j ds m i) (xs.foldl mx m) := by
 intro xs
 induction xs with
 | nil =>
  intro i m h hi
  simp only [List.length_nil] at hi
  refine Ev.step (fun k => by rw [spec_l01Height.l0]) ?_
  exact Ev.neg (by omega) (Ev.now _)
 | cons x xs ih =>
  intro i m h hi
  have hr := rd_drop h
  have hd := (drop_cons h).2.2
  simp only [List.length_cons] at hi
  refine Ev.step (fun k => by rw [spec_l01Height.l0]) ?_
  refine Ev.pos (by omega) (Ev.pos (by omega) ?_)
  rw [hr, w64 (by omega)]
  exact ih (i + 1) (mx m x) hd (by omega)
theorem spec_l01Height_ev (k : F) (hk : sz k ≤ 23) : Ev (fun j => spec_l01Height.f j (tr k)) (hgtV k) := by
 have hl := depV_length k
 unfold spec_l01Height.f
 refine Ev.bind (spec_l01Depths_ev k hk) ?_
 exact spec_l01Height_l0 (depV k) (by omega) (depV k) 0 0 rfl (by omega)
theorem spec_HeightOf_ev (d : List Int) (hd : d.length ≤ 9223372036854775807) {R} (h : treeR hgtV 0 d R) : Ev (fun m => spec_HeightOf.f m d) R := by
 rcases h with ⟨h, rfl⟩ | ⟨k, rfl, hk, h, rfl⟩
 ·have e := spec_l01Is_ev d hd
  rw [h] at e
  unfold spec_HeightOf.f
  exact Ev.bind e (Ev.neg (by simp) (Ev.now _))
 ·have e := spec_l01Is_ev (tr k) hd
  rw [h] at e
  unfold spec_HeightOf.f
  refine Ev.bind e (Ev.pos rfl ?_)
  exact Ev.bind (spec_l01Height_ev k hk) (Ev.now _)
theorem likeInts_self (a : List Int) (h : a.length ≤ 9223372036854775807) : Ev (fun k => laws_likeInts.f k a a) true := by
 have key : ∀ (m i : Nat), i + m = a.length → Ev (fun k => laws_likeInts.l0 k a a (i : Int)) true := by
  intro m
  induction m with
  | zero =>
   intro i hi
   refine Ev.succ ?_
   simp only [laws_likeInts.l0]
   exact Ev.neg (by omega) (Ev.now _)
  | succ m ih =>
   intro i hi
   refine Ev.succ ?_
   simp only [laws_likeInts.l0]
   refine Ev.pos (by omega) (Ev.pos (by omega) (Ev.pos (by omega) (Ev.pos (by trivial) ?_)))
   rw [w64 (x := (i : Int) + 1) (by omega), show (i : Int) + 1 = ((i + 1 : Nat) : Int) by omega]
   exact ih (i + 1) (by omega)
 unfold laws_likeInts.f
 exact Ev.pos (by trivial) (key a.length 0 (by omega))
theorem spec_IsTree_ev (d : List Int) (hm : d.length ≤ 9223372036854775807) : Ev (fun k => spec_IsTree.f k d) (isT d) := by
 unfold spec_IsTree.f
 exact Ev.bind (spec_l01Is_ev d hm) (Ev.now _)
theorem impl_textAt_at (d : List Int) (hd : d.length ≤ 24) : ∀ (f : F) (a : Nat) (pre : List Int) (out : List UInt8), At d a f → pre.length + len f ≤ 100 → out.length + 2 * sz f ≤ 1000 →
  Ev (fun m => impl_textAt.l0 m d (S out) (pre ++ offs a f) (pre.length + len f : Nat) pre.length) (S (out ++ txt f ++ [41])) := by
 intro f
 induction f with
 | nil =>
  intro a pre out h hp ho
  simp only [sz] at ho
  refine Ev.step (fun k => by rw [impl_textAt.l0]) ?_
  simp only [len, Nat.add_zero]
  rw [S_lit41, S_append, S_size]
  exact Ev.neg (by omega) (Ev.pos (by omega) (Ev.some (by simp [txt])))
 | cons k r ihk ihr =>
  intro a pre out h hp ho
  have hh := h.step
  have hlo := offs_length (cons k r) a
  have hlk := offs_length k (a + 1)
  have hlk2 := len_le_sz k
  have hb := h.1
  simp only [sz] at hb ho
  simp only [len] at hp
  have e1 : Ev (fun m => impl_textAt.f m d a) (S (40 :: (txt k ++ [41]))) := by
   refine Ev.step (fun k => by rw [impl_textAt.f]) ?_
   refine Ev.bind (impl_kidsOf_ev d hd h) ?_
   have := ihk (a + 1) [] [40] hh.2.2.1 (by simp; omega) (by simp; omega)
   simpa [hlk, S_lit40] using this
  have hr : rd (pre ++ offs a (cons k r)) (pre.length : Int) = (a : Int) := rd_mid rfl
  have htl := txt_length k
  rw [len] at hlo
  refine Ev.step (fun k => by rw [impl_textAt.l0]) ?_
  simp only [len]
  refine Ev.pos (by omega) (Ev.pos (by omega) (Ev.pos (by rw [List.length_append, hlo]; omega) ?_))
  rw [hr]
  refine Ev.bind e1 ?_
  rw [S_append, S_size, S_size]
  refine Ev.pos (by simp only [List.length_append, List.length_cons, List.length_nil]; omega) ?_
  rw [w64 (by omega)]
  have := ihr (a + 1 + sz k) (pre ++ [(a : Int)]) (out ++ 40 :: (txt k ++ [41])) hh.2.2.2 (by simp; omega) (by simp; omega)
  simp only [List.length_append, List.length_cons, List.length_nil, List.append_assoc, List.singleton_append, Nat.zero_add, List.cons_append] at this
  rw [show pre.length + (1 + len r) = pre.length + 1 + len r by omega, show (pre.length : Int) + 1 = ((pre.length + 1 : Nat) : Int) by omega]
  simp only [offs, txt, List.append_assoc, List.cons_append]
  exact this
theorem impl_textAt_ev (d : List Int) (hd : d.length ≤ 24) {a : Nat} {k r : F} (h : At d a (cons k r)) : Ev (fun m => impl_textAt.f m d a) (S (txt (cons k nil))) := by
 have hb := h.1
 have hlk := offs_length k (a + 1)
 have hlk2 := len_le_sz k
 simp only [sz] at hb
 refine Ev.step (fun k => by rw [impl_textAt.f]) ?_
 refine Ev.bind (impl_kidsOf_ev d hd h) ?_
 have := impl_textAt_at d hd k (a + 1) [] [40] h.step.2.2.1 (by simp; omega) (by simp; omega)
 simpa [hlk, S_lit40, txt] using this
theorem impl_treeText_ev (k : F) (hk : sz k ≤ 23) : Ev (fun m => impl_treeText.f m (tr k)) (textV k) := by
 have hl := tr_length k
 unfold impl_treeText.f
 exact Ev.bind (impl_textAt_ev (tr k) (by omega) (tr_At k)) (Ev.now _)
theorem impl_TreeText_ev (d : List Int) (hd : d.length ≤ 9223372036854775807) {R} (h : treeR textV (S []) d R) : Ev (fun m => impl_TreeText.f m d) R := by
 rcases h with ⟨h, rfl⟩ | ⟨k, rfl, hk, h, rfl⟩
 ·have e := impl_IsTree_ev d hd
  rw [h] at e
  unfold impl_TreeText.f
  exact Ev.bind e (Ev.neg (by simp) (Ev.now _))
 ·have e := impl_IsTree_ev (tr k) hd
  rw [h] at e
  have hl := tr_length k
  unfold impl_TreeText.f
  refine Ev.bind e (Ev.pos rfl ?_)
  exact Ev.bind (impl_treeText_ev k hk) (Ev.now _)
theorem impl_parseTree_ev (l : List UInt8) (hm : l.length ≤ 4611686018427387904) : ∃ d : List Int, Ev (fun m => impl_parseTree.f m (S l)) (if l.length > 48 then ([], false) else match parseT l with | some k => (tr k, true) | none => (d, false)) := by
 have hs := S_size l
 have close : ∀ (d : List Int) (i : Nat) (c : UInt8) (cs : List UInt8), 0 < i → l.drop i = c :: cs → i < 48 → i + cs.length + 1 = l.length → Ev (fun m => impl_parseTree.l0 m (S l) d [] (S l).size i) ([], false) := by
  intro d i c cs hne h hi hl
  have hb := S_bt_drop h
  refine Ev.step (fun k => by rw [impl_parseTree.l0]) ?_
  refine Ev.pos (by omega) (Ev.pos (by omega) (Ev.pos (by omega) ?_))
  refine Ev.ite (fun _ => Ev.neg (by simp) (Ev.pos (by omega) (Ev.now _))) (fun _ => ?_)
  refine Ev.ite (fun _ => Ev.pos (by simp) (Ev.now _)) (fun _ => Ev.now _)
 have key : ∀ (cs : List UInt8) (i : Nat) (f : F) (fs : List F), l.drop i = cs → i + cs.length = l.length → l.length ≤ 48 → (enc (f :: fs) 0).length ≤ i → fs.length < i → szl (f :: fs) * 2 + cs.length ≤ 48 + fs.length + 1 →
   ∃ d, Ev (fun m => impl_parseTree.l0 m (S l) (enc (f :: fs) 0) (stk (f :: fs)) (S l).size i) (match parseF cs (f :: fs) with | some k => (tr k, true) | none => (d, false)) := by
  intro cs
  induction cs with
  | nil =>
   intro i f fs h hi h48 hen hf hsz
   simp only [List.length_nil] at hi
   have hsl := stk_length (f :: fs)
   simp only [List.length_cons] at hsl
   refine ⟨enc (f :: fs) 0, ?_⟩
   refine Ev.step (fun k => by rw [impl_parseTree.l0]) ?_
   refine Ev.neg (by omega) (Ev.neg (by omega) ?_)
   exact Ev.now _
  | cons c cs ih =>
   intro i f fs h hi h48 hen hf hsz
   simp only [List.length_cons] at hi hsz
   have hb := S_bt_drop h
   have hdr := (drop_cons h).2.2
   have hsl := stk_length (f :: fs)
   simp only [List.length_cons] at hsl
   have hel := enc_len (f :: fs) 0
   have hel1 := enc_len fs 1
   simp only [szl] at hel hsz
   have htop : rd (stk (f :: fs)) ((fs.length : Nat) : Int) = (((enc fs 1).length : Nat) : Int) := rd_mid (stk_length fs)
   have start : ∀ {r}, Ev (fun k => if bt (S l) (i : Int) = 40 then (if ((stk (f :: fs)).length : Int) > 0 then (if 0 ≤ (wrap64 (((stk (f :: fs)).length : Int) - 1)) then (if (wrap64 (((stk (f :: fs)).length : Int) - 1)) < ((stk (f :: fs)).length : Int) then (if 0 ≤ (rd (stk (f :: fs)) (wrap64 (((stk (f :: fs)).length : Int) - 1))) then (if (rd (stk (f :: fs)) (wrap64 (((stk (f :: fs)).length : Int) - 1))) < ((enc (f :: fs) 0).length : Int) then ((some ((enc (f :: fs) 0).set ((rd (stk (f :: fs)) (wrap64 (((stk (f :: fs)).length : Int) - 1))) : Int).toNat (wrap64 ((rd (enc (f :: fs) 0) (rd (stk (f :: fs)) (wrap64 (((stk (f :: fs)).length : Int) - 1)))) + 1)) : List Int)).bind fun y152 => (if (stk (f :: fs)).length < 17592186044416 then (if y152.length < 17592186044416 then (impl_parseTree.l0 k (S l) (y152 ++ [0]) ((stk (f :: fs)) ++ [((enc (f :: fs) 0).length : Int)]) (S l).size (wrap64 ((i : Int) + 1))) else (none)) else (none))) else (none)) else (none)) else (none)) else (none)) else (if (i : Int) > 0 then (some (([] : List Int), false)) else (if (stk (f :: fs)).length < 17592186044416 then (if (enc (f :: fs) 0).length < 17592186044416 then (impl_parseTree.l0 k (S l) ((enc (f :: fs) 0) ++ [0]) ((stk (f :: fs)) ++ [((enc (f :: fs) 0).length : Int)]) (S l).size (wrap64 ((i : Int) + 1))) else (none)) else (none)))) else (if bt (S l) (i : Int) = 41 then (if ((stk (f :: fs)).length : Int) = 0 then (some (([] : List Int), false)) else (if 0 ≤ (wrap64 (((stk (f :: fs)).length : Int) - 1)) then (if (wrap64 (((stk (f :: fs)).length : Int) - 1)) ≤ ((stk (f :: fs)).length : Int) then (impl_parseTree.l0 k (S l) (enc (f :: fs) 0) ((stk (f :: fs)).take ((wrap64 (((stk (f :: fs)).length : Int) - 1)) : Int).toNat) (S l).size (wrap64 ((i : Int) + 1))) else (none)) else (none))) else (some (([] : List Int), false)))) r → Ev (fun m => impl_parseTree.l0 m (S l) (enc (f :: fs) 0) (stk (f :: fs)) (S l).size i) r := by
    intro r hr
    refine Ev.step (fun k => by rw [impl_parseTree.l0]) ?_
    refine Ev.pos (by omega) (Ev.pos (by omega) (Ev.pos (by omega) hr))
   simp only [parseF]
   by_cases c0 : c = 40
   ·rw [if_pos c0]
    obtain ⟨d, this⟩ := ih (i + 1) nil (f :: fs) hdr (by omega) h48 (by rw [enc_len]; simp only [szl, sz]; omega) (by simp; omega) (by simp only [szl, sz, List.length_cons]; omega)
    refine ⟨d, start (Ev.pos (by rw [hb, c0]; rfl) (Ev.pos (by omega) ?_))⟩
    rw [show ((stk (f :: fs)).length : Int) - 1 = ((fs.length : Nat) : Int) by omega, w64 (x := ((fs.length : Nat) : Int)) (by omega), htop]
    refine Ev.pos (by omega) (Ev.pos (by omega) (Ev.pos (by omega) (Ev.pos (by omega) ?_)))
    simp only [Option.bind_some]
    rw [rd_enc, w64 (x := (len f : Int) + 1) (by have := len_le_sz f; omega), w64 (x := (i : Int) + 1) (by omega), Int.toNat_natCast]
    refine Ev.pos (by omega) (Ev.pos (by rw [List.length_set]; omega) ?_)
    rw [enc_open] at this
    have e2 : stk (nil :: f :: fs) = stk (f :: fs) ++ [((enc (f :: fs) 0).length : Int)] := by
     show stk (f :: fs) ++ [((enc (f :: fs) 1).length : Int)] = _
     rw [enc_length (f :: fs) 1 0]
    rw [e2] at this
    exact this
   ·rw [if_neg c0]
    by_cases c1 : c = 41
    ·rw [if_pos c1]
     have e3 : (stk (f :: fs)).take fs.length = stk fs := by
      show (stk fs ++ _).take fs.length = _
      rw [← stk_length fs, List.take_left]
     have go : ∀ {r}, Ev (fun m => impl_parseTree.l0 m (S l) (enc (f :: fs) 0) (stk fs) (S l).size ((i + 1 : Nat) : Int)) r → Ev (fun m => impl_parseTree.l0 m (S l) (enc (f :: fs) 0) (stk (f :: fs)) (S l).size i) r := by
      intro r hr
      refine start (Ev.neg (by rw [hb]; exact fun e => c0 ((byte_eq c 40).1 e)) (Ev.pos (by rw [hb, c1]; rfl) (Ev.neg (by omega) ?_)))
      rw [show ((stk (f :: fs)).length : Int) - 1 = ((fs.length : Nat) : Int) by omega, w64 (x := ((fs.length : Nat) : Int)) (by omega), w64 (x := (i : Int) + 1) (by omega), Int.toNat_natCast, e3]
      exact Ev.pos (by omega) (Ev.pos (by omega) hr)
     cases fs with
     | nil =>
      by_cases c2 : cs = []
      ·simp only [if_pos c2]
       subst c2
       simp only [List.length_nil] at hi hsz
       refine ⟨[], go ?_⟩
       rw [enc_one]
       have htr := tr_length f
       simp only [szl] at hsz
       have ht := impl_isTree_ev (tr f) (by omega)
       rw [isT_tr (by omega)] at ht
       refine Ev.step (fun k => by rw [impl_parseTree.l0]) ?_
       refine Ev.neg (by omega) (Ev.pos (by simp [stk]) (Ev.bind ht (Ev.now _)))
      ·simp only [if_neg c2]
       obtain ⟨c', cs', rfl⟩ : ∃ c' cs', cs = c' :: cs' := by
        cases cs with
        | nil => exact absurd rfl c2
        | cons a b => exact ⟨a, b, rfl⟩
       simp only [List.length_cons] at hi
       exact ⟨[], go (close (enc [f] 0) (i + 1) c' cs' (by omega) hdr (by omega) (by omega))⟩
     | cons g hs =>
      obtain ⟨d, this⟩ := ih (i + 1) (app g (cons f nil)) hs hdr (by omega) h48 (by rw [enc_close]; omega) (by simp only [List.length_cons] at hf; omega) (by simp only [szl, sz_app, sz, List.length_cons] at hsz ⊢; omega)
      rw [enc_close] at this
      exact ⟨d, go this⟩
    ·rw [if_neg c1]
     exact ⟨[], start (Ev.neg (by rw [hb]; exact fun e => c0 ((byte_eq c 40).1 e)) (Ev.neg (by rw [hb]; exact fun e => c1 ((byte_eq c 41).1 e)) (Ev.now _)))⟩
 unfold impl_parseTree.f
 by_cases c : l.length > 48
 ·refine ⟨[], ?_⟩
  rw [if_pos c]
  exact Ev.pos (by omega) (Ev.now _)
 ·simp only [if_neg c]
  cases hl : l with
  | nil =>
   subst hl
   have ht := impl_isTree_ev [] (by simp)
   refine ⟨[], Ev.neg (by rw [hs]; simp) (Ev.step (f := fun k => (impl_isTree.f k []).bind fun t149 => some ([], t149)) (fun k => ?_) (Ev.bind ht (Ev.some (by simp [isT, parseT]))))⟩
   rw [impl_parseTree.l0, if_neg (by rw [hs]; simp), if_pos (by simp)]
  | cons a cs =>
   rw [← hl]
   have hl1 : l.length = cs.length + 1 := by rw [hl]; simp
   have h0 : l.drop 0 = a :: cs := by rw [hl]; rfl
   have hb := S_bt_drop h0
   have hb0 : bt (S l) 0 = (a.toNat : Int) := hb
   have hdr := (drop_cons h0).2.2
   have hp : parseT l = if a = 40 then parseF cs [nil] else none := by rw [hl]; rfl
   rw [hp]
   by_cases c0 : a = 40
   ·rw [if_pos c0]
    obtain ⟨d, this⟩ := key cs 1 nil [] hdr (by omega) (by omega) (by simp [enc, degs]) (by simp) (by simp [szl, sz]; omega)
    refine ⟨d, Ev.neg (by omega) (Ev.step (fun k => by rw [impl_parseTree.l0]) (Ev.pos (by omega) (Ev.pos (by omega) (Ev.pos (by omega) (Ev.pos (by rw [hb0, c0]; rfl) (Ev.neg (by simp) (Ev.neg (by omega) (Ev.pos (by simp) (Ev.pos (by simp) ?_)))))))))⟩
    rw [show wrap64 (0 + 1) = ((1 : Nat) : Int) by rw [w64 (by omega)]; rfl]
    exact this
   ·rw [if_neg c0]
    refine ⟨[], Ev.neg (by omega) (Ev.step (fun k => by rw [impl_parseTree.l0]) (Ev.pos (by omega) (Ev.pos (by omega) (Ev.pos (by omega) (Ev.neg (by rw [hb0]; exact fun e => c0 ((byte_eq a 40).1 e)) ?_)))))⟩
    refine Ev.ite (fun _ => Ev.pos (by simp) (Ev.now _)) (fun _ => Ev.now _)
theorem impl_ParseTree_ev (l : List UInt8) (hm : l.length ≤ 4611686018427387904) : Ev (fun m => impl_ParseTree.f m (S l)) (readV l) := by
 obtain ⟨d, e⟩ := impl_parseTree_ev l hm
 unfold impl_ParseTree.f readV
 refine Ev.bind e ?_
 by_cases c : l.length > 48
 ·rw [if_pos c, if_pos c]
  exact Ev.neg (by simp) (Ev.now _)
 ·rw [if_neg c, if_neg c]
  cases h : parseT l with
  | none => exact Ev.neg (by simp) (Ev.now _)
  | some k => exact Ev.pos rfl (Ev.now _)
theorem trees5_self (a : List Int) (h : a.length ≤ 9223372036854775807) : Ev (fun k => laws_trees5.f k a a) true := by
 unfold laws_trees5.f
 exact Ev.bind (likeInts_self a h) (Ev.now _)
theorem laws_sum_ev (l : List Int) (hl : l.length ≤ 1000) (hx : ∀ x ∈ l, 0 ≤ x ∧ x ≤ 1000) : Ev (fun k => laws_sum.f k l) l.sum := by
 have key : ∀ (xs : List Int) (i : Nat) (acc : Int), l.drop i = xs → i + xs.length = l.length → 0 ≤ acc → acc ≤ 1000 * (i : Int) → Ev (fun k => laws_sum.l0 k l acc (i : Int)) (acc + xs.sum) := by
  intro xs
  induction xs with
  | nil =>
   intro i acc h hi _ _
   simp only [List.length_nil] at hi
   apply Ev.succ
   simp only [laws_sum.l0]
   exact Ev.neg (by omega) (Ev.some (by simp))
  | cons x xs ih =>
   intro i acc h hi h0 h1
   simp only [List.length_cons] at hi
   have hr := rd_drop h
   have hm : x ∈ l := List.mem_of_mem_drop (i := i) (by rw [h]; simp)
   have hb := hx x hm
   apply Ev.succ
   simp only [laws_sum.l0, hr]
   refine Ev.pos (by omega) (Ev.pos (by omega) ?_)
   rw [w64 (x := acc + x) (by omega), w64 (x := (i : Int) + 1) (by omega), List.sum_cons, ← Int.add_assoc]
   exact ih (i + 1) (acc + x) (drop_cons h).2.2 (by omega) (by omega) (by omega)
 have e := key l 0 0 rfl (by omega) (by omega) (by omega)
 rw [Int.zero_add] at e
 exact e
theorem impl_treeCode_ev (d : List Int) (hd : d.length ≤ 9223372036854775807) (vs : List Int) (hv : vs.length ≤ 1000) : Ev (fun m => impl_treeCode.f m d vs) (codeN d vs) := by
 have key : ∀ (xs : List Int) (i : Nat), isT d = true → vs.drop i = xs → i + xs.length = vs.length → Ev (fun m => impl_treeCode.l0 m vs vs.length i d) (codeV d xs) := by
  intro xs
  induction xs with
  | nil =>
   intro i ht h hi
   simp only [List.length_nil] at hi
   apply Ev.succ
   simp (disch := omega) only [impl_treeCode.l0, if_neg, codeV]
   exact Ev.now _
  | cons x xs ih =>
   intro i ht h hi
   simp only [List.length_cons] at hi
   have hr := rd_drop h
   have hl := isT_length ht
   have hdr := (drop_cons h).2.2
   apply Ev.succ
   simp (disch := omega) only [impl_treeCode.l0, if_pos, hr, w64, codeV]
   by_cases c0 : x < 0
   ·rw [if_neg (by omega)]
    exact Ev.pos c0 (Ev.now _)
   ·refine Ev.neg c0 ?_
    by_cases c1 : x ≥ (d.length : Int)
    ·rw [if_neg (by omega)]
     exact Ev.pos c1 (Ev.now _)
    ·rw [if_pos (by omega)]
     exact Ev.neg c1 (ih (i + 1) ht hdr (by omega))
 unfold impl_treeCode.f codeN
 refine Ev.bind (impl_IsTree_ev d hd) ?_
 cases h : isT d with
 | true => exact Ev.pos rfl (key vs 0 h rfl (by omega))
 | false => exact Ev.neg (by simp) (Ev.now _)
theorem impl_ChildrenOf_ev (d : List Int) (hd : d.length ≤ 9223372036854775807) (v : Int) {R} (h : nodeR kidsV [] d v R) : Ev (fun m => impl_ChildrenOf.f m d v) R := by
 have e := impl_treeCode_ev d hd [v] (by simp)
 rcases h with ⟨h, rfl⟩ | ⟨k, a, rfl, hk, rfl, ha, h, rfl⟩
 ·unfold impl_ChildrenOf.f
  exact Ev.bind e (Ev.neg h (Ev.now _))
 ·have hl := tr_length k
  have hat := st_At k a ha
  unfold impl_ChildrenOf.f
  refine Ev.bind e (Ev.pos h ?_)
  exact Ev.bind (impl_kidsOf_ev (tr k) (by omega) hat) (Ev.now _)
theorem laws_hasInt_ev (l : List Int) (x : Int) (hl : l.length ≤ 1000) : Ev (fun k => laws_hasInt.f k l x) (decide (x ∈ l)) := by
 have key : ∀ (xs : List Int) (i : Nat), l.drop i = xs → i + xs.length = l.length → Ev (fun k => laws_hasInt.l0 k l x (i : Int)) (decide (x ∈ xs)) := by
  intro xs
  induction xs with
  | nil =>
   intro i h hi
   simp only [List.length_nil] at hi
   apply Ev.succ
   simp only [laws_hasInt.l0]
   exact Ev.neg (by omega) (Ev.some (by simp))
  | cons y xs ih =>
   intro i h hi
   simp only [List.length_cons] at hi
   have hr := rd_drop h
   apply Ev.succ
   simp only [laws_hasInt.l0, hr]
   refine Ev.pos (by omega) (Ev.pos (by omega) ?_)
   by_cases c : y = x
   ·exact Ev.pos c (Ev.some (by simp [c]))
   ·refine Ev.neg c ?_
    have c' : ¬ x = y := fun h => c h.symm
    rw [w64 (x := (i : Int) + 1) (by omega), show (i : Int) + 1 = ((i + 1 : Nat) : Int) by omega, show decide (x ∈ y :: xs) = decide (x ∈ xs) by simp [c']]
    exact ih (i + 1) (drop_cons h).2.2 (by omega)
 exact key l 0 rfl (by omega)
theorem near_ex (c : List Int) (p h m : Int) (hc : bytesL c) (hl : c.length ≤ 4096) (hp : 0 ≤ p) (hm : 0 ≤ m ∧ m ≤ 4611686018427387904) : ∃ v p' h', spec_l01Near.f c p h m = some (v, p', h') ∧ (-4611686018427387904 ≤ v ∧ v ≤ 4611686018427387905) ∧ 0 ≤ p' := by
 have hw : wrap64 (m + 1) = m + 1 := w64 (by omega)
 obtain ⟨v, p', h', e, hv, hp'⟩ := next_ex c p h 14 hc hl hp (by omega)
 unfold spec_l01Near.f
 rw [e, hw]
 simp only [Option.bind_some]
 by_cases c0 : v = 0
 ·rw [if_pos c0]
  obtain ⟨v2, p2, h2, e2, hv2, hp2⟩ := pick_ex c p' h' [(-1), m + 1, 1099511627776, (-4611686018427387904)] hc hl hp' (by simp)
  refine ⟨v2, p2, h2, by rw [e2]; rfl, ?_, hp2⟩
  simp only [List.mem_cons, List.not_mem_nil, or_false] at hv2
  omega
 ·rw [if_neg c0]
  obtain ⟨v2, p2, h2, e2, hv2, hp2⟩ := next_ex c p' h' (m + 1) hc hl hp' (by omega)
  exact ⟨v2, p2, h2, by rw [e2]; rfl, by omega, hp2⟩
theorem With_ex (c : List Int) (hc : bytesL c) (hl : c.length ≤ 4096) : ∃ t v w, Ev (fun k => spec_l01With.f k c) (t, v, w) ∧ t.length ≤ 25 ∧ (-4611686018427387904 ≤ v ∧ v ≤ 4611686018427387905) ∧ (-4611686018427387904 ≤ w ∧ w ≤ 4611686018427387905) := by
 obtain ⟨h, e0⟩ := from_ev c hl
 obtain ⟨t, p1, h1, e1, _, ht, hp1⟩ := draw_ex c 0 h hc hl (by omega)
 obtain ⟨v, p2, h2, e2, hv, hp2⟩ := near_ex c p1 h1 ((t.length : Int) - 1) hc hl hp1 (by omega)
 obtain ⟨w, p3, h3, e3, hw, hp3⟩ := near_ex c p2 h2 ((t.length : Int) - 1) hc hl hp2 (by omega)
 obtain ⟨t', p4, h4, e4, ht', _⟩ := bad_ex c p3 h3 t hc hl hp3 (by omega)
 refine ⟨t', v, w, ?_, by omega, hv, hw⟩
 unfold spec_l01With.f
 refine Ev.bind e0 (Ev.bind e1 ?_)
 simp only [spec_l01N_eq, Option.bind_some]
 rw [w64 (x := (t.length : Int) - 1) (by omega)]
 simp only [e2, e3, e4, Option.bind_some]
 exact Ev.now _
theorem DrawChildrenOf_ex (c : List Int) (hc : bytesL c) (hl : c.length ≤ 4096) : ∃ t v, Ev (fun k => spec_DrawChildrenOf.f k c) (t, v) ∧ t.length ≤ 25 := by
 obtain ⟨t, v, w, e, ht, _⟩ := With_ex c hc hl
 refine ⟨t, v, ?_, ht⟩
 unfold spec_DrawChildrenOf.f
 exact Ev.bind e (Ev.now _)
theorem spec_l01Nodes_ev (d : List Int) (hd : d.length ≤ 9223372036854775807) (vs : List Int) (hv : vs.length ≤ 1000) : Ev (fun m => spec_l01Nodes.f m d vs) (codeN d vs) := by
 have key : ∀ (xs : List Int) (i : Nat), isT d = true → vs.drop i = xs → i + xs.length = vs.length → Ev (fun m => spec_l01Nodes.l0 m vs i d) (codeV d xs) := by
  intro xs
  induction xs with
  | nil =>
   intro i ht h hi
   simp only [List.length_nil] at hi
   apply Ev.succ
   simp (disch := omega) only [spec_l01Nodes.l0, if_neg, codeV]
   exact Ev.now _
  | cons x xs ih =>
   intro i ht h hi
   simp only [List.length_cons] at hi
   have hr := rd_drop h
   have hl := isT_length ht
   have hdr := (drop_cons h).2.2
   apply Ev.succ
   simp (disch := omega) only [spec_l01Nodes.l0, if_pos, spec_l01N_eq, Option.bind_some, spec_l01In_eq, hr, w64, decide_eq_true_eq, codeV]
   by_cases c : 0 ≤ x ∧ x ≤ (d.length : Int) - 1
   ·rw [if_pos (by omega)]
    exact Ev.pos c (ih (i + 1) ht hdr (by omega))
   ·rw [if_neg (by omega)]
    exact Ev.neg c (Ev.now _)
 unfold spec_l01Nodes.f codeN
 refine Ev.bind (spec_l01Is_ev d hd) ?_
 cases h : isT d with
 | true => exact Ev.pos rfl (key vs 0 h rfl (by omega))
 | false => exact Ev.neg (by simp) (Ev.now _)
theorem spec_ChildrenOf_ev (d : List Int) (hd : d.length ≤ 9223372036854775807) (v : Int) {R} (h : nodeR kidsV [] d v R) : Ev (fun m => spec_ChildrenOf.f m d v) R := by
 have e := spec_l01Nodes_ev d hd [v] (by simp)
 rcases h with ⟨h, rfl⟩ | ⟨k, a, rfl, hk, rfl, ha, h, rfl⟩
 ·unfold spec_ChildrenOf.f
  exact Ev.bind e (Ev.neg h (Ev.now _))
 ·have hl := tr_length k
  have hat := st_At k a ha
  unfold spec_ChildrenOf.f
  refine Ev.bind e (Ev.pos h ?_)
  exact Ev.bind (spec_l01Children_ev (tr k) (by omega) hat) (Ev.now _)
theorem spec_l01Subtree_ev (d : List Int) (hd : d.length ≤ 24) {a : Nat} {k r : F} (h : At d a (cons k r)) : Ev (fun m => spec_l01Subtree.f m d a) (tr k) := by
 have hb := h.1
 have hs := sub_slice h
 have hl := tr_length k
 simp only [sz] at hb
 unfold spec_l01Subtree.f
 refine Ev.bind (spec_l01End_ev d hd h) (Ev.pos (by omega) (Ev.pos (by omega) (Ev.pos (by omega) ?_)))
 rw [Int.toNat_natCast, Int.toNat_natCast, hs]
 exact Ev.bind (Ev.const (spec_l01Make_eq (tr k) (by omega))) (Ev.now _)
theorem spec_l01Text_at : ∀ (f : F) (d : List Int) (a : Nat) (pre : List Int) (out : List UInt8), d.length ≤ 24 → At d a f → pre.length + len f ≤ 100 → out.length + 2 * sz f ≤ 1000 →
  Ev (fun m => spec_l01Text.l0 m (S out) (pre ++ offs a f) pre.length d) (S (out ++ txt f ++ [41])) := by
 intro f
 induction f with
 | nil =>
  intro d a pre out hd h hp ho
  simp only [sz] at ho
  refine Ev.step (fun k => by rw [spec_l01Text.l0]) ?_
  rw [S_lit41, S_append, S_size]
  refine Ev.neg (by simp [offs]) (Ev.pos (by omega) (Ev.some (by simp [txt])))
 | cons k r ihk ihr =>
  intro d a pre out hd h hp ho
  have hh := h.step
  have hlo := offs_length (cons k r) a
  have hlk := offs_length k (a + 1)
  have hlk2 := len_le_sz k
  have hb := h.1
  have htr := tr_length k
  simp only [sz] at hb ho
  simp only [len] at hp
  have e1 : Ev (fun m => spec_l01Text.f m (tr k)) (S (40 :: (txt k ++ [41]))) := by
   refine Ev.step (fun k => by rw [spec_l01Text.f]) ?_
   refine Ev.bind (spec_l01Children_ev (tr k) (by omega) (tr_At k)) ?_
   have := ihk (tr k) 1 [] [40] (by omega) (tr_At1 k) (by simp; omega) (by simp; omega)
   simpa [S_lit40] using this
  have hr : rd (pre ++ offs a (cons k r)) (pre.length : Int) = (a : Int) := rd_mid rfl
  have htl := txt_length k
  rw [len] at hlo
  refine Ev.step (fun k => by rw [spec_l01Text.l0]) ?_
  refine Ev.pos (by rw [List.length_append, hlo]; omega) (Ev.pos (by omega) ?_)
  rw [hr]
  refine Ev.bind (spec_l01Subtree_ev d hd h) (Ev.bind e1 ?_)
  rw [S_append, S_size, S_size]
  refine Ev.pos (by simp only [List.length_append, List.length_cons, List.length_nil]; omega) ?_
  rw [w64 (by omega)]
  have := ihr d (a + 1 + sz k) (pre ++ [(a : Int)]) (out ++ 40 :: (txt k ++ [41])) hd hh.2.2.2 (by simp; omega) (by simp; omega)
  simp only [List.length_append, List.length_cons, List.length_nil, List.append_assoc, List.singleton_append, Nat.zero_add, List.cons_append] at this
  rw [show (pre.length : Int) + 1 = ((pre.length + 1 : Nat) : Int) by omega]
  simp only [offs, txt, List.append_assoc, List.cons_append]
  exact this
theorem spec_l01Text_ev (k : F) (hk : sz k ≤ 23) : Ev (fun m => spec_l01Text.f m (tr k)) (textV k) := by
 have htr := tr_length k
 have hlk2 := len_le_sz k
 refine Ev.step (fun k => by rw [spec_l01Text.f]) ?_
 refine Ev.bind (spec_l01Children_ev (tr k) (by omega) (tr_At k)) ?_
 have := spec_l01Text_at k (tr k) 1 [] [40] (by omega) (tr_At1 k) (by simp; omega) (by simp; omega)
 simpa [S_lit40, txt, textV] using this
/-- what a draw answers, while there are bytes to add and behind them -/
theorem next_any (c : List Int) (p h n : Int) (hc : bytesL c) (hl : c.length ≤ 4096) (hp : 0 ≤ p) (hn : 1 ≤ n) : ∃ v p', spec_l01Next.f c p h n = some (v, p', nextH h) ∧ (0 ≤ v ∧ v < n) ∧ (p' = p + 1 ∧ p < (c.length : Int) ∨ p' = p ∧ (c.length : Int) ≤ p ∧ v = topH h % n) := by
 have ht := topH_eq h
 have hw : wrap64 (topH h) = topH h := w64 (by omega)
 unfold spec_l01Next.f
 rw [if_neg (by omega)]
 by_cases c1 : p < (c.length : Int)
 ·rw [if_pos c1, if_pos hp, if_neg (by omega)]
  obtain ⟨i, rfl⟩ : ∃ i : Nat, p = i := ⟨p.toNat, by omega⟩
  have hx := hc _ (rd_mem (xs := c) (p := i) (by omega))
  refine ⟨_, _, rfl, ?_, .inl ⟨w64 (by omega), c1⟩⟩
  change 0 ≤ Int.tmod (wrap64 (wrap64 (topH h) + wrap64 (rd c (i : Int)))) n ∧ Int.tmod (wrap64 (wrap64 (topH h) + wrap64 (rd c (i : Int)))) n < n
  rw [hw, w64 (x := rd c (i : Int)) (by omega), w64 (x := topH h + rd c (i : Int)) (by omega), Int.tmod_eq_emod_of_nonneg (by omega)]
  exact ⟨Int.emod_nonneg _ (by omega), Int.emod_lt_of_pos _ (by omega)⟩
 ·rw [if_neg c1, if_neg (by omega)]
  have e : Int.tmod (wrap64 (topH h)) n = topH h % n := by rw [hw, Int.tmod_eq_emod_of_nonneg (by omega)]
  refine ⟨_, _, rfl, ?_, .inr ⟨rfl, by omega, e⟩⟩
  change 0 ≤ Int.tmod (wrap64 (topH h)) n ∧ Int.tmod (wrap64 (topH h)) n < n
  rw [e]
  exact ⟨Int.emod_nonneg _ (by omega), Int.emod_lt_of_pos _ (by omega)⟩
/-- the state so many draws later -/
def itr : Nat → Int → Int
 | 0, h => h
 | t + 1, h => itr t (nextH h)
theorem sign_size (i : Int) : (rdOf ByteArray.empty ([(⟨#[40]⟩ : ByteArray), (⟨#[41]⟩ : ByteArray), (⟨#[40]⟩ : ByteArray), (⟨#[41]⟩ : ByteArray), (⟨#[40, 41]⟩ : ByteArray), (⟨#[48]⟩ : ByteArray), (⟨#[44]⟩ : ByteArray), (⟨#[32]⟩ : ByteArray), (⟨#[120]⟩ : ByteArray), (⟨#[10]⟩ : ByteArray)] : List ByteArray) i).size ≤ 2 := by
 unfold rdOf
 rw [List.getD_eq_getElem?_getD]
 cases e : ([(⟨#[40]⟩ : ByteArray), (⟨#[41]⟩ : ByteArray), (⟨#[40]⟩ : ByteArray), (⟨#[41]⟩ : ByteArray), (⟨#[40, 41]⟩ : ByteArray), (⟨#[48]⟩ : ByteArray), (⟨#[44]⟩ : ByteArray), (⟨#[32]⟩ : ByteArray), (⟨#[120]⟩ : ByteArray), (⟨#[10]⟩ : ByteArray)] : List ByteArray)[i.toNat]? with
 | none => exact Nat.zero_le _
 | some x =>
  have hm := List.mem_of_getElem? e
  simp only [List.mem_cons, List.not_mem_nil, or_false] at hm
  rcases hm with h | h | h | h | h | h | h | h | h | h <;> (subst h; decide)
theorem damage_ex (c : List Int) (p h : Int) (s : ByteArray) (hc : bytesL c) (hl : c.length ≤ 4096) (hp : 0 ≤ p) (hs : s.size ≤ 4611686018427387904) :
  ∃ s' p' j, spec_l01Damage.f c p h s = some (s', p', itr j h) ∧ (j = 1 ∨ j = 3) ∧ s'.size ≤ s.size + 2 ∧ p ≤ p' ∧ ((c.length : Int) ≤ p → p' = p) := by
 obtain ⟨v, p1, e1, hv, q1⟩ := next_any c p h 10 hc hl hp (by omega)
 have hg := sign_size v
 unfold spec_l01Damage.f
 simp only [Option.bind_some]
 generalize hL : ([(⟨#[40]⟩ : ByteArray), (⟨#[41]⟩ : ByteArray), (⟨#[40]⟩ : ByteArray), (⟨#[41]⟩ : ByteArray), (⟨#[40, 41]⟩ : ByteArray), (⟨#[48]⟩ : ByteArray), (⟨#[44]⟩ : ByteArray), (⟨#[32]⟩ : ByteArray), (⟨#[120]⟩ : ByteArray), (⟨#[10]⟩ : ByteArray)] : List ByteArray) = L at hg ⊢
 have hL10 : (L.length : Int) = 10 := by rw [← hL]; rfl
 rw [hL10, e1]
 simp only [Option.bind_some]
 generalize rdOf ByteArray.empty L v = g at hg ⊢
 rw [if_pos hv.1, if_pos hv.2]
 by_cases c0 : (s.size : Int) = 0
 ·rw [if_pos c0]
  exact ⟨g, p1, 1, rfl, .inl rfl, by omega, by omega, by omega⟩
 ·rw [if_neg c0]
  obtain ⟨u, p2, e2, hu, q2⟩ := next_any c p1 (nextH h) (s.size : Int) hc hl (by omega) (by omega)
  obtain ⟨x, p3, e3, hx, q3⟩ := next_any c p2 (nextH (nextH h)) 3 hc hl (by omega) (by omega)
  rw [e2]
  simp only [Option.bind_some]
  rw [e3]
  simp only [Option.bind_some]
  obtain ⟨i, rfl⟩ : ∃ i : Nat, u = i := ⟨u.toNat, by omega⟩
  have w1 : wrap64 ((i : Int) + 1) = ((i + 1 : Nat) : Int) := (w64 (by omega)).trans (by omega)
  have hi : i < s.size := by omega
  have z1 : (s.extract 0 i).size = i := by rw [ByteArray.size_extract]; omega
  have z2 : (s.extract (i + 1) s.size).size = s.size - (i + 1) := by rw [ByteArray.size_extract]; omega
  have z3 : (s.extract i s.size).size = s.size - i := by rw [ByteArray.size_extract]; omega
  have hpp : p ≤ p3 ∧ ((c.length : Int) ≤ p → p3 = p) := by omega
  simp only [w1, Int.toNat_natCast]
  by_cases c1 : x = 0
  ·rw [if_pos c1, if_pos (by omega), if_pos (by omega), if_pos (by omega), if_pos (by omega), if_pos (by omega), if_pos (by rw [ByteArray.size_append]; omega)]
   exact ⟨_, p3, 3, rfl, .inr rfl, by rw [ByteArray.size_append, ByteArray.size_append]; omega, hpp.1, hpp.2⟩
  ·rw [if_neg c1]
   by_cases c2 : x = 1
   ·rw [if_pos c2, if_pos (by omega), if_pos (by omega), if_pos (by omega), if_pos (by omega), if_pos (by omega)]
    exact ⟨_, p3, 3, rfl, .inr rfl, by rw [ByteArray.size_append]; omega, hpp.1, hpp.2⟩
   ·rw [if_neg c2, if_pos (by omega), if_pos (by omega), if_pos (by omega), if_pos (by rw [ByteArray.size_append]; omega)]
    exact ⟨_, p3, 3, rfl, .inr rfl, by rw [ByteArray.size_append, ByteArray.size_append]; omega, hpp.1, hpp.2⟩
def lc (y : Int) : Int := (6364136223846793005 * y + 1442695040888963407) % 144115188075855872
def lcn : Nat → Int → Int
 | 0, y => y
 | t + 1, y => lcn t (lc y)
theorem lcn_add : ∀ (s t : Nat) (y : Int), lcn (s + t) y = lcn t (lcn s y) := by
 intro s
 induction s with
 | zero => intro t y; rw [Nat.zero_add]; rfl
 | succ s ih => intro t y; rw [Nat.add_right_comm]; exact ih t (lc y)
theorem lcn_range : ∀ (t : Nat) (y : Int), 0 ≤ y ∧ y < 144115188075855872 → 0 ≤ lcn t y ∧ lcn t y < 144115188075855872 := by
 intro t
 induction t with
 | zero => intro y h; exact h
 | succ t ih => intro y _; exact ih (lc y) (by unfold lc; omega)
def dbl : Nat → Int × Int
 | 0 => (6364136223846793005, 1442695040888963407)
 | k + 1 => ((dbl k).1 * (dbl k).1 % 144115188075855872, ((dbl k).1 * (dbl k).2 + (dbl k).2) % 144115188075855872)
theorem emod_sub (x m q : Int) : (x - m * q) % m = x % m := Int.sub_mul_emod_self_left x m q
theorem dbl_eq (m A C y : Int) : (A * ((A * y + C) % m) + C) % m = (A * A % m * y + (A * C + C) % m) % m := by
 have h1 : (A * y + C) % m = A * y + C - m * ((A * y + C) / m) := Int.emod_def _ _
 have h2 : A * A % m = A * A - m * (A * A / m) := Int.emod_def _ _
 have h3 : (A * C + C) % m = A * C + C - m * ((A * C + C) / m) := Int.emod_def _ _
 generalize (A * y + C) / m = q1 at h1
 generalize A * A / m = q2 at h2
 generalize (A * C + C) / m = q3 at h3
 rw [h1, h2, h3]
 have e1 : A * (A * y + C - m * q1) + C = A * A * y + A * C + C - m * (A * q1) := by
  rw [Int.mul_sub, Int.mul_add, ← Int.mul_assoc, ← Int.mul_assoc A m q1, Int.mul_comm A m, Int.mul_assoc m A q1]
  omega
 have e2 : (A * A - m * q2) * y + (A * C + C - m * q3) = A * A * y + A * C + C - m * (q2 * y + q3) := by
  rw [Int.sub_mul, Int.mul_add, Int.mul_assoc m q2 y]
  omega
 rw [e1, e2, emod_sub, emod_sub]
theorem dbl_lcn : ∀ (k : Nat) (y : Int), lcn (2 ^ k) y = ((dbl k).1 * y + (dbl k).2) % 144115188075855872 := by
 intro k
 induction k with
 | zero => intro y; rfl
 | succ k ih =>
  intro y
  rw [Nat.pow_succ, Nat.mul_two, lcn_add, ih, ih]
  exact dbl_eq _ _ _ _
theorem dbl_54 : dbl 54 = (72057594037927937, 90071992547409920) := by decide +kernel
theorem big_step : ∃ N M : Nat, N = M + M ∧ M ≤ 9007199254740992 ∧ ∀ y, lcn N y = (72057594037927937 * y + 90071992547409920) % 144115188075855872 := by
 have h := dbl_lcn 54
 rw [dbl_54] at h
 exact ⟨2 ^ 54, 2 ^ 53, by decide +kernel, by decide +kernel, h⟩
theorem step_mod (q l b l2 : Int) (hq : 0 ≤ q ∧ q < 8) (hl : 0 ≤ l ∧ l < 18014398509481984) (h2 : l = 2 * l2 + b) (hb : b = 0 ∨ b = 1) :
  (72057594037927937 * (18014398509481984 * q + l) + 90071992547409920) % 144115188075855872 = 18014398509481984 * ((q + (4 * b + 5)) % 8) + l := by
 omega
theorem steps_mod {N : Nat} (hN : ∀ y, lcn N y = (72057594037927937 * y + 90071992547409920) % 144115188075855872) (q l b l2 : Int) (hq : 0 ≤ q ∧ q < 8) (hl : 0 ≤ l ∧ l < 18014398509481984) (h2 : l = 2 * l2 + b) (hb : b = 0 ∨ b = 1) :
  ∀ i : Nat, lcn (i * N) (18014398509481984 * q + l) = 18014398509481984 * ((q + (i : Int) * (4 * b + 5)) % 8) + l := by
 intro i
 induction i with
 | zero => rw [Nat.zero_mul]; show 18014398509481984 * q + l = _; rw [Int.natCast_zero, Int.zero_mul, Int.add_zero, Int.emod_eq_of_lt hq.1 hq.2]
 | succ i ih =>
  rw [Nat.succ_mul, lcn_add, ih, hN, step_mod _ l b l2 (by omega) hl h2 hb, Int.natCast_succ, Int.add_mul]
  generalize (i : Int) * (4 * b + 5) = w
  congr 2
  omega
theorem pick_all : ((List.range 8).all fun q => (List.range 8).all fun q' => (List.range 3).all fun r => (List.range 3).all fun r' => (List.range 2).all fun b => (List.range 2).all fun b' => (List.range 8).any fun i => decide ((2 * ((q + i * (4 * b + 5)) % 8) + r) % 3 ≠ 0 ∧ (2 * ((q' + i * (4 * b' + 5)) % 8) + r') % 3 ≠ 0)) = true := by decide +kernel
theorem pick8 {q q' r r' b b' : Nat} (h1 : q < 8) (h2 : q' < 8) (h3 : r < 3) (h4 : r' < 3) (h5 : b < 2) (h6 : b' < 2) : ∃ i, i < 8 ∧ (2 * ((q + i * (4 * b + 5)) % 8) + r) % 3 ≠ 0 ∧ (2 * ((q' + i * (4 * b' + 5)) % 8) + r') % 3 ≠ 0 := by
 have t := List.all_eq_true.1 pick_all q (List.mem_range.2 h1)
 have t := List.all_eq_true.1 t q' (List.mem_range.2 h2)
 have t := List.all_eq_true.1 t r (List.mem_range.2 h3)
 have t := List.all_eq_true.1 t r' (List.mem_range.2 h4)
 have t := List.all_eq_true.1 t b (List.mem_range.2 h5)
 have t := List.all_eq_true.1 t b' (List.mem_range.2 h6)
 obtain ⟨i, hi, t⟩ := List.any_eq_true.1 t
 exact ⟨i, List.mem_range.1 hi, of_decide_eq_true t⟩
/-- two numbers of the source, one draw apart or more: some even number of draws later none of both is a multiple of 3 -/
theorem far_ex (y z : Int) (hy : 0 ≤ y ∧ y < 144115188075855872) (hz : 0 ≤ z ∧ z < 144115188075855872) : ∃ m : Nat, m ≤ 63050394783186944 ∧ lcn (m + m) y / 8589934592 % 3 ≠ 0 ∧ lcn (m + m) z / 8589934592 % 3 ≠ 0 := by
 obtain ⟨N, M, hNM, hM, hN⟩ := big_step
 have part : ∀ y : Int, 0 ≤ y ∧ y < 144115188075855872 → ∃ q r b : Nat, q < 8 ∧ r < 3 ∧ b < 2 ∧ ∀ i : Nat, lcn (i * N) y / 8589934592 % 3 = ((2 * ((q + i * (4 * b + 5)) % 8) + r) % 3 : Nat) := by
  intro y hy
  have e := steps_mod hN (y / 18014398509481984) (y % 18014398509481984) (y % 18014398509481984 % 2) (y % 18014398509481984 / 2) (by omega) (by omega) (by omega) (by omega)
  rw [show 18014398509481984 * (y / 18014398509481984) + y % 18014398509481984 = y by omega] at e
  refine ⟨(y / 18014398509481984).toNat, (y % 18014398509481984 / 8589934592 % 3).toNat, (y % 18014398509481984 % 2).toNat, by omega, by omega, by omega, fun i => ?_⟩
  rw [e i]
  obtain ⟨b, hb⟩ : ∃ b : Nat, y % 18014398509481984 % 2 = b := ⟨(y % 18014398509481984 % 2).toNat, by omega⟩
  obtain ⟨q, hq⟩ : ∃ q : Nat, y / 18014398509481984 = q := ⟨(y / 18014398509481984).toNat, by omega⟩
  rw [hb, hq, Int.toNat_natCast, Int.toNat_natCast]
  have ew : (i : Int) * (4 * (b : Int) + 5) = ((i * (4 * b + 5) : Nat) : Int) := by push_cast; rfl
  rw [ew]
  generalize i * (4 * b + 5) = w
  have hl0 : 0 ≤ y % 18014398509481984 ∧ y % 18014398509481984 < 18014398509481984 := by omega
  generalize y % 18014398509481984 = l at hl0 ⊢
  obtain ⟨Q, hQ⟩ : ∃ Q : Nat, Q = (q + w) % 8 := ⟨_, rfl⟩
  have e1 : ((q : Int) + (w : Int)) % 8 = (Q : Int) := by omega
  rw [e1, ← hQ]
  have hx : (18014398509481984 * (Q : Int) + l) / 8589934592 = 2097152 * (Q : Int) + l / 8589934592 := by omega
  rw [hx]
  obtain ⟨u, hu⟩ : ∃ u : Nat, l / 8589934592 = u := ⟨(l / 8589934592).toNat, by omega⟩
  rw [hu]
  clear hx e1 hQ
  omega
 obtain ⟨q, r, b, h1, h2, h3, e1⟩ := part y hy
 obtain ⟨q', r', b', h4, h5, h6, e2⟩ := part z hz
 obtain ⟨i, hi, g1, g2⟩ := pick8 h1 h4 h2 h5 h3 h6
 refine ⟨i * M, ?_, ?_, ?_⟩
 ·have := Nat.mul_le_mul (show i ≤ 7 by omega) hM
  omega
 ·rw [← Nat.mul_add, ← hNM, e1 i]; omega
 ·rw [← Nat.mul_add, ← hNM, e2 i]; omega
theorem nextH_mod (h : Int) : nextH h % 144115188075855872 = lc (h % 144115188075855872) := by
 unfold nextH lc
 rw [IntKind.wrap_u64, IntKind.wrap_u64]
 omega
theorem topH_lc (h : Int) : topH h = lc (h % 144115188075855872) / 8589934592 := by
 have hb := wrap_u64_lt ((IntKind.u64.wrap (h * 6364136223846793005)) + 1442695040888963407)
 rw [topH_eq, ← nextH_mod]
 have : 0 ≤ nextH h ∧ nextH h < 18446744073709551616 := hb
 omega
theorem itr_mod : ∀ (t : Nat) (h : Int), itr t h % 144115188075855872 = lcn t (h % 144115188075855872) := by
 intro t
 induction t with
 | zero => intro h; rfl
 | succ t ih => intro h; simp only [itr, lcn]; rw [ih, nextH_mod]
theorem itr_add : ∀ (s t : Nat) (h : Int), itr (s + t) h = itr t (itr s h) := by
 intro s
 induction s with
 | zero => intro t h; rw [Nat.zero_add]; rfl
 | succ s ih => intro t h; rw [Nat.add_right_comm]; exact ih t (nextH h)
theorem topH_itr (t : Nat) (h : Int) : topH (itr t h) = lcn t (lc (h % 144115188075855872)) / 8589934592 := by
 rw [topH_lc, itr_mod]
 have e := lcn_add t 1 (h % 144115188075855872)
 rw [Nat.add_comm, lcn_add] at e
 rw [show lc (lcn t (h % 144115188075855872)) = lcn 1 (lcn t (h % 144115188075855872)) from rfl, ← e]
 rfl
def good (t : Nat) (h : Int) : Prop := topH (itr t h) % 3 ≠ 0 ∧ topH (itr (t + 2) h) % 3 ≠ 0
theorem good_ex (h : Int) : ∃ m : Nat, m ≤ 63050394783186944 ∧ good (m + m) h := by
 have hz : 0 ≤ lc (h % 144115188075855872) ∧ lc (h % 144115188075855872) < 144115188075855872 := by unfold lc; omega
 obtain ⟨m, hm, g1, g2⟩ := far_ex (lc (h % 144115188075855872)) (lcn 2 (lc (h % 144115188075855872))) hz (lcn_range 2 _ hz)
 refine ⟨m, hm, by rw [topH_itr]; exact g1, ?_⟩
 rw [topH_itr, Nat.add_comm, lcn_add]
 exact g2
theorem parse_end (c : List Int) (p h : Int) (s : ByteArray) (hc : bytesL c) (hl : c.length ≤ 4096) (hp : 0 ≤ p) (hcp : (c.length : Int) ≤ p) (hg : topH h % 3 ≠ 0) : Ev (fun k => spec_DrawParseTree.l0 k s c p h) s := by
 obtain ⟨v, p1, e1, hv, q1⟩ := next_any c p h 3 hc hl hp (by omega)
 apply Ev.succ
 simp only [spec_DrawParseTree.l0, e1, Option.bind_some]
 exact Ev.neg (by omega) (Ev.now _)
theorem parse_after (c : List Int) (hc : bytesL c) (hl : c.length ≤ 4096) : ∀ (b m : Nat) (p h : Int) (s : ByteArray), m ≤ b → 0 ≤ p → (c.length : Int) ≤ p → good (m + m) h → s.size + 2 * (m + 1) ≤ 4611686018427387904 → ∃ s', Ev (fun k => spec_DrawParseTree.l0 k s c p h) s' ∧ s'.size ≤ s.size + 2 * (m + 1) := by
 intro b
 induction b with
 | zero =>
  intro m p h s hm hp hcp hg hs
  obtain rfl : m = 0 := by omega
  exact ⟨s, parse_end c p h s hc hl hp hcp hg.1, by omega⟩
 | succ b ih =>
  intro m p h s hm hp hcp hg hs
  by_cases c0 : topH h % 3 = 0
  ·obtain ⟨v, p1, e1, hv, q1⟩ := next_any c p h 3 hc hl hp (by omega)
   obtain ⟨n, rfl⟩ : ∃ n, m = n + 1 := by
    cases m with
    | zero => exact absurd c0 hg.1
    | succ n => exact ⟨n, rfl⟩
   obtain ⟨s1, p2, j, e2, hj, hs1, hp2, hp3⟩ := damage_ex c p1 (nextH h) s hc hl (by omega) (by omega)
   have hpp : p2 = p := by have := hp3 (by omega); omega
   have e3 : itr j (nextH h) = itr (j + 1) h := rfl
   rw [e3] at e2
   subst hpp
   have start : ∀ s', Ev (fun k => spec_DrawParseTree.l0 k s1 c p2 (itr (j + 1) h)) s' → Ev (fun k => spec_DrawParseTree.l0 k s c p2 h) s' := by
    intro s' e
    apply Ev.succ
    simp only [spec_DrawParseTree.l0, e1, Option.bind_some]
    refine Ev.pos (by omega) ?_
    simp only [e2, Option.bind_some]
    exact e
   rcases hj with rfl | rfl
   ·obtain ⟨s', e4, h4⟩ := ih n p2 (itr 2 h) s1 (by omega) hp hcp (by
     unfold good at hg ⊢
     rw [← itr_add, ← itr_add, show 2 + (n + n) = n + 1 + (n + 1) by omega, show 2 + (n + n + 2) = n + 1 + (n + 1) + 2 by omega]
     exact hg) (by omega)
    exact ⟨s', start s' e4, by omega⟩
   ·cases n with
    | zero => exact ⟨s1, start s1 (parse_end c p2 (itr 4 h) s1 hc hl hp hcp hg.2), by omega⟩
    | succ n =>
     obtain ⟨s', e4, h4⟩ := ih n p2 (itr 4 h) s1 (by omega) hp hcp (by
      unfold good at hg ⊢
      rw [← itr_add, ← itr_add, show 4 + (n + n) = n + 1 + 1 + (n + 1 + 1) by omega, show 4 + (n + n + 2) = n + 1 + 1 + (n + 1 + 1) + 2 by omega]
      exact hg) (by omega)
     exact ⟨s', start s' e4, by omega⟩
  ·exact ⟨s, parse_end c p h s hc hl hp hcp c0, by omega⟩
theorem parse_loop (c : List Int) (hc : bytesL c) (hl : c.length ≤ 4096) : ∀ (q : Nat) (p h : Int) (s : ByteArray), 0 ≤ p → (c.length : Int) ≤ p + q → s.size + 2 * q ≤ 1000000 → ∃ s', Ev (fun k => spec_DrawParseTree.l0 k s c p h) s' ∧ s'.size ≤ 1000000 + 2 * (63050394783186944 + 1) := by
 intro q
 induction q with
 | zero =>
  intro p h s hp hq hs
  obtain ⟨m, hm, hg⟩ := good_ex h
  obtain ⟨s', e, h'⟩ := parse_after c hc hl m m p h s (Nat.le_refl _) hp (by omega) hg (by omega)
  exact ⟨s', e, by omega⟩
 | succ q ih =>
  intro p h s hp hq hs
  by_cases cp : (c.length : Int) ≤ p
  ·exact ih p h s hp (by omega) (by omega)
  ·obtain ⟨v, p1, e1, hv, q1⟩ := next_any c p h 3 hc hl hp (by omega)
   by_cases c0 : v = 0
   ·obtain ⟨s1, p2, j, e2, hj, hs1, hp2, hp3⟩ := damage_ex c p1 (nextH h) s hc hl (by omega) (by omega)
    obtain ⟨s', e3, h3⟩ := ih p2 (itr j (nextH h)) s1 (by omega) (by omega) (by omega)
    refine ⟨s', ?_, h3⟩
    apply Ev.succ
    simp only [spec_DrawParseTree.l0, e1, Option.bind_some]
    refine Ev.pos c0 ?_
    simp only [e2, Option.bind_some]
    exact e3
   ·refine ⟨s, ?_, by omega⟩
    apply Ev.succ
    simp only [spec_DrawParseTree.l0, e1, Option.bind_some]
    exact Ev.neg c0 (Ev.now _)
theorem DrawParseTree_ex (c : List Int) (hc : bytesL c) (hl : c.length ≤ 4096) : ∃ s, Ev (fun k => spec_DrawParseTree.f k c) s ∧ s.size ≤ 4611686018427387904 := by
 obtain ⟨h, e0⟩ := from_ev c hl
 obtain ⟨t, p1, h1, e1, ho, ht, hp1⟩ := draw_ex c 0 h hc hl (by omega)
 rcases isT_cases t with hf | ⟨k, hk1, hk2, _⟩
 ·rw [okP_isT ho ht] at hf; cases hf
 ·subst hk1
  have e2 := spec_l01Text_ev k hk2
  have hs : (textV k).size = 2 * (sz k + 1) := by
   unfold textV
   rw [S_size, txt_length]
   simp only [sz]
   omega
  obtain ⟨s', e3, h3⟩ := parse_loop c hc hl 4096 p1 h1 (textV k) (by omega) (by omega) (by omega)
  refine ⟨s', ?_, by omega⟩
  unfold spec_DrawParseTree.f
  exact Ev.bind e0 (Ev.bind e1 (Ev.bind e2 e3))
theorem spec_l01Read_ev (l : List UInt8) (hm : l.length ≤ 4611686018427387904) : Ev (fun m => spec_l01Read.f m (S l)) (if l.length > 48 then ([], false) else match parseT l with | some k => (tr k, true) | none => ([], false)) := by
 have hs := S_size l
 have close : ∀ (d : List Int) (i : Nat) (c : UInt8) (cs : List UInt8), d ≠ [] → l.drop i = c :: cs → i < 48 → i + cs.length + 1 = l.length → Ev (fun m => spec_l01Read.l0 m (S l) d [] i) ([], false) := by
  intro d i c cs hne h hi hl
  have hb := S_bt_drop h
  have hd0 : d.length ≠ 0 := fun e => hne (List.eq_nil_of_length_eq_zero e)
  refine Ev.step (fun k => by rw [spec_l01Read.l0]) ?_
  refine Ev.pos (by omega) (Ev.pos (by omega) ?_)
  have fin : Ev (fun k => spec_l01Read.j1 k (S l) d [] i false) ([], false) := by
   refine Ev.step (fun k => by rw [spec_l01Read.j1]) ?_
   refine Ev.neg (by simp) (Ev.pos (by omega) (Ev.pos (by omega) ?_))
   refine Ev.ite (fun _ => ?_) (fun _ => Ev.now _)
   exact Ev.neg (by simp) (Ev.now _)
  refine Ev.ite (fun _ => ?_) (fun _ => fin)
  refine Ev.neg (by simp) ?_
  have : ((d.length : Int) == 0) = false := by simp; omega
  rw [this]
  exact fin
 have key : ∀ (cs : List UInt8) (i : Nat) (f : F) (fs : List F), l.drop i = cs → i + cs.length = l.length → l.length ≤ 48 → (enc (f :: fs) 0).length ≤ i → fs.length < i →
   Ev (fun m => spec_l01Read.l0 m (S l) (enc (f :: fs) 0) (stk (f :: fs)) i) (match parseF cs (f :: fs) with | some k => (tr k, true) | none => ([], false)) := by
  intro cs
  induction cs with
  | nil =>
   intro i f fs h hi h48 hen hf
   simp only [List.length_nil] at hi
   have hsl := stk_length (f :: fs)
   simp only [List.length_cons] at hsl
   refine Ev.step (fun k => by rw [spec_l01Read.l0]) ?_
   refine Ev.neg (by omega) (Ev.pos (by omega) ?_)
   exact Ev.now _
  | cons c cs ih =>
   intro i f fs h hi h48 hen hf
   simp only [List.length_cons] at hi
   have hb := S_bt_drop h
   have hdr := (drop_cons h).2.2
   have hsl := stk_length (f :: fs)
   simp only [List.length_cons] at hsl
   have hel := enc_len (f :: fs) 0
   have hel1 := enc_len fs 1
   simp only [szl] at hel
   have htop : rd (stk (f :: fs)) ((fs.length : Nat) : Int) = (((enc fs 1).length : Nat) : Int) := rd_mid (stk_length fs)
   refine Ev.step (fun k => by rw [spec_l01Read.l0]) ?_
   refine Ev.pos (by omega) (Ev.pos (by omega) ?_)
   simp only [parseF]
   by_cases c0 : c = 40
   ·rw [if_pos c0]
    refine Ev.pos (by rw [hb, c0]; rfl) (Ev.pos (by omega) ?_)
    refine Ev.step (fun k => by rw [spec_l01Read.j1]) ?_
    refine Ev.pos rfl (Ev.pos (by omega) ?_)
    rw [show ((stk (f :: fs)).length : Int) - 1 = ((fs.length : Nat) : Int) by omega, w64 (x := ((fs.length : Nat) : Int)) (by omega), htop]
    refine Ev.pos (by omega) (Ev.pos (by omega) (Ev.pos (by omega) (Ev.pos (by omega) ?_)))
    simp only [Option.bind_some]
    rw [rd_enc, w64 (x := (len f : Int) + 1) (by have := len_le_sz f; omega), w64 (x := (i : Int) + 1) (by omega), Int.toNat_natCast]
    refine Ev.pos (by omega) (Ev.pos (by rw [List.length_set]; omega) ?_)
    have := ih (i + 1) nil (f :: fs) hdr (by omega) h48 (by rw [enc_len]; simp only [szl, sz]; omega) (by simp; omega)
    rw [enc_open] at this
    have e2 : stk (nil :: f :: fs) = stk (f :: fs) ++ [((enc (f :: fs) 0).length : Int)] := by
     show stk (f :: fs) ++ [((enc (f :: fs) 1).length : Int)] = _
     rw [enc_length (f :: fs) 1 0]
    rw [e2] at this
    exact this
   ·rw [if_neg c0]
    refine Ev.neg (by rw [hb]; exact fun e => c0 ((byte_eq c 40).1 e)) ?_
    refine Ev.step (fun k => by rw [spec_l01Read.j1]) ?_
    refine Ev.neg (by simp) (Ev.pos (by omega) (Ev.pos (by omega) ?_))
    by_cases c1 : c = 41
    ·rw [if_pos c1]
     refine Ev.pos (by rw [hb, c1]; rfl) (Ev.pos (by omega) ?_)
     rw [show ((stk (f :: fs)).length : Int) - 1 = ((fs.length : Nat) : Int) by omega, w64 (x := ((fs.length : Nat) : Int)) (by omega), w64 (x := (i : Int) + 1) (by omega), Int.toNat_natCast]
     refine Ev.pos (by omega) (Ev.pos (by omega) ?_)
     have e3 : (stk (f :: fs)).take fs.length = stk fs := by
      show (stk fs ++ _).take fs.length = _
      rw [← stk_length fs, List.take_left]
     rw [e3]
     cases fs with
     | nil =>
      by_cases c2 : cs = []
      ·simp only [if_pos c2]
       subst c2
       simp only [List.length_nil] at hi
       rw [enc_one]
       have htr := tr_length f
       refine Ev.step (fun k => by rw [spec_l01Read.l0]) ?_
       refine Ev.neg (by omega) (Ev.neg (by simp [stk]) (Ev.neg (by omega) (Ev.now _)))
      ·simp only [if_neg c2]
       obtain ⟨c', cs', rfl⟩ : ∃ c' cs', cs = c' :: cs' := by
        cases cs with
        | nil => exact absurd rfl c2
        | cons a b => exact ⟨a, b, rfl⟩
       simp only [List.length_cons] at hi
       exact close (enc [f] 0) (i + 1) c' cs' (by rw [enc_one]; simp [tr, degs]) hdr (by omega) (by omega)
     | cons g hs =>
      have := ih (i + 1) (app g (cons f nil)) hs hdr (by omega) h48 (by rw [enc_close]; omega) (by simp only [List.length_cons] at hf; omega)
      rw [enc_close] at this
      exact this
    ·rw [if_neg c1]
     exact Ev.neg (by rw [hb]; exact fun e => c1 ((byte_eq c 41).1 e)) (Ev.now _)
 unfold spec_l01Read.f
 by_cases c : l.length > 48
 ·rw [if_pos c]
  exact Ev.pos (by omega) (Ev.now _)
 ·rw [if_neg c]
  refine Ev.neg (by omega) ?_
  cases hl : l with
  | nil =>
   subst hl
   refine Ev.step (f := fun _ => some ([], false)) (fun k => ?_) (Ev.now _)
   rw [spec_l01Read.l0, if_neg (by rw [hs]; simp), if_neg (by simp), if_pos (by simp)]
  | cons a cs =>
   rw [← hl]
   have hl1 : l.length = cs.length + 1 := by rw [hl]; simp
   have h0 : l.drop 0 = a :: cs := by rw [hl]; rfl
   have hb := S_bt_drop h0
   have hb0 : bt (S l) 0 = (a.toNat : Int) := hb
   have hdr := (drop_cons h0).2.2
   have hp : parseT l = if a = 40 then parseF cs [nil] else none := by rw [hl]; rfl
   rw [hp]
   refine Ev.step (fun k => by rw [spec_l01Read.l0]) ?_
   refine Ev.pos (by omega) (Ev.pos (by omega) ?_)
   by_cases c0 : a = 40
   ·rw [if_pos c0]
    refine Ev.pos (by rw [hb0, c0]; rfl) (Ev.neg (by simp) ?_)
    refine Ev.step (fun k => by rw [spec_l01Read.j1]) ?_
    refine Ev.pos (by simp) (Ev.neg (by simp) (Ev.pos (by simp) (Ev.pos (by simp) ?_)))
    rw [show wrap64 (0 + 1) = ((1 : Nat) : Int) by rw [w64 (by omega)]; rfl]
    exact key cs 1 nil [] hdr (by omega) (by omega) (by simp [enc, degs]) (by simp)
   ·rw [if_neg c0]
    refine Ev.neg (by rw [hb0]; exact fun e => c0 ((byte_eq a 40).1 e)) ?_
    refine Ev.step (fun k => by rw [spec_l01Read.j1]) ?_
    refine Ev.neg (by simp) (Ev.pos (by omega) (Ev.pos (by omega) ?_))
    refine Ev.ite (fun _ => ?_) (fun _ => Ev.now _)
    exact Ev.neg (by simp) (Ev.now _)
theorem spec_ParseTree_ev (l : List UInt8) (hm : l.length ≤ 4611686018427387904) : Ev (fun m => spec_ParseTree.f m (S l)) (readV l) := by
 unfold spec_ParseTree.f readV
 refine Ev.bind (spec_l01Read_ev l hm) ?_
 by_cases c : l.length > 48
 ·rw [if_pos c, if_pos c]
  exact Ev.neg (by simp) (Ev.now _)
 ·rw [if_neg c, if_neg c]
  cases h : parseT l with
  | none => exact Ev.neg (by simp) (Ev.now _)
  | some k => exact Ev.pos rfl (Ev.now _)
theorem spec_TreeText_ev (d : List Int) (hd : d.length ≤ 9223372036854775807) {R} (h : treeR textV (S []) d R) : Ev (fun m => spec_TreeText.f m d) R := by
 rcases h with ⟨h, rfl⟩ | ⟨k, rfl, hk, h, rfl⟩
 ·have e := spec_l01Is_ev d hd
  rw [h] at e
  unfold spec_TreeText.f
  exact Ev.bind e (Ev.neg (by simp) (Ev.now _))
 ·have e := spec_l01Is_ev (tr k) hd
  rw [h] at e
  have hl := tr_length k
  unfold spec_TreeText.f
  refine Ev.bind e (Ev.pos rfl ?_)
  exact Ev.bind (spec_l01Text_ev k hk) (Ev.now _)
theorem sum_split (g : Nat → Int) (a b : Nat) : ((List.range (a + b + 1)).map g).sum = g 0 + ((List.range a).map fun i => g (i + 1)).sum + ((List.range b).map fun i => g (a + i + 1)).sum := by
 rw [List.range_succ_eq_map, List.map_cons, List.sum_cons, List.map_map, List.range_add, List.map_append, List.sum_append, List.map_map, ← Int.add_assoc]
 rfl
theorem dep_size : ∀ (f : F) (q : Int), ((List.range (sz f)).map fun v => depAt q f v).sum = ((List.range (sz f)).map fun v => ((1 + sz (sub f v) : Nat) : Int)).sum + (q - 1) * (sz f : Int) := by
 intro f
 induction f with
 | nil => intro q; simp [sz]
 | cons k r ihk ihr =>
  intro q
  have hz : sz (cons k r) = sz k + sz r + 1 := by simp only [sz]; omega
  rw [hz, sum_split, sum_split]
  have d1 : ((List.range (sz k)).map fun i => depAt q (cons k r) (i + 1)) = (List.range (sz k)).map fun i => depAt (q + 1) k i := by
   refine List.map_congr_left (fun i hi => ?_)
   rw [List.mem_range] at hi
   simp only [depAt]
   rw [if_pos hi]
  have d2 : ((List.range (sz r)).map fun i => depAt q (cons k r) (sz k + i + 1)) = (List.range (sz r)).map fun i => depAt q r i := by
   refine List.map_congr_left (fun i hi => ?_)
   simp only [depAt]
   rw [if_neg (by omega), show sz k + i - sz k = i by omega]
  have s1 : ((List.range (sz k)).map fun i => ((1 + sz (sub (cons k r) (i + 1)) : Nat) : Int)) = (List.range (sz k)).map fun i => ((1 + sz (sub k i) : Nat) : Int) := by
   refine List.map_congr_left (fun i hi => ?_)
   rw [List.mem_range] at hi
   simp only [sub]
   rw [if_pos hi]
  have s2 : ((List.range (sz r)).map fun i => ((1 + sz (sub (cons k r) (sz k + i + 1)) : Nat) : Int)) = (List.range (sz r)).map fun i => ((1 + sz (sub r i) : Nat) : Int) := by
   refine List.map_congr_left (fun i hi => ?_)
   simp only [sub]
   rw [if_neg (by omega), show sz k + i - sz k = i by omega]
  rw [d1, d2, s1, s2, ihk (q + 1), ihr q]
  simp only [depAt, sub]
  generalize ((List.range (sz k)).map fun v => ((1 + sz (sub k v) : Nat) : Int)).sum = A
  generalize ((List.range (sz r)).map fun v => ((1 + sz (sub r v) : Nat) : Int)).sum = B
  have e : (q - 1) * ((sz k + sz r + 1 : Nat) : Int) = (q - 1) * (sz k : Int) + (q - 1) * (sz r : Int) + (q - 1) := by
   rw [show ((sz k + sz r + 1 : Nat) : Int) = (sz k : Int) + (sz r : Int) + 1 by omega, Int.mul_add, Int.mul_add, Int.mul_one]
  have e2 : (q + 1 - 1) * (sz k : Int) = (q - 1) * (sz k : Int) + (sz k : Int) := by
   rw [show q + 1 - 1 = (q - 1) + 1 by omega, Int.add_mul, Int.one_mul]
  rw [e, e2]
  omega
theorem sizes_depths (k : F) : (sizesV k).sum = (depV k).sum + ((sz k + 1 : Nat) : Int) := by
 have h := dep_size (cons k nil) 0
 have hz : sz (cons k nil) = sz k + 1 := by simp only [sz]; omega
 rw [hz] at h
 have e : (0 - 1 : Int) * ((sz k + 1 : Nat) : Int) = - ((sz k + 1 : Nat) : Int) := by rw [show (0 - 1 : Int) = -1 from rfl, Int.neg_one_mul]
 rw [e] at h
 have h1 : (depV k).sum = ((List.range (sz k + 1)).map fun v => depAt 0 (cons k nil) v).sum := rfl
 have h2 : (sizesV k).sum = ((List.range (sz k + 1)).map fun v => ((1 + sz (sub (cons k nil) v) : Nat) : Int)).sum := rfl
 omega
theorem post_mem (f : F) : ∀ (a v : Nat), a ≤ v → v < a + sz f → (v : Int) ∈ post a f := by
 induction f with
 | nil => intro a v h1 h2; simp only [sz] at h2; omega
 | cons k r ihk ihr =>
  intro a v h1 h2
  simp only [sz] at h2
  simp only [post, List.mem_append, List.mem_cons]
  by_cases c : v = a
  ·exact .inr (.inl (by omega))
  ·by_cases c2 : v < a + 1 + sz k
   ·exact .inl (ihk (a + 1) v (by omega) (by omega))
   ·exact .inr (.inr (ihr (a + 1 + sz k) v (by omega) (by omega)))
theorem tops_cover (f : F) : ∀ (a v : Nat), a ≤ v → v < a + sz f → ∃ p ∈ tops a f, p.1 ≤ v ∧ v < p.1 + 1 + sz p.2 := by
 induction f with
 | nil => intro a v h1 h2; simp only [sz] at h2; omega
 | cons k r _ ihr =>
  intro a v h1 h2
  simp only [sz] at h2
  simp only [tops, List.mem_cons]
  by_cases c2 : v < a + 1 + sz k
  ·exact ⟨(a, k), .inl rfl, h1, c2⟩
  ·obtain ⟨p, hp, h3⟩ := ihr (a + 1 + sz k) v (by omega) (by omega)
   exact ⟨p, .inr hp, h3⟩
theorem bfs_mem (v : Nat) : ∀ (n : Nat) (q : List (Nat × F)), szs q = n → (∃ p ∈ q, p.1 ≤ v ∧ v < p.1 + 1 + sz p.2) → (v : Int) ∈ bfs n q := by
 intro n
 induction n with
 | zero =>
  intro q h ⟨p, hp, _⟩
  cases q with
  | nil => simp at hp
  | cons x q => simp only [szs] at h; omega
 | succ n ih =>
  intro q h ⟨p, hp, h1, h2⟩
  cases q with
  | nil => simp at hp
  | cons x q =>
   obtain ⟨a, s⟩ := x
   simp only [szs] at h
   simp only [bfs, List.mem_cons]
   have hn : szs (q ++ tops (a + 1) s) = n := by rw [szs_append, szs_tops]; omega
   rcases List.mem_cons.1 hp with rfl | hp
   ·simp only at h1 h2
    by_cases c : v = a
    ·exact .inl (by omega)
    ·obtain ⟨p, hp, h3⟩ := tops_cover s (a + 1) v (by omega) (by omega)
     exact .inr (ih _ hn ⟨p, List.mem_append.2 (.inr hp), h3⟩)
   ·exact .inr (ih _ hn ⟨p, List.mem_append.2 (.inl hp), h1, h2⟩)
theorem leaves_mem (v : Nat) : ∀ (l : List Int) (i : Nat), (v : Int) ∈ leavesFrom i l ↔ ∃ j, v = i + j ∧ l[j]? = some 0 := by
 intro l
 induction l with
 | nil => intro i; simp [leavesFrom]
 | cons x xs ih =>
  intro i
  simp only [leavesFrom]
  have hs : (∃ j, v = i + 1 + j ∧ xs[j]? = some 0) ↔ ∃ j, v = i + (j + 1) ∧ (x :: xs)[j + 1]? = some 0 := by
   simp only [List.getElem?_cons_succ]
   constructor
   ·rintro ⟨j, h1, h2⟩; exact ⟨j, by omega, h2⟩
   ·rintro ⟨j, h1, h2⟩; exact ⟨j, by omega, h2⟩
  by_cases c : x = 0
  ·rw [if_pos c, List.mem_cons, ih, hs]
   constructor
   ·rintro (h | ⟨j, h1, h2⟩)
    ·exact ⟨0, by omega, by simp [c]⟩
    ·exact ⟨j + 1, h1, h2⟩
   ·rintro ⟨j, h1, h2⟩
    cases j with
    | zero => exact .inl (by omega)
    | succ j => exact .inr ⟨j, h1, h2⟩
  ·rw [if_neg c, ih, hs]
   constructor
   ·rintro ⟨j, h1, h2⟩; exact ⟨j + 1, h1, h2⟩
   ·rintro ⟨j, h1, h2⟩
    cases j with
    | zero => simp at h2; exact absurd h2 c
    | succ j => exact ⟨j, h1, h2⟩
theorem mx_ge : ∀ (xs : List Int) (m : Int), m ≤ xs.foldl mx m ∧ ∀ x ∈ xs, x ≤ xs.foldl mx m := by
 intro xs
 induction xs with
 | nil => intro m; simp
 | cons y ys ih =>
  intro m
  have e : mx m y = if m < y then y else m := rfl
  obtain ⟨h1, h2⟩ := ih (mx m y)
  have h3 : m ≤ mx m y ∧ y ≤ mx m y := by rw [e]; split <;> omega
  simp only [List.foldl_cons]
  refine ⟨by omega, fun x hx => ?_⟩
  rcases List.mem_cons.1 hx with rfl | hx
  ·omega
  ·exact h2 x hx
theorem At_sz {d : List Int} {a : Nat} {s s' : F} (hl : d.length ≤ 24) (h : At d a (cons s nil)) (h' : At d a (cons s' nil)) : sz s = sz s' := by
 have := Ev.unique (impl_endOf_ev d (by omega) h) (impl_endOf_ev d (by omega) h')
 omega
theorem node_facts (k : F) (hk : sz k ≤ 23) (v : Nat) (hv : v ≤ sz k) : (decide ((v : Int) ∈ leavesV k) != (((kidsV k v).length : Int) == 0)) = false ∧ (v : Int) ∈ postV k ∧ (v : Int) ∈ levelV k ∧ dep k v ≤ hgtV k := by
 have hat := st_At k v hv
 obtain ⟨h1, h2, h3, h4⟩ := hat.step
 have hlk : (kidsV k v).length = len (st k v) := by unfold kidsV; rw [offs_length]
 refine ⟨?_, ?_, ?_, ?_⟩
 ·have hg : (tr k)[v]? = some (len (st k v) : Int) := by
   rw [rd_nat, List.getD_eq_getElem?_getD, List.getElem?_eq_getElem h1] at h2
   rw [List.getElem?_eq_getElem h1]
   exact congrArg some h2
  have hm : (v : Int) ∈ leavesV k ↔ len (st k v) = 0 := by
   unfold leavesV
   rw [leaves_mem]
   constructor
   ·rintro ⟨j, e1, e2⟩
    obtain rfl : j = v := by omega
    rw [hg] at e2
    have := Option.some.inj e2
    omega
   ·intro e
    exact ⟨v, by omega, by rw [hg, e]; rfl⟩
  rw [bne_eq_false_iff_eq, hlk]
  by_cases c : len (st k v) = 0
  ·rw [decide_eq_true (hm.2 c), c]; rfl
  ·rw [decide_eq_false (fun h => c (hm.1 h))]
   symm
   rw [beq_eq_false_iff_ne]
   omega
 ·exact post_mem (cons k nil) 0 v (by omega) (by simp only [sz]; omega)
 ·exact bfs_mem v _ _ (by simp only [szs]; omega) ⟨(0, k), by simp, by simp, by simp only; omega⟩
 ·exact (mx_ge (depV k) 0).2 _ (List.mem_of_getElem? (depV_get k hv))
theorem kid_facts (k : F) (hk : sz k ≤ 23) (v : Nat) (hv : v ≤ sz k) (p : Nat × F) (hp : p ∈ tops (v + 1) (st k v)) : 1 ≤ p.1 ∧ p.1 ≤ sz k ∧ par k p.1 = (v : Int) ∧ dep k p.1 = dep k v + 1 ∧ sizeAt k p.1 = ((1 + sz p.2 : Nat) : Int) := by
 have hat := (st_At k v hv).step.2.2.1
 have h1 := tops_At _ _ hat p hp
 have hl := tr_length k
 have ho : (p.1 : Int) ∈ offs (v + 1) (st k v) := by rw [tops_offs]; exact List.mem_map.2 ⟨p, hp, rfl⟩
 have hb := offs_bound _ _ _ ho
 have hs := sub_small k v hv
 have h2 : p.1 ≤ sz k := by omega
 have hpar := (par_mem k hv h2).2 ho
 refine ⟨by omega, h2, hpar, ?_, ?_⟩
 ·rw [dep_par k (by omega) h2, hpar, Int.toNat_natCast]
 ·unfold sizeAt
  rw [At_sz (by omega) (st_At k p.1 h2) h1]
theorem sizesV_get (k : F) {j : Nat} (h : j ≤ sz k) : rd (sizesV k) (j : Int) = sizeAt k j := by
 refine rd_of_get ?_
 unfold sizesV
 rw [List.getElem?_map, List.getElem?_range (by omega)]
 rfl
theorem trees_nodes (k : F) (hk : sz k ≤ 23) (l : List Int) (last : Ev (fun m => laws_FnTrees.j4 m l) true) : ∀ (n v : Nat), v + n = sz k + 1 →
  Ev (fun m => laws_FnTrees.l0 m l (sizesV k) (parV k) (depV k) (leavesV k) (postV k) (levelV k) (hgtV k) ((sz k + 1 : Nat) : Int) (v : Int) (tr k)) true := by
 have hl := tr_length k
 have hsl : (sizesV k).length = sz k + 1 := by simp [sizesV]
 have hpl := parV_length k
 have hdl := depV_length k
 have hrd : ∀ j : Nat, j ≤ sz k → rd (depV k) (j : Int) = dep k j := fun j hj => rd_of_get (depV_get k hj)
 intro n
 induction n with
 | zero =>
  intro v hv
  apply Ev.succ
  simp only [laws_FnTrees.l0]
  exact Ev.neg (by omega) last
 | succ n ih =>
  intro v hv
  obtain ⟨f1, f2, f3, f4⟩ := node_facts k hk v (by omega)
  have hd0 := dep_bound k v v (Nat.le_refl _) (by omega)
  have hs0 := sub_small k v (by omega)
  have hkl := kidsV_length k v hk (by omega)
  have hc : nodeR kidsV [] (tr k) (v : Int) (kidsV k v, 0) := .inr ⟨k, v, rfl, hk, rfl, by omega, by
   simp only [codeN, codeV]
   rw [if_pos (isT_tr hk), if_pos (by omega)], rfl⟩
  have e1 := impl_ChildrenOf_ev (tr k) (by omega) (v : Int) hc
  have next := ih (v + 1) (by omega)
  have inner : ∀ (ps : List (Nat × F)) (i : Nat) (tot : Int), (kidsV k v).drop i = ps.map (fun p => (p.1 : Int)) → i + ps.length = (kidsV k v).length → (∀ p ∈ ps, p ∈ tops (v + 1) (st k v)) → tot + (szs ps : Int) = 1 + (sz (st k v) : Int) → 0 ≤ tot →
    Ev (fun m => laws_FnTrees.l1 m l (sizesV k) (parV k) (depV k) (leavesV k) (postV k) (levelV k) (hgtV k) (v : Int) (kidsV k v) 0 tot ((sz k + 1 : Nat) : Int) (v : Int) ((kidsV k v).length : Int) (i : Int) (tr k)) true := by
   intro ps
   induction ps with
   | nil =>
    intro i tot hd hi hp ht h0
    simp only [List.length_nil] at hi
    simp only [szs] at ht
    apply Ev.succ
    simp only [laws_FnTrees.l1]
    have hsv : tot = rd (sizesV k) (v : Int) := by rw [sizesV_get k (by omega)]; unfold sizeAt; omega
    refine Ev.neg (by omega) (Ev.pos (by trivial) (Ev.pos (by omega) (Ev.pos (by omega) (Ev.pos hsv (Ev.pos (by omega) (Ev.neg (by rw [hrd v (by omega)]; omega) ?_))))))
    have a1 := laws_hasInt_ev (leavesV k) (v : Int) (leavesV_length k hk)
    have a2 := laws_hasInt_ev (postV k) (v : Int) (postV_length k hk)
    have a3 := laws_hasInt_ev (levelV k) (v : Int) (levelV_length k hk)
    rw [decide_eq_true f2] at a2
    rw [decide_eq_true f3] at a3
    refine Ev.bind a1 (Ev.neg (by rw [f1]; simp) (Ev.bind a2 (Ev.pos (by trivial) (Ev.bind a3 (Ev.pos (by trivial) ?_)))))
    rw [w64 (x := (v : Int) + 1) (by omega), show (v : Int) + 1 = ((v + 1 : Nat) : Int) by omega]
    exact next
   | cons p ps ihp =>
    intro i tot hd hi hp ht h0
    simp only [List.length_cons] at hi
    simp only [szs] at ht
    simp only [List.map_cons] at hd
    have hr := rd_drop hd
    obtain ⟨g1, g2, g3, g4, g5⟩ := kid_facts k hk v (by omega) p (hp p (by simp))
    have r1 : rd (sizesV k) 0 = ((sz k + 1 : Nat) : Int) := by
     have := sizesV_get k (j := 0) (by omega)
     rw [Int.natCast_zero] at this
     rw [this]
     unfold sizeAt
     rw [st_zero]
     omega
    have r2 := parV_rd k g2
    have r3 := hrd p.1 g2
    have r4 := hrd v (by omega)
    have r5 := sizesV_get k g2
    apply Ev.succ
    simp only [laws_FnTrees.l1, hr]
    refine Ev.pos (by omega) (Ev.pos (by omega) (Ev.pos (by omega) (Ev.neg (by omega) (Ev.pos (by omega) (Ev.neg (by rw [r1]; omega) (Ev.pos (by omega) (Ev.pos (by omega) (Ev.pos (by rw [r2]; exact g3) (Ev.pos (by omega) (Ev.pos (by omega) (Ev.pos (by omega) (Ev.pos (by rw [r3, r4, w64 (by omega)]; exact g4) (Ev.pos (by omega) ?_)))))))))))))
    rw [r5, g5, w64 (x := tot + _) (by omega), w64 (x := (i : Int) + 1) (by omega), show (i : Int) + 1 = ((i + 1 : Nat) : Int) by omega]
    exact ihp (i + 1) _ (drop_cons hd).2.2 (by omega) (fun q hq => hp q (by simp [hq])) (by omega) (by omega)
  apply Ev.succ
  simp only [laws_FnTrees.l0]
  refine Ev.pos (by omega) (Ev.bind e1 ?_)
  exact inner (tops (v + 1) (st k v)) 0 1 (by unfold kidsV; rw [tops_offs]; rfl) (by unfold kidsV; rw [offs_length, tops_length]; omega) (fun p hp => hp) (by rw [szs_tops]) (by omega)
theorem FnTrees : ∀ (l : List Int), l.length ≤ maxLen → (∀ x ∈ l, (Lit.int .u8 x).wf = true) → ∃ k, laws_FnTrees.f k l = some true := by
 intro l hmax hwf
 suffices H : Ev (fun k => laws_FnTrees.f k l) true by
  obtain ⟨K, h⟩ := H
  exact ⟨K, h K (Nat.le_refl _)⟩
 unfold laws_FnTrees.f
 simp only [laws_big_eq, Option.bind_some]
 by_cases c : (l.length : Int) > 4096
 ·exact Ev.pos (by simpa using c) (Ev.now _)
 ·refine Ev.neg (by simpa using c) ?_
  have hl : l.length ≤ 4096 := by omega
  have hb : bytesL l := fun x hx => by
   have := hwf x hx
   simp only [Lit.wf, Bool.and_eq_true, decide_eq_true_eq] at this
   exact this
  have last : Ev (fun m => laws_FnTrees.j4 m l) true := by
   obtain ⟨x, v, e1, hx⟩ := DrawChildrenOf_ex l hb hl
   obtain ⟨R, hR⟩ := nodeR_ex kidsV [] x v
   have e2 := impl_ChildrenOf_ev x (by omega) v hR
   have e3 := spec_ChildrenOf_ev x (by omega) v hR
   have hRl := nodeR_len hR kidsV_length
   obtain ⟨s, e4, hs⟩ := DrawParseTree_ex l hb hl
   obtain ⟨w, rfl⟩ := S_of s
   rw [S_size] at hs
   have e5 := impl_ParseTree_ev w hs
   have e6 := spec_ParseTree_ev w hs
   have hwl := readV_len w
   obtain ⟨T, hT⟩ := treeR_ex textV (S []) x
   have e7 := impl_TreeText_ev x (by omega) hT
   have e8 := spec_TreeText_ev x (by omega) hT
   apply Ev.succ
   simp only [laws_FnTrees.j4]
   refine Ev.bind e1 (Ev.bind e2 (Ev.bind e3 (Ev.bind e4 (Ev.bind e5 (Ev.bind e6 (Ev.bind e7 (Ev.bind e8 (Ev.pos (by trivial) (Ev.bind (likeInts_self R.1 (by omega)) (Ev.pos (by trivial) (Ev.pos (by trivial) (Ev.bind (trees5_self _ (by omega)) (Ev.pos (by trivial) (Ev.pos (by trivial) (Ev.some (by simp))))))))))))))))
  obtain ⟨t, e0, ht⟩ := DrawSizesOf_ex l hb hl
  obtain ⟨A, P, D, L, O, V, H, o, a1, a2, a3, a4, a5, a6, a7, hlen, hcase⟩ : ∃ (A P D L O V : List Int) (H o : Int), treeR sizesV [] t (A, o) ∧ treeR parV [] t (P, o) ∧ treeR depV [] t (D, o) ∧ treeR leavesV [] t (L, o) ∧ treeR postV [] t (O, o) ∧ treeR levelV [] t (V, o) ∧ treeR hgtV 0 t (H, o) ∧
    (A.length ≤ 1000 ∧ P.length ≤ 1000 ∧ D.length ≤ 1000 ∧ L.length ≤ 1000 ∧ O.length ≤ 1000 ∧ V.length ≤ 1000) ∧ (o = 1 ∨ ∃ k, t = tr k ∧ sz k ≤ 23 ∧ o = 0 ∧ A = sizesV k ∧ P = parV k ∧ D = depV k ∧ L = leavesV k ∧ O = postV k ∧ V = levelV k ∧ H = hgtV k) := by
   rcases isT_cases t with h | ⟨k, h1, h2, h3⟩
   ·exact ⟨[], [], [], [], [], [], 0, 1, .inl ⟨h, rfl⟩, .inl ⟨h, rfl⟩, .inl ⟨h, rfl⟩, .inl ⟨h, rfl⟩, .inl ⟨h, rfl⟩, .inl ⟨h, rfl⟩, .inl ⟨h, rfl⟩, by simp, .inl rfl⟩
   ·exact ⟨_, _, _, _, _, _, _, 0, .inr ⟨k, h1, h2, h3, rfl⟩, .inr ⟨k, h1, h2, h3, rfl⟩, .inr ⟨k, h1, h2, h3, rfl⟩, .inr ⟨k, h1, h2, h3, rfl⟩, .inr ⟨k, h1, h2, h3, rfl⟩, .inr ⟨k, h1, h2, h3, rfl⟩, .inr ⟨k, h1, h2, h3, rfl⟩,
     ⟨sizesV_length k h2, by rw [parV_length]; omega, by rw [depV_length]; omega, leavesV_length k h2, postV_length k h2, levelV_length k h2⟩, .inr ⟨k, h1, h2, rfl, rfl, rfl, rfl, rfl, rfl, rfl, rfl⟩⟩
  have ht' : t.length ≤ 9223372036854775807 := by omega
  refine Ev.bind e0 (Ev.bind (impl_SizesOf_ev t ht' a1) (Ev.bind (spec_SizesOf_ev t ht' a1) (Ev.bind (impl_ParentsOf_ev t ht' a2) (Ev.bind (spec_ParentsOf_ev t ht' a2) (Ev.bind (impl_DepthsOf_ev t ht' a3) (Ev.bind (spec_DepthsOf_ev t ht' a3) ?_))))))
  refine Ev.bind (impl_LeavesOf_ev t ht' a4) (Ev.bind (spec_LeavesOf_ev t ht' a4) (Ev.bind (impl_PostorderOf_ev t ht' a5) (Ev.bind (spec_PostorderOf_ev t ht' a5) (Ev.bind (impl_LevelOrderOf_ev t ht' a6) (Ev.bind (spec_LevelOrderOf_ev t ht' a6) (Ev.bind (impl_HeightOf_ev t ht' a7) (Ev.bind (spec_HeightOf_ev t ht' a7) ?_)))))))
  simp only
  refine Ev.pos (by trivial) (Ev.bind (likeInts_self A (by omega)) (Ev.pos (by trivial) (Ev.pos (by trivial) (Ev.bind (likeInts_self P (by omega)) (Ev.pos (by trivial) (Ev.pos (by trivial) (Ev.bind (likeInts_self D (by omega)) (Ev.pos (by trivial) ?_))))))))
  refine Ev.pos (by trivial) (Ev.bind (likeInts_self L (by omega)) (Ev.pos (by trivial) (Ev.pos (by trivial) (Ev.bind (likeInts_self O (by omega)) (Ev.pos (by trivial) (Ev.pos (by trivial) (Ev.bind (likeInts_self V (by omega)) (Ev.pos (by trivial) ?_))))))))
  refine Ev.pos (by trivial) (Ev.pos (by trivial) (Ev.bind (impl_IsTree_ev t ht') (Ev.bind (spec_IsTree_ev t ht') ?_)))
  rw [show (isT t != isT t) = false by simp]
  apply Ev.succ
  simp only [laws_FnTrees.j0]
  refine Ev.neg (by simp) ?_
  rcases hcase with rfl | ⟨k, rfl, hk, rfl, rfl, rfl, rfl, rfl, rfl, rfl, rfl⟩
  ·exact Ev.neg (by omega) last
  ·have hsl : (sizesV k).length = sz k + 1 := by simp [sizesV]
   have hol : (postV k).length = sz k + 1 := by unfold postV; rw [post_length]; simp only [sz]; omega
   have hvl : (levelV k).length = sz k + 1 := by unfold levelV; rw [bfs_length _ _ (by simp only [szs]; omega)]
   have htl := tr_length k
   have htx : (txt (cons k nil)).length = 2 * (sz k + 1) := by rw [txt_length]; simp only [sz]; omega
   have g1 := impl_TreeText_ev (tr k) ht' (R := (textV k, 0)) (.inr ⟨k, rfl, hk, isT_tr hk, rfl⟩)
   have g2 := impl_ParseTree_ev (txt (cons k nil)) (by omega)
   have hrd : readV (txt (cons k nil)) = (tr k, 0) := by
    unfold readV
    rw [if_neg (by omega), parseT_txt]
   rw [hrd] at g2
   have r1 : rd (sizesV k) 0 = ((sz k + 1 : Nat) : Int) := by
    have := sizesV_get k (j := 0) (by omega)
    rw [Int.natCast_zero] at this
    rw [this]
    unfold sizeAt
    rw [st_zero]
    omega
   have hsb : ∀ x ∈ sizesV k, 0 ≤ x ∧ x ≤ 1000 := by
    intro x hx
    unfold sizesV at hx
    obtain ⟨v, hv, rfl⟩ := List.mem_map.1 hx
    rw [List.mem_range] at hv
    have := sub_small k v (by omega)
    unfold sizeAt
    omega
   have hdb : ∀ x ∈ depV k, 0 ≤ x ∧ x ≤ 1000 := by
    intro x hx
    unfold depV at hx
    obtain ⟨v, hv, rfl⟩ := List.mem_map.1 hx
    rw [List.mem_range] at hv
    have := dep_bound k v v (Nat.le_refl _) (by omega)
    omega
   have g3 := laws_sum_ev (sizesV k) (by omega) hsb
   have g4 := laws_sum_ev (depV k) (by omega) hdb
   have hsum := sizes_depths k
   have hdl := depV_length k
   have hbig : ∀ (xs : List Int), (∀ x ∈ xs, 0 ≤ x ∧ x ≤ 1000) → 0 ≤ xs.sum ∧ xs.sum ≤ 1000 * (xs.length : Int) := by
    intro xs
    induction xs with
    | nil => intro _; simp
    | cons x xs ih =>
     intro h
     have h1 := h x (by simp)
     have h2 := ih (fun y hy => h y (by simp [hy]))
     rw [List.sum_cons, List.length_cons]
     omega
   have hdd := hbig (depV k) hdb
   refine Ev.pos (by trivial) (Ev.bind g1 ?_)
   refine Ev.bind g2 (Ev.pos (by trivial) (Ev.pos (by trivial) (Ev.bind (trees5_self _ (by omega)) (Ev.pos (by trivial) (Ev.pos (by omega) ?_)))))
   simp only
   have hts : (textV k).size = 2 * (sz k + 1) := by unfold textV; rw [S_size, htx]
   refine Ev.pos (by rw [hts, r1, w64 (by omega)]; omega) (Ev.pos (by omega) (Ev.pos (by omega) (Ev.bind g3 (Ev.bind g4 ?_))))
   rw [r1, w64 (by omega), hsum, show (((depV k).sum + ((sz k + 1 : Nat) : Int)) != ((depV k).sum + ((sz k + 1 : Nat) : Int))) = false by simp]
   apply Ev.succ
   simp only [laws_FnTrees.j1]
   refine Ev.neg (by simp) ?_
   rw [hsl]
   exact trees_nodes k hk l last (sz k + 1) 0 (by omega)

end Go.Proofs.Ytocachknmgefaaa.Pure
