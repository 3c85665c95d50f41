/- The pure statement of the law FnTreeParts is proved. Conditions: those of the statement alone. -/
import Derived.Test.YtocachknmgefaaaQFnTreePartsx7
import Derived.Test.YtocachknmgefaaaVFnTreePartsBase
import Derived.Test.YtocachknmgefaaaVFnTreePartsBase2
import Derived.Test.YtocachknmgefaaaVFnTreePartsBin
import Derived.Test.YtocachknmgefaaaVFnTreePartsBase3
import Derived.Test.YtocachknmgefaaaVFnTreePartsBase4
import Derived.Test.YtocachknmgefaaaVFnTreePartsBase5
import Derived.Test.YtocachknmgefaaaVFnTreePartsBase6
import Derived.Test.YtocachknmgefaaaVFnTreePartsPar
import Derived.Test.YtocachknmgefaaaVFnTreePartsPar2
import Derived.Test.YtocachknmgefaaaVFnTreePartsRem
import Derived.Test.YtocachknmgefaaaVFnTreePartsBin2
import Derived.Test.YtocachknmgefaaaVFnTreePartsNum
namespace Go.Proofs.Ytocachknmgefaaa.Pure
open Go.RowKit Go.Proofs.Ytocachknmgefaaa.QFnTreeParts Go.Proofs.Ytocachknmgefaaa.Base Go.Proofs.YtocachknmgefaaaW.PrintWords Go.Proofs.YtocachknmgefaaaW.PrintLast Go.Proofs.YtocachknmgefaaaW.PrintMore
open Go.Proofs.Ytocachknmgefaaa.Base.F
set_option linter.unusedVariables false
set_option linter.unusedSimpArgs false

theorem laws_big_eq (l : List Int) : Xcb.f l = some (decide ((l.length : Int) > 4096)) := rfl
theorem likeInts_self (a : List Int) (h : a.length ≤ 9223372036854775807) : Ev (fun k => Xaj.f k a a) true := by
 have key : ∀ (m i : Nat), i + m = a.length → Ev (fun k => Xaj.l0 k a a (i : Int)) true := by
  intro m
  induction m with
  | zero =>
   intro i hi
   refine Ev.succ ?_
   simp only [Xaj.l0]
   exact Ev.neg (by omega) (Ev.now _)
  | succ m ih =>
   intro i hi
   refine Ev.succ ?_
   simp only [Xaj.l0]
   refine Ev.pos (by omega) (Ev.pos (by omega) (Ev.pos (by omega) (Ev.pos (by trivial) ?_)))
   rw [w64 (x := (i : Int) + 1) (by omega), show (i : Int) + 1 = ((i + 1 : Nat) : Int) by omega]
   exact ih (i + 1) (by omega)
 unfold Xaj.f
 exact Ev.pos (by trivial) (key a.length 0 (by omega))
theorem trees5_self (a : List Int) (h : a.length ≤ 9223372036854775807) : Ev (fun k => Xau.f k a a) true := by
 unfold Xau.f
 exact Ev.bind (likeInts_self a h) (Ev.now _)
theorem from_ev (l : List Int) (hl : l.length ≤ 4096) : ∃ h, Ev (fun k => Xt.f k l) (l, 0, h) := by
 have key : ∀ (m i : Nat) (h : Int), i + m = l.length → ∃ h', Ev (fun k => Xt.l0 k l (i : Int) l 0 h) (l, 0, h') := by
  intro m
  induction m with
  | zero =>
   intro i h hi
   refine ⟨h, Ev.succ ?_⟩
   simp only [Xt.l0]
   exact Ev.neg (by omega) (Ev.now _)
  | succ m ih =>
   intro i h hi
   obtain ⟨h', e⟩ := ih (i + 1) (IntKind.u64.wrap ((IntKind.u64.wrap ((IntKind.u64.wrap (h * 1099511628211)) + (IntKind.u64.wrap (rd l (i : Int))))) + 233)) (by omega)
   refine ⟨h', Ev.succ ?_⟩
   simp only [Xt.l0]
   refine Ev.pos (by omega) (Ev.pos (by omega) (Ev.pos (by omega) ?_))
   rw [w64 (x := (i : Int) + 1) (by omega), show (i : Int) + 1 = ((i + 1 : Nat) : Int) by omega]
   exact e
 unfold Xt.f
 exact key l.length 0 _ (by omega)
theorem spec_l01N_eq (d : List Int) : Xay.f d = some (d.length : Int) := rfl
/-- bytes -/
def bytesL (c : List Int) : Prop := ∀ x ∈ c, 0 ≤ x ∧ x ≤ 255
theorem rd_mem {xs : List Int} {p : Nat} (h : p < xs.length) : rd xs (p : Int) ∈ xs := by
 rw [rd_of_get (List.getElem?_eq_getElem h)]
 exact List.getElem_mem h
/-- the next state of the hash, and what is drawn of it -/
def nextH (h : Int) : Int := IntKind.u64.wrap ((IntKind.u64.wrap (h * 6364136223846793005)) + 1442695040888963407)
def topH (h : Int) : Int := Go.bits .and .u64 ((nextH h) / 8589934592) 16777215
theorem wrap_u64_lt (n : Int) : 0 ≤ IntKind.u64.wrap n ∧ IntKind.u64.wrap n < 18446744073709551616 := by
 rw [IntKind.wrap_u64]
 omega
theorem topH_eq (h : Int) : topH h = (nextH h / 8589934592) % 16777216 := by
 have hb := wrap_u64_lt ((IntKind.u64.wrap (h * 6364136223846793005)) + 1442695040888963407)
 exact bits_mask .u64 64 (by decide) (fun n h0 h1 => by rw [IntKind.wrap_u64]; omega) 24 (by decide) (nextH h / 8589934592) (by unfold nextH; omega) (by unfold nextH; omega)
theorem next_ex (c : List Int) (p h n : Int) (hc : bytesL c) (hl : c.length ≤ 4096) (hp : 0 ≤ p) (hn : 1 ≤ n) : ∃ v p' h', Xu.f c p h n = some (v, p', h') ∧ (0 ≤ v ∧ v < n) ∧ 0 ≤ p' := by
 have ht := topH_eq h
 have hw : wrap64 (topH h) = topH h := w64 (by omega)
 unfold Xu.f
 rw [if_neg (by omega)]
 by_cases c1 : p < (c.length : Int)
 ·rw [if_pos c1, if_pos hp, if_neg (by omega)]
  obtain ⟨i, rfl⟩ : ∃ i : Nat, p = i := ⟨p.toNat, by omega⟩
  have hx := hc _ (rd_mem (xs := c) (p := i) (by omega))
  refine ⟨_, _, _, rfl, ?_, ?_⟩
  ·change 0 ≤ Int.tmod (wrap64 (wrap64 (topH h) + wrap64 (rd c (i : Int)))) n ∧ Int.tmod (wrap64 (wrap64 (topH h) + wrap64 (rd c (i : Int)))) n < n
   rw [hw, w64 (x := rd c (i : Int)) (by omega), w64 (x := topH h + rd c (i : Int)) (by omega), Int.tmod_eq_emod_of_nonneg (by omega)]
   exact ⟨Int.emod_nonneg _ (by omega), Int.emod_lt_of_pos _ (by omega)⟩
  ·rw [w64 (by omega)]
   omega
 ·rw [if_neg c1, if_neg (by omega)]
  refine ⟨_, _, _, rfl, ?_, hp⟩
  change 0 ≤ Int.tmod (wrap64 (topH h)) n ∧ Int.tmod (wrap64 (topH h)) n < n
  rw [hw, Int.tmod_eq_emod_of_nonneg (by omega)]
  exact ⟨Int.emod_nonneg _ (by omega), Int.emod_lt_of_pos _ (by omega)⟩
theorem spec_l01Own_eq (l : List Int) (h : l.length ≤ 1000) : Xbd.f l = some l := by
 unfold Xbd.f
 simp only [Option.bind_some]
 rw [if_pos (by simp; omega)]
 rfl
theorem pick_ex (c : List Int) (p h : Int) (l : List Int) (hc : bytesL c) (hl : c.length ≤ 4096) (hp : 0 ≤ p) (h0 : 0 < l.length) : ∃ v p' h', Xaw.f c p h l = some (v, p', h') ∧ v ∈ l ∧ 0 ≤ p' := by
 obtain ⟨v, p', h', e, hv, hp'⟩ := next_ex c p h (l.length : Int) hc hl hp (by omega)
 obtain ⟨i, rfl⟩ : ∃ i : Nat, v = i := ⟨v.toNat, by omega⟩
 refine ⟨rd l (i : Int), p', h', ?_, rd_mem (by omega), hp'⟩
 unfold Xaw.f
 rw [e]
 simp only [Option.bind_some]
 rw [if_pos (by omega), if_pos (by omega)]
/-- a tree's degrees, by their sums -/
def okP (d : List Int) : Prop := (∀ x ∈ d, 0 ≤ x ∧ x ≤ d.length) ∧ d.sum = (d.length : Int) - 1 ∧ ∀ j, 0 < j → j < d.length → (j : Int) ≤ (d.take j).sum
theorem sum_set (d : List Int) (q : Nat) (x : Int) (h : q < d.length) : (d.set q x).sum = d.sum - d.getD q 0 + x := by
 induction d generalizing q with
 | nil => simp at h
 | cons y ys ih =>
  cases q with
  | zero => simp [List.set]; omega
  | succ q =>
   simp only [List.set, List.sum_cons, List.getD_cons_succ]
   rw [ih q (by simpa using h)]
   omega
theorem okP_step {d : List Int} {q : Nat} (h : okP d) (hq : q < d.length) : okP (d.set q (rd d (q : Int) + 1) ++ [0]) := by
 obtain ⟨h1, h2, h3⟩ := h
 have hlen : (d.set q (rd d (q : Int) + 1) ++ [0]).length = d.length + 1 := by simp
 have hr := rd_nat d q
 refine ⟨?_, ?_, ?_⟩
 ·intro x hx
  rw [hlen]
  rcases List.mem_append.1 hx with hx | hx
  ·rcases List.mem_or_eq_of_mem_set hx with hx | rfl
   ·have := h1 x hx; omega
   ·have := h1 _ (rd_mem hq); omega
  ·simp only [List.mem_cons, List.not_mem_nil, or_false] at hx
   omega
 ·rw [hlen, List.sum_append, sum_set _ _ _ hq, ← hr]
  simp
  omega
 ·intro j hj0 hj
  rw [hlen] at hj
  rw [List.take_append_of_le_length (by simp; omega)]
  by_cases c : j ≤ q
  ·rw [List.take_set_of_le c]
   exact h3 j hj0 (by omega)
  ·rw [List.take_set, sum_set _ _ _ (by rw [List.length_take]; omega)]
   have e : (d.take j).getD q 0 = rd d (q : Int) := by
    rw [hr, List.getD_eq_getElem?_getD, List.getD_eq_getElem?_getD, List.getElem?_take, if_pos (by omega)]
   rw [e]
   by_cases c2 : j < d.length
   ·have := h3 j hj0 c2
    omega
   ·rw [List.take_of_length_le (by omega)]
    omega
theorem drawOf_tail {n deep N x9 v p1 h1 p h : Int} {c d w : List Int} {k j q : Nat} (h9 : x9 > 0) (e1 : Xu.f c p h deep = some (v, p1, h1)) (c0 : ¬ v = 0) (hj : wrap64 (x9 + 1) = (j : Int)) (hw : x9 < (w.length : Int)) (hjw : j ≤ w.length) (hw1 : w.length ≤ 1000) (hd1 : d.length ≤ 1000) (hq : rd w x9 = (q : Int)) (hqd : q < d.length) :
  Xc.l1 (k + 1) n d w deep N x9 c p h = Xc.l0 k n (d.set q (wrap64 (rd d (q : Int) + 1)) ++ [0]) (w.take j ++ [N]) deep (wrap64 (N + 1)) c p1 h1 := by
 have hm : (w.take j).length ≤ 1000 := by rw [List.length_take]; omega
 have hs : (d.set q (wrap64 (rd d (q : Int) + 1))).length ≤ 1000 := by rw [List.length_set]; omega
 generalize hD : d.set q (wrap64 (rd d (q : Int) + 1)) = D at hs ⊢
 simp only [Xc.l1]
 rw [if_pos h9, e1, Option.bind_some]
 simp only [if_neg c0, hq, hj]
 rw [if_pos (by omega), if_pos hw, if_pos (by omega), if_pos (by omega), Option.bind_some, if_pos (by omega), if_pos (by omega), Int.toNat_natCast, Int.toNat_natCast, spec_l01Own_eq _ hm, Option.bind_some, if_pos (by omega), hD, if_pos (by omega)]
theorem drawOf_loop (c : List Int) (n : Nat) (deep : Int) (hc : bytesL c) (hl : c.length ≤ 4096) (hn : n ≤ 900) (hd : 1 ≤ deep) : ∀ (m : Nat) (d w : List Int) (p h : Int), d.length + m = n → okP d → 0 < w.length → w.length ≤ d.length → (∀ x ∈ w, 0 ≤ x ∧ x < d.length) → 0 ≤ p →
  ∃ t p' h', Ev (fun k => Xc.l0 k (n : Int) d w deep (d.length : Int) c p h) (t, p', h') ∧ okP t ∧ t.length = n ∧ 0 ≤ p' := by
 intro m
 induction m with
 | zero =>
  intro d w p h hm hok _ _ _ hp
  refine ⟨d, p, h, Ev.succ ?_, hok, by omega, hp⟩
  simp only [Xc.l0]
  exact Ev.neg (by omega) (Ev.now _)
 | succ m ih =>
  intro d w p h hm hok hw0 hwd hw hp
  -- the step, from a place on the way
  have step : ∀ (i : Nat) (p h : Int), i < w.length → 0 ≤ p → ∃ t p' h', Ev (fun k => Xc.l0 k (n : Int) (d.set (rd w (i : Int)).toNat (wrap64 (rd d (rd w (i : Int)) + 1)) ++ [0]) (w.take (i + 1) ++ [(d.length : Int)]) deep (wrap64 ((d.length : Int) + 1)) c p h) (t, p', h') ∧ okP t ∧ t.length = n ∧ 0 ≤ p' := by
   intro i p h hi hp
   have hm1 := hw _ (rd_mem hi)
   obtain ⟨q, hq⟩ : ∃ q : Nat, rd w (i : Int) = q := ⟨(rd w (i : Int)).toNat, by omega⟩
   rw [hq] at hm1 ⊢
   have hb := hok.1 _ (rd_mem (xs := d) (p := q) (by omega))
   rw [Int.toNat_natCast, w64 (x := rd d (q : Int) + 1) (by omega), w64 (x := (d.length : Int) + 1) (by omega)]
   have hlen : (d.set q (rd d (q : Int) + 1) ++ [0]).length = d.length + 1 := by simp
   have e := ih (d.set q (rd d (q : Int) + 1) ++ [0]) (w.take (i + 1) ++ [(d.length : Int)]) p h (by omega) (okP_step hok (by omega)) (by simp) (by rw [hlen]; simp; omega) (by
    intro x hx
    rw [hlen]
    rcases List.mem_append.1 hx with hx | hx
    ·have := hw x (List.mem_of_mem_take hx); omega
    ·simp only [List.mem_cons, List.not_mem_nil, or_false] at hx
     omega) hp
   rw [hlen] at e
   exact e
  have inner : ∀ (i : Nat) (p h : Int), i < w.length → 0 ≤ p → ∃ t p' h', Ev (fun k => Xc.l1 k (n : Int) d w deep (d.length : Int) (i : Int) c p h) (t, p', h') ∧ okP t ∧ t.length = n ∧ 0 ≤ p' := by
   intro i
   induction i with
   | zero =>
    intro p h hi hp
    obtain ⟨t, p', h', e, ht⟩ := step 0 p h hi hp
    have hm1 := hw _ (rd_mem hi)
    refine ⟨t, p', h', Ev.succ ?_, ht⟩
    simp only [Xc.l1]
    refine Ev.neg (by omega) ?_
    refine Ev.pos (by omega) (Ev.pos (by omega) (Ev.pos (by omega) (Ev.pos (by omega) ?_)))
    simp only [Option.bind_some]
    rw [(w64 (x := ((0 : Nat) : Int) + 1) (by omega)).trans (show ((0 : Nat) : Int) + 1 = 1 by omega)]
    refine Ev.pos (by omega) (Ev.pos (by omega) ?_)
    have eo := spec_l01Own_eq (w.take (0 + 1)) (by rw [List.length_take]; omega)
    rw [show (1 : Int).toNat = 0 + 1 from rfl, eo]
    simp only [Option.bind_some]
    refine Ev.pos (by rw [List.length_take]; omega) (Ev.pos (by rw [List.length_set]; omega) ?_)
    exact e
   | succ i ihi =>
    intro p h hi hp
    have hm1 := hw _ (rd_mem hi)
    obtain ⟨v, p1, h1, e1, hv, hp1⟩ := next_ex c p h deep hc hl hp hd
    by_cases c0 : v = 0
    ·obtain ⟨t, p', h', e, ht⟩ := ihi p1 h1 (by omega) hp1
     refine ⟨t, p', h', Ev.succ ?_, ht⟩
     simp only [Xc.l1]
     refine Ev.pos (by omega) (Ev.bind (Ev.const e1) (Ev.pos c0 ?_))
     have ew : wrap64 (((i + 1 : Nat) : Int) - 1) = (i : Int) := by
      rw [w64 (by omega)]
      omega
     rw [ew]
     exact e
    ·obtain ⟨t, p', h', e, ht⟩ := step (i + 1) p1 h1 hi hp1
     obtain ⟨q, hq⟩ : ∃ q : Nat, rd w ((i + 1 : Nat) : Int) = q := ⟨(rd w ((i + 1 : Nat) : Int)).toNat, by have := hw _ (rd_mem hi); omega⟩
     have hm2 := hw _ (rd_mem hi)
     rw [hq, Int.toNat_natCast] at e
     rw [hq] at hm2
     refine ⟨t, p', h', Ev.succ (Ev.congr (fun k => ?_) e), ht⟩
     have g1 : ((i + 1 : Nat) : Int) > 0 := by clear e hq; omega
     have g2 : ((i + 1 : Nat) : Int) < (w.length : Int) := by clear e hq; omega
     have g3 : i + 1 + 1 ≤ w.length := hi
     have g4 : w.length ≤ 1000 := by clear e hq; omega
     have g5 : d.length ≤ 1000 := by clear e hq; omega
     have g6 : q < d.length := by clear e hq; omega
     have g7 : ((i + 1 : Nat) : Int) + 1 = ((i + 1 + 1 : Nat) : Int) := by clear e hq; omega
     have g8 : -9223372036854775808 ≤ ((i + 1 : Nat) : Int) + 1 ∧ ((i + 1 : Nat) : Int) + 1 ≤ 9223372036854775807 := by clear e hq; omega
     exact drawOf_tail g1 e1 c0 ((w64 g8).trans g7) g2 g3 g4 g5 hq g6
  obtain ⟨t, p', h', e, ht⟩ := inner (w.length - 1) p h (by omega) hp
  refine ⟨t, p', h', Ev.succ ?_, ht⟩
  simp only [Xc.l0]
  refine Ev.pos (by omega) ?_
  rw [w64 (x := (w.length : Int) - 1) (by omega), show (w.length : Int) - 1 = ((w.length - 1 : Nat) : Int) by omega]
  exact e
theorem drawOf_ex (c : List Int) (p h n : Int) (hc : bytesL c) (hl : c.length ≤ 4096) (hp : 0 ≤ p) (hn : 1 ≤ n ∧ n ≤ 900) : ∃ t p' h', Ev (fun k => Xc.f k c p h n) (t, p', h') ∧ okP t ∧ t.length = n.toNat ∧ 0 ≤ p' := by
 obtain ⟨v, p1, h1, e1, hv, hp1⟩ := pick_ex c p h [1, 2, 4, 30] hc hl hp (by simp)
 obtain ⟨m, rfl⟩ : ∃ m : Nat, n = m := ⟨n.toNat, by omega⟩
 simp only [List.mem_cons, List.not_mem_nil, or_false] at hv
 obtain ⟨t, p', h', e, ht⟩ := drawOf_loop c m v hc hl (by omega) (by omega) (m - 1) [0] [0] p1 h1 (by simp; omega) ⟨by simp, by simp, by intro j hj hj2; simp at hj2; omega⟩ (by simp) (by simp) (by simp) hp1
 refine ⟨t, p', h', ?_, ht⟩
 simp only [Xc.f, e1, Option.bind_some]
 exact e
/-- a list of degrees whose sums are a tree's is a tree -/
theorem okT_of (m : Int) : ∀ (xs : List Int) (need : Int), (∀ x ∈ xs, 0 ≤ x ∧ x < m) → need + xs.sum = xs.length → (∀ j, j < xs.length → 1 + (j : Int) ≤ need + (xs.take j).sum) → okT m xs need = true := by
 intro xs
 induction xs with
 | nil => intro need _ h _; simp at h; simp [okT, h]
 | cons x xs ih =>
  intro need hx h hj
  have h0 := hj 0 (by simp)
  have hx0 := hx x (by simp)
  simp only [List.take_zero, List.sum_nil] at h0
  simp only [okT]
  rw [if_neg (by omega), if_neg (by omega), if_neg (by omega)]
  refine ih (need + (x - 1)) (fun y hy => hx y (by simp [hy])) ?_ (fun j hjl => ?_)
  ·simp only [List.sum_cons, List.length_cons] at h
   omega
  ·have := hj (j + 1) (by simp; omega)
   simp only [List.take_succ_cons, List.sum_cons] at this
   omega
theorem sum_ge : ∀ (xs : List Int), (∀ x ∈ xs, 0 ≤ x) → 0 ≤ xs.sum ∧ ∀ x ∈ xs, x ≤ xs.sum := by
 intro xs
 induction xs with
 | nil => intro _; simp
 | cons x xs ih =>
  intro h
  obtain ⟨i1, i2⟩ := ih (fun y hy => h y (by simp [hy]))
  have h0 := h x (by simp)
  rw [List.sum_cons]
  refine ⟨by omega, fun y hy => ?_⟩
  rcases List.mem_cons.1 hy with rfl | hy
  ·omega
  ·have := i2 y hy; omega
theorem okP_isT {d : List Int} (h : okP d) (h1 : 1 ≤ d.length ∧ d.length ≤ 24) : isT d = true := by
 obtain ⟨a1, a2, a3⟩ := h
 obtain ⟨s1, s2⟩ := sum_ge d (fun x hx => (a1 x hx).1)
 simp only [isT, Bool.and_eq_true, decide_eq_true_eq]
 refine ⟨h1.1, h1.2, okT_of 24 d 1 (fun x hx => ?_) (by omega) (fun j hj => ?_)⟩
 ·have e1 := a1 x hx
  have e2 := s2 x hx
  omega
 ·by_cases c : j = 0
  ·subst c; simp
  ·have := a3 j (by omega) hj
   omega
theorem small_ex (c : List Int) (p h : Int) (hc : bytesL c) (hl : c.length ≤ 4096) (hp : 0 ≤ p) : ∃ t p' h', Ev (fun k => Xbk.f k c p h) (t, p', h') ∧ okP t ∧ (1 ≤ t.length ∧ t.length ≤ 6) ∧ 0 ≤ p' := by
 obtain ⟨v, p1, h1, e1, hv, hp1⟩ := next_ex c p h 6 hc hl hp (by omega)
 obtain ⟨t, p', h', e, ho, ht, hp'⟩ := drawOf_ex c p1 h1 (1 + v) hc hl hp1 (by omega)
 refine ⟨t, p', h', ?_, ho, by omega, hp'⟩
 simp only [Xbk.f, e1, Option.bind_some, w64 (x := 1 + v) (by omega)]
 exact Ev.bind e (Ev.now _)
/-- the degrees of trees behind others, if they are at most 24 -/
def jn : List S26 → List Int → Option (List Int)
 | [], d => some d
 | x :: xs, d => if (d ++ x.f0).length > 24 then none else jn xs (d ++ x.f0)
theorem jn_length : ∀ (xs : List S26) (d e : List Int), d.length ≤ 24 → jn xs d = some e → e.length ≤ 24 := by
 intro xs
 induction xs with
 | nil => intro d e h h1; simp only [jn, Option.some.injEq] at h1; subst h1; exact h
 | cons x xs ih =>
  intro d e h h1
  simp only [jn] at h1
  by_cases c : (d ++ x.f0).length > 24
  ·rw [if_pos c] at h1; cases h1
  ·rw [if_neg c] at h1
   exact ih _ _ (by omega) h1
/-- the answer: the joined tree, and its code -/
def joinR (ts : List S26) : List Int × Int :=
 if (ts.all fun t => isT t.f0) = true then (match jn ts [(ts.length : Int)] with | some d => (d, 0) | none => ([], 3)) else ([], 1)
theorem joinR_length (ts : List S26) : (joinR ts).1.length ≤ 24 := by
 unfold joinR
 by_cases c : (ts.all fun t => isT t.f0) = true
 ·rw [if_pos c]
  cases h : jn ts [(ts.length : Int)] with
  | none => simp
  | some d => exact jn_length ts _ d (by simp) h
 ·rw [if_neg c]; simp
theorem spec_l01Join_ev (ts : List S26) (hn : ts.length ≤ 1048576) (hx : ∀ x ∈ ts, x.f0.length ≤ 1048576) : Ev (fun k => Xap.f k ts) (match jn ts [(ts.length : Int)] with | some d => (d, true) | none => ([], false)) := by
 have key : ∀ (xs : List S26) (i : Nat) (d : List Int), ts.drop i = xs → i + xs.length = ts.length → d.length ≤ 24 → Ev (fun k => Xap.l0 k ts d (i : Int)) (match jn xs d with | some d => (d, true) | none => ([], false)) := by
  intro xs
  induction xs with
  | nil =>
   intro i d h hi hd
   simp only [List.length_nil] at hi
   apply Ev.succ
   simp only [Xap.l0, jn]
   exact Ev.neg (by omega) (Ev.now _)
  | cons x xs ih =>
   intro i d h hi hd
   simp only [List.length_cons] at hi
   have hmem : x ∈ ts := List.mem_of_mem_drop (by rw [h]; simp)
   have hxl := hx x hmem
   have hr : rd_T26 ts (i : Int) = x := by
    unfold rd_T26
    rw [Int.toNat_natCast, List.getD_eq_getElem?_getD, (drop_cons h).2.1]
    rfl
   apply Ev.succ
   simp only [Xap.l0, hr, jn, Option.bind_some]
   refine Ev.pos (by omega) (Ev.pos (by omega) (Ev.pos (by omega) ?_))
   by_cases c : (d ++ x.f0).length > 24
   ·rw [if_pos c]
    exact Ev.pos (by omega) (Ev.now _)
   ·rw [if_neg c, w64 (x := (i : Int) + 1) (by omega), show (i : Int) + 1 = ((i + 1 : Nat) : Int) by omega]
    exact Ev.neg (by omega) (ih (i + 1) _ (drop_cons h).2.2 (by omega) (by omega))
 unfold Xap.f
 exact key ts 0 _ rfl (by omega) (by simp)
/-- a tree's beginning: m trees are still to come behind it -/
def forP (d : List Int) (m : Nat) : Prop := 0 < d.length ∧ (∀ x ∈ d, 0 ≤ x ∧ x ≤ d.length + m) ∧ d.sum = (d.length : Int) - 1 + m ∧ ∀ j, 0 < j → j < d.length → (j : Int) ≤ (d.take j).sum
theorem forP_app {d u : List Int} {m : Nat} (h : forP d (m + 1)) (hu : okP u) : forP (d ++ u) m := by
 obtain ⟨h0, h1, h2, h3⟩ := h
 obtain ⟨u1, u2, u3⟩ := hu
 have hul : 0 < u.length := by
  cases u with
  | nil => simp at u2
  | cons x xs => simp
 refine ⟨by simp; omega, ?_, ?_, ?_⟩
 ·intro x hx
  rw [List.length_append]
  rcases List.mem_append.1 hx with hx | hx
  ·have := h1 x hx; omega
  ·have := u1 x hx; omega
 ·rw [List.sum_append, List.length_append, h2, u2]
  omega
 ·intro j hj0 hj
  rw [List.length_append] at hj
  by_cases c : j ≤ d.length
  ·rw [List.take_append_of_le_length c]
   by_cases c2 : j < d.length
   ·exact h3 j hj0 c2
   ·rw [List.take_of_length_le (by omega)]
    omega
  ·rw [List.take_append, List.take_of_length_le (by omega), List.sum_append, h2]
   have := u3 (j - d.length) (by omega) (by omega)
   omega
theorem rep_join {u : List Int} (hu : okP u) (h5 : u.length ≤ 5) : ∀ (m : Nat) (d : List Int), forP d m → d.length + m * 5 ≤ 24 → ∃ e, jn (List.replicate m (⟨u⟩ : S26)) d = some e ∧ okP e ∧ 1 ≤ e.length ∧ e.length ≤ 24 := by
 intro m
 induction m with
 | zero =>
  intro d hd hl
  obtain ⟨h0, h1, h2, h3⟩ := hd
  exact ⟨d, rfl, ⟨fun x hx => by have := h1 x hx; omega, by omega, h3⟩, by omega, by omega⟩
 | succ m ih =>
  intro d hd hl
  simp only [List.replicate_succ, jn]
  rw [if_neg (by rw [List.length_append]; omega)]
  exact ih _ (forP_app hd hu) (by rw [List.length_append]; omega)
theorem last_ex (c : List Int) (p h : Int) (hc : bytesL c) (hl : c.length ≤ 4096) (hp : 0 ≤ p) : ∃ t p' h', Ev (fun k => Xa.last k c p h) (t, p', h') ∧ okP t ∧ (1 ≤ t.length ∧ t.length ≤ 24) ∧ 0 ≤ p' := by
 obtain ⟨v, p1, h1, e1, hv, hp1⟩ := pick_ex c p h [8, 12, 24] hc hl hp (by simp)
 simp only [List.mem_cons, List.not_mem_nil, or_false] at hv
 obtain ⟨q, p2, h2, e2, hq, hp2⟩ := next_ex c p1 h1 v hc hl hp1 (by omega)
 obtain ⟨t, p3, h3, e3, ho, ht, hp3⟩ := drawOf_ex c p2 h2 (1 + q) hc hl hp2 (by omega)
 refine ⟨t, p3, h3, ?_, ho, by omega, hp3⟩
 simp only [Xa.last, e1, e2, Option.bind_some, w64 (x := 1 + q) (by omega)]
 exact e3
theorem draw_ex (c : List Int) (p h : Int) (hc : bytesL c) (hl : c.length ≤ 4096) (hp : 0 ≤ p) : ∃ t p' h', Ev (fun k => Xa.f k c p h) (t, p', h') ∧ okP t ∧ (1 ≤ t.length ∧ t.length ≤ 24) ∧ 0 ≤ p' := by
 obtain ⟨v, p1, h1, e1, hv, hp1⟩ := next_ex c p h 5 hc hl hp (by omega)
 by_cases c0 : v = 0
 ·obtain ⟨t, p', h', e, ho, ht, hp'⟩ := small_ex c p1 h1 hc hl hp1
  refine ⟨t, p', h', ?_, ho, by omega, hp'⟩
  simp only [Xa.f, e1, Option.bind_some]
  exact Ev.pos c0 e
 ·by_cases c1 : v = 1
  ·obtain ⟨b, p2, h2, e2, hb, hp2⟩ := next_ex c p1 h1 5 hc hl hp1 (by omega)
   obtain ⟨u, p3, h3, e3, hu, hul, hp3⟩ := drawOf_ex c p2 h2 (1 + b) hc hl hp2 (by omega)
   obtain ⟨n, p4, h4, e4, hn, hp4⟩ := next_ex c p3 h3 5 hc hl hp3 (by omega)
   obtain ⟨m, rfl⟩ : ∃ m : Nat, n = m := ⟨n.toNat, by omega⟩
   obtain ⟨e, je, ho, he⟩ := rep_join (u := u) hu (by omega) m [(m : Int)] ⟨by simp, by intro x hx; simp only [List.mem_cons, List.not_mem_nil, or_false] at hx; subst hx; simp only [List.length_cons, List.length_nil]; omega, by simp, by intro j hj hj2; simp at hj2; omega⟩ (by simp; omega)
   have ej := spec_l01Join_ev (List.replicate m (⟨u⟩ : S26)) (by simp; omega) (by intro x hx; rw [List.eq_of_mem_replicate hx]; show u.length ≤ 1048576; omega)
   rw [List.length_replicate, je] at ej
   refine ⟨e, p4, h4, ?_, ho, he, hp4⟩
   simp only [Xa.f, e1, e2, Option.bind_some, w64 (x := 1 + b) (by omega)]
   refine Ev.neg c0 (Ev.pos c1 (Ev.bind e3 ?_))
   simp only [e4, Option.bind_some, Xa.list, Int.toNat_natCast]
   exact Ev.pos (by omega) (Ev.pos (by omega) (Ev.bind ej (Ev.pos rfl (Ev.now _))))
  ·obtain ⟨t, p', h', e, ho, ht, hp'⟩ := last_ex c p1 h1 hc hl hp1
   refine ⟨t, p', h', ?_, ho, ht, hp'⟩
   simp only [Xa.f, e1, Option.bind_some]
   exact Ev.neg c0 (Ev.neg c1 e)
theorem near_ex (c : List Int) (p h m : Int) (hc : bytesL c) (hl : c.length ≤ 4096) (hp : 0 ≤ p) (hm : 0 ≤ m ∧ m ≤ 4611686018427387904) : ∃ v p' h', Xbu.f c p h m = some (v, p', h') ∧ (-4611686018427387904 ≤ v ∧ v ≤ 4611686018427387905) ∧ 0 ≤ p' := by
 have hw : wrap64 (m + 1) = m + 1 := w64 (by omega)
 obtain ⟨v, p', h', e, hv, hp'⟩ := next_ex c p h 14 hc hl hp (by omega)
 unfold Xbu.f
 rw [e, hw]
 simp only [Option.bind_some]
 by_cases c0 : v = 0
 ·rw [if_pos c0]
  obtain ⟨v2, p2, h2, e2, hv2, hp2⟩ := pick_ex c p' h' [(-1), m + 1, 1099511627776, (-4611686018427387904)] hc hl hp' (by simp)
  refine ⟨v2, p2, h2, by rw [e2]; rfl, ?_, hp2⟩
  simp only [List.mem_cons, List.not_mem_nil, or_false] at hv2
  omega
 ·rw [if_neg c0]
  obtain ⟨v2, p2, h2, e2, hv2, hp2⟩ := next_ex c p' h' (m + 1) hc hl hp' (by omega)
  exact ⟨v2, p2, h2, by rw [e2]; rfl, by omega, hp2⟩
theorem spec_l01Make_eq (l : List Int) (h : l.length ≤ 1000) : Xby.f l = some l := by
 unfold Xby.f
 rw [spec_l01Own_eq l h]
 rfl
theorem spec_l01Copy_eq (l : List Int) (h : l.length ≤ 1000) : Xbz.f l = some l := by
 unfold Xbz.f
 rw [spec_l01Make_eq l h]
 rfl
theorem bad_ex (c : List Int) (p h : Int) (t : List Int) (hc : bytesL c) (hl : c.length ≤ 4096) (hp : 0 ≤ p) (ht : 1 ≤ t.length ∧ t.length ≤ 900) : ∃ t' p' h', Xe.f c p h t = some (t', p', h') ∧ t'.length ≤ t.length + 1 ∧ 0 ≤ p' := by
 obtain ⟨v, p1, h1, e1, hv, hp1⟩ := next_ex c p h 50 hc hl hp (by omega)
 unfold Xe.f
 rw [spec_l01Copy_eq t (by omega)]
 simp only [Option.bind_some, e1]
 by_cases c0 : v = 0
 ·rw [if_pos c0]
  exact ⟨_, _, _, rfl, by simp, hp1⟩
 ·rw [if_neg c0]
  by_cases c1 : v = 1
  ·rw [if_pos c1, spec_l01N_eq]
   obtain ⟨i, p2, h2, e2, hi, hp2⟩ := next_ex c p1 h1 (t.length : Int) hc hl hp1 (by omega)
   obtain ⟨x, p3, h3, e3, _, hp3⟩ := pick_ex c p2 h2 [(-1), 0, 1, 2, 25] hc hl hp2 (by simp)
   simp only [Option.bind_some, e2, e3]
   rw [if_pos (by omega), if_pos (by omega)]
   exact ⟨_, _, _, rfl, by simp, hp3⟩
  ·rw [if_neg c1]
   by_cases c2 : v = 2
   ·rw [if_pos c2, if_pos (by omega)]
    exact ⟨_, _, _, rfl, by simp, hp1⟩
   ·rw [if_neg c2]
    exact ⟨_, _, _, rfl, by omega, hp1⟩
theorem DrawReplaceAt_ex (c : List Int) (hc : bytesL c) (hl : c.length ≤ 4096) : ∃ t v u, Ev (fun k => Xv.f k c) (t, v, u) ∧ t.length ≤ 25 ∧ u.length ≤ 25 := by
 obtain ⟨h, e0⟩ := from_ev c hl
 obtain ⟨t, p1, h1, e1, _, ht, hp1⟩ := draw_ex c 0 h hc hl (by omega)
 obtain ⟨u, p2, h2, e2, _, hu, hp2⟩ := small_ex c p1 h1 hc hl hp1
 obtain ⟨v, p3, h3, e3, hv, hp3⟩ := near_ex c p2 h2 ((t.length : Int) - 1) hc hl hp2 (by omega)
 obtain ⟨x, p4, h4, e4, hx, hp4⟩ := next_ex c p3 h3 6 hc hl hp3 (by omega)
 have last : ∀ (u : List Int) (p h : Int), 0 ≤ p → 1 ≤ u.length ∧ u.length ≤ 24 → ∃ t' u', Ev (fun k => Xv.j0 k v c p h t u) (t', v, u') ∧ t'.length ≤ 25 ∧ u'.length ≤ 25 := by
  intro u p h hp hu
  obtain ⟨t', p5, h5, e5, ht', hp5⟩ := bad_ex c p h t hc hl hp (by omega)
  obtain ⟨u', p6, h6, e6, hu', hp6⟩ := bad_ex c p5 h5 u hc hl hp5 (by omega)
  refine ⟨t', u', ?_, by omega, by omega⟩
  apply Ev.succ
  simp only [Xv.j0, e5, e6, Option.bind_some]
  exact Ev.now _
 have start : ∀ r, Ev (fun k => if x = 0 then ((Xa.f k c p4 h4).bind fun b => (Xv.j0 k v c b.2.1 b.2.2 t b.1)) else (Xv.j0 k v c p4 h4 t u)) r → Ev (fun k => Xv.f k c) r := by
  intro r e
  unfold Xv.f
  refine Ev.bind e0 (Ev.bind e1 (Ev.bind e2 ?_))
  simp only [spec_l01N_eq, Option.bind_some]
  rw [w64 (x := (t.length : Int) - 1) (by omega)]
  simp only [e3, e4, Option.bind_some]
  exact e
 by_cases c0 : x = 0
 ·obtain ⟨u2, p5, h5, e5, _, hu2, hp5⟩ := draw_ex c p4 h4 hc hl hp4
  obtain ⟨t', u', e6, ht', hu'⟩ := last u2 p5 h5 hp5 (by omega)
  exact ⟨t', v, u', start _ (Ev.pos c0 (Ev.bind e5 e6)), ht', hu'⟩
 ·obtain ⟨t', u', e6, ht', hu'⟩ := last u p4 h4 hp4 (by omega)
  exact ⟨t', v, u', start _ (Ev.neg c0 e6), ht', hu'⟩
theorem impl_isTree_ev (d : List Int) (hm : d.length ≤ 9223372036854775807) : Ev (fun k => Xy.f k d) (isT d) := by
 have key : ∀ (n i : Nat) (need : Int), i + n = d.length → d.length ≤ 24 → 0 ≤ need → need ≤ 1 + 24 * (i : Int) →
   Ev (fun k => Xy.l0 k need d d.length i) (okT 24 (d.drop i) need) := by
  intro n
  induction n with
  | zero =>
   intro i need h h24 h0 h1
   apply Ev.succ
   simp (disch := omega) only [Xy.l0, if_pos, if_neg]
   rw [List.drop_eq_nil_of_le (by omega)]
   exact Ev.some (by simp only [okT]; rw [Bool.eq_iff_iff]; simp)
  | succ n ih =>
   intro i need h h24 h0 h1
   apply Ev.succ
   have hi : i < d.length := by omega
   have hr : rd d i = d[i] := by rw [rd_nat, List.getD_eq_getElem?_getD, List.getElem?_eq_getElem hi]; rfl
   simp (disch := omega) only [Xy.l0, if_pos, if_neg, hr]
   rw [List.drop_eq_getElem_cons hi]
   simp only [okT]
   by_cases c0 : need = 0
   ·rw [if_pos c0]
    refine Ev.pos c0 (Ev.succ ?_)
    simp only [Xy.j2]
    exact Ev.pos (by trivial) (Ev.now _)
   ·rw [if_neg c0]
    refine Ev.neg c0 ?_
    by_cases c1 : d[i] < 0
    ·rw [if_pos c1]
     refine Ev.pos c1 (Ev.succ ?_)
     simp only [Xy.j2]
     exact Ev.pos (by trivial) (Ev.now _)
    ·rw [if_neg c1]
     refine Ev.neg c1 (Ev.succ ?_)
     simp only [Xy.j2, decide_eq_true_eq]
     by_cases c2 : d[i] ≥ 24
     ·rw [if_pos c2]; exact Ev.pos c2 (Ev.now _)
     ·rw [if_neg c2]
      refine Ev.neg c2 ?_
      rw [w64 (x := d[i] - 1) (by omega), w64 (by omega), w64 (by omega)]
      exact ih (i + 1) _ (by omega) h24 (by omega) (by omega)
 unfold Xy.f
 by_cases c1 : (d.length : Int) < 1
 ·refine Ev.pos c1 (Ev.succ ?_)
  simp only [Xy.j0, if_true]
  refine Ev.some ?_
  rw [eq_comm, Bool.eq_false_iff]
  intro h
  have := isT_length h
  omega
 ·refine Ev.neg c1 (Ev.succ ?_)
  simp only [Xy.j0, decide_eq_true_eq]
  by_cases c : (d.length : Int) > 24
  ·refine Ev.pos c (Ev.some ?_)
   rw [eq_comm, Bool.eq_false_iff]
   intro h
   have := isT_length h
   omega
  ·refine Ev.neg c ?_
   have := key d.length 0 1 (by omega) (by omega) (by omega) (by omega)
   rw [List.drop_zero] at this
   have e : isT d = okT 24 d 1 := by
    unfold isT
    rw [decide_eq_true (by omega : 1 ≤ d.length), decide_eq_true (by omega : d.length ≤ 24)]
    simp
   rw [e]
   exact this
theorem impl_IsTree_ev (d : List Int) (hm : d.length ≤ 9223372036854775807) : Ev (fun k => Xav.f k d) (isT d) := by
 unfold Xav.f
 exact Ev.bind (impl_isTree_ev d hm) (Ev.now _)
theorem impl_treeCode_ev (d : List Int) (hd : d.length ≤ 9223372036854775807) (vs : List Int) (hv : vs.length ≤ 1000) : Ev (fun m => Xj.f m d vs) (codeN d vs) := by
 have key : ∀ (xs : List Int) (i : Nat), isT d = true → vs.drop i = xs → i + xs.length = vs.length → Ev (fun m => Xj.l0 m vs vs.length i d) (codeV d xs) := by
  intro xs
  induction xs with
  | nil =>
   intro i ht h hi
   simp only [List.length_nil] at hi
   apply Ev.succ
   simp (disch := omega) only [Xj.l0, if_neg, codeV]
   exact Ev.now _
  | cons x xs ih =>
   intro i ht h hi
   simp only [List.length_cons] at hi
   have hr := rd_drop h
   have hl := isT_length ht
   have hdr := (drop_cons h).2.2
   apply Ev.succ
   simp (disch := omega) only [Xj.l0, if_pos, hr, w64, codeV]
   by_cases c0 : x < 0
   ·rw [if_neg (by omega)]
    exact Ev.pos c0 (Ev.now _)
   ·refine Ev.neg c0 ?_
    by_cases c1 : x ≥ (d.length : Int)
    ·rw [if_neg (by omega)]
     exact Ev.pos c1 (Ev.now _)
    ·rw [if_pos (by omega)]
     exact Ev.neg c1 (ih (i + 1) ht hdr (by omega))
 unfold Xj.f codeN
 refine Ev.bind (impl_IsTree_ev d hd) ?_
 cases h : isT d with
 | true => exact Ev.pos rfl (key vs 0 h rfl (by omega))
 | false => exact Ev.neg (by simp) (Ev.now _)
theorem impl_areTrees_ev (ts : List S26) (hn : ts.length ≤ 9223372036854775807) (hl : ∀ t ∈ ts, t.f0.length ≤ 9223372036854775807) : Ev (fun m => Xz.f m ts) (ts.all fun t => isT t.f0) := by
 have key : ∀ (xs : List S26) (i : Nat), ts.drop i = xs → i + xs.length = ts.length → Ev (fun m => Xz.l0 m ts ts.length i) (xs.all fun t => isT t.f0) := by
  intro xs
  induction xs with
  | nil =>
   intro i h hi
   simp only [List.length_nil] at hi
   apply Ev.succ
   simp (disch := omega) only [Xz.l0, if_neg]
   exact Ev.some (by simp)
  | cons x xs ih =>
   intro i h hi
   simp only [List.length_cons] at hi
   have hd := (drop_cons h).2.2
   have hx : x ∈ ts := List.mem_of_mem_drop (by rw [h]; simp)
   have hr : rd_T26 ts (i : Int) = x := by
    unfold rd_T26
    rw [Int.toNat_natCast, List.getD_eq_getElem?_getD, (drop_cons h).2.1]
    rfl
   apply Ev.succ
   simp (disch := omega) only [Xz.l0, if_pos, hr, w64]
   refine Ev.bind (impl_IsTree_ev x.f0 (hl x hx)) ?_
   cases ht : isT x.f0 with
   | false => exact Ev.neg (by simp) (Ev.some (by simp [ht]))
   | true =>
    refine Ev.pos rfl ?_
    have := ih (i + 1) hd (by omega)
    simpa [ht] using this
 unfold Xz.f
 exact key ts 0 rfl (by omega)
theorem impl_limited_eq (d : List Int) : Xba.f d = some (if d.length > 24 then ([], 3) else (d, 0)) := by
 unfold Xba.f
 by_cases c : d.length > 24
 ·rw [if_pos c, if_pos (by omega)]
 ·rw [if_neg c, if_neg (by omega)]
theorem slices_Grow_int64_int64_eq (n : Int) (h : 0 ≤ n) (h' : n ≤ 1000000) : Xbt.f [] n = some [] := by
 unfold Xbt.f
 rw [if_pos rfl, if_pos h, if_pos h']
theorem slices_Concat_int64_int64_ev (ls : List (List Int)) (hn : ls.length ≤ 1000) (hl : ls.flatten.length ≤ 100000) : Ev (fun m => Xb.f m ls) ls.flatten := by
 have hrd : ∀ {xs : List (List Int)} {x : List Int} {i : Nat}, ls.drop i = x :: xs → rd_L2 ls (i : Int) = x := by
  intro xs x i h
  unfold rd_L2
  rw [Int.toNat_natCast, List.getD_eq_getElem?_getD, (drop_cons h).2.1]
  rfl
 have l1 : ∀ (xs : List (List Int)) (i : Nat) (out : List Int), ls.drop i = xs → i + xs.length = ls.length → out.length + xs.flatten.length ≤ 100000 →
   Ev (fun m => Xb.l1 m out ls ls.length i) (out ++ xs.flatten) := by
  intro xs
  induction xs with
  | nil =>
   intro i out h hi ho
   simp only [List.length_nil] at hi
   refine Ev.step (fun k => by rw [Xb.l1]) ?_
   exact Ev.neg (by omega) (Ev.some (by simp))
  | cons x xs ih =>
   intro i out h hi ho
   have hr := hrd h
   have hd := (drop_cons h).2.2
   simp only [List.length_cons] at hi
   rw [List.flatten_cons, List.length_append] at ho
   refine Ev.step (fun k => by rw [Xb.l1]) ?_
   refine Ev.pos (by omega) (Ev.pos (by omega) (Ev.pos (by omega) ?_))
   rw [hr, w64 (by omega)]
   refine Ev.pos (by omega) ?_
   have := ih (i + 1) (out ++ x) hd (by omega) (by rw [List.length_append]; omega)
   rw [List.flatten_cons, ← List.append_assoc]
   exact this
 have l0 : ∀ (xs : List (List Int)) (i : Nat) (n : Nat), ls.drop i = xs → i + xs.length = ls.length → n + xs.flatten.length ≤ 100000 →
   Ev (fun m => Xb.l0 m ls n ls ls.length i) ls.flatten := by
  intro xs
  induction xs with
  | nil =>
   intro i n h hi ho
   simp only [List.length_nil] at hi
   refine Ev.step (fun k => by rw [Xb.l0]) ?_
   refine Ev.neg (by omega) (Ev.bind (Ev.const (slices_Grow_int64_int64_eq n (by omega) (by omega))) ?_)
   exact l1 ls 0 [] rfl (by omega) (by simpa using hl)
  | cons x xs ih =>
   intro i n h hi ho
   have hr := hrd h
   have hd := (drop_cons h).2.2
   simp only [List.length_cons] at hi
   rw [List.flatten_cons, List.length_append] at ho
   refine Ev.step (fun k => by rw [Xb.l0]) ?_
   refine Ev.pos (by omega) (Ev.pos (by omega) (Ev.pos (by omega) ?_))
   rw [hr, w64 (x := (n : Int) + (x.length : Int)) (by omega), w64 (by omega)]
   refine Ev.neg (by omega) ?_
   have := ih (i + 1) (n + x.length) hd (by omega) (by omega)
   rw [show ((n + x.length : Nat) : Int) = (n : Int) + (x.length : Int) by omega] at this
   exact this
 unfold Xb.f
 exact l0 ls 0 0 rfl (by omega) (by omega)
theorem impl_endOf_at (d : List Int) (hd : d.length ≤ 24) : ∀ (n : Nat) (f : F) (a : Nat), sz f = n → At d a f → Ev (fun m => Xah.l0 m d a (len f)) ((a + sz f : Nat) : Int) := by
 intro n
 induction n with
 | zero =>
  intro f a hf h
  cases f with
  | nil =>
   apply Ev.succ
   simp (disch := omega) only [Xah.l0, if_neg, len]
   exact Ev.some (by simp [sz])
  | cons k r => simp only [sz] at hf; omega
 | succ n ih =>
  intro f a hf h
  cases f with
  | nil => simp [sz] at hf
  | cons k r =>
   obtain ⟨h1, h2, _, _⟩ := h.step
   have h3 := h.app
   have hb := h.1
   have hl := len_le_sz k
   have hl2 := len_le_sz r
   simp only [sz] at hf hb
   have e := ih (app k r) (a + 1) (by rw [sz_app]; omega) h3
   rw [len_app, sz_app] at e
   apply Ev.succ
   simp (disch := omega) only [Xah.l0, if_pos, len, h2, w64]
   rw [show ((1 + len r : Nat) : Int) + ((len k : Int) - 1) = ((len k + len r : Nat) : Int) by omega, show (a : Int) + 1 = ((a + 1 : Nat) : Int) by omega]
   simp only [sz]
   rw [show a + (1 + sz k + sz r) = a + 1 + (sz k + sz r) by omega]
   exact e
theorem impl_endOf_ev (d : List Int) (hd : d.length ≤ 24) {a : Nat} {k r : F} (h : At d a (cons k r)) : Ev (fun m => Xah.f m d a) ((a + 1 + sz k : Nat) : Int) := by
 have e := impl_endOf_at d hd _ (cons k nil) a rfl h.one
 simp only [len, sz] at e
 rw [show a + (1 + sz k + 0) = a + 1 + sz k by omega] at e
 unfold Xah.f
 exact e
theorem spec_l01End_at (d : List Int) (hd : d.length ≤ 24) : ∀ (n : Nat) (f : F) (a : Nat), sz f = n → At d a f → Ev (fun m => Xx.l0 m a (len f) d) ((a + sz f : Nat) : Int) := by
 intro n
 induction n with
 | zero =>
  intro f a hf h
  cases f with
  | nil =>
   apply Ev.succ
   simp (disch := omega) only [Xx.l0, if_neg, len]
   exact Ev.some (by simp [sz])
  | cons k r => simp only [sz] at hf; omega
 | succ n ih =>
  intro f a hf h
  cases f with
  | nil => simp [sz] at hf
  | cons k r =>
   obtain ⟨h1, h2, _, _⟩ := h.step
   have h3 := h.app
   have hb := h.1
   have hl := len_le_sz k
   have hl2 := len_le_sz r
   simp only [sz] at hf hb
   have e := ih (app k r) (a + 1) (by rw [sz_app]; omega) h3
   rw [len_app, sz_app] at e
   apply Ev.succ
   simp (disch := omega) only [Xx.l0, if_pos, len, h2, w64]
   rw [show ((1 + len r : Nat) : Int) - 1 + (len k : Int) = ((len k + len r : Nat) : Int) by omega, show (a : Int) + 1 = ((a + 1 : Nat) : Int) by omega]
   simp only [sz]
   rw [show a + (1 + sz k + sz r) = a + 1 + (sz k + sz r) by omega]
   exact e
theorem spec_l01End_ev (d : List Int) (hd : d.length ≤ 24) {a : Nat} {k r : F} (h : At d a (cons k r)) : Ev (fun m => Xx.f m d a) ((a + 1 + sz k : Nat) : Int) := by
 have e := spec_l01End_at d hd _ (cons k nil) a rfl h.one
 simp only [len, sz] at e
 rw [show a + (1 + sz k + 0) = a + 1 + sz k by omega] at e
 unfold Xx.f
 exact e
theorem codeN_no {d vs : List Int} (h : isT d = false) : codeN d vs = 1 := by
 unfold codeN
 rw [if_neg (by simp [h])]
/-- the tree k with u in the place of the subtree of a node -/
def repB (k : F) (a : Nat) (u : List Int) : List Int := (tr k).take a ++ u ++ (tr k).drop (a + 1 + sz (st k a))
/-- the answer about a node and a tree that is put there -/
def repR (d : List Int) (v : Int) (u : List Int) (R : List Int × Int) : Prop :=
 (isT u = false ∧ R = ([], 1)) ∨ (isT u = true ∧ codeN d [v] ≠ 0 ∧ R = ([], codeN d [v])) ∨
  ∃ k, ∃ a : Nat, d = tr k ∧ sz k ≤ 23 ∧ v = a ∧ a ≤ sz k ∧ codeN d [v] = 0 ∧ isT u = true ∧ isT d = true ∧ R = if (repB k a u).length > 24 then ([], 3) else (repB k a u, 0)
theorem repR_ex (d : List Int) (v : Int) (u : List Int) : ∃ R, repR d v u R := by
 cases h : isT u with
 | false => exact ⟨_, .inl ⟨h, rfl⟩⟩
 | true =>
  rcases codeN_one (d := d) (v := v) with h2 | ⟨k, a, h1, h2, h3, h4, h5⟩
  ·exact ⟨_, .inr (.inl ⟨h, h2, rfl⟩)⟩
  ·have hd : isT d = true := by
    cases hd : isT d with
    | true => rfl
    | false => rw [codeN_no hd] at h5; cases h5
   exact ⟨_, .inr (.inr ⟨k, a, h1, h2, h3, h4, h5, h, hd, rfl⟩)⟩
theorem repB_length (k : F) (a : Nat) (u : List Int) (ha : a ≤ sz k) (hu : u.length ≤ 24) : (repB k a u).length ≤ sz k + 25 := by
 have hl := tr_length k
 unfold repB
 rw [List.length_append, List.length_append, List.length_take, List.length_drop]
 omega
theorem spec_l01Replace_ev (k : F) (hk : sz k ≤ 23) (a : Nat) (ha : a ≤ sz k) (u : List Int) (hu : u.length ≤ 24) :
  Ev (fun m => Xaa.f m (tr k) (a : Int) u) (if (repB k a u).length > 24 then ([], false) else (repB k a u, true)) := by
 have hl := tr_length k
 have hs := sub_small k a ha
 have e2 := spec_l01End_ev (tr k) (by omega) (st_At k a ha)
 have hb := repB_length k a u ha hu
 unfold repB at hb
 unfold Xaa.f
 refine Ev.pos (by omega) (Ev.pos (by omega) ?_)
 rw [Int.toNat_natCast]
 refine Ev.bind (Ev.const (spec_l01Own_eq _ (by rw [List.length_take]; omega))) (Ev.pos (by rw [List.length_take]; omega) ?_)
 simp only [Option.bind_some]
 refine Ev.bind e2 (Ev.pos (by omega) (Ev.pos (by omega) ?_))
 rw [Int.toNat_natCast]
 refine Ev.pos (by rw [← List.length_append]; omega) ?_
 unfold repB
 by_cases c : ((tr k).take a ++ u ++ (tr k).drop (a + 1 + sz (st k a))).length > 24
 ·rw [if_pos c]
  exact Ev.pos (by omega) (Ev.now _)
 ·rw [if_neg c]
  exact Ev.neg (by omega) (Ev.now _)
theorem impl_ReplaceAt_ev (d : List Int) (hd : d.length ≤ 9223372036854775807) (v : Int) (u : List Int) (hu : u.length ≤ 9223372036854775807) {R} (h : repR d v u R) : Ev (fun m => Xf.f m d v u) R := by
 have e := impl_areTrees_ev ([⟨d⟩, ⟨u⟩] : List S26) (by simp) (by
  intro t ht
  simp only [List.mem_cons, List.not_mem_nil, or_false] at ht
  rcases ht with rfl | rfl
  ·exact hd
  ·exact hu)
 have e2 := impl_treeCode_ev d hd [v] (by simp)
 simp only [List.all_cons, List.all_nil, Bool.and_true] at e
 unfold Xf.f
 refine Ev.bind e ?_
 rcases h with ⟨h, rfl⟩ | ⟨h, h2, rfl⟩ | ⟨k, a, rfl, hk, rfl, ha, h, h2, h3, rfl⟩
 ·exact Ev.neg (by simp [h]) (Ev.now _)
 ·cases ht : isT d with
  | false =>
   rw [codeN_no ht]
   exact Ev.neg (by simp) (Ev.now _)
  | true => exact Ev.pos (by simp [h]) (Ev.bind e2 (Ev.neg h2 (Ev.now _)))
 ·have hl := tr_length k
  have hs := sub_small k a ha
  have hul := (isT_length h2).2
  have e3 := impl_endOf_ev (tr k) (by omega) (st_At k a ha)
  have hb := repB_length k a u ha hul
  unfold repB at hb
  refine Ev.pos (by simp [h2, h3]) (Ev.bind e2 (Ev.pos h (Ev.pos (by omega) (Ev.pos (by omega) (Ev.bind e3 (Ev.pos (by omega) (Ev.pos (by omega) ?_)))))))
  rw [Int.toNat_natCast, Int.toNat_natCast]
  have e4 := slices_Concat_int64_int64_ev [(tr k).take a, u, (tr k).drop (a + 1 + sz (st k a))] (by simp) (by simp only [List.flatten_cons, List.flatten_nil, List.append_nil]; rw [← List.append_assoc]; omega)
  simp only [List.flatten_cons, List.flatten_nil, List.append_nil] at e4
  rw [← List.append_assoc] at e4
  refine Ev.bind e4 ?_
  rw [impl_limited_eq]
  simp only [Option.bind_some]
  exact Ev.some rfl
theorem spec_l01In_eq (a b c : Int) : Xbw.f a b c = some (decide (b ≤ a ∧ a ≤ c)) := by
 unfold Xbw.f
 by_cases h : a ≥ b
 ·rw [if_pos h]
  congr 1
  rw [Bool.eq_iff_iff, decide_eq_true_eq, decide_eq_true_eq]
  omega
 ·rw [if_neg h]
  congr 1
  rw [eq_comm, decide_eq_false_iff_not]
  omega
theorem spec_l01Is_ev (d : List Int) (hm : d.length ≤ 9223372036854775807) : Ev (fun k => Xw.f k d) (isT d) := by
 have key : ∀ (n i : Nat) (need : Int), i + n = d.length → d.length ≤ 24 → 0 ≤ need → need ≤ 1 + 24 * (i : Int) →
   Ev (fun k => Xw.l0 k need i d) (okT 25 (d.drop i) need) := by
  intro n
  induction n with
  | zero =>
   intro i need h h24 h0 h1
   apply Ev.succ
   simp (disch := omega) only [Xw.l0, if_pos, if_neg]
   rw [List.drop_eq_nil_of_le (by omega)]
   exact Ev.some (by simp only [okT]; rw [Bool.eq_iff_iff]; simp)
  | succ n ih =>
   intro i need h h24 h0 h1
   apply Ev.succ
   have hi : i < d.length := by omega
   have hr : rd d i = d[i] := by rw [rd_nat, List.getD_eq_getElem?_getD, List.getElem?_eq_getElem hi]; rfl
   simp (disch := omega) only [Xw.l0, if_pos, if_neg, spec_l01In_eq, Option.bind_some, decide_eq_true_eq, hr]
   rw [List.drop_eq_getElem_cons hi]
   simp only [okT]
   by_cases c0 : need = 0
   ·rw [if_pos c0]; exact Ev.pos c0 (Ev.now _)
   ·rw [if_neg c0]
    refine Ev.neg c0 ?_
    by_cases c1 : d[i] < 0
    ·rw [if_pos c1]; exact Ev.neg (by omega) (Ev.now _)
    ·rw [if_neg c1]
     by_cases c2 : d[i] ≥ 25
     ·rw [if_pos c2]; exact Ev.neg (by omega) (Ev.now _)
     ·rw [if_neg c2]
      refine Ev.pos (by omega) ?_
      rw [w64 (x := need - 1) (by omega), w64 (by omega), w64 (by omega), show need - 1 + d[i] = need + (d[i] - 1) by omega]
      exact ih (i + 1) _ (by omega) h24 (by omega) (by omega)
 unfold Xw.f
 simp only [spec_l01N_eq, Option.bind_some, spec_l01In_eq, decide_eq_true_eq]
 by_cases c : 1 ≤ (d.length : Int) ∧ (d.length : Int) ≤ 24
 ·refine Ev.pos c ?_
  have := key d.length 0 1 (by omega) (by omega) (by omega) (by omega)
  rw [List.drop_zero, okT_25 d (by omega)] at this
  have e : isT d = okT 24 d 1 := by
   unfold isT
   rw [decide_eq_true (by omega : 1 ≤ d.length), decide_eq_true (by omega : d.length ≤ 24)]
   simp
  rw [e]
  exact this
 ·refine Ev.neg c ?_
  refine Ev.some ?_
  rw [eq_comm, Bool.eq_false_iff]
  intro h
  have := isT_length h
  omega
theorem spec_l01Nodes_ev (d : List Int) (hd : d.length ≤ 9223372036854775807) (vs : List Int) (hv : vs.length ≤ 1000) : Ev (fun m => Xi.f m d vs) (codeN d vs) := by
 have key : ∀ (xs : List Int) (i : Nat), isT d = true → vs.drop i = xs → i + xs.length = vs.length → Ev (fun m => Xi.l0 m vs i d) (codeV d xs) := by
  intro xs
  induction xs with
  | nil =>
   intro i ht h hi
   simp only [List.length_nil] at hi
   apply Ev.succ
   simp (disch := omega) only [Xi.l0, if_neg, codeV]
   exact Ev.now _
  | cons x xs ih =>
   intro i ht h hi
   simp only [List.length_cons] at hi
   have hr := rd_drop h
   have hl := isT_length ht
   have hdr := (drop_cons h).2.2
   apply Ev.succ
   simp (disch := omega) only [Xi.l0, if_pos, spec_l01N_eq, Option.bind_some, spec_l01In_eq, hr, w64, decide_eq_true_eq, codeV]
   by_cases c : 0 ≤ x ∧ x ≤ (d.length : Int) - 1
   ·rw [if_pos (by omega)]
    exact Ev.pos c (ih (i + 1) ht hdr (by omega))
   ·rw [if_neg (by omega)]
    exact Ev.neg c (Ev.now _)
 unfold Xi.f codeN
 refine Ev.bind (spec_l01Is_ev d hd) ?_
 cases h : isT d with
 | true => exact Ev.pos rfl (key vs 0 h rfl (by omega))
 | false => exact Ev.neg (by simp) (Ev.now _)
theorem spec_ReplaceAt_ev (d : List Int) (hd : d.length ≤ 9223372036854775807) (v : Int) (u : List Int) (hu : u.length ≤ 9223372036854775807) {R} (h : repR d v u R) : Ev (fun m => Xal.f m d v u) R := by
 have e := spec_l01Nodes_ev d hd [v] (by simp)
 have e' := spec_l01Is_ev u hu
 unfold Xal.f
 refine Ev.bind e (Ev.bind e' ?_)
 rcases h with ⟨h, rfl⟩ | ⟨h, h2, rfl⟩ | ⟨k, a, rfl, hk, rfl, ha, h, h2, _, rfl⟩
 ·refine Ev.neg (by simp [h]) ?_
  refine Ev.step (fun k => by rw [Xal.j0]) ?_
  exact Ev.neg (by omega) (Ev.now _)
 ·refine Ev.pos h ?_
  refine Ev.step (fun k => by rw [Xal.j0]) ?_
  exact Ev.neg h2 (Ev.now _)
 ·refine Ev.pos h2 ?_
  rw [h]
  refine Ev.step (fun k => by rw [Xal.j0]) ?_
  refine Ev.pos rfl (Ev.bind (spec_l01Replace_ev k hk a ha u (isT_length h2).2) ?_)
  by_cases c : (repB k a u).length > 24
  ·simp only [if_pos c]
   exact Ev.neg (by simp) (Ev.now _)
  ·simp only [if_neg c]
   exact Ev.pos (by first | rfl | trivial) (Ev.now _)
theorem slices_Clone_int64_int64_eq (l : List Int) (h : 0 < l.length) (h' : l.length ≤ 1000000) : Xbp.f l = some l := by
 unfold Xbp.f
 rw [if_pos h, if_pos h']
theorem impl_subtree_ev (d : List Int) (hd : d.length ≤ 24) {a : Nat} {k r : F} (h : At d a (cons k r)) : Ev (fun m => Xbg.f m d a) (tr k) := by
 have hb := h.1
 have hs := sub_slice h
 have hl := tr_length k
 simp only [sz] at hb
 unfold Xbg.f
 refine Ev.bind (impl_endOf_ev d hd h) (Ev.pos (by omega) (Ev.pos (by omega) (Ev.pos (by omega) ?_)))
 rw [Int.toNat_natCast, Int.toNat_natCast, hs]
 exact Ev.bind (Ev.const (slices_Clone_int64_int64_eq (tr k) (by omega) (by omega))) (Ev.now _)
theorem impl_SubtreeAt_ev (d : List Int) (hd : d.length ≤ 9223372036854775807) (v : Int) {R} (h : nodeR subV [] d v R) : Ev (fun m => Xaz.f m d v) R := by
 have e := impl_treeCode_ev d hd [v] (by simp)
 rcases h with ⟨h, rfl⟩ | ⟨k, a, rfl, hk, rfl, ha, h, rfl⟩
 ·unfold Xaz.f
  exact Ev.bind e (Ev.neg h (Ev.now _))
 ·have hl := tr_length k
  have hat := st_At k a ha
  unfold Xaz.f
  refine Ev.bind e (Ev.pos h ?_)
  exact Ev.bind (impl_subtree_ev (tr k) (by omega) hat) (Ev.now _)
theorem impl_kidsOf_at (d : List Int) (hd : d.length ≤ 24) (n : Nat) (hn : n ≤ 24) : ∀ (f : F) (c : Nat) (out : List Int) (i : Nat), At d c f → i + len f = n → out.length ≤ 1000 + i →
  Ev (fun m => Xam.l0 m d out c n i) (out ++ offs c f) := by
 intro f
 induction f with
 | nil =>
  intro c out i h hi ho
  simp only [len] at hi
  apply Ev.succ
  simp (disch := omega) only [Xam.l0, if_neg]
  exact Ev.some (by simp [offs])
 | cons k r _ ihr =>
  intro c out i h hi ho
  simp only [len] at hi
  have e := impl_endOf_ev d hd h
  have hh := h.step
  apply Ev.succ
  simp (disch := omega) only [Xam.l0, if_pos, w64]
  refine Ev.bind e ?_
  have := ihr (c + 1 + sz k) (out ++ [(c : Int)]) (i + 1) hh.2.2.2 (by omega) (by simp only [List.length_append, List.length_cons, List.length_nil]; omega)
  simp only [List.append_assoc, List.singleton_append] at this
  exact this
theorem impl_kidsOf_ev (d : List Int) (hd : d.length ≤ 24) {a : Nat} {k r : F} (h : At d a (cons k r)) : Ev (fun m => Xam.f m d a) (offs (a + 1) k) := by
 have hh := h.step
 have hb := h.1
 have hl := len_le_sz k
 simp only [sz] at hb
 have e := impl_kidsOf_at d hd (len k) (by omega) k (a + 1) [] 0 hh.2.2.1 (by omega) (by simp)
 unfold Xam.f
 rw [hh.2.1, w64 (x := (a : Int) + 1) (by omega)]
 exact Ev.pos (by omega) (Ev.pos (by omega) e)

theorem impl_parentsOf_l1 (d cs : List Int) (m : Nat) (n : Nat) (hm : m ≤ 24) (hcs : cs.length ≤ 1000) {R : List Int} : ∀ (xs : List Int) (i : Nat) (P : List Int), cs.drop i = xs → i + xs.length = cs.length → (∀ c ∈ xs, 0 ≤ c ∧ c < (P.length : Int)) →
  Ev (fun k => Xm.l0 k d (setAll P xs (m : Int)) (n : Int) ((m + 1 : Nat) : Int)) R → Ev (fun k => Xm.l1 k d P m n m cs cs.length i) R := by
 intro xs
 induction xs with
 | nil =>
  intro i P h hi _ e
  simp only [List.length_nil] at hi
  refine Ev.step (fun k => by rw [Xm.l1]) ?_
  refine Ev.neg (by omega) ?_
  rw [w64 (by omega)]
  exact e
 | cons x xs ih =>
  intro i P h hi hb e
  have hr := rd_drop h
  have hd := (drop_cons h).2.2
  have hx := hb x (by simp)
  simp only [List.length_cons] at hi
  refine Ev.step (fun k => by rw [Xm.l1]) ?_
  rw [hr]
  refine Ev.pos (by omega) (Ev.pos (by omega) (Ev.pos (by omega) (Ev.pos (by omega) (Ev.pos (by omega) ?_))))
  rw [w64 (by omega)]
  exact ih (i + 1) (P.set x.toNat m) hd (by omega) (fun c hc => by rw [List.length_set]; exact hb c (by simp [hc])) e
theorem impl_parentsOf_l0 (k : F) (hk : sz k ≤ 23) : ∀ (n m : Nat), m + n = sz k + 1 → Ev (fun j => Xm.l0 j (tr k) (parS k (-1) m) ((tr k).length : Int) m) (parV k) := by
 have hl := tr_length k
 intro n
 induction n with
 | zero =>
  intro m h
  refine Ev.step (fun k => by rw [Xm.l0]) ?_
  refine Ev.neg (by omega) (Ev.some ?_)
  rw [show m = sz k + 1 by omega]
  exact parS_end k (-1)
 | succ n ih =>
  intro m h
  have hs := sub_small k m (by omega)
  have hkl := len_le_sz (st k m)
  have ol := offs_length (st k m) (m + 1)
  have e := impl_kidsOf_ev (tr k) (by omega) (st_At k m (by omega))
  refine Ev.step (fun k => by rw [Xm.l0]) ?_
  refine Ev.pos (by omega) (Ev.bind e ?_)
  refine impl_parentsOf_l1 (tr k) _ m _ (by omega) (by omega) (offs (m + 1) (st k m)) 0 (parS k (-1) m) rfl (by omega) (fun c hc => ?_) ?_
  ·have := offs_bound (st k m) (m + 1) c hc
   rw [parS_length]
   omega
  ·rw [parS_step k (-1) (by omega)]
   exact ih (m + 1) (by omega)
theorem impl_parentsOf_ev (k : F) (hk : sz k ≤ 23) : Ev (fun j => Xm.f j (tr k)) (parV k) := by
 have hl := tr_length k
 have e := impl_parentsOf_l0 k hk (sz k + 1) 0 (by omega)
 rw [parS_impl] at e
 have er : Xbb.f ([(-1)] : List Int) ((tr k).length : Int) = some (List.replicate (sz k + 1) (-1)) := by
  unfold Xbb.f
  rw [if_pos (show ([(-1)] : List Int).length = 1 from rfl), if_pos (by omega), if_pos (by omega), Int.toNat_natCast, hl]
  rfl
 unfold Xm.f
 rw [er]
 exact e
theorem slices_Index_int64_int64_ev (xs : List Int) (v : Int) (hl : xs.length ≤ 1000000) (hv : v ∈ xs) : Ev (fun m => Xr.f m xs v) ((xs.idxOf v : Nat) : Int) := by
 have key : ∀ (ys : List Int) (i : Nat), xs.drop i = ys → i + ys.length = xs.length → v ∈ ys → Ev (fun k => Xr.l0 k xs v xs.length i) ((i + ys.idxOf v : Nat) : Int) := by
  intro ys
  induction ys with
  | nil => intro i _ _ h; simp at h
  | cons y ys ih =>
   intro i h hi hm
   have hr := rd_drop h
   have hd := (drop_cons h).2.2
   simp only [List.length_cons] at hi
   refine Ev.step (fun k => by rw [Xr.l0]) ?_
   rw [hr]
   refine Ev.pos (by omega) (Ev.pos (by omega) (Ev.pos (by omega) ?_))
   by_cases c : v = y
   ·subst c
    refine Ev.pos rfl (Ev.some ?_)
    simp
   ·refine Ev.neg c ?_
    have hm' : v ∈ ys := by
     rcases List.mem_cons.1 hm with e | e
     ·exact absurd e c
     ·exact e
    rw [w64 (by omega), idx_ne (l := ys) (fun e => c e.symm), show i + (ys.idxOf v).succ = (i + 1) + ys.idxOf v by omega]
    exact ih (i + 1) hd (by omega) hm'
 unfold Xr.f
 have := key xs 0 rfl (by omega) hv
 rw [Nat.zero_add] at this
 exact this
theorem slices_Reverse_int64_int64_ev (xs : List Int) (hl : xs.length ≤ 1000000) : Ev (fun m => Xd.f m xs) xs.reverse := by
 have key : ∀ (n : Nat) (a m b : List Int), m.length ≤ n → a.length + m.length + b.length ≤ 1000000 →
   Ev (fun k => Xd.l0 k (a ++ m ++ b) a.length ((a.length : Int) + m.length - 1)) (a ++ m.reverse ++ b) := by
  intro n
  induction n with
  | zero =>
   intro a m b h _
   obtain rfl : m = [] := List.eq_nil_of_length_eq_zero (by omega)
   apply Ev.succ
   simp (disch := simp) only [Xd.l0, if_neg]
   exact Ev.neg (by simp <;> omega) (Ev.some (by simp))
  | succ n ih =>
   intro a m b h hb
   cases m with
   | nil =>
    apply Ev.succ
    simp only [Xd.l0]
    exact Ev.neg (by simp <;> omega) (Ev.some (by simp))
   | cons x m =>
    rcases List.eq_nil_or_concat m with rfl | ⟨m', y, rfl⟩
    ·apply Ev.succ
     simp only [Xd.l0]
     exact Ev.neg (by simp <;> omega) (Ev.some (by simp))
    ·rw [List.concat_eq_append] at h hb ⊢
     simp only [List.length_cons, List.length_append, List.length_nil] at h hb
     have hlen : (a ++ x :: (m' ++ [y]) ++ b).length = a.length + (m'.length + 2) + b.length := by simp; omega
     have r1 : rd (a ++ x :: (m' ++ [y]) ++ b) (a.length : Int) = x := by
      rw [show a ++ x :: (m' ++ [y]) ++ b = a ++ x :: ((m' ++ [y]) ++ b) by simp]
      exact rd_at
     have r2 : rd (a ++ x :: (m' ++ [y]) ++ b) ((a.length + 1 + m'.length : Nat) : Int) = y := by
      rw [show a ++ x :: (m' ++ [y]) ++ b = (a ++ x :: m') ++ y :: b by simp]
      exact rd_mid (by simp; omega)
     have e : (a.length : Int) + ((x :: (m' ++ [y])).length : Int) - 1 = ((a.length + 1 + m'.length : Nat) : Int) := by
      simp only [List.length_cons, List.length_append, List.length_nil]; omega
     have s1 : ((a ++ x :: (m' ++ [y]) ++ b).set a.length y).set (a.length + 1 + m'.length) x = (a ++ [y]) ++ m' ++ (x :: b) := by
      rw [show a ++ x :: (m' ++ [y]) ++ b = a ++ x :: ((m' ++ [y]) ++ b) by simp, set_at, show a ++ y :: ((m' ++ [y]) ++ b) = (a ++ y :: m') ++ y :: b by simp,
       show a.length + 1 + m'.length = (a ++ y :: m').length by simp; omega, set_at]
      simp
     rw [e]
     apply Ev.succ
     simp only [Xd.l0]
     refine Ev.pos (by omega) (Ev.pos (by omega) (Ev.pos (by rw [hlen]; omega) (Ev.pos (by omega) (Ev.pos (by rw [hlen]; omega) ?_))))
     rw [r1, r2, Int.toNat_natCast, Int.toNat_natCast, s1, w64 (by omega), w64 (by omega)]
     have := ih (a ++ [y]) m' (x :: b) (by omega) (by simp; omega)
     simp only [List.length_append, List.length_cons, List.length_nil] at this
     rw [show (a.length : Int) + 1 = ((a.length + (0 + 1) : Nat) : Int) by omega, show ((a.length + 1 + m'.length : Nat) : Int) - 1 = ((a.length + (0 + 1) : Nat) : Int) + (m'.length : Int) - 1 by omega]
     rw [show a ++ (x :: (m' ++ [y])).reverse ++ b = a ++ [y] ++ m'.reverse ++ x :: b by simp]
     exact this
 unfold Xd.f
 have := key xs.length [] xs [] (Nat.le_refl _) (by simp; omega)
 rw [w64 (by omega)]
 simpa using this
theorem impl_AddressOf_l0 (k : F) (hk : sz k ≤ 23) : ∀ (n v : Nat) (out : List Int), v ≤ n → v ≤ sz k → out.length + v ≤ 1000 → Ev (fun m => Xan.l0 m v out (parV k) (tr k)) (addrV k v ++ out.reverse, 0) := by
 have hl := tr_length k
 have hpl := parV_length k
 intro n
 induction n with
 | zero =>
  intro v out h _ ho
  obtain rfl : v = 0 := by omega
  refine Ev.step (fun k => by rw [Xan.l0]) ?_
  refine Ev.neg (by omega) (Ev.bind (slices_Reverse_int64_int64_ev out (by omega)) (Ev.some ?_))
  rw [addrV_zero, List.nil_append]
 | succ n ih =>
  intro v out h h2 ho
  refine Ev.step (fun k => by rw [Xan.l0]) ?_
  by_cases c : v = 0
  ·subst c
   refine Ev.neg (by omega) (Ev.bind (slices_Reverse_int64_int64_ev out (by omega)) (Ev.some ?_))
   rw [addrV_zero, List.nil_append]
  ·have hp := par_pos k (j := v) (by omega) h2
   obtain ⟨p, hpp⟩ : ∃ p : Nat, par k v = p := ⟨(par k v).toNat, by omega⟩
   have hm := (par_mem k (i := p) (by omega) h2).1 hpp
   have hs := sub_small k p (by omega)
   have hkl := len_le_sz (st k p)
   have ol := offs_length (st k p) (p + 1)
   rw [parV_rd k h2, hpp]
   refine Ev.pos (by omega) (Ev.pos (by omega) (Ev.pos (by omega) (Ev.bind (impl_kidsOf_ev (tr k) (by omega) (st_At k p (by omega))) (Ev.bind (slices_Index_int64_int64_ev _ v (by omega) hm) (Ev.pos (by omega) ?_)))))
   have := ih p (out ++ [place k v]) (by omega) (by omega) (by simp; omega)
   rw [addrV_step k (v := v) (by omega) h2, hpp, Int.toNat_natCast]
   unfold place at this ⊢
   rw [hpp, Int.toNat_natCast] at this ⊢
   simpa using this
theorem impl_AddressOf_ev (d : List Int) (hd : d.length ≤ 9223372036854775807) (v : Int) {R} (h : nodeR addrV [] d v R) : Ev (fun m => Xan.f m d v) R := by
 have e := impl_treeCode_ev d hd [v] (by simp)
 rcases h with ⟨h, rfl⟩ | ⟨k, a, rfl, hk, rfl, ha, h, rfl⟩
 ·unfold Xan.f
  exact Ev.bind e (Ev.neg h (Ev.now _))
 ·have hl := tr_length k
  unfold Xan.f
  refine Ev.bind e (Ev.pos h ?_)
  refine Ev.bind (impl_parentsOf_ev k hk) ?_
  have := impl_AddressOf_l0 k hk a a [] (by omega) ha (by simp; omega)
  simpa using this
theorem impl_NodeAt_l1 (d ad : List Int) (hd : d.length ≤ 24) (hal : ad.length ≤ 24) : ∀ (xs : List Int) (i v : Nat) (s : F), ad.drop i = xs → i + xs.length = ad.length → (∀ x ∈ xs, 0 ≤ x) → At d v (cons s nil) →
  Ev (fun m => Xac.l1 m v ad ad.length i d) (walk v s xs) := by
 intro xs
 induction xs with
 | nil =>
  intro i v s h hi _ _
  simp only [List.length_nil] at hi
  refine Ev.step (fun k => by rw [Xac.l1]) ?_
  refine Ev.neg (by omega) (Ev.now _)
 | cons x xs ih =>
  intro i v s h hi hx hat
  have hr := rd_drop h
  have hdr := (drop_cons h).2.2
  have hx0 := hx x (by simp)
  have hh := hat.step
  have hol := offs_length s (v + 1)
  simp only [List.length_cons] at hi
  obtain ⟨n, rfl⟩ : ∃ n : Nat, x = n := ⟨x.toNat, by omega⟩
  simp only [walk, Int.toNat_natCast]
  refine Ev.step (fun k => by rw [Xac.l1]) ?_
  refine Ev.pos (by omega) (Ev.pos (by omega) (Ev.pos (by omega) (Ev.pos (by omega) (Ev.pos (by omega) ?_))))
  rw [hr, hh.2.1]
  cases hp : (tops (v + 1) s)[n]? with
  | none =>
   have := List.getElem?_eq_none_iff.1 hp
   rw [tops_length] at this
   exact Ev.pos (by omega) (Ev.now _)
  | some p =>
   obtain ⟨e1, e2, e3⟩ := tops_get hh.2.2.1 hp
   refine Ev.neg (by omega) (Ev.bind (impl_kidsOf_ev d hd hat) (Ev.pos (by omega) (Ev.pos (by omega) ?_)))
   rw [e1, w64 (by omega)]
   exact ih (i + 1) p.1 p.2 hdr (by omega) (fun y hy => hx y (by simp [hy])) e2
theorem impl_NodeAt_ev (d ad : List Int) (hd : d.length ≤ 9223372036854775807) (ha : ad.length ≤ 1048576) {R} (h : nodeAtV d ad R) : Ev (fun m => Xac.f m d ad) R := by
 have e := impl_IsTree_ev d hd
 have neg : ∀ (xs : List Int) (i : Nat), ad.drop i = xs → i + xs.length = ad.length → (∃ x ∈ xs, x < 0) → Ev (fun m => Xac.l0 m ad ad ad.length i d) (0, 2) := by
  intro xs
  induction xs with
  | nil => intro i _ _ h; obtain ⟨x, hx, _⟩ := h; simp at hx
  | cons x xs ih =>
   intro i h hi hx
   have hr := rd_drop h
   have hdr := (drop_cons h).2.2
   simp only [List.length_cons] at hi
   refine Ev.step (fun k => by rw [Xac.l0]) ?_
   refine Ev.pos (by omega) (Ev.pos (by omega) (Ev.pos (by omega) ?_))
   rw [hr]
   by_cases c : x < 0
   ·exact Ev.pos c (Ev.now _)
   ·refine Ev.neg c ?_
    rw [w64 (by omega)]
    refine ih (i + 1) hdr (by omega) ?_
    obtain ⟨y, hy, hy0⟩ := hx
    rcases List.mem_cons.1 hy with rfl | hy
    ·exact absurd hy0 c
    ·exact ⟨y, hy, hy0⟩
 have pos : ∀ {r}, (∀ x ∈ ad, 0 ≤ x) → Ev (fun k => Xac.l1 k 0 ad ad.length 0 d) r → ∀ (xs : List Int) (i : Nat), ad.drop i = xs → i + xs.length = ad.length → Ev (fun m => Xac.l0 m ad ad ad.length i d) r := by
  intro r hp next xs
  induction xs with
  | nil =>
   intro i h hi
   simp only [List.length_nil] at hi
   refine Ev.step (fun k => by rw [Xac.l0]) ?_
   refine Ev.neg (by omega) next
  | cons x xs ih =>
   intro i h hi
   have hr := rd_drop h
   have hdr := (drop_cons h).2.2
   have hx : x ∈ ad := List.mem_of_mem_drop (by rw [h]; simp)
   have := hp x hx
   simp only [List.length_cons] at hi
   refine Ev.step (fun k => by rw [Xac.l0]) ?_
   refine Ev.pos (by omega) (Ev.pos (by omega) (Ev.pos (by omega) ?_))
   rw [hr, w64 (by omega)]
   exact Ev.neg (by omega) (ih (i + 1) hdr (by omega))
 unfold Xac.f
 rcases h with ⟨h, rfl⟩ | ⟨h, hc, rfl⟩ | ⟨k, rfl, hk, h, hal, hnn, rfl⟩
 ·rw [h] at e
  exact Ev.bind e (Ev.neg (by simp) (Ev.now _))
 ·rw [h] at e
  refine Ev.bind e (Ev.pos rfl ?_)
  by_cases c : 24 < ad.length
  ·exact Ev.pos (by omega) (Ev.now _)
  ·refine Ev.neg (by omega) (neg ad 0 rfl (by omega) ?_)
   rcases hc with hc | hc
   ·omega
   ·exact hc
 ·rw [h] at e
  have hl := tr_length k
  refine Ev.bind e (Ev.pos rfl (Ev.neg (by omega) (pos hnn ?_ ad 0 rfl (by omega))))
  exact impl_NodeAt_l1 (tr k) ad (by omega) hal ad 0 0 k rfl (by omega) hnn (tr_At k)
theorem spoil_ex (c : List Int) (p h : Int) (hc : bytesL c) (hl : c.length ≤ 4096) (hp : 0 ≤ p) : ∃ t p' h', Ev (fun k => Xbr.f k c p h) (t, p', h') ∧ t.length ≤ 25 ∧ 0 ≤ p' := by
 obtain ⟨t, p1, h1, e1, _, ht, hp1⟩ := draw_ex c p h hc hl hp
 obtain ⟨t', p', h', e2, ht', hp'⟩ := bad_ex c p1 h1 t hc hl hp1 (by omega)
 refine ⟨t', p', h', ?_, by omega, hp'⟩
 unfold Xbr.f
 refine Ev.bind e1 ?_
 simp only [e2, Option.bind_some]
 exact Ev.now _
theorem DrawMirrorOf_ex (c : List Int) (hc : bytesL c) (hl : c.length ≤ 4096) : ∃ t, Ev (fun k => Xbl.f k c) t ∧ t.length ≤ 25 := by
 obtain ⟨h, e0⟩ := from_ev c hl
 obtain ⟨t, p1, h1, e1, ht, _⟩ := spoil_ex c 0 h hc hl (by omega)
 refine ⟨t, ?_, ht⟩
 unfold Xbl.f
 exact Ev.bind e0 (Ev.bind e1 (Ev.now _))
theorem impl_mirrored_at (d : List Int) (hd : d.length ≤ 24) : ∀ (f : F) (a n : Nat) (pre suf out r : List Int), At d a f → pre.length + len f + suf.length = n → n ≤ 100 → out.length + sz f ≤ 1000 →
  Ev (fun m => Xab.l0 m d (out ++ degs (mir f)) (pre ++ (offs a f).reverse ++ suf) n (pre.length + len f : Nat)) r → Ev (fun m => Xab.l0 m d out (pre ++ (offs a f).reverse ++ suf) n pre.length) r := by
 intro f
 induction f with
 | nil =>
  intro a n pre suf out r h hn hp ho next
  simpa [mir, degs, len] using next
 | cons k r ihk ihr =>
  intro a n pre suf out res h hn hp ho next
  have hh := h.step
  have hb := h.1
  have hlk := offs_length k (a + 1)
  have hlr := offs_length r (a + 1 + sz k)
  have hlk2 := len_le_sz k
  simp only [len] at hn
  simp only [sz] at hb ho
  have e1 : Ev (fun m => Xab.f m d a) (tr (mir k)) := by
   refine Ev.step (fun k => by rw [Xab.f]) ?_
   refine Ev.pos (by omega) (Ev.pos (by omega) (Ev.bind (impl_kidsOf_ev d hd h) (Ev.bind (slices_Reverse_int64_int64_ev _ (by rw [hlk]; omega)) ?_)))
   rw [hh.2.1, hlk]
   have := ihk (a + 1) (len k) [] [] [(len k : Int)] (tr (mir k)) hh.2.2.1 (by simp) (by omega) (by simp; omega) (by
    refine Ev.step (fun k => by rw [Xab.l0]) ?_
    refine Ev.neg (by simp) (Ev.some ?_)
    simp [tr, degs, mir_len])
   simpa using this
  have hw : offs a (cons k r) = (a : Int) :: offs (a + 1 + sz k) r := rfl
  rw [hw] at next ⊢
  rw [show pre ++ ((a : Int) :: offs (a + 1 + sz k) r).reverse ++ suf = pre ++ (offs (a + 1 + sz k) r).reverse ++ ((a : Int) :: suf) by simp] at next ⊢
  refine ihr (a + 1 + sz k) n pre ((a : Int) :: suf) out res hh.2.2.2 (by simp; omega) hp (by omega) ?_
  have hrd : rd (pre ++ (offs (a + 1 + sz k) r).reverse ++ (a : Int) :: suf) ((pre.length + len r : Nat) : Int) = (a : Int) := rd_mid (by simp [hlr])
  have hml := tr_length (mir k)
  have hdm := degs_length (mir r)
  rw [mir_sz] at hml hdm
  refine Ev.step (fun k => by rw [Xab.l0]) ?_
  refine Ev.pos (by omega) (Ev.pos (by omega) (Ev.pos (by simp [hlr]; omega) ?_))
  rw [hrd]
  refine Ev.bind e1 (Ev.pos (by simp [hml, hdm]; omega) ?_)
  rw [w64 (by omega)]
  simp only [mir, degs_app] at next
  rw [show ((pre.length + len r : Nat) : Int) + 1 = ((pre.length + len (cons k r) : Nat) : Int) by simp only [len]; omega, List.append_assoc]
  exact next
theorem impl_mirrored_ev (k : F) (hk : sz k ≤ 23) : Ev (fun m => Xab.f m (tr k) 0) (tr (mir k)) := by
 have hl := tr_length k
 have hlk := offs_length k 1
 have hlk2 := len_le_sz k
 have hh := (tr_At k).step
 have h0 : rd (tr k) 0 = (len k : Int) := hh.2.1
 refine Ev.step (fun k => by rw [Xab.f]) ?_
 refine Ev.pos (by omega) (Ev.pos (by omega) (Ev.bind (impl_kidsOf_ev (tr k) (by omega) (tr_At k)) (Ev.bind (slices_Reverse_int64_int64_ev _ (by rw [offs_length]; omega)) ?_)))
 rw [h0, offs_length]
 have := impl_mirrored_at (tr k) (by omega) k 1 (len k) [] [] [(len k : Int)] (tr (mir k)) (tr_At1 k) (by simp) (by omega) (by simp; omega) (by
  refine Ev.step (fun k => by rw [Xab.l0]) ?_
  refine Ev.neg (by simp) (Ev.some ?_)
  simp [tr, degs, mir_len])
 simpa using this
theorem impl_MirrorOf_ev (d : List Int) (hd : d.length ≤ 9223372036854775807) {R} (h : treeR mirV [] d R) : Ev (fun m => Xbe.f m d) R := by
 rcases h with ⟨h, rfl⟩ | ⟨k, rfl, hk, h, rfl⟩
 ·have e := impl_IsTree_ev d hd
  rw [h] at e
  unfold Xbe.f
  exact Ev.bind e (Ev.neg (by simp) (Ev.now _))
 ·have e := impl_IsTree_ev (tr k) hd
  rw [h] at e
  have hl := tr_length k
  unfold Xbe.f
  refine Ev.bind e (Ev.pos rfl ?_)
  exact Ev.bind (impl_mirrored_ev k hk) (Ev.now _)
theorem spec_l01Children_at (d : List Int) (hd : d.length ≤ 24) : ∀ (f : F) (c : Nat) (out : List Int), At d c f → len f ≤ 24 → out.length + len f ≤ 1000 →
  Ev (fun m => Xn.l0 m out c (len f) d) (out ++ offs c f) := by
 intro f
 induction f with
 | nil =>
  intro c out h hi ho
  apply Ev.succ
  simp (disch := omega) only [Xn.l0, if_neg, len]
  exact Ev.some (by simp [offs])
 | cons k r _ ihr =>
  intro c out h hi ho
  have e := spec_l01End_ev d hd h
  have hh := h.step
  simp only [len] at hi ho
  apply Ev.succ
  simp (disch := omega) only [Xn.l0, if_pos, w64, len]
  refine Ev.bind e ?_
  have := ihr (c + 1 + sz k) (out ++ [(c : Int)]) hh.2.2.2 (by omega) (by simp only [List.length_append, List.length_cons, List.length_nil]; omega)
  simp only [List.append_assoc, List.singleton_append] at this
  rw [show ((1 + len r : Nat) : Int) - 1 = (len r : Int) by omega]
  exact this
theorem spec_l01Children_ev (d : List Int) (hd : d.length ≤ 24) {a : Nat} {k r : F} (h : At d a (cons k r)) : Ev (fun m => Xn.f m d a) (offs (a + 1) k) := by
 have hh := h.step
 have hb := h.1
 have hl := len_le_sz k
 simp only [sz] at hb
 have e := spec_l01Children_at d hd k (a + 1) [] hh.2.2.1 (by omega) (by simp; omega)
 unfold Xn.f
 rw [hh.2.1, w64 (x := (a : Int) + 1) (by omega)]
 exact Ev.pos (by omega) (Ev.pos (by omega) e)
theorem spec_l01Subtree_ev (d : List Int) (hd : d.length ≤ 24) {a : Nat} {k r : F} (h : At d a (cons k r)) : Ev (fun m => Xar.f m d a) (tr k) := by
 have hb := h.1
 have hs := sub_slice h
 have hl := tr_length k
 simp only [sz] at hb
 unfold Xar.f
 refine Ev.bind (spec_l01End_ev d hd h) (Ev.pos (by omega) (Ev.pos (by omega) (Ev.pos (by omega) ?_)))
 rw [Int.toNat_natCast, Int.toNat_natCast, hs]
 exact Ev.bind (Ev.const (spec_l01Make_eq (tr k) (by omega))) (Ev.now _)
theorem spec_l01Mirror_at : ∀ (f : F) (d : List Int) (a : Nat) (pre suf out r : List Int), d.length ≤ 24 → At d a f → pre.length + len f + suf.length ≤ 100 → out.length + sz f ≤ 1000 →
  Ev (fun m => Xq.l0 m (out ++ degs (mir f)) (pre ++ offs a f ++ suf) ((pre.length : Int) - 1) d) r → Ev (fun m => Xq.l0 m out (pre ++ offs a f ++ suf) (((pre.length + len f : Nat) : Int) - 1) d) r := by
 intro f
 induction f with
 | nil =>
  intro d a pre suf out r hd h hp ho next
  simpa [mir, degs, len] using next
 | cons k r ihk ihr =>
  intro d a pre suf out res hd h hp ho next
  have hh := h.step
  have hb := h.1
  have hlr := offs_length r (a + 1 + sz k)
  have hlk2 := len_le_sz k
  have htr := tr_length k
  simp only [len] at hp
  simp only [sz] at hb ho
  have e1 : Ev (fun m => Xq.f m (tr k)) (tr (mir k)) := by
   have h0 : rd (tr k) 0 = (len k : Int) := (tr_At k).step.2.1
   refine Ev.step (fun k => by rw [Xq.f]) ?_
   refine Ev.pos (by omega) (Ev.bind (spec_l01Children_ev (tr k) (by omega) (tr_At k)) ?_)
   rw [h0, offs_length, w64 (by omega)]
   have := ihk (tr k) 1 [] [] [(len k : Int)] (tr (mir k)) (by omega) (tr_At1 k) (by simp; omega) (by simp; omega) (by
    refine Ev.step (fun k => by rw [Xq.l0]) ?_
    refine Ev.neg (by simp) (Ev.some ?_)
    simp [tr, degs, mir_len])
   simpa using this
  have hw : offs a (cons k r) = (a : Int) :: offs (a + 1 + sz k) r := rfl
  rw [hw] at next ⊢
  rw [show pre ++ ((a : Int) :: offs (a + 1 + sz k) r) ++ suf = (pre ++ [(a : Int)]) ++ offs (a + 1 + sz k) r ++ suf by simp] at next ⊢
  rw [show pre.length + len (cons k r) = (pre ++ [(a : Int)]).length + len r by simp [len]; omega]
  refine ihr d (a + 1 + sz k) (pre ++ [(a : Int)]) suf out res hd hh.2.2.2 (by simp; omega) (by omega) ?_
  rw [show (((pre ++ [(a : Int)]).length : Nat) : Int) - 1 = (pre.length : Int) by simp]
  have hrd : rd ((pre ++ [(a : Int)]) ++ offs (a + 1 + sz k) r ++ suf) (pre.length : Int) = (a : Int) := by
   rw [show (pre ++ [(a : Int)]) ++ offs (a + 1 + sz k) r ++ suf = pre ++ (a : Int) :: (offs (a + 1 + sz k) r ++ suf) by simp]
   exact rd_at
  have hml := tr_length (mir k)
  have hdm := degs_length (mir r)
  rw [mir_sz] at hml hdm
  refine Ev.step (fun k => by rw [Xq.l0]) ?_
  refine Ev.pos (by omega) (Ev.pos (by omega) (Ev.pos (by simp; omega) ?_))
  rw [hrd]
  refine Ev.bind (spec_l01Subtree_ev d hd h) (Ev.bind e1 (Ev.pos (by simp [hml, hdm]; omega) ?_))
  rw [w64 (by omega)]
  simp only [mir, degs_app] at next
  rw [List.append_assoc]
  exact next
theorem spec_l01Mirror_ev (k : F) (hk : sz k ≤ 23) : Ev (fun m => Xq.f m (tr k)) (tr (mir k)) := by
 have htr := tr_length k
 have hlk2 := len_le_sz k
 have h0 : rd (tr k) 0 = (len k : Int) := (tr_At k).step.2.1
 refine Ev.step (fun k => by rw [Xq.f]) ?_
 refine Ev.pos (by omega) (Ev.bind (spec_l01Children_ev (tr k) (by omega) (tr_At k)) ?_)
 rw [h0, offs_length, w64 (by omega)]
 have := spec_l01Mirror_at k (tr k) 1 [] [] [(len k : Int)] (tr (mir k)) (by omega) (tr_At1 k) (by simp; omega) (by simp; omega) (by
  refine Ev.step (fun k => by rw [Xq.l0]) ?_
  refine Ev.neg (by simp) (Ev.some ?_)
  simp [tr, degs, mir_len])
 simpa using this
theorem spec_MirrorOf_ev (d : List Int) (hd : d.length ≤ 9223372036854775807) {R} (h : treeR mirV [] d R) : Ev (fun m => Xbn.f m d) R := by
 rcases h with ⟨h, rfl⟩ | ⟨k, rfl, hk, h, rfl⟩
 ·have e := spec_l01Is_ev d hd
  rw [h] at e
  unfold Xbn.f
  exact Ev.bind e (Ev.neg (by simp) (Ev.now _))
 ·have e := spec_l01Is_ev (tr k) hd
  rw [h] at e
  have hl := tr_length k
  unfold Xbn.f
  refine Ev.bind e (Ev.pos rfl ?_)
  exact Ev.bind (spec_l01Mirror_ev k hk) (Ev.now _)
theorem cmp_isNaN_int64_eq (a : Int) : Xax.f a = some false := by
 unfold Xax.f
 simp
theorem cmp_Compare_int64_eq (a b : Int) : Xca.f a b = some (if a = b then 0 else if a < b then -1 else 1) := by
 unfold Xca.f
 simp only [cmp_isNaN_int64_eq, Option.bind_some]
 rw [if_neg (by simp), if_neg (by simp)]
 by_cases c : a < b
 ·rw [if_pos c, if_neg (by omega), if_pos c]
 ·rw [if_neg c]
  by_cases c' : a > b
  ·rw [if_pos c', if_neg (by omega), if_neg c]
  ·rw [if_neg c', if_pos (by omega)]
theorem slices_Compare_int64_int64_ev (d e : List Int) (hl : d.length = e.length) (hd : d.length ≤ 9223372036854775807) : Ev (fun m => Xg.f m d e) (lexV d e) := by
 have key : ∀ (xs ys : List Int) (i : Nat), d.drop i = xs → e.drop i = ys → i + xs.length = d.length → i + ys.length = e.length → Ev (fun m => Xg.l0 m d e d d.length i) (lexV xs ys) := by
  intro xs
  induction xs with
  | nil =>
   intro ys i h1 h2 hi hj
   simp only [List.length_nil] at hi
   apply Ev.succ
   simp (disch := omega) only [Xg.l0, if_neg]
   exact Ev.some (by cases ys <;> rfl)
  | cons x xs ih =>
   intro ys i h1 h2 hi hj
   cases ys with
   | nil => simp only [List.length_cons, List.length_nil] at hi hj; omega
   | cons y ys =>
    simp only [List.length_cons] at hi hj
    have r1 := rd_drop h1
    have r2 := rd_drop h2
    have d1 := (drop_cons h1).2.2
    have d2 := (drop_cons h2).2.2
    apply Ev.succ
    simp (disch := omega) only [Xg.l0, if_pos, if_neg, r1, r2, w64, lexV, cmp_Compare_int64_eq, Option.bind_some]
    by_cases c : x = y
    ·rw [if_pos c, if_pos c]
     exact Ev.pos rfl (ih ys (i + 1) d1 d2 (by omega) (by omega))
    ·rw [if_neg c, if_neg c]
     by_cases c' : x < y
     ·rw [if_pos c']
      exact Ev.neg (by decide) (Ev.now _)
     ·rw [if_neg c']
      exact Ev.neg (by decide) (Ev.now _)
 unfold Xg.f
 exact key d e 0 rfl rfl (by omega) (by omega)
theorem impl_compareTrees_ev (d e : List Int) (hd : d.length ≤ 1000) (he : e.length ≤ 1000) : ∃ x, Ev (fun m => Xbc.f m d e) x ∧ mx (mn x 1) (-1) = cmpV d e := by
 unfold Xbc.f cmpV
 by_cases c : (d.length : Int) - e.length = 0
 ·refine ⟨lexV d e, ?_, ?_⟩
  ·rw [w64 (by omega)]
   exact Ev.pos c (Ev.bind (slices_Compare_int64_int64_ev d e (by omega) (by omega)) (Ev.now _))
  ·rw [if_neg (by omega), if_neg (by omega)]
   unfold mx mn
   rcases lexV_cases d e with h | h | h <;> rw [h] <;> decide
 ·refine ⟨(d.length : Int) - e.length, ?_, ?_⟩
  ·rw [w64 (by omega)]
   exact Ev.neg c (Ev.now _)
  ·unfold mx mn
   repeat' split
   all_goals omega
theorem impl_CompareTrees_ev (d e : List Int) (hd : d.length ≤ 9223372036854775807) (he : e.length ≤ 9223372036854775807) : Ev (fun m => Xag.f m d e) (cmpR d e) := by
 have h0 := impl_areTrees_ev [(⟨d⟩ : S26), (⟨e⟩ : S26)] (by simp) (by simp; exact ⟨hd, he⟩)
 unfold Xag.f cmpR
 refine Ev.bind h0 ?_
 by_cases h : isT d = true ∧ isT e = true
 ·rw [if_pos h]
  have l1 := isT_length h.1
  have l2 := isT_length h.2
  obtain ⟨x, hx, hm⟩ := impl_compareTrees_ev d e (by omega) (by omega)
  refine Ev.pos (by simp [h.1, h.2]) (Ev.bind hx (Ev.some (by rw [hm])))
 ·rw [if_neg h]
  refine Ev.neg (by simpa using h) (Ev.now _)
theorem With_ex (c : List Int) (hc : bytesL c) (hl : c.length ≤ 4096) : ∃ t v w, Ev (fun k => Xas.f k c) (t, v, w) ∧ t.length ≤ 25 ∧ (-4611686018427387904 ≤ v ∧ v ≤ 4611686018427387905) ∧ (-4611686018427387904 ≤ w ∧ w ≤ 4611686018427387905) := by
 obtain ⟨h, e0⟩ := from_ev c hl
 obtain ⟨t, p1, h1, e1, _, ht, hp1⟩ := draw_ex c 0 h hc hl (by omega)
 obtain ⟨v, p2, h2, e2, hv, hp2⟩ := near_ex c p1 h1 ((t.length : Int) - 1) hc hl hp1 (by omega)
 obtain ⟨w, p3, h3, e3, hw, hp3⟩ := near_ex c p2 h2 ((t.length : Int) - 1) hc hl hp2 (by omega)
 obtain ⟨t', p4, h4, e4, ht', _⟩ := bad_ex c p3 h3 t hc hl hp3 (by omega)
 refine ⟨t', v, w, ?_, by omega, hv, hw⟩
 unfold Xas.f
 refine Ev.bind e0 (Ev.bind e1 ?_)
 simp only [spec_l01N_eq, Option.bind_some]
 rw [w64 (x := (t.length : Int) - 1) (by omega)]
 simp only [e2, e3, e4, Option.bind_some]
 exact Ev.now _
theorem DrawMeetOf_ex (c : List Int) (hc : bytesL c) (hl : c.length ≤ 4096) : ∃ t v w, Ev (fun k => Xbq.f k c) (t, v, w) ∧ t.length ≤ 25 := by
 obtain ⟨t, v, w, e, ht, _⟩ := With_ex c hc hl
 refine ⟨t, v, w, ?_, ht⟩
 unfold Xbq.f
 exact Ev.bind e (Ev.now _)
theorem impl_isBelow_ev (k : F) (hk : sz k ≤ 23) (a b : Nat) (hb : b ≤ sz k) : Ev (fun m => Xbf.f m (tr k) a b) (belowV k a b) := by
 have hl := tr_length k
 unfold Xbf.f
 by_cases c : (a : Int) ≥ b
 ·refine Ev.pos c (Ev.bind (impl_endOf_ev (tr k) (by omega) (st_At k b hb)) (Ev.some ?_))
  unfold belowV
  rw [Bool.eq_iff_iff, decide_eq_true_eq, decide_eq_true_eq]
  omega
 ·refine Ev.neg c (Ev.some ?_)
  unfold belowV
  rw [eq_comm, decide_eq_false_iff_not]
  omega
theorem impl_meetOf_l0 (k : F) (hk : sz k ≤ 23) (b : Nat) (hb : b ≤ sz k) : ∀ (n a : Nat), a < n → a ≤ sz k → Ev (fun j => Xat.l0 j (tr k) a b (parV k)) (meetN k b n a) := by
 have hpl := parV_length k
 intro n
 induction n with
 | zero => intro a h _; omega
 | succ n ih =>
  intro a h ha
  simp only [meetN]
  refine Ev.step (fun k => by rw [Xat.l0]) ?_
  rw [parV_rd k ha]
  refine Ev.bind (impl_isBelow_ev k hk b a ha) ?_
  by_cases c : belowV k b a = true
  ·rw [if_pos c]
   exact Ev.pos c (Ev.now _)
  ·have h1 : 1 ≤ a := by
    rcases Nat.eq_zero_or_pos a with z | z
    ·exact absurd (z ▸ below_zero k b hb) c
    ·exact z
   have hp := par_pos k h1 ha
   rw [if_neg c]
   refine Ev.neg c (Ev.pos (by omega) (Ev.pos (by omega) ?_))
   have := ih (par k a).toNat (by omega) (by omega)
   rw [Int.toNat_of_nonneg hp.1] at this
   exact this
theorem impl_MeetOf_ev (d : List Int) (hd : d.length ≤ 9223372036854775807) (v w : Int) {R} (h : node2R meetV 0 d v w R) : Ev (fun m => Xbs.f m d v w) R := by
 have e := impl_treeCode_ev d hd [v, w] (by simp)
 rcases h with ⟨h, rfl⟩ | ⟨k, a, b, rfl, hk, rfl, ha, rfl, hb, h, rfl⟩
 ·unfold Xbs.f
  exact Ev.bind e (Ev.neg h (Ev.now _))
 ·have hl := tr_length k
  unfold Xbs.f
  refine Ev.bind e (Ev.pos h ?_)
  have e2 : Ev (fun m => Xat.f m (tr k) a b) (meetV k a b) := by
   unfold Xat.f
   exact Ev.bind (impl_parentsOf_ev k hk) (impl_meetOf_l0 k hk b hb (sz k + 1) a (by omega) ha)
  exact Ev.bind e2 (Ev.now _)
theorem spec_l01Parents_l1 (d cs : List Int) (m : Nat) (hm : m ≤ 24) (hcs : cs.length ≤ 1000) {R : List Int} : ∀ (xs : List Int) (i : Nat) (P : List Int), cs.drop i = xs → i + xs.length = cs.length → (∀ c ∈ xs, 0 ≤ c ∧ c < (P.length : Int)) →
  Ev (fun k => Xo.l0 k (setAll P xs (m : Int)) ((m + 1 : Nat) : Int) d) R → Ev (fun k => Xo.l1 k P m cs i d) R := by
 intro xs
 induction xs with
 | nil =>
  intro i P h hi _ e
  simp only [List.length_nil] at hi
  refine Ev.step (fun k => by rw [Xo.l1]) ?_
  refine Ev.neg (by omega) ?_
  rw [w64 (by omega)]
  exact e
 | cons x xs ih =>
  intro i P h hi hb e
  have hr := rd_drop h
  have hd := (drop_cons h).2.2
  have hx := hb x (by simp)
  simp only [List.length_cons] at hi
  refine Ev.step (fun k => by rw [Xo.l1]) ?_
  rw [hr]
  refine Ev.pos (by omega) (Ev.pos (by omega) (Ev.pos (by omega) (Ev.pos (by omega) ?_)))
  rw [w64 (by omega)]
  exact ih (i + 1) (P.set x.toNat m) hd (by omega) (fun c hc => by rw [List.length_set]; exact hb c (by simp [hc])) e
theorem spec_l01Parents_l0 (k : F) (hk : sz k ≤ 23) : ∀ (n m : Nat), m + n = sz k + 1 → Ev (fun j => Xo.l0 j (parS k 0 m) m (tr k)) (parV k) := by
 have hl := tr_length k
 intro n
 induction n with
 | zero =>
  intro m h
  refine Ev.step (fun k => by rw [Xo.l0]) ?_
  simp only [spec_l01N_eq, Option.bind_some]
  refine Ev.neg (by omega) (Ev.some ?_)
  rw [show m = sz k + 1 by omega]
  exact parS_end k 0
 | succ n ih =>
  intro m h
  have hs := sub_small k m (by omega)
  have hkl := len_le_sz (st k m)
  have ol := offs_length (st k m) (m + 1)
  have e := spec_l01Children_ev (tr k) (by omega) (st_At k m (by omega))
  refine Ev.step (fun k => by rw [Xo.l0]) ?_
  simp only [spec_l01N_eq, Option.bind_some]
  refine Ev.pos (by omega) (Ev.bind e ?_)
  refine spec_l01Parents_l1 (tr k) _ m (by omega) (by omega) (offs (m + 1) (st k m)) 0 (parS k 0 m) rfl (by omega) (fun c hc => ?_) ?_
  ·have := offs_bound (st k m) (m + 1) c hc
   rw [parS_length]
   omega
  ·rw [parS_step k 0 (by omega)]
   exact ih (m + 1) (by omega)
theorem spec_l01Parents_ev (k : F) (hk : sz k ≤ 23) : Ev (fun j => Xo.f j (tr k)) (parV k) := by
 have hl := tr_length k
 have e := spec_l01Parents_l0 k hk (sz k + 1) 0 (by omega)
 rw [parS_spec] at e
 unfold Xo.f
 simp only [spec_l01N_eq, Option.bind_some]
 refine Ev.pos (by omega) (Ev.pos (by omega) (Ev.pos (by rw [List.length_replicate]; omega) ?_))
 rw [Int.toNat_natCast, hl]
 exact e
theorem spec_l01Meet_l0 (k : F) (hk : sz k ≤ 23) (b : Nat) (hb : b ≤ sz k) : ∀ (n a : Nat), a < n → a ≤ sz k → Ev (fun j => Xaq.l0 j b (parV k) a (tr k)) (meetN k b n a) := by
 have hl := tr_length k
 have hpl := parV_length k
 intro n
 induction n with
 | zero => intro a h _; omega
 | succ n ih =>
  intro a h ha
  simp only [meetN]
  refine Ev.step (fun k => by rw [Xaq.l0]) ?_
  rw [parV_rd k ha]
  have up : belowV k b a ≠ true → 1 ≤ a := fun c => by
   rcases Nat.eq_zero_or_pos a with z | z
   ·exact absurd (z ▸ below_zero k b hb) c
   ·exact z
  by_cases c1 : (b : Int) < a
  ·have c : belowV k b a ≠ true := by
    unfold belowV
    rw [ne_eq, decide_eq_true_eq]
    omega
   have hp := par_pos k (up c) ha
   rw [if_neg c]
   refine Ev.pos c1 (Ev.pos (by omega) (Ev.pos (by omega) ?_))
   have := ih (par k a).toNat (by omega) (by omega)
   rw [Int.toNat_of_nonneg hp.1] at this
   exact this
  ·refine Ev.neg c1 (Ev.bind (spec_l01End_ev (tr k) (by omega) (st_At k a ha)) ?_)
   by_cases c2 : (b : Int) ≥ ((a + 1 + sz (st k a) : Nat) : Int)
   ·have c : belowV k b a ≠ true := by
     unfold belowV
     rw [ne_eq, decide_eq_true_eq]
     omega
    have hp := par_pos k (up c) ha
    rw [if_neg c]
    refine Ev.pos c2 (Ev.pos (by omega) (Ev.pos (by omega) ?_))
    have := ih (par k a).toNat (by omega) (by omega)
    rw [Int.toNat_of_nonneg hp.1] at this
    exact this
   ·have c : belowV k b a = true := by
     unfold belowV
     rw [decide_eq_true_eq]
     omega
    rw [if_pos c]
    exact Ev.neg c2 (Ev.now _)
theorem spec_MeetOf_ev (d : List Int) (hd : d.length ≤ 9223372036854775807) (v w : Int) {R} (h : node2R meetV 0 d v w R) : Ev (fun m => Xbx.f m d v w) R := by
 have e := spec_l01Nodes_ev d hd [v, w] (by simp)
 rcases h with ⟨h, rfl⟩ | ⟨k, a, b, rfl, hk, rfl, ha, rfl, hb, h, rfl⟩
 ·unfold Xbx.f
  exact Ev.bind e (Ev.neg h (Ev.now _))
 ·have hl := tr_length k
  unfold Xbx.f
  refine Ev.bind e (Ev.pos h ?_)
  have e2 : Ev (fun m => Xaq.f m (tr k) a b) (meetV k a b) := by
   unfold Xaq.f
   exact Ev.bind (spec_l01Parents_ev k hk) (spec_l01Meet_l0 k hk b hb (sz k + 1) a (by omega) ha)
  exact Ev.bind e2 (Ev.now _)
theorem impl_IsBelow_ev (d : List Int) (hd : d.length ≤ 9223372036854775807) (v w : Int) {R} (h : node2R belowV false d v w R) : Ev (fun m => Xbh.f m d v w) R := by
 have e := impl_treeCode_ev d hd [v, w] (by simp)
 rcases h with ⟨h, rfl⟩ | ⟨k, a, b, rfl, hk, rfl, ha, rfl, hb, h, rfl⟩
 ·unfold Xbh.f
  exact Ev.bind e (Ev.neg h (Ev.now _))
 ·unfold Xbh.f
  exact Ev.bind e (Ev.pos h (Ev.bind (impl_isBelow_ev k hk a b hb) (Ev.now _)))
theorem DrawJoinTrees_loop (c : List Int) (hc : bytesL c) (hl : c.length ≤ 4096) : ∀ (m : Nat) (p h : Int) (acc : List S26), 0 ≤ p → acc.length + m ≤ 10 → (∀ x ∈ acc, x.f0.length ≤ 100) → ∃ R, Ev (fun k => Xaf.l0 k acc (m : Int) c p h) R ∧ R.length ≤ 10 ∧ ∀ x ∈ R, x.f0.length ≤ 100 := by
 intro m
 induction m with
 | zero =>
  intro p h acc hp ha hx
  refine ⟨acc, Ev.succ ?_, by omega, hx⟩
  simp only [Xaf.l0]
  exact Ev.neg (by omega) (Ev.now _)
 | succ m ih =>
  intro p h acc hp ha hx
  obtain ⟨v, p1, h1, e1, hv, hp1⟩ := next_ex c p h 7 hc hl hp (by omega)
  obtain ⟨t, p2, h2, e2, _, ht, hp2⟩ := drawOf_ex c p1 h1 (1 + v) hc hl hp1 (by omega)
  obtain ⟨t', p3, h3, e3, ht', hp3⟩ := bad_ex c p2 h2 t hc hl hp2 (by omega)
  obtain ⟨R, e4, hR⟩ := ih p3 h3 (acc ++ [⟨t'⟩]) hp3 (by simp; omega) (by
   intro x hx'
   rcases List.mem_append.1 hx' with hx' | hx'
   ·exact hx x hx'
   ·simp only [List.mem_singleton] at hx'
    subst hx'
    show t'.length ≤ 100
    omega)
  refine ⟨R, Ev.succ ?_, hR⟩
  simp only [Xaf.l0]
  refine Ev.pos (by omega) ?_
  simp only [e1, Option.bind_some]
  rw [w64 (x := 1 + v) (by omega)]
  refine Ev.bind e2 ?_
  simp only [e3, Option.bind_some]
  refine Ev.pos (by omega) ?_
  rw [w64 (x := ((m + 1 : Nat) : Int) - 1) (by omega), show ((m + 1 : Nat) : Int) - 1 = (m : Int) by omega]
  exact e4
theorem DrawJoinTrees_ex (c : List Int) (hc : bytesL c) (hl : c.length ≤ 4096) : ∃ R : List S26, Ev (fun k => Xaf.f k c) R ∧ R.length ≤ 10 ∧ ∀ x ∈ R, x.f0.length ≤ 100 := by
 obtain ⟨h, e0⟩ := from_ev c hl
 obtain ⟨v, p1, h1, e1, hv, hp1⟩ := next_ex c 0 h 5 hc hl (by omega) (by omega)
 obtain ⟨m, rfl⟩ : ∃ m : Nat, v = m := ⟨v.toNat, by omega⟩
 obtain ⟨R, e2, hR⟩ := DrawJoinTrees_loop c hc hl m p1 h1 [] hp1 (by simp; omega) (by simp)
 refine ⟨R, ?_, hR⟩
 unfold Xaf.f
 refine Ev.bind e0 ?_
 simp only [e1, Option.bind_some]
 exact e2
theorem impl_JoinTrees_ev (ts : List S26) (hn : ts.length ≤ 1048576) (hx : ∀ x ∈ ts, x.f0.length ≤ 1048576) : Ev (fun k => Xad.f k ts) (joinR ts) := by
 have key : ∀ (xs : List S26) (i : Nat) (d : List Int), ts.drop i = xs → i + xs.length = ts.length → d.length ≤ 24 → Ev (fun k => Xad.l0 k d ts (ts.length : Int) (i : Int)) (match jn xs d with | some d => (d, 0) | none => ([], 3)) := by
  intro xs
  induction xs with
  | nil =>
   intro i d h hi hd
   simp only [List.length_nil] at hi
   apply Ev.succ
   simp only [Xad.l0, jn, impl_limited_eq, Option.bind_some]
   refine Ev.neg (by omega) (Ev.some ?_)
   rw [if_neg (by omega)]
  | cons x xs ih =>
   intro i d h hi hd
   simp only [List.length_cons] at hi
   have hmem : x ∈ ts := List.mem_of_mem_drop (by rw [h]; simp)
   have hxl := hx x hmem
   have hr : rd_T26 ts (i : Int) = x := by
    unfold rd_T26
    rw [Int.toNat_natCast, List.getD_eq_getElem?_getD, (drop_cons h).2.1]
    rfl
   apply Ev.succ
   simp only [Xad.l0, hr, jn, Option.bind_some]
   refine Ev.pos (by omega) (Ev.pos (by omega) (Ev.pos (by omega) (Ev.pos (by omega) ?_)))
   by_cases c : (d ++ x.f0).length > 24
   ·rw [if_pos c]
    exact Ev.pos (by omega) (Ev.now _)
   ·rw [if_neg c, w64 (x := (i : Int) + 1) (by omega), show (i : Int) + 1 = ((i + 1 : Nat) : Int) by omega]
    exact Ev.neg (by omega) (ih (i + 1) _ (drop_cons h).2.2 (by omega) (by omega))
 unfold Xad.f joinR
 refine Ev.bind (impl_areTrees_ev ts (by omega) (fun t ht => by have := hx t ht; omega)) ?_
 by_cases c : (ts.all fun t => isT t.f0) = true
 ·rw [if_pos c]
  exact Ev.pos c (key ts 0 _ rfl (by omega) (by simp))
 ·rw [if_neg c]
  exact Ev.neg c (Ev.now _)
theorem spec_JoinTrees_ev (ts : List S26) (hn : ts.length ≤ 1048576) (hx : ∀ x ∈ ts, x.f0.length ≤ 1048576) : Ev (fun k => Xao.f k ts) (joinR ts) := by
 have key : ∀ (xs : List S26) (i : Nat), ts.drop i = xs → i + xs.length = ts.length → Ev (fun k => Xao.l0 k ts (i : Int)) (if (xs.all fun t => isT t.f0) = true then (match jn ts [(ts.length : Int)] with | some d => (d, 0) | none => ([], 3)) else ([], 1)) := by
  intro xs
  induction xs with
  | nil =>
   intro i h hi
   simp only [List.length_nil] at hi
   have e := spec_l01Join_ev ts hn hx
   apply Ev.succ
   simp only [Xao.l0, List.all_nil, if_true]
   refine Ev.neg (by omega) (Ev.bind e ?_)
   cases hj : jn ts [(ts.length : Int)] with
   | none => exact Ev.neg (by simp) (Ev.now _)
   | some d => exact Ev.pos (by first | rfl | trivial) (Ev.now _)
  | cons x xs ih =>
   intro i h hi
   simp only [List.length_cons] at hi
   have hmem : x ∈ ts := List.mem_of_mem_drop (by rw [h]; simp)
   have hxl := hx x hmem
   have hr : rd_T26 ts (i : Int) = x := by
    unfold rd_T26
    rw [Int.toNat_natCast, List.getD_eq_getElem?_getD, (drop_cons h).2.1]
    rfl
   apply Ev.succ
   simp only [Xao.l0, hr]
   refine Ev.pos (by omega) (Ev.pos (by omega) (Ev.bind (spec_l01Is_ev x.f0 (by omega)) ?_))
   rw [w64 (x := (i : Int) + 1) (by omega), show (i : Int) + 1 = ((i + 1 : Nat) : Int) by omega]
   cases ht : isT x.f0 with
   | false =>
    rw [if_neg (by simp [ht])]
    exact Ev.neg (by simp) (Ev.now _)
   | true =>
    have := ih (i + 1) (drop_cons h).2.2 (by omega)
    simp only [List.all_cons, ht, Bool.true_and]
    exact Ev.pos (by first | rfl | trivial) this
 unfold Xao.f joinR
 exact key ts 0 rfl (by omega)
theorem DrawRemoveAt_ex (c : List Int) (hc : bytesL c) (hl : c.length ≤ 4096) : ∃ t v, Ev (fun k => Xbm.f k c) (t, v) ∧ t.length ≤ 25 := by
 obtain ⟨t, v, w, e, ht, _⟩ := With_ex c hc hl
 refine ⟨t, v, ?_, ht⟩
 unfold Xbm.f
 exact Ev.bind e (Ev.now _)
theorem impl_RemoveAt_ev (d : List Int) (hd : d.length ≤ 9223372036854775807) (v : Int) {R} (h : remR d v R) : Ev (fun m => Xs.f m d v) R := by
 have e := impl_treeCode_ev d hd [v] (by simp)
 rcases h with ⟨h, rfl⟩ | ⟨k, a, rfl, hk, rfl, ha, h, rfl⟩
 ·unfold Xs.f
  exact Ev.bind e (Ev.neg h (Ev.now _))
 ·have hl := tr_length k
  unfold Xs.f
  refine Ev.bind e (Ev.pos h ?_)
  by_cases c : a = 0
  ·subst c
   exact Ev.pos rfl (Ev.now _)
  ·have hp := par_pos k (by omega) ha
   have hs := sub_small k a ha
   have e2 := impl_endOf_ev (tr k) (by omega) (st_At k a ha)
   have hrl := remB_length k ha
   rw [if_neg c]
   unfold remB at hrl
   refine Ev.neg (by omega) (Ev.pos (by omega) (Ev.pos (by omega) (Ev.bind e2 (Ev.pos (by omega) (Ev.pos (by omega) ?_)))))
   rw [Int.toNat_natCast, Int.toNat_natCast]
   have e3 := slices_Concat_int64_int64_ev [(tr k).take a, (tr k).drop (a + 1 + sz (st k a))] (by simp) (by simp only [List.flatten_cons, List.flatten_nil, List.append_nil, hrl]; omega)
   simp only [List.flatten_cons, List.flatten_nil, List.append_nil] at e3
   refine Ev.bind e3 (Ev.bind (impl_parentsOf_ev k hk) ?_)
   rw [parV_length, parV_rd k ha]
   refine Ev.pos (by omega) (Ev.pos (by omega) (Ev.pos (by rw [hrl]; omega) (Ev.some ?_)))
   rfl
theorem spec_RemoveAt_ev (d : List Int) (hd : d.length ≤ 9223372036854775807) (v : Int) {R} (h : remR d v R) : Ev (fun m => Xl.f m d v) R := by
 have e := spec_l01Nodes_ev d hd [v] (by simp)
 rcases h with ⟨h, rfl⟩ | ⟨k, a, rfl, hk, rfl, ha, h, rfl⟩
 ·unfold Xl.f
  refine Ev.bind e (Ev.neg h ?_)
  refine Ev.step (fun k => by rw [Xl.j0]) ?_
  refine Ev.neg (by simp) ?_
  refine Ev.step (fun k => by rw [Xl.j1]) ?_
  exact Ev.neg h (Ev.now _)
 ·have hl := tr_length k
  unfold Xl.f
  refine Ev.bind e (Ev.pos h ?_)
  rw [h]
  by_cases c : a = 0
  ·subst c
   refine Ev.step (fun k => by rw [Xl.j0]) ?_
   refine Ev.pos (by simp) ?_
   refine Ev.step (fun k => by rw [Xl.j1]) ?_
   exact Ev.neg (by omega) (Ev.now _)
  ·have hp := par_pos k (by omega) ha
   have hs := sub_small k a ha
   have e2 := spec_l01End_ev (tr k) (by omega) (st_At k a ha)
   have hrl := remB_length k ha
   rw [if_neg c]
   refine Ev.step (fun k => by rw [Xl.j0]) ?_
   refine Ev.neg (by simp; omega) ?_
   refine Ev.step (fun k => by rw [Xl.j1]) ?_
   refine Ev.pos rfl (Ev.bind (spec_l01Parents_ev k hk) ?_)
   rw [parV_length]
   unfold remB at hrl
   refine Ev.pos (by omega) (Ev.pos (by omega) (Ev.pos (by omega) ?_))
   rw [Int.toNat_natCast, parV_rd k ha]
   refine Ev.bind (Ev.const (spec_l01Own_eq _ (by rw [List.length_take]; omega))) (Ev.bind e2 ?_)
   rw [Int.toNat_natCast]
   refine Ev.pos (by omega) (Ev.pos (by omega) (Ev.pos (by rw [← List.length_append, hrl]; omega) (Ev.bind (Ev.now _) ?_)))
   refine Ev.pos (by omega) (Ev.pos (by rw [hrl]; omega) (Ev.some ?_))
   rfl
theorem DrawCompareTrees_ex (c : List Int) (hc : bytesL c) (hl : c.length ≤ 4096) : ∃ t u, Ev (fun k => Xp.f k c) (t, u) ∧ t.length ≤ 25 ∧ u.length ≤ 25 := by
 obtain ⟨h, e0⟩ := from_ev c hl
 obtain ⟨t, p1, h1, e1, _, ht, hp1⟩ := draw_ex c 0 h hc hl (by omega)
 obtain ⟨u, p2, h2, e2, _, hu, hp2⟩ := drawOf_ex c p1 h1 (t.length : Int) hc hl hp1 (by omega)
 obtain ⟨x, p4, h4, e4, hx, hp4⟩ := next_ex c p2 h2 5 hc hl hp2 (by omega)
 have last : ∀ (u : List Int) (p h : Int), 0 ≤ p → 1 ≤ u.length ∧ u.length ≤ 24 → ∃ t' u', Ev (fun k => Xp.j0 k c p h t u) (t', u') ∧ t'.length ≤ 25 ∧ u'.length ≤ 25 := by
  intro u p h hp hu
  obtain ⟨t', p5, h5, e5, ht', hp5⟩ := bad_ex c p h t hc hl hp (by omega)
  obtain ⟨u', p6, h6, e6, hu', hp6⟩ := bad_ex c p5 h5 u hc hl hp5 (by omega)
  refine ⟨t', u', ?_, by omega, by omega⟩
  apply Ev.succ
  simp only [Xp.j0, e5, e6, Option.bind_some]
  exact Ev.now _
 have start : ∀ r, Ev (fun k => if x = 0 then (Xp.j0 k c p4 h4 t t) else (if x = 1 then ((Xa.f k c p4 h4).bind fun b => (Xp.j0 k c b.2.1 b.2.2 t b.1)) else (Xp.j0 k c p4 h4 t u))) r → Ev (fun k => Xp.f k c) r := by
  intro r e
  unfold Xp.f
  refine Ev.bind e0 (Ev.bind e1 ?_)
  simp only [spec_l01N_eq, Option.bind_some]
  refine Ev.bind e2 ?_
  simp only [e4, Option.bind_some]
  exact e
 by_cases c0 : x = 0
 ·obtain ⟨t', u', e6, hl'⟩ := last t p4 h4 hp4 (by omega)
  exact ⟨t', u', start _ (Ev.pos c0 e6), hl'⟩
 ·by_cases c1 : x = 1
  ·obtain ⟨u2, p5, h5, e5, _, hu2, hp5⟩ := draw_ex c p4 h4 hc hl hp4
   obtain ⟨t', u', e6, hl'⟩ := last u2 p5 h5 hp5 (by omega)
   exact ⟨t', u', start _ (Ev.neg c0 (Ev.pos c1 (Ev.bind e5 e6))), hl'⟩
  ·obtain ⟨t', u', e6, hl'⟩ := last u p4 h4 hp4 (by omega)
   exact ⟨t', u', start _ (Ev.neg c0 (Ev.neg c1 e6)), hl'⟩
theorem spec_l01Less_ev (d e : List Int) (hd : d.length ≤ 9223372036854775807) (he : e.length ≤ 9223372036854775807) : Ev (fun m => Xai.f m d e) (cmpV d e == -1) := by
 have key : d.length = e.length → ∀ (xs ys : List Int) (i : Nat), d.drop i = xs → e.drop i = ys → i + xs.length = d.length → i + ys.length = e.length → Ev (fun m => Xai.l0 m i d e) (lexV xs ys == -1) := by
  intro hl xs
  induction xs with
  | nil =>
   intro ys i h1 h2 hi hj
   simp only [List.length_nil] at hi
   apply Ev.succ
   simp (disch := omega) only [Xai.l0, if_neg]
   exact Ev.some (by cases ys <;> rfl)
  | cons x xs ih =>
   intro ys i h1 h2 hi hj
   cases ys with
   | nil => simp only [List.length_cons, List.length_nil] at hi hj; omega
   | cons y ys =>
    simp only [List.length_cons] at hi hj
    have r1 := rd_drop h1
    have r2 := rd_drop h2
    have d1 := (drop_cons h1).2.2
    have d2 := (drop_cons h2).2.2
    apply Ev.succ
    simp (disch := omega) only [Xai.l0, if_pos, r1, r2, w64, lexV]
    by_cases c : x = y
    ·rw [if_pos c]
     exact Ev.pos c (ih ys (i + 1) d1 d2 (by omega) (by omega))
    ·rw [if_neg c]
     refine Ev.neg c (Ev.some ?_)
     by_cases c' : x < y
     ·rw [if_pos c']; simp [c']
     ·rw [if_neg c']; simp [c']
 unfold Xai.f cmpV
 by_cases c : (d.length : Int) = e.length
 ·rw [if_neg (by omega), if_neg (by omega)]
  exact Ev.pos c (key (by omega) d e 0 rfl rfl (by omega) (by omega))
 ·refine Ev.neg c (Ev.some ?_)
  by_cases c1 : d.length < e.length
  ·rw [if_pos c1]
   simp; omega
  ·rw [if_neg c1, if_pos (by omega)]
   simp; omega
theorem spec_CompareTrees_ev (d e : List Int) (hd : d.length ≤ 9223372036854775807) (he : e.length ≤ 9223372036854775807) : Ev (fun m => Xak.f m d e) (cmpR d e) := by
 have key : ∀ b : Bool, (b = false ↔ isT d = true ∧ isT e = true) → Ev (fun m => Xak.j0 m b d e) (cmpR d e) := by
  intro b hb
  apply Ev.succ
  simp only [Xak.j0]
  unfold cmpR
  cases b with
  | true =>
   rw [if_neg (fun h => by have := hb.2 h; cases this)]
   exact Ev.pos rfl (Ev.now _)
  | false =>
   rw [if_pos (hb.1 rfl)]
   refine Ev.neg (by simp) (Ev.bind (spec_l01Less_ev d e hd he) ?_)
   rcases cmpV_cases d e with c | c | c
   ·refine Ev.pos (by simp [c]) (Ev.some (by rw [c]))
   ·refine Ev.neg (by simp [c]) (Ev.bind (spec_l01Less_ev e d he hd) (Ev.neg (by rw [cmpV_swap, c]; simp) (Ev.some (by rw [c]))))
   ·refine Ev.neg (by simp [c]) (Ev.bind (spec_l01Less_ev e d he hd) (Ev.pos (by rw [cmpV_swap, c]; simp) (Ev.some (by rw [c]))))
 unfold Xak.f
 refine Ev.bind (spec_l01Is_ev d hd) ?_
 cases h1 : isT d with
 | false => exact Ev.neg (by simp) (key true (by simp [h1]))
 | true => exact Ev.pos rfl (Ev.bind (spec_l01Is_ev e he) (key _ (by cases h2 : isT e <;> simp [h1, h2])))
theorem DrawNodeAt_loop (c : List Int) (hc : bytesL c) (hl : c.length ≤ 4096) (k : F) (hk : sz k ≤ 23) : ∀ (m v : Nat) (p h : Int) (ad : List Int), v + m = sz k → 0 ≤ p → ad.length ≤ v → ∃ t' ad', Ev (fun j => Xk.l0 j ad (v : Int) c p h (tr k)) (t', ad') ∧ t'.length ≤ 25 ∧ ad'.length ≤ 25 := by
 have htl := tr_length k
 have last : ∀ (v : Nat) (p h : Int) (ad : List Int), 0 ≤ p → ad.length ≤ 24 → ∃ t' ad', Ev (fun j => Xk.j1 j ad (v : Int) false c p h (tr k)) (t', ad') ∧ t'.length ≤ 25 ∧ ad'.length ≤ 25 := by
  intro v p h ad hp ha
  obtain ⟨x, p1, h1, e1, hx, hp1⟩ := next_ex c p h 10 hc hl hp (by omega)
  obtain ⟨y, p2, h2, e2, hy, hp2⟩ := pick_ex c p1 h1 [0, 1, 5, 1099511627776] hc hl hp1 (by simp)
  obtain ⟨ta, pa, ha', ea, hta, _⟩ := bad_ex c p2 h2 (tr k) hc hl hp2 (by omega)
  obtain ⟨tb, pb, hb', eb, htb, _⟩ := bad_ex c p1 h1 (tr k) hc hl hp1 (by omega)
  have start : ∀ r, Ev (fun j => (if x = 0 then ((Xaw.f c p1 h1 (([0, 1, 5, 1099511627776] : List Int))).bind fun b => (if ad.length < 17592186044416 then ((Xe.f c b.2.1 b.2.2 (tr k)).bind fun b2 => (some (b2.1, (ad ++ [b.1])))) else (none))) else (if x = 1 then (if ad.length < 17592186044416 then ((Xe.f c p1 h1 (tr k)).bind fun b2 => (some (b2.1, (ad ++ [(-1)])))) else (none)) else ((Xe.f c p1 h1 (tr k)).bind fun b2 => (some (b2.1, ad)))) : Option (List Int × List Int))) r → Ev (fun j => Xk.j1 j ad (v : Int) false c p h (tr k)) r := by
   intro r e
   apply Ev.succ
   simp only [Xk.j1]
   refine Ev.neg (by simp) ?_
   simp only [e1, Option.bind_some]
   exact e
  by_cases c0 : x = 0
  ·refine ⟨ta, ad ++ [y], start _ (Ev.pos c0 ?_), by omega, by simp; omega⟩
   simp only [e2, Option.bind_some]
   refine Ev.pos (by omega) ?_
   simp only [ea, Option.bind_some]
   exact Ev.now _
  ·by_cases c1 : x = 1
   ·refine ⟨tb, ad ++ [-1], start _ (Ev.neg c0 (Ev.pos c1 (Ev.pos (by omega) ?_))), by omega, by simp; omega⟩
    simp only [eb, Option.bind_some]
    exact Ev.now _
   ·refine ⟨tb, ad, start _ (Ev.neg c0 (Ev.neg c1 ?_)), by omega, by omega⟩
    simp only [eb, Option.bind_some]
    exact Ev.now _
 intro m
 induction m using Nat.strongRecOn with
 | _ m ih =>
  intro v p h ad hv hp ha
  have hat := st_At k v (by omega)
  obtain ⟨h1, h2, h3, h4⟩ := hat.step
  have hln := len_le_sz (st k v)
  have hsm := sub_small k v (by omega)
  by_cases c0 : len (st k v) = 0
  ·obtain ⟨t', ad', e, hh⟩ := last v p h ad hp (by omega)
   refine ⟨t', ad', Ev.succ ?_, hh⟩
   simp only [Xk.l0]
   exact Ev.pos (by omega) (Ev.pos (by omega) (Ev.neg (by rw [h2]; omega) e))
  ·obtain ⟨x, p1, h1', e1, hx, hp1⟩ := next_ex c p h 4 hc hl hp (by omega)
   have start : ∀ r, Ev (fun j => Xk.j1 j ad (v : Int) (decide (x > 0)) c p1 h1' (tr k)) r → Ev (fun j => Xk.l0 j ad (v : Int) c p h (tr k)) r := by
    intro r e
    apply Ev.succ
    simp only [Xk.l0]
    refine Ev.pos (by omega) (Ev.pos (by omega) (Ev.pos (by rw [h2]; omega) ?_))
    simp only [e1, Option.bind_some]
    exact e
   by_cases c1 : x > 0
   ·obtain ⟨i, p2, h2', e2, hi, hp2⟩ := next_ex c p1 h1' (rd (tr k) (v : Int)) hc hl hp1 (by rw [h2]; omega)
    have e3 := spec_l01Children_ev (tr k) (by omega) hat
    obtain ⟨n, rfl⟩ : ∃ n : Nat, i = n := ⟨i.toNat, by omega⟩
    have hol := offs_length (st k v) (v + 1)
    have hmem := rd_mem (xs := offs (v + 1) (st k v)) (p := n) (by rw [h2] at hi; omega)
    have hob := offs_bound _ _ _ hmem
    obtain ⟨w, hw⟩ : ∃ w : Nat, rd (offs (v + 1) (st k v)) (n : Int) = w := ⟨(rd (offs (v + 1) (st k v)) (n : Int)).toNat, by omega⟩
    rw [hw] at hob
    obtain ⟨t', ad', e, hh⟩ := ih (sz k - w) (by omega) w p2 h2' (ad ++ [(n : Int)]) (by omega) hp2 (by simp; omega)
    refine ⟨t', ad', start _ ?_, hh⟩
    rw [decide_eq_true c1]
    apply Ev.succ
    simp only [Xk.j1]
    refine Ev.pos (by trivial) (Ev.pos (by omega) (Ev.pos (by omega) ?_))
    simp only [e2, Option.bind_some]
    refine Ev.pos (by omega) (Ev.bind e3 (Ev.pos (by omega) (Ev.pos (by rw [hol]; rw [h2] at hi; omega) ?_)))
    rw [hw]
    exact e
   ·obtain ⟨t', ad', e, hh⟩ := last v p1 h1' ad hp1 (by omega)
    refine ⟨t', ad', start _ ?_, hh⟩
    rw [decide_eq_false c1]
    exact e
theorem DrawNodeAt_ex (c : List Int) (hc : bytesL c) (hl : c.length ≤ 4096) : ∃ t ad, Ev (fun k => Xk.f k c) (t, ad) ∧ t.length ≤ 25 ∧ ad.length ≤ 25 := by
 obtain ⟨h, e0⟩ := from_ev c hl
 obtain ⟨t, p1, h1, e1, ho, ht, hp1⟩ := draw_ex c 0 h hc hl (by omega)
 rcases isT_cases t with hf | ⟨k, hk1, hk2, _⟩
 ·rw [okP_isT ho ht] at hf; cases hf
 ·subst hk1
  obtain ⟨t', ad', e, hh⟩ := DrawNodeAt_loop c hc hl k hk2 (sz k) 0 p1 h1 [] (by omega) hp1 (by simp)
  refine ⟨t', ad', ?_, hh⟩
  unfold Xk.f
  exact Ev.bind e0 (Ev.bind e1 e)
theorem spec_NodeAt_l1 (d ad : List Int) (hd : d.length ≤ 24) (hal : ad.length ≤ 24) : ∀ (xs : List Int) (i v : Nat) (s : F), ad.drop i = xs → i + xs.length = ad.length → (∀ x ∈ xs, 0 ≤ x) → At d v (cons s nil) →
  Ev (fun m => Xae.l1 m ad v i d) (walk v s xs) := by
 intro xs
 induction xs with
 | nil =>
  intro i v s h hi _ _
  simp only [List.length_nil] at hi
  refine Ev.step (fun k => by rw [Xae.l1]) ?_
  refine Ev.neg (by omega) (Ev.now _)
 | cons x xs ih =>
  intro i v s h hi hx hat
  have hr := rd_drop h
  have hdr := (drop_cons h).2.2
  have hx0 := hx x (by simp)
  have hh := hat.step
  have hol := offs_length s (v + 1)
  simp only [List.length_cons] at hi
  obtain ⟨n, rfl⟩ : ∃ n : Nat, x = n := ⟨x.toNat, by omega⟩
  simp only [walk, Int.toNat_natCast]
  refine Ev.step (fun k => by rw [Xae.l1]) ?_
  refine Ev.pos (by omega) (Ev.bind (spec_l01Children_ev d hd hat) (Ev.pos (by omega) ?_))
  rw [hr]
  cases hp : (tops (v + 1) s)[n]? with
  | none =>
   have := List.getElem?_eq_none_iff.1 hp
   rw [tops_length] at this
   exact Ev.pos (by omega) (Ev.now _)
  | some p =>
   obtain ⟨e1, e2, e3⟩ := tops_get hh.2.2.1 hp
   refine Ev.neg (by omega) (Ev.pos (by omega) (Ev.pos (by omega) ?_))
   rw [e1, w64 (by omega)]
   exact ih (i + 1) p.1 p.2 hdr (by omega) (fun y hy => hx y (by simp [hy])) e2
theorem spec_NodeAt_ev (d ad : List Int) (hd : d.length ≤ 9223372036854775807) (ha : ad.length ≤ 1048576) {R} (h : nodeAtV d ad R) : Ev (fun m => Xae.f m d ad) R := by
 have e := spec_l01Is_ev d hd
 have neg : (∃ x ∈ ad, x < 0) → ∀ (xs : List Int) (i : Nat), ad.drop i = xs → i + xs.length = ad.length → (∃ x ∈ xs, x < 0) → Ev (fun m => Xae.l0 m ad i d) (0, 2) := by
  intro _ xs
  induction xs with
  | nil => intro i _ _ h; obtain ⟨x, hx, _⟩ := h; simp at hx
  | cons x xs ih =>
   intro i h hi hx
   have hr := rd_drop h
   have hdr := (drop_cons h).2.2
   simp only [List.length_cons] at hi
   refine Ev.step (fun k => by rw [Xae.l0]) ?_
   refine Ev.pos (by omega) (Ev.pos (by omega) ?_)
   rw [hr]
   by_cases c : x < 0
   ·exact Ev.pos c (Ev.now _)
   ·refine Ev.neg c ?_
    rw [w64 (by omega)]
    refine ih (i + 1) hdr (by omega) ?_
    obtain ⟨y, hy, hy0⟩ := hx
    rcases List.mem_cons.1 hy with rfl | hy
    ·exact absurd hy0 c
    ·exact ⟨y, hy, hy0⟩
 have pos : ∀ {r}, (∀ x ∈ ad, 0 ≤ x) → Ev (fun k => if (ad.length : Int) > 24 then (some (0, 2)) else (Xae.l1 k ad 0 0 d)) r → ∀ (xs : List Int) (i : Nat), ad.drop i = xs → i + xs.length = ad.length → Ev (fun m => Xae.l0 m ad i d) r := by
  intro r hp next xs
  induction xs with
  | nil =>
   intro i h hi
   simp only [List.length_nil] at hi
   refine Ev.step (fun k => by rw [Xae.l0]) ?_
   refine Ev.neg (by omega) next
  | cons x xs ih =>
   intro i h hi
   have hr := rd_drop h
   have hdr := (drop_cons h).2.2
   have hx : x ∈ ad := List.mem_of_mem_drop (by rw [h]; simp)
   have := hp x hx
   simp only [List.length_cons] at hi
   refine Ev.step (fun k => by rw [Xae.l0]) ?_
   refine Ev.pos (by omega) (Ev.pos (by omega) ?_)
   rw [hr, w64 (by omega)]
   exact Ev.neg (by omega) (ih (i + 1) hdr (by omega))
 unfold Xae.f
 rcases h with ⟨h, rfl⟩ | ⟨h, hc, rfl⟩ | ⟨k, rfl, hk, h, hal, hnn, rfl⟩
 ·rw [h] at e
  exact Ev.bind e (Ev.neg (by simp) (Ev.now _))
 ·rw [h] at e
  refine Ev.bind e (Ev.pos rfl ?_)
  by_cases c : ∃ x ∈ ad, x < 0
  ·exact neg c ad 0 rfl (by omega) c
  ·refine pos (fun x hx => ?_) (Ev.pos ?_ (Ev.now _)) ad 0 rfl (by omega)
   ·by_cases c' : x < 0
    ·exact absurd ⟨x, hx, c'⟩ c
    ·omega
   ·rcases hc with hc | hc
    ·omega
    ·exact absurd hc c
 ·rw [h] at e
  have hl := tr_length k
  refine Ev.bind e (Ev.pos rfl (pos hnn (Ev.neg (by omega) ?_) ad 0 rfl (by omega)))
  exact spec_NodeAt_l1 (tr k) ad (by omega) hal ad 0 0 k rfl (by omega) hnn (tr_At k)
theorem DrawAddressOf_ex (c : List Int) (hc : bytesL c) (hl : c.length ≤ 4096) : ∃ t v, Ev (fun k => Xbi.f k c) (t, v) ∧ t.length ≤ 25 := by
 obtain ⟨t, v, w, e, ht, _⟩ := With_ex c hc hl
 refine ⟨t, v, ?_, ht⟩
 unfold Xbi.f
 exact Ev.bind e (Ev.now _)
theorem spec_AddressOf_l1 (d : List Int) (hd : d.length ≤ 24) (v c : Nat) (path cs : List Int) (hp : path.length ≤ 1000) (hcs : cs.length ≤ 1000) : ∀ (f : F) (p i : Nat), At d p f → cs.drop i = offs p f → i + len f = cs.length → p ≤ v → v < p + sz f →
  ∃ (c' : Nat) (k' : F), (c' : Int) ∈ offs p f ∧ At d c' (cons k' nil) ∧ c' ≤ v ∧ v < c' + 1 + sz k' ∧ ∀ R, Ev (fun m => Xh.l0 m v (path ++ [((i + (offs p f).idxOf (c' : Int) : Nat) : Int)]) c' d) R → Ev (fun m => Xh.l1 m v path c cs i d) R := by
 intro f
 induction f with
 | nil => intro p i _ _ _ h1 h2; simp only [sz] at h2; omega
 | cons k r _ ihr =>
  intro p i h hc hi h1 h2
  have e := spec_l01End_ev d hd h
  have hh := h.step
  have hr := rd_drop hc
  have hdr := (drop_cons hc).2.2
  simp only [len] at hi
  simp only [sz] at h2
  by_cases c1 : v < p + 1 + sz k
  ·refine ⟨p, k, by simp [offs], h.one, h1, c1, fun R hR => ?_⟩
   rw [show (offs p (cons k r)).idxOf (p : Int) = 0 by simp [offs], Nat.add_zero] at hR
   refine Ev.step (fun k => by rw [Xh.l1]) ?_
   rw [hr]
   refine Ev.pos (by omega) (Ev.pos (by omega) (Ev.pos (by omega) (Ev.bind e (Ev.pos (by omega) (Ev.pos (by omega) hR)))))
  ·obtain ⟨c', k', m1, m2, m3, m4, m5⟩ := ihr (p + 1 + sz k) (i + 1) hh.2.2.2 hdr (by omega) (by omega) (by omega)
   have hb := offs_bound r (p + 1 + sz k) c' m1
   refine ⟨c', k', by simp [offs, m1], m2, m3, m4, fun R hR => ?_⟩
   refine Ev.step (fun k => by rw [Xh.l1]) ?_
   rw [hr]
   refine Ev.pos (by omega) (Ev.pos (by omega) (Ev.pos (by omega) (Ev.bind e (Ev.neg (by omega) ?_))))
   rw [w64 (by omega)]
   refine m5 R ?_
   rw [show (offs p (cons k r)).idxOf (c' : Int) = ((offs (p + 1 + sz k) r).idxOf (c' : Int)).succ from idx_ne (by omega)] at hR
   rw [show i + 1 + (offs (p + 1 + sz k) r).idxOf (c' : Int) = i + ((offs (p + 1 + sz k) r).idxOf (c' : Int)).succ by omega]
   exact hR
theorem spec_AddressOf_l0 (k : F) (hk : sz k ≤ 23) (v : Nat) (hv : v ≤ sz k) : ∀ (n c : Nat), v - c ≤ n → c ≤ v → v < c + 1 + sz (st k c) → Ev (fun m => Xh.l0 m v (addrV k c) c (tr k)) (addrV k v, 0) := by
 have hl := tr_length k
 intro n
 induction n with
 | zero =>
  intro c h h1 _
  obtain rfl : c = v := by omega
  refine Ev.step (fun k => by rw [Xh.l0]) ?_
  exact Ev.pos rfl (Ev.now _)
 | succ n ih =>
  intro c h h1 h2
  refine Ev.step (fun k => by rw [Xh.l0]) ?_
  by_cases z : c = v
  ·subst z
   exact Ev.pos rfl (Ev.now _)
  ·have hat := st_At k c (by omega)
   have hs := sub_small k c (by omega)
   have ol := offs_length (st k c) (c + 1)
   have hkl := len_le_sz (st k c)
   have hal := addrV_length k c c (by omega) (by omega)
   refine Ev.neg (by omega) (Ev.bind (spec_l01Children_ev (tr k) (by omega) hat) ?_)
   obtain ⟨c', k', m1, m2, m3, m4, m5⟩ := spec_AddressOf_l1 (tr k) (by omega) v c (addrV k c) (offs (c + 1) (st k c)) (by omega) (by omega) (st k c) (c + 1) 0 hat.step.2.2.1 rfl (by omega) (by omega) (by omega)
   have hb := offs_bound (st k c) (c + 1) c' m1
   have hpc : par k c' = (c : Int) := (par_mem k (by omega) (by omega)).2 m1
   have hsz : ((c' + 1 + sz k' : Nat) : Int) = ((c' + 1 + sz (st k c') : Nat) : Int) := Ev.unique (spec_l01End_ev (tr k) (by omega) m2) (spec_l01End_ev (tr k) (by omega) (st_At k c' (by omega)))
   refine m5 _ ?_
   have := ih c' (by omega) m3 (by omega)
   rw [addrV_step k (v := c') (by omega) (by omega), hpc] at this
   unfold place at this
   rw [hpc, Int.toNat_natCast] at this
   rw [Nat.zero_add]
   exact this
theorem spec_AddressOf_ev (d : List Int) (hd : d.length ≤ 9223372036854775807) (v : Int) {R} (h : nodeR addrV [] d v R) : Ev (fun m => Xh.f m d v) R := by
 have e := spec_l01Nodes_ev d hd [v] (by simp)
 rcases h with ⟨h, rfl⟩ | ⟨k, a, rfl, hk, rfl, ha, h, rfl⟩
 ·unfold Xh.f
  exact Ev.bind e (Ev.neg h (Ev.now _))
 ·have hl := tr_length k
  unfold Xh.f
  refine Ev.bind e (Ev.pos h ?_)
  exact spec_AddressOf_l0 k hk a ha a 0 (by omega) (by omega) (by rw [st_zero]; omega)
theorem spec_SubtreeAt_ev (d : List Int) (hd : d.length ≤ 9223372036854775807) (v : Int) {R} (h : nodeR subV [] d v R) : Ev (fun m => Xbj.f m d v) R := by
 have e := spec_l01Nodes_ev d hd [v] (by simp)
 rcases h with ⟨h, rfl⟩ | ⟨k, a, rfl, hk, rfl, ha, h, rfl⟩
 ·unfold Xbj.f
  exact Ev.bind e (Ev.neg h (Ev.now _))
 ·have hl := tr_length k
  have hat := st_At k a ha
  unfold Xbj.f
  refine Ev.bind e (Ev.pos h ?_)
  exact Ev.bind (spec_l01Subtree_ev (tr k) (by omega) hat) (Ev.now _)
theorem DrawIsBelow_ex (c : List Int) (hc : bytesL c) (hl : c.length ≤ 4096) : ∃ t v w, Ev (fun k => Xbo.f k c) (t, v, w) ∧ t.length ≤ 25 := by
 obtain ⟨t, v, w, e, ht, _⟩ := With_ex c hc hl
 refine ⟨t, v, w, ?_, ht⟩
 unfold Xbo.f
 exact Ev.bind e (Ev.now _)
theorem spec_IsBelow_ev (d : List Int) (hd : d.length ≤ 9223372036854775807) (v w : Int) {R} (h : node2R belowV false d v w R) : Ev (fun m => Xbv.f m d v w) R := by
 have e := spec_l01Nodes_ev d hd [v, w] (by simp)
 rcases h with ⟨h, rfl⟩ | ⟨k, a, b, rfl, hk, rfl, ha, rfl, hb, h, rfl⟩
 ·unfold Xbv.f
  exact Ev.bind e (Ev.neg h (Ev.now _))
 ·have hl := tr_length k
  unfold Xbv.f
  refine Ev.bind e (Ev.pos h ?_)
  by_cases c : (a : Int) ≥ b
  ·refine Ev.pos c (Ev.bind (spec_l01End_ev (tr k) (by omega) (st_At k b hb)) (Ev.some ?_))
   unfold belowV
   congr 1
   rw [Bool.eq_iff_iff, decide_eq_true_eq, decide_eq_true_eq]
   omega
  ·refine Ev.neg c (Ev.some ?_)
   unfold belowV
   congr 1
   rw [eq_comm, decide_eq_false_iff_not]
   omega
def repF : F → Nat → F → F
 | nil, _, _ => nil
 | cons _ r, 0, g => cons g r
 | cons k r, v + 1, g => if v < sz k then cons (repF k v g) r else cons k (repF r (v - sz k) g)
theorem repF_len (g : F) : ∀ (f : F) (v : Nat), len (repF f v g) = len f := by
 intro f
 induction f with
 | nil => intro v; rfl
 | cons k r _ ihr =>
  intro v
  cases v with
  | zero => rfl
  | succ v =>
   simp only [repF]
   by_cases c : v < sz k
   ·rw [if_pos c]; rfl
   ·rw [if_neg c]; simp only [len, ihr]
theorem repF_sz (g : F) : ∀ (f : F) (v : Nat), v < sz f → sz (repF f v g) + sz (sub f v) = sz f + sz g := by
 intro f
 induction f with
 | nil => intro v h; simp [sz] at h
 | cons k r ihk ihr =>
  intro v h
  simp only [sz] at h
  cases v with
  | zero => simp only [repF, sub, sz]; omega
  | succ v =>
   simp only [repF, sub]
   by_cases c : v < sz k
   ·have := ihk v c
    rw [if_pos c, if_pos c]; simp only [sz]; omega
   ·have := ihr (v - sz k) (by omega)
    rw [if_neg c, if_neg c]; simp only [sz]; omega
theorem repF_degs (g : F) : ∀ (f : F) (v : Nat), v < sz f → degs (repF f v g) = (degs f).take v ++ ((len g : Int) :: degs g) ++ (degs f).drop (v + 1 + sz (sub f v)) := by
 intro f
 induction f with
 | nil => intro v h; simp [sz] at h
 | cons k r ihk ihr =>
  intro v h
  simp only [sz] at h
  cases v with
  | zero =>
   simp only [repF, sub, degs, List.take_zero, List.nil_append, List.cons_append]
   rw [show 0 + 1 + sz k = sz k + 1 by omega, List.drop_succ_cons, drop_app_right (by rw [degs_length]; omega), degs_length, Nat.sub_self, List.drop_zero]
  | succ v =>
   simp only [repF, sub, degs]
   by_cases c : v < sz k
   ·have hs := sub_sz k v c
    rw [if_pos c, if_pos c, show v + 1 + 1 + sz (sub k v) = (v + 1 + sz (sub k v)) + 1 by omega, List.take_succ_cons, List.drop_succ_cons, drop_app_left (by rw [degs_length]; omega), List.take_append_of_le_length (by rw [degs_length]; omega)]
    simp only [degs, repF_len, ihk v c, List.cons_append, List.append_assoc]
   ·rw [if_neg c, if_neg c, show v + 1 + 1 + sz (sub r (v - sz k)) = (v + 1 + sz (sub r (v - sz k))) + 1 by omega, List.take_succ_cons, List.drop_succ_cons, drop_app_right (by rw [degs_length]; omega), List.take_append, List.take_of_length_le (by rw [degs_length]; omega), degs_length]
    simp only [degs, ihr (v - sz k) (by omega), List.cons_append, List.append_assoc]
    rw [show v + 1 + sz (sub r (v - sz k)) - sz k = v - sz k + 1 + sz (sub r (v - sz k)) by omega]
theorem repF_lt (g : F) {f : F} {v : Nat} (h : v < sz f) : v < sz (repF f v g) := by
 have h1 := repF_sz g f v h
 have h2 := sub_sz f v h
 omega
theorem sub_repF (g : F) : ∀ (f : F) (v : Nat), v < sz f → sub (repF f v g) v = g := by
 intro f
 induction f with
 | nil => intro v h; simp [sz] at h
 | cons k r ihk ihr =>
  intro v h
  simp only [sz] at h
  cases v with
  | zero => rfl
  | succ v =>
   simp only [repF]
   by_cases c : v < sz k
   ·rw [if_pos c]
    simp only [sub]
    rw [if_pos (repF_lt g c)]
    exact ihk v c
   ·rw [if_neg c]
    simp only [sub]
    rw [if_neg c]
    exact ihr (v - sz k) (by omega)
theorem repF_repF (g : F) : ∀ (f : F) (v : Nat), v < sz f → repF (repF f v g) v (sub f v) = f := by
 intro f
 induction f with
 | nil => intro v h; simp [sz] at h
 | cons k r ihk ihr =>
  intro v h
  simp only [sz] at h
  cases v with
  | zero => rfl
  | succ v =>
   simp only [repF, sub]
   by_cases c : v < sz k
   ·rw [if_pos c, if_pos c]
    simp only [repF]
    rw [if_pos (repF_lt g c), ihk v c]
   ·rw [if_neg c, if_neg c]
    simp only [repF]
    rw [if_neg c, ihr (v - sz k) (by omega)]
/-- the tree with another one below a node -/
def repT (k : F) : Nat → F → F
 | 0, g => g
 | v + 1, g => repF k v g
theorem repT_eq (k : F) (a : Nat) (g : F) (ha : a ≤ sz k) : repF (cons k nil) a g = cons (repT k a g) nil := by
 cases a with
 | zero => rfl
 | succ v => simp only [repF, repT]; rw [if_pos (by omega)]
theorem repB_eq (k : F) (a : Nat) (g : F) (ha : a ≤ sz k) : repB k a (tr g) = tr (repT k a g) := by
 have h := repF_degs g (cons k nil) a (by simp only [sz]; omega)
 rw [repT_eq k a g ha] at h
 unfold repB tr st
 rw [h]
 simp only [degs, List.append_nil]
theorem repT_st (k : F) (a : Nat) (g : F) (ha : a ≤ sz k) : a ≤ sz (repT k a g) ∧ st (repT k a g) a = g ∧ repT (repT k a g) a (st k a) = k := by
 have hs : a < sz (cons k nil) := by simp only [sz]; omega
 have h1 := repF_lt g hs
 have h2 := sub_repF g _ a hs
 have h3 := repF_repF g _ a hs
 rw [repT_eq k a g ha] at h1 h2 h3
 have h4 : a ≤ sz (repT k a g) := by simp only [sz] at h1; omega
 refine ⟨h4, h2, ?_⟩
 rw [repT_eq _ a _ h4] at h3
 injection h3
theorem tops_sub (f : F) : ∀ (c : Nat) (p : Nat × F), p ∈ tops c f → c ≤ p.1 ∧ p.1 + 1 + sz p.2 ≤ c + sz f ∧ sub f (p.1 - c) = p.2 := by
 induction f with
 | nil => intro c p h; simp [tops] at h
 | cons k r _ ihr =>
  intro c p h
  simp only [tops, List.mem_cons] at h
  simp only [sz]
  rcases h with rfl | h
  ·refine ⟨Nat.le_refl _, by simp only; omega, ?_⟩
   simp only [Nat.sub_self, sub]
  ·obtain ⟨h1, h2, h3⟩ := ihr _ p h
   refine ⟨by omega, by omega, ?_⟩
   obtain ⟨j, hj⟩ : ∃ j, p.1 - c = j + 1 := ⟨p.1 - c - 1, by omega⟩
   rw [hj]
   simp only [sub]
   rw [if_neg (by omega), show j - sz k = p.1 - (c + 1 + sz k) by omega, h3]
theorem sub_sub : ∀ (f : F) (i j : Nat), i < sz f → j < sz (sub f i) → sub f (i + 1 + j) = sub (sub f i) j := by
 intro f
 induction f with
 | nil => intro i j h; simp [sz] at h
 | cons k r ihk ihr =>
  intro i j h hj
  simp only [sz] at h
  cases i with
  | zero =>
   simp only [sub] at hj ⊢
   rw [show 0 + 1 + j = j + 1 by omega]
   simp only [sub]
   rw [if_pos hj]
  | succ i =>
   rw [show i + 1 + 1 + j = (i + 1 + j) + 1 by omega]
   simp only [sub] at hj ⊢
   by_cases c : i < sz k
   ·rw [if_pos c] at hj ⊢
    have hs := sub_sz k i c
    rw [if_pos (by omega)]
    exact ihk i j c hj
   ·rw [if_neg c] at hj ⊢
    rw [if_neg (by omega), show i + 1 + j - sz k = i - sz k + 1 + j by omega]
    exact ihr (i - sz k) j (by omega) hj
theorem st_kid (k : F) {v : Nat} (hv : v ≤ sz k) {p : Nat × F} (hp : p ∈ tops (v + 1) (st k v)) : v < p.1 ∧ p.1 ≤ sz k ∧ p.1 + sz p.2 ≤ v + sz (st k v) ∧ st k p.1 = p.2 := by
 obtain ⟨h1, h2, h3⟩ := tops_sub _ _ p hp
 have hs := sub_small k v hv
 refine ⟨by omega, by omega, by omega, ?_⟩
 have h4 := sub_sub (cons k nil) v (p.1 - (v + 1)) (by simp only [sz]; omega) (by unfold st at h2; omega)
 rw [show v + 1 + (p.1 - (v + 1)) = p.1 by omega] at h4
 exact h4.trans h3
theorem walk_app (k : F) (ys : List Int) : ∀ (xs : List Int) (v w : Nat), v ≤ sz k → walk v (st k v) xs = ((w : Int), 0) → w ≤ sz k ∧ walk v (st k v) (xs ++ ys) = walk w (st k w) ys := by
 intro xs
 induction xs with
 | nil =>
  intro v w hv h
  simp only [walk, Prod.mk.injEq, and_true] at h
  obtain rfl : v = w := by omega
  exact ⟨hv, rfl⟩
 | cons i is ih =>
  intro v w hv h
  simp only [List.cons_append, walk] at h ⊢
  cases e : (tops (v + 1) (st k v))[i.toNat]? with
  | none => rw [e] at h; simp at h
  | some p =>
   rw [e] at h
   simp only at h ⊢
   obtain ⟨_, h2, _, h4⟩ := st_kid k hv (List.mem_of_getElem? e)
   rw [← h4] at h ⊢
   exact ih p.1 w h2 h
theorem idx_get (v : Int) : ∀ (l : List Int), v ∈ l → l[l.idxOf v]? = some v := by
 intro l
 induction l with
 | nil => intro h; simp at h
 | cons y ys ih =>
  intro h
  by_cases c : y = v
  ·subst c; simp
  ·rw [idx_ne c, Nat.succ_eq_add_one, List.getElem?_cons_succ]
   exact ih ((List.mem_cons.1 h).resolve_left (fun e => c e.symm))
theorem addr_walk (k : F) : ∀ (n v : Nat), v ≤ n → v ≤ sz k → walk 0 k (addrV k v) = ((v : Int), 0) := by
 intro n
 induction n with
 | zero =>
  intro v h _
  obtain rfl : v = 0 := by omega
  rfl
 | succ n ih =>
  intro v h hs
  by_cases c : v = 0
  ·subst c; rfl
  ·have hp := par_pos k (j := v) (by omega) hs
   have h0 := ih (par k v).toNat (by omega) (by omega)
   obtain ⟨_, h2⟩ := walk_app k [place k v] (addrV k (par k v).toNat) 0 (par k v).toNat (by omega) h0
   rw [addrV_step k (by omega) hs]
   refine h2.trans ?_
   have hm := (par_mem k (i := (par k v).toNat) (j := v) (by omega) hs).1 (by omega)
   have hg := idx_get _ _ hm
   unfold place
   simp only [walk, Int.toNat_natCast]
   rw [tops_offs, List.getElem?_map] at hg
   obtain ⟨p, hp1, hp2⟩ := Option.map_eq_some_iff.1 hg
   rw [← tops_offs] at hp1
   rw [hp1]
   simp only [walk]
   rw [hp2]
theorem addr_nonneg (k : F) : ∀ (n v : Nat), ∀ x ∈ addrN k n v, 0 ≤ x := by
 intro n
 induction n with
 | zero => intro v x h; simp [addrN] at h
 | succ n ih =>
  intro v x h
  simp only [addrN] at h
  by_cases c : v = 0
  ·rw [if_pos c] at h; simp at h
  ·rw [if_neg c] at h
   rcases List.mem_append.1 h with h | h
   ·exact ih _ x h
   ·simp only [List.mem_singleton] at h
    subst h
    exact Int.natCast_nonneg _
theorem tops_repF (g : F) : ∀ (s : F) (c i a : Nat) (p : Nat × F), (tops c s)[i]? = some p → p.1 ≤ a → a < p.1 + 1 + sz p.2 → (tops c (repF s (a - c) g))[i]? = some (p.1, if a = p.1 then g else repF p.2 (a - p.1 - 1) g) := by
 intro s
 induction s with
 | nil => intro c i a p h; simp [tops] at h
 | cons k r _ ihr =>
  intro c i a p h h1 h2
  cases i with
  | zero =>
   simp only [tops, List.getElem?_cons_zero, Option.some.injEq] at h
   subst h
   simp only at h1 h2 ⊢
   by_cases e : a = c
   ·subst e
    rw [if_pos rfl, Nat.sub_self]
    rfl
   ·obtain ⟨m, hm⟩ : ∃ m, a - c = m + 1 := ⟨a - c - 1, by omega⟩
    rw [if_neg e, hm]
    simp only [repF]
    rw [if_pos (by omega)]
    simp only [tops, List.getElem?_cons_zero]
    rw [show m + 1 - 1 = m by omega]
  | succ i =>
   simp only [tops, List.getElem?_cons_succ] at h
   obtain ⟨h3, _, _⟩ := tops_sub _ _ p (List.mem_of_getElem? h)
   obtain ⟨m, hm⟩ : ∃ m, a - c = m + 1 := ⟨a - c - 1, by omega⟩
   rw [hm]
   simp only [repF]
   rw [if_neg (by omega)]
   simp only [tops, List.getElem?_cons_succ]
   rw [show m - sz k = a - (c + 1 + sz k) by omega]
   exact ihr _ i a p h h1 h2
theorem walk_repF (g : F) (a : Nat) : ∀ (l : List Int) (b : Nat) (s : F), walk b s l = ((a : Int), 0) → (l = [] ∧ a = b) ∨ (b < a ∧ a - b - 1 < sz s ∧ walk b (repF s (a - b - 1) g) l = ((a : Int), 0)) := by
 intro l
 induction l with
 | nil =>
  intro b s h
  simp only [walk, Prod.mk.injEq, and_true] at h
  exact .inl ⟨rfl, by omega⟩
 | cons i is ih =>
  intro b s h
  simp only [walk] at h
  cases e : (tops (b + 1) s)[i.toNat]? with
  | none => rw [e] at h; simp at h
  | some p =>
   rw [e] at h
   simp only at h
   obtain ⟨h1, h2, _⟩ := tops_sub _ _ p (List.mem_of_getElem? e)
   right
   rcases ih p.1 p.2 h with ⟨hi, ha⟩ | ⟨h3, h4, h5⟩
   ·have ht := tops_repF g s (b + 1) i.toNat a p e (by omega) (by omega)
    refine ⟨by omega, by omega, ?_⟩
    simp only [walk]
    rw [show a - b - 1 = a - (b + 1) by omega, ht]
    subst hi
    simp only [walk]
    rw [ha]
   ·have ht := tops_repF g s (b + 1) i.toNat a p e (by omega) (by omega)
    refine ⟨by omega, by omega, ?_⟩
    simp only [walk]
    rw [show a - b - 1 = a - (b + 1) by omega, ht]
    simp only
    rw [if_neg (by omega)]
    exact h5
theorem addr_repT (k : F) (a : Nat) (g : F) (ha : a ≤ sz k) : walk 0 (repT k a g) (addrV k a) = ((a : Int), 0) := by
 rcases walk_repF g a (addrV k a) 0 k (addr_walk k a a (Nat.le_refl _) ha) with ⟨h1, h2⟩ | ⟨h1, _, h3⟩
 ·rw [h1, h2]; rfl
 ·obtain ⟨v, rfl⟩ : ∃ v, a = v + 1 := ⟨a - 1, by omega⟩
  rw [show v + 1 - 0 - 1 = v by omega] at h3
  exact h3
theorem par_sub : ∀ (f : F) (p : Int) (a i m : Nat), i < sz f → m < sz (sub f i) → parAt p a f (i + 1 + m) = parAt ((a + i : Nat) : Int) (a + i + 1) (sub f i) m := by
 intro f
 induction f with
 | nil => intro p a i m h; simp [sz] at h
 | cons k r ihk ihr =>
  intro p a i m h hm
  simp only [sz] at h
  cases i with
  | zero =>
   simp only [sub] at hm ⊢
   rw [show 0 + 1 + m = m + 1 by omega]
   simp only [parAt]
   rw [if_pos hm]
   rfl
  | succ i =>
   rw [show i + 1 + 1 + m = (i + 1 + m) + 1 by omega]
   simp only [sub, parAt] at hm ⊢
   by_cases c : i < sz k
   ·rw [if_pos c] at hm ⊢
    have hs := sub_sz k i c
    rw [if_pos (by omega), ihk a (a + 1) i m c hm, show a + 1 + i = a + (i + 1) by omega]
   ·rw [if_neg c] at hm ⊢
    rw [if_neg (by omega), show i + 1 + m - sz k = i - sz k + 1 + m by omega, ihr p (a + 1 + sz k) (i - sz k) m (by omega) hm, show a + 1 + sz k + (i - sz k) = a + (i + 1) by omega]
/-- c is above j, or j itself -/
def cov (k : F) (c j : Nat) : Prop := c ≤ j ∧ j < c + 1 + sz (st k c)
theorem below_cov {k : F} {a b : Nat} : belowV k a b = true ↔ cov k b a := by
 unfold belowV cov
 rw [decide_eq_true_eq]
theorem cov_in {k : F} {c j : Nat} (hj : j ≤ sz k) (h : cov k c j) : j + sz (st k j) ≤ c + sz (st k c) := by
 obtain ⟨h1, h2⟩ := h
 by_cases e : c = j
 ·subst e; exact Nat.le_refl _
 ·have hs : c < sz (cons k nil) := by simp only [sz]; omega
  have h3 : j - (c + 1) < sz (sub (cons k nil) c) := by unfold st at h2; omega
  have h4 := sub_sub (cons k nil) c (j - (c + 1)) hs h3
  rw [show c + 1 + (j - (c + 1)) = j by omega] at h4
  have h5 := sub_sz _ _ h3
  rw [← h4] at h5
  unfold st
  omega
theorem cov_trans {k : F} {c j x : Nat} (hj : j ≤ sz k) (h : cov k c j) (h' : cov k j x) : cov k c x := by
 have := cov_in hj h
 unfold cov at h h' ⊢
 omega
theorem cov_par {k : F} {j : Nat} (h1 : 1 ≤ j) (hj : j ≤ sz k) : cov k (par k j).toNat j := by
 have hp := par_pos k h1 hj
 have hm := (par_mem k (i := (par k j).toNat) (j := j) (by omega) hj).1 (by omega)
 have hb := offs_bound _ _ _ hm
 unfold cov
 omega
theorem cov_up {k : F} {c j : Nat} (hj : j ≤ sz k) (h : cov k c j) (hne : c ≠ j) : cov k c (par k j).toNat := by
 obtain ⟨h1, h2⟩ := h
 have hs : c < sz (cons k nil) := by simp only [sz]; omega
 have h3 : j - (c + 1) < sz (sub (cons k nil) c) := by unfold st at h2; omega
 have h4 := par_sub (cons k nil) (-1) 0 c (j - (c + 1)) hs h3
 rw [show c + 1 + (j - (c + 1)) = j by omega, Nat.zero_add] at h4
 have h5 := parAt_bound (sub (cons k nil) c) (c : Int) (c + 1) (j - (c + 1)) h3
 have h6 : par k j = parAt (c : Int) (c + 1) (sub (cons k nil) c) (j - (c + 1)) := h4
 rw [← h6] at h5
 unfold cov st
 unfold st at h2
 omega
theorem meet_is (k : F) (b : Nat) (hb : b ≤ sz k) : ∀ (n a : Nat), a < n → a ≤ sz k → ∃ m : Nat, meetN k b n a = (m : Int) ∧ m ≤ sz k ∧ cov k m a ∧ cov k m b ∧ ∀ c, cov k c a → cov k c b → cov k c m := by
 intro n
 induction n with
 | zero => intro a h; omega
 | succ n ih =>
  intro a h ha
  simp only [meetN]
  by_cases c : belowV k b a = true
  ·rw [if_pos c]
   exact ⟨a, rfl, ha, ⟨Nat.le_refl _, by omega⟩, below_cov.1 c, fun d h1 _ => h1⟩
  ·rw [if_neg c]
   have h1 : 1 ≤ a := by
    rcases Nat.eq_zero_or_pos a with z | z
    ·exact absurd (z ▸ below_zero k b hb) c
    ·exact z
   have hp := par_pos k h1 ha
   obtain ⟨m, e, m1, m2, m3, m4⟩ := ih (par k a).toNat (by omega) (by omega)
   refine ⟨m, e, m1, cov_trans (by omega) m2 (cov_par h1 ha), m3, fun d d1 d2 => m4 d (cov_up ha d1 (fun hd => c (below_cov.2 (hd ▸ d2)))) d2⟩
theorem meet_swap (k : F) {a b : Nat} (ha : a ≤ sz k) (hb : b ≤ sz k) : ∃ m : Nat, meetV k a b = (m : Int) ∧ meetV k b a = (m : Int) ∧ m ≤ sz k ∧ belowV k a m = true ∧ belowV k b m = true := by
 obtain ⟨m, e, m1, m2, m3, m4⟩ := meet_is k b hb (sz k + 1) a (by omega) ha
 obtain ⟨n, e', n1, n2, n3, n4⟩ := meet_is k a ha (sz k + 1) b (by omega) hb
 have h1 := n4 m m3 m2
 have h2 := m4 n n3 n2
 have : m = n := Nat.le_antisymm h1.1 h2.1
 subst this
 exact ⟨m, e, e', m1, below_cov.2 m2, below_cov.2 m3⟩
theorem lexV_self : ∀ (d : List Int), lexV d d = 0 := by
 intro d
 induction d with
 | nil => rfl
 | cons x xs ih => simp only [lexV]; rw [if_pos trivial]; exact ih
theorem code_one {k : F} (hk : sz k ≤ 23) {a : Nat} (ha : a ≤ sz k) : codeN (tr k) [(a : Int)] = 0 := by
 have hl := tr_length k
 simp only [codeN, codeV]
 rw [if_pos (isT_tr hk), if_pos (by omega)]
theorem code_two {k : F} (hk : sz k ≤ 23) {a b : Nat} (ha : a ≤ sz k) (hb : b ≤ sz k) : codeN (tr k) [(a : Int), (b : Int)] = 0 := by
 have hl := tr_length k
 simp only [codeN, codeV]
 rw [if_pos (isT_tr hk), if_pos (by omega), if_pos (by omega)]
theorem node_of {α : Type} (val : F → Nat → α) (z : α) {k : F} (hk : sz k ≤ 23) {a : Nat} (ha : a ≤ sz k) : nodeR val z (tr k) (a : Int) (val k a, 0) := .inr ⟨k, a, rfl, hk, rfl, ha, code_one hk ha, rfl⟩
theorem node2_of {α : Type} (val : F → Nat → Nat → α) (z : α) {k : F} (hk : sz k ≤ 23) {a b : Nat} (ha : a ≤ sz k) (hb : b ≤ sz k) : node2R val z (tr k) (a : Int) (b : Int) (val k a b, 0) := .inr ⟨k, a, b, rfl, hk, rfl, ha, rfl, hb, code_two hk ha hb, rfl⟩
theorem FnTreeParts : ∀ (l : List Int), l.length ≤ maxLen → (∀ x ∈ l, (Lit.int .u8 x).wf = true) → ∃ k, laws_FnTreeParts.f k l = some true := by
 intro l hmax hwf
 suffices H : Ev (fun k => laws_FnTreeParts.f k l) true by
  obtain ⟨K, h⟩ := H
  exact ⟨K, h K (Nat.le_refl _)⟩
 unfold laws_FnTreeParts.f
 simp only [laws_big_eq, Option.bind_some]
 by_cases c : (l.length : Int) > 4096
 ·exact Ev.pos (by simpa using c) (Ev.now _)
 ·refine Ev.neg (by simpa using c) ?_
  have hl : l.length ≤ 4096 := by omega
  have hb : bytesL l := fun x hx => by
   have := hwf x hx
   simp only [Lit.wf, Bool.and_eq_true, decide_eq_true_eq] at this
   exact this
  have eight : Ev (fun m => laws_FnTreeParts.j8 m l) true := by
   obtain ⟨ts, d1, hts, htx⟩ := DrawJoinTrees_ex l hb hl
   have a1 := impl_JoinTrees_ev ts (by omega) (fun x hx => by have := htx x hx; omega)
   have a2 := spec_JoinTrees_ev ts (by omega) (fun x hx => by have := htx x hx; omega)
   have b1 := joinR_length ts
   obtain ⟨z, w, d2, hz⟩ := DrawRemoveAt_ex l hb hl
   obtain ⟨R, hR⟩ := remR_ex z w
   have a3 := impl_RemoveAt_ev z (by omega) w hR
   have a4 := spec_RemoveAt_ev z (by omega) w hR
   have b2 := remR_len hR
   obtain ⟨t, u, d3, ht, hu⟩ := DrawCompareTrees_ex l hb hl
   have a5 := impl_CompareTrees_ev t u (by omega) (by omega)
   have a6 := spec_CompareTrees_ev t u (by omega) (by omega)
   obtain ⟨e, ad, d4, he, had⟩ := DrawNodeAt_ex l hb hl
   obtain ⟨N, hN⟩ := nodeAtV_ex e ad
   have a7 := impl_NodeAt_ev e ad (by omega) (by omega) hN
   have a8 := spec_NodeAt_ev e ad (by omega) (by omega) hN
   obtain ⟨f, g, d5, hf⟩ := DrawAddressOf_ex l hb hl
   obtain ⟨A, hA⟩ := nodeR_ex addrV [] f g
   have a9 := impl_AddressOf_ev f (by omega) g hA
   have a10 := spec_AddressOf_ev f (by omega) g hA
   have b3 := nodeR_len hA (fun k a h1 h2 => by have := addrV_length k a a (Nat.le_refl _) h2; omega)
   obtain ⟨S', hS⟩ := nodeR_ex subV [] f g
   have a11 := impl_SubtreeAt_ev f (by omega) g hS
   have a12 := spec_SubtreeAt_ev f (by omega) g hS
   have b4 := nodeR_len hS subV_length
   obtain ⟨h, i, j, d6, hh⟩ := DrawIsBelow_ex l hb hl
   obtain ⟨B, hB⟩ := node2R_ex belowV false h i j
   have a13 := impl_IsBelow_ev h (by omega) i j hB
   have a14 := spec_IsBelow_ev h (by omega) i j hB
   apply Ev.succ
   simp only [laws_FnTreeParts.j8]
   refine Ev.bind d1 (Ev.bind a1 (Ev.bind a2 (Ev.bind d2 (Ev.bind a3 (Ev.bind a4 (Ev.bind d3 (Ev.bind a5 (Ev.bind a6 (Ev.bind d4 ?_)))))))))
   refine Ev.bind a7 (Ev.bind a8 (Ev.bind d5 (Ev.bind a9 (Ev.bind a10 (Ev.bind a11 (Ev.bind a12 (Ev.bind d6 (Ev.bind a13 (Ev.bind a14 ?_)))))))))
   refine Ev.pos (by trivial) (Ev.bind (trees5_self _ (by omega)) (Ev.pos (by trivial) (Ev.pos (by trivial) (Ev.bind (trees5_self _ (by omega)) (Ev.pos (by trivial) ?_)))))
   refine Ev.pos (by trivial) (Ev.pos (by trivial) (Ev.pos (by trivial) (Ev.pos (by trivial) (Ev.pos (by trivial) (Ev.bind (likeInts_self _ (by omega)) (Ev.pos (by trivial) ?_))))))
   exact Ev.pos (by trivial) (Ev.bind (trees5_self _ (by omega)) (Ev.pos (by trivial) (Ev.pos (by trivial) (Ev.some (by simp)))))
  have ne : ∀ x : Int, (x != x) = false := fun x => by simp
  have five : Ev (fun m => laws_FnTreeParts.j5 m l) true := by
   obtain ⟨y, a, b, d1, hy⟩ := DrawMeetOf_ex l hb hl
   obtain ⟨R, hR⟩ := node2R_ex meetV 0 y a b
   have a1 := impl_MeetOf_ev y (by omega) a b hR
   have a2 := spec_MeetOf_ev y (by omega) a b hR
   apply Ev.succ
   simp only [laws_FnTreeParts.j5]
   refine Ev.bind d1 (Ev.bind a1 (Ev.bind a2 (Ev.pos (by trivial) ?_)))
   rw [ne]
   apply Ev.succ
   simp only [laws_FnTreeParts.j6]
   refine Ev.neg (by simp) ?_
   rcases hR with ⟨h0, rfl⟩ | ⟨k, a, b, rfl, hk, rfl, ha, rfl, hb', hc, rfl⟩
   ·exact Ev.neg h0 eight
   ·obtain ⟨m, m1, m2, m3, m4, m5⟩ := meet_swap k ha hb'
    have b1 := impl_IsBelow_ev (tr k) (by omega) (a : Int) (m : Int) (node2_of belowV false hk ha m3)
    have b2 := impl_IsBelow_ev (tr k) (by omega) (b : Int) (m : Int) (node2_of belowV false hk hb' m3)
    have b3 := impl_MeetOf_ev (tr k) (by omega) (b : Int) (a : Int) (node2_of meetV 0 hk hb' ha)
    simp only [m1]
    rw [m2] at b3
    refine Ev.pos (by trivial) (Ev.bind b1 (Ev.bind b2 (Ev.bind b3 (Ev.pos (by trivial) (Ev.pos (by trivial) (Ev.pos (by trivial) (Ev.pos m4 (Ev.pos m5 ?_))))))))
    rw [ne]
    apply Ev.succ
    simp only [laws_FnTreeParts.j7]
    exact Ev.neg (by simp) eight
  have two : Ev (fun m => laws_FnTreeParts.j2 m l) true := by
   obtain ⟨x, d1, hx⟩ := DrawMirrorOf_ex l hb hl
   obtain ⟨R, hR⟩ := treeR_ex mirV [] x
   have a1 := impl_MirrorOf_ev x (by omega) hR
   have a2 := spec_MirrorOf_ev x (by omega) hR
   have b1 := treeR_len hR mirV_length
   apply Ev.succ
   simp only [laws_FnTreeParts.j2]
   refine Ev.bind d1 (Ev.bind a1 (Ev.bind a2 (Ev.pos (by trivial) (Ev.bind (trees5_self _ (by omega)) ?_))))
   apply Ev.succ
   simp only [laws_FnTreeParts.j3]
   refine Ev.neg (by simp) ?_
   rcases hR with ⟨h0, rfl⟩ | ⟨k, rfl, hk, hi, rfl⟩
   ·exact Ev.neg (by simp) five
   ·have htl := tr_length k
    have hm : sz (mir k) ≤ 23 := by rw [mir_sz]; exact hk
    have hmm : mirV (mir k) = tr k := by unfold mirV; rw [mir_mir]
    have b2 := impl_MirrorOf_ev (tr (mir k)) (by rw [tr_length]; omega) (R := (mirV (mir k), 0)) (.inr ⟨mir k, rfl, hm, isT_tr hm, rfl⟩)
    rw [hmm] at b2
    have b3 := impl_CompareTrees_ev (tr k) (tr k) (by omega) (by omega)
    have b4 : cmpR (tr k) (tr k) = (0, 0) := by
     unfold cmpR cmpV
     rw [if_pos ⟨hi, hi⟩, if_neg (by omega), if_neg (by omega), lexV_self]
    rw [b4] at b3
    refine Ev.pos (by trivial) (Ev.bind b2 (Ev.bind b3 (Ev.pos (by trivial) (Ev.pos (by trivial) (Ev.bind (trees5_self (tr k) (by omega)) (Ev.pos (by trivial) ?_))))))
    rw [ne]
    apply Ev.succ
    simp only [laws_FnTreeParts.j4]
    exact Ev.neg (by simp) five
  obtain ⟨t, v, u, d1, ht, hu⟩ := DrawReplaceAt_ex l hb hl
  obtain ⟨R, hR⟩ := repR_ex t v u
  have a1 := impl_ReplaceAt_ev t (by omega) v u (by omega) hR
  have a2 := spec_ReplaceAt_ev t (by omega) v u (by omega) hR
  have hRl : R.1.length ≤ 1000 := by
   rcases hR with ⟨_, rfl⟩ | ⟨_, _, rfl⟩ | ⟨k, a, _, _, _, _, _, _, _, rfl⟩
   ·simp
   ·simp
   ·by_cases c1 : (repB k a u).length > 24
    ·rw [if_pos c1]; simp
    ·rw [if_neg c1]; simp only; omega
  refine Ev.bind d1 (Ev.bind a1 (Ev.bind a2 (Ev.pos (by trivial) (Ev.bind (trees5_self _ (by omega)) ?_))))
  apply Ev.succ
  simp only [laws_FnTreeParts.j0]
  refine Ev.neg (by simp) ?_
  by_cases c0 : R.2 = 0
  ·refine Ev.pos c0 ?_
   rcases hR with ⟨_, rfl⟩ | ⟨_, h2, rfl⟩ | ⟨k, a, rfl, hk, rfl, ha, hc, hiu, hid, hR⟩
   ·cases c0
   ·exact absurd c0 h2
   ·have hle : (repB k a u).length ≤ 24 := by
     by_cases c1 : (repB k a u).length > 24
     ·rw [if_pos c1] at hR
      rw [hR] at c0
      cases c0
     ·omega
    rw [if_neg (by omega)] at hR
    obtain ⟨g, hg, hgs⟩ := (isT_iff u).1 hiu
    have hu' : u = tr g := hg
    subst hu'
    rw [repB_eq k a g ha] at hR hle
    subst hR
    rw [tr_length] at hle
    have hk' : sz (repT k a g) ≤ 23 := by omega
    obtain ⟨s1, s2, s3⟩ := repT_st k a g ha
    have hst : sz (st k a) ≤ 23 := by have := sub_small k a ha; omega
    have e1 := impl_SubtreeAt_ev (tr (repT k a g)) (by rw [tr_length]; omega) (a : Int) (node_of subV [] hk' s1)
    have e2 := impl_SubtreeAt_ev (tr k) (by omega) (a : Int) (node_of subV [] hk ha)
    have hv1 : subV (repT k a g) a = tr g := by unfold subV; rw [s2]
    rw [hv1] at e1
    have hv2 : subV k a = tr (st k a) := rfl
    rw [hv2] at e2
    have hrep : repB (repT k a g) a (tr (st k a)) = tr k := by rw [repB_eq _ a _ s1, s3]
    have hl1 := tr_length k
    have hl2 := tr_length g
    have e3 := impl_ReplaceAt_ev (tr (repT k a g)) (by rw [tr_length]; omega) (a : Int) (tr (st k a)) (by rw [tr_length]; omega) (R := (tr k, 0)) (.inr (.inr ⟨repT k a g, a, rfl, hk', rfl, s1, code_one hk' s1, isT_tr hst, isT_tr hk', by rw [hrep, if_neg (by omega)]⟩))
    have e4 := impl_AddressOf_ev (tr k) (by omega) (a : Int) (node_of addrV [] hk ha)
    have hal := addrV_length k a a (Nat.le_refl _) ha
    have e5 := impl_NodeAt_ev (tr (repT k a g)) (addrV k a) (by rw [tr_length]; omega) (by omega) (R := ((a : Int), 0)) (.inr (.inr ⟨repT k a g, rfl, hk', isT_tr hk', by omega, fun x hx => addr_nonneg k a a x hx, (addr_repT k a g ha).symm⟩))
    refine Ev.bind e1 (Ev.bind e2 (Ev.bind e3 (Ev.bind e4 (Ev.bind e5 ?_))))
    refine Ev.pos (by trivial) (Ev.pos (by trivial) (Ev.pos (by trivial) (Ev.pos (by trivial) (Ev.pos (by trivial) (Ev.bind (trees5_self (tr g) (by omega)) (Ev.pos (by trivial) (Ev.bind (trees5_self (tr k) (by omega)) (Ev.pos (by trivial) ?_))))))))
    rw [ne]
    apply Ev.succ
    simp only [laws_FnTreeParts.j1]
    exact Ev.neg (by simp) two
  ·exact Ev.neg c0 two

end Go.Proofs.Ytocachknmgefaaa.Pure
