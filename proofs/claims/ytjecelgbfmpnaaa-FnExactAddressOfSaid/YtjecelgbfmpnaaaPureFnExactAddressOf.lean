/- The pure statement of the law FnExactAddressOf is proved. Conditions: those of the statement alone. -/
import Derived.Test.YtjecelgbfmpnaaaQFnExactAddressOfx6
import Derived.Test.YtjecelgbfmpnaaaBase
import Derived.Test.YtjecelgbfmpnaaaBase2
import Derived.Test.YtjecelgbfmpnaaaBin
import Derived.Test.YtjecelgbfmpnaaaBase3
import Derived.Test.YtjecelgbfmpnaaaBase4
import Derived.Test.YtjecelgbfmpnaaaBase5
import Derived.Test.YtjecelgbfmpnaaaBase6
import Derived.Test.YtjecelgbfmpnaaaPar
import Derived.Test.YtjecelgbfmpnaaaPar2
import Derived.Test.YtjecelgbfmpnaaaRem
import Derived.Test.YtjecelgbfmpnaaaBin2
import Derived.Test.YtjecelgbfmpnaaaNum
namespace Go.Proofs.Ytjecelgbfmpnaaa.Pure
open Go.RowKit Go.Proofs.Ytjecelgbfmpnaaa.QFnExactAddressOf Go.Proofs.Ytjecelgbfmpnaaa.Base Go.Proofs.YtjecelgbfmpnaaaW.PrintWords Go.Proofs.YtjecelgbfmpnaaaW.PrintLast Go.Proofs.YtjecelgbfmpnaaaW.PrintMore
open Go.Proofs.Ytjecelgbfmpnaaa.Base.F
set_option linter.unusedVariables false
set_option linter.unusedSimpArgs false

theorem laws_szInt64S_ev (xs : List Int) (a : Int) (hm : xs.length ≤ 9223372036854775807) (ha : 0 ≤ a ∧ a ≤ 1048576) :
    laws_szInt64S.f xs a = some (if a < xs.length then -1 else a - xs.length) := by
  unfold laws_szInt64S.f
  rw [w64 (by omega)]
  by_cases c : a < xs.length
  · rw [if_pos (by omega), if_pos c]
  · rw [if_neg (by omega), if_neg c]
theorem laws_szTree_ev (xs : List Int) (a : Int) (hm : xs.length ≤ 9223372036854775807) (ha : 0 ≤ a ∧ a ≤ 1048576) :
    laws_szTree.f xs a = some (if a < xs.length then -1 else a - xs.length) := by
  unfold laws_szTree.f
  rw [laws_szInt64S_ev xs a hm ha]
  by_cases c : a < xs.length
  · simp only [if_pos c, Option.bind_some]; rfl
  · simp only [if_neg c, Option.bind_some]
    rw [if_neg (by omega)]
theorem laws_toInt64S_ev (xs : List Int) (hm : xs.length ≤ 1048576) : Ev (fun k => laws_toInt64S.f k xs) xs := by
  have key : ∀ (d i : Nat) (ys : List Int), i + d = xs.length → ys.length = xs.length → ys.take i = xs.take i →
      Ev (fun k => laws_toInt64S.l0 k xs ys i) xs := by
    intro d
    induction d with
    | zero =>
      intro i ys h hl ht
      apply Ev.succ
      simp (disch := omega) only [laws_toInt64S.l0, if_pos, if_neg]
      refine Ev.some ?_
      rw [List.take_of_length_le (by omega), List.take_of_length_le (by omega)] at ht
      exact ht
    | succ d ih =>
      intro i ys h hl ht
      apply Ev.succ
      simp (disch := omega) only [laws_toInt64S.l0, if_pos, if_neg, w64]
      exact ih (i + 1) (ys.set i (rd xs i)) (by omega) (by rw [List.length_set, hl]) (by rw [take_set_succ _ _ _ (by omega), ht, take_rd_succ _ _ (by omega)])
  unfold laws_toInt64S.f
  refine Ev.pos (by omega) (Ev.pos (by omega) ?_)
  exact key xs.length 0 _ (by omega) (by rw [List.length_replicate]; omega) (by simp)
theorem laws_toTree_ev (xs : List Int) (hm : xs.length ≤ 1048576) : Ev (fun k => laws_toTree.f k xs) xs := by
  unfold laws_toTree.f
  exact Ev.bind (laws_toInt64S_ev xs hm) (Ev.now _)
theorem laws_eqInt64S_ev (xs : List Int) (hm : xs.length ≤ 140737488351232) : Ev (fun k => laws_eqInt64S.f k xs xs) true := by
  have key : ∀ (d i : Nat), i + d = xs.length → Ev (fun k => laws_eqInt64S.l0 k xs xs i) true := by
    intro d
    induction d with
    | zero =>
      intro i h
      apply Ev.succ
      simp (disch := omega) only [laws_eqInt64S.l0, if_pos, if_neg]
      exact Ev.now _
    | succ d ih =>
      intro i h
      apply Ev.succ
      simp (disch := omega) only [laws_eqInt64S.l0, if_pos, if_neg, w64]
      exact ih (i + 1) (by omega)
  unfold laws_eqInt64S.f
  exact Ev.pos rfl (key xs.length 0 (by omega))
theorem laws_eqTree_ev (xs : List Int) (hm : xs.length ≤ 140737488351232) : Ev (fun k => laws_eqTree.f k xs xs) true := by
  unfold laws_eqTree.f
  exact Ev.bind (laws_eqInt64S_ev xs hm) (Ev.now _)
theorem laws_markInt64S_ev (xs : List Int) (a : Int) (ha : 0 ≤ a) (hm : a + (xs.length : Int) ≤ 1000000000000000000) :
    Ev (fun k => laws_markInt64S.f k xs a) (a + xs.length, marks a xs.length) := by
  have key : ∀ (d i : Nat) (ys : List Int), i + d = xs.length → ys.length = xs.length → ys.take i = marks a i →
      Ev (fun k => laws_markInt64S.l0 k ys (a + i) i) (a + xs.length, marks a xs.length) := by
    intro d
    induction d with
    | zero =>
      intro i ys h hl ht
      apply Ev.succ
      simp (disch := omega) only [laws_markInt64S.l0, if_pos, if_neg]
      refine Ev.some ?_
      rw [show i = xs.length by omega] at ht ⊢
      rw [← ht, List.take_of_length_le (by omega)]
    | succ d ih =>
      intro i ys h hl ht
      apply Ev.succ
      simp (disch := omega) only [laws_markInt64S.l0, if_pos, if_neg, w64]
      have := ih (i + 1) (ys.set i (a + i)) (by omega) (by rw [List.length_set, hl]) (by rw [marks_succ, ← ht, take_set_succ _ _ _ (by omega)])
      rw [show a + ((i + 1 : Nat) : Int) = a + i + 1 by omega] at this
      exact this
  unfold laws_markInt64S.f
  have := key xs.length 0 xs (by omega) rfl (by simp [marks])
  simpa using this
theorem laws_markTree_ev (xs : List Int) (a : Int) (ha : 0 ≤ a) (hm : a + (xs.length : Int) ≤ 1000000000000000000) :
    Ev (fun k => laws_markTree.f k xs a) (a + xs.length, marks a xs.length) := by
  unfold laws_markTree.f
  exact Ev.bind (laws_markInt64S_ev xs a ha hm) (Ev.now _)
theorem laws_heldInt64S_ev (n : Nat) (a : Int) (ha : 0 ≤ a) (hm : a + (n : Int) ≤ 1000000000000000000) :
    Ev (fun k => laws_heldInt64S.f k (marks a n) a) (a + n) := by
  have key : ∀ (d i : Nat), i + d = n → Ev (fun k => laws_heldInt64S.l0 k (marks a n) (a + i) i) (a + n) := by
    intro d
    induction d with
    | zero =>
      intro i h
      have hl := marks_length a n
      apply Ev.succ
      simp (disch := omega) only [laws_heldInt64S.l0, if_pos, if_neg]
      refine Ev.some ?_
      omega
    | succ d ih =>
      intro i h
      have hl := marks_length a n
      have hr := rd_marks a n i (by omega)
      apply Ev.succ
      simp (disch := omega) only [laws_heldInt64S.l0, if_pos, if_neg, w64, hr]
      have := ih (i + 1) (by omega)
      rw [show a + ((i + 1 : Nat) : Int) = a + i + 1 by omega] at this
      exact this
  unfold laws_heldInt64S.f
  simpa using key n 0 (by omega)
theorem spec_l01In_eq (a b c : Int) : spec_l01In.f a b c = some (decide (b ≤ a ∧ a ≤ c)) := by
  unfold spec_l01In.f
  by_cases h : a ≥ b
  · rw [if_pos h]
    congr 1
    rw [Bool.eq_iff_iff, decide_eq_true_eq, decide_eq_true_eq]
    omega
  · rw [if_neg h]
    congr 1
    rw [eq_comm, decide_eq_false_iff_not]
    omega
theorem spec_l01N_eq (d : List Int) : spec_l01N.f d = some (d.length : Int) := rfl
theorem spec_l01Is_ev (d : List Int) (hm : d.length ≤ 9223372036854775807) : Ev (fun k => spec_l01Is.f k d) (isT d) := by
  have key : ∀ (n i : Nat) (need : Int), i + n = d.length → d.length ≤ 24 → 0 ≤ need → need ≤ 1 + 24 * (i : Int) →
      Ev (fun k => spec_l01Is.l0 k need i d) (okT 25 (d.drop i) need) := by
    intro n
    induction n with
    | zero =>
      intro i need h h24 h0 h1
      apply Ev.succ
      simp (disch := omega) only [spec_l01Is.l0, if_pos, if_neg]
      rw [List.drop_eq_nil_of_le (by omega)]
      exact Ev.some (by simp only [okT]; rw [Bool.eq_iff_iff]; simp)
    | succ n ih =>
      intro i need h h24 h0 h1
      apply Ev.succ
      have hi : i < d.length := by omega
      have hr : rd d i = d[i] := by rw [rd_nat, List.getD_eq_getElem?_getD, List.getElem?_eq_getElem hi]; rfl
      simp (disch := omega) only [spec_l01Is.l0, if_pos, if_neg, spec_l01In_eq, Option.bind_some, decide_eq_true_eq, hr]
      rw [List.drop_eq_getElem_cons hi]
      simp only [okT]
      by_cases c0 : need = 0
      · rw [if_pos c0]; exact Ev.pos c0 (Ev.now _)
      · rw [if_neg c0]
        refine Ev.neg c0 ?_
        by_cases c1 : d[i] < 0
        · rw [if_pos c1]; exact Ev.neg (by omega) (Ev.now _)
        · rw [if_neg c1]
          by_cases c2 : d[i] ≥ 25
          · rw [if_pos c2]; exact Ev.neg (by omega) (Ev.now _)
          · rw [if_neg c2]
            refine Ev.pos (by omega) ?_
            rw [w64 (x := need - 1) (by omega), w64 (by omega), w64 (by omega), show need - 1 + d[i] = need + (d[i] - 1) by omega]
            exact ih (i + 1) _ (by omega) h24 (by omega) (by omega)
  unfold spec_l01Is.f
  simp only [spec_l01N_eq, Option.bind_some, spec_l01In_eq, decide_eq_true_eq]
  by_cases c : 1 ≤ (d.length : Int) ∧ (d.length : Int) ≤ 24
  · refine Ev.pos c ?_
    have := key d.length 0 1 (by omega) (by omega) (by omega) (by omega)
    rw [List.drop_zero, okT_25 d (by omega)] at this
    have e : isT d = okT 24 d 1 := by
      unfold isT
      rw [decide_eq_true (by omega : 1 ≤ d.length), decide_eq_true (by omega : d.length ≤ 24)]
      simp
    rw [e]
    exact this
  · refine Ev.neg c ?_
    refine Ev.some ?_
    rw [eq_comm, Bool.eq_false_iff]
    intro h
    have := isT_length h
    omega
theorem spec_l01Nodes_ev (d : List Int) (hd : d.length ≤ 9223372036854775807) (vs : List Int) (hv : vs.length ≤ 1000) : Ev (fun m => spec_l01Nodes.f m d vs) (codeN d vs) := by
  have key : ∀ (xs : List Int) (i : Nat), isT d = true → vs.drop i = xs → i + xs.length = vs.length → Ev (fun m => spec_l01Nodes.l0 m vs i d) (codeV d xs) := by
    intro xs
    induction xs with
    | nil =>
      intro i ht h hi
      simp only [List.length_nil] at hi
      apply Ev.succ
      simp (disch := omega) only [spec_l01Nodes.l0, if_neg, codeV]
      exact Ev.now _
    | cons x xs ih =>
      intro i ht h hi
      simp only [List.length_cons] at hi
      have hr := rd_drop h
      have hl := isT_length ht
      have hdr := (drop_cons h).2.2
      apply Ev.succ
      simp (disch := omega) only [spec_l01Nodes.l0, if_pos, spec_l01N_eq, Option.bind_some, spec_l01In_eq, hr, w64, decide_eq_true_eq, codeV]
      by_cases c : 0 ≤ x ∧ x ≤ (d.length : Int) - 1
      · rw [if_pos (by omega)]
        exact Ev.pos c (ih (i + 1) ht hdr (by omega))
      · rw [if_neg (by omega)]
        exact Ev.neg c (Ev.now _)
  unfold spec_l01Nodes.f codeN
  refine Ev.bind (spec_l01Is_ev d hd) ?_
  cases h : isT d with
  | true => exact Ev.pos rfl (key vs 0 h rfl (by omega))
  | false => exact Ev.neg (by simp) (Ev.now _)
theorem spec_l01End_at (d : List Int) (hd : d.length ≤ 24) : ∀ (n : Nat) (f : F) (a : Nat), sz f = n → At d a f → Ev (fun m => spec_l01End.l0 m a (len f) d) ((a + sz f : Nat) : Int) := by
  intro n
  induction n with
  | zero =>
    intro f a hf h
    cases f with
    | nil =>
      apply Ev.succ
      simp (disch := omega) only [spec_l01End.l0, if_neg, len]
      exact Ev.some (by simp [sz])
    | cons k r => simp only [sz] at hf; omega
  | succ n ih =>
    intro f a hf h
    cases f with
    | nil => simp [sz] at hf
    | cons k r =>
      obtain ⟨h1, h2, _, _⟩ := h.step
      have h3 := h.app
      have hb := h.1
      have hl := len_le_sz k
      have hl2 := len_le_sz r
      simp only [sz] at hf hb
      have e := ih (app k r) (a + 1) (by rw [sz_app]; omega) h3
      rw [len_app, sz_app] at e
      apply Ev.succ
      simp (disch := omega) only [spec_l01End.l0, if_pos, len, h2, w64]
      rw [show ((1 + len r : Nat) : Int) - 1 + (len k : Int) = ((len k + len r : Nat) : Int) by omega, show (a : Int) + 1 = ((a + 1 : Nat) : Int) by omega]
      simp only [sz]
      rw [show a + (1 + sz k + sz r) = a + 1 + (sz k + sz r) by omega]
      exact e
theorem spec_l01End_ev (d : List Int) (hd : d.length ≤ 24) {a : Nat} {k r : F} (h : At d a (cons k r)) : Ev (fun m => spec_l01End.f m d a) ((a + 1 + sz k : Nat) : Int) := by
  have e := spec_l01End_at d hd _ (cons k nil) a rfl h.one
  simp only [len, sz] at e
  rw [show a + (1 + sz k + 0) = a + 1 + sz k by omega] at e
  unfold spec_l01End.f
  exact e
theorem spec_l01Children_at (d : List Int) (hd : d.length ≤ 24) : ∀ (f : F) (c : Nat) (out : List Int), At d c f → len f ≤ 24 → out.length + len f ≤ 1000 →
    Ev (fun m => spec_l01Children.l0 m out c (len f) d) (out ++ offs c f) := by
  intro f
  induction f with
  | nil =>
    intro c out h hi ho
    apply Ev.succ
    simp (disch := omega) only [spec_l01Children.l0, if_neg, len]
    exact Ev.some (by simp [offs])
  | cons k r _ ihr =>
    intro c out h hi ho
    have e := spec_l01End_ev d hd h
    have hh := h.step
    simp only [len] at hi ho
    apply Ev.succ
    simp (disch := omega) only [spec_l01Children.l0, if_pos, w64, len]
    refine Ev.bind e ?_
    have := ihr (c + 1 + sz k) (out ++ [(c : Int)]) hh.2.2.2 (by omega) (by simp only [List.length_append, List.length_cons, List.length_nil]; omega)
    simp only [List.append_assoc, List.singleton_append] at this
    rw [show ((1 + len r : Nat) : Int) - 1 = (len r : Int) by omega]
    exact this
theorem spec_l01Children_ev (d : List Int) (hd : d.length ≤ 24) {a : Nat} {k r : F} (h : At d a (cons k r)) : Ev (fun m => spec_l01Children.f m d a) (offs (a + 1) k) := by
  have hh := h.step
  have hb := h.1
  have hl := len_le_sz k
  simp only [sz] at hb
  have e := spec_l01Children_at d hd k (a + 1) [] hh.2.2.1 (by omega) (by simp; omega)
  unfold spec_l01Children.f
  rw [hh.2.1, w64 (x := (a : Int) + 1) (by omega)]
  exact Ev.pos (by omega) (Ev.pos (by omega) e)
theorem spec_AddressOf_l1 (d : List Int) (hd : d.length ≤ 24) (v c : Nat) (path cs : List Int) (hp : path.length ≤ 1000) (hcs : cs.length ≤ 1000) : ∀ (f : F) (p i : Nat), At d p f → cs.drop i = offs p f → i + len f = cs.length → p ≤ v → v < p + sz f →
    ∃ (c' : Nat) (k' : F), (c' : Int) ∈ offs p f ∧ At d c' (cons k' nil) ∧ c' ≤ v ∧ v < c' + 1 + sz k' ∧ ∀ R, Ev (fun m => spec_AddressOf.l0 m v (path ++ [((i + (offs p f).idxOf (c' : Int) : Nat) : Int)]) c' d) R → Ev (fun m => spec_AddressOf.l1 m v path c cs i d) R := by
  intro f
  induction f with
  | nil => intro p i _ _ _ h1 h2; simp only [sz] at h2; omega
  | cons k r _ ihr =>
    intro p i h hc hi h1 h2
    have e := spec_l01End_ev d hd h
    have hh := h.step
    have hr := rd_drop hc
    have hdr := (drop_cons hc).2.2
    simp only [len] at hi
    simp only [sz] at h2
    by_cases c1 : v < p + 1 + sz k
    · refine ⟨p, k, by simp [offs], h.one, h1, c1, fun R hR => ?_⟩
      rw [show (offs p (cons k r)).idxOf (p : Int) = 0 by simp [offs], Nat.add_zero] at hR
      refine Ev.step (fun k => by rw [spec_AddressOf.l1]) ?_
      rw [hr]
      refine Ev.pos (by omega) (Ev.pos (by omega) (Ev.pos (by omega) (Ev.bind e (Ev.pos (by omega) (Ev.pos (by omega) hR)))))
    · obtain ⟨c', k', m1, m2, m3, m4, m5⟩ := ihr (p + 1 + sz k) (i + 1) hh.2.2.2 hdr (by omega) (by omega) (by omega)
      have hb := offs_bound r (p + 1 + sz k) c' m1
      refine ⟨c', k', by simp [offs, m1], m2, m3, m4, fun R hR => ?_⟩
      refine Ev.step (fun k => by rw [spec_AddressOf.l1]) ?_
      rw [hr]
      refine Ev.pos (by omega) (Ev.pos (by omega) (Ev.pos (by omega) (Ev.bind e (Ev.neg (by omega) ?_))))
      rw [w64 (by omega)]
      refine m5 R ?_
      rw [show (offs p (cons k r)).idxOf (c' : Int) = ((offs (p + 1 + sz k) r).idxOf (c' : Int)).succ from idx_ne (by omega)] at hR
      rw [show i + 1 + (offs (p + 1 + sz k) r).idxOf (c' : Int) = i + ((offs (p + 1 + sz k) r).idxOf (c' : Int)).succ by omega]
      exact hR
theorem spec_AddressOf_l0 (k : F) (hk : sz k ≤ 23) (v : Nat) (hv : v ≤ sz k) : ∀ (n c : Nat), v - c ≤ n → c ≤ v → v < c + 1 + sz (st k c) → Ev (fun m => spec_AddressOf.l0 m v (addrV k c) c (tr k)) (addrV k v, 0) := by
  have hl := tr_length k
  intro n
  induction n with
  | zero =>
    intro c h h1 _
    obtain rfl : c = v := by omega
    refine Ev.step (fun k => by rw [spec_AddressOf.l0]) ?_
    exact Ev.pos rfl (Ev.now _)
  | succ n ih =>
    intro c h h1 h2
    refine Ev.step (fun k => by rw [spec_AddressOf.l0]) ?_
    by_cases z : c = v
    · subst z
      exact Ev.pos rfl (Ev.now _)
    · have hat := st_At k c (by omega)
      have hs := sub_small k c (by omega)
      have ol := offs_length (st k c) (c + 1)
      have hkl := len_le_sz (st k c)
      have hal := addrV_length k c c (by omega) (by omega)
      refine Ev.neg (by omega) (Ev.bind (spec_l01Children_ev (tr k) (by omega) hat) ?_)
      obtain ⟨c', k', m1, m2, m3, m4, m5⟩ := spec_AddressOf_l1 (tr k) (by omega) v c (addrV k c) (offs (c + 1) (st k c)) (by omega) (by omega) (st k c) (c + 1) 0 hat.step.2.2.1 rfl (by omega) (by omega) (by omega)
      have hb := offs_bound (st k c) (c + 1) c' m1
      have hpc : par k c' = (c : Int) := (par_mem k (by omega) (by omega)).2 m1
      have hsz : ((c' + 1 + sz k' : Nat) : Int) = ((c' + 1 + sz (st k c') : Nat) : Int) := Ev.unique (spec_l01End_ev (tr k) (by omega) m2) (spec_l01End_ev (tr k) (by omega) (st_At k c' (by omega)))
      refine m5 _ ?_
      have := ih c' (by omega) m3 (by omega)
      rw [addrV_step k (v := c') (by omega) (by omega), hpc] at this
      unfold place at this
      rw [hpc, Int.toNat_natCast] at this
      rw [Nat.zero_add]
      exact this
theorem spec_AddressOf_ev (d : List Int) (hd : d.length ≤ 9223372036854775807) (v : Int) {R} (h : nodeR addrV [] d v R) : Ev (fun m => spec_AddressOf.f m d v) R := by
  have e := spec_l01Nodes_ev d hd [v] (by simp)
  rcases h with ⟨h, rfl⟩ | ⟨k, a, rfl, hk, rfl, ha, h, rfl⟩
  · unfold spec_AddressOf.f
    exact Ev.bind e (Ev.neg h (Ev.now _))
  · have hl := tr_length k
    unfold spec_AddressOf.f
    refine Ev.bind e (Ev.pos h ?_)
    exact spec_AddressOf_l0 k hk a ha a 0 (by omega) (by omega) (by rw [st_zero]; omega)
theorem impl_endOf_at (d : List Int) (hd : d.length ≤ 24) : ∀ (n : Nat) (f : F) (a : Nat), sz f = n → At d a f → Ev (fun m => impl_endOf.l0 m d a (len f)) ((a + sz f : Nat) : Int) := by
  intro n
  induction n with
  | zero =>
    intro f a hf h
    cases f with
    | nil =>
      apply Ev.succ
      simp (disch := omega) only [impl_endOf.l0, if_neg, len]
      exact Ev.some (by simp [sz])
    | cons k r => simp only [sz] at hf; omega
  | succ n ih =>
    intro f a hf h
    cases f with
    | nil => simp [sz] at hf
    | cons k r =>
      obtain ⟨h1, h2, _, _⟩ := h.step
      have h3 := h.app
      have hb := h.1
      have hl := len_le_sz k
      have hl2 := len_le_sz r
      simp only [sz] at hf hb
      have e := ih (app k r) (a + 1) (by rw [sz_app]; omega) h3
      rw [len_app, sz_app] at e
      apply Ev.succ
      simp (disch := omega) only [impl_endOf.l0, if_pos, len, h2, w64]
      rw [show ((1 + len r : Nat) : Int) + ((len k : Int) - 1) = ((len k + len r : Nat) : Int) by omega, show (a : Int) + 1 = ((a + 1 : Nat) : Int) by omega]
      simp only [sz]
      rw [show a + (1 + sz k + sz r) = a + 1 + (sz k + sz r) by omega]
      exact e
theorem impl_endOf_ev (d : List Int) (hd : d.length ≤ 24) {a : Nat} {k r : F} (h : At d a (cons k r)) : Ev (fun m => impl_endOf.f m d a) ((a + 1 + sz k : Nat) : Int) := by
  have e := impl_endOf_at d hd _ (cons k nil) a rfl h.one
  simp only [len, sz] at e
  rw [show a + (1 + sz k + 0) = a + 1 + sz k by omega] at e
  unfold impl_endOf.f
  exact e
theorem impl_kidsOf_at (d : List Int) (hd : d.length ≤ 24) (n : Nat) (hn : n ≤ 24) : ∀ (f : F) (c : Nat) (out : List Int) (i : Nat), At d c f → i + len f = n → out.length ≤ 1000 + i →
    Ev (fun m => impl_kidsOf.l0 m d out c n i) (out ++ offs c f) := by
  intro f
  induction f with
  | nil =>
    intro c out i h hi ho
    simp only [len] at hi
    apply Ev.succ
    simp (disch := omega) only [impl_kidsOf.l0, if_neg]
    exact Ev.some (by simp [offs])
  | cons k r _ ihr =>
    intro c out i h hi ho
    simp only [len] at hi
    have e := impl_endOf_ev d hd h
    have hh := h.step
    apply Ev.succ
    simp (disch := omega) only [impl_kidsOf.l0, if_pos, w64]
    refine Ev.bind e ?_
    have := ihr (c + 1 + sz k) (out ++ [(c : Int)]) (i + 1) hh.2.2.2 (by omega) (by simp only [List.length_append, List.length_cons, List.length_nil]; omega)
    simp only [List.append_assoc, List.singleton_append] at this
    exact this
theorem impl_kidsOf_ev (d : List Int) (hd : d.length ≤ 24) {a : Nat} {k r : F} (h : At d a (cons k r)) : Ev (fun m => impl_kidsOf.f m d a) (offs (a + 1) k) := by
  have hh := h.step
  have hb := h.1
  have hl := len_le_sz k
  simp only [sz] at hb
  have e := impl_kidsOf_at d hd (len k) (by omega) k (a + 1) [] 0 hh.2.2.1 (by omega) (by simp)
  unfold impl_kidsOf.f
  rw [hh.2.1, w64 (x := (a : Int) + 1) (by omega)]
  exact Ev.pos (by omega) (Ev.pos (by omega) e)




theorem impl_parentsOf_l1 (d cs : List Int) (m : Nat) (n : Nat) (hm : m ≤ 24) (hcs : cs.length ≤ 1000) {R : List Int} : ∀ (xs : List Int) (i : Nat) (P : List Int), cs.drop i = xs → i + xs.length = cs.length → (∀ c ∈ xs, 0 ≤ c ∧ c < (P.length : Int)) →
    Ev (fun k => impl_parentsOf.l0 k d (setAll P xs (m : Int)) (n : Int) ((m + 1 : Nat) : Int)) R → Ev (fun k => impl_parentsOf.l1 k d P m n m cs cs.length i) R := by
  intro xs
  induction xs with
  | nil =>
    intro i P h hi _ e
    simp only [List.length_nil] at hi
    refine Ev.step (fun k => by rw [impl_parentsOf.l1]) ?_
    refine Ev.neg (by omega) ?_
    rw [w64 (by omega)]
    exact e
  | cons x xs ih =>
    intro i P h hi hb e
    have hr := rd_drop h
    have hd := (drop_cons h).2.2
    have hx := hb x (by simp)
    simp only [List.length_cons] at hi
    refine Ev.step (fun k => by rw [impl_parentsOf.l1]) ?_
    rw [hr]
    refine Ev.pos (by omega) (Ev.pos (by omega) (Ev.pos (by omega) (Ev.pos (by omega) (Ev.pos (by omega) ?_))))
    rw [w64 (by omega)]
    exact ih (i + 1) (P.set x.toNat m) hd (by omega) (fun c hc => by rw [List.length_set]; exact hb c (by simp [hc])) e
theorem impl_parentsOf_l0 (k : F) (hk : sz k ≤ 23) : ∀ (n m : Nat), m + n = sz k + 1 → Ev (fun j => impl_parentsOf.l0 j (tr k) (parS k (-1) m) ((tr k).length : Int) m) (parV k) := by
  have hl := tr_length k
  intro n
  induction n with
  | zero =>
    intro m h
    refine Ev.step (fun k => by rw [impl_parentsOf.l0]) ?_
    refine Ev.neg (by omega) (Ev.some ?_)
    rw [show m = sz k + 1 by omega]
    exact parS_end k (-1)
  | succ n ih =>
    intro m h
    have hs := sub_small k m (by omega)
    have hkl := len_le_sz (st k m)
    have ol := offs_length (st k m) (m + 1)
    have e := impl_kidsOf_ev (tr k) (by omega) (st_At k m (by omega))
    refine Ev.step (fun k => by rw [impl_parentsOf.l0]) ?_
    refine Ev.pos (by omega) (Ev.bind e ?_)
    refine impl_parentsOf_l1 (tr k) _ m _ (by omega) (by omega) (offs (m + 1) (st k m)) 0 (parS k (-1) m) rfl (by omega) (fun c hc => ?_) ?_
    · have := offs_bound (st k m) (m + 1) c hc
      rw [parS_length]
      omega
    · rw [parS_step k (-1) (by omega)]
      exact ih (m + 1) (by omega)
theorem impl_parentsOf_ev (k : F) (hk : sz k ≤ 23) : Ev (fun j => impl_parentsOf.f j (tr k)) (parV k) := by
  have hl := tr_length k
  have e := impl_parentsOf_l0 k hk (sz k + 1) 0 (by omega)
  rw [parS_impl] at e
  have er : slices_Repeat_int64_int64.f ([(-1)] : List Int) ((tr k).length : Int) = some (List.replicate (sz k + 1) (-1)) := by
    unfold slices_Repeat_int64_int64.f
    rw [if_pos (show ([(-1)] : List Int).length = 1 from rfl), if_pos (by omega), if_pos (by omega), Int.toNat_natCast, hl]
    rfl
  unfold impl_parentsOf.f
  rw [er]
  exact e
theorem impl_isTree_ev (d : List Int) (hm : d.length ≤ 9223372036854775807) : Ev (fun k => impl_isTree.f k d) (isT d) := by
  have key : ∀ (n i : Nat) (need : Int), i + n = d.length → d.length ≤ 24 → 0 ≤ need → need ≤ 1 + 24 * (i : Int) →
      Ev (fun k => impl_isTree.l0 k need d d.length i) (okT 24 (d.drop i) need) := by
    intro n
    induction n with
    | zero =>
      intro i need h h24 h0 h1
      apply Ev.succ
      simp (disch := omega) only [impl_isTree.l0, if_pos, if_neg]
      rw [List.drop_eq_nil_of_le (by omega)]
      exact Ev.some (by simp only [okT]; rw [Bool.eq_iff_iff]; simp)
    | succ n ih =>
      intro i need h h24 h0 h1
      apply Ev.succ
      have hi : i < d.length := by omega
      have hr : rd d i = d[i] := by rw [rd_nat, List.getD_eq_getElem?_getD, List.getElem?_eq_getElem hi]; rfl
      simp (disch := omega) only [impl_isTree.l0, if_pos, if_neg, hr]
      rw [List.drop_eq_getElem_cons hi]
      simp only [okT]
      by_cases c0 : need = 0
      · rw [if_pos c0]; exact Ev.pos c0 (Ev.now _)
      · rw [if_neg c0]
        refine Ev.neg c0 ?_
        by_cases c1 : d[i] < 0
        · rw [if_pos c1]; exact Ev.pos c1 (Ev.now _)
        · rw [if_neg c1]
          refine Ev.neg c1 ?_
          by_cases c2 : d[i] ≥ 24
          · rw [if_pos c2]; exact Ev.pos c2 (Ev.now _)
          · rw [if_neg c2]
            refine Ev.neg c2 ?_
            rw [w64 (x := d[i] - 1) (by omega), w64 (by omega), w64 (by omega)]
            exact ih (i + 1) _ (by omega) h24 (by omega) (by omega)
  unfold impl_isTree.f
  by_cases c1 : (d.length : Int) < 1
  · refine Ev.pos c1 (Ev.succ ?_)
    simp only [impl_isTree.j0, if_true]
    refine Ev.some ?_
    rw [eq_comm, Bool.eq_false_iff]
    intro h
    have := isT_length h
    omega
  · refine Ev.neg c1 (Ev.succ ?_)
    simp only [impl_isTree.j0, decide_eq_true_eq]
    by_cases c : (d.length : Int) > 24
    · refine Ev.pos c (Ev.some ?_)
      rw [eq_comm, Bool.eq_false_iff]
      intro h
      have := isT_length h
      omega
    · refine Ev.neg c ?_
      have := key d.length 0 1 (by omega) (by omega) (by omega) (by omega)
      rw [List.drop_zero] at this
      have e : isT d = okT 24 d 1 := by
        unfold isT
        rw [decide_eq_true (by omega : 1 ≤ d.length), decide_eq_true (by omega : d.length ≤ 24)]
        simp
      rw [e]
      exact this
theorem impl_IsTree_ev (d : List Int) (hm : d.length ≤ 9223372036854775807) : Ev (fun k => impl_IsTree.f k d) (isT d) := by
  unfold impl_IsTree.f
  exact Ev.bind (impl_isTree_ev d hm) (Ev.now _)
theorem impl_treeCode_ev (d : List Int) (hd : d.length ≤ 9223372036854775807) (vs : List Int) (hv : vs.length ≤ 1000) : Ev (fun m => impl_treeCode.f m d vs) (codeN d vs) := by
  have key : ∀ (xs : List Int) (i : Nat), isT d = true → vs.drop i = xs → i + xs.length = vs.length → Ev (fun m => impl_treeCode.l0 m vs vs.length i d) (codeV d xs) := by
    intro xs
    induction xs with
    | nil =>
      intro i ht h hi
      simp only [List.length_nil] at hi
      apply Ev.succ
      simp (disch := omega) only [impl_treeCode.l0, if_neg, codeV]
      exact Ev.now _
    | cons x xs ih =>
      intro i ht h hi
      simp only [List.length_cons] at hi
      have hr := rd_drop h
      have hl := isT_length ht
      have hdr := (drop_cons h).2.2
      apply Ev.succ
      simp (disch := omega) only [impl_treeCode.l0, if_pos, hr, w64, codeV]
      by_cases c0 : x < 0
      · rw [if_neg (by omega)]
        exact Ev.pos c0 (Ev.now _)
      · refine Ev.neg c0 ?_
        by_cases c1 : x ≥ (d.length : Int)
        · rw [if_neg (by omega)]
          exact Ev.pos c1 (Ev.now _)
        · rw [if_pos (by omega)]
          exact Ev.neg c1 (ih (i + 1) ht hdr (by omega))
  unfold impl_treeCode.f codeN
  refine Ev.bind (impl_IsTree_ev d hd) ?_
  cases h : isT d with
  | true => exact Ev.pos rfl (key vs 0 h rfl (by omega))
  | false => exact Ev.neg (by simp) (Ev.now _)
theorem slices_Index_int64_int64_ev (xs : List Int) (v : Int) (hl : xs.length ≤ 1000000) (hv : v ∈ xs) : Ev (fun m => slices_Index_int64_int64.f m xs v) ((xs.idxOf v : Nat) : Int) := by
  have key : ∀ (ys : List Int) (i : Nat), xs.drop i = ys → i + ys.length = xs.length → v ∈ ys → Ev (fun k => slices_Index_int64_int64.l0 k xs v xs.length i) ((i + ys.idxOf v : Nat) : Int) := by
    intro ys
    induction ys with
    | nil => intro i _ _ h; simp at h
    | cons y ys ih =>
      intro i h hi hm
      have hr := rd_drop h
      have hd := (drop_cons h).2.2
      simp only [List.length_cons] at hi
      refine Ev.step (fun k => by rw [slices_Index_int64_int64.l0]) ?_
      rw [hr]
      refine Ev.pos (by omega) (Ev.pos (by omega) (Ev.pos (by omega) ?_))
      by_cases c : v = y
      · subst c
        refine Ev.pos rfl (Ev.some ?_)
        simp
      · refine Ev.neg c ?_
        have hm' : v ∈ ys := by
          rcases List.mem_cons.1 hm with e | e
          · exact absurd e c
          · exact e
        rw [w64 (by omega), idx_ne (l := ys) (fun e => c e.symm), show i + (ys.idxOf v).succ = (i + 1) + ys.idxOf v by omega]
        exact ih (i + 1) hd (by omega) hm'
  unfold slices_Index_int64_int64.f
  have := key xs 0 rfl (by omega) hv
  rw [Nat.zero_add] at this
  exact this
theorem slices_Reverse_int64_int64_ev (xs : List Int) (hl : xs.length ≤ 1000000) : Ev (fun m => slices_Reverse_int64_int64.f m xs) xs.reverse := by
  have key : ∀ (n : Nat) (a m b : List Int), m.length ≤ n → a.length + m.length + b.length ≤ 1000000 →
      Ev (fun k => slices_Reverse_int64_int64.l0 k (a ++ m ++ b) a.length ((a.length : Int) + m.length - 1)) (a ++ m.reverse ++ b) := by
    intro n
    induction n with
    | zero =>
      intro a m b h _
      obtain rfl : m = [] := List.eq_nil_of_length_eq_zero (by omega)
      apply Ev.succ
      simp (disch := simp) only [slices_Reverse_int64_int64.l0, if_neg]
      exact Ev.neg (by simp <;> omega) (Ev.some (by simp))
    | succ n ih =>
      intro a m b h hb
      cases m with
      | nil =>
        apply Ev.succ
        simp only [slices_Reverse_int64_int64.l0]
        exact Ev.neg (by simp <;> omega) (Ev.some (by simp))
      | cons x m =>
        rcases List.eq_nil_or_concat m with rfl | ⟨m', y, rfl⟩
        · apply Ev.succ
          simp only [slices_Reverse_int64_int64.l0]
          exact Ev.neg (by simp <;> omega) (Ev.some (by simp))
        · rw [List.concat_eq_append] at h hb ⊢
          simp only [List.length_cons, List.length_append, List.length_nil] at h hb
          have hlen : (a ++ x :: (m' ++ [y]) ++ b).length = a.length + (m'.length + 2) + b.length := by simp; omega
          have r1 : rd (a ++ x :: (m' ++ [y]) ++ b) (a.length : Int) = x := by
            rw [show a ++ x :: (m' ++ [y]) ++ b = a ++ x :: ((m' ++ [y]) ++ b) by simp]
            exact rd_at
          have r2 : rd (a ++ x :: (m' ++ [y]) ++ b) ((a.length + 1 + m'.length : Nat) : Int) = y := by
            rw [show a ++ x :: (m' ++ [y]) ++ b = (a ++ x :: m') ++ y :: b by simp]
            exact rd_mid (by simp; omega)
          have e : (a.length : Int) + ((x :: (m' ++ [y])).length : Int) - 1 = ((a.length + 1 + m'.length : Nat) : Int) := by
            simp only [List.length_cons, List.length_append, List.length_nil]; omega
          have s1 : ((a ++ x :: (m' ++ [y]) ++ b).set a.length y).set (a.length + 1 + m'.length) x = (a ++ [y]) ++ m' ++ (x :: b) := by
            rw [show a ++ x :: (m' ++ [y]) ++ b = a ++ x :: ((m' ++ [y]) ++ b) by simp, set_at, show a ++ y :: ((m' ++ [y]) ++ b) = (a ++ y :: m') ++ y :: b by simp,
              show a.length + 1 + m'.length = (a ++ y :: m').length by simp; omega, set_at]
            simp
          rw [e]
          apply Ev.succ
          simp only [slices_Reverse_int64_int64.l0]
          refine Ev.pos (by omega) (Ev.pos (by omega) (Ev.pos (by rw [hlen]; omega) (Ev.pos (by omega) (Ev.pos (by rw [hlen]; omega) ?_))))
          rw [r1, r2, Int.toNat_natCast, Int.toNat_natCast, s1, w64 (by omega), w64 (by omega)]
          have := ih (a ++ [y]) m' (x :: b) (by omega) (by simp; omega)
          simp only [List.length_append, List.length_cons, List.length_nil] at this
          rw [show (a.length : Int) + 1 = ((a.length + (0 + 1) : Nat) : Int) by omega, show ((a.length + 1 + m'.length : Nat) : Int) - 1 = ((a.length + (0 + 1) : Nat) : Int) + (m'.length : Int) - 1 by omega]
          rw [show a ++ (x :: (m' ++ [y])).reverse ++ b = a ++ [y] ++ m'.reverse ++ x :: b by simp]
          exact this
  unfold slices_Reverse_int64_int64.f
  have := key xs.length [] xs [] (Nat.le_refl _) (by simp; omega)
  rw [w64 (by omega)]
  simpa using this
theorem impl_AddressOf_l0 (k : F) (hk : sz k ≤ 23) : ∀ (n v : Nat) (out : List Int), v ≤ n → v ≤ sz k → out.length + v ≤ 1000 → Ev (fun m => impl_AddressOf.l0 m v out (parV k) (tr k)) (addrV k v ++ out.reverse, 0) := by
  have hl := tr_length k
  have hpl := parV_length k
  intro n
  induction n with
  | zero =>
    intro v out h _ ho
    obtain rfl : v = 0 := by omega
    refine Ev.step (fun k => by rw [impl_AddressOf.l0]) ?_
    refine Ev.neg (by omega) (Ev.bind (slices_Reverse_int64_int64_ev out (by omega)) (Ev.some ?_))
    rw [addrV_zero, List.nil_append]
  | succ n ih =>
    intro v out h h2 ho
    refine Ev.step (fun k => by rw [impl_AddressOf.l0]) ?_
    by_cases c : v = 0
    · subst c
      refine Ev.neg (by omega) (Ev.bind (slices_Reverse_int64_int64_ev out (by omega)) (Ev.some ?_))
      rw [addrV_zero, List.nil_append]
    · have hp := par_pos k (j := v) (by omega) h2
      obtain ⟨p, hpp⟩ : ∃ p : Nat, par k v = p := ⟨(par k v).toNat, by omega⟩
      have hm := (par_mem k (i := p) (by omega) h2).1 hpp
      have hs := sub_small k p (by omega)
      have hkl := len_le_sz (st k p)
      have ol := offs_length (st k p) (p + 1)
      rw [parV_rd k h2, hpp]
      refine Ev.pos (by omega) (Ev.pos (by omega) (Ev.pos (by omega) (Ev.bind (impl_kidsOf_ev (tr k) (by omega) (st_At k p (by omega))) (Ev.bind (slices_Index_int64_int64_ev _ v (by omega) hm) (Ev.pos (by omega) ?_)))))
      have := ih p (out ++ [place k v]) (by omega) (by omega) (by simp; omega)
      rw [addrV_step k (v := v) (by omega) h2, hpp, Int.toNat_natCast]
      unfold place at this ⊢
      rw [hpp, Int.toNat_natCast] at this ⊢
      simpa using this
theorem impl_AddressOf_ev (d : List Int) (hd : d.length ≤ 9223372036854775807) (v : Int) {R} (h : nodeR addrV [] d v R) : Ev (fun m => impl_AddressOf.f m d v) R := by
  have e := impl_treeCode_ev d hd [v] (by simp)
  rcases h with ⟨h, rfl⟩ | ⟨k, a, rfl, hk, rfl, ha, h, rfl⟩
  · unfold impl_AddressOf.f
    exact Ev.bind e (Ev.neg h (Ev.now _))
  · have hl := tr_length k
    unfold impl_AddressOf.f
    refine Ev.bind e (Ev.pos h ?_)
    refine Ev.bind (impl_parentsOf_ev k hk) ?_
    have := impl_AddressOf_l0 k hk a a [] (by omega) ha (by simp; omega)
    simpa using this
theorem FnExactAddressOf : ∀ (l : List Int) (v : Int), l.length ≤ maxLen → (∀ x ∈ l, (Lit.int .i64 x).wf = true) → (Lit.int .i64 v).wf = true → ∃ k, laws_FnExactAddressOf.f k l v = some true := by
  intro l v h1 _ _
  unfold maxLen at h1
  apply Ev.rounds
  unfold laws_FnExactAddressOf.f
  simp only [laws_szTree_ev l 1048576 h1 (by omega), Option.bind_some]
  by_cases c : (1048576 : Int) < l.length
  · rw [if_pos c]
    exact Ev.pos (by omega) (Ev.now _)
  · rw [if_neg c]
    have hl : l.length ≤ 1048576 := by omega
    have e1 := laws_toTree_ev l hl
    obtain ⟨R, hR⟩ := nodeR_ex addrV [] l v
    have e2 := spec_AddressOf_ev l h1 v hR
    have e3 := impl_AddressOf_ev l h1 v hR
    have e4 := laws_eqTree_ev l (by omega)
    have hb := nodeR_len hR (fun k a h ha => by have := addrV_length k a a (Nat.le_refl _) ha; omega)
    have e5 := laws_markTree_ev l 1 (by omega) (by omega)
    have e6 := laws_eqInt64S_ev R.1 (by omega)
    have e7 := laws_markInt64S_ev R.1 1 (by omega) (by omega)
    have e8 := laws_heldInt64S_ev R.1.length 1 (by omega) (by omega)
    refine Ev.neg (by omega) ?_
    repeat' (first
      | exact Ev.now _
      | (with_reducible refine Ev.bind e1 ?_; try dsimp only)
      | (with_reducible refine Ev.bind e2 ?_; try dsimp only)
      | (with_reducible refine Ev.bind e3 ?_; try dsimp only)
      | (with_reducible refine Ev.bind e4 ?_; try dsimp only)
      | (with_reducible refine Ev.bind e5 ?_; try dsimp only)
      | (with_reducible refine Ev.bind e6 ?_; try dsimp only)
      | (with_reducible refine Ev.bind e7 ?_; try dsimp only)
      | (with_reducible refine Ev.bind e8 ?_; try dsimp only)
      | ((with_reducible apply Ev.pos); (solve | rfl | trivial | omega))
      | ((with_reducible apply Ev.neg); (solve | omega | simp))
      | (apply Ev.succ; simp only [laws_FnExactAddressOf.j0, laws_FnExactAddressOf.j1, laws_FnExactAddressOf.j2]))

end Go.Proofs.Ytjecelgbfmpnaaa.Pure
