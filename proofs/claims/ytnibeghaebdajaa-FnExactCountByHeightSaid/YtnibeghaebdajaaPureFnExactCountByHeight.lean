/- The pure statement of the law FnExactCountByHeight is proved. Conditions: those of the statement alone. -/
import Derived.Test.YtnibeghaebdajaaQFnExactCountByHeightx4
import Derived.Test.YtnibeghaebdajaaBase
import Derived.Test.YtnibeghaebdajaaBase2
import Derived.Test.YtnibeghaebdajaaBin
import Derived.Test.YtnibeghaebdajaaBase3
import Derived.Test.YtnibeghaebdajaaBase4
import Derived.Test.YtnibeghaebdajaaBase5
import Derived.Test.YtnibeghaebdajaaBase6
import Derived.Test.YtnibeghaebdajaaPar
import Derived.Test.YtnibeghaebdajaaPar2
import Derived.Test.YtnibeghaebdajaaRem
import Derived.Test.YtnibeghaebdajaaBin2
import Derived.Test.YtnibeghaebdajaaNum
namespace Go.Proofs.Ytnibeghaebdajaa.Pure
open Go.RowKit Go.Proofs.Ytnibeghaebdajaa.QFnExactCountByHeight Go.Proofs.Ytnibeghaebdajaa.Base Go.Proofs.YtnibeghaebdajaaW.PrintWords Go.Proofs.YtnibeghaebdajaaW.PrintLast Go.Proofs.YtnibeghaebdajaaW.PrintMore
open Go.Proofs.Ytnibeghaebdajaa.Base.F
set_option linter.unusedVariables false
set_option linter.unusedSimpArgs false

theorem spec_l01In_eq (a b c : Int) : spec_l01In.f a b c = some (decide (b ≤ a ∧ a ≤ c)) := by
  unfold spec_l01In.f
  by_cases h : a ≥ b
  · rw [if_pos h]
    congr 1
    rw [Bool.eq_iff_iff, decide_eq_true_eq, decide_eq_true_eq]
    omega
  · rw [if_neg h]
    congr 1
    rw [eq_comm, decide_eq_false_iff_not]
    omega
theorem spec_l02Numbers_eq (a b : Int) : spec_l02Numbers.f a b = some (decide ((1 ≤ a ∧ a ≤ 30) ∧ 0 ≤ b ∧ b ≤ a)) := by
  unfold spec_l02Numbers.f
  simp only [spec_l01In_eq, Option.bind_some, decide_eq_true_eq]
  by_cases h : 1 ≤ a ∧ a ≤ 30
  · rw [if_pos h]
    congr 1
    rw [Bool.eq_iff_iff, decide_eq_true_eq, decide_eq_true_eq]
    exact ⟨fun e => ⟨h, e⟩, fun e => e.2⟩
  · rw [if_neg h]
    congr 1
    rw [eq_comm, decide_eq_false_iff_not]
    exact fun e => h e.1
theorem spec_l02Low_inner {R : List Int} (n : Nat) (hn : n ≤ 30) (out less : List Int) (hl : less.length = n + 1) (m : Nat) (hm : m + 1 ≤ n)
    (next : Ev (fun k => spec_l02Low.l0 k n out less (lst less (m + 1) ++ List.replicate (n - (m + 1)) 0) ((m + 1 + 1 : Nat) : Int)) R) :
    ∀ (d j : Nat), j + d = m + 1 → Ev (fun k => spec_l02Low.l1 k n out less (lst less m ++ dot less (lst less m) (m + 1) j :: List.replicate (n - (m + 1)) 0) ((m + 1 : Nat) : Int) ((j + 1 : Nat) : Int)) R := by
  have hL := lst_length less m
  intro d
  induction d with
  | zero =>
    intro j h
    obtain rfl : j = m + 1 := by omega
    apply Ev.succ
    simp (disch := omega) only [spec_l02Low.l1, if_pos, if_neg, w64]
    rw [show ((m + 1 : Nat) : Int) + 1 = ((m + 1 + 1 : Nat) : Int) by omega]
    simp only [lst, List.append_assoc, List.singleton_append] at next
    exact next
  | succ d ih =>
    intro j h
    have hlen : (lst less m ++ dot less (lst less m) (m + 1) j :: List.replicate (n - (m + 1)) 0).length = n + 1 := by
      simp only [List.length_append, List.length_cons, List.length_replicate, hL]; omega
    have h1 : rd (lst less m ++ dot less (lst less m) (m + 1) j :: List.replicate (n - (m + 1)) 0) ((m + 1 : Nat) : Int) = dot less (lst less m) (m + 1) j := by
      have := rd_at (a := lst less m) (x := dot less (lst less m) (m + 1) j) (b := List.replicate (n - (m + 1)) 0)
      rwa [hL] at this
    have h2 : rd (lst less m ++ dot less (lst less m) (m + 1) j :: List.replicate (n - (m + 1)) 0) (((m + 1 : Nat) : Int) - ((j + 1 : Nat) : Int)) = rd (lst less m) (((m + 1 : Nat) : Int) - ((j + 1 : Nat) : Int)) := by
      rw [show ((m + 1 : Nat) : Int) - ((j + 1 : Nat) : Int) = ((m - j : Nat) : Int) by omega]
      exact rd_append_left (by omega)
    apply Ev.succ
    simp (disch := omega) only [spec_l02Low.l1, if_pos, if_neg]
    rw [w64 (x := ((m + 1 : Nat) : Int) - ((j + 1 : Nat) : Int)) (by omega), w64 (x := ((j + 1 : Nat) : Int) + 1) (by omega), h1, h2]
    refine Ev.pos (by omega) (Ev.pos (by omega) ?_)
    have hs : (lst less m ++ dot less (lst less m) (m + 1) j :: List.replicate (n - (m + 1)) 0).set (((m + 1 : Nat) : Int).toNat) (dot less (lst less m) (m + 1) (j + 1)) = lst less m ++ dot less (lst less m) (m + 1) (j + 1) :: List.replicate (n - (m + 1)) 0 := by
      rw [Int.toNat_natCast, ← hL]
      exact set_at
    have := ih (j + 1) (by omega)
    rw [← hs] at this
    exact this
theorem spec_l02Low_l2 (n : Nat) (hn : n ≤ 30) (fs : List Int) (hf : fs.length = n + 1) :
    ∀ (d m : Nat), m + d = n → Ev (fun k => spec_l02Low.l2 k n ((0 :: fs.take m) ++ List.replicate (n - m) 0) fs ((m + 1 : Nat) : Int)) (0 :: fs.take n) := by
  intro d
  induction d with
  | zero =>
    intro m h
    obtain rfl : m = n := by omega
    apply Ev.succ
    simp (disch := omega) only [spec_l02Low.l2, if_neg]
    exact Ev.some (by simp)
  | succ d ih =>
    intro m h
    have hlen : ((0 :: fs.take m) ++ List.replicate (n - m) 0).length = n + 1 := by
      simp only [List.length_append, List.length_cons, List.length_replicate, List.length_take]; omega
    apply Ev.succ
    simp (disch := omega) only [spec_l02Low.l2, if_pos]
    rw [w64 (x := ((m + 1 : Nat) : Int) - 1) (by omega), w64 (x := ((m + 1 : Nat) : Int) + 1) (by omega)]
    refine Ev.pos (by omega) (Ev.pos (by omega) ?_)
    have hs : ((0 :: fs.take m) ++ List.replicate (n - m) 0).set (((m + 1 : Nat) : Int).toNat) (rd fs (((m + 1 : Nat) : Int) - 1)) = (0 :: fs.take (m + 1)) ++ List.replicate (n - (m + 1)) 0 := by
      have e := set_snoc (a := 0 :: fs.take m) (n := n - m) (v := rd fs (m : Int)) (by omega)
      have e1 : (0 :: fs.take m).length = m + 1 := by simp only [List.length_cons, List.length_take]; omega
      rw [e1] at e
      rw [Int.toNat_natCast, show ((m + 1 : Nat) : Int) - 1 = (m : Int) by omega, e, List.cons_append, take_rd_succ _ _ (by omega), show n - m - 1 = n - (m + 1) by omega]
    rw [hs]
    exact ih (m + 1) (by omega)
theorem spec_l02Low_ev (n : Nat) (hn : n ≤ 30) : ∀ h : Nat, h ≤ 31 → Ev (fun k => spec_l02Low.f k (n : Int) ((h : Int) - 1)) (low n h) := by
  intro h
  induction h with
  | zero =>
    intro _
    apply Ev.succ
    simp (disch := omega) only [spec_l02Low.f, if_pos, w64, Option.bind_some]
    refine Ev.some ?_
    rw [show ((n : Int) + 1).toNat = n + 1 by omega]
    rfl
  | succ h ih =>
    intro hh
    apply Ev.succ
    simp (disch := omega) only [spec_l02Low.f, if_pos, if_neg, w64, Option.bind_some]
    rw [show ((h + 1 : Nat) : Int) - 1 - 1 = (h : Int) - 1 by omega, show ((n : Int) + 1).toNat = n + 1 by omega]
    refine Ev.bind (ih (by omega)) (Ev.pos (by rw [List.length_replicate]; omega) ?_)
    have hl := low_length n h
    have e0 : (List.replicate (n + 1) (0 : Int)).set (0 : Int).toNat 1 = lst (low n h) 0 ++ List.replicate (n - 0) 0 := by
      rw [List.replicate_succ]; rfl
    have l0 : ∀ (d m : Nat), m + d = n → Ev (fun k => spec_l02Low.l0 k n (List.replicate (n + 1) 0) (low n h) (lst (low n h) m ++ List.replicate (n - m) 0) ((m + 1 : Nat) : Int)) (low n (h + 1)) := by
      intro d
      induction d with
      | zero =>
        intro m hm
        obtain rfl : m = n := by omega
        apply Ev.succ
        simp (disch := omega) only [spec_l02Low.l0, if_neg]
        have := spec_l02Low_l2 m hn (lst (low m h) m) (lst_length _ _) m 0 (by omega)
        rw [Nat.sub_self, List.replicate_zero, List.append_nil]
        simpa [low, List.replicate_succ] using this
      | succ d ihd =>
        intro m hm
        apply Ev.succ
        simp (disch := omega) only [spec_l02Low.l0, if_pos]
        have := spec_l02Low_inner n hn (List.replicate (n + 1) 0) (low n h) hl m (by omega) (ihd (m + 1) (by omega)) (m + 1) 0 (by omega)
        rw [show n - m = (n - (m + 1)) + 1 by omega, List.replicate_succ]
        exact this
    rw [e0]
    exact l0 n 0 (by omega)
def byHeight (n h : Int) : Int := wrap64 (rd (low 30 (h.toNat + 1)) n - rd (low 30 h.toNat) n)
theorem spec_CountByHeight_ev (n h : Int) :
    Ev (fun m => spec_CountByHeight.f m n h) (if (1 ≤ n ∧ n ≤ 30) ∧ 0 ≤ h ∧ h ≤ n then (byHeight n h, 0) else (0, 2)) := by
  unfold spec_CountByHeight.f
  simp only [spec_l02Numbers_eq, Option.bind_some, decide_eq_true_eq]
  by_cases c : (1 ≤ n ∧ n ≤ 30) ∧ 0 ≤ h ∧ h ≤ n
  · rw [if_pos c]
    refine Ev.pos c ?_
    obtain ⟨n', rfl⟩ : ∃ n' : Nat, n = n' := ⟨n.toNat, by omega⟩
    obtain ⟨h', rfl⟩ : ∃ h' : Nat, h = h' := ⟨h.toNat, by omega⟩
    have e1 := spec_l02Low_ev n' (by omega) (h' + 1) (by omega)
    have e2 := spec_l02Low_ev n' (by omega) h' (by omega)
    rw [show ((h' + 1 : Nat) : Int) - 1 = (h' : Int) by omega] at e1
    rw [w64 (x := (h' : Int) - 1) (by omega)]
    refine Ev.bind e1 (Ev.pos (by omega) (Ev.pos (by rw [low_length]; omega) (Ev.bind e2 (Ev.pos (by rw [low_length]; omega) (Ev.some ?_)))))
    unfold byHeight
    rw [Int.toNat_natCast, low_rd (n := n') (n' := 30) (by omega) _ n' (Nat.le_refl _), low_rd (n := n') (n' := 30) (by omega) _ n' (Nat.le_refl _)]
  · rw [if_neg c]
    exact Ev.neg c (Ev.now _)
theorem impl_isCounted_eq (a : Int) : impl_isCounted.f a = some (decide (1 ≤ a ∧ a ≤ 30)) := by
  unfold impl_isCounted.f
  by_cases h : a ≥ 1
  · rw [if_pos h]
    congr 1
    rw [Bool.eq_iff_iff, decide_eq_true_eq, decide_eq_true_eq]
    omega
  · rw [if_neg h]
    congr 1
    rw [eq_comm, decide_eq_false_iff_not]
    omega
theorem impl_atMost_inner {R : List Int} (now : List Int) (hl : now.length = 31) (T I : Int) (m : Nat) (hm : m + 1 ≤ 30)
    (next : Ev (fun k => impl_atMost.l1 k now (lst now (m + 1) ++ List.replicate (30 - (m + 1)) 0) ((m + 1 + 1 : Nat) : Int) T I) R) :
    ∀ (d j : Nat), j + d = m + 1 → Ev (fun k => impl_atMost.l2 k now (lst now m ++ dot now (lst now m) (m + 1) j :: List.replicate (30 - (m + 1)) 0) ((m + 1 : Nat) : Int) ((j + 1 : Nat) : Int) T I) R := by
  have hL := lst_length now m
  intro d
  induction d with
  | zero =>
    intro j h
    obtain rfl : j = m + 1 := by omega
    apply Ev.succ
    simp (disch := omega) only [impl_atMost.l2, if_pos, if_neg, w64]
    rw [show ((m + 1 : Nat) : Int) + 1 = ((m + 1 + 1 : Nat) : Int) by omega]
    simp only [lst, List.append_assoc, List.singleton_append] at next
    exact next
  | succ d ih =>
    intro j h
    have hlen : (lst now m ++ dot now (lst now m) (m + 1) j :: List.replicate (30 - (m + 1)) 0).length = 31 := by
      simp only [List.length_append, List.length_cons, List.length_replicate, hL]; omega
    have h1 : rd (lst now m ++ dot now (lst now m) (m + 1) j :: List.replicate (30 - (m + 1)) 0) ((m + 1 : Nat) : Int) = dot now (lst now m) (m + 1) j := by
      have := rd_at (a := lst now m) (x := dot now (lst now m) (m + 1) j) (b := List.replicate (30 - (m + 1)) 0)
      rwa [hL] at this
    have h2 : rd (lst now m ++ dot now (lst now m) (m + 1) j :: List.replicate (30 - (m + 1)) 0) (((m + 1 : Nat) : Int) - ((j + 1 : Nat) : Int)) = rd (lst now m) (((m + 1 : Nat) : Int) - ((j + 1 : Nat) : Int)) := by
      rw [show ((m + 1 : Nat) : Int) - ((j + 1 : Nat) : Int) = ((m - j : Nat) : Int) by omega]
      exact rd_append_left (by omega)
    apply Ev.succ
    simp (disch := omega) only [impl_atMost.l2, if_pos, if_neg]
    rw [w64 (x := ((m + 1 : Nat) : Int) - ((j + 1 : Nat) : Int)) (by omega), w64 (x := ((j + 1 : Nat) : Int) + 1) (by omega), h1, h2]
    refine Ev.pos (by omega) (Ev.pos (by omega) ?_)
    have hs : (lst now m ++ dot now (lst now m) (m + 1) j :: List.replicate (30 - (m + 1)) 0).set (((m + 1 : Nat) : Int).toNat) (dot now (lst now m) (m + 1) (j + 1)) = lst now m ++ dot now (lst now m) (m + 1) (j + 1) :: List.replicate (30 - (m + 1)) 0 := by
      rw [Int.toNat_natCast, ← hL]
      exact set_at
    have := ih (j + 1) (by omega)
    rw [← hs] at this
    exact this
theorem impl_atMost_l1 {R : List Int} (now : List Int) (hl : now.length = 31) (h i : Int) (hi : 0 ≤ i ∧ i ≤ 31)
    (next : Ev (fun k => impl_atMost.l0 k ([0] ++ (lst now 30).take 30) h (i + 1)) R) :
    ∀ (e m : Nat), m + e = 30 → Ev (fun k => impl_atMost.l1 k now (lst now m ++ List.replicate (30 - m) 0) ((m + 1 : Nat) : Int) h i) R := by
  intro e
  induction e with
  | zero =>
    intro m hm
    obtain ⟨N, hN⟩ : ∃ N : Nat, N = 30 := ⟨_, rfl⟩
    have hL := lst_length now m
    have e1 : lst now m ++ List.replicate (30 - m) 0 = lst now m := by rw [show 30 - m = 0 by omega, List.replicate_zero, List.append_nil]
    rw [e1]
    have e2 : lst now 30 = lst now m := by rw [show 30 = m by omega]
    rw [e2] at next
    generalize lst now m = L at hL next ⊢
    have hT : (List.take 30 L).length = 30 := by rw [List.length_take]; omega
    apply Ev.succ
    simp only [impl_atMost.l1]
    refine Ev.neg (by omega) ?_
    simp only [Option.bind_some]
    generalize List.take 30 L = T at hT next ⊢
    refine Ev.pos (by omega) ?_
    refine Ev.pos (by simp only [List.length_cons, List.length_nil, hT]; omega) ?_
    rw [w64 (by omega)]
    exact next
  | succ e ihe =>
    intro m hm
    apply Ev.succ
    simp (disch := omega) only [impl_atMost.l1, if_pos]
    have := impl_atMost_inner now hl h i m (by omega) (ihe (m + 1) (by omega)) (m + 1) 0 (by omega)
    rw [show 30 - m = (30 - (m + 1)) + 1 by omega, List.replicate_succ]
    exact this
theorem low_next (i : Nat) : low 30 (i + 1) = [0] ++ (lst (low 30 i) 30).take 30 := by simp only [low, List.cons_append, List.nil_append]
theorem impl_atMost_l0 (h : Nat) (hh : h ≤ 31) : ∀ (d i : Nat), i + d = h → Ev (fun k => impl_atMost.l0 k (low 30 i) h i) (low 30 h) := by
  intro d
  induction d with
  | zero =>
    intro i hi
    obtain rfl : i = h := by omega
    apply Ev.succ
    simp only [impl_atMost.l0]
    exact Ev.neg (by omega) (Ev.now _)
  | succ d ih =>
    intro i hi
    have hl := low_length 30 i
    have next := ih (i + 1) (by omega)
    rw [low_next] at next
    generalize low 30 i = now at hl next ⊢
    generalize low 30 h = R at next ⊢
    have e1 := impl_atMost_l1 now hl h i (by omega) next 30 0 rfl
    have e0 : (List.replicate 31 (0 : Int)).set (0 : Int).toNat 1 = lst now 0 ++ List.replicate (30 - 0) 0 := by rw [List.replicate_succ]; rfl
    rw [← e0] at e1
    apply Ev.succ
    simp only [impl_atMost.l0, Option.bind_some]
    refine Ev.pos (by omega) (Ev.pos (by omega) (Ev.pos (by rw [List.length_replicate]; omega) ?_))
    exact e1
theorem impl_atMost_ev (h : Nat) (hh : h ≤ 31) : Ev (fun k => impl_atMost.f k ((h : Int) - 1)) (low 30 h) := by
  unfold impl_atMost.f
  refine Ev.pos (by omega) ?_
  rw [w64 (by omega), show (h : Int) - 1 + 1 = (h : Int) by omega]
  exact impl_atMost_l0 h hh h 0 (by omega)
theorem impl_CountByHeight_ev (n h : Int) :
    Ev (fun m => impl_CountByHeight.f m n h) (if (1 ≤ n ∧ n ≤ 30) ∧ 0 ≤ h ∧ h ≤ n then (byHeight n h, 0) else (0, 2)) := by
  have key : ∀ b : Bool, (b = false ↔ (1 ≤ n ∧ n ≤ 30) ∧ 0 ≤ h ∧ h ≤ n) →
      Ev (fun m => impl_CountByHeight.j0 m n h b) (if (1 ≤ n ∧ n ≤ 30) ∧ 0 ≤ h ∧ h ≤ n then (byHeight n h, 0) else (0, 2)) := by
    intro b hb
    apply Ev.succ
    simp only [impl_CountByHeight.j0]
    cases b with
    | true =>
      rw [if_neg (fun h => by have := hb.2 h; cases this)]
      simp only [if_true]
      exact Ev.now _
    | false =>
      have c := hb.1 rfl
      rw [if_pos c]
      simp only [Bool.false_eq_true, if_false]
      obtain ⟨n', rfl⟩ : ∃ n' : Nat, n = n' := ⟨n.toNat, by omega⟩
      obtain ⟨h', rfl⟩ : ∃ h' : Nat, h = h' := ⟨h.toNat, by omega⟩
      have e1 := impl_atMost_ev (h' + 1) (by omega)
      have e2 := impl_atMost_ev h' (by omega)
      rw [show ((h' + 1 : Nat) : Int) - 1 = (h' : Int) by omega] at e1
      rw [w64 (x := (h' : Int) - 1) (by omega)]
      refine Ev.bind e1 (Ev.pos (by omega) (Ev.pos (by rw [low_length]; omega) (Ev.bind e2 (Ev.pos (by rw [low_length]; omega) (Ev.some ?_)))))
      unfold byHeight
      rw [Int.toNat_natCast]
  unfold impl_CountByHeight.f
  simp only [impl_isCounted_eq, Option.bind_some, decide_eq_true_eq]
  by_cases c : 1 ≤ n ∧ n ≤ 30
  · refine Ev.pos c ?_
    by_cases c1 : h < 0
    · exact Ev.pos c1 (key true (by simp; omega))
    · refine Ev.neg c1 (key _ ?_)
      rw [decide_eq_false_iff_not]
      omega
  · exact Ev.neg c (key true (by simp; omega))
theorem FnExactCountByHeight : ∀ (n h : Int), (Lit.int .i64 n).wf = true → (Lit.int .i64 h).wf = true → ∃ m, laws_FnExactCountByHeight.f m n h = some true := by
  intro n h _ _
  apply Ev.rounds
  unfold laws_FnExactCountByHeight.f
  exact Ev.bind (spec_CountByHeight_ev n h) (Ev.bind (impl_CountByHeight_ev n h) (Ev.pos rfl (Ev.pos rfl (Ev.now _))))

end Go.Proofs.Ytnibeghaebdajaa.Pure
