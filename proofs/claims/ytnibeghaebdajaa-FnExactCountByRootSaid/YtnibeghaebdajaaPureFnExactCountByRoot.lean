/- The pure statement of the law FnExactCountByRoot is proved. Conditions: those of the statement alone. -/
import Derived.Test.YtnibeghaebdajaaQFnExactCountByRootx3
import Derived.Test.YtnibeghaebdajaaBase
import Derived.Test.YtnibeghaebdajaaBase2
import Derived.Test.YtnibeghaebdajaaBin
import Derived.Test.YtnibeghaebdajaaBase3
import Derived.Test.YtnibeghaebdajaaBase4
import Derived.Test.YtnibeghaebdajaaBase5
import Derived.Test.YtnibeghaebdajaaBase6
import Derived.Test.YtnibeghaebdajaaPar
import Derived.Test.YtnibeghaebdajaaPar2
import Derived.Test.YtnibeghaebdajaaRem
import Derived.Test.YtnibeghaebdajaaBin2
import Derived.Test.YtnibeghaebdajaaNum
namespace Go.Proofs.Ytnibeghaebdajaa.Pure
open Go.RowKit Go.Proofs.Ytnibeghaebdajaa.QFnExactCountByRoot Go.Proofs.Ytnibeghaebdajaa.Base Go.Proofs.YtnibeghaebdajaaW.PrintWords Go.Proofs.YtnibeghaebdajaaW.PrintLast Go.Proofs.YtnibeghaebdajaaW.PrintMore
open Go.Proofs.Ytnibeghaebdajaa.Base.F
set_option linter.unusedVariables false
set_option linter.unusedSimpArgs false


theorem spec_l01In_eq (a b c : Int) : spec_l01In.f a b c = some (decide (b ≤ a ∧ a ≤ c)) := by
  unfold spec_l01In.f
  by_cases h : a ≥ b
  · rw [if_pos h]
    congr 1
    rw [Bool.eq_iff_iff, decide_eq_true_eq, decide_eq_true_eq]
    omega
  · rw [if_neg h]
    congr 1
    rw [eq_comm, decide_eq_false_iff_not]
    omega
theorem spec_l02Numbers_eq (a b : Int) : spec_l02Numbers.f a b = some (decide ((1 ≤ a ∧ a ≤ 30) ∧ 0 ≤ b ∧ b ≤ a)) := by
  unfold spec_l02Numbers.f
  simp only [spec_l01In_eq, Option.bind_some, decide_eq_true_eq]
  by_cases h : 1 ≤ a ∧ a ≤ 30
  · rw [if_pos h]
    congr 1
    rw [Bool.eq_iff_iff, decide_eq_true_eq, decide_eq_true_eq]
    exact ⟨fun e => ⟨h, e⟩, fun e => e.2⟩
  · rw [if_neg h]
    congr 1
    rw [eq_comm, decide_eq_false_iff_not]
    exact fun e => h e.1
/-- the numbers of trees, by their nodes -/
def catL : List Int := [0, 1, 1, 2, 5, 14, 42, 132, 429, 1430, 4862, 16796, 58786, 208012, 742900, 2674440, 9694845, 35357670, 129644790, 477638700, 1767263190, 6564120420, 24466267020, 91482563640, 343059613650, 1289904147324, 4861946401452, 18367353072152, 69533550916004, 263747951750360, 1002242216651368]
theorem spec_l02Catalan_all : ((List.range 31).all fun n => decide (n = 0 ∨ spec_l02Catalan.f 700 (n : Int) = some (catL.take (n + 1)))) = true := by decide +kernel
theorem spec_l02Catalan_ev (n : Nat) (h0 : 1 ≤ n) (h : n ≤ 30) : Ev (fun k => spec_l02Catalan.f k (n : Int)) (catL.take (n + 1)) := by
  have h := of_decide_eq_true (List.all_eq_true.1 spec_l02Catalan_all n (List.mem_range.2 (by omega)))
  rcases h with h | h
  · omega
  · exact Ev.of (spec_l02Catalan.mono n) h
/-- the numbers of lists of so many trees, by their nodes together -/
def wy : Nat → List Int
  | 0 => 1 :: List.replicate 29 0
  | t + 1 => (List.range 30).map fun m => dot catL (wy t) m m
theorem wy_length (t : Nat) : (wy t).length = 30 := by
  cases t with
  | zero => rfl
  | succ t => simp [wy]
theorem wy_at (t m : Nat) (h : m < 30) : rd (wy (t + 1)) (m : Int) = dot catL (wy t) m m := by
  apply rd_of_get
  simp [wy, h]
theorem wy_all : ((List.range 31).all fun n => (List.range (n + 1)).all fun k => decide (n = 0 ∨ rd (wy k) ((n - 1 : Nat) : Int) = tab (n - 1) k)) = true := by decide +kernel
theorem spec_CountByRoot_l2 {R : Int × Int} (n t : Nat) (hn : n ≤ 30) (x1 : Int) (m : Nat) (hm : m < n)
    (next : Ev (fun k => spec_CountByRoot.l1 k n x1 (catL.take (n + 1)) ((wy t).take n) ((wy (t + 1)).take (m + 1) ++ List.replicate (n - (m + 1)) 0) ((m + 1 : Nat) : Int)) R) :
    ∀ (d j : Nat), j + d = m → Ev (fun k => spec_CountByRoot.l2 k n x1 (catL.take (n + 1)) ((wy t).take n) ((wy (t + 1)).take m ++ dot catL (wy t) m j :: List.replicate (n - (m + 1)) 0) (m : Int) ((j + 1 : Nat) : Int)) R := by
  have hW := wy_length t
  have hW1 := wy_length (t + 1)
  have hL : ((wy (t + 1)).take m).length = m := by rw [List.length_take, hW1]; omega
  have hA : (catL.take (n + 1)).length = n + 1 := by rw [List.length_take]; show min (n + 1) 31 = n + 1; omega
  have hB : ((wy t).take n).length = n := by rw [List.length_take, hW]; omega
  intro d
  induction d with
  | zero =>
    intro j h
    obtain rfl : j = m := by omega
    apply Ev.succ
    simp (disch := omega) only [spec_CountByRoot.l2, if_neg, w64]
    rw [show (j : Int) + 1 = ((j + 1 : Nat) : Int) by omega]
    have e := take_rd_succ (wy (t + 1)) j (by omega)
    rw [wy_at t j (by omega)] at e
    rw [← e, List.append_assoc, List.singleton_append] at next
    exact next
  | succ d ih =>
    intro j h
    have hlen : ((wy (t + 1)).take m ++ dot catL (wy t) m j :: List.replicate (n - (m + 1)) 0).length = n := by
      simp only [List.length_append, List.length_cons, List.length_replicate, hL]; omega
    have h1 : rd ((wy (t + 1)).take m ++ dot catL (wy t) m j :: List.replicate (n - (m + 1)) 0) (m : Int) = dot catL (wy t) m j := by
      have := rd_at (a := (wy (t + 1)).take m) (x := dot catL (wy t) m j) (b := List.replicate (n - (m + 1)) 0)
      rwa [hL] at this
    have h2 : rd (catL.take (n + 1)) ((j + 1 : Nat) : Int) = rd catL ((j + 1 : Nat) : Int) := rd_take (by omega)
    have h3 : rd ((wy t).take n) ((m : Int) - ((j + 1 : Nat) : Int)) = rd (wy t) ((m : Int) - ((j + 1 : Nat) : Int)) := by
      rw [show (m : Int) - ((j + 1 : Nat) : Int) = ((m - (j + 1) : Nat) : Int) by omega]
      exact rd_take (by omega)
    apply Ev.succ
    simp (disch := omega) only [spec_CountByRoot.l2, if_pos, if_neg]
    rw [w64 (x := (m : Int) - ((j + 1 : Nat) : Int)) (by omega), w64 (x := ((j + 1 : Nat) : Int) + 1) (by omega), h1, h2, h3]
    refine Ev.pos (by omega) (Ev.pos (by omega) ?_)
    have hs : ((wy (t + 1)).take m ++ dot catL (wy t) m j :: List.replicate (n - (m + 1)) 0).set ((m : Int).toNat) (dot catL (wy t) m (j + 1)) = (wy (t + 1)).take m ++ dot catL (wy t) m (j + 1) :: List.replicate (n - (m + 1)) 0 := by
      have := set_at (a := (wy (t + 1)).take m) (x := dot catL (wy t) m j) (b := List.replicate (n - (m + 1)) 0) (v := dot catL (wy t) m (j + 1))
      rw [hL] at this
      rw [Int.toNat_natCast]
      exact this
    have := ih (j + 1) (by omega)
    rw [← hs] at this
    exact this
theorem spec_CountByRoot_l1 {R : Int × Int} (n t : Nat) (hn : n ≤ 30) (x1 : Int) (hx : 1 ≤ x1 ∧ x1 ≤ 30)
    (next : Ev (fun k => spec_CountByRoot.l0 k n (x1 - 1) (catL.take (n + 1)) ((wy (t + 1)).take n)) R) :
    ∀ (d m : Nat), m + d = n → Ev (fun k => spec_CountByRoot.l1 k n x1 (catL.take (n + 1)) ((wy t).take n) ((wy (t + 1)).take m ++ List.replicate (n - m) 0) (m : Int)) R := by
  intro d
  induction d with
  | zero =>
    intro m h
    obtain rfl : m = n := by omega
    apply Ev.succ
    simp (disch := omega) only [spec_CountByRoot.l1, if_neg, w64]
    rw [Nat.sub_self, List.replicate_zero, List.append_nil]
    exact next
  | succ d ih =>
    intro m h
    apply Ev.succ
    simp (disch := omega) only [spec_CountByRoot.l1, if_pos]
    have := spec_CountByRoot_l2 n t hn x1 m (by omega) (ih (m + 1) (by omega)) m 0 (by omega)
    rw [show n - m = (n - (m + 1)) + 1 by omega, List.replicate_succ]
    exact this
theorem spec_CountByRoot_l0 (n : Nat) (h1 : 1 ≤ n) (hn : n ≤ 30) :
    ∀ (d t : Nat), t + d ≤ 30 → Ev (fun k => spec_CountByRoot.l0 k n (d : Int) (catL.take (n + 1)) ((wy t).take n)) (rd (wy (t + d)) ((n - 1 : Nat) : Int), 0) := by
  intro d
  induction d with
  | zero =>
    intro t _
    have hB : ((wy t).take n).length = n := by rw [List.length_take, wy_length]; omega
    apply Ev.succ
    simp (disch := omega) only [spec_CountByRoot.l0, if_neg, if_pos, w64]
    refine Ev.some ?_
    rw [show (n : Int) - 1 = ((n - 1 : Nat) : Int) by omega, rd_take (by omega)]
    rfl
  | succ d ih =>
    intro t h
    apply Ev.succ
    simp (disch := omega) only [spec_CountByRoot.l0, if_pos]
    have e := ih (t + 1) (by omega)
    rw [show t + 1 + d = t + (d + 1) by omega, show (d : Int) = ((d + 1 : Nat) : Int) - 1 by omega] at e
    have := spec_CountByRoot_l1 n t hn ((d + 1 : Nat) : Int) (by omega) e n 0 (by omega)
    rw [Int.toNat_natCast]
    exact this
theorem spec_CountByRoot_ev (n k : Int) : Ev (fun m => spec_CountByRoot.f m n k) (if 1 ≤ n ∧ n ≤ 30 ∧ 0 ≤ k ∧ k ≤ n then (tab (n - 1).toNat k.toNat, 0) else (0, 2)) := by
  by_cases c : 1 ≤ n ∧ n ≤ 30 ∧ 0 ≤ k ∧ k ≤ n
  · rw [if_pos c]
    obtain ⟨m, rfl⟩ : ∃ m : Nat, n = m := ⟨n.toNat, by omega⟩
    obtain ⟨j, rfl⟩ : ∃ j : Nat, k = j := ⟨k.toNat, by omega⟩
    have h := of_decide_eq_true (all_two wy_all (a := m) (b := j) (by omega) (by omega))
    rcases h with h | h
    · omega
    · rw [Int.toNat_natCast, show ((m : Int) - 1).toNat = m - 1 by omega, ← h]
      unfold spec_CountByRoot.f
      refine Ev.bind (Ev.const (spec_l02Numbers_eq m j)) ?_
      refine Ev.pos (by simp; omega) (Ev.bind (spec_l02Catalan_ev m (by omega) (by omega)) (Ev.pos (by omega) (Ev.pos (by omega) ?_)))
      simp only [Option.bind_some, Int.toNat_natCast]
      refine Ev.pos (by rw [List.length_replicate]; omega) ?_
      have e := spec_CountByRoot_l0 m (by omega) (by omega) j 0 (by omega)
      rw [Nat.zero_add] at e
      have e0 : (List.replicate m (0 : Int)).set (0 : Int).toNat 1 = (wy 0).take m := by
        obtain ⟨i, rfl⟩ : ∃ i, m = i + 1 := ⟨m - 1, by omega⟩
        rw [List.replicate_succ, wy, List.take_succ_cons, List.take_replicate, show min i 29 = i by omega]
        rfl
      rw [e0]
      exact e
  · rw [if_neg c]
    unfold spec_CountByRoot.f
    refine Ev.bind (Ev.const (spec_l02Numbers_eq n k)) ?_
    exact Ev.neg (by simp; omega) (Ev.now _)
theorem impl_isCounted_eq (a : Int) : impl_isCounted.f a = some (decide (1 ≤ a ∧ a ≤ 30)) := by
  unfold impl_isCounted.f
  by_cases h : a ≥ 1
  · rw [if_pos h]
    congr 1
    rw [Bool.eq_iff_iff, decide_eq_true_eq, decide_eq_true_eq]
    omega
  · rw [if_neg h]
    congr 1
    rw [eq_comm, decide_eq_false_iff_not]
    omega
theorem impl_CountByRoot_eq (n k : Int) : impl_CountByRoot.f n k = some (if 1 ≤ n ∧ n ≤ 30 ∧ 0 ≤ k ∧ k ≤ n then (tab (n - 1).toNat k.toNat, 0) else (0, 2)) := by
  unfold impl_CountByRoot.f
  rw [impl_isCounted_eq, Option.bind_some]
  by_cases c : 1 ≤ n ∧ n ≤ 30 ∧ 0 ≤ k ∧ k ≤ n
  · rw [if_pos c, if_neg (by simp; omega), if_pos ⟨c.1, c.2.1⟩]
  · rw [if_neg c, if_pos (by simp; omega)]
theorem FnExactCountByRoot : ∀ (n k : Int), (Lit.int .i64 n).wf = true → (Lit.int .i64 k).wf = true → ∃ m, laws_FnExactCountByRoot.f m n k = some true := by
  intro n k _ _
  apply Ev.rounds
  unfold laws_FnExactCountByRoot.f
  refine Ev.bind (spec_CountByRoot_ev n k) ?_
  rw [impl_CountByRoot_eq]
  exact Ev.pos rfl (Ev.pos rfl (Ev.now _))

end Go.Proofs.Ytnibeghaebdajaa.Pure
