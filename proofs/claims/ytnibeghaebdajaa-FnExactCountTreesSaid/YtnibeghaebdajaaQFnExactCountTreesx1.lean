/- Functions of the program as plain Lean functions, each with a proof that the machine's call answers what it answers. Conditions: none. -/
import Derived.Test.YtnibeghaebdajaaQFnExactCountTreesx0
namespace Go.Proofs.Ytnibeghaebdajaa.QFnExactCountTrees
open Go.RowKit Go.Proofs.YtnibeghaebdajaaW.PrintWords Go.Proofs.YtnibeghaebdajaaW.PrintLast Go.Proofs.YtnibeghaebdajaaW.PrintMore
attribute [local go_sem] max2_int min2_int max_two min_two max_three min_three max_four min_four   -- for this text's walks alone
set_option linter.unusedVariables false
set_option linter.unusedSimpArgs false

/-! ### spec_l01In: function 46 -/
def spec_l01In.f (a0 : Int) (a1 : Int) (a2 : Int) : Option (Bool) := if a0 ≥ a1 then (some (decide (a0 ≤ a2))) else (some false)
set_option maxHeartbeats 8000000 in
set_option maxRecDepth 100000 in
theorem spec_l01In.calls (a0 : Int) (a1 : Int) (a2 : Int) (r : Bool) (w : World) (h : spec_l01In.f a0 a1 a2 = some r) :
    Calls Try.prog 46 #[.int .i64 a0, .int .i64 a1, .int .i64 a2] w fun e w' => e = .returned (.bool r) ∧ Drawn0 w w' := by
  have H : (if a0 ≥ a1 then (some (decide (a0 ≤ a2))) else (some false)) = some r := h
  clear h
  by_cases c4 : a0 ≥ a1
  · rw [if_pos c4] at H
    have c4b0 : decide (a1 ≤ a0) = true := decide_eq_true c4
    clear c4
    obtain rfl := Option.some.inj H
    go_enter Try.func46, Try.ntmps46
    go_wp2
    go_ret
    exact ⟨by first | rfl | (simp; done) | (simp [*]; done), by repeat (first | exact Drawn0.refl _ | apply Drawn0.step)⟩
  · rw [if_neg c4] at H
    have c4b0 : decide (a1 ≤ a0) = false := decide_eq_false c4
    clear c4
    obtain rfl := Option.some.inj H
    go_enter Try.func46, Try.ntmps46
    go_wp2
    go_ret
    exact ⟨by first | rfl | (simp; done) | (simp [*]; done), by repeat (first | exact Drawn0.refl _ | apply Drawn0.step)⟩

/-! ### spec_l02Catalan: function 47 -/
mutual
def spec_l02Catalan.l0 : Nat → Int → List Int → Int → Option (List Int)
  | 0, _, _, _ => none
  | k + 1, x0, x3, x4 => if x4 ≤ x0 then (spec_l02Catalan.l1 k x0 x3 x4 0 1) else (some x3)
def spec_l02Catalan.l1 : Nat → Int → List Int → Int → Int → Int → Option (List Int)
  | 0, _, _, _, _, _ => none
  | k + 1, x0, x3, x4, x5, x6 => if x6 < x4 then (if 0 ≤ x6 then (if x6 < (x3.length : Int) then (if 0 ≤ (wrap64 (x4 - x6)) then (if (wrap64 (x4 - x6)) < (x3.length : Int) then (spec_l02Catalan.l1 k x0 x3 x4 (wrap64 (x5 + (wrap64 ((rd x3 x6) * (rd x3 (wrap64 (x4 - x6))))))) (wrap64 (x6 + 1))) else (none)) else (none)) else (none)) else (none)) else (if x3.length < 17592186044416 then (spec_l02Catalan.l0 k x0 (x3 ++ [x5]) (wrap64 (x4 + 1))) else (none))
end
def spec_l02Catalan.f (k : Nat) (a0 : Int) : Option (List Int) := spec_l02Catalan.l0 k a0 (([0, 1] : List Int)) 2
theorem spec_l02Catalan.mono_l : ∀ k, (∀ y0 y1 y2, LeO (spec_l02Catalan.l0 k y0 y1 y2) (spec_l02Catalan.l0 (k + 1) y0 y1 y2)) ∧ (∀ y0 y1 y2 y3 y4, LeO (spec_l02Catalan.l1 k y0 y1 y2 y3 y4) (spec_l02Catalan.l1 (k + 1) y0 y1 y2 y3 y4))
  | 0 => ⟨fun _ _ _ r h => by simp [spec_l02Catalan.l0] at h, fun _ _ _ _ _ r h => by simp [spec_l02Catalan.l1] at h⟩
  | k + 1 => by
    obtain ⟨ih0, ih1⟩ := spec_l02Catalan.mono_l k
    refine ⟨?_, ?_⟩
    · intro y0 y1 y2
      unfold spec_l02Catalan.l0
      repeat' first
      | (with_reducible exact ih0 _ _ _)
      | (with_reducible exact ih1 _ _ _ _ _)
      | (with_reducible exact LeO.refl _)
      | (with_reducible exact LeO.none _)
      | (with_reducible refine LeO.ite ?_ ?_)
      | (with_reducible refine LeO.bind ?_ (fun _ => ?_))
      | exact ih0 _ _ _
      | exact ih1 _ _ _ _ _
      | exact LeO.none _
      | refine LeO.ite ?_ ?_
      | refine LeO.bind ?_ (fun _ => ?_)
    · intro y0 y1 y2 y3 y4
      unfold spec_l02Catalan.l1
      repeat' first
      | (with_reducible exact ih0 _ _ _)
      | (with_reducible exact ih1 _ _ _ _ _)
      | (with_reducible exact LeO.refl _)
      | (with_reducible exact LeO.none _)
      | (with_reducible refine LeO.ite ?_ ?_)
      | (with_reducible refine LeO.bind ?_ (fun _ => ?_))
      | exact ih0 _ _ _
      | exact ih1 _ _ _ _ _
      | exact LeO.none _
      | refine LeO.ite ?_ ?_
      | refine LeO.bind ?_ (fun _ => ?_)
theorem spec_l02Catalan.mono : ∀ a0 k, LeO (spec_l02Catalan.f k a0) (spec_l02Catalan.f (k + 1) a0) := by
  intro a0 k
  obtain ⟨ih0, ih1⟩ := spec_l02Catalan.mono_l k
  unfold spec_l02Catalan.f
  repeat' first
      | (with_reducible exact ih0 _ _ _)
      | (with_reducible exact ih1 _ _ _ _ _)
      | (with_reducible exact LeO.refl _)
      | (with_reducible exact LeO.none _)
      | (with_reducible refine LeO.ite ?_ ?_)
      | (with_reducible refine LeO.bind ?_ (fun _ => ?_))
      | exact ih0 _ _ _
      | exact ih1 _ _ _ _ _
      | exact LeO.none _
      | refine LeO.ite ?_ ?_
      | refine LeO.bind ?_ (fun _ => ?_)
set_option maxHeartbeats 8000000 in
set_option maxRecDepth 100000 in
theorem spec_l02Catalan.calls (k : Nat) (a0 : Int) (r : List Int) (w : World) (h : spec_l02Catalan.f k a0 = some r) :
    Calls Try.prog 47 #[.int .i64 a0] w fun e w' => ∃ v0_ : Value, e = .returned (v0_) ∧ Kd.R (Kd.int .i64) 2 w' w.heap.size (fun _ => True) v0_ r ∧ Below w.heap.size w w' := by
  have HB := Aside0.mk (Below.refl w.heap.size w)
  have H : (spec_l02Catalan.l0 k a0 (([0, 1] : List Int)) 2) = some r := h
  clear h
  obtain ⟨y101, hy101⟩ : ∃ y_ : List Int, y_ = (([0, 1] : List Int)) := ⟨_, rfl⟩
  replace H : (spec_l02Catalan.l0 k a0 y101 2) = some r := by first | (rw [hy101]; with_reducible exact H) | (have H2_ := (Option.bind_some _ _).symm.trans H; rw [hy101]; with_reducible exact H2_) | (have H2_ := (Option.bind_some _ _).symm.trans H; with_reducible exact H2_) | with_reducible exact H | (rw [hy101]; exact H) | exact H
  have Ny101 := Aside0.mk hy101
  clear hy101
  have H' := Aside0.mk H
  clear H
  go_enter Try.func47, Try.ntmps47
  go_wp2_with (first | ((with_reducible refine gate_dst (N := 7) rfl ?_); refine Kd.R_lit (Kd.int .i64) _ 2 ?hg (N := 7) ?hd (xs := ([0, 1] : List Int)) (inner := [.int .i64 0, .int .i64 1]) (ok := fun _ => True) (okp := fun _ => True) ?hr ?hp (fun _ hk => hk) trivial (Below.refl _ _) (Nat.le_refl _) (by simp) ?_; (case hd => rfl); (case hg => rfl); (case hr => first | (go_simp; done) | (go_simp; rfl)); (case hp => exact (Reps.one (show Kd.M (Kd.int .i64) _ _ _ 0 [.int .i64 0] from rfl) (Reps.one (show Kd.M (Kd.int .i64) _ _ _ 1 [.int .i64 1] from rfl) (Reps.none _ _)))); intro v102 w2 ho3 hb hg_ hnew_; clear hg_ hnew_; (first | rw [← Ny101.out] at ho3 | (simp only [Int.reduceToNat] at ho3; rw [← Ny101.out] at ho3)); have n0_ := Aside0.mk (Kd.R_lower ho3 (below_size (by repeat (first | (with_reducible first | exact HB.out | apply below_alloc | apply pw_below_drewN | apply below_drew1) | exact HB.out)))); have n1_ := Aside0.mk (below_step (by repeat (first | (with_reducible first | exact HB.out | apply below_alloc | apply pw_below_drewN | apply below_drew1) | exact HB.out)) hb); clear HB; have HO103 := n0_; have HB := n1_; clear n0_ n1_; clear hb ho3))
  repeat (go_quiet (first | ((with_reducible refine gate_dst (N := 7) rfl ?_); refine Kd.R_lit (Kd.int .i64) _ 2 ?hg (N := 7) ?hd (xs := ([0, 1] : List Int)) (inner := [.int .i64 0, .int .i64 1]) (ok := fun _ => True) (okp := fun _ => True) ?hr ?hp (fun _ hk => hk) trivial (Below.refl _ _) (Nat.le_refl _) (by simp) ?_; (case hd => rfl); (case hg => rfl); (case hr => first | (go_simp; done) | (go_simp; rfl)); (case hp => exact (Reps.one (show Kd.M (Kd.int .i64) _ _ _ 0 [.int .i64 0] from rfl) (Reps.one (show Kd.M (Kd.int .i64) _ _ _ 1 [.int .i64 1] from rfl) (Reps.none _ _)))); intro v102 w2 ho3 hb hg_ hnew_; clear hg_ hnew_; (first | rw [← Ny101.out] at ho3 | (simp only [Int.reduceToNat] at ho3; rw [← Ny101.out] at ho3)); have n0_ := Aside0.mk (Kd.R_lower ho3 (below_size (by repeat (first | (with_reducible first | exact HB.out | apply below_alloc | apply pw_below_drewN | apply below_drew1) | exact HB.out)))); have n1_ := Aside0.mk (below_step (by repeat (first | (with_reducible first | exact HB.out | apply below_alloc | apply pw_below_drewN | apply below_drew1) | exact HB.out)) hb); clear HB; have HO103 := n0_; have HB := n1_; clear n0_ n1_; clear hb ho3)); try go_wp2_with (first | ((with_reducible refine gate_dst (N := 7) rfl ?_); refine Kd.R_lit (Kd.int .i64) _ 2 ?hg (N := 7) ?hd (xs := ([0, 1] : List Int)) (inner := [.int .i64 0, .int .i64 1]) (ok := fun _ => True) (okp := fun _ => True) ?hr ?hp (fun _ hk => hk) trivial (Below.refl _ _) (Nat.le_refl _) (by simp) ?_; (case hd => rfl); (case hg => rfl); (case hr => first | (go_simp; done) | (go_simp; rfl)); (case hp => exact (Reps.one (show Kd.M (Kd.int .i64) _ _ _ 0 [.int .i64 0] from rfl) (Reps.one (show Kd.M (Kd.int .i64) _ _ _ 1 [.int .i64 1] from rfl) (Reps.none _ _)))); intro v102 w2 ho3 hb hg_ hnew_; clear hg_ hnew_; (first | rw [← Ny101.out] at ho3 | (simp only [Int.reduceToNat] at ho3; rw [← Ny101.out] at ho3)); have n0_ := Aside0.mk (Kd.R_lower ho3 (below_size (by repeat (first | (with_reducible first | exact HB.out | apply below_alloc | apply pw_below_drewN | apply below_drew1) | exact HB.out)))); have n1_ := Aside0.mk (below_step (by repeat (first | (with_reducible first | exact HB.out | apply below_alloc | apply pw_below_drewN | apply below_drew1) | exact HB.out)) hb); clear HB; have HO103 := n0_; have HB := n1_; clear n0_ n1_; clear hb ho3)))
  go_loopg [3, 4] k (fun kq v3 v4 w' => ∃ (x3_1 : List Int) (x4_1 : Int), v4 = .int .i64 x4_1 ∧ Aside0 (spec_l02Catalan.l0 kq a0 x3_1 x4_1 = some r) ∧ Aside0 (kq ≤ k) ∧ Aside0 (Kd.R (Kd.int .i64) 2 w' w.heap.size (fun _ => True) v3 x3_1) ∧ Aside0 (Below w.heap.size w w'))
  case atStart => exact ⟨(y101), (2), (by first | rfl | (simp; done) | (simp [*]; done)), H', ⟨Nat.le_refl _⟩, ⟨by (with_reducible repeat (first | apply Kd.R_alloc | apply Kd.R_drewN | apply Kd.R_drew)); exact HO103.out⟩, ⟨by repeat (first | (with_reducible first | exact HB.out | apply below_alloc | apply pw_below_drewN | apply below_drew1) | exact HB.out)⟩⟩
  case round =>
    clear H'
    try clear p2
    obtain ⟨x3_1, x4_1, rfl, HA, HK1, HO_3, HB⟩ := hrel
    cases gk with
    | zero => exact absurd HA.out (by simp [spec_l02Catalan.l0])
    | succ k1 =>
      have H := HA.out
      clear HA
      simp only [spec_l02Catalan.l0] at H
      by_cases c4 : x4_1 ≤ a0
      · rw [if_pos c4] at H
        have c4b0 : decide (x4_1 ≤ a0) = true := decide_eq_true c4
        clear c4
        have H' := Aside0.mk H
        clear H
        go_wp2
        repeat (go_quiet (fail); try go_wp2)
        go_loopg [5, 6] k1 (fun kq v5 v6 w' => ∃ (x5_2 : Int) (x6_2 : Int), v5 = .int .i64 x5_2 ∧ v6 = .int .i64 x6_2 ∧ Aside0 (spec_l02Catalan.l1 kq a0 x3_1 x4_1 x5_2 x6_2 = some r) ∧ Aside0 (kq ≤ k1) ∧ Aside0 (Kd.R (Kd.int .i64) 2 w' w.heap.size (fun _ => True) u3 x3_1) ∧ Aside0 (Below w.heap.size w w'))
        case atStart => exact ⟨(0), (1), (by first | rfl | (simp; done) | (simp [*]; done)), (by first | rfl | (simp; done) | (simp [*]; done)), H', ⟨Nat.le_refl _⟩, ⟨by (with_reducible repeat (first | apply Kd.R_alloc | apply Kd.R_drewN | apply Kd.R_drew)); exact HO_3.out⟩, ⟨by repeat (first | (with_reducible first | exact HB.out | apply below_alloc | apply pw_below_drewN | apply below_drew1) | exact HB.out)⟩⟩
        case round =>
          clear H'
          try clear p2
          try clear c4
          try clear c4b0
          try clear p2
          obtain ⟨x5_2, x6_2, rfl, rfl, HA, HK2, HO_3, HB⟩ := hrel
          cases gk with
          | zero => exact absurd HA.out (by simp [spec_l02Catalan.l1])
          | succ k2 =>
            have H := HA.out
            clear HA
            simp only [spec_l02Catalan.l1] at H
            by_cases c5 : x6_2 < x4_1
            · rw [if_pos c5] at H
              have c5b0 : decide (x6_2 < x4_1) = true := decide_eq_true c5
              clear c5
              by_cases c6 : 0 ≤ x6_2
              · rw [if_pos c6] at H
                have c6b0 : decide (0 ≤ x6_2) = true := decide_eq_true c6
                clear c6
                by_cases c7 : x6_2 < (x3_1.length : Int)
                · rw [if_pos c7] at H
                  have c7b0 : decide (x6_2 < (x3_1.length : Int)) = true := decide_eq_true c7
                  clear c7
                  obtain ⟨ji8, hji8⟩ : ∃ j_ : Int, (wrap64 (x4_1 - x6_2)) = j_ := ⟨_, rfl⟩
                  replace H : (if 0 ≤ (ji8) then (if (ji8) < (x3_1.length : Int) then (spec_l02Catalan.l1 k2 a0 x3_1 x4_1 (wrap64 (x5_2 + (wrap64 ((rd x3_1 x6_2) * (rd x3_1 (ji8)))))) (wrap64 (x6_2 + 1))) else (none)) else (none)) = some r := by first | (rw [hji8] at H; exact H) | (simp only [hji8] at H ⊢; exact H)
                  have hji8w : (IntKind.i64.wrap (x4_1 - x6_2)) = ji8 := (i64_w _).trans hji8
                  by_cases c9 : 0 ≤ (ji8)
                  · rw [if_pos c9] at H
                    have c9b0 : decide (0 ≤ (ji8)) = true := decide_eq_true c9
                    clear c9
                    by_cases c10 : (ji8) < (x3_1.length : Int)
                    · rw [if_pos c10] at H
                      have c10b0 : decide ((ji8) < (x3_1.length : Int)) = true := decide_eq_true c10
                      clear c10
                      have H' := Aside0.mk H
                      clear H
                      obtain ⟨Ao11, co11, eo11⟩ := Kd.R_slice HO_3.out
                      subst eo11
                      have p104 : 0 ≤ (x6_2 : Int) := of_decide_eq_true (by first | (with_reducible assumption) | assumption)
                      have q104 : x6_2 < (x3_1.length : Int) := of_decide_eq_true (by first | (with_reducible assumption) | assumption)
                      obtain ⟨ad104, e104, hx104_0⟩ := Kd.at_int (Kd.R_reads' HO_3.out).2.2 x6_2 p104 q104
                      cases e104
                      replace p104 := eq_true p104
                      replace q104 := eq_true q104
                      have p105 : 0 ≤ ((ji8) : Int) := of_decide_eq_true (by first | (with_reducible assumption) | assumption)
                      have q105 : (ji8) < (x3_1.length : Int) := of_decide_eq_true (by first | (with_reducible assumption) | assumption)
                      obtain ⟨ad105, e105, hx105_0⟩ := Kd.at_int (Kd.R_reads' HO_3.out).2.2 (ji8) p105 q105
                      obtain rfl : ad104 = ad105 := (by injection e105)
                      replace p105 := eq_true p105
                      replace q105 := eq_true q105
                      go_wp2
                      repeat (go_quiet (fail); try go_wp2)
                      go_roundg k2
                      case measure => have := HK1.out; have := HK2.out; omega
                      case rel => exact ⟨(wrap64 (x5_2 + (wrap64 ((rd x3_1 x6_2) * (rd x3_1 (ji8)))))), (wrap64 (x6_2 + 1)), (by first | rfl | (simp; done) | (simp only [← hji8] <;> (first | rfl | simp)) | (simp [*]; done)), (by first | rfl | (simp; done) | (simp [*]; done)), H', ⟨by have := HK1.out; have := HK2.out; omega⟩, ⟨by (with_reducible repeat (first | apply Kd.R_alloc | apply Kd.R_drewN | apply Kd.R_drew)); first | exact HO_3.out | (have h_ := HO_3.out; simpa only [ownBlock_slice] using h_)⟩, ⟨by repeat (first | (with_reducible first | exact HB.out | apply below_alloc | apply pw_below_drewN | apply below_drew1) | exact HB.out)⟩⟩
                    · rw [if_neg c10] at H
                      exact absurd H (by simp)
                  · rw [if_neg c9] at H
                    exact absurd H (by simp)
                · rw [if_neg c7] at H
                  exact absurd H (by simp)
              · rw [if_neg c6] at H
                exact absurd H (by simp)
            · rw [if_neg c5] at H
              have c5b0 : decide (x6_2 < x4_1) = false := decide_eq_false c5
              clear c5
              by_cases c12 : x3_1.length < 17592186044416
              · rw [if_pos c12] at H
                have LMc12 := Aside0.mk c12
                clear c12
                obtain ⟨y106, hy106⟩ : ∃ y_ : List Int, y_ = (x3_1 ++ [x5_2]) := ⟨_, rfl⟩
                replace H : (spec_l02Catalan.l0 k2 a0 y106 (wrap64 (x4_1 + 1))) = some r := by first | (rw [hy106]; with_reducible exact H) | (have H2_ := (Option.bind_some _ _).symm.trans H; rw [hy106]; with_reducible exact H2_) | (have H2_ := (Option.bind_some _ _).symm.trans H; with_reducible exact H2_) | with_reducible exact H | (rw [hy106]; exact H) | exact H
                have Ny106 := Aside0.mk hy106
                clear hy106
                have H' := Aside0.mk H
                clear H
                go_wp2_with (first | ((with_reducible refine gate_builtin (b := .append) (xs := #[.tmp 31, .tmp 33]) rfl ?_); at_builtin; refine Kd.R_append (Kd.int .i64) (w0 := w) w.heap.size rfl (.tmp 31) (.tmp 33) 29 2 (.int .i64 0) 8 rfl Try.underlying29 info2 rfl (by decide) (by omega) u3 x3_1 x5_2 [.int .i64 x5_2] (fun _ => True) (fun _ => False) rfl rfl ?aP (fun _ hk => hk.elim) ?aF ?aO ?aB ?aS ?aL ?_; (case aP => exact rfl); (case aB => exact (by repeat (first | (with_reducible first | exact HB.out | apply below_alloc | apply pw_below_drewN | apply below_drew1) | exact HB.out))); (case aF => exact (fun _ _ => trivial)); (case aO => exact (by (with_reducible repeat (first | apply Kd.R_alloc | apply Kd.R_drewN | apply Kd.R_drew)); exact HO_3.out)); (case aS => exact (below_size (by repeat (first | (with_reducible first | exact HB.out | apply below_alloc | apply pw_below_drewN | apply below_drew1) | exact HB.out)))); (case aL => have := LMc12.out; omega); intro v107 w13 ho hb hg hat; rw [← Ny106.out] at ho; have n0_ := Aside0.mk (hb); have n1_ := Aside0.mk (ho); clear HB; clear HO_3; have HB := n0_; have HO108 := n1_; clear n0_ n1_; clear ho hb hg hat))
                repeat (go_quiet (first | ((with_reducible refine gate_builtin (b := .append) (xs := #[.tmp 31, .tmp 33]) rfl ?_); at_builtin; refine Kd.R_append (Kd.int .i64) (w0 := w) w.heap.size rfl (.tmp 31) (.tmp 33) 29 2 (.int .i64 0) 8 rfl Try.underlying29 info2 rfl (by decide) (by omega) u3 x3_1 x5_2 [.int .i64 x5_2] (fun _ => True) (fun _ => False) rfl rfl ?aP (fun _ hk => hk.elim) ?aF ?aO ?aB ?aS ?aL ?_; (case aP => exact rfl); (case aB => exact (by repeat (first | (with_reducible first | exact HB.out | apply below_alloc | apply pw_below_drewN | apply below_drew1) | exact HB.out))); (case aF => exact (fun _ _ => trivial)); (case aO => exact (by (with_reducible repeat (first | apply Kd.R_alloc | apply Kd.R_drewN | apply Kd.R_drew)); exact HO_3.out)); (case aS => exact (below_size (by repeat (first | (with_reducible first | exact HB.out | apply below_alloc | apply pw_below_drewN | apply below_drew1) | exact HB.out)))); (case aL => have := LMc12.out; omega); intro v107 w13 ho hb hg hat; rw [← Ny106.out] at ho; have n0_ := Aside0.mk (hb); have n1_ := Aside0.mk (ho); clear HB; clear HO_3; have HB := n0_; have HO108 := n1_; clear n0_ n1_; clear ho hb hg hat)); try go_wp2_with (first | ((with_reducible refine gate_builtin (b := .append) (xs := #[.tmp 31, .tmp 33]) rfl ?_); at_builtin; refine Kd.R_append (Kd.int .i64) (w0 := w) w.heap.size rfl (.tmp 31) (.tmp 33) 29 2 (.int .i64 0) 8 rfl Try.underlying29 info2 rfl (by decide) (by omega) u3 x3_1 x5_2 [.int .i64 x5_2] (fun _ => True) (fun _ => False) rfl rfl ?aP (fun _ hk => hk.elim) ?aF ?aO ?aB ?aS ?aL ?_; (case aP => exact rfl); (case aB => exact (by repeat (first | (with_reducible first | exact HB.out | apply below_alloc | apply pw_below_drewN | apply below_drew1) | exact HB.out))); (case aF => exact (fun _ _ => trivial)); (case aO => exact (by (with_reducible repeat (first | apply Kd.R_alloc | apply Kd.R_drewN | apply Kd.R_drew)); exact HO_3.out)); (case aS => exact (below_size (by repeat (first | (with_reducible first | exact HB.out | apply below_alloc | apply pw_below_drewN | apply below_drew1) | exact HB.out)))); (case aL => have := LMc12.out; omega); intro v107 w13 ho hb hg hat; rw [← Ny106.out] at ho; have n0_ := Aside0.mk (hb); have n1_ := Aside0.mk (ho); clear HB; clear HO_3; have HB := n0_; have HO108 := n1_; clear n0_ n1_; clear ho hb hg hat)))
                go_roundg k2
                case measure => have := HK1.out; have := HK2.out; omega
                case rel => exact ⟨(y106), (wrap64 (x4_1 + 1)), (by first | rfl | (simp; done) | (simp [*]; done)), H', ⟨by have := HK1.out; have := HK2.out; omega⟩, ⟨by (with_reducible repeat (first | apply Kd.R_alloc | apply Kd.R_drewN | apply Kd.R_drew)); first | exact HO108.out | (have h_ := HO108.out; simpa only [ownBlock_slice] using h_)⟩, ⟨by repeat (first | (with_reducible first | exact HB.out | apply below_alloc | apply pw_below_drewN | apply below_drew1) | exact HB.out)⟩⟩
              · rw [if_neg c12] at H
                exact absurd H (by simp)
      · rw [if_neg c4] at H
        have c4b0 : decide (x4_1 ≤ a0) = false := decide_eq_false c4
        clear c4
        obtain rfl := Option.some.inj H
        go_wp2
        repeat (go_quiet (fail); try go_wp2)
        go_ret
        exact ⟨_, by first | rfl | (simp [errW_none, errW_some] <;> rfl) | (simp [*, errW_none, errW_some] <;> rfl), by (with_reducible repeat (first | apply Kd.R_alloc | apply Kd.R_drewN | apply Kd.R_drew)); exact HO_3.out, by repeat (first | (with_reducible first | exact HB.out | apply below_alloc | apply pw_below_drewN | apply below_drew1) | exact HB.out)⟩

/-! ### spec_CountTrees: function 17 -/
def spec_CountTrees.f (k : Nat) (a0 : Int) : Option (Int × Int) := (spec_l01In.f a0 1 30).bind fun t109 => (if t109 = true then ((spec_l02Catalan.f k a0).bind fun t110 => (if 0 ≤ a0 then (if a0 < (t110.length : Int) then (some (rd t110 a0, 0)) else (none)) else (none))) else (some (0, 2)))
theorem spec_CountTrees.mono : ∀ a0 k, LeO (spec_CountTrees.f k a0) (spec_CountTrees.f (k + 1) a0) := by
  intro a0 k
  unfold spec_CountTrees.f
  repeat' first
      | (with_reducible exact spec_l02Catalan.mono _ _)
      | (with_reducible exact LeO.refl _)
      | (with_reducible exact LeO.none _)
      | (with_reducible refine LeO.ite ?_ ?_)
      | (with_reducible refine LeO.bind ?_ (fun _ => ?_))
      | exact spec_l02Catalan.mono _ _
      | exact LeO.none _
      | refine LeO.ite ?_ ?_
      | refine LeO.bind ?_ (fun _ => ?_)
set_option maxHeartbeats 8000000 in
set_option maxRecDepth 100000 in
theorem spec_CountTrees.calls (k : Nat) (a0 : Int) (r1 : Int) (r2 : Int) (w : World) (h : spec_CountTrees.f k a0 = some (r1, r2)) :
    Calls Try.prog 17 #[.int .i64 a0] w fun e w' => e = .returned (.tuple #[.int .i64 r1, .int .i64 r2]) ∧ Below w.heap.size w w' := by
  have HB := Aside0.mk (Below.refl w.heap.size w)
  have H : ((spec_l01In.f a0 1 30).bind fun t109 => (if t109 = true then ((spec_l02Catalan.f k a0).bind fun t110 => (if 0 ≤ a0 then (if a0 < (t110.length : Int) then (some (rd t110 a0, 0)) else (none)) else (none))) else (some (0, 2)))) = some (r1, r2) := h
  clear h
  replace H := Option.bind_eq_some_iff.mp H
  obtain ⟨t109, A20, H⟩ := H
  replace H : (if t109 = true then ((spec_l02Catalan.f k a0).bind fun t110 => (if 0 ≤ a0 then (if a0 < (t110.length : Int) then (some (rd t110 a0, 0)) else (none)) else (none))) else (some (0, 2))) = some (r1, r2) := H
  have A2 := Aside0.mk A20
  clear A20
  by_cases c3 : t109 = true
  · subst c3
    have H1 : ((spec_l02Catalan.f k a0).bind fun t110 => (if 0 ≤ a0 then (if a0 < (t110.length : Int) then (some (rd t110 a0, 0)) else (none)) else (none))) = some (r1, r2) := by rw [if_pos rfl] at H; exact H
    clear H
    have H := H1
    clear H1
    replace H := Option.bind_eq_some_iff.mp H
    obtain ⟨t110, A40, H⟩ := H
    replace H : (if 0 ≤ a0 then (if a0 < (t110.length : Int) then (some (rd t110 a0, 0)) else (none)) else (none)) = some (r1, r2) := H
    have A4 := Aside0.mk A40
    clear A40
    by_cases c5 : 0 ≤ a0
    · rw [if_pos c5] at H
      have c5b0 : decide (0 ≤ a0) = true := decide_eq_true c5
      clear c5
      by_cases c6 : a0 < (t110.length : Int)
      · rw [if_pos c6] at H
        have c6b0 : decide (a0 < (t110.length : Int)) = true := decide_eq_true c6
        clear c6
        simp only [Option.some.injEq, Prod.mk.injEq] at H
        obtain ⟨rfl, rfl⟩ := H
        go_enter Try.func17, Try.ntmps17
        go_wp2_with (first | ((with_reducible refine gate_callee (f := 46) rfl ?_); refine goesL_ (some 5) rfl rfl Try.func46 (by kernel_rfl) rfl #[.int .i64 a0, .int .i64 1, .int .i64 30] rfl (by (try simp only [List.map_toArray, List.map_cons, List.map_nil]); first | done | rfl | (simp only [List.length_drop, List.length_take]; rfl)) ?_; (with_reducible refine (spec_l01In.calls a0 1 30 true _ A2.out).mono ?_); rintro e w' ⟨rfl, ⟨nd, rfl⟩⟩; refine ⟨_, rfl, ?_⟩) | ((with_reducible refine gate_callee (f := 47) rfl ?_); refine goesL_ (some 8) rfl rfl Try.func47 (by kernel_rfl) rfl #[.int .i64 a0] rfl (by (try simp only [List.map_toArray, List.map_cons, List.map_nil]); first | done | rfl | (simp only [List.length_drop, List.length_take]; rfl)) ?_; (with_reducible refine (spec_l02Catalan.calls k a0 t110 _ A4.out).mono ?_); rintro e w7 ⟨v111, rfl, ho0, hb⟩; refine ⟨_, rfl, ?_⟩; have n0_ := Aside0.mk (Kd.R_lower ho0 (below_size (by repeat (first | (with_reducible first | exact HB.out | apply below_alloc | apply pw_below_drewN | apply below_drew1) | exact HB.out)))); have n1_ := Aside0.mk (below_step (by repeat (first | (with_reducible first | exact HB.out | apply below_alloc | apply pw_below_drewN | apply below_drew1) | exact HB.out)) hb); clear HB; have HO112 := n0_; have HB := n1_; clear n0_ n1_; (try clear hb); (try clear hb2); (try clear hk); (try clear hi); (try clear ho0); obtain ⟨Ao8, co8, eo8⟩ := Kd.R_slice HO112.out; subst eo8; have p113 : 0 ≤ (a0 : Int) := of_decide_eq_true (by first | (with_reducible assumption) | assumption); have q113 : a0 < (t110.length : Int) := of_decide_eq_true (by first | (with_reducible assumption) | assumption); obtain ⟨ad113, e113, hx113_0⟩ := Kd.at_int (Kd.R_reads' HO112.out).2.2 a0 p113 q113; cases e113; replace p113 := eq_true p113; replace q113 := eq_true q113))
        go_ret2
        exact ⟨by first | rfl | (simp [errW_none, errW_some] <;> rfl) | (simp [*, errW_none, errW_some] <;> rfl), by repeat (first | (with_reducible first | exact HB.out | apply below_alloc | apply pw_below_drewN | apply below_drew1) | exact HB.out)⟩
      · rw [if_neg c6] at H
        exact absurd H (by simp)
    · rw [if_neg c5] at H
      exact absurd H (by simp)
  · replace c3 := Bool.eq_false_iff.mpr c3
    subst c3
    have H1 : (some (0, 2)) = some (r1, r2) := by rw [if_neg (show ¬ (false = true) by decide)] at H; exact H
    clear H
    have H := H1
    clear H1
    simp only [Option.some.injEq, Prod.mk.injEq] at H
    obtain ⟨rfl, rfl⟩ := H
    go_enter Try.func17, Try.ntmps17
    go_wp2_with (first | ((with_reducible refine gate_callee (f := 46) rfl ?_); refine goesL_ (some 5) rfl rfl Try.func46 (by kernel_rfl) rfl #[.int .i64 a0, .int .i64 1, .int .i64 30] rfl (by (try simp only [List.map_toArray, List.map_cons, List.map_nil]); first | done | rfl | (simp only [List.length_drop, List.length_take]; rfl)) ?_; (with_reducible refine (spec_l01In.calls a0 1 30 false _ A2.out).mono ?_); rintro e w' ⟨rfl, ⟨nd, rfl⟩⟩; refine ⟨_, rfl, ?_⟩))
    go_ret2
    exact ⟨by first | rfl | (simp [errW_none, errW_some] <;> rfl) | (simp [*, errW_none, errW_some] <;> rfl), by repeat (first | (with_reducible first | exact HB.out | apply below_alloc | apply pw_below_drewN | apply below_drew1) | exact HB.out)⟩

/-! ### impl_isCounted: function 48 -/
def impl_isCounted.f (a0 : Int) : Option (Bool) := if a0 ≥ 1 then (some (decide (a0 ≤ 30))) else (some false)
set_option maxHeartbeats 8000000 in
set_option maxRecDepth 100000 in
theorem impl_isCounted.calls (a0 : Int) (r : Bool) (w : World) (h : impl_isCounted.f a0 = some r) :
    Calls Try.prog 48 #[.int .i64 a0] w fun e w' => e = .returned (.bool r) ∧ Drawn0 w w' := by
  have H : (if a0 ≥ 1 then (some (decide (a0 ≤ 30))) else (some false)) = some r := h
  clear h
  by_cases c2 : a0 ≥ 1
  · rw [if_pos c2] at H
    have c2b0 : decide (1 ≤ a0) = true := decide_eq_true c2
    clear c2
    obtain rfl := Option.some.inj H
    go_enter Try.func48, Try.ntmps48
    go_wp2
    go_ret
    exact ⟨by first | rfl | (simp; done) | (simp [*]; done), by repeat (first | exact Drawn0.refl _ | apply Drawn0.step)⟩
  · rw [if_neg c2] at H
    have c2b0 : decide (1 ≤ a0) = false := decide_eq_false c2
    clear c2
    obtain rfl := Option.some.inj H
    go_enter Try.func48, Try.ntmps48
    go_wp2
    go_ret
    exact ⟨by first | rfl | (simp; done) | (simp [*]; done), by repeat (first | exact Drawn0.refl _ | apply Drawn0.step)⟩

-- NOT PRINTED: function 49 (impl_countForests)

/-! ### impl_CountTrees: function 18 -/
/-- so many entries of the row before, from a place on -/
def psum (r : List Int) (k : Nat) : Nat → Int
  | 0 => 0
  | d + 1 => wrap64 (psum r k d + rd r ((k + d : Nat) : Int))
def rowN : Nat → List Int
  | 0 => (List.range 32).map fun k => if k = 0 then 1 else 0
  | n + 1 => (List.range 32).map fun k => if k = 0 then 0 else psum (rowN n) (k - 1) (n + 2 - k)
def tab (n k : Nat) : Int := rd (rowN n) (k : Int)
theorem rd_map (f : Nat → Int) {k : Nat} (h : k < 32) : rd ((List.range 32).map f) (k : Int) = f k := by
  unfold rd
  rw [Int.toNat_natCast, List.getD_eq_getElem?_getD, List.getElem?_map, List.getElem?_range h]
  rfl
theorem tab_zero (k : Nat) (h : k < 32) : tab 0 k = if k = 0 then 1 else 0 := rd_map _ h
theorem tab_first (n : Nat) : tab (n + 1) 0 = 0 := rd_map _ (by omega)
theorem tab_at (n k : Nat) (h : k < 32) (h0 : k ≠ 0) : tab (n + 1) k = psum (rowN n) (k - 1) (n + 2 - k) := by
  have := rd_map (fun k => if k = 0 then 0 else psum (rowN n) (k - 1) (n + 2 - k)) h
  simp only [if_neg h0] at this
  exact this
/-- what stands in the table: rows below n are whole, row n up to k, and of place k so many parts are added -/
def ent (n k d a b : Nat) : Int := if a < n then tab a b else if a = n then (if b < k then tab n b else if b = k then psum (rowN (n - 1)) (k - 1) d else 0) else 0
def Sta (C : List Value) (n k d : Nat) : Prop := C.length = 992 ∧ ∀ a b : Nat, a < 31 → b < 32 → C[a * 32 + b]? = some (.int .i64 (ent n k d a b))
theorem sta_start (C : List Value) (h : C = (List.replicate 992 (Value.int .i64 0)).set 0 (.int .i64 1)) : Sta C 1 1 0 := by
  subst h
  refine ⟨by rw [List.length_set, List.length_replicate], fun a b ha hb => ?_⟩
  have e : (((List.replicate 992 (Value.int .i64 0)).set 0 (.int .i64 1))[a * 32 + b]?) = some (if a * 32 + b = 0 then Value.int .i64 1 else Value.int .i64 0) := by
    rw [List.getElem?_set, List.length_replicate]
    by_cases c : 0 = a * 32 + b
    · rw [if_pos c, if_pos (by omega), if_pos c.symm]
    · rw [if_neg c, if_neg (fun e => c e.symm), List.getElem?_replicate, if_pos (by omega)]
  rw [e]
  unfold ent
  by_cases c : a < 1
  · obtain rfl : a = 0 := by omega
    rw [if_pos c, tab_zero b hb]
    by_cases c2 : b = 0
    · subst c2; rfl
    · rw [if_neg (by omega), if_neg c2]
  · rw [if_neg c, if_neg (by omega)]
    by_cases c2 : a = 1
    · rw [if_pos c2]
      by_cases c3 : b < 1
      · obtain rfl : b = 0 := by omega
        rw [if_pos c3, tab_first]
      · rw [if_neg c3]
        split <;> rfl
    · rw [if_neg c2]
theorem sta_k {C : List Value} {n k : Nat} (h1 : 1 ≤ n) (hk : 1 ≤ k) (hkn : k ≤ n) (hn : n ≤ 30) (h : Sta C n k (n + 1 - k)) : Sta C n (k + 1) 0 := by
  refine ⟨h.1, fun a b ha hb => ?_⟩
  rw [h.2 a b ha hb]
  unfold ent
  by_cases c : a < n
  · rw [if_pos c, if_pos c]
  · rw [if_neg c, if_neg c]
    by_cases c2 : a = n
    · rw [if_pos c2, if_pos c2]
      by_cases c3 : b < k
      · rw [if_pos c3, if_pos (by omega)]
      · rw [if_neg c3]
        by_cases c4 : b = k
        · obtain ⟨m, rfl⟩ : ∃ m, n = m + 1 := ⟨n - 1, by omega⟩
          rw [if_pos c4, if_pos (by omega), tab_at m b hb (by omega), c4]
          rfl
        · rw [if_neg c4, if_neg (by omega)]
          split <;> rfl
    · rw [if_neg c2, if_neg c2]
theorem sta_n {C : List Value} {n : Nat} (h1 : 1 ≤ n) (hn : n ≤ 30) (h : Sta C n (n + 1) 0) : Sta C (n + 1) 1 0 := by
  refine ⟨h.1, fun a b ha hb => ?_⟩
  rw [h.2 a b ha hb]
  unfold ent
  by_cases c : a < n
  · rw [if_pos c, if_pos (by omega)]
  · rw [if_neg c]
    by_cases c2 : a = n
    · rw [if_pos c2, if_pos (show a < n + 1 by omega), c2]
      by_cases c3 : b < n + 1
      · rw [if_pos c3]
      · obtain ⟨m, rfl⟩ : ∃ m, n = m + 1 := ⟨n - 1, by omega⟩
        rw [if_neg c3, tab_at m b hb (by omega), show m + 2 - b = 0 by omega]
        split <;> rfl
    · rw [if_neg c2, if_neg (by omega)]
      by_cases c5 : a = n + 1
      · rw [if_pos c5]
        by_cases c6 : b < 1
        · obtain rfl : b = 0 := by omega
          rw [if_pos c6, tab_first]
        · rw [if_neg c6]
          split <;> rfl
      · rw [if_neg c5]
theorem sta_d {C : List Value} {n k d : Nat} (h1 : 1 ≤ n) (hk : 1 ≤ k) (hn : n ≤ 30) (hd : k + d ≤ n) (h : Sta C n k d) :
    Sta (C.set (n * 32 + k) (.int .i64 (wrap64 (ent n k d n k + ent n k d (n - 1) (k - 1 + d))))) n k (d + 1) := by
  refine ⟨by rw [List.length_set]; exact h.1, fun a b ha hb => ?_⟩
  rw [List.getElem?_set, h.1, h.2 a b ha hb]
  by_cases c : n * 32 + k = a * 32 + b
  · obtain ⟨rfl, rfl⟩ : n = a ∧ k = b := by omega
    rw [if_pos rfl, if_pos (by omega)]
    have e1 : ent n k d n k = psum (rowN (n - 1)) (k - 1) d := by
      unfold ent
      rw [if_neg (by omega), if_pos rfl, if_neg (by omega), if_pos rfl]
    have e2 : ent n k d (n - 1) (k - 1 + d) = tab (n - 1) (k - 1 + d) := by
      unfold ent
      rw [if_pos (by omega)]
    have e3 : ent n k (d + 1) n k = psum (rowN (n - 1)) (k - 1) (d + 1) := by
      unfold ent
      rw [if_neg (by omega), if_pos rfl, if_neg (by omega), if_pos rfl]
    rw [e1, e2, e3]
    rfl
  · rw [if_neg c]
    congr 2
    unfold ent
    by_cases c2 : a < n
    · rw [if_pos c2, if_pos c2]
    · rw [if_neg c2, if_neg c2]
      by_cases c3 : a = n
      · rw [if_pos c3, if_pos c3]
        by_cases c4 : b < k
        · rw [if_pos c4, if_pos c4]
        · rw [if_neg c4, if_neg c4, if_neg (by omega), if_neg (by omega)]
      · rw [if_neg c3, if_neg c3]
theorem zero_row : Try.zeroCells63.setIfInBounds 0 (Value.int .i64 1) = ((List.replicate 992 (Value.int .i64 0)).set 0 (.int .i64 1)).toArray := by kernel_rfl
set_option maxHeartbeats 8000000 in
set_option maxRecDepth 100000 in
theorem impl_countForests.calls (w : World) : Calls Try.prog 49 #[] w fun e w' => ∃ g : Nat, e = .returned (.pointer (some ⟨g, 0, none⟩)) ∧ w.heap.size ≤ g ∧ (∃ C : List Value, w'.heap[g]? = some (.cells C.toArray 63 (0, 0)) ∧ Sta C 31 1 0) ∧ Below w.heap.size w w' := by
  go_enter Try.func49, Try.ntmps49
  go_wp2
  rw [zero_row]
  obtain ⟨C0, hC0⟩ : ∃ C0, C0 = (List.replicate 992 (Value.int .i64 0)).set 0 (.int .i64 1) := ⟨_, rfl⟩
  rw [← hC0]
  obtain ⟨w1, hw1⟩ : ∃ w1, w1 = w.alloc (Obj.cells C0.toArray 63) := ⟨_, rfl⟩
  rw [← hw1]
  obtain ⟨g, hg⟩ : ∃ g, g = w.heap.size := ⟨_, rfl⟩
  rw [← hg]
  have HG : Hid (w1.heap[g]? = some (.cells C0.toArray 63 (0, 0))) := by
    rw [hw1, hg]
    exact blk_new w _
  have HB : Hid (Below g w w1) := by
    rw [hw1, hg]
    exact below_alloc (Below.refl _ _) _
  have HS : Hid (Sta C0 1 1 0) := sta_start C0 hC0
  have HGB := Aside0.mk hg
  clear hC0 hw1 hg
  go_loopw [2] (fun v2 wq => ∃ (n : Nat) (C : List Value), v2 = .int .i64 (n : Int) ∧ 1 ≤ n ∧ n ≤ 31 ∧ Hid (wq.heap[g]? = some (.cells C.toArray 63 (0, 0))) ∧ Hid (Sta C n 1 0) ∧ Hid (Below g w wq)) (fun v2 _ => 31 - (intOf v2).toNat)
  case atStart => exact ⟨1, C0, rfl, by omega, by omega, HG, HS, HB⟩
  case round =>
    clear HG HS HB
    obtain ⟨n, C, rfl, hn1, hn31, HG, HS, HB⟩ := hrel
    by_cases hlt : n ≤ 30
    · have hdn : decide ((n : Int) ≤ 30) = true := decide_eq_true (by omega)
      go_wp2
      go_loopw [3] (fun v3 wq => ∃ (k : Nat) (C : List Value), v3 = .int .i64 (k : Int) ∧ 1 ≤ k ∧ k ≤ n + 1 ∧ Hid (wq.heap[g]? = some (.cells C.toArray 63 (0, 0))) ∧ Hid (Sta C n k 0) ∧ Hid (Below g w wq)) (fun v3 _ => n + 1 - (intOf v3).toNat)
      case atStart => exact ⟨1, C, rfl, by omega, by omega, HG, HS, HB⟩
      case round =>
        clear HG HS HB
        obtain ⟨k, C, rfl, hk1, hkn, HG, HS, HB⟩ := hrel
        by_cases hle : k ≤ n
        · have hdk : decide ((k : Int) ≤ (n : Int)) = true := decide_eq_true (by omega)
          go_wp2
          go_loopw [4] (fun v4 wq => ∃ (d : Nat) (C : List Value), v4 = .int .i64 (d : Int) ∧ k + d ≤ n + 1 ∧ Hid (wq.heap[g]? = some (.cells C.toArray 63 (0, 0))) ∧ Hid (Sta C n k d) ∧ Hid (Below g w wq)) (fun v4 _ => n + 1 - k - (intOf v4).toNat)
          case atStart => exact ⟨0, C, rfl, by omega, HG, HS, HB⟩
          case round =>
            clear HG HS HB
            obtain ⟨d, C, rfl, hd, HG, HS, HB⟩ := hrel
            by_cases hc : k + d ≤ n
            · have hdd : decide ((k : Int) - 1 + (d : Int) ≤ (n : Int) - 1) = true := decide_eq_true (by omega)
              have hcc1 := blk_cell HG.out (n * 32 + k)
              have hcc2 := blk_cell HG.out ((n - 1) * 32 + (k - 1 + d))
              rw [List.getElem?_toArray, HS.out.2 n k (by omega) (by omega)] at hcc1
              rw [List.getElem?_toArray, HS.out.2 (n - 1) (k - 1 + d) (by omega) (by omega)] at hcc2
              have hff := blk_frozen HG.out (n * 32 + k)
              have HC1 := Aside0.mk hcc1
              have HC2 := Aside0.mk hcc2
              have HF := Aside0.mk hff
              clear hcc1 hcc2 hff
              go_wp2
              have hcc1 : wr.drew.cell? ⟨g, n * 32 + k, none⟩ = some (.int .i64 (ent n k d n k)) := HC1.out
              have hcc2 : wr.drew.cell? ⟨g, (n - 1) * 32 + (k - 1 + d), none⟩ = some (.int .i64 (ent n k d (n - 1) (k - 1 + d))) := HC2.out
              have hff : wr.drew.frozen? ⟨g, n * 32 + k, none⟩ = false := HF.out
              have hset := sta_d hn1 hk1 hlt hc HS.out
              have HSET := Aside0.mk hset
              clear hset
              obtain ⟨E1, hE1⟩ : ∃ E1, E1 = ent n k d n k := ⟨_, rfl⟩
              obtain ⟨E2, hE2⟩ : ∃ E2, E2 = ent n k d (n - 1) (k - 1 + d) := ⟨_, rfl⟩
              rw [← hE1] at hcc1
              rw [← hE2] at hcc2
              rw [← hE1, ← hE2] at HSET
              clear hE1 hE2
              go_region
              all_goals
                go_wp2
                refine ⟨⟨d + 1, C.set (n * 32 + k) (.int .i64 (wrap64 (E1 + E2))), by go_num, by omega, ?_, HSET.out, ?_⟩, by simp [intOf]; omega⟩
                · have := heap_setCell_same wr g (n * 32 + k) C.toArray 63 (.int .i64 (wrap64 (E1 + E2))) HG.out
                  rw [List.setIfInBounds_toArray] at this
                  exact this
                · exact below_drew1 (HB.out.setCell (Nat.le_refl _) _)
            · have hdd : decide ((k : Int) - 1 + (d : Int) ≤ (n : Int) - 1) = false := decide_eq_false (by omega)
              go_wp2
              obtain rfl : d = n + 1 - k := by omega
              exact ⟨⟨k + 1, C, by go_num, by omega, by omega, HG, sta_k hn1 hk1 hle hlt HS.out, HB⟩, by simp [intOf]; omega⟩
        · obtain rfl : k = n + 1 := by omega
          have hdk : decide (((n + 1 : Nat) : Int) ≤ (n : Int)) = false := decide_eq_false (by omega)
          go_wp2
          exact ⟨⟨n + 1, C, by go_num, by omega, by omega, HG, sta_n hn1 hlt HS.out, HB⟩, by simp [intOf]; omega⟩
    · obtain rfl : n = 31 := by omega
      have hdn : decide (((31 : Nat) : Int) ≤ 30) = false := rfl
      go_wp2
      go_ret
      exact ⟨g, rfl, by rw [HGB.out]; exact Nat.le_refl _, ⟨C, HG, HS⟩, by rw [← HGB.out]; exact HB⟩

theorem forests_cell {w : World} {g : Nat} {C : List Value} (h : w.heap[g]? = some (.cells C.toArray 63 (0, 0))) (hS : Sta C 31 1 0) (a b : Nat) (ha : a < 31) (hb : b < 32) :
    w.cell? ⟨g, a * 32 + b, none⟩ = some (.int .i64 (tab a b)) := by
  rw [blk_cell h (a * 32 + b), List.getElem?_toArray, hS.2 a b ha hb]
  unfold ent
  rw [if_pos ha]

def impl_CountTrees.f (a0 : Int) : Option (Int × Int) := (impl_isCounted.f a0).bind fun t => if t = true then (if 0 ≤ a0 then (if a0 ≤ 30 then some (tab a0.toNat 1, 0) else none) else none) else some (0, 2)
set_option maxHeartbeats 8000000 in
set_option maxRecDepth 100000 in
theorem impl_CountTrees.calls (a0 : Int) (r1 : Int) (r2 : Int) (w : World) (h : impl_CountTrees.f a0 = some (r1, r2)) :
    Calls Try.prog 18 #[.int .i64 a0] w fun e w' => e = .returned (.tuple #[.int .i64 r1, .int .i64 r2]) ∧ Below w.heap.size w w' := by
  unfold impl_CountTrees.f at h
  obtain ⟨t, ht, h⟩ := Option.bind_eq_some_iff.mp h
  have HT := Aside0.mk ht
  clear ht
  cases t with
  | false =>
    rw [if_neg (by simp)] at h
    obtain ⟨rfl, rfl⟩ : 0 = r1 ∧ 2 = r2 := by simpa using h
    clear h
    go_enter Try.func18, Try.ntmps18
    go_wp2_with (first | (go_at_call 48; (with_reducible refine (impl_isCounted.calls a0 false _ HT.out).mono ?_); rintro e w' ⟨rfl, ⟨nd, rfl⟩⟩))
    go_ret2
    exact ⟨rfl, ((Below.refl w.heap.size w).trans (show Below w.heap.size w (w.drewN nd) from ⟨rfl, rfl, rfl, Nat.le_refl _, fun _ _ => rfl⟩))⟩
  | true =>
    rw [if_pos rfl] at h
    by_cases c1 : 0 ≤ a0
    · rw [if_pos c1] at h
      by_cases c2 : a0 ≤ 30
      · rw [if_pos c2] at h
        obtain ⟨rfl, rfl⟩ : tab a0.toNat 1 = r1 ∧ 0 = r2 := by simpa using h
        clear h
        obtain ⟨n, rfl⟩ : ∃ n : Nat, a0 = n := ⟨a0.toNat, by omega⟩
        have hn : n ≤ 30 := by omega
        clear c1 c2
        go_enter Try.func18, Try.ntmps18
        go_wp2_with (first | (go_at_call 48; (with_reducible refine (impl_isCounted.calls _ true _ HT.out).mono ?_); rintro e w' ⟨rfl, ⟨nd, rfl⟩⟩) | (go_at_call 49; (with_reducible refine (impl_countForests.calls _).mono ?_); rintro e w1 ⟨g, rfl, hg, ⟨C, hC, hS⟩, hB⟩; have hcell := forests_cell hC hS n 1 (by omega) (by omega); have HB := Aside0.mk hB; clear hg hC hS hB))
        go_ret2
        exact ⟨by simp, ((Below.refl w.heap.size w).trans (show Below w.heap.size w (w.drewN nd) from ⟨rfl, rfl, rfl, Nat.le_refl _, fun _ _ => rfl⟩)).trans HB.out⟩
      · rw [if_neg c2] at h
        cases h
    · rw [if_neg c1] at h
      cases h


/-! ### laws_FnExactCountTrees: function 5 -/
def laws_FnExactCountTrees.f (k : Nat) (a0 : Int) : Option (Bool) := (spec_CountTrees.f k a0).bind fun bt114 => ((impl_CountTrees.f a0).bind fun bt116 => (if bt116.1 = bt114.1 then (if bt116.2 = bt114.2 then (some true) else (some false)) else (some false)))
theorem laws_FnExactCountTrees.mono : ∀ a0 k, LeO (laws_FnExactCountTrees.f k a0) (laws_FnExactCountTrees.f (k + 1) a0) := by
  intro a0 k
  unfold laws_FnExactCountTrees.f
  repeat' first
      | (with_reducible exact spec_CountTrees.mono _ _)
      | (with_reducible exact LeO.refl _)
      | (with_reducible exact LeO.none _)
      | (with_reducible refine LeO.ite ?_ ?_)
      | (with_reducible refine LeO.bind ?_ (fun _ => ?_))
      | exact spec_CountTrees.mono _ _
      | exact LeO.none _
      | refine LeO.ite ?_ ?_
      | refine LeO.bind ?_ (fun _ => ?_)
set_option maxHeartbeats 8000000 in
set_option maxRecDepth 100000 in
theorem laws_FnExactCountTrees.calls (k : Nat) (a0 : Int) (r : Bool) (w : World) (h : laws_FnExactCountTrees.f k a0 = some r) :
    Calls Try.prog 5 #[.int .i64 a0] w fun e w' => e = .returned (.bool r) ∧ Below w.heap.size w w' := by
  have HB := Aside0.mk (Below.refl w.heap.size w)
  have H : ((spec_CountTrees.f k a0).bind fun bt114 => ((impl_CountTrees.f a0).bind fun bt116 => (if bt116.1 = bt114.1 then (if bt116.2 = bt114.2 then (some true) else (some false)) else (some false)))) = some r := h
  clear h
  replace H := Option.bind_eq_some_iff.mp H
  obtain ⟨⟨t114, t115⟩, A20, H⟩ := H
  replace H : ((impl_CountTrees.f a0).bind fun bt116 => (if bt116.1 = t114 then (if bt116.2 = t115 then (some true) else (some false)) else (some false))) = some r := H
  have A2 := Aside0.mk A20
  clear A20
  replace H := Option.bind_eq_some_iff.mp H
  obtain ⟨⟨t116, t117⟩, A30, H⟩ := H
  replace H : (if t116 = t114 then (if t117 = t115 then (some true) else (some false)) else (some false)) = some r := H
  have A3 := Aside0.mk A30
  clear A30
  by_cases c4 : t116 = t114
  · rw [if_pos c4] at H
    have c4b0 : (t116 == t114) = true := beq_iff_eq.mpr c4
    have c4b1 : (t116 != t114) = false := bne_eq_false_iff_eq.mpr c4
    clear c4
    by_cases c5 : t117 = t115
    · rw [if_pos c5] at H
      have c5b0 : (t117 == t115) = true := beq_iff_eq.mpr c5
      have c5b1 : (t117 != t115) = false := bne_eq_false_iff_eq.mpr c5
      clear c5
      obtain rfl := Option.some.inj H
      go_enter Try.func5, Try.ntmps5
      go_wp2_with (first | ((with_reducible refine gate_callee (f := 17) rfl ?_); refine goesL_ (some 9) rfl rfl Try.func17 (by kernel_rfl) rfl #[.int .i64 a0] rfl (by (try simp only [List.map_toArray, List.map_cons, List.map_nil]); first | done | rfl | (simp only [List.length_drop, List.length_take]; rfl)) ?_; (with_reducible refine (spec_CountTrees.calls k a0 t114 t115 _ A2.out).mono ?_); rintro e w6 ⟨rfl, hb⟩; refine ⟨_, rfl, ?_⟩; have n0_ := Aside0.mk (below_step (by repeat (first | (with_reducible first | exact HB.out | apply below_alloc | apply pw_below_drewN | apply below_drew1) | exact HB.out)) hb); clear HB; have HB := n0_; clear n0_; (try clear hb); (try clear hb2); (try clear hk); (try clear hi)) | ((with_reducible refine gate_callee (f := 18) rfl ?_); refine goesL_ (some 14) rfl rfl Try.func18 (by kernel_rfl) rfl #[.int .i64 a0] rfl (by (try simp only [List.map_toArray, List.map_cons, List.map_nil]); first | done | rfl | (simp only [List.length_drop, List.length_take]; rfl)) ?_; (with_reducible refine (impl_CountTrees.calls a0 t116 t117 _ A3.out).mono ?_); rintro e w7 ⟨rfl, hb⟩; refine ⟨_, rfl, ?_⟩; have n0_ := Aside0.mk (below_step (by repeat (first | (with_reducible first | exact HB.out | apply below_alloc | apply pw_below_drewN | apply below_drew1) | exact HB.out)) hb); clear HB; have HB := n0_; clear n0_; (try clear hb); (try clear hb2); (try clear hk); (try clear hi)))
      go_ret
      exact ⟨by first | rfl | (simp [errW_none, errW_some] <;> rfl) | (simp [*, errW_none, errW_some] <;> rfl), by repeat (first | (with_reducible first | exact HB.out | apply below_alloc | apply pw_below_drewN | apply below_drew1) | exact HB.out)⟩
    · rw [if_neg c5] at H
      have c5b0 : (t117 == t115) = false := beq_eq_false_iff_ne.mpr c5
      have c5b1 : (t117 != t115) = true := bne_iff_ne.mpr c5
      obtain rfl := Option.some.inj H
      go_enter Try.func5, Try.ntmps5
      go_wp2_with (first | ((with_reducible refine gate_callee (f := 17) rfl ?_); refine goesL_ (some 9) rfl rfl Try.func17 (by kernel_rfl) rfl #[.int .i64 a0] rfl (by (try simp only [List.map_toArray, List.map_cons, List.map_nil]); first | done | rfl | (simp only [List.length_drop, List.length_take]; rfl)) ?_; (with_reducible refine (spec_CountTrees.calls k a0 t114 t115 _ A2.out).mono ?_); rintro e w8 ⟨rfl, hb⟩; refine ⟨_, rfl, ?_⟩; have n0_ := Aside0.mk (below_step (by repeat (first | (with_reducible first | exact HB.out | apply below_alloc | apply pw_below_drewN | apply below_drew1) | exact HB.out)) hb); clear HB; have HB := n0_; clear n0_; (try clear hb); (try clear hb2); (try clear hk); (try clear hi)) | ((with_reducible refine gate_callee (f := 18) rfl ?_); refine goesL_ (some 14) rfl rfl Try.func18 (by kernel_rfl) rfl #[.int .i64 a0] rfl (by (try simp only [List.map_toArray, List.map_cons, List.map_nil]); first | done | rfl | (simp only [List.length_drop, List.length_take]; rfl)) ?_; (with_reducible refine (impl_CountTrees.calls a0 t116 t117 _ A3.out).mono ?_); rintro e w9 ⟨rfl, hb⟩; refine ⟨_, rfl, ?_⟩; have n0_ := Aside0.mk (below_step (by repeat (first | (with_reducible first | exact HB.out | apply below_alloc | apply pw_below_drewN | apply below_drew1) | exact HB.out)) hb); clear HB; have HB := n0_; clear n0_; (try clear hb); (try clear hb2); (try clear hk); (try clear hi)))
      go_ret
      exact ⟨by first | rfl | (simp [errW_none, errW_some] <;> rfl) | (simp [*, errW_none, errW_some] <;> rfl), by repeat (first | (with_reducible first | exact HB.out | apply below_alloc | apply pw_below_drewN | apply below_drew1) | exact HB.out)⟩
  · rw [if_neg c4] at H
    have c4b0 : (t116 == t114) = false := beq_eq_false_iff_ne.mpr c4
    have c4b1 : (t116 != t114) = true := bne_iff_ne.mpr c4
    obtain rfl := Option.some.inj H
    go_enter Try.func5, Try.ntmps5
    go_wp2_with (first | ((with_reducible refine gate_callee (f := 17) rfl ?_); refine goesL_ (some 9) rfl rfl Try.func17 (by kernel_rfl) rfl #[.int .i64 a0] rfl (by (try simp only [List.map_toArray, List.map_cons, List.map_nil]); first | done | rfl | (simp only [List.length_drop, List.length_take]; rfl)) ?_; (with_reducible refine (spec_CountTrees.calls k a0 t114 t115 _ A2.out).mono ?_); rintro e w10 ⟨rfl, hb⟩; refine ⟨_, rfl, ?_⟩; have n0_ := Aside0.mk (below_step (by repeat (first | (with_reducible first | exact HB.out | apply below_alloc | apply pw_below_drewN | apply below_drew1) | exact HB.out)) hb); clear HB; have HB := n0_; clear n0_; (try clear hb); (try clear hb2); (try clear hk); (try clear hi)) | ((with_reducible refine gate_callee (f := 18) rfl ?_); refine goesL_ (some 14) rfl rfl Try.func18 (by kernel_rfl) rfl #[.int .i64 a0] rfl (by (try simp only [List.map_toArray, List.map_cons, List.map_nil]); first | done | rfl | (simp only [List.length_drop, List.length_take]; rfl)) ?_; (with_reducible refine (impl_CountTrees.calls a0 t116 t117 _ A3.out).mono ?_); rintro e w11 ⟨rfl, hb⟩; refine ⟨_, rfl, ?_⟩; have n0_ := Aside0.mk (below_step (by repeat (first | (with_reducible first | exact HB.out | apply below_alloc | apply pw_below_drewN | apply below_drew1) | exact HB.out)) hb); clear HB; have HB := n0_; clear n0_; (try clear hb); (try clear hb2); (try clear hk); (try clear hi)))
    go_ret
    exact ⟨by first | rfl | (simp [errW_none, errW_some] <;> rfl) | (simp [*, errW_none, errW_some] <;> rfl), by repeat (first | (with_reducible first | exact HB.out | apply below_alloc | apply pw_below_drewN | apply below_drew1) | exact HB.out)⟩

/-- THE ONE PURE STATEMENT of laws_FnExactCountTrees: yours. -/
def laws_FnExactCountTrees.Pure : Prop := ∀ (a0 : Int), (Lit.int .i64 a0).wf = true → ∃ k, laws_FnExactCountTrees.f k a0 = some true
theorem laws_FnExactCountTrees.walk (P : laws_FnExactCountTrees.Pure) (a0 : Int) (w : World) (w0 : (Lit.int .i64 a0).wf = true) :
    Calls Try.prog 5 #[.int .i64 a0] w fun e w' => e = .returned (.bool true) ∧ Below w.heap.size w w' := by
  obtain ⟨k, h⟩ := P a0 w0
  refine (laws_FnExactCountTrees.calls k a0 true w h).mono ?_
  rintro e w' ⟨rfl, hd⟩
  exact ⟨rfl, hd⟩

end Go.Proofs.Ytnibeghaebdajaa.QFnExactCountTrees
