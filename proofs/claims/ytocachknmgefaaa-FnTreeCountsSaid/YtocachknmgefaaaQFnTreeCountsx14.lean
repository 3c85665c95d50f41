/- Functions of the program as plain Lean functions, each with a proof that the machine's call answers what it answers. Conditions: none. -/
import Derived.Test.YtocachknmgefaaaQFnTreeCountsx0
import Derived.Test.YtocachknmgefaaaQFnTreeCountsx1
import Derived.Test.YtocachknmgefaaaQFnTreeCountsx2
import Derived.Test.YtocachknmgefaaaQFnTreeCountsx5
namespace Go.Proofs.Ytocachknmgefaaa.QFnTreeCounts
open Go.RowKit Go.Proofs.YtocachknmgefaaaW.PrintWords Go.Proofs.YtocachknmgefaaaW.PrintLast Go.Proofs.YtocachknmgefaaaW.PrintMore
attribute [local go_sem] max2_int min2_int max_two min_two max_three min_three max_four min_four   -- for this text's walks alone
set_option linter.unusedVariables false
set_option linter.unusedSimpArgs false

/-! ### spec_CountByCounts: function 82 -/
mutual
def spec_CountByCounts.j0 : Nat → List Int → Bool → Option (Int × Int)
  | 0, _, _ => none
  | k + 1, x0, x26 => if x26 = true then (some (0, 2)) else (spec_CountByCounts.l0 k x0 0 0 0)
def spec_CountByCounts.l0 : Nat → List Int → Int → Int → Int → Option (Int × Int)
  | 0, _, _, _, _ => none
  | k + 1, x0, x4, x5, x6 => if x6 < (x0.length : Int) then (if 0 ≤ x6 then ((spec_l01In.f (rd x0 x6) 0 20).bind fun t514 => (if t514 = true then (spec_CountByCounts.l0 k x0 (wrap64 (x4 + (rd x0 x6))) (wrap64 (x5 + (wrap64 (x6 * (rd x0 x6))))) (wrap64 (x6 + 1))) else (some (0, 2)))) else (none)) else (if x4 > 20 then (some (0, 2)) else (if x5 = (wrap64 (x4 - 1)) then (spec_CountByCounts.l1 k x0 x4 1 x4 0) else (some (0, 5))))
def spec_CountByCounts.l1 : Nat → List Int → Int → Int → Int → Int → Option (Int × Int)
  | 0, _, _, _, _, _ => none
  | k + 1, x0, x4, x7, x8, x9 => if x9 < (x0.length : Int) then (if 0 ≤ x9 then ((spec_l02Choose.f k x8 (rd x0 x9)).bind fun t518 => (spec_CountByCounts.l1 k x0 x4 (wrap64 (x7 * t518)) (wrap64 (x8 - (rd x0 x9))) (wrap64 (x9 + 1)))) else (none)) else (if x4 = 0 then (none) else (some (wrap64 (Int.tdiv x7 x4), 0)))
end
def spec_CountByCounts.f (k : Nat) (l0 : List Int) : Option (Int × Int) := if (l0.length : Int) < 1 then (spec_CountByCounts.j0 k l0 true) else (if (l0.length : Int) > 30 then (spec_CountByCounts.j0 k l0 true) else (if 0 ≤ (wrap64 ((l0.length : Int) - 1)) then (if (wrap64 ((l0.length : Int) - 1)) < (l0.length : Int) then (spec_CountByCounts.j0 k l0 ((rd l0 (wrap64 ((l0.length : Int) - 1))) == 0)) else (none)) else (none)))
theorem spec_CountByCounts.mono_l : ∀ k, (∀ y0 y1, LeO (spec_CountByCounts.j0 k y0 y1) (spec_CountByCounts.j0 (k + 1) y0 y1)) ∧ (∀ y0 y1 y2 y3, LeO (spec_CountByCounts.l0 k y0 y1 y2 y3) (spec_CountByCounts.l0 (k + 1) y0 y1 y2 y3)) ∧ (∀ y0 y1 y2 y3 y4, LeO (spec_CountByCounts.l1 k y0 y1 y2 y3 y4) (spec_CountByCounts.l1 (k + 1) y0 y1 y2 y3 y4))
  | 0 => ⟨fun _ _ r h => by simp [spec_CountByCounts.j0] at h, fun _ _ _ _ r h => by simp [spec_CountByCounts.l0] at h, fun _ _ _ _ _ r h => by simp [spec_CountByCounts.l1] at h⟩
  | k + 1 => by
    obtain ⟨ih0, ih1, ih2⟩ := spec_CountByCounts.mono_l k
    refine ⟨?_, ?_, ?_⟩
    · intro y0 y1
      unfold spec_CountByCounts.j0
      repeat' first
      | (with_reducible exact ih0 _ _)
      | (with_reducible exact ih1 _ _ _ _)
      | (with_reducible exact ih2 _ _ _ _ _)
      | (with_reducible exact spec_l02Choose.mono _ _ _)
      | (with_reducible exact LeO.refl _)
      | (with_reducible exact LeO.none _)
      | (with_reducible refine LeO.ite ?_ ?_)
      | (with_reducible refine LeO.bind ?_ (fun _ => ?_))
      | exact ih0 _ _
      | exact ih1 _ _ _ _
      | exact ih2 _ _ _ _ _
      | exact spec_l02Choose.mono _ _ _
      | exact LeO.none _
      | refine LeO.ite ?_ ?_
      | refine LeO.bind ?_ (fun _ => ?_)
    · intro y0 y1 y2 y3
      unfold spec_CountByCounts.l0
      repeat' first
      | (with_reducible exact ih0 _ _)
      | (with_reducible exact ih1 _ _ _ _)
      | (with_reducible exact ih2 _ _ _ _ _)
      | (with_reducible exact spec_l02Choose.mono _ _ _)
      | (with_reducible exact LeO.refl _)
      | (with_reducible exact LeO.none _)
      | (with_reducible refine LeO.ite ?_ ?_)
      | (with_reducible refine LeO.bind ?_ (fun _ => ?_))
      | exact ih0 _ _
      | exact ih1 _ _ _ _
      | exact ih2 _ _ _ _ _
      | exact spec_l02Choose.mono _ _ _
      | exact LeO.none _
      | refine LeO.ite ?_ ?_
      | refine LeO.bind ?_ (fun _ => ?_)
    · intro y0 y1 y2 y3 y4
      unfold spec_CountByCounts.l1
      repeat' first
      | (with_reducible exact ih0 _ _)
      | (with_reducible exact ih1 _ _ _ _)
      | (with_reducible exact ih2 _ _ _ _ _)
      | (with_reducible exact spec_l02Choose.mono _ _ _)
      | (with_reducible exact LeO.refl _)
      | (with_reducible exact LeO.none _)
      | (with_reducible refine LeO.ite ?_ ?_)
      | (with_reducible refine LeO.bind ?_ (fun _ => ?_))
      | exact ih0 _ _
      | exact ih1 _ _ _ _
      | exact ih2 _ _ _ _ _
      | exact spec_l02Choose.mono _ _ _
      | exact LeO.none _
      | refine LeO.ite ?_ ?_
      | refine LeO.bind ?_ (fun _ => ?_)
theorem spec_CountByCounts.mono : ∀ a0 k, LeO (spec_CountByCounts.f k a0) (spec_CountByCounts.f (k + 1) a0) := by
  intro a0 k
  obtain ⟨ih0, ih1, ih2⟩ := spec_CountByCounts.mono_l k
  unfold spec_CountByCounts.f
  repeat' first
      | (with_reducible exact ih0 _ _)
      | (with_reducible exact ih1 _ _ _ _)
      | (with_reducible exact ih2 _ _ _ _ _)
      | (with_reducible exact spec_l02Choose.mono _ _ _)
      | (with_reducible exact LeO.refl _)
      | (with_reducible exact LeO.none _)
      | (with_reducible refine LeO.ite ?_ ?_)
      | (with_reducible refine LeO.bind ?_ (fun _ => ?_))
      | exact ih0 _ _
      | exact ih1 _ _ _ _
      | exact ih2 _ _ _ _ _
      | exact spec_l02Choose.mono _ _ _
      | exact LeO.none _
      | refine LeO.ite ?_ ?_
      | refine LeO.bind ?_ (fun _ => ?_)
theorem spec_CountByCounts.Z0 {p : Prop} (h : p := by first | (with_reducible assumption) | assumption) : p := h
theorem spec_CountByCounts.Z1 {p : Prop} (h : p := by first | rfl | (simp; done) | (simp [*]; done)) : p := h
set_option maxHeartbeats 8000000 in
set_option maxRecDepth 100000 in
theorem spec_CountByCounts.calls (k : Nat) (A0 : Option Addr) (c0 : Nat) (l0 : List Int) (r1 : Int) (r2 : Int) (w : World) (hr0 : Kd.C (Kd.int .i64) w A0 l0.length l0) (hc0 : l0.length ≤ c0) (h : spec_CountByCounts.f k l0 = some (r1, r2)) :
  Calls Try.prog 82 #[.slice A0 l0.length c0] w fun e w' => e = .returned (.tuple #[.int .i64 r1, .int .i64 r2]) ∧ Below w.heap.size w w' := by
 have HR0 := A_ hr0
 have HC0 := A_ hc0
 clear hr0 hc0
 have HB := A_ (Below.refl w.heap.size w)
 have H : (if (l0.length : Int) < 1 then (spec_CountByCounts.j0 k l0 true) else (if (l0.length : Int) > 30 then (spec_CountByCounts.j0 k l0 true) else (if 0 ≤ (wrap64 ((l0.length : Int) - 1)) then (if (wrap64 ((l0.length : Int) - 1)) < (l0.length : Int) then (spec_CountByCounts.j0 k l0 ((rd l0 (wrap64 ((l0.length : Int) - 1))) == 0)) else (none)) else (none)))) = some (r1, r2) := h
 clear h
 have HC2 := A_ H
 clear H
 go_enter Try.func82, Try.ntmps82
 go_upto_region 1 with (fail)
 go_cut [26] (fun v26 wc => ∃ (kq : Nat) (x26_1 : Bool), v26 = .bool x26_1 ∧ Aside0 (spec_CountByCounts.j0 kq l0 x26_1 = some (r1, r2)) ∧ Aside0 (kq ≤ k) ∧ Aside0 (Below w.heap.size w wc))
 case first =>
  have H := HC2.out
  clear HC2
  by_cases c3 : (l0.length : Int) < 1
  ·rw [if_pos c3] at H
   have c3b0 : decide ((l0.length : Int) < 1) = true := decide_eq_true c3
   have c3b1 : decide (l0.length < 1) = true := decide_eq_true (by omega)
   clear c3
   (first | rw [c3b0] | (simp only [i64_w, i32_w]; rw [c3b0]) | skip)
   have H' := A_ H
   clear H
   go_wp2
   go_meet
   case rel => exact ⟨_, (true), spec_CountByCounts.Z1, H', ⟨by first | omega | exact Nat.le_refl _⟩, ⟨el HB⟩⟩
  ·rw [if_neg c3] at H
   have c3b0 : decide ((l0.length : Int) < 1) = false := decide_eq_false c3
   have c3b1 : decide (l0.length < 1) = false := decide_eq_false (by omega)
   clear c3
   (first | rw [c3b0] | (simp only [i64_w, i32_w]; rw [c3b0]) | skip)
   by_cases c4 : (l0.length : Int) > 30
   ·rw [if_pos c4] at H
    have c4b0 : decide (30 < (l0.length : Int)) = true := decide_eq_true c4
    have c4b1 : decide (30 < l0.length) = true := decide_eq_true (by omega)
    clear c4
    have H' := A_ H
    clear H
    go_wp2
    go_meet
    case rel => exact ⟨_, (true), spec_CountByCounts.Z1, H', ⟨by first | omega | exact Nat.le_refl _⟩, ⟨el HB⟩⟩
   ·rw [if_neg c4] at H
    have c4b0 : decide (30 < (l0.length : Int)) = false := decide_eq_false c4
    have c4b1 : decide (30 < l0.length) = false := decide_eq_false (by omega)
    clear c4
    obtain ⟨ji5, hji5⟩ : ∃ j_ : Int, (wrap64 ((l0.length : Int) - 1)) = j_ := ⟨_, rfl⟩
    replace H : (if 0 ≤ (ji5) then (if (ji5) < (l0.length : Int) then (spec_CountByCounts.j0 k l0 ((rd l0 (ji5)) == 0)) else (none)) else (none)) = some (r1, r2) := by first | (rw [hji5] at H; exact H) | (simp only [hji5] at H ⊢; exact H)
    have hji5w : (IntKind.i64.wrap ((l0.length : Int) - 1)) = ji5 := (i64_w _).trans hji5
    by_cases c6 : 0 ≤ (ji5)
    rotate_left
    ·rw [if_neg c6] at H
     exact absurd H (by simp)
    rw [if_pos c6] at H
    have c6b0 : decide (0 ≤ (ji5)) = true := decide_eq_true c6
    clear c6
    by_cases c7 : (ji5) < (l0.length : Int)
    rotate_left
    ·rw [if_neg c7] at H
     exact absurd H (by simp)
    rw [if_pos c7] at H
    have c7b0 : decide ((ji5) < (l0.length : Int)) = true := decide_eq_true c7
    clear c7
    have H' := A_ H
    clear H
    have p512 : 0 ≤ ((ji5) : Int) := of_decide_eq_true spec_CountByCounts.Z0
    have q512 : (ji5) < (l0.length : Int) := of_decide_eq_true spec_CountByCounts.Z0
    obtain ⟨ad512, e512, hx512_0⟩ := Kd.at_int HR0.out (ji5) p512 q512
    cases e512
    replace hx512_0 := (HB.out.cell (World.block_lt_of_cell? w _ hx512_0)).trans hx512_0
    replace p512 := eq_true p512
    replace q512 := eq_true q512
    go_wp2
    go_meet
    case rel => exact ⟨_, (((rd l0 (ji5)) == 0)), (by first | rfl | (simp; done) | (simp only [← hji5] <;> (first | rfl | simp)) | (simp [*]; done)), H', ⟨by first | omega | exact Nat.le_refl _⟩, ⟨el HB⟩⟩
 case rest =>
  clear HC2
  try clear p2
  try clear c3
  try clear c3b0
  try clear c3b1
  try clear c4
  try clear c4b0
  try clear c4b1
  try clear p5
  try clear q5
  try clear hx5
  try clear c6
  try clear c6b0
  try clear p6
  try clear c7
  try clear c7b0
  try clear hx512_0
  try clear p512
  try clear q512
  obtain ⟨kq, x26_1, rfl, HA, HJ1, HB⟩ := hcut
  cases kq with
  | zero => exact absurd HA.out (by simp [spec_CountByCounts.j0])
  | succ kj1 =>
   have H := HA.out
   clear HA
   simp only [spec_CountByCounts.j0] at H
   by_cases c8 : x26_1 = true
   ·subst c8
    have H1 : (some (0, 2)) = some (r1, r2) := by rw [if_pos rfl] at H; exact H
    clear H
    have H := H1
    clear H1
    simp only [Option.some.injEq, Prod.mk.injEq] at H
    obtain ⟨rfl, rfl⟩ := H
    go_wp2
    go_ret2
    exact ⟨er, el HB⟩
   ·replace c8 := Bool.eq_false_iff.mpr c8
    subst c8
    have H1 : (spec_CountByCounts.l0 kj1 l0 0 0 0) = some (r1, r2) := by rw [if_neg (show ¬ (false = true) by decide)] at H; exact H
    clear H
    have H := H1
    clear H1
    have H' := A_ H
    clear H
    go_wp2
    go_loopg [4, 5, 6] kj1 (fun kq v4 v5 v6 w' => ∃ (x4_2 : Int) (x5_2 : Int) (x6_2 : Int), v4 = .int .i64 x4_2 ∧ v5 = .int .i64 x5_2 ∧ v6 = .int .i64 x6_2 ∧ Aside0 (spec_CountByCounts.l0 kq l0 x4_2 x5_2 x6_2 = some (r1, r2)) ∧ Aside0 (kq ≤ kj1) ∧ Aside0 (Below w.heap.size w w'))
    case atStart => exact ⟨(0), (0), (0), spec_CountByCounts.Z1, spec_CountByCounts.Z1, spec_CountByCounts.Z1, H', ⟨Nat.le_refl _⟩, ⟨el HB⟩⟩
    case round =>
     clear H'
     try clear p2
     try clear c3
     try clear c3b0
     try clear c3b1
     try clear c4
     try clear c4b0
     try clear c4b1
     try clear p5
     try clear q5
     try clear hx5
     try clear c6
     try clear c6b0
     try clear p6
     try clear c7
     try clear c7b0
     try clear c8
     try clear hx512_0
     try clear p2
     try clear p5
     try clear p512
     try clear p6
     try clear q5
     try clear q512
     obtain ⟨x4_2, x5_2, x6_2, rfl, rfl, rfl, HA, HK2, HB⟩ := hrel
     cases gk with
     | zero => exact absurd HA.out (by simp [spec_CountByCounts.l0])
     | succ k2 =>
      have H := HA.out
      clear HA
      simp only [spec_CountByCounts.l0] at H
      by_cases c9 : x6_2 < (l0.length : Int)
      ·rw [if_pos c9] at H
       have c9b0 : decide (x6_2 < (l0.length : Int)) = true := decide_eq_true c9
       clear c9
       by_cases c10 : 0 ≤ x6_2
       rotate_left
       ·rw [if_neg c10] at H
        exact absurd H (by simp)
       rw [if_pos c10] at H
       have c10b0 : decide (0 ≤ x6_2) = true := decide_eq_true c10
       clear c10
       replace H := Option.bind_eq_some_iff.mp H
       obtain ⟨t514, A110, H⟩ := H
       replace H : (if t514 = true then (spec_CountByCounts.l0 k2 l0 (wrap64 (x4_2 + (rd l0 x6_2))) (wrap64 (x5_2 + (wrap64 (x6_2 * (rd l0 x6_2))))) (wrap64 (x6_2 + 1))) else (some (0, 2))) = some (r1, r2) := H
       have A11 := A_ A110
       clear A110
       by_cases c12 : t514 = true
       ·subst c12
        have H1 : (spec_CountByCounts.l0 k2 l0 (wrap64 (x4_2 + (rd l0 x6_2))) (wrap64 (x5_2 + (wrap64 (x6_2 * (rd l0 x6_2))))) (wrap64 (x6_2 + 1))) = some (r1, r2) := by rw [if_pos rfl] at H; exact H
        clear H
        have H := H1
        clear H1
        have H' := A_ H
        clear H
        have p513 : 0 ≤ (x6_2 : Int) := of_decide_eq_true spec_CountByCounts.Z0
        have q513 : x6_2 < (l0.length : Int) := of_decide_eq_true spec_CountByCounts.Z0
        obtain ⟨ad513, e513, hx513_0⟩ := Kd.at_int HR0.out x6_2 p513 q513
        cases e513
        replace hx513_0 := (HB.out.cell (World.block_lt_of_cell? w _ hx513_0)).trans hx513_0
        replace p513 := eq_true p513
        replace q513 := eq_true q513
        go_wp2_with (first | ((with_reducible refine gate_callee (f := 162) rfl ?_); refine goesL_ (some 37) rfl rfl Try.func162 (by kernel_rfl) rfl #[.int .i64 (rd l0 x6_2), .int .i64 0, .int .i64 20] rfl eg ?_; (with_reducible refine (spec_l01In.calls (rd l0 x6_2) 0 20 true _ A11.out).mono ?_); rintro e w' ⟨rfl, ⟨nd, rfl⟩⟩; refine ⟨_, rfl, ?_⟩; have p515 : 0 ≤ (x6_2 : Int) := of_decide_eq_true spec_CountByCounts.Z0; have q515 : x6_2 < (l0.length : Int) := of_decide_eq_true spec_CountByCounts.Z0; obtain ⟨ad515, e515, hx515_0⟩ := Kd.at_int HR0.out x6_2 p515 q515; obtain rfl : ad513 = ad515 := (by injection e515); replace hx515_0 := (HB.out.cell (World.block_lt_of_cell? w _ hx515_0)).trans hx515_0; replace p515 := eq_true p515; replace q515 := eq_true q515; have p516 : 0 ≤ (x6_2 : Int) := of_decide_eq_true spec_CountByCounts.Z0; have q516 : x6_2 < (l0.length : Int) := of_decide_eq_true spec_CountByCounts.Z0; obtain ⟨ad516, e516, hx516_0⟩ := Kd.at_int HR0.out x6_2 p516 q516; obtain rfl : ad513 = ad516 := (by injection e516); replace hx516_0 := (HB.out.cell (World.block_lt_of_cell? w _ hx516_0)).trans hx516_0; replace p516 := eq_true p516; replace q516 := eq_true q516))
        go_roundg k2
        case measure => have := HJ1.out; have := HK2.out; omega
        case rel => exact ⟨(wrap64 (x4_2 + (rd l0 x6_2))), (wrap64 (x5_2 + (wrap64 (x6_2 * (rd l0 x6_2))))), (wrap64 (x6_2 + 1)), spec_CountByCounts.Z1, spec_CountByCounts.Z1, spec_CountByCounts.Z1, H', ⟨by have := HJ1.out; have := HK2.out; omega⟩, ⟨el HB⟩⟩
       ·replace c12 := Bool.eq_false_iff.mpr c12
        subst c12
        have H1 : (some (0, 2)) = some (r1, r2) := by rw [if_neg (show ¬ (false = true) by decide)] at H; exact H
        clear H
        have H := H1
        clear H1
        simp only [Option.some.injEq, Prod.mk.injEq] at H
        obtain ⟨rfl, rfl⟩ := H
        have p513 : 0 ≤ (x6_2 : Int) := of_decide_eq_true spec_CountByCounts.Z0
        have q513 : x6_2 < (l0.length : Int) := of_decide_eq_true spec_CountByCounts.Z0
        obtain ⟨ad513, e513, hx513_0⟩ := Kd.at_int HR0.out x6_2 p513 q513
        cases e513
        replace hx513_0 := (HB.out.cell (World.block_lt_of_cell? w _ hx513_0)).trans hx513_0
        replace p513 := eq_true p513
        replace q513 := eq_true q513
        go_wp2_with (first | ((with_reducible refine gate_callee (f := 162) rfl ?_); refine goesL_ (some 37) rfl rfl Try.func162 (by kernel_rfl) rfl #[.int .i64 (rd l0 x6_2), .int .i64 0, .int .i64 20] rfl eg ?_; (with_reducible refine (spec_l01In.calls (rd l0 x6_2) 0 20 false _ A11.out).mono ?_); rintro e w' ⟨rfl, ⟨nd, rfl⟩⟩; refine ⟨_, rfl, ?_⟩))
        go_ret2
        exact ⟨er, el HB⟩
      ·rw [if_neg c9] at H
       have c9b0 : decide (x6_2 < (l0.length : Int)) = false := decide_eq_false c9
       clear c9
       by_cases c13 : x4_2 > 20
       ·rw [if_pos c13] at H
        have c13b0 : decide (20 < x4_2) = true := decide_eq_true c13
        clear c13
        simp only [Option.some.injEq, Prod.mk.injEq] at H
        obtain ⟨rfl, rfl⟩ := H
        go_wp2
        go_ret2
        exact ⟨er, el HB⟩
       ·rw [if_neg c13] at H
        have c13b0 : decide (20 < x4_2) = false := decide_eq_false c13
        clear c13
        by_cases c14 : x5_2 = (wrap64 (x4_2 - 1))
        ·rw [if_pos c14] at H
         have c14b0 : (x5_2 == (wrap64 (x4_2 - 1))) = true := beq_iff_eq.mpr c14
         have c14b1 : (x5_2 != (wrap64 (x4_2 - 1))) = false := bne_eq_false_iff_eq.mpr c14
         clear c14
         have H' := A_ H
         clear H
         go_wp2
         go_loopg [7, 8, 9] k2 (fun kq v7 v8 v9 w' => ∃ (x7_3 : Int) (x8_3 : Int) (x9_3 : Int), v7 = .int .i64 x7_3 ∧ v8 = .int .i64 x8_3 ∧ v9 = .int .i64 x9_3 ∧ Aside0 (spec_CountByCounts.l1 kq l0 x4_2 x7_3 x8_3 x9_3 = some (r1, r2)) ∧ Aside0 (kq ≤ k2) ∧ Aside0 (Below w.heap.size w w'))
         case atStart => exact ⟨(1), (x4_2), (0), spec_CountByCounts.Z1, spec_CountByCounts.Z1, spec_CountByCounts.Z1, H', ⟨Nat.le_refl _⟩, ⟨el HB⟩⟩
         case round =>
          clear H'
          try clear c1
          try clear p2
          try clear c3
          try clear c3b0
          try clear c3b1
          try clear c4
          try clear c4b0
          try clear c4b1
          try clear p5
          try clear q5
          try clear hx5
          try clear c6
          try clear c6b0
          try clear p6
          try clear c7
          try clear c7b0
          try clear c8
          try clear c9
          try clear c9b0
          try clear c10
          try clear c10b0
          try clear c12
          try clear c13
          try clear c13b0
          try clear c14
          try clear c14b0
          try clear c14b1
          try clear hx512_0
          try clear hx513_0
          try clear hx515_0
          try clear hx516_0
          try clear p2
          try clear p5
          try clear p512
          try clear p513
          try clear p515
          try clear p516
          try clear p6
          try clear q5
          try clear q512
          try clear q513
          try clear q515
          try clear q516
          obtain ⟨x7_3, x8_3, x9_3, rfl, rfl, rfl, HA, HK3, HB⟩ := hrel
          cases gk with
          | zero => exact absurd HA.out (by simp [spec_CountByCounts.l1])
          | succ k3 =>
           have H := HA.out
           clear HA
           simp only [spec_CountByCounts.l1] at H
           by_cases c15 : x9_3 < (l0.length : Int)
           ·rw [if_pos c15] at H
            have c15b0 : decide (x9_3 < (l0.length : Int)) = true := decide_eq_true c15
            clear c15
            by_cases c16 : 0 ≤ x9_3
            rotate_left
            ·rw [if_neg c16] at H
             exact absurd H (by simp)
            rw [if_pos c16] at H
            have c16b0 : decide (0 ≤ x9_3) = true := decide_eq_true c16
            clear c16
            replace H := Option.bind_eq_some_iff.mp H
            obtain ⟨t518, A170, H⟩ := H
            replace H : (spec_CountByCounts.l1 k3 l0 x4_2 (wrap64 (x7_3 * t518)) (wrap64 (x8_3 - (rd l0 x9_3))) (wrap64 (x9_3 + 1))) = some (r1, r2) := H
            have A17 := A_ A170
            clear A170
            have H' := A_ H
            clear H
            have p517 : 0 ≤ (x9_3 : Int) := of_decide_eq_true spec_CountByCounts.Z0
            have q517 : x9_3 < (l0.length : Int) := of_decide_eq_true spec_CountByCounts.Z0
            obtain ⟨ad517, e517, hx517_0⟩ := Kd.at_int HR0.out x9_3 p517 q517
            cases e517
            replace hx517_0 := (HB.out.cell (World.block_lt_of_cell? w _ hx517_0)).trans hx517_0
            replace p517 := eq_true p517
            replace q517 := eq_true q517
            go_wp2_with (first | ((with_reducible refine gate_callee (f := 153) rfl ?_); refine goesL_ (some 74) rfl rfl Try.func153 (by kernel_rfl) rfl #[.int .i64 x8_3, .int .i64 (rd l0 x9_3)] rfl eg ?_; (with_reducible refine (spec_l02Choose.calls k3 x8_3 (rd l0 x9_3) t518 _ A17.out).mono ?_); rintro e w18 ⟨rfl, hb⟩; refine ⟨_, rfl, ?_⟩; have n0_ := A_ (below_step (el HB) hb); clear HB; have HB := n0_; clear n0_; (try clear hb); (try clear hb2); (try clear hk); (try clear hi); have p519 : 0 ≤ (x9_3 : Int) := of_decide_eq_true spec_CountByCounts.Z0; have q519 : x9_3 < (l0.length : Int) := of_decide_eq_true spec_CountByCounts.Z0; obtain ⟨ad519, e519, hx519_0⟩ := Kd.at_int HR0.out x9_3 p519 q519; obtain rfl : ad517 = ad519 := (by injection e519); replace hx519_0 := (HB.out.cell (World.block_lt_of_cell? w _ hx519_0)).trans hx519_0; replace p519 := eq_true p519; replace q519 := eq_true q519))
            go_roundg k3
            case measure => have := HJ1.out; have := HK2.out; have := HK3.out; omega
            case rel => exact ⟨(wrap64 (x7_3 * t518)), (wrap64 (x8_3 - (rd l0 x9_3))), (wrap64 (x9_3 + 1)), spec_CountByCounts.Z1, spec_CountByCounts.Z1, spec_CountByCounts.Z1, H', ⟨by have := HJ1.out; have := HK2.out; have := HK3.out; omega⟩, ⟨el HB⟩⟩
           ·rw [if_neg c15] at H
            have c15b0 : decide (x9_3 < (l0.length : Int)) = false := decide_eq_false c15
            clear c15
            by_cases c19 : x4_2 = 0
            ·rw [if_pos c19] at H
             exact absurd H (by simp)
            rw [if_neg c19] at H
            have c19b0 : (x4_2 == 0) = false := beq_eq_false_iff_ne.mpr c19
            have c19b1 : (x4_2 != 0) = true := bne_iff_ne.mpr c19
            simp only [Option.some.injEq, Prod.mk.injEq] at H
            obtain ⟨rfl, rfl⟩ := H
            go_wp2
            go_ret2
            exact ⟨er, el HB⟩
        ·rw [if_neg c14] at H
         have c14b0 : (x5_2 == (wrap64 (x4_2 - 1))) = false := beq_eq_false_iff_ne.mpr c14
         have c14b1 : (x5_2 != (wrap64 (x4_2 - 1))) = true := bne_iff_ne.mpr c14
         simp only [Option.some.injEq, Prod.mk.injEq] at H
         obtain ⟨rfl, rfl⟩ := H
         go_wp2
         go_ret2
         exact ⟨er, el HB⟩

/-! ### impl_CountTrees: function 83 -/
def impl_CountTrees.f (a0 : Int) : Option (Int × Int) := (impl_isCounted.f a0).bind fun t => if t = true then (if 0 ≤ a0 then (if a0 ≤ 30 then some (tab a0.toNat 1, 0) else none) else none) else some (0, 2)
set_option maxHeartbeats 8000000 in
set_option maxRecDepth 100000 in
theorem impl_CountTrees.calls (a0 : Int) (r1 : Int) (r2 : Int) (w : World) (h : impl_CountTrees.f a0 = some (r1, r2)) :
  Calls Try.prog 83 #[.int .i64 a0] w fun e w' => e = .returned (.tuple #[.int .i64 r1, .int .i64 r2]) ∧ Below w.heap.size w w' := by
 unfold impl_CountTrees.f at h
 obtain ⟨t, ht, h⟩ := Option.bind_eq_some_iff.mp h
 have HT := A_ ht
 clear ht
 cases t with
 | false =>
  rw [if_neg (by simp)] at h
  obtain ⟨rfl, rfl⟩ : 0 = r1 ∧ 2 = r2 := by simpa using h
  clear h
  go_enter Try.func83, Try.ntmps83
  go_wp2_with (first | (go_at_call 150; (with_reducible refine (impl_isCounted.calls a0 false _ HT.out).mono ?_); rintro e w' ⟨rfl, ⟨nd, rfl⟩⟩))
  go_ret2
  exact ⟨rfl, ((Below.refl w.heap.size w).trans (show Below w.heap.size w (w.drewN nd) from ⟨rfl, rfl, rfl, Nat.le_refl _, fun _ _ => rfl⟩))⟩
 | true =>
  rw [if_pos rfl] at h
  by_cases c1 : 0 ≤ a0
  ·rw [if_pos c1] at h
   by_cases c2 : a0 ≤ 30
   ·rw [if_pos c2] at h
    obtain ⟨rfl, rfl⟩ : tab a0.toNat 1 = r1 ∧ 0 = r2 := by simpa using h
    clear h
    obtain ⟨n, rfl⟩ : ∃ n : Nat, a0 = n := ⟨a0.toNat, by omega⟩
    have hn : n ≤ 30 := by omega
    clear c1 c2
    go_enter Try.func83, Try.ntmps83
    go_wp2_with (first | (go_at_call 150; (with_reducible refine (impl_isCounted.calls _ true _ HT.out).mono ?_); rintro e w' ⟨rfl, ⟨nd, rfl⟩⟩) | (go_at_call 156; (with_reducible refine (impl_countForests.calls _).mono ?_); rintro e w1 ⟨g, rfl, hg, ⟨C, hC, hS⟩, hB⟩; have hcell := forests_cell hC hS n 1 (by omega) (by omega); have HB := A_ hB; clear hg hC hS hB))
    go_ret2
    exact ⟨by simp, ((Below.refl w.heap.size w).trans (show Below w.heap.size w (w.drewN nd) from ⟨rfl, rfl, rfl, Nat.le_refl _, fun _ _ => rfl⟩)).trans HB.out⟩
   ·rw [if_neg c2] at h
    cases h
  ·rw [if_neg c1] at h
   cases h


end Go.Proofs.Ytocachknmgefaaa.QFnTreeCounts
