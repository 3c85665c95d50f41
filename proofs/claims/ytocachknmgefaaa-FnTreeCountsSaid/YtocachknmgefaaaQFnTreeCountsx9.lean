/- Functions of the program as plain Lean functions, each with a proof that the machine's call answers what it answers. Conditions: none. -/
import Derived.Test.YtocachknmgefaaaQFnTreeCountsx0
import Derived.Test.YtocachknmgefaaaQFnTreeCountsx1
import Derived.Test.YtocachknmgefaaaQFnTreeCountsx8
namespace Go.Proofs.Ytocachknmgefaaa.QFnTreeCounts
open Go.RowKit Go.Proofs.YtocachknmgefaaaW.PrintWords Go.Proofs.YtocachknmgefaaaW.PrintLast Go.Proofs.YtocachknmgefaaaW.PrintMore
attribute [local go_sem] max2_int min2_int max_two min_two max_three min_three max_four min_four   -- for this text's walks alone
set_option linter.unusedVariables false
set_option linter.unusedSimpArgs false

/-! ### laws_trees9: function 76 -/
def laws_trees9.l0 : Nat → List (S26) → List (S26) → Int → Option (Bool)
  | 0, _, _, _ => none
  | k + 1, x0, x1, x5 => if x5 < (x0.length : Int) then (if 0 ≤ x5 then (if x5 < (x1.length : Int) then ((laws_tree9.f k ((rd_T26 x0 x5).f0) ((rd_T26 x1 x5).f0)).bind fun t306 => (if t306 = true then (laws_trees9.l0 k x0 x1 (wrap64 (x5 + 1))) else (some false))) else (none)) else (none)) else (some true)
def laws_trees9.f (k : Nat) (l0 : List (S26)) (l1 : List (S26)) : Option (Bool) := if (l0.length : Int) = (l1.length : Int) then (laws_trees9.l0 k l0 l1 0) else (some false)
theorem laws_trees9.mono_l : ∀ k, (∀ y0 y1 y2, LeO (laws_trees9.l0 k y0 y1 y2) (laws_trees9.l0 (k + 1) y0 y1 y2))
  | 0 => fun _ _ _ r h => by simp [laws_trees9.l0] at h
  | k + 1 => by
    have ih0 := laws_trees9.mono_l k
    · intro y0 y1 y2
      unfold laws_trees9.l0
      repeat' first
      | (with_reducible exact ih0 _ _ _)
      | (with_reducible exact laws_tree9.mono _ _ _)
      | (with_reducible exact LeO.refl _)
      | (with_reducible exact LeO.none _)
      | (with_reducible refine LeO.ite ?_ ?_)
      | (with_reducible refine LeO.bind ?_ (fun _ => ?_))
      | exact ih0 _ _ _
      | exact laws_tree9.mono _ _ _
      | exact LeO.none _
      | refine LeO.ite ?_ ?_
      | refine LeO.bind ?_ (fun _ => ?_)
theorem laws_trees9.mono : ∀ a0 a1 k, LeO (laws_trees9.f k a0 a1) (laws_trees9.f (k + 1) a0 a1) := by
  intro a0 a1 k
  have ih0 := laws_trees9.mono_l k
  unfold laws_trees9.f
  repeat' first
      | (with_reducible exact ih0 _ _ _)
      | (with_reducible exact laws_tree9.mono _ _ _)
      | (with_reducible exact LeO.refl _)
      | (with_reducible exact LeO.none _)
      | (with_reducible refine LeO.ite ?_ ?_)
      | (with_reducible refine LeO.bind ?_ (fun _ => ?_))
      | exact ih0 _ _ _
      | exact laws_tree9.mono _ _ _
      | exact LeO.none _
      | refine LeO.ite ?_ ?_
      | refine LeO.bind ?_ (fun _ => ?_)
def laws_trees9.T6 : Bool × List (List Nat × List Nat) := (true, [([], []), ([], []), ([0, 1], [0, 1]), ([2], [2]), ([], []), ([], []), ([4, 5], [4, 5]), ([6], [6]), ([3, 7], [3, 7]), ([8], [8])])
def laws_trees9.B6 : List Nat := [0, 0, 3, 7, 0, 0, 48, 112, 255, 511]
theorem laws_trees9.tab6 : rtab .any (opsOf Try.f76 6) = laws_trees9.T6 := by kernel_rfl
theorem laws_trees9.bits6 : waitsOk laws_trees9.T6.2 laws_trees9.B6 = true := by kernel_rfl
theorem laws_trees9.Z0 {p : Prop} (h : p := by first | (with_reducible assumption) | assumption) : p := h
theorem laws_trees9.Z1 {p : Prop} (h : p := by first | rfl | (simp; done) | (simp [*]; done)) : p := h
set_option maxHeartbeats 8000000 in
set_option maxRecDepth 100000 in
theorem laws_trees9.calls (k : Nat) (A0 : Option Addr) (c0 : Nat) (l0 : List (S26)) (A1 : Option Addr) (c1 : Nat) (l1 : List (S26)) (r : Bool) (w : World) (hr0 : Kd.C k26 w A0 l0.length l0) (hc0 : l0.length ≤ c0) (hr1 : Kd.C k26 w A1 l1.length l1) (hc1 : l1.length ≤ c1) (h : laws_trees9.f k l0 l1 = some r) :
  Calls Try.prog 76 #[.slice A0 l0.length c0, .slice A1 l1.length c1] w fun e w' => e = .returned (.bool r) ∧ Below w.heap.size w w' := by
 have hu26 := Try.underlying26
 have HR0 := A_ hr0
 have HC0 := A_ hc0
 clear hr0 hc0
 have HR1 := A_ hr1
 have HC1 := A_ hc1
 clear hr1 hc1
 have HB := A_ (Below.refl w.heap.size w)
 have H : (if (l0.length : Int) = (l1.length : Int) then (laws_trees9.l0 k l0 l1 0) else (some false)) = some r := h
 clear h
 by_cases c3 : (l0.length : Int) = (l1.length : Int)
 ·rw [if_pos c3] at H
  have c3b0 : ((l0.length : Int) == (l1.length : Int)) = true := beq_iff_eq.mpr c3
  have c3b1 : ((l0.length : Int) != (l1.length : Int)) = false := bne_eq_false_iff_eq.mpr c3
  have c3b2 : (l0.length == l1.length) = true := by first | simpa using c3 | (simp at c3 ⊢; omega)
  clear c3
  have H' := A_ H
  clear H
  go_enter Try.func76, Try.ntmps76
  go_wp2
  go_loopg [5] k (fun kq v5 w' => ∃ (x5_1 : Int), v5 = .int .i64 x5_1 ∧ Aside0 (laws_trees9.l0 kq l0 l1 x5_1 = some r) ∧ Aside0 (kq ≤ k) ∧ Aside0 (Below w.heap.size w w'))
  case atStart => exact ⟨(0), laws_trees9.Z1, H', ⟨Nat.le_refl _⟩, ⟨el HB⟩⟩
  case round =>
   clear H'
   try clear c1
   try clear p2
   try clear c3
   try clear c3b0
   try clear c3b1
   try clear c3b2
   obtain ⟨x5_1, rfl, HA, HK1, HB⟩ := hrel
   cases gk with
   | zero => exact absurd HA.out (by simp [laws_trees9.l0])
   | succ k1 =>
    have H := HA.out
    clear HA
    simp only [laws_trees9.l0] at H
    by_cases c4 : x5_1 < (l0.length : Int)
    ·rw [if_pos c4] at H
     have c4b0 : decide (x5_1 < (l0.length : Int)) = true := decide_eq_true c4
     clear c4
     by_cases c5 : 0 ≤ x5_1
     rotate_left
     ·rw [if_neg c5] at H
      exact absurd H (by simp)
     rw [if_pos c5] at H
     have c5b0 : decide (0 ≤ x5_1) = true := decide_eq_true c5
     clear c5
     by_cases c6 : x5_1 < (l1.length : Int)
     rotate_left
     ·rw [if_neg c6] at H
      exact absurd H (by simp)
     rw [if_pos c6] at H
     have c6b0 : decide (x5_1 < (l1.length : Int)) = true := decide_eq_true c6
     clear c6
     replace H := Option.bind_eq_some_iff.mp H
     obtain ⟨t306, A70, H⟩ := H
     replace H : (if t306 = true then (laws_trees9.l0 k1 l0 l1 (wrap64 (x5_1 + 1))) else (some false)) = some r := H
     have A7 := A_ A70
     clear A70
     by_cases c8 : t306 = true
     ·subst c8
      have H1 : (laws_trees9.l0 k1 l0 l1 (wrap64 (x5_1 + 1))) = some r := by rw [if_pos rfl] at H; exact H
      clear H
      have H := H1
      clear H1
      have H' := A_ H
      clear H
      try go_wp2
      have n0_ := A_ (below_drew1 HB.out)
      clear HB
      have HB := n0_
      clear n0_
      have p304 : 0 ≤ (x5_1 : Int) := of_decide_eq_true laws_trees9.Z0
      have q304 : x5_1 < (l0.length : Int) := of_decide_eq_true laws_trees9.Z0
      obtain ⟨ad304, A304_0, c304_0, e304, hx304_0, hl304_0, hi304_0⟩ := at_T26 HR0.out x5_1 p304 q304
      have hw304_0 := hx304_0
      cases e304
      replace hx304_0 := (HB.out.cell (World.block_lt_of_cell? w _ hx304_0)).trans hx304_0
      have HR304_0 := A_ hi304_0
      have HC304_0 := A_ hl304_0
      clear hi304_0 hl304_0
      replace p304 := eq_true p304
      replace q304 := eq_true q304
      have p305 : 0 ≤ (x5_1 : Int) := of_decide_eq_true laws_trees9.Z0
      have q305 : x5_1 < (l1.length : Int) := of_decide_eq_true laws_trees9.Z0
      obtain ⟨ad305, A305_0, c305_0, e305, hx305_0, hl305_0, hi305_0⟩ := at_T26 HR1.out x5_1 p305 q305
      have hw305_0 := hx305_0
      cases e305
      replace hx305_0 := (HB.out.cell (World.block_lt_of_cell? w _ hx305_0)).trans hx305_0
      have HR305_0 := A_ hi305_0
      have HC305_0 := A_ hl305_0
      clear hi305_0 hl305_0
      replace p305 := eq_true p305
      replace q305 := eq_true q305
      refine start_ (n := 10) (S := fun w' => w'.cell? (ad304.add (x5_1).toNat) = some (.slice A304_0 ((rd_T26 l0 x5_1).f0).length c304_0) ∧ w'.cell? (ad305.add (x5_1).toNat) = some (.slice A305_0 ((rd_T26 l1 x5_1).f0).length c305_0)) (ds := []) #[false, false, false, false, false, false, false, false, false, false] (by kernel_rfl) rfl rfl ⟨((HB.out.cell (World.block_lt_of_cell? w _ hw304_0)).trans hw304_0), ((HB.out.cell (World.block_lt_of_cell? w _ hw305_0)).trans hw305_0)⟩ (fun hHeld => ?_); refine with_tabW laws_trees9.tab6 laws_trees9.bits6 (fun HT_ HW_ => ?_)
      generalize wr.drew = w9 at HB HR304_0 HR305_0 hx304_0 hx305_0 hHeld ⊢
      refine pure_ (i := 0) (N := some 17) (v := ?_) (a' := ?_) #[true, false, false, false, false, false, false, false, false, false] rfl rfl (any_of HT_.out (by kernel_rfl)) (fun _ _ _ h => h) (Or.inl ⟨by rfl, ?_⟩) ?_ ?_
      rotate_left
      ·intro w'
       go_simp
       with_reducible rfl
      rotate_left
      ·simp only [Act.put, List.setIfInBounds_toArray, List.set_cons_zero, List.set_cons_succ, i64_w, i32_w]
       rfl
      refine pure_ (i := 1) (N := some 18) (v := ?_) (a' := ?_) #[true, true, false, false, false, false, false, false, false, false] rfl rfl (any_of HT_.out (by kernel_rfl)) (fun _ _ _ h => h) (Or.inl ⟨by rfl, ?_⟩) ?_ ?_
      rotate_left
      ·intro w'
       go_simp
       with_reducible rfl
      rotate_left
      ·simp only [Act.put, List.setIfInBounds_toArray, List.set_cons_zero, List.set_cons_succ, i64_w, i32_w]
       rfl
      refine pure_ (i := 2) (N := some 19) (v := ?_) (a' := ?_) #[true, true, true, false, false, false, false, false, false, false] rfl rfl (any_of HT_.out (by kernel_rfl)) (fun _ _ _ h => h) (Or.inl ⟨by rfl, ?_⟩) ?_ ?_
      rotate_left
      ·intro w'
       go_simp
       with_reducible rfl
      rotate_left
      ·simp only [Act.put, List.setIfInBounds_toArray, List.set_cons_zero, List.set_cons_succ, i64_w, i32_w]
       rfl
      refine pure_ (i := 4) (N := some 21) (v := ?_) (a' := ?_) #[true, true, true, false, true, false, false, false, false, false] rfl rfl (any_of HT_.out (by kernel_rfl)) (fun _ _ _ h => h) (Or.inl ⟨by rfl, ?_⟩) ?_ ?_
      rotate_left
      ·intro w'
       go_simp
       with_reducible rfl
      rotate_left
      ·simp only [Act.put, List.setIfInBounds_toArray, List.set_cons_zero, List.set_cons_succ, i64_w, i32_w]
       rfl
      refine pure_ (i := 5) (N := some 22) (v := ?_) (a' := ?_) #[true, true, true, false, true, true, false, false, false, false] rfl rfl (any_of HT_.out (by kernel_rfl)) (fun _ _ _ h => h) (Or.inl ⟨by rfl, ?_⟩) ?_ ?_
      rotate_left
      ·intro w'
       go_simp
       with_reducible rfl
      rotate_left
      ·simp only [Act.put, List.setIfInBounds_toArray, List.set_cons_zero, List.set_cons_succ, i64_w, i32_w]
       rfl
      refine pure_ (i := 6) (N := some 23) (v := ?_) (a' := ?_) #[true, true, true, false, true, true, true, false, false, false] rfl rfl (any_of HT_.out (by kernel_rfl)) (fun _ _ _ h => h) (Or.inl ⟨by rfl, ?_⟩) ?_ ?_
      rotate_left
      ·intro w'
       go_simp
       with_reducible rfl
      rotate_left
      ·simp only [Act.put, List.setIfInBounds_toArray, List.set_cons_zero, List.set_cons_succ, i64_w, i32_w]
       rfl
      refine take_ (i := 3) (N := some 20) (v := ?_) (a' := ?_) #[true, true, true, true, true, true, true, false, false, false] rfl rfl (take_ofW HT_.out HW_.out (by kernel_rfl)) (fun _ _ _ h => h) (Or.inl ⟨by rfl, ?_⟩) hHeld ?_ ?_
      rotate_left
      ·rintro w' ⟨s0, s1⟩
       go_simp
       with_reducible rfl
      rotate_left
      ·simp only [Act.put, List.setIfInBounds_toArray, List.set_cons_zero, List.set_cons_succ, i64_w, i32_w]
       rfl
      refine take_ (i := 7) (N := some 24) (v := ?_) (a' := ?_) #[true, true, true, true, true, true, true, true, false, false] rfl rfl (take_ofW HT_.out HW_.out (by kernel_rfl)) (fun _ _ _ h => h) (Or.inl ⟨by rfl, ?_⟩) hHeld ?_ ?_
      rotate_left
      ·rintro w' ⟨s0, s1⟩
       go_simp
       with_reducible rfl
      rotate_left
      ·simp only [Act.put, List.setIfInBounds_toArray, List.set_cons_zero, List.set_cons_succ, i64_w, i32_w]
       rfl
      refine one_ (i := 8) (N := some 25) #[true, true, true, true, true, true, true, true, true, false] rfl rfl (one_of HT_.out (by kernel_rfl)) (by decide) (fun K hK => ?_)
      refine goes_ Try.func89 (by kernel_rfl) rfl #[.agg #[.slice A304_0 ((rd_T26 l0 x5_1).f0).length c304_0], .agg #[.slice A305_0 ((rd_T26 l1 x5_1).f0).length c305_0]] (by rfl) rfl rfl eg ?_
      with_reducible refine (laws_tree9.calls k1 _ _ ((rd_T26 l0 x5_1).f0) _ _ ((rd_T26 l1 x5_1).f0) true _ ?side1 ?side2 ?side3 ?side4 A7.out).mono ?_
      (case side1 => repeat (first | exact (Kd.C_below HR304_0.out HB.out) | (with_reducible refine Kd.C_alloc ?_ _) | (with_reducible refine Kd.C_drewN ?_ _) | (with_reducible refine Kd.C_drew ?_)))
      (case side2 => exact HC304_0.out)
      (case side3 => repeat (first | exact (Kd.C_below HR305_0.out HB.out) | (with_reducible refine Kd.C_alloc ?_ _) | (with_reducible refine Kd.C_drewN ?_ _) | (with_reducible refine Kd.C_drew ?_)))
      (case side4 => exact HC305_0.out)
      rintro e w10 ⟨rfl, hb⟩
      refine ⟨_, rfl, ?_⟩
      have n0_ := A_ (below_step (el HB) hb)
      clear HB
      have HB := n0_
      clear n0_
      (try clear hb)
      (try clear hb2)
      (try clear hk)
      (try clear hi)
      refine hK.out _ _ ⟨((HB.out.cell (World.block_lt_of_cell? w _ hw304_0)).trans hw304_0), ((HB.out.cell (World.block_lt_of_cell? w _ hw305_0)).trans hw305_0)⟩ (fun hHeld => ?_)
      clear hK K
      refine norm_ (a' := ?_) ?_ ?_
      rotate_left
      ·show Act.put _ (some 25) _ = _
       simp only [Act.put, List.setIfInBounds_toArray, List.set_cons_zero, List.set_cons_succ, i64_w, i32_w]
       rfl
      refine pure_ (i := 9) (N := some 26) (v := ?_) (a' := ?_) #[true, true, true, true, true, true, true, true, true, true] rfl rfl (any_of HT_.out (by kernel_rfl)) (fun _ _ _ h => h) (Or.inl ⟨by rfl, ?_⟩) ?_ ?_
      rotate_left
      ·intro w'
       go_simp
       with_reducible rfl
      rotate_left
      ·simp only [Act.put, List.setIfInBounds_toArray, List.set_cons_zero, List.set_cons_succ, i64_w, i32_w]
       rfl
      refine done_ (done_of HT_.out (by kernel_rfl)) ?_
      try go_wp2
      go_roundg k1
      case measure => have := HK1.out; omega
      case rel => exact ⟨(wrap64 (x5_1 + 1)), laws_trees9.Z1, H', ⟨by have := HK1.out; omega⟩, ⟨el HB⟩⟩
     ·replace c8 := Bool.eq_false_iff.mpr c8
      subst c8
      have H1 : (some false) = some r := by rw [if_neg (show ¬ (false = true) by decide)] at H; exact H
      clear H
      have H := H1
      clear H1
      obtain rfl := Option.some.inj H
      try go_wp2
      have n0_ := A_ (below_drew1 HB.out)
      clear HB
      have HB := n0_
      clear n0_
      have p304 : 0 ≤ (x5_1 : Int) := of_decide_eq_true laws_trees9.Z0
      have q304 : x5_1 < (l0.length : Int) := of_decide_eq_true laws_trees9.Z0
      obtain ⟨ad304, A304_0, c304_0, e304, hx304_0, hl304_0, hi304_0⟩ := at_T26 HR0.out x5_1 p304 q304
      have hw304_0 := hx304_0
      cases e304
      replace hx304_0 := (HB.out.cell (World.block_lt_of_cell? w _ hx304_0)).trans hx304_0
      have HR304_0 := A_ hi304_0
      have HC304_0 := A_ hl304_0
      clear hi304_0 hl304_0
      replace p304 := eq_true p304
      replace q304 := eq_true q304
      have p305 : 0 ≤ (x5_1 : Int) := of_decide_eq_true laws_trees9.Z0
      have q305 : x5_1 < (l1.length : Int) := of_decide_eq_true laws_trees9.Z0
      obtain ⟨ad305, A305_0, c305_0, e305, hx305_0, hl305_0, hi305_0⟩ := at_T26 HR1.out x5_1 p305 q305
      have hw305_0 := hx305_0
      cases e305
      replace hx305_0 := (HB.out.cell (World.block_lt_of_cell? w _ hx305_0)).trans hx305_0
      have HR305_0 := A_ hi305_0
      have HC305_0 := A_ hl305_0
      clear hi305_0 hl305_0
      replace p305 := eq_true p305
      replace q305 := eq_true q305
      refine start_ (n := 10) (S := fun w' => w'.cell? (ad304.add (x5_1).toNat) = some (.slice A304_0 ((rd_T26 l0 x5_1).f0).length c304_0) ∧ w'.cell? (ad305.add (x5_1).toNat) = some (.slice A305_0 ((rd_T26 l1 x5_1).f0).length c305_0)) (ds := []) #[false, false, false, false, false, false, false, false, false, false] (by kernel_rfl) rfl rfl ⟨((HB.out.cell (World.block_lt_of_cell? w _ hw304_0)).trans hw304_0), ((HB.out.cell (World.block_lt_of_cell? w _ hw305_0)).trans hw305_0)⟩ (fun hHeld => ?_); refine with_tabW laws_trees9.tab6 laws_trees9.bits6 (fun HT_ HW_ => ?_)
      generalize wr.drew = w11 at HB HR304_0 HR305_0 hx304_0 hx305_0 hHeld ⊢
      refine pure_ (i := 0) (N := some 17) (v := ?_) (a' := ?_) #[true, false, false, false, false, false, false, false, false, false] rfl rfl (any_of HT_.out (by kernel_rfl)) (fun _ _ _ h => h) (Or.inl ⟨by rfl, ?_⟩) ?_ ?_
      rotate_left
      ·intro w'
       go_simp
       with_reducible rfl
      rotate_left
      ·simp only [Act.put, List.setIfInBounds_toArray, List.set_cons_zero, List.set_cons_succ, i64_w, i32_w]
       rfl
      refine pure_ (i := 1) (N := some 18) (v := ?_) (a' := ?_) #[true, true, false, false, false, false, false, false, false, false] rfl rfl (any_of HT_.out (by kernel_rfl)) (fun _ _ _ h => h) (Or.inl ⟨by rfl, ?_⟩) ?_ ?_
      rotate_left
      ·intro w'
       go_simp
       with_reducible rfl
      rotate_left
      ·simp only [Act.put, List.setIfInBounds_toArray, List.set_cons_zero, List.set_cons_succ, i64_w, i32_w]
       rfl
      refine pure_ (i := 2) (N := some 19) (v := ?_) (a' := ?_) #[true, true, true, false, false, false, false, false, false, false] rfl rfl (any_of HT_.out (by kernel_rfl)) (fun _ _ _ h => h) (Or.inl ⟨by rfl, ?_⟩) ?_ ?_
      rotate_left
      ·intro w'
       go_simp
       with_reducible rfl
      rotate_left
      ·simp only [Act.put, List.setIfInBounds_toArray, List.set_cons_zero, List.set_cons_succ, i64_w, i32_w]
       rfl
      refine pure_ (i := 4) (N := some 21) (v := ?_) (a' := ?_) #[true, true, true, false, true, false, false, false, false, false] rfl rfl (any_of HT_.out (by kernel_rfl)) (fun _ _ _ h => h) (Or.inl ⟨by rfl, ?_⟩) ?_ ?_
      rotate_left
      ·intro w'
       go_simp
       with_reducible rfl
      rotate_left
      ·simp only [Act.put, List.setIfInBounds_toArray, List.set_cons_zero, List.set_cons_succ, i64_w, i32_w]
       rfl
      refine pure_ (i := 5) (N := some 22) (v := ?_) (a' := ?_) #[true, true, true, false, true, true, false, false, false, false] rfl rfl (any_of HT_.out (by kernel_rfl)) (fun _ _ _ h => h) (Or.inl ⟨by rfl, ?_⟩) ?_ ?_
      rotate_left
      ·intro w'
       go_simp
       with_reducible rfl
      rotate_left
      ·simp only [Act.put, List.setIfInBounds_toArray, List.set_cons_zero, List.set_cons_succ, i64_w, i32_w]
       rfl
      refine pure_ (i := 6) (N := some 23) (v := ?_) (a' := ?_) #[true, true, true, false, true, true, true, false, false, false] rfl rfl (any_of HT_.out (by kernel_rfl)) (fun _ _ _ h => h) (Or.inl ⟨by rfl, ?_⟩) ?_ ?_
      rotate_left
      ·intro w'
       go_simp
       with_reducible rfl
      rotate_left
      ·simp only [Act.put, List.setIfInBounds_toArray, List.set_cons_zero, List.set_cons_succ, i64_w, i32_w]
       rfl
      refine take_ (i := 3) (N := some 20) (v := ?_) (a' := ?_) #[true, true, true, true, true, true, true, false, false, false] rfl rfl (take_ofW HT_.out HW_.out (by kernel_rfl)) (fun _ _ _ h => h) (Or.inl ⟨by rfl, ?_⟩) hHeld ?_ ?_
      rotate_left
      ·rintro w' ⟨s0, s1⟩
       go_simp
       with_reducible rfl
      rotate_left
      ·simp only [Act.put, List.setIfInBounds_toArray, List.set_cons_zero, List.set_cons_succ, i64_w, i32_w]
       rfl
      refine take_ (i := 7) (N := some 24) (v := ?_) (a' := ?_) #[true, true, true, true, true, true, true, true, false, false] rfl rfl (take_ofW HT_.out HW_.out (by kernel_rfl)) (fun _ _ _ h => h) (Or.inl ⟨by rfl, ?_⟩) hHeld ?_ ?_
      rotate_left
      ·rintro w' ⟨s0, s1⟩
       go_simp
       with_reducible rfl
      rotate_left
      ·simp only [Act.put, List.setIfInBounds_toArray, List.set_cons_zero, List.set_cons_succ, i64_w, i32_w]
       rfl
      refine one_ (i := 8) (N := some 25) #[true, true, true, true, true, true, true, true, true, false] rfl rfl (one_of HT_.out (by kernel_rfl)) (by decide) (fun K hK => ?_)
      refine goes_ Try.func89 (by kernel_rfl) rfl #[.agg #[.slice A304_0 ((rd_T26 l0 x5_1).f0).length c304_0], .agg #[.slice A305_0 ((rd_T26 l1 x5_1).f0).length c305_0]] (by rfl) rfl rfl eg ?_
      with_reducible refine (laws_tree9.calls k1 _ _ ((rd_T26 l0 x5_1).f0) _ _ ((rd_T26 l1 x5_1).f0) false _ ?side1 ?side2 ?side3 ?side4 A7.out).mono ?_
      (case side1 => repeat (first | exact (Kd.C_below HR304_0.out HB.out) | (with_reducible refine Kd.C_alloc ?_ _) | (with_reducible refine Kd.C_drewN ?_ _) | (with_reducible refine Kd.C_drew ?_)))
      (case side2 => exact HC304_0.out)
      (case side3 => repeat (first | exact (Kd.C_below HR305_0.out HB.out) | (with_reducible refine Kd.C_alloc ?_ _) | (with_reducible refine Kd.C_drewN ?_ _) | (with_reducible refine Kd.C_drew ?_)))
      (case side4 => exact HC305_0.out)
      rintro e w12 ⟨rfl, hb⟩
      refine ⟨_, rfl, ?_⟩
      have n0_ := A_ (below_step (el HB) hb)
      clear HB
      have HB := n0_
      clear n0_
      (try clear hb)
      (try clear hb2)
      (try clear hk)
      (try clear hi)
      refine hK.out _ _ ⟨((HB.out.cell (World.block_lt_of_cell? w _ hw304_0)).trans hw304_0), ((HB.out.cell (World.block_lt_of_cell? w _ hw305_0)).trans hw305_0)⟩ (fun hHeld => ?_)
      clear hK K
      refine norm_ (a' := ?_) ?_ ?_
      rotate_left
      ·show Act.put _ (some 25) _ = _
       simp only [Act.put, List.setIfInBounds_toArray, List.set_cons_zero, List.set_cons_succ, i64_w, i32_w]
       rfl
      refine pure_ (i := 9) (N := some 26) (v := ?_) (a' := ?_) #[true, true, true, true, true, true, true, true, true, true] rfl rfl (any_of HT_.out (by kernel_rfl)) (fun _ _ _ h => h) (Or.inl ⟨by rfl, ?_⟩) ?_ ?_
      rotate_left
      ·intro w'
       go_simp
       with_reducible rfl
      rotate_left
      ·simp only [Act.put, List.setIfInBounds_toArray, List.set_cons_zero, List.set_cons_succ, i64_w, i32_w]
       rfl
      refine done_ (done_of HT_.out (by kernel_rfl)) ?_
      try go_wp2
      go_ret
      exact ⟨er, el HB⟩
    ·rw [if_neg c4] at H
     have c4b0 : decide (x5_1 < (l0.length : Int)) = false := decide_eq_false c4
     clear c4
     obtain rfl := Option.some.inj H
     go_wp2
     go_ret
     exact ⟨er, el HB⟩
 ·rw [if_neg c3] at H
  have c3b0 : ((l0.length : Int) == (l1.length : Int)) = false := beq_eq_false_iff_ne.mpr c3
  have c3b1 : ((l0.length : Int) != (l1.length : Int)) = true := bne_iff_ne.mpr c3
  have c3b2 : (l0.length == l1.length) = false := by first | simpa using c3 | (simp at c3 ⊢; omega)
  obtain rfl := Option.some.inj H
  go_enter Try.func76, Try.ntmps76
  go_wp2
  go_ret
  exact ⟨er, el HB⟩

/-! ### spec_l01Own: function 145 -/
def spec_l01Own.f (l0 : List Int) : Option (List Int) := (some (([] : List Int) : List Int)).bind fun y307 => (if y307.length + l0.length < 17592186044416 then (some (y307 ++ l0)) else (none))
set_option maxHeartbeats 8000000 in
set_option maxRecDepth 100000 in
theorem spec_l01Own.calls (A0 : Option Addr) (c0 : Nat) (l0 : List Int) (r : List Int) (w : World) (hr0 : Kd.C (Kd.int .i64) w A0 l0.length l0) (hc0 : l0.length ≤ c0) (h : spec_l01Own.f l0 = some r) :
  Calls Try.prog 145 #[.slice A0 l0.length c0] w fun e w' => ∃ v0_ : Value, e = .returned (v0_) ∧ Kd.R (Kd.int .i64) 2 w' w.heap.size (fun _ => True) v0_ r ∧ Below w.heap.size w w' := by
 have HR0 := A_ hr0
 have HC0 := A_ hc0
 clear hr0 hc0
 have HB := A_ (Below.refl w.heap.size w)
 have H : ((some (([] : List Int) : List Int)).bind fun y307 => (if y307.length + l0.length < 17592186044416 then (some (y307 ++ l0)) else (none))) = some r := h
 clear h
 obtain ⟨y307, hy307⟩ : ∃ y_ : List Int, y_ = (([] : List Int)) := ⟨_, rfl⟩
 replace H : (if y307.length + l0.length < 17592186044416 then (some (y307 ++ l0)) else (none)) = some r := by first | (rw [hy307]; with_reducible exact H) | (have H2_ := (Option.bind_some _ _).symm.trans H; rw [hy307]; with_reducible exact H2_) | (have H2_ := (Option.bind_some _ _).symm.trans H; with_reducible exact H2_) | with_reducible exact H | (rw [hy307]; exact H) | exact H
 have Ny307 := A_ hy307
 clear hy307
 by_cases c2 : y307.length + l0.length < 17592186044416
 ·rw [if_pos c2] at H
  have LMc2 := A_ c2
  clear c2
  obtain ⟨y310, hy310⟩ : ∃ y_ : List Int, y_ = (y307 ++ l0) := ⟨_, rfl⟩
  replace H : (some y310) = some r := by first | (rw [hy310]; with_reducible exact H) | (have H2_ := (Option.bind_some _ _).symm.trans H; rw [hy310]; with_reducible exact H2_) | (have H2_ := (Option.bind_some _ _).symm.trans H; with_reducible exact H2_) | with_reducible exact H | (rw [hy310]; exact H) | exact H
  have Ny310 := A_ hy310
  clear hy310
  obtain rfl := Option.some.inj H
  go_enter Try.func145, Try.ntmps145
  go_wp2_with (first | ((with_reducible refine gate_dst (N := 3) rfl ?_); refine Kd.R_lit (Kd.int .i64) _ 2 ?hg (N := 3) ?hd (xs := ([] : List Int)) (inner := []) (ok := fun _ => True) (okp := fun _ => True) ?hr ?hp (fun _ hk => hk) trivial (Below.refl _ _) (Nat.le_refl _) (by simp) ?_; (case hd => rfl); (case hg => rfl); (case hr => first | (go_simp; done) | (go_simp; rfl)); (case hp => exact (Reps.none _ _)); intro v308 w3 ho4 hb hg_ hnew_; clear hg_ hnew_; (first | rw [← Ny307.out] at ho4 | (simp only [Int.reduceToNat] at ho4; rw [← Ny307.out] at ho4)); have n0_ := A_ (Kd.R_lower ho4 (below_size (el HB))); have n1_ := A_ (below_step (el HB) hb); clear HB; have HO309 := n0_; have HB := n1_; clear n0_ n1_; clear hb ho4) | ((with_reducible refine gate_builtin (b := .append) (xs := #[.tmp 3, .tmp 4]) rfl ?_); at_builtin; refine Kd.R_append_rows (Kd.int .i64) (w0 := w) w.heap.size rfl (.tmp 3) (.tmp 4) 24 2 (.int .i64 0) 8 rfl Try.underlying24 info2 rfl (by decide) (by omega) v308 y307 l0 _ _ _ (fun _ => True) (fun _ => False) rfl rfl ?aO ?aR (fun _ _ h => h) (fun _ h => h.elim) ?aF ?aB ?aS ?aL ?_; (case aR => repeat (first | exact (Kd.C_below HR0.out HB.out) | (with_reducible refine Kd.C_alloc ?_ _) | (with_reducible refine Kd.C_drewN ?_ _) | (with_reducible refine Kd.C_drew ?_))); (case aB => exact (el HB)); (case aF => exact (fun _ _ => trivial)); (case aO => exact (ea HO309)); (case aS => exact (below_size (el HB))); (case aL => have := LMc2.out; omega); intro v311 w5 ho hb hg hat; rw [← Ny310.out] at ho; have n0_ := A_ (hb); have n1_ := A_ (ho); clear HB; clear HO309; have HB := n0_; have HO312 := n1_; clear n0_ n1_; clear ho hb hg hat))
  go_ret
  exact ⟨_, er, by (with_reducible repeat (first | apply Kd.R_alloc | apply Kd.R_drewN | apply Kd.R_drew)); exact HO312.out, el HB⟩
 ·rw [if_neg c2] at H
  exact absurd H (by simp)

/-! ### spec_l01DrawOf: function 143 -/
mutual
def spec_l01DrawOf.l0 : Nat → Int → List Int → List Int → Int → Int → List Int → Int → Int → Option (List Int × Int × Int)
  | 0, _, _, _, _, _, _, _, _ => none
  | k + 1, x1, x5, x6, x7, x8, x1000, x1001, x1002 => if x8 < x1 then (spec_l01DrawOf.l1 k x1 x5 x6 x7 x8 (wrap64 ((x6.length : Int) - 1)) x1000 x1001 x1002) else (some (x5, x1001, x1002))
def spec_l01DrawOf.l1 : Nat → Int → List Int → List Int → Int → Int → Int → List Int → Int → Int → Option (List Int × Int × Int)
  | 0, _, _, _, _, _, _, _, _, _ => none
  | k + 1, x1, x5, x6, x7, x8, x9, x1000, x1001, x1002 => if x9 > 0 then ((spec_l01Next.f x1000 x1001 x1002 x7).bind fun bt326 => (if bt326.1 = 0 then (spec_l01DrawOf.l1 k x1 x5 x6 x7 x8 (wrap64 (x9 - 1)) x1000 bt326.2.1 bt326.2.2) else (if 0 ≤ x9 then (if x9 < (x6.length : Int) then (if 0 ≤ (rd x6 x9) then (if (rd x6 x9) < (x5.length : Int) then ((some (x5.set ((rd x6 x9) : Int).toNat (wrap64 ((rd x5 (rd x6 x9)) + 1)) : List Int)).bind fun y331 => (if 0 ≤ (wrap64 (x9 + 1)) then (if (wrap64 (x9 + 1)) ≤ (x6.length : Int) then ((spec_l01Own.f (x6.take ((wrap64 (x9 + 1)) : Int).toNat)).bind fun t336 => (if t336.length < 17592186044416 then (if y331.length < 17592186044416 then (spec_l01DrawOf.l0 k x1 (y331 ++ [0]) (t336 ++ [x8]) x7 (wrap64 (x8 + 1)) x1000 bt326.2.1 bt326.2.2) else (none)) else (none))) else (none)) else (none))) else (none)) else (none)) else (none)) else (none)))) else (if 0 ≤ x9 then (if x9 < (x6.length : Int) then (if 0 ≤ (rd x6 x9) then (if (rd x6 x9) < (x5.length : Int) then ((some (x5.set ((rd x6 x9) : Int).toNat (wrap64 ((rd x5 (rd x6 x9)) + 1)) : List Int)).bind fun y347 => (if 0 ≤ (wrap64 (x9 + 1)) then (if (wrap64 (x9 + 1)) ≤ (x6.length : Int) then ((spec_l01Own.f (x6.take ((wrap64 (x9 + 1)) : Int).toNat)).bind fun t352 => (if t352.length < 17592186044416 then (if y347.length < 17592186044416 then (spec_l01DrawOf.l0 k x1 (y347 ++ [0]) (t352 ++ [x8]) x7 (wrap64 (x8 + 1)) x1000 x1001 x1002) else (none)) else (none))) else (none)) else (none))) else (none)) else (none)) else (none)) else (none))
end
def spec_l01DrawOf.f (k : Nat) (s0_0 : List Int) (s0_1 : Int) (s0_2 : Int) (a1 : Int) : Option (List Int × Int × Int) := (spec_l01Pick.f s0_0 s0_1 s0_2 (([1, 2, 4, 30] : List Int))).bind fun bt323 => (spec_l01DrawOf.l0 k a1 (([0] : List Int)) (([0] : List Int)) bt323.1 1 s0_0 bt323.2.1 bt323.2.2)
theorem spec_l01DrawOf.mono_l : ∀ k, (∀ y0 y1 y2 y3 y4 y5 y6 y7, LeO (spec_l01DrawOf.l0 k y0 y1 y2 y3 y4 y5 y6 y7) (spec_l01DrawOf.l0 (k + 1) y0 y1 y2 y3 y4 y5 y6 y7)) ∧ (∀ y0 y1 y2 y3 y4 y5 y6 y7 y8, LeO (spec_l01DrawOf.l1 k y0 y1 y2 y3 y4 y5 y6 y7 y8) (spec_l01DrawOf.l1 (k + 1) y0 y1 y2 y3 y4 y5 y6 y7 y8))
  | 0 => ⟨fun _ _ _ _ _ _ _ _ r h => by simp [spec_l01DrawOf.l0] at h, fun _ _ _ _ _ _ _ _ _ r h => by simp [spec_l01DrawOf.l1] at h⟩
  | k + 1 => by
    obtain ⟨ih0, ih1⟩ := spec_l01DrawOf.mono_l k
    refine ⟨?_, ?_⟩
    · intro y0 y1 y2 y3 y4 y5 y6 y7
      unfold spec_l01DrawOf.l0
      repeat' first
      | (with_reducible exact ih0 _ _ _ _ _ _ _ _)
      | (with_reducible exact ih1 _ _ _ _ _ _ _ _ _)
      | (with_reducible exact LeO.refl _)
      | (with_reducible exact LeO.none _)
      | (with_reducible refine LeO.ite ?_ ?_)
      | (with_reducible refine LeO.bind ?_ (fun _ => ?_))
      | exact ih0 _ _ _ _ _ _ _ _
      | exact ih1 _ _ _ _ _ _ _ _ _
      | exact LeO.none _
      | refine LeO.ite ?_ ?_
      | refine LeO.bind ?_ (fun _ => ?_)
    · intro y0 y1 y2 y3 y4 y5 y6 y7 y8
      unfold spec_l01DrawOf.l1
      repeat' first
      | (with_reducible exact ih0 _ _ _ _ _ _ _ _)
      | (with_reducible exact ih1 _ _ _ _ _ _ _ _ _)
      | (with_reducible exact LeO.refl _)
      | (with_reducible exact LeO.none _)
      | (with_reducible refine LeO.ite ?_ ?_)
      | (with_reducible refine LeO.bind ?_ (fun _ => ?_))
      | exact ih0 _ _ _ _ _ _ _ _
      | exact ih1 _ _ _ _ _ _ _ _ _
      | exact LeO.none _
      | refine LeO.ite ?_ ?_
      | refine LeO.bind ?_ (fun _ => ?_)
theorem spec_l01DrawOf.mono : ∀ a0 a1 a2 a3 k, LeO (spec_l01DrawOf.f k a0 a1 a2 a3) (spec_l01DrawOf.f (k + 1) a0 a1 a2 a3) := by
  intro a0 a1 a2 a3 k
  obtain ⟨ih0, ih1⟩ := spec_l01DrawOf.mono_l k
  unfold spec_l01DrawOf.f
  repeat' first
      | (with_reducible exact ih0 _ _ _ _ _ _ _ _)
      | (with_reducible exact ih1 _ _ _ _ _ _ _ _ _)
      | (with_reducible exact LeO.refl _)
      | (with_reducible exact LeO.none _)
      | (with_reducible refine LeO.ite ?_ ?_)
      | (with_reducible refine LeO.bind ?_ (fun _ => ?_))
      | exact ih0 _ _ _ _ _ _ _ _
      | exact ih1 _ _ _ _ _ _ _ _ _
      | exact LeO.none _
      | refine LeO.ite ?_ ?_
      | refine LeO.bind ?_ (fun _ => ?_)
theorem spec_l01DrawOf.Z0 {p : Prop} (h : p := by repeat (first | (with_reducible exact HR335.out) | (with_reducible refine Kd.C_alloc ?_ _) | (with_reducible refine Kd.C_drewN ?_ _) | (with_reducible refine Kd.C_drew ?_) | exact HR335.out)) : p := h
theorem spec_l01DrawOf.Z1 {p : Prop} (h : p := by repeat (first | (with_reducible exact HR351.out) | (with_reducible refine Kd.C_alloc ?_ _) | (with_reducible refine Kd.C_drewN ?_ _) | (with_reducible refine Kd.C_drew ?_) | exact HR351.out)) : p := h
theorem spec_l01DrawOf.Z2 {p : Prop} (h : p := by (with_reducible repeat (first | apply Kd.R_alloc | apply Kd.R_drewN | apply Kd.R_drew)); exact Kd.R_mono HO_6.out (fun _ hk => ⟨hk.1.2, hk.2⟩)) : p := h
theorem spec_l01DrawOf.Z3 {p : Prop} (h : p := by (with_reducible repeat (first | apply Kd.R_alloc | apply Kd.R_drewN | apply Kd.R_drew)); exact Kd.R_mono HO_6.out (fun _ hk => ⟨trivial, hk⟩)) : p := h
theorem spec_l01DrawOf.Z4 {p : Prop} (h : p := by (with_reducible repeat (first | apply Kd.R_alloc | apply Kd.R_drewN | apply Kd.R_drew)); exact Kd.R_mono HO_6.out (fun _ hk => ⟨hk.2, hk.1⟩)) : p := h
theorem spec_l01DrawOf.Z5 {p : Prop} (h : p := by first | (with_reducible assumption) | assumption) : p := h
theorem spec_l01DrawOf.Z6 {p : Prop} (h : p := by first | rfl | (simp; done) | (simp [*]; done)) : p := h
set_option maxHeartbeats 8000000 in
set_option maxRecDepth 100000 in
theorem spec_l01DrawOf.calls (k : Nat) (g : Nat) (s0_0 : List Int) (s0_1 : Int) (s0_2 : Int) (a1 : Int) (r1 : List Int) (r2 : Int) (r3 : Int) (w0 w : World) (hI : IsS121 w0 w g s0_0 s0_1 s0_2) (hB : Below w0.heap.size w0 w) (h : spec_l01DrawOf.f k s0_0 s0_1 s0_2 a1 = some (r1, r2, r3)) :
  Calls Try.prog 143 #[.pointer (some ⟨g, 0, none⟩), .int .i64 a1] w fun e w' => ∃ v0_ : Value, e = .returned (.agg #[v0_]) ∧ Kd.R (Kd.int .i64) 2 w' w.heap.size (fun _ => True) v0_ r1 ∧ IsS121 w0 w' g s0_0 r2 r3 ∧ Below w0.heap.size w0 w' ∧ KeepBut w w' g none := by
 have hu26 := Try.underlying26
 have HI0 := A_ hI
 have HK := A_ (KeepBut.refl w g none)
 have HL := A_ hB.size
 clear hI
 have HW0 := A_ hB.size
 have HB := A_ hB
 clear hB
 have H : ((spec_l01Pick.f s0_0 s0_1 s0_2 (([1, 2, 4, 30] : List Int))).bind fun bt323 => (spec_l01DrawOf.l0 k a1 (([0] : List Int)) (([0] : List Int)) bt323.1 1 s0_0 bt323.2.1 bt323.2.2)) = some (r1, r2, r3) := h
 clear h
 obtain ⟨y314, hy314⟩ : ∃ y_ : List Int, y_ = (([0] : List Int)) := ⟨_, rfl⟩
 replace H : ((spec_l01Pick.f s0_0 s0_1 s0_2 (([1, 2, 4, 30] : List Int))).bind fun bt323 => (spec_l01DrawOf.l0 k a1 y314 (([0] : List Int)) bt323.1 1 s0_0 bt323.2.1 bt323.2.2)) = some (r1, r2, r3) := by first | (rw [hy314]; with_reducible exact H) | (have H2_ := (Option.bind_some _ _).symm.trans H; rw [hy314]; with_reducible exact H2_) | (have H2_ := (Option.bind_some _ _).symm.trans H; with_reducible exact H2_) | with_reducible exact H | (rw [hy314]; exact H) | exact H
 have Ny314 := A_ hy314
 clear hy314
 obtain ⟨y317, hy317⟩ : ∃ y_ : List Int, y_ = (([0] : List Int)) := ⟨_, rfl⟩
 replace H : ((spec_l01Pick.f s0_0 s0_1 s0_2 (([1, 2, 4, 30] : List Int))).bind fun bt323 => (spec_l01DrawOf.l0 k a1 y314 y317 bt323.1 1 s0_0 bt323.2.1 bt323.2.2)) = some (r1, r2, r3) := by first | (rw [hy317]; with_reducible exact H) | (have H2_ := (Option.bind_some _ _).symm.trans H; rw [hy317]; with_reducible exact H2_) | (have H2_ := (Option.bind_some _ _).symm.trans H; with_reducible exact H2_) | with_reducible exact H | (rw [hy317]; exact H) | exact H
 have Ny317 := A_ hy317
 clear hy317
 obtain ⟨y320, hy320⟩ : ∃ y_ : List Int, y_ = (([1, 2, 4, 30] : List Int)) := ⟨_, rfl⟩
 replace H : ((spec_l01Pick.f s0_0 s0_1 s0_2 y320).bind fun bt323 => (spec_l01DrawOf.l0 k a1 y314 y317 bt323.1 1 s0_0 bt323.2.1 bt323.2.2)) = some (r1, r2, r3) := by first | (rw [hy320]; with_reducible exact H) | (have H2_ := (Option.bind_some _ _).symm.trans H; rw [hy320]; with_reducible exact H2_) | (have H2_ := (Option.bind_some _ _).symm.trans H; with_reducible exact H2_) | with_reducible exact H | (rw [hy320]; exact H) | exact H
 have Ny320 := A_ hy320
 clear hy320
 replace H := Option.bind_eq_some_iff.mp H
 obtain ⟨⟨t323, t324, t325⟩, A30, H⟩ := H
 replace H : (spec_l01DrawOf.l0 k a1 y314 y317 t323 1 s0_0 t324 t325) = some (r1, r2, r3) := H
 have A3 := A_ A30
 clear A30
 have H' := A_ H
 clear H
 go_enter Try.func143, Try.ntmps143
 go_wp2_with (first | ((with_reducible refine gate_dst (N := 4) rfl ?_); refine box_event ?hg (N := 4) ?hd (cs := #[.slice none 0 0]) (t := 26) ?hr ?_; (case hd => rfl); (case hg => rfl); (case hr => first | (go_simp; done) | (go_simp; rfl)); intro gb313 hg w4 hbox hb; have n0_ := A_ (IsS121.below (ei121 HI0) hb); have n1_ := A_ (KeepBut.trans (ek HK) (KeepBut.of_below hb g none) (.inl rfl)); have n2_ := A_ (below_step (em121 HB) hb); have n3_ := A_ (hbox); have n4_ := A_ ((by rw [hg]; exact (keep_size (w := w) (g := g) (row := none) (ek HK)) : w.heap.size ≤ gb313)); have n5_ := A_ ((Nat.le_trans HW0.out (by rw [hg]; exact (keep_size (w := w) (g := g) (row := none) (ek HK)) : w.heap.size ≤ gb313) : w0.heap.size ≤ gb313)); have n6_ := A_ ((by rw [hg]; exact Nat.ne_of_lt (IsS121.lt (show IsS121 w0 _ g s0_0 s0_1 s0_2 from ei121 HI0)) : g ≠ gb313)); have n7_ := A_ ((by rw [hg]; exact Nat.ne_of_gt (IsS121.lt (show IsS121 w0 _ g s0_0 s0_1 s0_2 from ei121 HI0)) : gb313 ≠ g)); clear HI0; clear HK; clear HB; have HI0 := n0_; have HK := n1_; have HB := n2_; have BK313 := n3_; have GW313 := n4_; have GE313 := n5_; have NB0_313 := n6_; have NB313_0 := n7_; clear n0_ n1_ n2_ n3_ n4_ n5_ n6_ n7_; clear hb hbox hg) | ((with_reducible refine gate_dst (N := 10) rfl ?_); refine Kd.R_lit (Kd.int .i64) _ 2 ?hg (N := 10) ?hd (xs := ([0] : List Int)) (inner := [.int .i64 0]) (ok := fun _ => True) (okp := fun _ => True) ?hr ?hp (fun _ hk => hk) trivial (Below.refl _ _) (Nat.le_refl _) (by simp) ?_; (case hd => rfl); (case hg => rfl); (case hr => first | (go_simp; done) | (go_simp; rfl)); (case hp => exact (Reps.one (show Kd.M (Kd.int .i64) _ _ _ 0 [.int .i64 0] from rfl) (Reps.none _ _))); intro v315 w5 ho6 hb hg_ hnew_; clear hg_ hnew_; (first | rw [← Ny314.out] at ho6 | (simp only [Int.reduceToNat] at ho6; rw [← Ny314.out] at ho6)); have n0_ := A_ (Kd.R_lower ho6 (keep_size (w := w) (g := g) (row := none) (ek HK))); have n1_ := A_ (IsS121.below (ei121 HI0) hb); have n2_ := A_ (eB BK313 hb); have n3_ := A_ (KeepBut.trans (ek HK) (KeepBut.of_below hb g none) (.inl rfl)); have n4_ := A_ (below_step (em121 HB) hb); clear HI0; clear BK313; clear HK; clear HB; have HO316 := n0_; have HI0 := n1_; have BK313 := n2_; have HK := n3_; have HB := n4_; clear n0_ n1_ n2_ n3_ n4_; clear hb ho6) | ((with_reducible refine gate_dst (N := 11) rfl ?_); refine Kd.R_lit (Kd.int .i64) _ 2 ?hg (N := 11) ?hd (xs := ([0] : List Int)) (inner := [.int .i64 0]) (ok := fun _ => True) (okp := fun _ => True) ?hr ?hp (fun _ hk => hk) trivial (Below.refl _ _) (Nat.le_refl _) (by simp) ?_; (case hd => rfl); (case hg => rfl); (case hr => first | (go_simp; done) | (go_simp; rfl)); (case hp => exact (Reps.one (show Kd.M (Kd.int .i64) _ _ _ 0 [.int .i64 0] from rfl) (Reps.none _ _))); intro v318 w7 ho8 hb hg_ hnew_; clear hg_ hnew_; (first | rw [← Ny317.out] at ho8 | (simp only [Int.reduceToNat] at ho8; rw [← Ny317.out] at ho8)); have n0_ := A_ (Kd.R_elder' (ea HO316) (Kd.R_base ho8) hb); have n1_ := A_ (Kd.R_lower (Kd.R_new' ho8 (Kd.R_lt (ea HO316))) (keep_size (w := w) (g := g) (row := none) (ek HK))); have n2_ := A_ (IsS121.below (ei121 HI0) hb); have n3_ := A_ (eB BK313 hb); have n4_ := A_ (KeepBut.trans (ek HK) (KeepBut.of_below hb g none) (.inl rfl)); have n5_ := A_ (below_step (em121 HB) hb); clear HO316; clear HI0; clear BK313; clear HK; clear HB; have HO316 := n0_; have HO319 := n1_; have HI0 := n2_; have BK313 := n3_; have HK := n4_; have HB := n5_; clear n0_ n1_ n2_ n3_ n4_ n5_; clear hb ho8) | ((with_reducible refine gate_dst (N := 13) rfl ?_); refine Kd.R_lit (Kd.int .i64) _ 2 ?hg (N := 13) ?hd (xs := ([1, 2, 4, 30] : List Int)) (inner := [.int .i64 1, .int .i64 2, .int .i64 4, .int .i64 30]) (ok := fun _ => True) (okp := fun _ => True) ?hr ?hp (fun _ hk => hk) trivial (Below.refl _ _) (Nat.le_refl _) (by simp) ?_; (case hd => rfl); (case hg => rfl); (case hr => first | (go_simp; done) | (go_simp; rfl)); (case hp => exact (Reps.one (show Kd.M (Kd.int .i64) _ _ _ 1 [.int .i64 1] from rfl) (Reps.one (show Kd.M (Kd.int .i64) _ _ _ 2 [.int .i64 2] from rfl) (Reps.one (show Kd.M (Kd.int .i64) _ _ _ 4 [.int .i64 4] from rfl) (Reps.one (show Kd.M (Kd.int .i64) _ _ _ 30 [.int .i64 30] from rfl) (Reps.none _ _)))))); intro v321 w9 ho10 hb hg_ hnew_; clear hg_ hnew_; (first | rw [← Ny320.out] at ho10 | (simp only [Int.reduceToNat] at ho10; rw [← Ny320.out] at ho10)); have n0_ := A_ (Kd.R_elder' (ea HO316) (Kd.R_base ho10) hb); have n1_ := A_ (Kd.R_elder' (ea HO319) (Kd.R_base ho10) hb); have n2_ := A_ (Kd.R_lower (Kd.R_new' (Kd.R_new' ho10 (Kd.R_lt (ea HO316))) (Kd.R_lt (ea HO319))) (keep_size (w := w) (g := g) (row := none) (ek HK))); have n3_ := A_ (IsS121.below (ei121 HI0) hb); have n4_ := A_ (eB BK313 hb); have n5_ := A_ (KeepBut.trans (ek HK) (KeepBut.of_below hb g none) (.inl rfl)); have n6_ := A_ (below_step (em121 HB) hb); clear HO316; clear HO319; clear HI0; clear BK313; clear HK; clear HB; have HO316 := n0_; have HO319 := n1_; have HO322 := n2_; have HI0 := n3_; have BK313 := n4_; have HK := n5_; have HB := n6_; clear n0_ n1_ n2_ n3_ n4_ n5_ n6_; clear hb ho10; obtain ⟨Ao11, co11, eo11⟩ := Kd.R_slice HO322.out; subst eo11) | ((with_reducible refine gate_callee (f := 147) rfl ?_); refine goesL_ (some 14) rfl rfl Try.func147 (by kernel_rfl) rfl #[.pointer (some ⟨g, 0, none⟩), .slice Ao11 y320.length co11] rfl eg ?_; (with_reducible refine (spec_l01Pick.calls g s0_0 s0_1 s0_2 _ _ y320 t323 t324 t325 w0 _ ?side1 ?side2 ?side3 ?side4 ?side5 A3.out).mono ?_); (case side1 => exact ei121 HI0); (case side2 => exact em121 HB); (case side3 => repeat (first | exact (Kd.R_reads' HO322.out).2.2 | (with_reducible refine Kd.C_alloc ?_ _) | (with_reducible refine Kd.C_drewN ?_ _) | (with_reducible refine Kd.C_drew ?_))); (case side4 => exact (Kd.R_reads' HO322.out).2.1); (case side5 => exact far_slice (IsS121.own_ne HI0.out HO322.out (by decide))); rintro e w12 ⟨rfl, hi, hb, hk⟩; refine ⟨_, rfl, ?_⟩; have n0_ := A_ (KeepBut.blk hk (g' := gb313) (o := .cells #[.slice none 0 0] 26 (0, 0)) (eb BK313) NB313_0.out (by simp)); have n1_ := A_ (Kd.R_mono (Kd.R_keep (IsS121.apart (show IsS121 w0 _ g s0_0 s0_1 s0_2 from ei121 HI0) (ea HO316) (by decide)) hk (fun _ h => h.2)) (fun _ h => h.1)); have n2_ := A_ (Kd.R_mono (Kd.R_keep (IsS121.apart (show IsS121 w0 _ g s0_0 s0_1 s0_2 from ei121 HI0) (ea HO319) (by decide)) hk (fun _ h => h.2)) (fun _ h => h.1)); have n3_ := A_ (Kd.R_mono (Kd.R_keep (IsS121.apart (show IsS121 w0 _ g s0_0 s0_1 s0_2 from ei121 HI0) (ea HO322) (by decide)) hk (fun _ h => h.2)) (fun _ h => h.1)); have n4_ := A_ (KeepBut.trans (ek HK) hk (.inl rfl)); have n5_ := A_ (hb); have n6_ := A_ (hi); clear BK313; clear HO316; clear HO319; clear HO322; clear HK; clear HB; clear HI0; have BK313 := n0_; have HO316 := n1_; have HO319 := n2_; have HO322 := n3_; have HK := n4_; have HB := n5_; have HI0 := n6_; clear n0_ n1_ n2_ n3_ n4_ n5_ n6_; (try clear hb); (try clear hb2); (try clear hk); (try clear hi)))
 go_loopg [5, 6, 8] k (fun kq v5 v6 v8 w' => ∃ (x5_1 : List Int) (x6_1 : List Int) (x8_1 : Int) (x1001_1 : Int) (x1002_1 : Int), v8 = .int .i64 x8_1 ∧ Aside0 (spec_l01DrawOf.l0 kq a1 x5_1 x6_1 t323 x8_1 s0_0 x1001_1 x1002_1 = some (r1, r2, r3)) ∧ Aside0 (kq ≤ k) ∧ Aside0 (Kd.R (Kd.int .i64) 2 w' w.heap.size (fun k_ => some k_ ≠ (v6 : Value).ownBlock) v5 x5_1) ∧ Aside0 (Kd.R (Kd.int .i64) 2 w' w.heap.size (fun k_ => some k_ ≠ (v5 : Value).ownBlock) v6 x6_1) ∧ Aside0 (w'.heap[gb313]? = some (.cells #[(.slice none 0 0)] 26 (0, 0))) ∧ Aside0 (IsS121 w0 w' g s0_0 x1001_1 x1002_1) ∧ Aside0 (KeepBut w w' g none) ∧ Aside0 (Below w0.heap.size w0 w'))
 case atStart => exact ⟨(y314), (y317), (1), (t324), (t325), spec_l01DrawOf.Z6, H', ⟨Nat.le_refl _⟩, ⟨by (with_reducible repeat (first | apply Kd.R_alloc | apply Kd.R_drewN | apply Kd.R_drew)); exact Kd.R_mono HO316.out (fun _ hk => hk.1.2)⟩, ⟨by (with_reducible repeat (first | apply Kd.R_alloc | apply Kd.R_drewN | apply Kd.R_drew)); exact Kd.R_mono HO319.out (fun _ hk => hk.1.2)⟩, ⟨eb BK313⟩, ⟨ei121 HI0⟩, ⟨ek HK⟩, ⟨em121 HB⟩⟩
 case round =>
  clear H'
  try clear c1
  try clear p2
  obtain ⟨x5_1, x6_1, x8_1, x1001_1, x1002_1, rfl, HA, HK1, HO_5, HO_6, BK313, HI0, HK, HB⟩ := hrel
  cases gk with
  | zero => exact absurd HA.out (by simp [spec_l01DrawOf.l0])
  | succ k1 =>
   have H := HA.out
   clear HA
   simp only [spec_l01DrawOf.l0] at H
   by_cases c13 : x8_1 < a1
   ·rw [if_pos c13] at H
    have c13b0 : decide (x8_1 < a1) = true := decide_eq_true c13
    clear c13
    have H' := A_ H
    clear H
    obtain ⟨Ao14, co14, eo14⟩ := Kd.R_slice HO_6.out
    subst eo14
    go_wp2
    go_loopg [9] k1 (fun kq v9 w' => ∃ (x9_2 : Int) (x1001_2 : Int) (x1002_2 : Int), v9 = .int .i64 x9_2 ∧ Aside0 (spec_l01DrawOf.l1 kq a1 x5_1 x6_1 t323 x8_1 x9_2 s0_0 x1001_2 x1002_2 = some (r1, r2, r3)) ∧ Aside0 (kq ≤ k1) ∧ Aside0 (Kd.R (Kd.int .i64) 2 w' w.heap.size (fun k_ => some k_ ≠ ((.slice Ao14 x6_1.length co14) : Value).ownBlock) u5 x5_1) ∧ Aside0 (Kd.R (Kd.int .i64) 2 w' w.heap.size (fun k_ => some k_ ≠ (u5 : Value).ownBlock) (.slice Ao14 x6_1.length co14) x6_1) ∧ Aside0 (w'.heap[gb313]? = some (.cells #[(.slice none 0 0)] 26 (0, 0))) ∧ Aside0 (IsS121 w0 w' g s0_0 x1001_2 x1002_2) ∧ Aside0 (KeepBut w w' g none) ∧ Aside0 (Below w0.heap.size w0 w'))
    case atStart => exact ⟨(wrap64 ((x6_1.length : Int) - 1)), (x1001_1), (x1002_1), spec_l01DrawOf.Z6, H', ⟨Nat.le_refl _⟩, ⟨ea HO_5⟩, ⟨ea HO_6⟩, ⟨eb BK313⟩, ⟨ei121 HI0⟩, ⟨ek HK⟩, ⟨em121 HB⟩⟩
    case round =>
     clear H'
     try clear c1
     try clear p2
     try clear p6
     try clear c13
     try clear c13b0
     try clear c14
     try clear p2
     obtain ⟨x9_2, x1001_2, x1002_2, rfl, HA, HK2, HO_5, HO_6, BK313, HI0, HK, HB⟩ := hrel
     cases gk with
     | zero => exact absurd HA.out (by simp [spec_l01DrawOf.l1])
     | succ k2 =>
      have H := HA.out
      clear HA
      simp only [spec_l01DrawOf.l1] at H
      by_cases c15 : x9_2 > 0
      ·rw [if_pos c15] at H
       have c15b0 : decide (0 < x9_2) = true := decide_eq_true c15
       clear c15
       replace H := Option.bind_eq_some_iff.mp H
       obtain ⟨⟨t326, t327, t328⟩, A160, H⟩ := H
       replace H : (if t326 = 0 then (spec_l01DrawOf.l1 k2 a1 x5_1 x6_1 t323 x8_1 (wrap64 (x9_2 - 1)) s0_0 t327 t328) else (if 0 ≤ x9_2 then (if x9_2 < (x6_1.length : Int) then (if 0 ≤ (rd x6_1 x9_2) then (if (rd x6_1 x9_2) < (x5_1.length : Int) then ((some (x5_1.set ((rd x6_1 x9_2) : Int).toNat (wrap64 ((rd x5_1 (rd x6_1 x9_2)) + 1)) : List Int)).bind fun y331 => (if 0 ≤ (wrap64 (x9_2 + 1)) then (if (wrap64 (x9_2 + 1)) ≤ (x6_1.length : Int) then ((spec_l01Own.f (x6_1.take ((wrap64 (x9_2 + 1)) : Int).toNat)).bind fun t336 => (if t336.length < 17592186044416 then (if y331.length < 17592186044416 then (spec_l01DrawOf.l0 k2 a1 (y331 ++ [0]) (t336 ++ [x8_1]) t323 (wrap64 (x8_1 + 1)) s0_0 t327 t328) else (none)) else (none))) else (none)) else (none))) else (none)) else (none)) else (none)) else (none))) = some (r1, r2, r3) := H
       have A16 := A_ A160
       clear A160
       by_cases c17 : t326 = 0
       ·rw [if_pos c17] at H
        have c17b0 : (t326 == 0) = true := beq_iff_eq.mpr c17
        have c17b1 : (t326 != 0) = false := bne_eq_false_iff_eq.mpr c17
        clear c17
        have H' := A_ H
        clear H
        go_wp2_with (first | (go_at_call 123; (with_reducible refine (spec_l01Next.calls g s0_0 x1001_2 x1002_2 t323 t326 t327 t328 w0 _ ?side1 ?side2 A16.out).mono ?_); (case side1 => exact ei121 HI0); (case side2 => exact em121 HB); rintro e w18 ⟨rfl, hi, hb, hk⟩; have n0_ := A_ (Kd.R_mono (Kd.R_keep (IsS121.apart (show IsS121 w0 _ g s0_0 x1001_2 x1002_2 from ei121 HI0) (ea HO_5) (by decide)) hk (fun _ h => h.2)) (fun _ h => h.1)); have n1_ := A_ (Kd.R_mono (Kd.R_keep (IsS121.apart (show IsS121 w0 _ g s0_0 x1001_2 x1002_2 from ei121 HI0) (ea HO_6) (by decide)) hk (fun _ h => h.2)) (fun _ h => h.1)); have n2_ := A_ (KeepBut.blk hk (g' := gb313) (o := .cells #[.slice none 0 0] 26 (0, 0)) (eb BK313) NB313_0.out (by simp)); have n3_ := A_ (KeepBut.trans (ek HK) hk (.inl rfl)); have n4_ := A_ (hb); have n5_ := A_ (hi); clear HO_5; clear HO_6; clear BK313; clear HK; clear HB; clear HI0; have HO_5 := n0_; have HO_6 := n1_; have BK313 := n2_; have HK := n3_; have HB := n4_; have HI0 := n5_; clear n0_ n1_ n2_ n3_ n4_ n5_; (try clear hb); (try clear hb2); (try clear hk); (try clear hi)))
        go_roundg k2
        case measure => have := HK1.out; have := HK2.out; omega
        case rel => exact ⟨(wrap64 (x9_2 - 1)), (t327), (t328), spec_l01DrawOf.Z6, H', ⟨by have := HK1.out; have := HK2.out; omega⟩, ⟨es HO_5⟩, ⟨es HO_6⟩, ⟨eb BK313⟩, ⟨ei121 HI0⟩, ⟨ek HK⟩, ⟨em121 HB⟩⟩
       ·rw [if_neg c17] at H
        have c17b0 : (t326 == 0) = false := beq_eq_false_iff_ne.mpr c17
        have c17b1 : (t326 != 0) = true := bne_iff_ne.mpr c17
        by_cases c19 : 0 ≤ x9_2
        rotate_left
        ·rw [if_neg c19] at H
         exact absurd H (by simp)
        rw [if_pos c19] at H
        have c19b0 : decide (0 ≤ x9_2) = true := decide_eq_true c19
        clear c19
        by_cases c20 : x9_2 < (x6_1.length : Int)
        rotate_left
        ·rw [if_neg c20] at H
         exact absurd H (by simp)
        rw [if_pos c20] at H
        have c20b0 : decide (x9_2 < (x6_1.length : Int)) = true := decide_eq_true c20
        clear c20
        by_cases c21 : 0 ≤ (rd x6_1 x9_2)
        rotate_left
        ·rw [if_neg c21] at H
         exact absurd H (by simp)
        rw [if_pos c21] at H
        have c21b0 : decide (0 ≤ (rd x6_1 x9_2)) = true := decide_eq_true c21
        clear c21
        by_cases c22 : (rd x6_1 x9_2) < (x5_1.length : Int)
        rotate_left
        ·rw [if_neg c22] at H
         exact absurd H (by simp)
        rw [if_pos c22] at H
        have c22b0 : decide ((rd x6_1 x9_2) < (x5_1.length : Int)) = true := decide_eq_true c22
        clear c22
        obtain ⟨y331, hy331⟩ : ∃ y_ : List Int, y_ = (x5_1.set ((rd x6_1 x9_2) : Int).toNat (wrap64 ((rd x5_1 (rd x6_1 x9_2)) + 1))) := ⟨_, rfl⟩
        replace H : (if 0 ≤ (wrap64 (x9_2 + 1)) then (if (wrap64 (x9_2 + 1)) ≤ (x6_1.length : Int) then ((spec_l01Own.f (x6_1.take ((wrap64 (x9_2 + 1)) : Int).toNat)).bind fun t336 => (if t336.length < 17592186044416 then (if y331.length < 17592186044416 then (spec_l01DrawOf.l0 k2 a1 (y331 ++ [0]) (t336 ++ [x8_1]) t323 (wrap64 (x8_1 + 1)) s0_0 t327 t328) else (none)) else (none))) else (none)) else (none)) = some (r1, r2, r3) := by first | (rw [hy331]; with_reducible exact H) | (have H2_ := (Option.bind_some _ _).symm.trans H; rw [hy331]; with_reducible exact H2_) | (have H2_ := (Option.bind_some _ _).symm.trans H; with_reducible exact H2_) | with_reducible exact H | (rw [hy331]; exact H) | exact H
        have Ny331 := A_ hy331
        clear hy331
        obtain ⟨ji24, hji24⟩ : ∃ j_ : Int, (wrap64 (x9_2 + 1)) = j_ := ⟨_, rfl⟩
        replace H : (if 0 ≤ (ji24) then (if (ji24) ≤ (x6_1.length : Int) then ((spec_l01Own.f (x6_1.take ((ji24) : Int).toNat)).bind fun t336 => (if t336.length < 17592186044416 then (if y331.length < 17592186044416 then (spec_l01DrawOf.l0 k2 a1 (y331 ++ [0]) (t336 ++ [x8_1]) t323 (wrap64 (x8_1 + 1)) s0_0 t327 t328) else (none)) else (none))) else (none)) else (none)) = some (r1, r2, r3) := by first | (rw [hji24] at H; exact H) | (simp only [hji24] at H ⊢; exact H)
        (try rw [hji24] at A16)
        have hji24w : (IntKind.i64.wrap (x9_2 + 1)) = ji24 := (i64_w _).trans hji24
        by_cases c25 : 0 ≤ (ji24)
        rotate_left
        ·rw [if_neg c25] at H
         exact absurd H (by simp)
        rw [if_pos c25] at H
        have c25b0 := eq_true c25
        have c25b1 : decide (0 ≤ (ji24)) = true := decide_eq_true c25
        clear c25
        by_cases c26 : (ji24) ≤ (x6_1.length : Int)
        rotate_left
        ·rw [if_neg c26] at H
         exact absurd H (by simp)
        rw [if_pos c26] at H
        have c26b0 := eq_true c26
        have c26b1 : decide ((ji24) ≤ (x6_1.length : Int)) = true := decide_eq_true c26
        clear c26
        obtain ⟨y332, hy332⟩ : ∃ y_ : List Int, y_ = (x6_1.take ((ji24) : Int).toNat) := ⟨_, rfl⟩
        replace H : ((spec_l01Own.f y332).bind fun t336 => (if t336.length < 17592186044416 then (if y331.length < 17592186044416 then (spec_l01DrawOf.l0 k2 a1 (y331 ++ [0]) (t336 ++ [x8_1]) t323 (wrap64 (x8_1 + 1)) s0_0 t327 t328) else (none)) else (none))) = some (r1, r2, r3) := by first | (rw [hy332]; with_reducible exact H) | (have H2_ := (Option.bind_some _ _).symm.trans H; rw [hy332]; with_reducible exact H2_) | (have H2_ := (Option.bind_some _ _).symm.trans H; with_reducible exact H2_) | with_reducible exact H | (rw [hy332]; exact H) | exact H
        have Ny332 := A_ hy332
        clear hy332
        replace H := Option.bind_eq_some_iff.mp H
        obtain ⟨t336, A270, H⟩ := H
        replace H : (if t336.length < 17592186044416 then (if y331.length < 17592186044416 then (spec_l01DrawOf.l0 k2 a1 (y331 ++ [0]) (t336 ++ [x8_1]) t323 (wrap64 (x8_1 + 1)) s0_0 t327 t328) else (none)) else (none)) = some (r1, r2, r3) := H
        have A27 := A_ A270
        clear A270
        by_cases c28 : t336.length < 17592186044416
        rotate_left
        ·rw [if_neg c28] at H
         exact absurd H (by simp)
        rw [if_pos c28] at H
        have LMc28 := A_ c28
        clear c28
        obtain ⟨y339, hy339⟩ : ∃ y_ : List Int, y_ = (t336 ++ [x8_1]) := ⟨_, rfl⟩
        replace H : (if y331.length < 17592186044416 then (spec_l01DrawOf.l0 k2 a1 (y331 ++ [0]) y339 t323 (wrap64 (x8_1 + 1)) s0_0 t327 t328) else (none)) = some (r1, r2, r3) := by first | (rw [hy339]; with_reducible exact H) | (have H2_ := (Option.bind_some _ _).symm.trans H; rw [hy339]; with_reducible exact H2_) | (have H2_ := (Option.bind_some _ _).symm.trans H; with_reducible exact H2_) | with_reducible exact H | (rw [hy339]; exact H) | exact H
        have Ny339 := A_ hy339
        clear hy339
        by_cases c29 : y331.length < 17592186044416
        rotate_left
        ·rw [if_neg c29] at H
         exact absurd H (by simp)
        rw [if_pos c29] at H
        have LMc29 := A_ c29
        clear c29
        obtain ⟨y342, hy342⟩ : ∃ y_ : List Int, y_ = (y331 ++ [0]) := ⟨_, rfl⟩
        replace H : (spec_l01DrawOf.l0 k2 a1 y342 y339 t323 (wrap64 (x8_1 + 1)) s0_0 t327 t328) = some (r1, r2, r3) := by first | (rw [hy342]; with_reducible exact H) | (have H2_ := (Option.bind_some _ _).symm.trans H; rw [hy342]; with_reducible exact H2_) | (have H2_ := (Option.bind_some _ _).symm.trans H; with_reducible exact H2_) | with_reducible exact H | (rw [hy342]; exact H) | exact H
        have Ny342 := A_ hy342
        clear hy342
        have H' := A_ H
        clear H
        go_wp2_with (first | (go_at_call 123; (with_reducible refine (spec_l01Next.calls g s0_0 x1001_2 x1002_2 t323 t326 t327 t328 w0 _ ?side1 ?side2 A16.out).mono ?_); (case side1 => exact ei121 HI0); (case side2 => exact em121 HB); rintro e w30 ⟨rfl, hi, hb, hk⟩; have n0_ := A_ (Kd.R_mono (Kd.R_keep (IsS121.apart (show IsS121 w0 _ g s0_0 x1001_2 x1002_2 from ei121 HI0) (ea HO_5) (by decide)) hk (fun _ h => h.2)) (fun _ h => h.1)); have n1_ := A_ (Kd.R_mono (Kd.R_keep (IsS121.apart (show IsS121 w0 _ g s0_0 x1001_2 x1002_2 from ei121 HI0) (ea HO_6) (by decide)) hk (fun _ h => h.2)) (fun _ h => h.1)); have n2_ := A_ (KeepBut.blk hk (g' := gb313) (o := .cells #[.slice none 0 0] 26 (0, 0)) (eb BK313) NB313_0.out (by simp)); have n3_ := A_ (KeepBut.trans (ek HK) hk (.inl rfl)); have n4_ := A_ (hb); have n5_ := A_ (hi); clear HO_5; clear HO_6; clear BK313; clear HK; clear HB; clear HI0; have HO_5 := n0_; have HO_6 := n1_; have BK313 := n2_; have HK := n3_; have HB := n4_; have HI0 := n5_; clear n0_ n1_ n2_ n3_ n4_ n5_; (try clear hb); (try clear hb2); (try clear hk); (try clear hi); have p329 : 0 ≤ (x9_2 : Int) := of_decide_eq_true spec_l01DrawOf.Z5; have q329 : x9_2 < (x6_1.length : Int) := of_decide_eq_true spec_l01DrawOf.Z5; obtain ⟨ad329, e329, hx329_0⟩ := Kd.at_int (Kd.R_reads' HO_6.out).2.2 x9_2 p329 q329; cases e329; replace p329 := eq_true p329; replace q329 := eq_true q329; obtain ⟨Ao31, co31, eo31⟩ := Kd.R_slice HO_5.out; subst eo31; have p330 : 0 ≤ ((rd x6_1 x9_2) : Int) := of_decide_eq_true spec_l01DrawOf.Z5; have q330 : (rd x6_1 x9_2) < (x5_1.length : Int) := of_decide_eq_true spec_l01DrawOf.Z5; obtain ⟨ad330, e330, hx330_0⟩ := Kd.at_int (Kd.R_reads' HO_5.out).2.2 (rd x6_1 x9_2) p330 q330; cases e330; replace p330 := eq_true p330; replace q330 := eq_true q330; have p23 : 0 ≤ ((rd x6_1 x9_2) : Int) := of_decide_eq_true spec_l01DrawOf.Z5; have q23 : ((rd x6_1 x9_2) : Int) < ((x5_1.length : Int) : Int) := of_decide_eq_true spec_l01DrawOf.Z5; obtain ⟨go23, co23, eo23, gb23, gl23, cl23, HG23⟩ := Kd.R_form HO_5.out (by omega); (first | cases eo23 | (injection eo23 with ea_ en_ ec_; (first | subst ea_ | (injection ea_ with ea_; subst ea_)); subst ec_; clear en_)); have GB23 := A_ gb23; have GG23 := A_ HG23; clear gb23 gl23 HG23; (first | simp only [add_plain] at hx330_0 | skip); obtain ⟨hx23_0, hf23_0⟩ := Kd.R_celln 0 HO_5.out ((rd x6_1 x9_2) : Int) p23 q23; replace p23 := eq_true p23; replace q23 := eq_true q23; obtain ⟨hy32_, hz32_⟩ := Kd.R_celln 0 HO_5.out ((rd x6_1 x9_2) : Int) (of_decide_eq_true spec_l01DrawOf.Z5) (of_decide_eq_true spec_l01DrawOf.Z5); have HP32 := Kd.R_putg HO_5.out ((rd x6_1 x9_2) : Int) (wrap64 ((rd x5_1 (rd x6_1 x9_2)) + 1))) | ((with_reducible refine gate_store (t := 2) (p := 41) rfl ?_); refine store_event (t := 2) (p := 41) (v := ?vo_w33) (w1 := (w30.setCell ⟨go23, ((rd x6_1 x9_2) : Int).toNat, none⟩ (.int .i64 (wrap64 ((rd x5_1 (rd x6_1 x9_2)) + 1))))) ?hg ?ho ?hn ?hr ?_; (case ho => rfl); (case hg => rfl); (case hn => rfl); (case hr => first | (go_simp; done) | (go_simp; rfl)); intro w33 hw; have hg : w30.grownBy w33 (some go23) := (by rw [hw]; exact HP32.2); have hp_ : Kd.R (Kd.int .i64) 2 w33 w.heap.size (fun k_ => some k_ ≠ (.slice (some ad329) x6_1.length co14 : Value).ownBlock) (.slice (some ⟨go23, 0, none⟩) x5_1.length co31) y331 := (by rw [hw, Ny331.out]; exact HP32.1); clear HP32; have n0_ := A_ (hp_); have n1_ := A_ (Kd.R_after (v := (.slice (some ⟨go23, 0, none⟩) x5_1.length co31)) (v1 := (.slice (some ⟨go23, 0, none⟩) x5_1.length co31)) (ok := (fun _ => True)) spec_l01DrawOf.Z3 hg (.inl rfl)); have n2_ := A_ (blk_grown (g := gb313) (o := .cells #[.slice none 0 0] 26 (0, 0)) (eb BK313) hg (Kd.R_ne HO_5.out BK313.out (by decide))); have n3_ := A_ (IsS121.grown (ei121 HI0) hg (IsS121.own_ne HI0.out HO_5.out (by decide))); have n4_ := A_ ((by rw [hw]; exact below_set (HB.out) (Nat.le_trans HL.out GB23.out) : Below w0.heap.size w0 w33)); have n5_ := A_ (KeepBut.trans (ek HK) (KeepBut.of_grown hg g) (Kd.R_base2 HO_5.out)); clear HO_5; clear HO_6; clear BK313; clear HI0; clear HB; clear HK; have HO_5 := n0_; have HO_6 := n1_; have BK313 := n2_; have HI0 := n3_; have HB := n4_; have HK := n5_; clear n0_ n1_ n2_ n3_ n4_ n5_; clear hg hw hp_; have q34 : ((ji24) : Int) ≤ ((x6_1.length : Int) : Int) := of_decide_eq_true spec_l01DrawOf.Z5; obtain ⟨i034, hi034, _, hsz34, _⟩ := info_parts info2; have hroom34 : x6_1.length ≤ co14 := (Kd.R_reads' HO_6.out).2.1; have hC34 : Kd.C (Kd.int .i64) _ (some ad329) x6_1.length x6_1 := (Kd.R_reads' HO_6.out).2.2; have hcut34 := cut_to (P := Try.prog) 24 2 .i64 Try.underlying24 hi034 (some ad329) x6_1.length co14 (ji24) (of_decide_eq_true spec_l01DrawOf.Z5) q34 hroom34; have hr34 := Kd.C_take (m := ((ji24) : Int).toNat) hC34 (by omega); have hy34 : y332.length = ((ji24) : Int).toNat := (by rw [Ny332.out, List.length_take]; omega); rw [← Ny332.out] at hr34; rw [← hy34] at hcut34; have HR335 := A_ hr34; have HC335 := A_ (show y332.length ≤ co14 from by omega); clear hr34 hC34 hroom34 hi034 hsz34; have KY34 := A_ hy34; clear hy34; have KL34 := A_ (show ((ji24) : Int).toNat ≤ x6_1.length from by omega); replace q34 := eq_true q34) | ((with_reducible refine gate_callee (f := 145) rfl ?_); refine goesL_ (some 46) rfl rfl Try.func145 (by kernel_rfl) rfl #[.slice (some ad329) y332.length co14] rfl eg ?_; (with_reducible refine (spec_l01Own.calls _ _ y332 t336 _ ?side1 ?side2 A27.out).mono ?_); (case side1 => repeat (first | exact spec_l01DrawOf.Z0 | (with_reducible refine Kd.C_alloc ?_ _) | (with_reducible refine Kd.C_drewN ?_ _) | (with_reducible refine Kd.C_drew ?_))); (case side2 => exact HC335.out); rintro e w35 ⟨v337, rfl, ho0, hb⟩; refine ⟨_, rfl, ?_⟩; have n0_ := A_ (Kd.R_elder' (ea HO_5) (Kd.R_base ho0) hb); have n1_ := A_ (Kd.R_elder' (ea HO_6) (Kd.R_base ho0) hb); have n2_ := A_ (Kd.R_lower (Kd.R_new' (Kd.R_new' ho0 (Kd.R_lt (ea HO_5))) (Kd.R_lt (ea HO_6))) (keep_size (w := w) (g := g) (row := none) (ek HK))); have n3_ := A_ (eB BK313 hb); have n4_ := A_ (IsS121.below (ei121 HI0) hb); have n5_ := A_ (Kd.C_below spec_l01DrawOf.Z0 hb); have n6_ := A_ (KeepBut.trans (ek HK) (KeepBut.of_below hb g none) (.inl rfl)); have n7_ := A_ (below_step (em121 HB) hb); clear HO_5; clear HO_6; clear BK313; clear HI0; clear HR335; clear HK; clear HB; have HO_5 := n0_; have HO_6 := n1_; have HO338 := n2_; have BK313 := n3_; have HI0 := n4_; have HR335 := n5_; have HK := n6_; have HB := n7_; clear n0_ n1_ n2_ n3_ n4_ n5_ n6_ n7_; (try clear hb); (try clear hb2); (try clear hk); (try clear hi); (try clear ho0)) | ((with_reducible refine gate_builtin (b := .append) (xs := #[.tmp 46, .tmp 48]) rfl ?_); at_builtin; refine Kd.R_append (Kd.int .i64) w.heap.size rfl (.tmp 46) (.tmp 48) 24 2 (.int .i64 0) 8 rfl Try.underlying24 info2 rfl (by decide) (by omega) v337 t336 x8_1 [.int .i64 x8_1] (fun k_ => some k_ ≠ (.slice (some ⟨go23, 0, none⟩) x5_1.length co31 : Value).ownBlock ∧ some k_ ≠ (.slice (some ad329) x6_1.length co14 : Value).ownBlock) (fun _ => False) rfl rfl ?aP (fun _ hk => hk.elim) ?aF ?aO (Below.refl _ _) ?aS ?aL ?_; (case aP => exact rfl); (case aF => exact (fun k_ hk => ⟨Kd.fresh' (Kd.R_lt (ea HO_5)) k_ hk, Kd.fresh' (Kd.R_lt (ea HO_6)) k_ hk⟩)); (case aO => exact (by (with_reducible repeat (first | apply Kd.R_alloc | apply Kd.R_drewN | apply Kd.R_drew)); exact Kd.R_mono HO338.out (fun _ hk => ⟨hk.1.2, hk.2⟩))); (case aS => exact (keep_size (w := w) (g := g) (row := none) (ek HK))); (case aL => have := LMc28.out; omega); intro v340 w36 ho hb hg hat; rw [← Ny339.out] at ho; have n0_ := A_ (Kd.R_after (ok := (fun k_ => some k_ ≠ (.slice (some ad329) x6_1.length co14 : Value).ownBlock)) (ea HO_5) hg hat); have n1_ := A_ (Kd.R_after (ok := (fun k_ => some k_ ≠ (.slice (some ⟨go23, 0, none⟩) x5_1.length co31 : Value).ownBlock)) spec_l01DrawOf.Z2 hg hat); have n2_ := A_ (blk_grown (g := gb313) (o := .cells #[.slice none 0 0] 26 (0, 0)) (eb BK313) hg (Kd.R_ne HO338.out BK313.out (by decide))); have n3_ := A_ (IsS121.grown (ei121 HI0) hg (IsS121.own_ne HI0.out HO338.out (by decide))); have n4_ := A_ (below_weaken (em121 HB) HL.out hb); have n5_ := A_ (KeepBut.trans (ek HK) (KeepBut.of_grown hg g) (Kd.R_base2 HO338.out)); have n6_ := A_ ((show Kd.C (Kd.int .i64) w36 (some ad329) y332.length y332 from by rw [Ny332.out]; exact Kd.C_take (m := ((ji24) : Int).toNat) ((Kd.R_reads' (Kd.R_after (ok := (fun k_ => some k_ ≠ (.slice (some ⟨go23, 0, none⟩) x5_1.length co31 : Value).ownBlock)) spec_l01DrawOf.Z2 hg hat)).2.2) KL34.out)); have n7_ := A_ (ho); clear HO_5; clear HO_6; clear BK313; clear HI0; clear HB; clear HK; clear HR335; clear HO338; have HO_5 := n0_; have HO_6 := n1_; have BK313 := n2_; have HI0 := n3_; have HB := n4_; have HK := n5_; have HR335 := n6_; have HO341 := n7_; clear n0_ n1_ n2_ n3_ n4_ n5_ n6_ n7_; clear ho hb hg hat) | ((with_reducible refine gate_builtin (b := .append) (xs := #[.tmp 50, .tmp 51]) rfl ?_); at_builtin; refine Kd.R_append (Kd.int .i64) w.heap.size rfl (.tmp 50) (.tmp 51) 24 2 (.int .i64 0) 8 rfl Try.underlying24 info2 rfl (by decide) (by omega) (.slice (some ⟨go23, 0, none⟩) x5_1.length co31) y331 0 [.int .i64 0] (fun k_ => some k_ ≠ (.slice (some ad329) x6_1.length co14 : Value).ownBlock ∧ some k_ ≠ (v340 : Value).ownBlock) (fun _ => False) rfl rfl ?aP (fun _ hk => hk.elim) ?aF ?aO (Below.refl _ _) ?aS ?aL ?_; (case aP => exact rfl); (case aF => exact (fun k_ hk => ⟨Kd.fresh' (Kd.R_lt (ea HO_6)) k_ hk, Kd.fresh' (Kd.R_lt (ea HO341)) k_ hk⟩)); (case aO => exact (ea HO_5)); (case aS => exact (keep_size (w := w) (g := g) (row := none) (ek HK))); (case aL => have := LMc29.out; omega); intro v343 w37 ho hb hg hat; rw [← Ny342.out] at ho; have n0_ := A_ (Kd.R_after (ok := (fun k_ => some k_ ≠ (v340 : Value).ownBlock)) spec_l01DrawOf.Z4 hg hat); have n1_ := A_ (blk_grown (g := gb313) (o := .cells #[.slice none 0 0] 26 (0, 0)) (eb BK313) hg (Kd.R_ne HO_5.out BK313.out (by decide))); have n2_ := A_ (IsS121.grown (ei121 HI0) hg (IsS121.own_ne HI0.out HO_5.out (by decide))); have n3_ := A_ (Kd.R_after (ok := (fun k_ => some k_ ≠ (.slice (some ad329) x6_1.length co14 : Value).ownBlock)) (by (with_reducible repeat (first | apply Kd.R_alloc | apply Kd.R_drewN | apply Kd.R_drew)); exact Kd.R_mono HO341.out (fun _ hk => ⟨hk.2, hk.1⟩)) hg hat); have n4_ := A_ (below_weaken (em121 HB) HL.out hb); have n5_ := A_ (KeepBut.trans (ek HK) (KeepBut.of_grown hg g) (Kd.R_base2 HO_5.out)); have n6_ := A_ ((show Kd.C (Kd.int .i64) w37 (some ad329) y332.length y332 from by rw [Ny332.out]; exact Kd.C_take (m := ((ji24) : Int).toNat) ((Kd.R_reads' (Kd.R_after (ok := (fun k_ => some k_ ≠ (v340 : Value).ownBlock)) spec_l01DrawOf.Z4 hg hat)).2.2) KL34.out)); have n7_ := A_ (ho); clear HO_6; clear BK313; clear HI0; clear HO341; clear HB; clear HK; clear HR335; clear HO_5; have HO_6 := n0_; have BK313 := n1_; have HI0 := n2_; have HO341 := n3_; have HB := n4_; have HK := n5_; have HR335 := n6_; have HO344 := n7_; clear n0_ n1_ n2_ n3_ n4_ n5_ n6_ n7_; clear ho hb hg hat))
        go_roundg k2
        case measure => have := HK1.out; have := HK2.out; omega
        case rel => exact ⟨(y342), (y339), (wrap64 (x8_1 + 1)), (t327), (t328), spec_l01DrawOf.Z6, H', ⟨by have := HK1.out; have := HK2.out; omega⟩, ⟨by (with_reducible repeat (first | apply Kd.R_alloc | apply Kd.R_drewN | apply Kd.R_drew)); exact Kd.R_mono HO344.out (fun _ hk => hk.2)⟩, ⟨by (with_reducible repeat (first | apply Kd.R_alloc | apply Kd.R_drewN | apply Kd.R_drew)); exact Kd.R_mono HO341.out (fun _ hk => hk.2)⟩, ⟨eb BK313⟩, ⟨ei121 HI0⟩, ⟨ek HK⟩, ⟨em121 HB⟩⟩
      ·rw [if_neg c15] at H
       have c15b0 : decide (0 < x9_2) = false := decide_eq_false c15
       clear c15
       by_cases c38 : 0 ≤ x9_2
       rotate_left
       ·rw [if_neg c38] at H
        exact absurd H (by simp)
       rw [if_pos c38] at H
       have c38b0 : decide (0 ≤ x9_2) = true := decide_eq_true c38
       clear c38
       by_cases c39 : x9_2 < (x6_1.length : Int)
       rotate_left
       ·rw [if_neg c39] at H
        exact absurd H (by simp)
       rw [if_pos c39] at H
       have c39b0 : decide (x9_2 < (x6_1.length : Int)) = true := decide_eq_true c39
       clear c39
       by_cases c40 : 0 ≤ (rd x6_1 x9_2)
       rotate_left
       ·rw [if_neg c40] at H
        exact absurd H (by simp)
       rw [if_pos c40] at H
       have c40b0 : decide (0 ≤ (rd x6_1 x9_2)) = true := decide_eq_true c40
       clear c40
       by_cases c41 : (rd x6_1 x9_2) < (x5_1.length : Int)
       rotate_left
       ·rw [if_neg c41] at H
        exact absurd H (by simp)
       rw [if_pos c41] at H
       have c41b0 : decide ((rd x6_1 x9_2) < (x5_1.length : Int)) = true := decide_eq_true c41
       clear c41
       obtain ⟨y347, hy347⟩ : ∃ y_ : List Int, y_ = (x5_1.set ((rd x6_1 x9_2) : Int).toNat (wrap64 ((rd x5_1 (rd x6_1 x9_2)) + 1))) := ⟨_, rfl⟩
       replace H : (if 0 ≤ (wrap64 (x9_2 + 1)) then (if (wrap64 (x9_2 + 1)) ≤ (x6_1.length : Int) then ((spec_l01Own.f (x6_1.take ((wrap64 (x9_2 + 1)) : Int).toNat)).bind fun t352 => (if t352.length < 17592186044416 then (if y347.length < 17592186044416 then (spec_l01DrawOf.l0 k2 a1 (y347 ++ [0]) (t352 ++ [x8_1]) t323 (wrap64 (x8_1 + 1)) s0_0 x1001_2 x1002_2) else (none)) else (none))) else (none)) else (none)) = some (r1, r2, r3) := by first | (rw [hy347]; with_reducible exact H) | (have H2_ := (Option.bind_some _ _).symm.trans H; rw [hy347]; with_reducible exact H2_) | (have H2_ := (Option.bind_some _ _).symm.trans H; with_reducible exact H2_) | with_reducible exact H | (rw [hy347]; exact H) | exact H
       have Ny347 := A_ hy347
       clear hy347
       obtain ⟨ji43, hji43⟩ : ∃ j_ : Int, (wrap64 (x9_2 + 1)) = j_ := ⟨_, rfl⟩
       replace H : (if 0 ≤ (ji43) then (if (ji43) ≤ (x6_1.length : Int) then ((spec_l01Own.f (x6_1.take ((ji43) : Int).toNat)).bind fun t352 => (if t352.length < 17592186044416 then (if y347.length < 17592186044416 then (spec_l01DrawOf.l0 k2 a1 (y347 ++ [0]) (t352 ++ [x8_1]) t323 (wrap64 (x8_1 + 1)) s0_0 x1001_2 x1002_2) else (none)) else (none))) else (none)) else (none)) = some (r1, r2, r3) := by first | (rw [hji43] at H; exact H) | (simp only [hji43] at H ⊢; exact H)
       have hji43w : (IntKind.i64.wrap (x9_2 + 1)) = ji43 := (i64_w _).trans hji43
       by_cases c44 : 0 ≤ (ji43)
       rotate_left
       ·rw [if_neg c44] at H
        exact absurd H (by simp)
       rw [if_pos c44] at H
       have c44b0 := eq_true c44
       have c44b1 : decide (0 ≤ (ji43)) = true := decide_eq_true c44
       clear c44
       by_cases c45 : (ji43) ≤ (x6_1.length : Int)
       rotate_left
       ·rw [if_neg c45] at H
        exact absurd H (by simp)
       rw [if_pos c45] at H
       have c45b0 := eq_true c45
       have c45b1 : decide ((ji43) ≤ (x6_1.length : Int)) = true := decide_eq_true c45
       clear c45
       obtain ⟨y348, hy348⟩ : ∃ y_ : List Int, y_ = (x6_1.take ((ji43) : Int).toNat) := ⟨_, rfl⟩
       replace H : ((spec_l01Own.f y348).bind fun t352 => (if t352.length < 17592186044416 then (if y347.length < 17592186044416 then (spec_l01DrawOf.l0 k2 a1 (y347 ++ [0]) (t352 ++ [x8_1]) t323 (wrap64 (x8_1 + 1)) s0_0 x1001_2 x1002_2) else (none)) else (none))) = some (r1, r2, r3) := by first | (rw [hy348]; with_reducible exact H) | (have H2_ := (Option.bind_some _ _).symm.trans H; rw [hy348]; with_reducible exact H2_) | (have H2_ := (Option.bind_some _ _).symm.trans H; with_reducible exact H2_) | with_reducible exact H | (rw [hy348]; exact H) | exact H
       have Ny348 := A_ hy348
       clear hy348
       replace H := Option.bind_eq_some_iff.mp H
       obtain ⟨t352, A460, H⟩ := H
       replace H : (if t352.length < 17592186044416 then (if y347.length < 17592186044416 then (spec_l01DrawOf.l0 k2 a1 (y347 ++ [0]) (t352 ++ [x8_1]) t323 (wrap64 (x8_1 + 1)) s0_0 x1001_2 x1002_2) else (none)) else (none)) = some (r1, r2, r3) := H
       have A46 := A_ A460
       clear A460
       by_cases c47 : t352.length < 17592186044416
       rotate_left
       ·rw [if_neg c47] at H
        exact absurd H (by simp)
       rw [if_pos c47] at H
       have LMc47 := A_ c47
       clear c47
       obtain ⟨y355, hy355⟩ : ∃ y_ : List Int, y_ = (t352 ++ [x8_1]) := ⟨_, rfl⟩
       replace H : (if y347.length < 17592186044416 then (spec_l01DrawOf.l0 k2 a1 (y347 ++ [0]) y355 t323 (wrap64 (x8_1 + 1)) s0_0 x1001_2 x1002_2) else (none)) = some (r1, r2, r3) := by first | (rw [hy355]; with_reducible exact H) | (have H2_ := (Option.bind_some _ _).symm.trans H; rw [hy355]; with_reducible exact H2_) | (have H2_ := (Option.bind_some _ _).symm.trans H; with_reducible exact H2_) | with_reducible exact H | (rw [hy355]; exact H) | exact H
       have Ny355 := A_ hy355
       clear hy355
       by_cases c48 : y347.length < 17592186044416
       rotate_left
       ·rw [if_neg c48] at H
        exact absurd H (by simp)
       rw [if_pos c48] at H
       have LMc48 := A_ c48
       clear c48
       obtain ⟨y358, hy358⟩ : ∃ y_ : List Int, y_ = (y347 ++ [0]) := ⟨_, rfl⟩
       replace H : (spec_l01DrawOf.l0 k2 a1 y358 y355 t323 (wrap64 (x8_1 + 1)) s0_0 x1001_2 x1002_2) = some (r1, r2, r3) := by first | (rw [hy358]; with_reducible exact H) | (have H2_ := (Option.bind_some _ _).symm.trans H; rw [hy358]; with_reducible exact H2_) | (have H2_ := (Option.bind_some _ _).symm.trans H; with_reducible exact H2_) | with_reducible exact H | (rw [hy358]; exact H) | exact H
       have Ny358 := A_ hy358
       clear hy358
       have H' := A_ H
       clear H
       have p345 : 0 ≤ (x9_2 : Int) := of_decide_eq_true spec_l01DrawOf.Z5
       have q345 : x9_2 < (x6_1.length : Int) := of_decide_eq_true spec_l01DrawOf.Z5
       obtain ⟨ad345, e345, hx345_0⟩ := Kd.at_int (Kd.R_reads' HO_6.out).2.2 x9_2 p345 q345
       cases e345
       replace p345 := eq_true p345
       replace q345 := eq_true q345
       obtain ⟨Ao49, co49, eo49⟩ := Kd.R_slice HO_5.out
       subst eo49
       have p346 : 0 ≤ ((rd x6_1 x9_2) : Int) := of_decide_eq_true spec_l01DrawOf.Z5
       have q346 : (rd x6_1 x9_2) < (x5_1.length : Int) := of_decide_eq_true spec_l01DrawOf.Z5
       obtain ⟨ad346, e346, hx346_0⟩ := Kd.at_int (Kd.R_reads' HO_5.out).2.2 (rd x6_1 x9_2) p346 q346
       cases e346
       replace p346 := eq_true p346
       replace q346 := eq_true q346
       have p42 : 0 ≤ ((rd x6_1 x9_2) : Int) := of_decide_eq_true spec_l01DrawOf.Z5
       have q42 : ((rd x6_1 x9_2) : Int) < ((x5_1.length : Int) : Int) := of_decide_eq_true spec_l01DrawOf.Z5
       obtain ⟨go42, co42, eo42, gb42, gl42, cl42, HG42⟩ := Kd.R_form HO_5.out (by omega)
       (first | cases eo42 | (injection eo42 with ea_ en_ ec_; (first | subst ea_ | (injection ea_ with ea_; subst ea_)); subst ec_; clear en_))
       have GB42 := A_ gb42
       have GG42 := A_ HG42
       clear gb42 gl42 HG42
       (first | simp only [add_plain] at hx346_0 | skip)
       obtain ⟨hx42_0, hf42_0⟩ := Kd.R_celln 0 HO_5.out ((rd x6_1 x9_2) : Int) p42 q42
       replace p42 := eq_true p42
       replace q42 := eq_true q42
       have HP50 := Kd.R_putg HO_5.out ((rd x6_1 x9_2) : Int) (wrap64 ((rd x5_1 (rd x6_1 x9_2)) + 1))
       go_wp2_with (first | ((with_reducible refine gate_store (t := 2) (p := 41) rfl ?_); refine store_event (t := 2) (p := 41) (v := ?vo_w51) (w1 := (wr.setCell ⟨go42, ((rd x6_1 x9_2) : Int).toNat, none⟩ (.int .i64 (wrap64 ((rd x5_1 (rd x6_1 x9_2)) + 1))))) ?hg ?ho ?hn ?hr ?_; (case ho => rfl); (case hg => rfl); (case hn => rfl); (case hr => first | (go_simp; done) | (go_simp; rfl)); intro w51 hw; have hg : wr.grownBy w51 (some go42) := (by rw [hw]; exact HP50.2); have hp_ : Kd.R (Kd.int .i64) 2 w51 w.heap.size (fun k_ => some k_ ≠ (.slice (some ad345) x6_1.length co14 : Value).ownBlock) (.slice (some ⟨go42, 0, none⟩) x5_1.length co49) y347 := (by rw [hw, Ny347.out]; exact HP50.1); clear HP50; have n0_ := A_ (hp_); have n1_ := A_ (Kd.R_after (v := (.slice (some ⟨go42, 0, none⟩) x5_1.length co49)) (v1 := (.slice (some ⟨go42, 0, none⟩) x5_1.length co49)) (ok := (fun _ => True)) spec_l01DrawOf.Z3 hg (.inl rfl)); have n2_ := A_ (blk_grown (g := gb313) (o := .cells #[.slice none 0 0] 26 (0, 0)) (eb BK313) hg (Kd.R_ne HO_5.out BK313.out (by decide))); have n3_ := A_ (IsS121.grown (ei121 HI0) hg (IsS121.own_ne HI0.out HO_5.out (by decide))); have n4_ := A_ ((by rw [hw]; exact below_set (HB.out) (Nat.le_trans HL.out GB42.out) : Below w0.heap.size w0 w51)); have n5_ := A_ (KeepBut.trans (ek HK) (KeepBut.of_grown hg g) (Kd.R_base2 HO_5.out)); clear HO_5; clear HO_6; clear BK313; clear HI0; clear HB; clear HK; have HO_5 := n0_; have HO_6 := n1_; have BK313 := n2_; have HI0 := n3_; have HB := n4_; have HK := n5_; clear n0_ n1_ n2_ n3_ n4_ n5_; clear hg hw hp_; have q52 : ((ji43) : Int) ≤ ((x6_1.length : Int) : Int) := of_decide_eq_true spec_l01DrawOf.Z5; obtain ⟨i052, hi052, _, hsz52, _⟩ := info_parts info2; have hroom52 : x6_1.length ≤ co14 := (Kd.R_reads' HO_6.out).2.1; have hC52 : Kd.C (Kd.int .i64) _ (some ad345) x6_1.length x6_1 := (Kd.R_reads' HO_6.out).2.2; have hcut52 := cut_to (P := Try.prog) 24 2 .i64 Try.underlying24 hi052 (some ad345) x6_1.length co14 (ji43) (of_decide_eq_true spec_l01DrawOf.Z5) q52 hroom52; have hr52 := Kd.C_take (m := ((ji43) : Int).toNat) hC52 (by omega); have hy52 : y348.length = ((ji43) : Int).toNat := (by rw [Ny348.out, List.length_take]; omega); rw [← Ny348.out] at hr52; rw [← hy52] at hcut52; have HR351 := A_ hr52; have HC351 := A_ (show y348.length ≤ co14 from by omega); clear hr52 hC52 hroom52 hi052 hsz52; have KY52 := A_ hy52; clear hy52; have KL52 := A_ (show ((ji43) : Int).toNat ≤ x6_1.length from by omega); replace q52 := eq_true q52) | ((with_reducible refine gate_callee (f := 145) rfl ?_); refine goesL_ (some 46) rfl rfl Try.func145 (by kernel_rfl) rfl #[.slice (some ad345) y348.length co14] rfl eg ?_; (with_reducible refine (spec_l01Own.calls _ _ y348 t352 _ ?side1 ?side2 A46.out).mono ?_); (case side1 => repeat (first | exact spec_l01DrawOf.Z1 | (with_reducible refine Kd.C_alloc ?_ _) | (with_reducible refine Kd.C_drewN ?_ _) | (with_reducible refine Kd.C_drew ?_))); (case side2 => exact HC351.out); rintro e w53 ⟨v353, rfl, ho0, hb⟩; refine ⟨_, rfl, ?_⟩; have n0_ := A_ (Kd.R_elder' (ea HO_5) (Kd.R_base ho0) hb); have n1_ := A_ (Kd.R_elder' (ea HO_6) (Kd.R_base ho0) hb); have n2_ := A_ (Kd.R_lower (Kd.R_new' (Kd.R_new' ho0 (Kd.R_lt (ea HO_5))) (Kd.R_lt (ea HO_6))) (keep_size (w := w) (g := g) (row := none) (ek HK))); have n3_ := A_ (eB BK313 hb); have n4_ := A_ (IsS121.below (ei121 HI0) hb); have n5_ := A_ (Kd.C_below spec_l01DrawOf.Z1 hb); have n6_ := A_ (KeepBut.trans (ek HK) (KeepBut.of_below hb g none) (.inl rfl)); have n7_ := A_ (below_step (em121 HB) hb); clear HO_5; clear HO_6; clear BK313; clear HI0; clear HR351; clear HK; clear HB; have HO_5 := n0_; have HO_6 := n1_; have HO354 := n2_; have BK313 := n3_; have HI0 := n4_; have HR351 := n5_; have HK := n6_; have HB := n7_; clear n0_ n1_ n2_ n3_ n4_ n5_ n6_ n7_; (try clear hb); (try clear hb2); (try clear hk); (try clear hi); (try clear ho0)) | ((with_reducible refine gate_builtin (b := .append) (xs := #[.tmp 46, .tmp 48]) rfl ?_); at_builtin; refine Kd.R_append (Kd.int .i64) w.heap.size rfl (.tmp 46) (.tmp 48) 24 2 (.int .i64 0) 8 rfl Try.underlying24 info2 rfl (by decide) (by omega) v353 t352 x8_1 [.int .i64 x8_1] (fun k_ => some k_ ≠ (.slice (some ⟨go42, 0, none⟩) x5_1.length co49 : Value).ownBlock ∧ some k_ ≠ (.slice (some ad345) x6_1.length co14 : Value).ownBlock) (fun _ => False) rfl rfl ?aP (fun _ hk => hk.elim) ?aF ?aO (Below.refl _ _) ?aS ?aL ?_; (case aP => exact rfl); (case aF => exact (fun k_ hk => ⟨Kd.fresh' (Kd.R_lt (ea HO_5)) k_ hk, Kd.fresh' (Kd.R_lt (ea HO_6)) k_ hk⟩)); (case aO => exact (by (with_reducible repeat (first | apply Kd.R_alloc | apply Kd.R_drewN | apply Kd.R_drew)); exact Kd.R_mono HO354.out (fun _ hk => ⟨hk.1.2, hk.2⟩))); (case aS => exact (keep_size (w := w) (g := g) (row := none) (ek HK))); (case aL => have := LMc47.out; omega); intro v356 w54 ho hb hg hat; rw [← Ny355.out] at ho; have n0_ := A_ (Kd.R_after (ok := (fun k_ => some k_ ≠ (.slice (some ad345) x6_1.length co14 : Value).ownBlock)) (ea HO_5) hg hat); have n1_ := A_ (Kd.R_after (ok := (fun k_ => some k_ ≠ (.slice (some ⟨go42, 0, none⟩) x5_1.length co49 : Value).ownBlock)) spec_l01DrawOf.Z2 hg hat); have n2_ := A_ (blk_grown (g := gb313) (o := .cells #[.slice none 0 0] 26 (0, 0)) (eb BK313) hg (Kd.R_ne HO354.out BK313.out (by decide))); have n3_ := A_ (IsS121.grown (ei121 HI0) hg (IsS121.own_ne HI0.out HO354.out (by decide))); have n4_ := A_ (below_weaken (em121 HB) HL.out hb); have n5_ := A_ (KeepBut.trans (ek HK) (KeepBut.of_grown hg g) (Kd.R_base2 HO354.out)); have n6_ := A_ ((show Kd.C (Kd.int .i64) w54 (some ad345) y348.length y348 from by rw [Ny348.out]; exact Kd.C_take (m := ((ji43) : Int).toNat) ((Kd.R_reads' (Kd.R_after (ok := (fun k_ => some k_ ≠ (.slice (some ⟨go42, 0, none⟩) x5_1.length co49 : Value).ownBlock)) spec_l01DrawOf.Z2 hg hat)).2.2) KL52.out)); have n7_ := A_ (ho); clear HO_5; clear HO_6; clear BK313; clear HI0; clear HB; clear HK; clear HR351; clear HO354; have HO_5 := n0_; have HO_6 := n1_; have BK313 := n2_; have HI0 := n3_; have HB := n4_; have HK := n5_; have HR351 := n6_; have HO357 := n7_; clear n0_ n1_ n2_ n3_ n4_ n5_ n6_ n7_; clear ho hb hg hat) | ((with_reducible refine gate_builtin (b := .append) (xs := #[.tmp 50, .tmp 51]) rfl ?_); at_builtin; refine Kd.R_append (Kd.int .i64) w.heap.size rfl (.tmp 50) (.tmp 51) 24 2 (.int .i64 0) 8 rfl Try.underlying24 info2 rfl (by decide) (by omega) (.slice (some ⟨go42, 0, none⟩) x5_1.length co49) y347 0 [.int .i64 0] (fun k_ => some k_ ≠ (.slice (some ad345) x6_1.length co14 : Value).ownBlock ∧ some k_ ≠ (v356 : Value).ownBlock) (fun _ => False) rfl rfl ?aP (fun _ hk => hk.elim) ?aF ?aO (Below.refl _ _) ?aS ?aL ?_; (case aP => exact rfl); (case aF => exact (fun k_ hk => ⟨Kd.fresh' (Kd.R_lt (ea HO_6)) k_ hk, Kd.fresh' (Kd.R_lt (ea HO357)) k_ hk⟩)); (case aO => exact (ea HO_5)); (case aS => exact (keep_size (w := w) (g := g) (row := none) (ek HK))); (case aL => have := LMc48.out; omega); intro v359 w55 ho hb hg hat; rw [← Ny358.out] at ho; have n0_ := A_ (Kd.R_after (ok := (fun k_ => some k_ ≠ (v356 : Value).ownBlock)) spec_l01DrawOf.Z4 hg hat); have n1_ := A_ (blk_grown (g := gb313) (o := .cells #[.slice none 0 0] 26 (0, 0)) (eb BK313) hg (Kd.R_ne HO_5.out BK313.out (by decide))); have n2_ := A_ (IsS121.grown (ei121 HI0) hg (IsS121.own_ne HI0.out HO_5.out (by decide))); have n3_ := A_ (Kd.R_after (ok := (fun k_ => some k_ ≠ (.slice (some ad345) x6_1.length co14 : Value).ownBlock)) (by (with_reducible repeat (first | apply Kd.R_alloc | apply Kd.R_drewN | apply Kd.R_drew)); exact Kd.R_mono HO357.out (fun _ hk => ⟨hk.2, hk.1⟩)) hg hat); have n4_ := A_ (below_weaken (em121 HB) HL.out hb); have n5_ := A_ (KeepBut.trans (ek HK) (KeepBut.of_grown hg g) (Kd.R_base2 HO_5.out)); have n6_ := A_ ((show Kd.C (Kd.int .i64) w55 (some ad345) y348.length y348 from by rw [Ny348.out]; exact Kd.C_take (m := ((ji43) : Int).toNat) ((Kd.R_reads' (Kd.R_after (ok := (fun k_ => some k_ ≠ (v356 : Value).ownBlock)) spec_l01DrawOf.Z4 hg hat)).2.2) KL52.out)); have n7_ := A_ (ho); clear HO_6; clear BK313; clear HI0; clear HO357; clear HB; clear HK; clear HR351; clear HO_5; have HO_6 := n0_; have BK313 := n1_; have HI0 := n2_; have HO357 := n3_; have HB := n4_; have HK := n5_; have HR351 := n6_; have HO360 := n7_; clear n0_ n1_ n2_ n3_ n4_ n5_ n6_ n7_; clear ho hb hg hat))
       go_roundg k2
       case measure => have := HK1.out; have := HK2.out; omega
       case rel => exact ⟨(y358), (y355), (wrap64 (x8_1 + 1)), (x1001_2), (x1002_2), spec_l01DrawOf.Z6, H', ⟨by have := HK1.out; have := HK2.out; omega⟩, ⟨by (with_reducible repeat (first | apply Kd.R_alloc | apply Kd.R_drewN | apply Kd.R_drew)); exact Kd.R_mono HO360.out (fun _ hk => hk.2)⟩, ⟨by (with_reducible repeat (first | apply Kd.R_alloc | apply Kd.R_drewN | apply Kd.R_drew)); exact Kd.R_mono HO357.out (fun _ hk => hk.2)⟩, ⟨eb BK313⟩, ⟨ei121 HI0⟩, ⟨ek HK⟩, ⟨em121 HB⟩⟩
   ·rw [if_neg c13] at H
    have c13b0 : decide (x8_1 < a1) = false := decide_eq_false c13
    clear c13
    simp only [Option.some.injEq, Prod.mk.injEq] at H
    obtain ⟨rfl, rfl, rfl⟩ := H
    obtain ⟨Ao56, co56, eo56⟩ := Kd.R_slice HO_5.out
    subst eo56
    have hnb57 := NB313_0.out
    have hnc57 := NB0_313.out
    have hcz58_0 : wr.cell? ⟨gb313, 0, none⟩ = some (.slice none 0 0) := (blk_cell BK313.out 0).trans rfl
    have hfz58_0 := blk_frozen BK313.out 0
    go_wp2
    refine bodyPost_ret (results_cell_row rfl _ _ gb313 26 #[.slice Ao56 x5_1.length co56] (0, 0) _ rfl (by (with_reducible repeat (first | refine blk_drewN ?_ _ | refine blk_drew ?_ | refine blk_alloc ?_ _)); refine blk_put (cs := #[.slice none 0 0]) ?_ 0 _ rfl; (with_reducible repeat (first | refine blk_drewN ?_ _ | refine blk_drew ?_ | refine blk_alloc ?_ _)); exact BK313.out) Try.underlying26 rfl (by kernel_rfl)) rfl ?_
    exact ⟨_, er, by (with_reducible repeat (first | apply Kd.R_alloc | apply Kd.R_drewN | apply Kd.R_drew)); exact Kd.R_mono (Kd.R_far (p := ⟨gb313, 0, none⟩) (Kd.R_types HO_5.out BK313.out (by decide)) (fun _ hk => hk.2) (.slice Ao56 x5_1.length co56)) (fun _ hk => trivial), ei121 HI0, em121 HB, ek HK⟩

/-! ### spec_l01Small: function 126 -/
def spec_l01Small.f (k : Nat) (s0_0 : List Int) (s0_1 : Int) (s0_2 : Int) : Option (List Int × Int × Int) := (spec_l01Next.f s0_0 s0_1 s0_2 6).bind fun bt362 => ((spec_l01DrawOf.f k s0_0 bt362.2.1 bt362.2.2 (wrap64 (1 + bt362.1))).bind fun bt365 => (some (bt365.1, bt365.2.1, bt365.2.2)))
theorem spec_l01Small.mono : ∀ a0 a1 a2 k, LeO (spec_l01Small.f k a0 a1 a2) (spec_l01Small.f (k + 1) a0 a1 a2) := by
  intro a0 a1 a2 k
  unfold spec_l01Small.f
  repeat' first
      | (with_reducible exact spec_l01DrawOf.mono _ _ _ _ _)
      | (with_reducible exact LeO.refl _)
      | (with_reducible exact LeO.none _)
      | (with_reducible refine LeO.ite ?_ ?_)
      | (with_reducible refine LeO.bind ?_ (fun _ => ?_))
      | exact spec_l01DrawOf.mono _ _ _ _ _
      | exact LeO.none _
      | refine LeO.ite ?_ ?_
      | refine LeO.bind ?_ (fun _ => ?_)
set_option maxHeartbeats 8000000 in
set_option maxRecDepth 100000 in
theorem spec_l01Small.calls (k : Nat) (g : Nat) (s0_0 : List Int) (s0_1 : Int) (s0_2 : Int) (r1 : List Int) (r2 : Int) (r3 : Int) (w0 w : World) (hI : IsS121 w0 w g s0_0 s0_1 s0_2) (hB : Below w0.heap.size w0 w) (h : spec_l01Small.f k s0_0 s0_1 s0_2 = some (r1, r2, r3)) :
  Calls Try.prog 126 #[.pointer (some ⟨g, 0, none⟩)] w fun e w' => ∃ v0_ : Value, e = .returned (.agg #[v0_]) ∧ Kd.R (Kd.int .i64) 2 w' w.heap.size (fun _ => True) v0_ r1 ∧ IsS121 w0 w' g s0_0 r2 r3 ∧ Below w0.heap.size w0 w' ∧ KeepBut w w' g none := by
 have hu26 := Try.underlying26
 have HI0 := A_ hI
 have HK := A_ (KeepBut.refl w g none)
 have HL := A_ hB.size
 clear hI
 have HW0 := A_ hB.size
 have HB := A_ hB
 clear hB
 have H : ((spec_l01Next.f s0_0 s0_1 s0_2 6).bind fun bt362 => ((spec_l01DrawOf.f k s0_0 bt362.2.1 bt362.2.2 (wrap64 (1 + bt362.1))).bind fun bt365 => (some (bt365.1, bt365.2.1, bt365.2.2)))) = some (r1, r2, r3) := h
 clear h
 replace H := Option.bind_eq_some_iff.mp H
 obtain ⟨⟨t362, t363, t364⟩, A20, H⟩ := H
 replace H : ((spec_l01DrawOf.f k s0_0 t363 t364 (wrap64 (1 + t362))).bind fun bt365 => (some (bt365.1, bt365.2.1, bt365.2.2))) = some (r1, r2, r3) := H
 have A2 := A_ A20
 clear A20
 replace H := Option.bind_eq_some_iff.mp H
 obtain ⟨⟨t365, t368, t369⟩, A30, H⟩ := H
 replace H : (some (t365, t368, t369)) = some (r1, r2, r3) := H
 have A3 := A_ A30
 clear A30
 simp only [Option.some.injEq, Prod.mk.injEq] at H
 obtain ⟨rfl, rfl, rfl⟩ := H
 go_enter Try.func126, Try.ntmps126
 go_wp2_with (first | ((with_reducible refine gate_dst (N := 2) rfl ?_); refine box_event ?hg (N := 2) ?hd (cs := #[.slice none 0 0]) (t := 26) ?hr ?_; (case hd => rfl); (case hg => rfl); (case hr => first | (go_simp; done) | (go_simp; rfl)); intro gb361 hg w4 hbox hb; have n0_ := A_ (IsS121.below (ei121 HI0) hb); have n1_ := A_ (KeepBut.trans (ek HK) (KeepBut.of_below hb g none) (.inl rfl)); have n2_ := A_ (below_step (em121 HB) hb); have n3_ := A_ (hbox); have n4_ := A_ ((by rw [hg]; exact (keep_size (w := w) (g := g) (row := none) (ek HK)) : w.heap.size ≤ gb361)); have n5_ := A_ ((Nat.le_trans HW0.out (by rw [hg]; exact (keep_size (w := w) (g := g) (row := none) (ek HK)) : w.heap.size ≤ gb361) : w0.heap.size ≤ gb361)); have n6_ := A_ ((by rw [hg]; exact Nat.ne_of_lt (IsS121.lt (show IsS121 w0 _ g s0_0 s0_1 s0_2 from ei121 HI0)) : g ≠ gb361)); have n7_ := A_ ((by rw [hg]; exact Nat.ne_of_gt (IsS121.lt (show IsS121 w0 _ g s0_0 s0_1 s0_2 from ei121 HI0)) : gb361 ≠ g)); clear HI0; clear HK; clear HB; have HI0 := n0_; have HK := n1_; have HB := n2_; have BK361 := n3_; have GW361 := n4_; have GE361 := n5_; have NB0_361 := n6_; have NB361_0 := n7_; clear n0_ n1_ n2_ n3_ n4_ n5_ n6_ n7_; clear hb hbox hg) | ((with_reducible refine gate_callee (f := 123) rfl ?_); refine goesL_ (some 5) rfl rfl Try.func123 (by kernel_rfl) rfl #[.pointer (some ⟨g, 0, none⟩), .int .i64 6] rfl eg ?_; (with_reducible refine (spec_l01Next.calls g s0_0 s0_1 s0_2 6 t362 t363 t364 w0 _ ?side1 ?side2 A2.out).mono ?_); (case side1 => exact ei121 HI0); (case side2 => exact em121 HB); rintro e w5 ⟨rfl, hi, hb, hk⟩; refine ⟨_, rfl, ?_⟩; have n0_ := A_ (KeepBut.blk hk (g' := gb361) (o := .cells #[.slice none 0 0] 26 (0, 0)) (eb BK361) NB361_0.out (by simp)); have n1_ := A_ (KeepBut.trans (ek HK) hk (.inl rfl)); have n2_ := A_ (hb); have n3_ := A_ (hi); clear BK361; clear HK; clear HB; clear HI0; have BK361 := n0_; have HK := n1_; have HB := n2_; have HI0 := n3_; clear n0_ n1_ n2_ n3_; (try clear hb); (try clear hb2); (try clear hk); (try clear hi)) | ((with_reducible refine gate_callee (f := 143) rfl ?_); refine goesL_ (some 7) rfl rfl Try.func143 (by kernel_rfl) rfl #[.pointer (some ⟨g, 0, none⟩), .int .i64 (wrap64 (1 + t362))] rfl eg ?_; (with_reducible refine (spec_l01DrawOf.calls k g s0_0 t363 t364 (wrap64 (1 + t362)) t365 t368 t369 w0 _ ?side1 ?side2 A3.out).mono ?_); (case side1 => exact ei121 HI0); (case side2 => exact em121 HB); rintro e w6 ⟨v366, rfl, ho0, hi, hb, hk⟩; refine ⟨_, rfl, ?_⟩; have n0_ := A_ (KeepBut.blk hk (g' := gb361) (o := .cells #[.slice none 0 0] 26 (0, 0)) (eb BK361) NB361_0.out (by simp)); have n1_ := A_ (Kd.R_lower ho0 (keep_size (w := w) (g := g) (row := none) (ek HK))); have n2_ := A_ (KeepBut.trans (ek HK) hk (.inl rfl)); have n3_ := A_ (hb); have n4_ := A_ (hi); clear BK361; clear HK; clear HB; clear HI0; have BK361 := n0_; have HO367 := n1_; have HK := n2_; have HB := n3_; have HI0 := n4_; clear n0_ n1_ n2_ n3_ n4_; (try clear hb); (try clear hb2); (try clear hk); (try clear hi); (try clear ho0); obtain ⟨Ao7, co7, eo7⟩ := Kd.R_slice HO367.out; subst eo7; have hnb8 := NB361_0.out; have hnc8 := NB0_361.out; have hcz9_0 : w6.cell? ⟨gb361, 0, none⟩ = some (.slice none 0 0) := (blk_cell BK361.out 0).trans rfl; have hfz9_0 := blk_frozen BK361.out 0))
 refine bodyPost_ret (results_cell_row rfl _ _ gb361 26 #[.slice Ao7 t365.length co7] (0, 0) _ rfl (by (with_reducible repeat (first | refine blk_drewN ?_ _ | refine blk_drew ?_ | refine blk_alloc ?_ _)); refine blk_put (cs := #[.slice none 0 0]) ?_ 0 _ rfl; (with_reducible repeat (first | refine blk_drewN ?_ _ | refine blk_drew ?_ | refine blk_alloc ?_ _)); exact BK361.out) Try.underlying26 rfl (by kernel_rfl)) rfl ?_
 exact ⟨_, er, by (with_reducible repeat (first | apply Kd.R_alloc | apply Kd.R_drewN | apply Kd.R_drew)); exact Kd.R_mono (Kd.R_far (p := ⟨gb361, 0, none⟩) (Kd.R_types HO367.out BK361.out (by decide)) (fun _ hk => hk.2) (.slice Ao7 t365.length co7)) (fun _ hk => trivial), ei121 HI0, em121 HB, ek HK⟩

end Go.Proofs.Ytocachknmgefaaa.QFnTreeCounts
