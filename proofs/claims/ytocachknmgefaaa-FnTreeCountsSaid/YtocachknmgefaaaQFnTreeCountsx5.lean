/- Functions of the program as plain Lean functions, each with a proof that the machine's call answers what it answers. Conditions: none. -/
import Derived.Test.YtocachknmgefaaaQFnTreeCountsx0
import Derived.Test.YtocachknmgefaaaQFnTreeCountsx1
import Derived.Test.YtocachknmgefaaaQFnTreeCountsx2
import Derived.Test.YtocachknmgefaaaQFnTreeCountsx4
namespace Go.Proofs.Ytocachknmgefaaa.QFnTreeCounts
open Go.RowKit Go.Proofs.YtocachknmgefaaaW.PrintWords Go.Proofs.YtocachknmgefaaaW.PrintLast Go.Proofs.YtocachknmgefaaaW.PrintMore
attribute [local go_sem] max2_int min2_int max_two min_two max_three min_three max_four min_four   -- for this text's walks alone
set_option linter.unusedVariables false
set_option linter.unusedSimpArgs false

/-! ### spec_CountByHeight: function 70 -/
def spec_CountByHeight.f (k : Nat) (a0 : Int) (a1 : Int) : Option (Int × Int) := (spec_l02Numbers.f a0 a1).bind fun t195 => (if t195 = true then ((spec_l02Low.f k a0 a1).bind fun t196 => (if 0 ≤ a0 then (if a0 < (t196.length : Int) then ((spec_l02Low.f k a0 (wrap64 (a1 - 1))).bind fun t200 => (if a0 < (t200.length : Int) then (some (wrap64 ((rd t196 a0) - (rd t200 a0)), 0)) else (none))) else (none)) else (none))) else (some (0, 2)))
theorem spec_CountByHeight.mono : ∀ a0 a1 k, LeO (spec_CountByHeight.f k a0 a1) (spec_CountByHeight.f (k + 1) a0 a1) := by
  intro a0 a1 k
  unfold spec_CountByHeight.f
  repeat' first
      | (with_reducible exact spec_l02Low.mono _ _ _)
      | (with_reducible exact LeO.refl _)
      | (with_reducible exact LeO.none _)
      | (with_reducible refine LeO.ite ?_ ?_)
      | (with_reducible refine LeO.bind ?_ (fun _ => ?_))
      | exact spec_l02Low.mono _ _ _
      | exact LeO.none _
      | refine LeO.ite ?_ ?_
      | refine LeO.bind ?_ (fun _ => ?_)
def spec_CountByHeight.T3 : Bool × List (List Nat × List Nat) := (true, [([], []), ([], []), ([0, 1], [0, 1]), ([], []), ([2, 3], [2, 3]), ([4], [4]), ([], []), ([], []), ([7], [7]), ([6, 8, 2], [6, 8]), ([], []), ([9, 10], [9, 10]), ([11], [11]), ([5, 12], [5, 12]), ([13, 9, 0, 1, 2, 3, 4, 5, 6, 7, 8, 9, 10, 11, 12, 13], [13]), ([14, 0, 1, 2, 3, 4, 5, 6, 7, 8, 9, 10, 11, 12, 13, 14], [])])
def spec_CountByHeight.B3 : List Nat := [0, 0, 3, 0, 15, 31, 0, 0, 128, 455, 0, 1991, 4039, 8191, 16383, 32767]
theorem spec_CountByHeight.tab3 : rtab .any (opsOf Try.f70 3) = spec_CountByHeight.T3 := by kernel_rfl
theorem spec_CountByHeight.bits3 : waitsOk spec_CountByHeight.T3.2 spec_CountByHeight.B3 = true := by kernel_rfl
theorem spec_CountByHeight.Z0 {p : Prop} (h : p := by first | (with_reducible assumption) | assumption) : p := h
set_option maxHeartbeats 8000000 in
set_option maxRecDepth 100000 in
theorem spec_CountByHeight.calls (k : Nat) (a0 : Int) (a1 : Int) (r1 : Int) (r2 : Int) (w : World) (h : spec_CountByHeight.f k a0 a1 = some (r1, r2)) :
  Calls Try.prog 70 #[.int .i64 a0, .int .i64 a1] w fun e w' => e = .returned (.tuple #[.int .i64 r1, .int .i64 r2]) ∧ Below w.heap.size w w' := by
 have HB := A_ (Below.refl w.heap.size w)
 have H : ((spec_l02Numbers.f a0 a1).bind fun t195 => (if t195 = true then ((spec_l02Low.f k a0 a1).bind fun t196 => (if 0 ≤ a0 then (if a0 < (t196.length : Int) then ((spec_l02Low.f k a0 (wrap64 (a1 - 1))).bind fun t200 => (if a0 < (t200.length : Int) then (some (wrap64 ((rd t196 a0) - (rd t200 a0)), 0)) else (none))) else (none)) else (none))) else (some (0, 2)))) = some (r1, r2) := h
 clear h
 replace H := Option.bind_eq_some_iff.mp H
 obtain ⟨t195, A30, H⟩ := H
 replace H : (if t195 = true then ((spec_l02Low.f k a0 a1).bind fun t196 => (if 0 ≤ a0 then (if a0 < (t196.length : Int) then ((spec_l02Low.f k a0 (wrap64 (a1 - 1))).bind fun t200 => (if a0 < (t200.length : Int) then (some (wrap64 ((rd t196 a0) - (rd t200 a0)), 0)) else (none))) else (none)) else (none))) else (some (0, 2))) = some (r1, r2) := H
 have A3 := A_ A30
 clear A30
 by_cases c4 : t195 = true
 ·subst c4
  have H1 : ((spec_l02Low.f k a0 a1).bind fun t196 => (if 0 ≤ a0 then (if a0 < (t196.length : Int) then ((spec_l02Low.f k a0 (wrap64 (a1 - 1))).bind fun t200 => (if a0 < (t200.length : Int) then (some (wrap64 ((rd t196 a0) - (rd t200 a0)), 0)) else (none))) else (none)) else (none))) = some (r1, r2) := by rw [if_pos rfl] at H; exact H
  clear H
  have H := H1
  clear H1
  replace H := Option.bind_eq_some_iff.mp H
  obtain ⟨t196, A50, H⟩ := H
  replace H : (if 0 ≤ a0 then (if a0 < (t196.length : Int) then ((spec_l02Low.f k a0 (wrap64 (a1 - 1))).bind fun t200 => (if a0 < (t200.length : Int) then (some (wrap64 ((rd t196 a0) - (rd t200 a0)), 0)) else (none))) else (none)) else (none)) = some (r1, r2) := H
  have A5 := A_ A50
  clear A50
  by_cases c6 : 0 ≤ a0
  rotate_left
  ·rw [if_neg c6] at H
   exact absurd H (by simp)
  rw [if_pos c6] at H
  have c6b0 : decide (0 ≤ a0) = true := decide_eq_true c6
  clear c6
  by_cases c7 : a0 < (t196.length : Int)
  rotate_left
  ·rw [if_neg c7] at H
   exact absurd H (by simp)
  rw [if_pos c7] at H
  have c7b0 : decide (a0 < (t196.length : Int)) = true := decide_eq_true c7
  clear c7
  replace H := Option.bind_eq_some_iff.mp H
  obtain ⟨t200, A80, H⟩ := H
  replace H : (if a0 < (t200.length : Int) then (some (wrap64 ((rd t196 a0) - (rd t200 a0)), 0)) else (none)) = some (r1, r2) := H
  have A8 := A_ A80
  clear A80
  by_cases c9 : a0 < (t200.length : Int)
  rotate_left
  ·rw [if_neg c9] at H
   exact absurd H (by simp)
  rw [if_pos c9] at H
  have c9b0 : decide (a0 < (t200.length : Int)) = true := decide_eq_true c9
  clear c9
  simp only [Option.some.injEq, Prod.mk.injEq] at H
  obtain ⟨rfl, rfl⟩ := H
  go_enter Try.func70, Try.ntmps70
  try go_wp2_with (first | ((with_reducible refine gate_callee (f := 152) rfl ?_); refine goesL_ (some 8) rfl rfl Try.func152 (by kernel_rfl) rfl #[.int .i64 a0, .int .i64 a1] rfl eg ?_; (with_reducible refine (spec_l02Numbers.calls a0 a1 true _ A3.out).mono ?_); rintro e w' ⟨rfl, ⟨nd, rfl⟩⟩; refine ⟨_, rfl, ?_⟩))
  have n0_ := A_ (below_drew1 (pw_below_drewN HB.out nd))
  clear HB
  have HB := n0_
  clear n0_
  refine start_ (n := 16) (S := fun w' => True) (ds := []) #[false, false, false, false, false, false, false, false, false, false, false, false, false, false, false, false] (by kernel_rfl) rfl rfl trivial (fun hHeld => ?_); refine with_tabW spec_CountByHeight.tab3 spec_CountByHeight.bits3 (fun HT_ HW_ => ?_)
  generalize (w.drewN nd).drew = w10 at HB hHeld ⊢
  refine pure_ (i := 0) (N := some 10) (v := ?_) (a' := ?_) #[true, false, false, false, false, false, false, false, false, false, false, false, false, false, false, false] rfl rfl (any_of HT_.out (by kernel_rfl)) (fun _ _ _ h => h) (Or.inl ⟨by rfl, ?_⟩) ?_ ?_
  rotate_left
  ·intro w'
   go_simp
   with_reducible rfl
  rotate_left
  ·simp only [Act.put, List.setIfInBounds_toArray, List.set_cons_zero, List.set_cons_succ, i64_w, i32_w]
   rfl
  refine pure_ (i := 1) (N := some 11) (v := ?_) (a' := ?_) #[true, true, false, false, false, false, false, false, false, false, false, false, false, false, false, false] rfl rfl (any_of HT_.out (by kernel_rfl)) (fun _ _ _ h => h) (Or.inl ⟨by rfl, ?_⟩) ?_ ?_
  rotate_left
  ·intro w'
   go_simp
   with_reducible rfl
  rotate_left
  ·simp only [Act.put, List.setIfInBounds_toArray, List.set_cons_zero, List.set_cons_succ, i64_w, i32_w]
   rfl
  refine pure_ (i := 3) (N := some 13) (v := ?_) (a' := ?_) #[true, true, false, true, false, false, false, false, false, false, false, false, false, false, false, false] rfl rfl (any_of HT_.out (by kernel_rfl)) (fun _ _ _ h => h) (Or.inl ⟨by rfl, ?_⟩) ?_ ?_
  rotate_left
  ·intro w'
   go_simp
   with_reducible rfl
  rotate_left
  ·simp only [Act.put, List.setIfInBounds_toArray, List.set_cons_zero, List.set_cons_succ, i64_w, i32_w]
   rfl
  refine pure_ (i := 6) (N := some 16) (v := ?_) (a' := ?_) #[true, true, false, true, false, false, true, false, false, false, false, false, false, false, false, false] rfl rfl (any_of HT_.out (by kernel_rfl)) (fun _ _ _ h => h) (Or.inl ⟨by rfl, ?_⟩) ?_ ?_
  rotate_left
  ·intro w'
   go_simp
   with_reducible rfl
  rotate_left
  ·simp only [Act.put, List.setIfInBounds_toArray, List.set_cons_zero, List.set_cons_succ, i64_w, i32_w]
   rfl
  refine pure_ (i := 7) (N := some 17) (v := ?_) (a' := ?_) #[true, true, false, true, false, false, true, true, false, false, false, false, false, false, false, false] rfl rfl (any_of HT_.out (by kernel_rfl)) (fun _ _ _ h => h) (Or.inl ⟨by rfl, ?_⟩) ?_ ?_
  rotate_left
  ·intro w'
   go_simp
   with_reducible rfl
  rotate_left
  ·simp only [Act.put, List.setIfInBounds_toArray, List.set_cons_zero, List.set_cons_succ, i64_w, i32_w]
   rfl
  refine pure_ (i := 8) (N := some 18) (v := ?_) (a' := ?_) #[true, true, false, true, false, false, true, true, true, false, false, false, false, false, false, false] rfl rfl (any_of HT_.out (by kernel_rfl)) (fun _ _ _ h => h) (Or.inl ⟨by rfl, ?_⟩) ?_ ?_
  rotate_left
  ·intro w'
   go_simp
   with_reducible rfl
  rotate_left
  ·simp only [Act.put, List.setIfInBounds_toArray, List.set_cons_zero, List.set_cons_succ, i64_w, i32_w]
   rfl
  refine pure_ (i := 10) (N := some 20) (v := ?_) (a' := ?_) #[true, true, false, true, false, false, true, true, true, false, true, false, false, false, false, false] rfl rfl (any_of HT_.out (by kernel_rfl)) (fun _ _ _ h => h) (Or.inl ⟨by rfl, ?_⟩) ?_ ?_
  rotate_left
  ·intro w'
   go_simp
   with_reducible rfl
  rotate_left
  ·simp only [Act.put, List.setIfInBounds_toArray, List.set_cons_zero, List.set_cons_succ, i64_w, i32_w]
   rfl
  refine one_ (i := 2) (N := some 12) #[true, true, true, true, false, false, true, true, true, false, true, false, false, false, false, false] rfl rfl (one_of HT_.out (by kernel_rfl)) (by decide) (fun K hK => ?_)
  refine goes_ Try.func155 (by kernel_rfl) rfl #[.int .i64 a0, .int .i64 a1] (by rfl) rfl rfl eg ?_
  with_reducible refine (spec_l02Low.calls k a0 a1 t196 _ A5.out).mono ?_
  rintro e w11 ⟨v197, rfl, ho0, hb⟩
  refine ⟨_, rfl, ?_⟩
  have n0_ := A_ (Kd.R_lower ho0 (below_size (el HB)))
  have n1_ := A_ (below_step (el HB) hb)
  clear HB
  have HO198 := n0_
  have HB := n1_
  clear n0_ n1_
  (try clear hb)
  (try clear hb2)
  (try clear hk)
  (try clear hi)
  (try clear ho0)
  obtain ⟨Ao12, co12, eo12⟩ := Kd.R_slice HO198.out
  (first | subst eo12 | (injection eo12 with f1_ f2_ f3_; have f4_ := f1_.symm; have f5_ := f3_.symm; clear f1_ f2_ f3_; subst f4_; subst f5_))
  have p199 : 0 ≤ (a0 : Int) := of_decide_eq_true spec_CountByHeight.Z0
  have q199 : a0 < (t196.length : Int) := of_decide_eq_true spec_CountByHeight.Z0
  obtain ⟨ad199, e199, hx199_0⟩ := Kd.at_int (Kd.R_reads' HO198.out).2.2 a0 p199 q199
  cases e199
  replace p199 := eq_true p199
  replace q199 := eq_true q199
  refine hK.out _ _ trivial (fun hHeld => ?_)
  refine more_ (fun w' => w'.cell? (ad199.add (a0).toNat) = some (.int .i64 (rd t196 a0))) hx199_0 (fun _ h_ => trivial) (fun hHeld => ?_)
  clear hK K
  refine norm_ (a' := ?_) ?_ ?_
  rotate_left
  ·show Act.put _ (some 12) _ = _
   simp only [Act.put, List.setIfInBounds_toArray, List.set_cons_zero, List.set_cons_succ, i64_w, i32_w]
   rfl
  refine pure_ (i := 4) (N := some 14) (v := ?_) (a' := ?_) #[true, true, true, true, true, false, true, true, true, false, true, false, false, false, false, false] rfl rfl (any_of HT_.out (by kernel_rfl)) (fun _ _ _ h => h) (Or.inl ⟨by rfl, ?_⟩) ?_ ?_
  rotate_left
  ·intro w'
   go_simp
   with_reducible rfl
  rotate_left
  ·simp only [Act.put, List.setIfInBounds_toArray, List.set_cons_zero, List.set_cons_succ, i64_w, i32_w]
   rfl
  refine take_ (i := 5) (N := some 15) (v := ?_) (a' := ?_) #[true, true, true, true, true, true, true, true, true, false, true, false, false, false, false, false] rfl rfl (take_ofW HT_.out HW_.out (by kernel_rfl)) (fun _ _ _ h => h) (Or.inl ⟨by rfl, ?_⟩) hHeld ?_ ?_
  rotate_left
  ·rintro w' s0
   go_simp
   with_reducible rfl
  rotate_left
  ·simp only [Act.put, List.setIfInBounds_toArray, List.set_cons_zero, List.set_cons_succ, i64_w, i32_w]
   rfl
  refine one_ (i := 9) (N := some 19) #[true, true, true, true, true, true, true, true, true, true, true, false, false, false, false, false] rfl rfl (one_of HT_.out (by kernel_rfl)) (by decide) (fun K hK => ?_)
  refine goes_ Try.func155 (by kernel_rfl) rfl #[.int .i64 a0, .int .i64 (wrap64 (a1 - 1))] (by rfl) rfl rfl eg ?_
  with_reducible refine (spec_l02Low.calls k a0 (wrap64 (a1 - 1)) t200 _ A8.out).mono ?_
  rintro e w13 ⟨v201, rfl, ho0, hb⟩
  have HS0_ := (hb.cell (World.block_lt_of_cell? _ _ (hHeld))).trans (hHeld)
  refine ⟨_, rfl, ?_⟩
  have n0_ := A_ (Kd.R_elder' (ea HO198) (Kd.R_base ho0) hb)
  have n1_ := A_ (Kd.R_lower (Kd.R_new' ho0 (Kd.R_lt (ea HO198))) (below_size (el HB)))
  have n2_ := A_ (below_step (el HB) hb)
  clear HO198
  clear HB
  have HO198 := n0_
  have HO202 := n1_
  have HB := n2_
  clear n0_ n1_ n2_
  (try clear hb)
  (try clear hb2)
  (try clear hk)
  (try clear hi)
  (try clear ho0)
  obtain ⟨Ao14, co14, eo14⟩ := Kd.R_slice HO202.out
  (first | subst eo14 | (injection eo14 with f1_ f2_ f3_; have f4_ := f1_.symm; have f5_ := f3_.symm; clear f1_ f2_ f3_; subst f4_; subst f5_))
  have p203 : 0 ≤ (a0 : Int) := of_decide_eq_true spec_CountByHeight.Z0
  have q203 : a0 < (t200.length : Int) := of_decide_eq_true spec_CountByHeight.Z0
  obtain ⟨ad203, e203, hx203_0⟩ := Kd.at_int (Kd.R_reads' HO202.out).2.2 a0 p203 q203
  cases e203
  replace p203 := eq_true p203
  replace q203 := eq_true q203
  refine hK.out _ _ HS0_ (fun hHeld => ?_)
  refine more_ (fun w' => w'.cell? (ad199.add (a0).toNat) = some (.int .i64 (rd t196 a0)) ∧ w'.cell? (ad203.add (a0).toNat) = some (.int .i64 (rd t200 a0))) ⟨HS0_, hx203_0⟩ (fun _ h_ => h_.1) (fun hHeld => ?_)
  clear hK K
  refine norm_ (a' := ?_) ?_ ?_
  rotate_left
  ·show Act.put _ (some 19) _ = _
   simp only [Act.put, List.setIfInBounds_toArray, List.set_cons_zero, List.set_cons_succ, i64_w, i32_w]
   rfl
  refine pure_ (i := 11) (N := some 21) (v := ?_) (a' := ?_) #[true, true, true, true, true, true, true, true, true, true, true, true, false, false, false, false] rfl rfl (any_of HT_.out (by kernel_rfl)) (fun _ _ _ h => h) (Or.inl ⟨by rfl, ?_⟩) ?_ ?_
  rotate_left
  ·intro w'
   go_simp
   with_reducible rfl
  rotate_left
  ·simp only [Act.put, List.setIfInBounds_toArray, List.set_cons_zero, List.set_cons_succ, i64_w, i32_w]
   rfl
  refine take_ (i := 12) (N := some 22) (v := ?_) (a' := ?_) #[true, true, true, true, true, true, true, true, true, true, true, true, true, false, false, false] rfl rfl (take_ofW HT_.out HW_.out (by kernel_rfl)) (fun _ _ _ h => h) (Or.inl ⟨by rfl, ?_⟩) hHeld ?_ ?_
  rotate_left
  ·rintro w' ⟨s0, s1⟩
   go_simp
   with_reducible rfl
  rotate_left
  ·simp only [Act.put, List.setIfInBounds_toArray, List.set_cons_zero, List.set_cons_succ, i64_w, i32_w]
   rfl
  refine pure_ (i := 13) (N := some 23) (v := ?_) (a' := ?_) #[true, true, true, true, true, true, true, true, true, true, true, true, true, true, false, false] rfl rfl (any_of HT_.out (by kernel_rfl)) (fun _ _ _ h => h) (Or.inl ⟨by rfl, ?_⟩) ?_ ?_
  rotate_left
  ·intro w'
   go_simp
   with_reducible rfl
  rotate_left
  ·simp only [Act.put, List.setIfInBounds_toArray, List.set_cons_zero, List.set_cons_succ, i64_w, i32_w]
   rfl
  refine pure_ (i := 14) (N := some 4) (v := ?_) (a' := ?_) #[true, true, true, true, true, true, true, true, true, true, true, true, true, true, true, false] rfl rfl (any_of HT_.out (by kernel_rfl)) (fun _ _ _ h => h) (Or.inl ⟨by rfl, ?_⟩) ?_ ?_
  rotate_left
  ·intro w'
   go_simp
   with_reducible rfl
  rotate_left
  ·simp only [Act.put, List.setIfInBounds_toArray, List.set_cons_zero, List.set_cons_succ, i64_w, i32_w]
   rfl
  refine pure_ (i := 15) (N := some 5) (v := ?_) (a' := ?_) #[true, true, true, true, true, true, true, true, true, true, true, true, true, true, true, true] rfl rfl (any_of HT_.out (by kernel_rfl)) (fun _ _ _ h => h) (Or.inl ⟨by rfl, ?_⟩) ?_ ?_
  rotate_left
  ·intro w'
   go_simp
   with_reducible rfl
  rotate_left
  ·simp only [Act.put, List.setIfInBounds_toArray, List.set_cons_zero, List.set_cons_succ, i64_w, i32_w]
   rfl
  refine done_ (done_of HT_.out (by kernel_rfl)) ?_
  try go_wp2
  go_ret2
  exact ⟨er, el HB⟩
 ·replace c4 := Bool.eq_false_iff.mpr c4
  subst c4
  have H1 : (some (0, 2)) = some (r1, r2) := by rw [if_neg (show ¬ (false = true) by decide)] at H; exact H
  clear H
  have H := H1
  clear H1
  simp only [Option.some.injEq, Prod.mk.injEq] at H
  obtain ⟨rfl, rfl⟩ := H
  go_enter Try.func70, Try.ntmps70
  go_wp2_with (first | ((with_reducible refine gate_callee (f := 152) rfl ?_); refine goesL_ (some 8) rfl rfl Try.func152 (by kernel_rfl) rfl #[.int .i64 a0, .int .i64 a1] rfl eg ?_; (with_reducible refine (spec_l02Numbers.calls a0 a1 false _ A3.out).mono ?_); rintro e w' ⟨rfl, ⟨nd, rfl⟩⟩; refine ⟨_, rfl, ?_⟩))
  go_ret2
  exact ⟨er, el HB⟩

-- NOT PRINTED: function 156 (impl_countForests)

/-! ### impl_CountByRoot: function 71 -/
/-- so many entries of the row before, from a place on -/
def psum (r : List Int) (k : Nat) : Nat → Int
  | 0 => 0
  | d + 1 => wrap64 (psum r k d + rd r ((k + d : Nat) : Int))
def rowN : Nat → List Int
  | 0 => (List.range 32).map fun k => if k = 0 then 1 else 0
  | n + 1 => (List.range 32).map fun k => if k = 0 then 0 else psum (rowN n) (k - 1) (n + 2 - k)
def tab (n k : Nat) : Int := rd (rowN n) (k : Int)
theorem rd_map (f : Nat → Int) {k : Nat} (h : k < 32) : rd ((List.range 32).map f) (k : Int) = f k := by
  unfold rd
  rw [Int.toNat_natCast, List.getD_eq_getElem?_getD, List.getElem?_map, List.getElem?_range h]
  rfl
theorem tab_zero (k : Nat) (h : k < 32) : tab 0 k = if k = 0 then 1 else 0 := rd_map _ h
theorem tab_first (n : Nat) : tab (n + 1) 0 = 0 := rd_map _ (by omega)
theorem tab_at (n k : Nat) (h : k < 32) (h0 : k ≠ 0) : tab (n + 1) k = psum (rowN n) (k - 1) (n + 2 - k) := by
  have := rd_map (fun k => if k = 0 then 0 else psum (rowN n) (k - 1) (n + 2 - k)) h
  simp only [if_neg h0] at this
  exact this
/-- what stands in the table: rows below n are whole, row n up to k, and of place k so many parts are added -/
def ent (n k d a b : Nat) : Int := if a < n then tab a b else if a = n then (if b < k then tab n b else if b = k then psum (rowN (n - 1)) (k - 1) d else 0) else 0
def Sta (C : List Value) (n k d : Nat) : Prop := C.length = 992 ∧ ∀ a b : Nat, a < 31 → b < 32 → C[a * 32 + b]? = some (.int .i64 (ent n k d a b))
theorem sta_start (C : List Value) (h : C = (List.replicate 992 (Value.int .i64 0)).set 0 (.int .i64 1)) : Sta C 1 1 0 := by
  subst h
  refine ⟨by rw [List.length_set, List.length_replicate], fun a b ha hb => ?_⟩
  have e : (((List.replicate 992 (Value.int .i64 0)).set 0 (.int .i64 1))[a * 32 + b]?) = some (if a * 32 + b = 0 then Value.int .i64 1 else Value.int .i64 0) := by
    rw [List.getElem?_set, List.length_replicate]
    by_cases c : 0 = a * 32 + b
    · rw [if_pos c, if_pos (by omega), if_pos c.symm]
    · rw [if_neg c, if_neg (fun e => c e.symm), List.getElem?_replicate, if_pos (by omega)]
  rw [e]
  unfold ent
  by_cases c : a < 1
  · obtain rfl : a = 0 := by omega
    rw [if_pos c, tab_zero b hb]
    by_cases c2 : b = 0
    · subst c2; rfl
    · rw [if_neg (by omega), if_neg c2]
  · rw [if_neg c, if_neg (by omega)]
    by_cases c2 : a = 1
    · rw [if_pos c2]
      by_cases c3 : b < 1
      · obtain rfl : b = 0 := by omega
        rw [if_pos c3, tab_first]
      · rw [if_neg c3]
        split <;> rfl
    · rw [if_neg c2]
theorem sta_k {C : List Value} {n k : Nat} (h1 : 1 ≤ n) (hk : 1 ≤ k) (hkn : k ≤ n) (hn : n ≤ 30) (h : Sta C n k (n + 1 - k)) : Sta C n (k + 1) 0 := by
  refine ⟨h.1, fun a b ha hb => ?_⟩
  rw [h.2 a b ha hb]
  unfold ent
  by_cases c : a < n
  · rw [if_pos c, if_pos c]
  · rw [if_neg c, if_neg c]
    by_cases c2 : a = n
    · rw [if_pos c2, if_pos c2]
      by_cases c3 : b < k
      · rw [if_pos c3, if_pos (by omega)]
      · rw [if_neg c3]
        by_cases c4 : b = k
        · obtain ⟨m, rfl⟩ : ∃ m, n = m + 1 := ⟨n - 1, by omega⟩
          rw [if_pos c4, if_pos (by omega), tab_at m b hb (by omega), c4]
          rfl
        · rw [if_neg c4, if_neg (by omega)]
          split <;> rfl
    · rw [if_neg c2, if_neg c2]
theorem sta_n {C : List Value} {n : Nat} (h1 : 1 ≤ n) (hn : n ≤ 30) (h : Sta C n (n + 1) 0) : Sta C (n + 1) 1 0 := by
  refine ⟨h.1, fun a b ha hb => ?_⟩
  rw [h.2 a b ha hb]
  unfold ent
  by_cases c : a < n
  · rw [if_pos c, if_pos (by omega)]
  · rw [if_neg c]
    by_cases c2 : a = n
    · rw [if_pos c2, if_pos (show a < n + 1 by omega), c2]
      by_cases c3 : b < n + 1
      · rw [if_pos c3]
      · obtain ⟨m, rfl⟩ : ∃ m, n = m + 1 := ⟨n - 1, by omega⟩
        rw [if_neg c3, tab_at m b hb (by omega), show m + 2 - b = 0 by omega]
        split <;> rfl
    · rw [if_neg c2, if_neg (by omega)]
      by_cases c5 : a = n + 1
      · rw [if_pos c5]
        by_cases c6 : b < 1
        · obtain rfl : b = 0 := by omega
          rw [if_pos c6, tab_first]
        · rw [if_neg c6]
          split <;> rfl
      · rw [if_neg c5]
theorem sta_d {C : List Value} {n k d : Nat} (h1 : 1 ≤ n) (hk : 1 ≤ k) (hn : n ≤ 30) (hd : k + d ≤ n) (h : Sta C n k d) :
    Sta (C.set (n * 32 + k) (.int .i64 (wrap64 (ent n k d n k + ent n k d (n - 1) (k - 1 + d))))) n k (d + 1) := by
  refine ⟨by rw [List.length_set]; exact h.1, fun a b ha hb => ?_⟩
  rw [List.getElem?_set, h.1, h.2 a b ha hb]
  by_cases c : n * 32 + k = a * 32 + b
  · obtain ⟨rfl, rfl⟩ : n = a ∧ k = b := by omega
    rw [if_pos rfl, if_pos (by omega)]
    have e1 : ent n k d n k = psum (rowN (n - 1)) (k - 1) d := by
      unfold ent
      rw [if_neg (by omega), if_pos rfl, if_neg (by omega), if_pos rfl]
    have e2 : ent n k d (n - 1) (k - 1 + d) = tab (n - 1) (k - 1 + d) := by
      unfold ent
      rw [if_pos (by omega)]
    have e3 : ent n k (d + 1) n k = psum (rowN (n - 1)) (k - 1) (d + 1) := by
      unfold ent
      rw [if_neg (by omega), if_pos rfl, if_neg (by omega), if_pos rfl]
    rw [e1, e2, e3]
    rfl
  · rw [if_neg c]
    congr 2
    unfold ent
    by_cases c2 : a < n
    · rw [if_pos c2, if_pos c2]
    · rw [if_neg c2, if_neg c2]
      by_cases c3 : a = n
      · rw [if_pos c3, if_pos c3]
        by_cases c4 : b < k
        · rw [if_pos c4, if_pos c4]
        · rw [if_neg c4, if_neg c4, if_neg (by omega), if_neg (by omega)]
      · rw [if_neg c3, if_neg c3]
theorem zero_row : Try.zeroCells131.setIfInBounds 0 (Value.int .i64 1) = ((List.replicate 992 (Value.int .i64 0)).set 0 (.int .i64 1)).toArray := by kernel_rfl
set_option maxHeartbeats 8000000 in
set_option maxRecDepth 100000 in
theorem impl_countForests.calls (w : World) : Calls Try.prog 156 #[] w fun e w' => ∃ g : Nat, e = .returned (.pointer (some ⟨g, 0, none⟩)) ∧ w.heap.size ≤ g ∧ (∃ C : List Value, w'.heap[g]? = some (.cells C.toArray 131 (0, 0)) ∧ Sta C 31 1 0) ∧ Below w.heap.size w w' := by
  go_enter Try.func156, Try.ntmps156
  go_wp2
  rw [zero_row]
  obtain ⟨C0, hC0⟩ : ∃ C0, C0 = (List.replicate 992 (Value.int .i64 0)).set 0 (.int .i64 1) := ⟨_, rfl⟩
  rw [← hC0]
  obtain ⟨w1, hw1⟩ : ∃ w1, w1 = w.alloc (Obj.cells C0.toArray 131) := ⟨_, rfl⟩
  rw [← hw1]
  obtain ⟨g, hg⟩ : ∃ g, g = w.heap.size := ⟨_, rfl⟩
  rw [← hg]
  have HG : Hid (w1.heap[g]? = some (.cells C0.toArray 131 (0, 0))) := by
    rw [hw1, hg]
    exact blk_new w _
  have HB : Hid (Below g w w1) := by
    rw [hw1, hg]
    exact below_alloc (Below.refl _ _) _
  have HS : Hid (Sta C0 1 1 0) := sta_start C0 hC0
  have HGB := A_ hg
  clear hC0 hw1 hg
  go_loopw [2] (fun v2 wq => ∃ (n : Nat) (C : List Value), v2 = .int .i64 (n : Int) ∧ 1 ≤ n ∧ n ≤ 31 ∧ Hid (wq.heap[g]? = some (.cells C.toArray 131 (0, 0))) ∧ Hid (Sta C n 1 0) ∧ Hid (Below g w wq)) (fun v2 _ => 31 - (intOf v2).toNat)
  case atStart => exact ⟨1, C0, rfl, by omega, by omega, HG, HS, HB⟩
  case round =>
    clear HG HS HB
    obtain ⟨n, C, rfl, hn1, hn31, HG, HS, HB⟩ := hrel
    by_cases hlt : n ≤ 30
    · have hdn : decide ((n : Int) ≤ 30) = true := decide_eq_true (by omega)
      go_wp2
      go_loopw [3] (fun v3 wq => ∃ (k : Nat) (C : List Value), v3 = .int .i64 (k : Int) ∧ 1 ≤ k ∧ k ≤ n + 1 ∧ Hid (wq.heap[g]? = some (.cells C.toArray 131 (0, 0))) ∧ Hid (Sta C n k 0) ∧ Hid (Below g w wq)) (fun v3 _ => n + 1 - (intOf v3).toNat)
      case atStart => exact ⟨1, C, rfl, by omega, by omega, HG, HS, HB⟩
      case round =>
        clear HG HS HB
        obtain ⟨k, C, rfl, hk1, hkn, HG, HS, HB⟩ := hrel
        by_cases hle : k ≤ n
        · have hdk : decide ((k : Int) ≤ (n : Int)) = true := decide_eq_true (by omega)
          go_wp2
          go_loopw [4] (fun v4 wq => ∃ (d : Nat) (C : List Value), v4 = .int .i64 (d : Int) ∧ k + d ≤ n + 1 ∧ Hid (wq.heap[g]? = some (.cells C.toArray 131 (0, 0))) ∧ Hid (Sta C n k d) ∧ Hid (Below g w wq)) (fun v4 _ => n + 1 - k - (intOf v4).toNat)
          case atStart => exact ⟨0, C, rfl, by omega, HG, HS, HB⟩
          case round =>
            clear HG HS HB
            obtain ⟨d, C, rfl, hd, HG, HS, HB⟩ := hrel
            by_cases hc : k + d ≤ n
            · have hdd : decide ((k : Int) - 1 + (d : Int) ≤ (n : Int) - 1) = true := decide_eq_true (by omega)
              have hcc1 := blk_cell HG.out (n * 32 + k)
              have hcc2 := blk_cell HG.out ((n - 1) * 32 + (k - 1 + d))
              rw [List.getElem?_toArray, HS.out.2 n k (by omega) (by omega)] at hcc1
              rw [List.getElem?_toArray, HS.out.2 (n - 1) (k - 1 + d) (by omega) (by omega)] at hcc2
              have hff := blk_frozen HG.out (n * 32 + k)
              have HC1 := A_ hcc1
              have HC2 := A_ hcc2
              have HF := A_ hff
              clear hcc1 hcc2 hff
              go_wp2
              have hcc1 : wr.drew.cell? ⟨g, n * 32 + k, none⟩ = some (.int .i64 (ent n k d n k)) := HC1.out
              have hcc2 : wr.drew.cell? ⟨g, (n - 1) * 32 + (k - 1 + d), none⟩ = some (.int .i64 (ent n k d (n - 1) (k - 1 + d))) := HC2.out
              have hff : wr.drew.frozen? ⟨g, n * 32 + k, none⟩ = false := HF.out
              have hset := sta_d hn1 hk1 hlt hc HS.out
              have HSET := A_ hset
              clear hset
              obtain ⟨E1, hE1⟩ : ∃ E1, E1 = ent n k d n k := ⟨_, rfl⟩
              obtain ⟨E2, hE2⟩ : ∃ E2, E2 = ent n k d (n - 1) (k - 1 + d) := ⟨_, rfl⟩
              rw [← hE1] at hcc1
              rw [← hE2] at hcc2
              rw [← hE1, ← hE2] at HSET
              clear hE1 hE2
              go_region
              all_goals
                go_wp2
                refine ⟨⟨d + 1, C.set (n * 32 + k) (.int .i64 (wrap64 (E1 + E2))), by go_num, by omega, ?_, HSET.out, ?_⟩, by simp [intOf]; omega⟩
                · have := heap_setCell_same wr g (n * 32 + k) C.toArray 131 (.int .i64 (wrap64 (E1 + E2))) HG.out
                  rw [List.setIfInBounds_toArray] at this
                  exact this
                · exact below_drew1 (HB.out.setCell (Nat.le_refl _) _)
            · have hdd : decide ((k : Int) - 1 + (d : Int) ≤ (n : Int) - 1) = false := decide_eq_false (by omega)
              go_wp2
              obtain rfl : d = n + 1 - k := by omega
              exact ⟨⟨k + 1, C, by go_num, by omega, by omega, HG, sta_k hn1 hk1 hle hlt HS.out, HB⟩, by simp [intOf]; omega⟩
        · obtain rfl : k = n + 1 := by omega
          have hdk : decide (((n + 1 : Nat) : Int) ≤ (n : Int)) = false := decide_eq_false (by omega)
          go_wp2
          exact ⟨⟨n + 1, C, by go_num, by omega, by omega, HG, sta_n hn1 hlt HS.out, HB⟩, by simp [intOf]; omega⟩
    · obtain rfl : n = 31 := by omega
      have hdn : decide (((31 : Nat) : Int) ≤ 30) = false := rfl
      go_wp2
      go_ret
      exact ⟨g, rfl, by rw [HGB.out]; exact Nat.le_refl _, ⟨C, HG, HS⟩, by rw [← HGB.out]; exact HB⟩

theorem forests_cell {w : World} {g : Nat} {C : List Value} (h : w.heap[g]? = some (.cells C.toArray 131 (0, 0))) (hS : Sta C 31 1 0) (a b : Nat) (ha : a < 31) (hb : b < 32) :
    w.cell? ⟨g, a * 32 + b, none⟩ = some (.int .i64 (tab a b)) := by
  rw [blk_cell h (a * 32 + b), List.getElem?_toArray, hS.2 a b ha hb]
  unfold ent
  rw [if_pos ha]

def impl_CountByRoot.f (a0 : Int) (a1 : Int) : Option (Int × Int) := (impl_isCounted.f a0).bind fun t => if t = false ∨ a1 < 0 ∨ a0 < a1 then some (0, 2) else (if 1 ≤ a0 ∧ a0 ≤ 30 then some (tab (a0 - 1).toNat a1.toNat, 0) else none)
set_option maxHeartbeats 8000000 in
set_option maxRecDepth 100000 in
theorem impl_CountByRoot.calls (a0 : Int) (a1 : Int) (r1 : Int) (r2 : Int) (w : World) (h : impl_CountByRoot.f a0 a1 = some (r1, r2)) :
  Calls Try.prog 71 #[.int .i64 a0, .int .i64 a1] w fun e w' => e = .returned (.tuple #[.int .i64 r1, .int .i64 r2]) ∧ Below w.heap.size w w' := by
 unfold impl_CountByRoot.f at h
 obtain ⟨t, ht, h⟩ := Option.bind_eq_some_iff.mp h
 have HT := A_ ht
 clear ht
 have hW : ∀ nd, Below w.heap.size w (w.drewN nd) := fun nd => (Below.refl w.heap.size w).trans (show Below w.heap.size w (w.drewN nd) from ⟨rfl, rfl, rfl, Nat.le_refl _, fun _ _ => rfl⟩)
 by_cases c0 : t = false
 ·subst c0
  rw [if_pos (.inl rfl)] at h
  obtain ⟨rfl, rfl⟩ : 0 = r1 ∧ 2 = r2 := by simpa using h
  clear h
  go_enter Try.func71, Try.ntmps71
  go_wp2_with (first | (go_at_call 150; (with_reducible refine (impl_isCounted.calls a0 false _ HT.out).mono ?_); rintro e w' ⟨rfl, ⟨nd, rfl⟩⟩))
  go_ret2
  exact ⟨rfl, hW _⟩
 ·obtain rfl : t = true := by simpa using c0
  clear c0
  by_cases c1 : a1 < 0
  ·rw [if_pos (.inr (.inl c1))] at h
   obtain ⟨rfl, rfl⟩ : 0 = r1 ∧ 2 = r2 := by simpa using h
   clear h
   have d1 : decide (a1 < 0) = true := decide_eq_true c1
   clear c1
   go_enter Try.func71, Try.ntmps71
   go_wp2_with (first | (go_at_call 150; (with_reducible refine (impl_isCounted.calls a0 true _ HT.out).mono ?_); rintro e w' ⟨rfl, ⟨nd, rfl⟩⟩))
   go_ret2
   exact ⟨rfl, hW _⟩
  ·have d1 : decide (a1 < 0) = false := decide_eq_false c1
   by_cases c2 : a0 < a1
   ·rw [if_pos (.inr (.inr c2))] at h
    obtain ⟨rfl, rfl⟩ : 0 = r1 ∧ 2 = r2 := by simpa using h
    clear h
    have d2 : decide (a0 < a1) = true := decide_eq_true c2
    clear c1 c2
    go_enter Try.func71, Try.ntmps71
    go_wp2_with (first | (go_at_call 150; (with_reducible refine (impl_isCounted.calls a0 true _ HT.out).mono ?_); rintro e w' ⟨rfl, ⟨nd, rfl⟩⟩))
    go_ret2
    exact ⟨rfl, hW _⟩
   ·have d2 : decide (a0 < a1) = false := decide_eq_false c2
    rw [if_neg (by simp; omega)] at h
    by_cases c3 : 1 ≤ a0 ∧ a0 ≤ 30
    ·rw [if_pos c3] at h
     obtain ⟨rfl, rfl⟩ : tab (a0 - 1).toNat a1.toNat = r1 ∧ 0 = r2 := by simpa using h
     obtain ⟨h1, h2⟩ := c3
     have h3 : 0 ≤ a1 := by omega
     have h4 : a1 ≤ a0 := by omega
     have e1 : (a0 - 1).toNat = a0.toNat - 1 := by omega
     rw [e1]
     have hn : a0.toNat - 1 < 31 := by omega
     clear e1 h
     have hk : a1.toNat < 32 := by omega
     clear c1 c2
     go_enter Try.func71, Try.ntmps71
     go_wp2_with (first | (go_at_call 150; (with_reducible refine (impl_isCounted.calls _ true _ HT.out).mono ?_); rintro e w' ⟨rfl, ⟨nd, rfl⟩⟩) | (go_at_call 156; (with_reducible refine (impl_countForests.calls _).mono ?_); rintro e w1 ⟨g, rfl, hg, ⟨C, hC, hS⟩, hB⟩; have hcell := forests_cell hC hS (a0.toNat - 1) a1.toNat hn hk; have HB := A_ hB; clear hg hC hS hB))
     go_ret2
     exact ⟨by simp, (hW _).trans HB.out⟩
    ·rw [if_neg c3] at h
     cases h


/-! ### spec_l02Catalan: function 157 -/
mutual
def spec_l02Catalan.l0 : Nat → Int → List Int → Int → Option (List Int)
  | 0, _, _, _ => none
  | k + 1, x0, x3, x4 => if x4 ≤ x0 then (spec_l02Catalan.l1 k x0 x3 x4 0 1) else (some x3)
def spec_l02Catalan.l1 : Nat → Int → List Int → Int → Int → Int → Option (List Int)
  | 0, _, _, _, _, _ => none
  | k + 1, x0, x3, x4, x5, x6 => if x6 < x4 then (if 0 ≤ x6 then (if x6 < (x3.length : Int) then (if 0 ≤ (wrap64 (x4 - x6)) then (if (wrap64 (x4 - x6)) < (x3.length : Int) then (spec_l02Catalan.l1 k x0 x3 x4 (wrap64 (x5 + (wrap64 ((rd x3 x6) * (rd x3 (wrap64 (x4 - x6))))))) (wrap64 (x6 + 1))) else (none)) else (none)) else (none)) else (none)) else (if x3.length < 17592186044416 then (spec_l02Catalan.l0 k x0 (x3 ++ [x5]) (wrap64 (x4 + 1))) else (none))
end
def spec_l02Catalan.f (k : Nat) (a0 : Int) : Option (List Int) := spec_l02Catalan.l0 k a0 (([0, 1] : List Int)) 2
theorem spec_l02Catalan.mono_l : ∀ k, (∀ y0 y1 y2, LeO (spec_l02Catalan.l0 k y0 y1 y2) (spec_l02Catalan.l0 (k + 1) y0 y1 y2)) ∧ (∀ y0 y1 y2 y3 y4, LeO (spec_l02Catalan.l1 k y0 y1 y2 y3 y4) (spec_l02Catalan.l1 (k + 1) y0 y1 y2 y3 y4))
  | 0 => ⟨fun _ _ _ r h => by simp [spec_l02Catalan.l0] at h, fun _ _ _ _ _ r h => by simp [spec_l02Catalan.l1] at h⟩
  | k + 1 => by
    obtain ⟨ih0, ih1⟩ := spec_l02Catalan.mono_l k
    refine ⟨?_, ?_⟩
    · intro y0 y1 y2
      unfold spec_l02Catalan.l0
      repeat' first
      | (with_reducible exact ih0 _ _ _)
      | (with_reducible exact ih1 _ _ _ _ _)
      | (with_reducible exact LeO.refl _)
      | (with_reducible exact LeO.none _)
      | (with_reducible refine LeO.ite ?_ ?_)
      | (with_reducible refine LeO.bind ?_ (fun _ => ?_))
      | exact ih0 _ _ _
      | exact ih1 _ _ _ _ _
      | exact LeO.none _
      | refine LeO.ite ?_ ?_
      | refine LeO.bind ?_ (fun _ => ?_)
    · intro y0 y1 y2 y3 y4
      unfold spec_l02Catalan.l1
      repeat' first
      | (with_reducible exact ih0 _ _ _)
      | (with_reducible exact ih1 _ _ _ _ _)
      | (with_reducible exact LeO.refl _)
      | (with_reducible exact LeO.none _)
      | (with_reducible refine LeO.ite ?_ ?_)
      | (with_reducible refine LeO.bind ?_ (fun _ => ?_))
      | exact ih0 _ _ _
      | exact ih1 _ _ _ _ _
      | exact LeO.none _
      | refine LeO.ite ?_ ?_
      | refine LeO.bind ?_ (fun _ => ?_)
theorem spec_l02Catalan.mono : ∀ a0 k, LeO (spec_l02Catalan.f k a0) (spec_l02Catalan.f (k + 1) a0) := by
  intro a0 k
  obtain ⟨ih0, ih1⟩ := spec_l02Catalan.mono_l k
  unfold spec_l02Catalan.f
  repeat' first
      | (with_reducible exact ih0 _ _ _)
      | (with_reducible exact ih1 _ _ _ _ _)
      | (with_reducible exact LeO.refl _)
      | (with_reducible exact LeO.none _)
      | (with_reducible refine LeO.ite ?_ ?_)
      | (with_reducible refine LeO.bind ?_ (fun _ => ?_))
      | exact ih0 _ _ _
      | exact ih1 _ _ _ _ _
      | exact LeO.none _
      | refine LeO.ite ?_ ?_
      | refine LeO.bind ?_ (fun _ => ?_)
theorem spec_l02Catalan.Z0 {p : Prop} (h : p := by first | (with_reducible assumption) | assumption) : p := h
theorem spec_l02Catalan.Z1 {p : Prop} (h : p := by first | rfl | (simp; done) | (simp [*]; done)) : p := h
set_option maxHeartbeats 8000000 in
set_option maxRecDepth 100000 in
theorem spec_l02Catalan.calls (k : Nat) (a0 : Int) (r : List Int) (w : World) (h : spec_l02Catalan.f k a0 = some r) :
  Calls Try.prog 157 #[.int .i64 a0] w fun e w' => ∃ v0_ : Value, e = .returned (v0_) ∧ Kd.R (Kd.int .i64) 2 w' w.heap.size (fun _ => True) v0_ r ∧ Below w.heap.size w w' := by
 have HB := A_ (Below.refl w.heap.size w)
 have H : (spec_l02Catalan.l0 k a0 (([0, 1] : List Int)) 2) = some r := h
 clear h
 obtain ⟨y204, hy204⟩ : ∃ y_ : List Int, y_ = (([0, 1] : List Int)) := ⟨_, rfl⟩
 replace H : (spec_l02Catalan.l0 k a0 y204 2) = some r := by first | (rw [hy204]; with_reducible exact H) | (have H2_ := (Option.bind_some _ _).symm.trans H; rw [hy204]; with_reducible exact H2_) | (have H2_ := (Option.bind_some _ _).symm.trans H; with_reducible exact H2_) | with_reducible exact H | (rw [hy204]; exact H) | exact H
 have Ny204 := A_ hy204
 clear hy204
 have H' := A_ H
 clear H
 go_enter Try.func157, Try.ntmps157
 go_wp2_with (first | ((with_reducible refine gate_dst (N := 7) rfl ?_); refine Kd.R_lit (Kd.int .i64) _ 2 ?hg (N := 7) ?hd (xs := ([0, 1] : List Int)) (inner := [.int .i64 0, .int .i64 1]) (ok := fun _ => True) (okp := fun _ => True) ?hr ?hp (fun _ hk => hk) trivial (Below.refl _ _) (Nat.le_refl _) (by simp) ?_; (case hd => rfl); (case hg => rfl); (case hr => first | (go_simp; done) | (go_simp; rfl)); (case hp => exact (Reps.one (show Kd.M (Kd.int .i64) _ _ _ 0 [.int .i64 0] from rfl) (Reps.one (show Kd.M (Kd.int .i64) _ _ _ 1 [.int .i64 1] from rfl) (Reps.none _ _)))); intro v205 w2 ho3 hb hg_ hnew_; clear hg_ hnew_; (first | rw [← Ny204.out] at ho3 | (simp only [Int.reduceToNat] at ho3; rw [← Ny204.out] at ho3)); have n0_ := A_ (Kd.R_lower ho3 (below_size (el HB))); have n1_ := A_ (below_step (el HB) hb); clear HB; have HO206 := n0_; have HB := n1_; clear n0_ n1_; clear hb ho3))
 repeat (go_quiet (first | ((with_reducible refine gate_dst (N := 7) rfl ?_); refine Kd.R_lit (Kd.int .i64) _ 2 ?hg (N := 7) ?hd (xs := ([0, 1] : List Int)) (inner := [.int .i64 0, .int .i64 1]) (ok := fun _ => True) (okp := fun _ => True) ?hr ?hp (fun _ hk => hk) trivial (Below.refl _ _) (Nat.le_refl _) (by simp) ?_; (case hd => rfl); (case hg => rfl); (case hr => first | (go_simp; done) | (go_simp; rfl)); (case hp => exact (Reps.one (show Kd.M (Kd.int .i64) _ _ _ 0 [.int .i64 0] from rfl) (Reps.one (show Kd.M (Kd.int .i64) _ _ _ 1 [.int .i64 1] from rfl) (Reps.none _ _)))); intro v205 w2 ho3 hb hg_ hnew_; clear hg_ hnew_; (first | rw [← Ny204.out] at ho3 | (simp only [Int.reduceToNat] at ho3; rw [← Ny204.out] at ho3)); have n0_ := A_ (Kd.R_lower ho3 (below_size (el HB))); have n1_ := A_ (below_step (el HB) hb); clear HB; have HO206 := n0_; have HB := n1_; clear n0_ n1_; clear hb ho3)); try go_wp2_with (first | ((with_reducible refine gate_dst (N := 7) rfl ?_); refine Kd.R_lit (Kd.int .i64) _ 2 ?hg (N := 7) ?hd (xs := ([0, 1] : List Int)) (inner := [.int .i64 0, .int .i64 1]) (ok := fun _ => True) (okp := fun _ => True) ?hr ?hp (fun _ hk => hk) trivial (Below.refl _ _) (Nat.le_refl _) (by simp) ?_; (case hd => rfl); (case hg => rfl); (case hr => first | (go_simp; done) | (go_simp; rfl)); (case hp => exact (Reps.one (show Kd.M (Kd.int .i64) _ _ _ 0 [.int .i64 0] from rfl) (Reps.one (show Kd.M (Kd.int .i64) _ _ _ 1 [.int .i64 1] from rfl) (Reps.none _ _)))); intro v205 w2 ho3 hb hg_ hnew_; clear hg_ hnew_; (first | rw [← Ny204.out] at ho3 | (simp only [Int.reduceToNat] at ho3; rw [← Ny204.out] at ho3)); have n0_ := A_ (Kd.R_lower ho3 (below_size (el HB))); have n1_ := A_ (below_step (el HB) hb); clear HB; have HO206 := n0_; have HB := n1_; clear n0_ n1_; clear hb ho3)))
 go_loopg [3, 4] k (fun kq v3 v4 w' => ∃ (x3_1 : List Int) (x4_1 : Int), v4 = .int .i64 x4_1 ∧ Aside0 (spec_l02Catalan.l0 kq a0 x3_1 x4_1 = some r) ∧ Aside0 (kq ≤ k) ∧ Aside0 (Kd.R (Kd.int .i64) 2 w' w.heap.size (fun _ => True) v3 x3_1) ∧ Aside0 (Below w.heap.size w w'))
 case atStart => exact ⟨(y204), (2), spec_l02Catalan.Z1, H', ⟨Nat.le_refl _⟩, ⟨ea HO206⟩, ⟨el HB⟩⟩
 case round =>
  clear H'
  try clear c1
  try clear p2
  obtain ⟨x3_1, x4_1, rfl, HA, HK1, HO_3, HB⟩ := hrel
  cases gk with
  | zero => exact absurd HA.out (by simp [spec_l02Catalan.l0])
  | succ k1 =>
   have H := HA.out
   clear HA
   simp only [spec_l02Catalan.l0] at H
   by_cases c4 : x4_1 ≤ a0
   ·rw [if_pos c4] at H
    have c4b0 : decide (x4_1 ≤ a0) = true := decide_eq_true c4
    clear c4
    have H' := A_ H
    clear H
    go_wp2
    repeat (go_quiet (fail); try go_wp2)
    go_loopg [5, 6] k1 (fun kq v5 v6 w' => ∃ (x5_2 : Int) (x6_2 : Int), v5 = .int .i64 x5_2 ∧ v6 = .int .i64 x6_2 ∧ Aside0 (spec_l02Catalan.l1 kq a0 x3_1 x4_1 x5_2 x6_2 = some r) ∧ Aside0 (kq ≤ k1) ∧ Aside0 (Kd.R (Kd.int .i64) 2 w' w.heap.size (fun _ => True) u3 x3_1) ∧ Aside0 (Below w.heap.size w w'))
    case atStart => exact ⟨(0), (1), spec_l02Catalan.Z1, spec_l02Catalan.Z1, H', ⟨Nat.le_refl _⟩, ⟨ea HO_3⟩, ⟨el HB⟩⟩
    case round =>
     clear H'
     try clear c1
     try clear p2
     try clear c4
     try clear c4b0
     try clear p2
     obtain ⟨x5_2, x6_2, rfl, rfl, HA, HK2, HO_3, HB⟩ := hrel
     cases gk with
     | zero => exact absurd HA.out (by simp [spec_l02Catalan.l1])
     | succ k2 =>
      have H := HA.out
      clear HA
      simp only [spec_l02Catalan.l1] at H
      by_cases c5 : x6_2 < x4_1
      ·rw [if_pos c5] at H
       have c5b0 : decide (x6_2 < x4_1) = true := decide_eq_true c5
       clear c5
       by_cases c6 : 0 ≤ x6_2
       rotate_left
       ·rw [if_neg c6] at H
        exact absurd H (by simp)
       rw [if_pos c6] at H
       have c6b0 : decide (0 ≤ x6_2) = true := decide_eq_true c6
       clear c6
       by_cases c7 : x6_2 < (x3_1.length : Int)
       rotate_left
       ·rw [if_neg c7] at H
        exact absurd H (by simp)
       rw [if_pos c7] at H
       have c7b0 : decide (x6_2 < (x3_1.length : Int)) = true := decide_eq_true c7
       clear c7
       obtain ⟨ji8, hji8⟩ : ∃ j_ : Int, (wrap64 (x4_1 - x6_2)) = j_ := ⟨_, rfl⟩
       replace H : (if 0 ≤ (ji8) then (if (ji8) < (x3_1.length : Int) then (spec_l02Catalan.l1 k2 a0 x3_1 x4_1 (wrap64 (x5_2 + (wrap64 ((rd x3_1 x6_2) * (rd x3_1 (ji8)))))) (wrap64 (x6_2 + 1))) else (none)) else (none)) = some r := by first | (rw [hji8] at H; exact H) | (simp only [hji8] at H ⊢; exact H)
       have hji8w : (IntKind.i64.wrap (x4_1 - x6_2)) = ji8 := (i64_w _).trans hji8
       by_cases c9 : 0 ≤ (ji8)
       rotate_left
       ·rw [if_neg c9] at H
        exact absurd H (by simp)
       rw [if_pos c9] at H
       have c9b0 : decide (0 ≤ (ji8)) = true := decide_eq_true c9
       clear c9
       by_cases c10 : (ji8) < (x3_1.length : Int)
       rotate_left
       ·rw [if_neg c10] at H
        exact absurd H (by simp)
       rw [if_pos c10] at H
       have c10b0 : decide ((ji8) < (x3_1.length : Int)) = true := decide_eq_true c10
       clear c10
       have H' := A_ H
       clear H
       obtain ⟨Ao11, co11, eo11⟩ := Kd.R_slice HO_3.out
       subst eo11
       have p207 : 0 ≤ (x6_2 : Int) := of_decide_eq_true spec_l02Catalan.Z0
       have q207 : x6_2 < (x3_1.length : Int) := of_decide_eq_true spec_l02Catalan.Z0
       obtain ⟨ad207, e207, hx207_0⟩ := Kd.at_int (Kd.R_reads' HO_3.out).2.2 x6_2 p207 q207
       cases e207
       replace p207 := eq_true p207
       replace q207 := eq_true q207
       have p208 : 0 ≤ ((ji8) : Int) := of_decide_eq_true spec_l02Catalan.Z0
       have q208 : (ji8) < (x3_1.length : Int) := of_decide_eq_true spec_l02Catalan.Z0
       obtain ⟨ad208, e208, hx208_0⟩ := Kd.at_int (Kd.R_reads' HO_3.out).2.2 (ji8) p208 q208
       obtain rfl : ad207 = ad208 := (by injection e208)
       replace p208 := eq_true p208
       replace q208 := eq_true q208
       go_wp2
       repeat (go_quiet (fail); try go_wp2)
       go_roundg k2
       case measure => have := HK1.out; have := HK2.out; omega
       case rel => exact ⟨(wrap64 (x5_2 + (wrap64 ((rd x3_1 x6_2) * (rd x3_1 (ji8)))))), (wrap64 (x6_2 + 1)), (by first | rfl | (simp; done) | (simp only [← hji8] <;> (first | rfl | simp)) | (simp [*]; done)), spec_l02Catalan.Z1, H', ⟨by have := HK1.out; have := HK2.out; omega⟩, ⟨es HO_3⟩, ⟨el HB⟩⟩
      ·rw [if_neg c5] at H
       have c5b0 : decide (x6_2 < x4_1) = false := decide_eq_false c5
       clear c5
       by_cases c12 : x3_1.length < 17592186044416
       rotate_left
       ·rw [if_neg c12] at H
        exact absurd H (by simp)
       rw [if_pos c12] at H
       have LMc12 := A_ c12
       clear c12
       obtain ⟨y209, hy209⟩ : ∃ y_ : List Int, y_ = (x3_1 ++ [x5_2]) := ⟨_, rfl⟩
       replace H : (spec_l02Catalan.l0 k2 a0 y209 (wrap64 (x4_1 + 1))) = some r := by first | (rw [hy209]; with_reducible exact H) | (have H2_ := (Option.bind_some _ _).symm.trans H; rw [hy209]; with_reducible exact H2_) | (have H2_ := (Option.bind_some _ _).symm.trans H; with_reducible exact H2_) | with_reducible exact H | (rw [hy209]; exact H) | exact H
       have Ny209 := A_ hy209
       clear hy209
       have H' := A_ H
       clear H
       go_wp2_with (first | ((with_reducible refine gate_builtin (b := .append) (xs := #[.tmp 31, .tmp 33]) rfl ?_); at_builtin; refine Kd.R_append (Kd.int .i64) (w0 := w) w.heap.size rfl (.tmp 31) (.tmp 33) 24 2 (.int .i64 0) 8 rfl Try.underlying24 info2 rfl (by decide) (by omega) u3 x3_1 x5_2 [.int .i64 x5_2] (fun _ => True) (fun _ => False) rfl rfl ?aP (fun _ hk => hk.elim) ?aF ?aO ?aB ?aS ?aL ?_; (case aP => exact rfl); (case aB => exact (el HB)); (case aF => exact (fun _ _ => trivial)); (case aO => exact (ea HO_3)); (case aS => exact (below_size (el HB))); (case aL => have := LMc12.out; omega); intro v210 w13 ho hb hg hat; rw [← Ny209.out] at ho; have n0_ := A_ (hb); have n1_ := A_ (ho); clear HB; clear HO_3; have HB := n0_; have HO211 := n1_; clear n0_ n1_; clear ho hb hg hat))
       repeat (go_quiet (first | ((with_reducible refine gate_builtin (b := .append) (xs := #[.tmp 31, .tmp 33]) rfl ?_); at_builtin; refine Kd.R_append (Kd.int .i64) (w0 := w) w.heap.size rfl (.tmp 31) (.tmp 33) 24 2 (.int .i64 0) 8 rfl Try.underlying24 info2 rfl (by decide) (by omega) u3 x3_1 x5_2 [.int .i64 x5_2] (fun _ => True) (fun _ => False) rfl rfl ?aP (fun _ hk => hk.elim) ?aF ?aO ?aB ?aS ?aL ?_; (case aP => exact rfl); (case aB => exact (el HB)); (case aF => exact (fun _ _ => trivial)); (case aO => exact (ea HO_3)); (case aS => exact (below_size (el HB))); (case aL => have := LMc12.out; omega); intro v210 w13 ho hb hg hat; rw [← Ny209.out] at ho; have n0_ := A_ (hb); have n1_ := A_ (ho); clear HB; clear HO_3; have HB := n0_; have HO211 := n1_; clear n0_ n1_; clear ho hb hg hat)); try go_wp2_with (first | ((with_reducible refine gate_builtin (b := .append) (xs := #[.tmp 31, .tmp 33]) rfl ?_); at_builtin; refine Kd.R_append (Kd.int .i64) (w0 := w) w.heap.size rfl (.tmp 31) (.tmp 33) 24 2 (.int .i64 0) 8 rfl Try.underlying24 info2 rfl (by decide) (by omega) u3 x3_1 x5_2 [.int .i64 x5_2] (fun _ => True) (fun _ => False) rfl rfl ?aP (fun _ hk => hk.elim) ?aF ?aO ?aB ?aS ?aL ?_; (case aP => exact rfl); (case aB => exact (el HB)); (case aF => exact (fun _ _ => trivial)); (case aO => exact (ea HO_3)); (case aS => exact (below_size (el HB))); (case aL => have := LMc12.out; omega); intro v210 w13 ho hb hg hat; rw [← Ny209.out] at ho; have n0_ := A_ (hb); have n1_ := A_ (ho); clear HB; clear HO_3; have HB := n0_; have HO211 := n1_; clear n0_ n1_; clear ho hb hg hat)))
       go_roundg k2
       case measure => have := HK1.out; have := HK2.out; omega
       case rel => exact ⟨(y209), (wrap64 (x4_1 + 1)), spec_l02Catalan.Z1, H', ⟨by have := HK1.out; have := HK2.out; omega⟩, ⟨es HO211⟩, ⟨el HB⟩⟩
   ·rw [if_neg c4] at H
    have c4b0 : decide (x4_1 ≤ a0) = false := decide_eq_false c4
    clear c4
    obtain rfl := Option.some.inj H
    go_wp2
    repeat (go_quiet (fail); try go_wp2)
    go_ret
    exact ⟨_, er, by (with_reducible repeat (first | apply Kd.R_alloc | apply Kd.R_drewN | apply Kd.R_drew)); exact HO_3.out, el HB⟩

end Go.Proofs.Ytocachknmgefaaa.QFnTreeCounts
