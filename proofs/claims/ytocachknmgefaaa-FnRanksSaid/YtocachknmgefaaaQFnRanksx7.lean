/- Functions of the program as plain Lean functions, each with a proof that the machine's call answers what it answers. Conditions: none. -/
import Derived.Test.YtocachknmgefaaaQFnRanksx0
import Derived.Test.YtocachknmgefaaaQFnRanksx1
import Derived.Test.YtocachknmgefaaaQFnRanksx5
import Derived.Test.YtocachknmgefaaaQFnRanksx6
namespace Go.Proofs.Ytocachknmgefaaa.QFnRanks
open Go.RowKit Go.Proofs.YtocachknmgefaaaW.PrintWords Go.Proofs.YtocachknmgefaaaW.PrintLast Go.Proofs.YtocachknmgefaaaW.PrintMore
attribute [local go_sem] max2_int min2_int max_two min_two max_three min_three max_four min_four   -- for this text's walks alone
set_option linter.unusedVariables false
set_option linter.unusedSimpArgs false

/-! ### impl_NextTree: function 87 -/
def impl_NextTree.f (k : Nat) (l0_0 : List Int) : Option (List Int × Int) := (impl_IsTree.f k l0_0).bind fun t293 => (if t293 = true then ((impl_rankOfTree.f l0_0).bind fun t294 => ((impl_treeOfRank.f (l0_0.length : Int) (wrap64 (t294 + 1))).bind fun bt295 => (if bt295.2 = true then (some (bt295.1, 0)) else (some (([] : List Int), 4))))) else (some (([] : List Int), 1)))
theorem impl_NextTree.mono : ∀ a0 k, LeO (impl_NextTree.f k a0) (impl_NextTree.f (k + 1) a0) := by
  intro a0 k
  unfold impl_NextTree.f
  repeat' first
      | (with_reducible exact impl_IsTree.mono _ _)
      | (with_reducible exact LeO.refl _)
      | (with_reducible exact LeO.none _)
      | (with_reducible refine LeO.ite ?_ ?_)
      | (with_reducible refine LeO.bind ?_ (fun _ => ?_))
      | exact impl_IsTree.mono _ _
      | exact LeO.none _
      | refine LeO.ite ?_ ?_
      | refine LeO.bind ?_ (fun _ => ?_)
def impl_NextTree.T3 : Bool × List (List Nat × List Nat) := (true, [([], []), ([0], [0]), ([1], [1]), ([], []), ([3], [3]), ([4], [4]), ([2, 5, 4], [2, 5]), ([6], [6]), ([7], [7]), ([7], [7]), ([], []), ([10, 8, 6, 0, 1, 2, 3, 4, 5, 6, 7, 8, 10], [8, 10]), ([9, 11, 0, 1, 2, 3, 4, 5, 6, 7, 8, 9, 10, 11], [9])])
def impl_NextTree.B3 : List Nat := [0, 1, 3, 0, 8, 24, 63, 127, 255, 255, 0, 1535, 4095]
theorem impl_NextTree.tab3 : rtab .any (opsOf Try.f87 3) = impl_NextTree.T3 := by kernel_rfl
theorem impl_NextTree.bits3 : waitsOk impl_NextTree.T3.2 impl_NextTree.B3 = true := by kernel_rfl
theorem impl_NextTree.Z0 {p : Prop} (h : p := by (with_reducible repeat (first | refine blk_drewN ?_ _ | refine blk_drew ?_ | refine blk_alloc ?_ _)); refine blk_put (cs := #[.slice none 0 0]) ?_ 0 _ rfl; (with_reducible repeat (first | refine blk_drewN ?_ _ | refine blk_drew ?_ | refine blk_alloc ?_ _)); refine blk_far ?_ NB292_299.out _; (with_reducible repeat (first | refine blk_drewN ?_ _ | refine blk_drew ?_ | refine blk_alloc ?_ _)); exact BK292.out) : p := h
theorem impl_NextTree.Z1 {p : Prop} (h : p := by simp only [putAll, Act.put, List.setIfInBounds_toArray, List.set_cons_zero, List.set_cons_succ]) : p := h
set_option maxHeartbeats 8000000 in
set_option maxRecDepth 100000 in
theorem impl_NextTree.calls (k : Nat) (A0_0 : Option Addr) (c0_0 : Nat) (l0_0 : List Int) (r1 : List Int) (r2 : Int) (w : World) (hr0_0 : Kd.C (Kd.int .i64) w A0_0 l0_0.length l0_0) (hc0_0 : l0_0.length ≤ c0_0) (h : impl_NextTree.f k l0_0 = some (r1, r2)) :
  Calls Try.prog 87 #[.agg #[.slice A0_0 l0_0.length c0_0]] w fun e w' => ∃ v0_ : Value, e = .returned (.tuple #[.agg #[v0_], .int .i64 r2]) ∧ Kd.R (Kd.int .i64) 2 w' w.heap.size (fun _ => True) v0_ r1 ∧ Below w.heap.size w w' := by
 have hu26 := Try.underlying26
 have HR0_0 := A_ hr0_0
 have HC0_0 := A_ hc0_0
 clear hr0_0 hc0_0
 have HB := A_ (Below.refl w.heap.size w)
 have H : ((impl_IsTree.f k l0_0).bind fun t293 => (if t293 = true then ((impl_rankOfTree.f l0_0).bind fun t294 => ((impl_treeOfRank.f (l0_0.length : Int) (wrap64 (t294 + 1))).bind fun bt295 => (if bt295.2 = true then (some (bt295.1, 0)) else (some (([] : List Int), 4))))) else (some (([] : List Int), 1)))) = some (r1, r2) := h
 clear h
 replace H := Option.bind_eq_some_iff.mp H
 obtain ⟨t293, A20, H⟩ := H
 replace H : (if t293 = true then ((impl_rankOfTree.f l0_0).bind fun t294 => ((impl_treeOfRank.f (l0_0.length : Int) (wrap64 (t294 + 1))).bind fun bt295 => (if bt295.2 = true then (some (bt295.1, 0)) else (some (([] : List Int), 4))))) else (some (([] : List Int), 1))) = some (r1, r2) := H
 have A2 := A_ A20
 clear A20
 by_cases c3 : t293 = true
 ·subst c3
  have H1 : ((impl_rankOfTree.f l0_0).bind fun t294 => ((impl_treeOfRank.f (l0_0.length : Int) (wrap64 (t294 + 1))).bind fun bt295 => (if bt295.2 = true then (some (bt295.1, 0)) else (some (([] : List Int), 4))))) = some (r1, r2) := by rw [if_pos rfl] at H; exact H
  clear H
  have H := H1
  clear H1
  replace H := Option.bind_eq_some_iff.mp H
  obtain ⟨t294, A40, H⟩ := H
  replace H : ((impl_treeOfRank.f (l0_0.length : Int) (wrap64 (t294 + 1))).bind fun bt295 => (if bt295.2 = true then (some (bt295.1, 0)) else (some (([] : List Int), 4)))) = some (r1, r2) := H
  have A4 := A_ A40
  clear A40
  replace H := Option.bind_eq_some_iff.mp H
  obtain ⟨⟨t295, t298⟩, A50, H⟩ := H
  replace H : (if t298 = true then (some (t295, 0)) else (some (([] : List Int), 4))) = some (r1, r2) := H
  have A5 := A_ A50
  clear A50
  by_cases c6 : t298 = true
  ·subst c6
   have H1 : (some (t295, 0)) = some (r1, r2) := by rw [if_pos rfl] at H; exact H
   clear H
   have H := H1
   clear H1
   simp only [Option.some.injEq, Prod.mk.injEq] at H
   obtain ⟨rfl, rfl⟩ := H
   go_enter Try.func87, Try.ntmps87
   try go_wp2_with (first | ((with_reducible refine gate_dst (N := 1) rfl ?_); refine box_event ?hg (N := 1) ?hd (cs := #[.slice A0_0 l0_0.length c0_0]) (t := 26) ?hr ?_; (case hd => rfl); (case hg => rfl); (case hr => first | (go_simp; done) | (go_simp; rfl)); intro gb291 hg w7 hbox hb; have n0_ := A_ (below_step (el HB) hb); have n1_ := A_ (hbox); have n2_ := A_ ((by rw [hg]; exact (below_size (el HB)) : w.heap.size ≤ gb291)); have n3_ := A_ ((by rw [hg]; exact (below_size (el HB)) : w.heap.size ≤ gb291)); clear HB; have HB := n0_; have BK291 := n1_; have GW291 := n2_; have GE291 := n3_; clear n0_ n1_ n2_ n3_; clear hb hbox hg) | ((with_reducible refine gate_dst (N := 2) rfl ?_); refine box_event ?hg (N := 2) ?hd (cs := #[.slice none 0 0]) (t := 26) ?hr ?_; (case hd => rfl); (case hg => rfl); (case hr => first | (go_simp; done) | (go_simp; rfl)); intro gb292 hg w8 hbox hb; have n0_ := A_ (eB BK291 hb); have n1_ := A_ (below_step (el HB) hb); have n2_ := A_ (hbox); have n3_ := A_ ((by rw [hg]; exact (below_size (el HB)) : w.heap.size ≤ gb292)); have n4_ := A_ ((by rw [hg]; exact (below_size (el HB)) : w.heap.size ≤ gb292)); have n5_ := A_ ((by rw [hg]; exact Nat.ne_of_lt (eL BK291) : gb291 ≠ gb292)); have n6_ := A_ ((by rw [hg]; exact Nat.ne_of_gt (eL BK291) : gb292 ≠ gb291)); clear BK291; clear HB; have BK291 := n0_; have HB := n1_; have BK292 := n2_; have GW292 := n3_; have GE292 := n4_; have NB291_292 := n5_; have NB292_291 := n6_; clear n0_ n1_ n2_ n3_ n4_ n5_ n6_; clear hb hbox hg; have hnb9 := NB291_292.out; have hnc9 := NB292_291.out; have hcz10_0 : w8.cell? ⟨gb291, 0, none⟩ = some (.slice A0_0 l0_0.length c0_0) := (blk_cell BK291.out 0).trans rfl; have hfz10_0 := blk_frozen BK291.out 0) | ((with_reducible refine gate_callee (f := 24) rfl ?_); refine goesL_ (some 7) rfl rfl Try.func24 (by kernel_rfl) rfl #[.agg #[.slice A0_0 l0_0.length c0_0]] rfl eg ?_; (with_reducible refine (impl_IsTree.calls k _ _ l0_0 true _ ?side1 ?side2 A2.out).mono ?_); (case side1 => repeat (first | exact (Kd.C_below HR0_0.out HB.out) | (with_reducible refine Kd.C_alloc ?_ _) | (with_reducible refine Kd.C_drewN ?_ _) | (with_reducible refine Kd.C_drew ?_))); (case side2 => exact HC0_0.out); rintro e w11 ⟨rfl, hb⟩; refine ⟨_, rfl, ?_⟩; have n0_ := A_ (eB BK291 hb); have n1_ := A_ (eB BK292 hb); have n2_ := A_ (below_step (el HB) hb); clear BK291; clear BK292; clear HB; have BK291 := n0_; have BK292 := n1_; have HB := n2_; clear n0_ n1_ n2_; (try clear hb); (try clear hb2); (try clear hk); (try clear hi)))
   have n0_ := A_ (blk_drew BK291.out)
   have n1_ := A_ (blk_drew BK292.out)
   have n2_ := A_ (below_drew1 HB.out)
   clear BK291
   clear BK292
   clear HB
   have BK291 := n0_
   have BK292 := n1_
   have HB := n2_
   clear n0_ n1_ n2_
   refine start_ (n := 13) (S := fun w' => w'.cell? ⟨gb291, 0, none⟩ = some (.slice A0_0 l0_0.length c0_0)) (ds := []) #[false, false, false, false, false, false, false, false, false, false, false, false, false] (by kernel_rfl) rfl rfl ((blk_cell BK291.out 0).trans rfl) (fun hHeld => ?_); refine with_tabW impl_NextTree.tab3 impl_NextTree.bits3 (fun HT_ HW_ => ?_)
   generalize w11.drew = w12 at BK291 BK292 HB hHeld ⊢
   refine pure_ (i := 0) (N := some 11) (v := ?_) (a' := ?_) #[true, false, false, false, false, false, false, false, false, false, false, false, false] rfl rfl (any_of HT_.out (by kernel_rfl)) (fun _ _ _ h => h) (Or.inl ⟨by rfl, ?_⟩) ?_ ?_
   rotate_left
   ·intro w'
    go_simp
    with_reducible rfl
   rotate_left
   ·simp only [Act.put, List.setIfInBounds_toArray, List.set_cons_zero, List.set_cons_succ, i64_w, i32_w]
    rfl
   refine take_ (i := 1) (N := some 12) (v := ?_) (a' := ?_) #[true, true, false, false, false, false, false, false, false, false, false, false, false] rfl rfl (take_ofW HT_.out HW_.out (by kernel_rfl)) (fun _ _ _ h => h) (Or.inl ⟨by rfl, ?_⟩) hHeld ?_ ?_
   rotate_left
   ·intro w' s0
    go_simp
    with_reducible rfl
   rotate_left
   ·simp only [Act.put, List.setIfInBounds_toArray, List.set_cons_zero, List.set_cons_succ, i64_w, i32_w]
    rfl
   refine pure_ (i := 2) (N := some 13) (v := ?_) (a' := ?_) #[true, true, true, false, false, false, false, false, false, false, false, false, false] rfl rfl (any_of HT_.out (by kernel_rfl)) (fun _ _ _ h => h) (Or.inl ⟨by rfl, ?_⟩) ?_ ?_
   rotate_left
   ·intro w'
    go_simp
    with_reducible rfl
   rotate_left
   ·simp only [Act.put, List.setIfInBounds_toArray, List.set_cons_zero, List.set_cons_succ, i64_w, i32_w]
    rfl
   refine take_ (i := 3) (N := some 14) (v := ?_) (a' := ?_) #[true, true, true, true, false, false, false, false, false, false, false, false, false] rfl rfl (take_ofW HT_.out HW_.out (by kernel_rfl)) (fun _ _ _ h => h) (Or.inl ⟨by rfl, ?_⟩) hHeld ?_ ?_
   rotate_left
   ·intro w' s0
    go_simp
    with_reducible rfl
   rotate_left
   ·simp only [Act.put, List.setIfInBounds_toArray, List.set_cons_zero, List.set_cons_succ, i64_w, i32_w]
    rfl
   refine join_ (σ := Value × Nat) 2 #[true, true, true, true, true, true, true, true, true, true, true, false, false] (fun s_ => [(15, .int .i64 t294), (17, .tuple #[.agg #[s_.1], .bool true]), (4, .pointer (some ⟨s_.2, 0, none⟩)), (16, .int .i64 (wrap64 (t294 + 1))), (10, .tuple #[.agg #[s_.1], .bool true]), (18, .agg #[s_.1]), (19, .bool true)]) (fun s_ w' => (w'.cell? ⟨gb291, 0, none⟩ = some (.slice A0_0 l0_0.length c0_0)) ∧ (Kd.R (Kd.int .i64) 2 w' w.heap.size (fun _ => True) s_.1 t295) ∧ (w'.heap[gb291]? = some (.cells #[.slice A0_0 l0_0.length c0_0] 26 (0, 0))) ∧ (w'.heap[gb292]? = some (.cells #[.slice none 0 0] 26 (0, 0))) ∧ (w'.heap[s_.2]? = some (.cells #[.slice none 0 0] 26 (0, 0))) ∧ (w.heap.size ≤ s_.2) ∧ (w.heap.size ≤ s_.2) ∧ (gb291 ≠ s_.2) ∧ (s_.2 ≠ gb291) ∧ (gb292 ≠ s_.2) ∧ (s_.2 ≠ gb292) ∧ (Below w.heap.size w w')) ?_ ?_
   rotate_left
   ·intro hCont
    refine two_ (i := 4) (j := 10) (Ni := some 15) (Nj := some 4) #[true, true, true, true, true, false, false, false, false, false, false, false, false] #[true, true, true, true, false, false, false, false, false, false, true, false, false] rfl rfl rfl rfl (two_of HT_.out (by kernel_rfl)) (by decide) (by decide) (fun K hK => ?_) (fun K hK => ?_)
    ·skip
     refine goes_ Try.func163 (by kernel_rfl) rfl #[.agg #[.slice A0_0 l0_0.length c0_0]] (by rfl) rfl rfl eg ?_
     with_reducible refine (impl_rankOfTree.calls _ _ l0_0 t294 _ ?side1 ?side2 A4.out).mono ?_
     (case side1 => repeat (first | exact (Kd.C_below HR0_0.out HB.out) | (with_reducible refine Kd.C_alloc ?_ _) | (with_reducible refine Kd.C_drewN ?_ _) | (with_reducible refine Kd.C_drew ?_)))
     (case side2 => exact HC0_0.out)
     rintro e w13 ⟨rfl, hb⟩
     refine ⟨_, rfl, ?_⟩
     have n0_ := A_ (eB BK291 hb)
     have n1_ := A_ (eB BK292 hb)
     have n2_ := A_ (below_step (el HB) hb)
     clear BK291
     clear BK292
     clear HB
     have BK291 := n0_
     have BK292 := n1_
     have HB := n2_
     clear n0_ n1_ n2_
     (try clear hb)
     (try clear hb2)
     (try clear hk)
     (try clear hi)
     refine hK.out _ _ ((blk_cell BK291.out 0).trans rfl) (fun hHeld => ?_)
     clear hK K
     refine norm_ (a' := ?_) ?_ ?_
     rotate_left
     ·show Act.put _ (some 15) _ = _
      simp only [Act.put, List.setIfInBounds_toArray, List.set_cons_zero, List.set_cons_succ, i64_w, i32_w]
      rfl
     refine pure_ (i := 5) (N := some 16) (v := ?_) (a' := ?_) #[true, true, true, true, true, true, false, false, false, false, false, false, false] rfl rfl (any_of HT_.out (by kernel_rfl)) (fun _ _ _ h => h) (Or.inl ⟨by rfl, ?_⟩) ?_ ?_
     rotate_left
     ·intro w'
      go_simp
      with_reducible rfl
     rotate_left
     ·simp only [Act.put, List.setIfInBounds_toArray, List.set_cons_zero, List.set_cons_succ, i64_w, i32_w]
      rfl
     refine two_ (i := 6) (j := 10) (Ni := some 17) (Nj := some 4) #[true, true, true, true, true, true, true, false, false, false, false, false, false] #[true, true, true, true, true, true, false, false, false, false, true, false, false] rfl rfl rfl rfl (two_of HT_.out (by kernel_rfl)) (by decide) (by decide) (fun K hK => ?_) (fun K hK => ?_)
     ·skip
      refine goes_ Try.func165 (by kernel_rfl) rfl #[.int .i64 (l0_0.length : Int), .int .i64 (wrap64 (t294 + 1))] (by rfl) rfl rfl eg ?_
      with_reducible refine (impl_treeOfRank.calls (l0_0.length : Int) (wrap64 (t294 + 1)) t295 true _ A5.out).mono ?_
      rintro e w14 ⟨v296, rfl, ho0, hb⟩
      refine ⟨_, rfl, ?_⟩
      have n0_ := A_ (Kd.R_lower ho0 (below_size (el HB)))
      have n1_ := A_ (eB BK291 hb)
      have n2_ := A_ (eB BK292 hb)
      have n3_ := A_ (below_step (el HB) hb)
      clear BK291
      clear BK292
      clear HB
      have HO297 := n0_
      have BK291 := n1_
      have BK292 := n2_
      have HB := n3_
      clear n0_ n1_ n2_ n3_
      (try clear hb)
      (try clear hb2)
      (try clear hk)
      (try clear hi)
      (try clear ho0)
      refine hK.out _ _ ((blk_cell BK291.out 0).trans rfl) (fun hHeld => ?_)
      clear hK K
      refine norm_ (a' := ?_) ?_ ?_
      rotate_left
      ·show Act.put _ (some 17) _ = _
       simp only [Act.put, List.setIfInBounds_toArray, List.set_cons_zero, List.set_cons_succ, i64_w, i32_w]
       rfl
      refine pure_ (i := 7) (N := some 10) (v := ?_) (a' := ?_) #[true, true, true, true, true, true, true, true, false, false, false, false, false] rfl rfl (any_of HT_.out (by kernel_rfl)) (fun _ _ _ h => h) (Or.inl ⟨by rfl, ?_⟩) ?_ ?_
      rotate_left
      ·intro w'
       go_simp
       with_reducible rfl
      rotate_left
      ·simp only [Act.put, List.setIfInBounds_toArray, List.set_cons_zero, List.set_cons_succ, i64_w, i32_w]
       rfl
      refine pure_ (i := 8) (N := some 18) (v := ?_) (a' := ?_) #[true, true, true, true, true, true, true, true, true, false, false, false, false] rfl rfl (any_of HT_.out (by kernel_rfl)) (fun _ _ _ h => h) (Or.inl ⟨by rfl, ?_⟩) ?_ ?_
      rotate_left
      ·intro w'
       go_simp
       with_reducible rfl
      rotate_left
      ·simp only [Act.put, List.setIfInBounds_toArray, List.set_cons_zero, List.set_cons_succ, i64_w, i32_w]
       rfl
      refine pure_ (i := 9) (N := some 19) (v := ?_) (a' := ?_) #[true, true, true, true, true, true, true, true, true, true, false, false, false] rfl rfl (any_of HT_.out (by kernel_rfl)) (fun _ _ _ h => h) (Or.inl ⟨by rfl, ?_⟩) ?_ ?_
      rotate_left
      ·intro w'
       go_simp
       with_reducible rfl
      rotate_left
      ·simp only [Act.put, List.setIfInBounds_toArray, List.set_cons_zero, List.set_cons_succ, i64_w, i32_w]
       rfl
      refine one_ (i := 10) (N := some 4) #[true, true, true, true, true, true, true, true, true, true, true, false, false] rfl rfl (one_of HT_.out (by kernel_rfl)) (by decide) (fun K hK => ?_)
      refine box_step ?hg (N := 4) ?hd (cs := #[.slice none 0 0]) (t := 26) ?hr ?_; (case hd => rfl); (case hg => rfl); (case hr => first | (go_simp; done) | (go_simp; rfl))
      intro gb299 hg w15 hbox hb
      have n0_ := A_ (Kd.R_below (ea HO297) hb)
      have n1_ := A_ (eB BK291 hb)
      have n2_ := A_ (eB BK292 hb)
      have n3_ := A_ (below_step (el HB) hb)
      have n4_ := A_ (hbox)
      have n5_ := A_ ((by rw [hg]; exact (below_size (el HB)) : w.heap.size ≤ gb299))
      have n6_ := A_ ((by rw [hg]; exact (below_size (el HB)) : w.heap.size ≤ gb299))
      have n7_ := A_ ((by rw [hg]; exact Nat.ne_of_lt (eL BK291) : gb291 ≠ gb299))
      have n8_ := A_ ((by rw [hg]; exact Nat.ne_of_gt (eL BK291) : gb299 ≠ gb291))
      have n9_ := A_ ((by rw [hg]; exact Nat.ne_of_lt (eL BK292) : gb292 ≠ gb299))
      have n10_ := A_ ((by rw [hg]; exact Nat.ne_of_gt (eL BK292) : gb299 ≠ gb292))
      clear HO297
      clear BK291
      clear BK292
      clear HB
      have HO297 := n0_
      have BK291 := n1_
      have BK292 := n2_
      have HB := n3_
      have BK299 := n4_
      have GW299 := n5_
      have GE299 := n6_
      have NB291_299 := n7_
      have NB299_291 := n8_
      have NB292_299 := n9_
      have NB299_292 := n10_
      clear n0_ n1_ n2_ n3_ n4_ n5_ n6_ n7_ n8_ n9_ n10_
      clear hb hbox hg
      refine hK.out _ _ ((blk_cell BK291.out 0).trans rfl) (fun hHeld => ?_)
      clear hK K
      refine norm_ (a' := ?_) ?_ ?_
      rotate_left
      ·show Act.put _ (some 4) _ = _
       simp only [Act.put, List.setIfInBounds_toArray, List.set_cons_zero, List.set_cons_succ, i64_w, i32_w]
       rfl
      exact norm_ impl_NextTree.Z1 (hCont (v296, gb299) _ ⟨hHeld, (ea HO297), (eb BK291), (eb BK292), (eb BK299), GW299.out, GE299.out, NB291_299.out, NB299_291.out, NB292_299.out, NB299_292.out, (el HB)⟩)
     ·skip
      refine box_step ?hg (N := 4) ?hd (cs := #[.slice none 0 0]) (t := 26) ?hr ?_; (case hd => rfl); (case hg => rfl); (case hr => first | (go_simp; done) | (go_simp; rfl))
      intro gb299 hg w14 hbox hb
      have n0_ := A_ (eB BK291 hb)
      have n1_ := A_ (eB BK292 hb)
      have n2_ := A_ (below_step (el HB) hb)
      have n3_ := A_ (hbox)
      have n4_ := A_ ((by rw [hg]; exact (below_size (el HB)) : w.heap.size ≤ gb299))
      have n5_ := A_ ((by rw [hg]; exact (below_size (el HB)) : w.heap.size ≤ gb299))
      have n6_ := A_ ((by rw [hg]; exact Nat.ne_of_lt (eL BK291) : gb291 ≠ gb299))
      have n7_ := A_ ((by rw [hg]; exact Nat.ne_of_gt (eL BK291) : gb299 ≠ gb291))
      have n8_ := A_ ((by rw [hg]; exact Nat.ne_of_lt (eL BK292) : gb292 ≠ gb299))
      have n9_ := A_ ((by rw [hg]; exact Nat.ne_of_gt (eL BK292) : gb299 ≠ gb292))
      clear BK291
      clear BK292
      clear HB
      have BK291 := n0_
      have BK292 := n1_
      have HB := n2_
      have BK299 := n3_
      have GW299 := n4_
      have GE299 := n5_
      have NB291_299 := n6_
      have NB299_291 := n7_
      have NB292_299 := n8_
      have NB299_292 := n9_
      clear n0_ n1_ n2_ n3_ n4_ n5_ n6_ n7_ n8_ n9_
      clear hb hbox hg
      refine hK.out _ _ ((blk_cell BK291.out 0).trans rfl) (fun hHeld => ?_)
      clear hK K
      refine norm_ (a' := ?_) ?_ ?_
      rotate_left
      ·show Act.put _ (some 4) _ = _
       simp only [Act.put, List.setIfInBounds_toArray, List.set_cons_zero, List.set_cons_succ, i64_w, i32_w]
       rfl
      refine one_ (i := 6) (N := some 17) #[true, true, true, true, true, true, true, false, false, false, true, false, false] rfl rfl (one_of HT_.out (by kernel_rfl)) (by decide) (fun K hK => ?_)
      refine goes_ Try.func165 (by kernel_rfl) rfl #[.int .i64 (l0_0.length : Int), .int .i64 (wrap64 (t294 + 1))] (by rfl) rfl rfl eg ?_
      with_reducible refine (impl_treeOfRank.calls (l0_0.length : Int) (wrap64 (t294 + 1)) t295 true _ A5.out).mono ?_
      rintro e w15 ⟨v296, rfl, ho0, hb⟩
      refine ⟨_, rfl, ?_⟩
      have n0_ := A_ (Kd.R_lower ho0 (below_size (el HB)))
      have n1_ := A_ (eB BK291 hb)
      have n2_ := A_ (eB BK292 hb)
      have n3_ := A_ (eB BK299 hb)
      have n4_ := A_ (below_step (el HB) hb)
      clear BK291
      clear BK292
      clear BK299
      clear HB
      have HO297 := n0_
      have BK291 := n1_
      have BK292 := n2_
      have BK299 := n3_
      have HB := n4_
      clear n0_ n1_ n2_ n3_ n4_
      (try clear hb)
      (try clear hb2)
      (try clear hk)
      (try clear hi)
      (try clear ho0)
      refine hK.out _ _ ((blk_cell BK291.out 0).trans rfl) (fun hHeld => ?_)
      clear hK K
      refine norm_ (a' := ?_) ?_ ?_
      rotate_left
      ·show Act.put _ (some 17) _ = _
       simp only [Act.put, List.setIfInBounds_toArray, List.set_cons_zero, List.set_cons_succ, i64_w, i32_w]
       rfl
      refine pure_ (i := 7) (N := some 10) (v := ?_) (a' := ?_) #[true, true, true, true, true, true, true, true, false, false, true, false, false] rfl rfl (any_of HT_.out (by kernel_rfl)) (fun _ _ _ h => h) (Or.inl ⟨by rfl, ?_⟩) ?_ ?_
      rotate_left
      ·intro w'
       go_simp
       with_reducible rfl
      rotate_left
      ·simp only [Act.put, List.setIfInBounds_toArray, List.set_cons_zero, List.set_cons_succ, i64_w, i32_w]
       rfl
      refine pure_ (i := 8) (N := some 18) (v := ?_) (a' := ?_) #[true, true, true, true, true, true, true, true, true, false, true, false, false] rfl rfl (any_of HT_.out (by kernel_rfl)) (fun _ _ _ h => h) (Or.inl ⟨by rfl, ?_⟩) ?_ ?_
      rotate_left
      ·intro w'
       go_simp
       with_reducible rfl
      rotate_left
      ·simp only [Act.put, List.setIfInBounds_toArray, List.set_cons_zero, List.set_cons_succ, i64_w, i32_w]
       rfl
      refine pure_ (i := 9) (N := some 19) (v := ?_) (a' := ?_) #[true, true, true, true, true, true, true, true, true, true, true, false, false] rfl rfl (any_of HT_.out (by kernel_rfl)) (fun _ _ _ h => h) (Or.inl ⟨by rfl, ?_⟩) ?_ ?_
      rotate_left
      ·intro w'
       go_simp
       with_reducible rfl
      rotate_left
      ·simp only [Act.put, List.setIfInBounds_toArray, List.set_cons_zero, List.set_cons_succ, i64_w, i32_w]
       rfl
      exact norm_ impl_NextTree.Z1 (hCont (v296, gb299) _ ⟨hHeld, (ea HO297), (eb BK291), (eb BK292), (eb BK299), GW299.out, GE299.out, NB291_299.out, NB299_291.out, NB292_299.out, NB299_292.out, (el HB)⟩)
    ·skip
     refine box_step ?hg (N := 4) ?hd (cs := #[.slice none 0 0]) (t := 26) ?hr ?_; (case hd => rfl); (case hg => rfl); (case hr => first | (go_simp; done) | (go_simp; rfl))
     intro gb299 hg w13 hbox hb
     have n0_ := A_ (eB BK291 hb)
     have n1_ := A_ (eB BK292 hb)
     have n2_ := A_ (below_step (el HB) hb)
     have n3_ := A_ (hbox)
     have n4_ := A_ ((by rw [hg]; exact (below_size (el HB)) : w.heap.size ≤ gb299))
     have n5_ := A_ ((by rw [hg]; exact (below_size (el HB)) : w.heap.size ≤ gb299))
     have n6_ := A_ ((by rw [hg]; exact Nat.ne_of_lt (eL BK291) : gb291 ≠ gb299))
     have n7_ := A_ ((by rw [hg]; exact Nat.ne_of_gt (eL BK291) : gb299 ≠ gb291))
     have n8_ := A_ ((by rw [hg]; exact Nat.ne_of_lt (eL BK292) : gb292 ≠ gb299))
     have n9_ := A_ ((by rw [hg]; exact Nat.ne_of_gt (eL BK292) : gb299 ≠ gb292))
     clear BK291
     clear BK292
     clear HB
     have BK291 := n0_
     have BK292 := n1_
     have HB := n2_
     have BK299 := n3_
     have GW299 := n4_
     have GE299 := n5_
     have NB291_299 := n6_
     have NB299_291 := n7_
     have NB292_299 := n8_
     have NB299_292 := n9_
     clear n0_ n1_ n2_ n3_ n4_ n5_ n6_ n7_ n8_ n9_
     clear hb hbox hg
     refine hK.out _ _ ((blk_cell BK291.out 0).trans rfl) (fun hHeld => ?_)
     clear hK K
     refine norm_ (a' := ?_) ?_ ?_
     rotate_left
     ·show Act.put _ (some 4) _ = _
      simp only [Act.put, List.setIfInBounds_toArray, List.set_cons_zero, List.set_cons_succ, i64_w, i32_w]
      rfl
     refine one_ (i := 4) (N := some 15) #[true, true, true, true, true, false, false, false, false, false, true, false, false] rfl rfl (one_of HT_.out (by kernel_rfl)) (by decide) (fun K hK => ?_)
     refine goes_ Try.func163 (by kernel_rfl) rfl #[.agg #[.slice A0_0 l0_0.length c0_0]] (by rfl) rfl rfl eg ?_
     with_reducible refine (impl_rankOfTree.calls _ _ l0_0 t294 _ ?side1 ?side2 A4.out).mono ?_
     (case side1 => repeat (first | exact (Kd.C_below HR0_0.out HB.out) | (with_reducible refine Kd.C_alloc ?_ _) | (with_reducible refine Kd.C_drewN ?_ _) | (with_reducible refine Kd.C_drew ?_)))
     (case side2 => exact HC0_0.out)
     rintro e w14 ⟨rfl, hb⟩
     refine ⟨_, rfl, ?_⟩
     have n0_ := A_ (eB BK291 hb)
     have n1_ := A_ (eB BK292 hb)
     have n2_ := A_ (eB BK299 hb)
     have n3_ := A_ (below_step (el HB) hb)
     clear BK291
     clear BK292
     clear BK299
     clear HB
     have BK291 := n0_
     have BK292 := n1_
     have BK299 := n2_
     have HB := n3_
     clear n0_ n1_ n2_ n3_
     (try clear hb)
     (try clear hb2)
     (try clear hk)
     (try clear hi)
     refine hK.out _ _ ((blk_cell BK291.out 0).trans rfl) (fun hHeld => ?_)
     clear hK K
     refine norm_ (a' := ?_) ?_ ?_
     rotate_left
     ·show Act.put _ (some 15) _ = _
      simp only [Act.put, List.setIfInBounds_toArray, List.set_cons_zero, List.set_cons_succ, i64_w, i32_w]
      rfl
     refine pure_ (i := 5) (N := some 16) (v := ?_) (a' := ?_) #[true, true, true, true, true, true, false, false, false, false, true, false, false] rfl rfl (any_of HT_.out (by kernel_rfl)) (fun _ _ _ h => h) (Or.inl ⟨by rfl, ?_⟩) ?_ ?_
     rotate_left
     ·intro w'
      go_simp
      with_reducible rfl
     rotate_left
     ·simp only [Act.put, List.setIfInBounds_toArray, List.set_cons_zero, List.set_cons_succ, i64_w, i32_w]
      rfl
     refine one_ (i := 6) (N := some 17) #[true, true, true, true, true, true, true, false, false, false, true, false, false] rfl rfl (one_of HT_.out (by kernel_rfl)) (by decide) (fun K hK => ?_)
     refine goes_ Try.func165 (by kernel_rfl) rfl #[.int .i64 (l0_0.length : Int), .int .i64 (wrap64 (t294 + 1))] (by rfl) rfl rfl eg ?_
     with_reducible refine (impl_treeOfRank.calls (l0_0.length : Int) (wrap64 (t294 + 1)) t295 true _ A5.out).mono ?_
     rintro e w15 ⟨v296, rfl, ho0, hb⟩
     refine ⟨_, rfl, ?_⟩
     have n0_ := A_ (Kd.R_lower ho0 (below_size (el HB)))
     have n1_ := A_ (eB BK291 hb)
     have n2_ := A_ (eB BK292 hb)
     have n3_ := A_ (eB BK299 hb)
     have n4_ := A_ (below_step (el HB) hb)
     clear BK291
     clear BK292
     clear BK299
     clear HB
     have HO297 := n0_
     have BK291 := n1_
     have BK292 := n2_
     have BK299 := n3_
     have HB := n4_
     clear n0_ n1_ n2_ n3_ n4_
     (try clear hb)
     (try clear hb2)
     (try clear hk)
     (try clear hi)
     (try clear ho0)
     refine hK.out _ _ ((blk_cell BK291.out 0).trans rfl) (fun hHeld => ?_)
     clear hK K
     refine norm_ (a' := ?_) ?_ ?_
     rotate_left
     ·show Act.put _ (some 17) _ = _
      simp only [Act.put, List.setIfInBounds_toArray, List.set_cons_zero, List.set_cons_succ, i64_w, i32_w]
      rfl
     refine pure_ (i := 7) (N := some 10) (v := ?_) (a' := ?_) #[true, true, true, true, true, true, true, true, false, false, true, false, false] rfl rfl (any_of HT_.out (by kernel_rfl)) (fun _ _ _ h => h) (Or.inl ⟨by rfl, ?_⟩) ?_ ?_
     rotate_left
     ·intro w'
      go_simp
      with_reducible rfl
     rotate_left
     ·simp only [Act.put, List.setIfInBounds_toArray, List.set_cons_zero, List.set_cons_succ, i64_w, i32_w]
      rfl
     refine pure_ (i := 8) (N := some 18) (v := ?_) (a' := ?_) #[true, true, true, true, true, true, true, true, true, false, true, false, false] rfl rfl (any_of HT_.out (by kernel_rfl)) (fun _ _ _ h => h) (Or.inl ⟨by rfl, ?_⟩) ?_ ?_
     rotate_left
     ·intro w'
      go_simp
      with_reducible rfl
     rotate_left
     ·simp only [Act.put, List.setIfInBounds_toArray, List.set_cons_zero, List.set_cons_succ, i64_w, i32_w]
      rfl
     refine pure_ (i := 9) (N := some 19) (v := ?_) (a' := ?_) #[true, true, true, true, true, true, true, true, true, true, true, false, false] rfl rfl (any_of HT_.out (by kernel_rfl)) (fun _ _ _ h => h) (Or.inl ⟨by rfl, ?_⟩) ?_ ?_
     rotate_left
     ·intro w'
      go_simp
      with_reducible rfl
     rotate_left
     ·simp only [Act.put, List.setIfInBounds_toArray, List.set_cons_zero, List.set_cons_succ, i64_w, i32_w]
      rfl
     exact norm_ impl_NextTree.Z1 (hCont (v296, gb299) _ ⟨hHeld, (ea HO297), (eb BK291), (eb BK292), (eb BK299), GW299.out, GE299.out, NB291_299.out, NB299_291.out, NB292_299.out, NB299_292.out, (el HB)⟩)
   rintro ⟨v296, gb299⟩ w16 ⟨hS_, h0_, h1_, h2_, h3_, h4_, h5_, h6_, h7_, h8_, h9_, h10_⟩
   have n0_ : Aside0 (Kd.R (Kd.int .i64) 2 w16 w.heap.size (fun _ => True) v296 t295) := ⟨h0_⟩
   have n1_ : Aside0 (w16.heap[gb291]? = some (.cells #[.slice A0_0 l0_0.length c0_0] 26 (0, 0))) := ⟨h1_⟩
   have n2_ : Aside0 (w16.heap[gb292]? = some (.cells #[.slice none 0 0] 26 (0, 0))) := ⟨h2_⟩
   have n3_ : Aside0 (w16.heap[gb299]? = some (.cells #[.slice none 0 0] 26 (0, 0))) := ⟨h3_⟩
   have n4_ : Aside0 (w.heap.size ≤ gb299) := ⟨h4_⟩
   have n5_ : Aside0 (w.heap.size ≤ gb299) := ⟨h5_⟩
   have n6_ : Aside0 (gb291 ≠ gb299) := ⟨h6_⟩
   have n7_ : Aside0 (gb299 ≠ gb291) := ⟨h7_⟩
   have n8_ : Aside0 (gb292 ≠ gb299) := ⟨h8_⟩
   have n9_ : Aside0 (gb299 ≠ gb292) := ⟨h9_⟩
   have n10_ : Aside0 (Below w.heap.size w w16) := ⟨h10_⟩
   clear BK291
   clear BK292
   clear HB
   clear h0_ h1_ h2_ h3_ h4_ h5_ h6_ h7_ h8_ h9_ h10_
   have HO297 := n0_
   have BK291 := n1_
   have BK292 := n2_
   have BK299 := n3_
   have GW299 := n4_
   have GE299 := n5_
   have NB291_299 := n6_
   have NB299_291 := n7_
   have NB292_299 := n8_
   have NB299_292 := n9_
   have HB := n10_
   clear n0_ n1_ n2_ n3_ n4_ n5_ n6_ n7_ n8_ n9_ n10_
   have hHeld : w16.cell? ⟨gb291, 0, none⟩ = some (.slice A0_0 l0_0.length c0_0) := hS_
   obtain ⟨Ao17, co17, eo17⟩ := Kd.R_slice HO297.out
   (first | subst eo17 | (injection eo17 with f1_ f2_ f3_; have f4_ := f1_.symm; have f5_ := f3_.symm; clear f1_ f2_ f3_; subst f4_; subst f5_))
   refine norm_ (a' := ?_) ?_ ?_
   rotate_left
   ·simp only [putAll, Act.put, List.setIfInBounds_toArray, List.set_cons_zero, List.set_cons_succ]
    rfl
   refine one_ (i := 11) (N := none) #[true, true, true, true, true, true, true, true, true, true, true, true, false] rfl rfl (one_of HT_.out (by kernel_rfl)) (by decide) (fun K hK => ?_)
   have hs18 : w16.cell? ⟨gb299, 0, none⟩ = some (.slice none 0 0) := (blk_cell BK299.out 0).trans rfl
   have hfs18 := blk_frozen BK299.out 0
   have hns18_0 := NB291_299.out
   have hns18_1 := NB292_299.out
   have hms18_0 := NB299_291.out
   have hms18_1 := NB299_292.out
   refine skip_ (w1 := ?_) (by rfl) rfl ?_ ?_
   rotate_left
   ·go_simp
    rfl
   refine hK.out _ _ (((cell_far (p := ⟨gb299, _, none⟩) NB291_299.out _).trans (hHeld))) (fun hHeld => ?_)
   clear hK K
   refine pure_ (i := 12) (N := some 5) (v := ?_) (a' := ?_) #[true, true, true, true, true, true, true, true, true, true, true, true, true] rfl rfl (any_of HT_.out (by kernel_rfl)) (fun _ _ _ h => h) (Or.inl ⟨by rfl, ?_⟩) ?_ ?_
   rotate_left
   ·intro w'
    go_simp
    with_reducible rfl
   rotate_left
   ·simp only [Act.put, List.setIfInBounds_toArray, List.set_cons_zero, List.set_cons_succ, i64_w, i32_w]
    rfl
   refine done_ (done_of HT_.out (by kernel_rfl)) ?_
   have hnb19 := NB299_291.out
   have hnc19 := NB291_299.out
   have hnb20 := NB299_292.out
   have hnc20 := NB292_299.out
   have hcz21_0 : w16.cell? ⟨gb299, 0, none⟩ = some (.slice none 0 0) := (blk_cell BK299.out 0).trans rfl
   have hfz21_0 := blk_frozen BK299.out 0
   have hcz22_0 : w16.cell? ⟨gb292, 0, none⟩ = some (.slice none 0 0) := (blk_cell BK292.out 0).trans rfl
   have hfz22_0 := blk_frozen BK292.out 0
   try go_wp2
   refine bodyPost_ret (results_ct rfl _ _ gb292 26 #[.slice Ao17 t295.length co17] (0, 0) _ rfl impl_NextTree.Z0 Try.underlying26 rfl (by kernel_rfl)) rfl ?_
   exact ⟨_, er, by (with_reducible repeat (first | apply Kd.R_alloc | apply Kd.R_drewN | apply Kd.R_drew)); exact Kd.R_mono (Kd.R_far (p := ⟨gb292, 0, none⟩) (Kd.R_far (p := ⟨gb299, 0, none⟩) (Kd.R_types (Kd.R_types HO297.out BK299.out (by decide)) BK292.out (by decide)) (fun _ hk => hk.1.2) (.slice Ao17 t295.length co17)) (fun _ hk => hk.2) (.slice Ao17 t295.length co17)) (fun _ hk => trivial), el HB⟩
  ·replace c6 := Bool.eq_false_iff.mpr c6
   subst c6
   have H1 : (some (([] : List Int), 4)) = some (r1, r2) := by rw [if_neg (show ¬ (false = true) by decide)] at H; exact H
   clear H
   have H := H1
   clear H1
   simp only [Option.some.injEq, Prod.mk.injEq] at H
   obtain ⟨rfl, rfl⟩ := H
   go_enter Try.func87, Try.ntmps87
   try go_wp2_with (first | ((with_reducible refine gate_dst (N := 1) rfl ?_); refine box_event ?hg (N := 1) ?hd (cs := #[.slice A0_0 l0_0.length c0_0]) (t := 26) ?hr ?_; (case hd => rfl); (case hg => rfl); (case hr => first | (go_simp; done) | (go_simp; rfl)); intro gb291 hg w23 hbox hb; have n0_ := A_ (below_step (el HB) hb); have n1_ := A_ (hbox); have n2_ := A_ ((by rw [hg]; exact (below_size (el HB)) : w.heap.size ≤ gb291)); have n3_ := A_ ((by rw [hg]; exact (below_size (el HB)) : w.heap.size ≤ gb291)); clear HB; have HB := n0_; have BK291 := n1_; have GW291 := n2_; have GE291 := n3_; clear n0_ n1_ n2_ n3_; clear hb hbox hg) | ((with_reducible refine gate_dst (N := 2) rfl ?_); refine box_event ?hg (N := 2) ?hd (cs := #[.slice none 0 0]) (t := 26) ?hr ?_; (case hd => rfl); (case hg => rfl); (case hr => first | (go_simp; done) | (go_simp; rfl)); intro gb292 hg w24 hbox hb; have n0_ := A_ (eB BK291 hb); have n1_ := A_ (below_step (el HB) hb); have n2_ := A_ (hbox); have n3_ := A_ ((by rw [hg]; exact (below_size (el HB)) : w.heap.size ≤ gb292)); have n4_ := A_ ((by rw [hg]; exact (below_size (el HB)) : w.heap.size ≤ gb292)); have n5_ := A_ ((by rw [hg]; exact Nat.ne_of_lt (eL BK291) : gb291 ≠ gb292)); have n6_ := A_ ((by rw [hg]; exact Nat.ne_of_gt (eL BK291) : gb292 ≠ gb291)); clear BK291; clear HB; have BK291 := n0_; have HB := n1_; have BK292 := n2_; have GW292 := n3_; have GE292 := n4_; have NB291_292 := n5_; have NB292_291 := n6_; clear n0_ n1_ n2_ n3_ n4_ n5_ n6_; clear hb hbox hg; have hnb25 := NB291_292.out; have hnc25 := NB292_291.out; have hcz26_0 : w24.cell? ⟨gb291, 0, none⟩ = some (.slice A0_0 l0_0.length c0_0) := (blk_cell BK291.out 0).trans rfl; have hfz26_0 := blk_frozen BK291.out 0) | ((with_reducible refine gate_callee (f := 24) rfl ?_); refine goesL_ (some 7) rfl rfl Try.func24 (by kernel_rfl) rfl #[.agg #[.slice A0_0 l0_0.length c0_0]] rfl eg ?_; (with_reducible refine (impl_IsTree.calls k _ _ l0_0 true _ ?side1 ?side2 A2.out).mono ?_); (case side1 => repeat (first | exact (Kd.C_below HR0_0.out HB.out) | (with_reducible refine Kd.C_alloc ?_ _) | (with_reducible refine Kd.C_drewN ?_ _) | (with_reducible refine Kd.C_drew ?_))); (case side2 => exact HC0_0.out); rintro e w27 ⟨rfl, hb⟩; refine ⟨_, rfl, ?_⟩; have n0_ := A_ (eB BK291 hb); have n1_ := A_ (eB BK292 hb); have n2_ := A_ (below_step (el HB) hb); clear BK291; clear BK292; clear HB; have BK291 := n0_; have BK292 := n1_; have HB := n2_; clear n0_ n1_ n2_; (try clear hb); (try clear hb2); (try clear hk); (try clear hi)))
   have n0_ := A_ (blk_drew BK291.out)
   have n1_ := A_ (blk_drew BK292.out)
   have n2_ := A_ (below_drew1 HB.out)
   clear BK291
   clear BK292
   clear HB
   have BK291 := n0_
   have BK292 := n1_
   have HB := n2_
   clear n0_ n1_ n2_
   refine start_ (n := 13) (S := fun w' => w'.cell? ⟨gb291, 0, none⟩ = some (.slice A0_0 l0_0.length c0_0)) (ds := []) #[false, false, false, false, false, false, false, false, false, false, false, false, false] (by kernel_rfl) rfl rfl ((blk_cell BK291.out 0).trans rfl) (fun hHeld => ?_); refine with_tabW impl_NextTree.tab3 impl_NextTree.bits3 (fun HT_ HW_ => ?_)
   generalize w27.drew = w28 at BK291 BK292 HB hHeld ⊢
   refine pure_ (i := 0) (N := some 11) (v := ?_) (a' := ?_) #[true, false, false, false, false, false, false, false, false, false, false, false, false] rfl rfl (any_of HT_.out (by kernel_rfl)) (fun _ _ _ h => h) (Or.inl ⟨by rfl, ?_⟩) ?_ ?_
   rotate_left
   ·intro w'
    go_simp
    with_reducible rfl
   rotate_left
   ·simp only [Act.put, List.setIfInBounds_toArray, List.set_cons_zero, List.set_cons_succ, i64_w, i32_w]
    rfl
   refine take_ (i := 1) (N := some 12) (v := ?_) (a' := ?_) #[true, true, false, false, false, false, false, false, false, false, false, false, false] rfl rfl (take_ofW HT_.out HW_.out (by kernel_rfl)) (fun _ _ _ h => h) (Or.inl ⟨by rfl, ?_⟩) hHeld ?_ ?_
   rotate_left
   ·intro w' s0
    go_simp
    with_reducible rfl
   rotate_left
   ·simp only [Act.put, List.setIfInBounds_toArray, List.set_cons_zero, List.set_cons_succ, i64_w, i32_w]
    rfl
   refine pure_ (i := 2) (N := some 13) (v := ?_) (a' := ?_) #[true, true, true, false, false, false, false, false, false, false, false, false, false] rfl rfl (any_of HT_.out (by kernel_rfl)) (fun _ _ _ h => h) (Or.inl ⟨by rfl, ?_⟩) ?_ ?_
   rotate_left
   ·intro w'
    go_simp
    with_reducible rfl
   rotate_left
   ·simp only [Act.put, List.setIfInBounds_toArray, List.set_cons_zero, List.set_cons_succ, i64_w, i32_w]
    rfl
   refine take_ (i := 3) (N := some 14) (v := ?_) (a' := ?_) #[true, true, true, true, false, false, false, false, false, false, false, false, false] rfl rfl (take_ofW HT_.out HW_.out (by kernel_rfl)) (fun _ _ _ h => h) (Or.inl ⟨by rfl, ?_⟩) hHeld ?_ ?_
   rotate_left
   ·intro w' s0
    go_simp
    with_reducible rfl
   rotate_left
   ·simp only [Act.put, List.setIfInBounds_toArray, List.set_cons_zero, List.set_cons_succ, i64_w, i32_w]
    rfl
   refine join_ (σ := Value × Nat) 2 #[true, true, true, true, true, true, true, true, true, true, true, false, false] (fun s_ => [(15, .int .i64 t294), (17, .tuple #[.agg #[s_.1], .bool false]), (4, .pointer (some ⟨s_.2, 0, none⟩)), (16, .int .i64 (wrap64 (t294 + 1))), (10, .tuple #[.agg #[s_.1], .bool false]), (18, .agg #[s_.1]), (19, .bool false)]) (fun s_ w' => (w'.cell? ⟨gb291, 0, none⟩ = some (.slice A0_0 l0_0.length c0_0)) ∧ (Kd.R (Kd.int .i64) 2 w' w.heap.size (fun _ => True) s_.1 t295) ∧ (w'.heap[gb291]? = some (.cells #[.slice A0_0 l0_0.length c0_0] 26 (0, 0))) ∧ (w'.heap[gb292]? = some (.cells #[.slice none 0 0] 26 (0, 0))) ∧ (w'.heap[s_.2]? = some (.cells #[.slice none 0 0] 26 (0, 0))) ∧ (w.heap.size ≤ s_.2) ∧ (w.heap.size ≤ s_.2) ∧ (gb291 ≠ s_.2) ∧ (s_.2 ≠ gb291) ∧ (gb292 ≠ s_.2) ∧ (s_.2 ≠ gb292) ∧ (Below w.heap.size w w')) ?_ ?_
   rotate_left
   ·intro hCont
    refine two_ (i := 4) (j := 10) (Ni := some 15) (Nj := some 4) #[true, true, true, true, true, false, false, false, false, false, false, false, false] #[true, true, true, true, false, false, false, false, false, false, true, false, false] rfl rfl rfl rfl (two_of HT_.out (by kernel_rfl)) (by decide) (by decide) (fun K hK => ?_) (fun K hK => ?_)
    ·skip
     refine goes_ Try.func163 (by kernel_rfl) rfl #[.agg #[.slice A0_0 l0_0.length c0_0]] (by rfl) rfl rfl eg ?_
     with_reducible refine (impl_rankOfTree.calls _ _ l0_0 t294 _ ?side1 ?side2 A4.out).mono ?_
     (case side1 => repeat (first | exact (Kd.C_below HR0_0.out HB.out) | (with_reducible refine Kd.C_alloc ?_ _) | (with_reducible refine Kd.C_drewN ?_ _) | (with_reducible refine Kd.C_drew ?_)))
     (case side2 => exact HC0_0.out)
     rintro e w29 ⟨rfl, hb⟩
     refine ⟨_, rfl, ?_⟩
     have n0_ := A_ (eB BK291 hb)
     have n1_ := A_ (eB BK292 hb)
     have n2_ := A_ (below_step (el HB) hb)
     clear BK291
     clear BK292
     clear HB
     have BK291 := n0_
     have BK292 := n1_
     have HB := n2_
     clear n0_ n1_ n2_
     (try clear hb)
     (try clear hb2)
     (try clear hk)
     (try clear hi)
     refine hK.out _ _ ((blk_cell BK291.out 0).trans rfl) (fun hHeld => ?_)
     clear hK K
     refine norm_ (a' := ?_) ?_ ?_
     rotate_left
     ·show Act.put _ (some 15) _ = _
      simp only [Act.put, List.setIfInBounds_toArray, List.set_cons_zero, List.set_cons_succ, i64_w, i32_w]
      rfl
     refine pure_ (i := 5) (N := some 16) (v := ?_) (a' := ?_) #[true, true, true, true, true, true, false, false, false, false, false, false, false] rfl rfl (any_of HT_.out (by kernel_rfl)) (fun _ _ _ h => h) (Or.inl ⟨by rfl, ?_⟩) ?_ ?_
     rotate_left
     ·intro w'
      go_simp
      with_reducible rfl
     rotate_left
     ·simp only [Act.put, List.setIfInBounds_toArray, List.set_cons_zero, List.set_cons_succ, i64_w, i32_w]
      rfl
     refine two_ (i := 6) (j := 10) (Ni := some 17) (Nj := some 4) #[true, true, true, true, true, true, true, false, false, false, false, false, false] #[true, true, true, true, true, true, false, false, false, false, true, false, false] rfl rfl rfl rfl (two_of HT_.out (by kernel_rfl)) (by decide) (by decide) (fun K hK => ?_) (fun K hK => ?_)
     ·skip
      refine goes_ Try.func165 (by kernel_rfl) rfl #[.int .i64 (l0_0.length : Int), .int .i64 (wrap64 (t294 + 1))] (by rfl) rfl rfl eg ?_
      with_reducible refine (impl_treeOfRank.calls (l0_0.length : Int) (wrap64 (t294 + 1)) t295 false _ A5.out).mono ?_
      rintro e w30 ⟨v296, rfl, ho0, hb⟩
      refine ⟨_, rfl, ?_⟩
      have n0_ := A_ (Kd.R_lower ho0 (below_size (el HB)))
      have n1_ := A_ (eB BK291 hb)
      have n2_ := A_ (eB BK292 hb)
      have n3_ := A_ (below_step (el HB) hb)
      clear BK291
      clear BK292
      clear HB
      have HO297 := n0_
      have BK291 := n1_
      have BK292 := n2_
      have HB := n3_
      clear n0_ n1_ n2_ n3_
      (try clear hb)
      (try clear hb2)
      (try clear hk)
      (try clear hi)
      (try clear ho0)
      refine hK.out _ _ ((blk_cell BK291.out 0).trans rfl) (fun hHeld => ?_)
      clear hK K
      refine norm_ (a' := ?_) ?_ ?_
      rotate_left
      ·show Act.put _ (some 17) _ = _
       simp only [Act.put, List.setIfInBounds_toArray, List.set_cons_zero, List.set_cons_succ, i64_w, i32_w]
       rfl
      refine pure_ (i := 7) (N := some 10) (v := ?_) (a' := ?_) #[true, true, true, true, true, true, true, true, false, false, false, false, false] rfl rfl (any_of HT_.out (by kernel_rfl)) (fun _ _ _ h => h) (Or.inl ⟨by rfl, ?_⟩) ?_ ?_
      rotate_left
      ·intro w'
       go_simp
       with_reducible rfl
      rotate_left
      ·simp only [Act.put, List.setIfInBounds_toArray, List.set_cons_zero, List.set_cons_succ, i64_w, i32_w]
       rfl
      refine pure_ (i := 8) (N := some 18) (v := ?_) (a' := ?_) #[true, true, true, true, true, true, true, true, true, false, false, false, false] rfl rfl (any_of HT_.out (by kernel_rfl)) (fun _ _ _ h => h) (Or.inl ⟨by rfl, ?_⟩) ?_ ?_
      rotate_left
      ·intro w'
       go_simp
       with_reducible rfl
      rotate_left
      ·simp only [Act.put, List.setIfInBounds_toArray, List.set_cons_zero, List.set_cons_succ, i64_w, i32_w]
       rfl
      refine pure_ (i := 9) (N := some 19) (v := ?_) (a' := ?_) #[true, true, true, true, true, true, true, true, true, true, false, false, false] rfl rfl (any_of HT_.out (by kernel_rfl)) (fun _ _ _ h => h) (Or.inl ⟨by rfl, ?_⟩) ?_ ?_
      rotate_left
      ·intro w'
       go_simp
       with_reducible rfl
      rotate_left
      ·simp only [Act.put, List.setIfInBounds_toArray, List.set_cons_zero, List.set_cons_succ, i64_w, i32_w]
       rfl
      refine one_ (i := 10) (N := some 4) #[true, true, true, true, true, true, true, true, true, true, true, false, false] rfl rfl (one_of HT_.out (by kernel_rfl)) (by decide) (fun K hK => ?_)
      refine box_step ?hg (N := 4) ?hd (cs := #[.slice none 0 0]) (t := 26) ?hr ?_; (case hd => rfl); (case hg => rfl); (case hr => first | (go_simp; done) | (go_simp; rfl))
      intro gb299 hg w31 hbox hb
      have n0_ := A_ (Kd.R_below (ea HO297) hb)
      have n1_ := A_ (eB BK291 hb)
      have n2_ := A_ (eB BK292 hb)
      have n3_ := A_ (below_step (el HB) hb)
      have n4_ := A_ (hbox)
      have n5_ := A_ ((by rw [hg]; exact (below_size (el HB)) : w.heap.size ≤ gb299))
      have n6_ := A_ ((by rw [hg]; exact (below_size (el HB)) : w.heap.size ≤ gb299))
      have n7_ := A_ ((by rw [hg]; exact Nat.ne_of_lt (eL BK291) : gb291 ≠ gb299))
      have n8_ := A_ ((by rw [hg]; exact Nat.ne_of_gt (eL BK291) : gb299 ≠ gb291))
      have n9_ := A_ ((by rw [hg]; exact Nat.ne_of_lt (eL BK292) : gb292 ≠ gb299))
      have n10_ := A_ ((by rw [hg]; exact Nat.ne_of_gt (eL BK292) : gb299 ≠ gb292))
      clear HO297
      clear BK291
      clear BK292
      clear HB
      have HO297 := n0_
      have BK291 := n1_
      have BK292 := n2_
      have HB := n3_
      have BK299 := n4_
      have GW299 := n5_
      have GE299 := n6_
      have NB291_299 := n7_
      have NB299_291 := n8_
      have NB292_299 := n9_
      have NB299_292 := n10_
      clear n0_ n1_ n2_ n3_ n4_ n5_ n6_ n7_ n8_ n9_ n10_
      clear hb hbox hg
      refine hK.out _ _ ((blk_cell BK291.out 0).trans rfl) (fun hHeld => ?_)
      clear hK K
      refine norm_ (a' := ?_) ?_ ?_
      rotate_left
      ·show Act.put _ (some 4) _ = _
       simp only [Act.put, List.setIfInBounds_toArray, List.set_cons_zero, List.set_cons_succ, i64_w, i32_w]
       rfl
      exact norm_ impl_NextTree.Z1 (hCont (v296, gb299) _ ⟨hHeld, (ea HO297), (eb BK291), (eb BK292), (eb BK299), GW299.out, GE299.out, NB291_299.out, NB299_291.out, NB292_299.out, NB299_292.out, (el HB)⟩)
     ·skip
      refine box_step ?hg (N := 4) ?hd (cs := #[.slice none 0 0]) (t := 26) ?hr ?_; (case hd => rfl); (case hg => rfl); (case hr => first | (go_simp; done) | (go_simp; rfl))
      intro gb299 hg w30 hbox hb
      have n0_ := A_ (eB BK291 hb)
      have n1_ := A_ (eB BK292 hb)
      have n2_ := A_ (below_step (el HB) hb)
      have n3_ := A_ (hbox)
      have n4_ := A_ ((by rw [hg]; exact (below_size (el HB)) : w.heap.size ≤ gb299))
      have n5_ := A_ ((by rw [hg]; exact (below_size (el HB)) : w.heap.size ≤ gb299))
      have n6_ := A_ ((by rw [hg]; exact Nat.ne_of_lt (eL BK291) : gb291 ≠ gb299))
      have n7_ := A_ ((by rw [hg]; exact Nat.ne_of_gt (eL BK291) : gb299 ≠ gb291))
      have n8_ := A_ ((by rw [hg]; exact Nat.ne_of_lt (eL BK292) : gb292 ≠ gb299))
      have n9_ := A_ ((by rw [hg]; exact Nat.ne_of_gt (eL BK292) : gb299 ≠ gb292))
      clear BK291
      clear BK292
      clear HB
      have BK291 := n0_
      have BK292 := n1_
      have HB := n2_
      have BK299 := n3_
      have GW299 := n4_
      have GE299 := n5_
      have NB291_299 := n6_
      have NB299_291 := n7_
      have NB292_299 := n8_
      have NB299_292 := n9_
      clear n0_ n1_ n2_ n3_ n4_ n5_ n6_ n7_ n8_ n9_
      clear hb hbox hg
      refine hK.out _ _ ((blk_cell BK291.out 0).trans rfl) (fun hHeld => ?_)
      clear hK K
      refine norm_ (a' := ?_) ?_ ?_
      rotate_left
      ·show Act.put _ (some 4) _ = _
       simp only [Act.put, List.setIfInBounds_toArray, List.set_cons_zero, List.set_cons_succ, i64_w, i32_w]
       rfl
      refine one_ (i := 6) (N := some 17) #[true, true, true, true, true, true, true, false, false, false, true, false, false] rfl rfl (one_of HT_.out (by kernel_rfl)) (by decide) (fun K hK => ?_)
      refine goes_ Try.func165 (by kernel_rfl) rfl #[.int .i64 (l0_0.length : Int), .int .i64 (wrap64 (t294 + 1))] (by rfl) rfl rfl eg ?_
      with_reducible refine (impl_treeOfRank.calls (l0_0.length : Int) (wrap64 (t294 + 1)) t295 false _ A5.out).mono ?_
      rintro e w31 ⟨v296, rfl, ho0, hb⟩
      refine ⟨_, rfl, ?_⟩
      have n0_ := A_ (Kd.R_lower ho0 (below_size (el HB)))
      have n1_ := A_ (eB BK291 hb)
      have n2_ := A_ (eB BK292 hb)
      have n3_ := A_ (eB BK299 hb)
      have n4_ := A_ (below_step (el HB) hb)
      clear BK291
      clear BK292
      clear BK299
      clear HB
      have HO297 := n0_
      have BK291 := n1_
      have BK292 := n2_
      have BK299 := n3_
      have HB := n4_
      clear n0_ n1_ n2_ n3_ n4_
      (try clear hb)
      (try clear hb2)
      (try clear hk)
      (try clear hi)
      (try clear ho0)
      refine hK.out _ _ ((blk_cell BK291.out 0).trans rfl) (fun hHeld => ?_)
      clear hK K
      refine norm_ (a' := ?_) ?_ ?_
      rotate_left
      ·show Act.put _ (some 17) _ = _
       simp only [Act.put, List.setIfInBounds_toArray, List.set_cons_zero, List.set_cons_succ, i64_w, i32_w]
       rfl
      refine pure_ (i := 7) (N := some 10) (v := ?_) (a' := ?_) #[true, true, true, true, true, true, true, true, false, false, true, false, false] rfl rfl (any_of HT_.out (by kernel_rfl)) (fun _ _ _ h => h) (Or.inl ⟨by rfl, ?_⟩) ?_ ?_
      rotate_left
      ·intro w'
       go_simp
       with_reducible rfl
      rotate_left
      ·simp only [Act.put, List.setIfInBounds_toArray, List.set_cons_zero, List.set_cons_succ, i64_w, i32_w]
       rfl
      refine pure_ (i := 8) (N := some 18) (v := ?_) (a' := ?_) #[true, true, true, true, true, true, true, true, true, false, true, false, false] rfl rfl (any_of HT_.out (by kernel_rfl)) (fun _ _ _ h => h) (Or.inl ⟨by rfl, ?_⟩) ?_ ?_
      rotate_left
      ·intro w'
       go_simp
       with_reducible rfl
      rotate_left
      ·simp only [Act.put, List.setIfInBounds_toArray, List.set_cons_zero, List.set_cons_succ, i64_w, i32_w]
       rfl
      refine pure_ (i := 9) (N := some 19) (v := ?_) (a' := ?_) #[true, true, true, true, true, true, true, true, true, true, true, false, false] rfl rfl (any_of HT_.out (by kernel_rfl)) (fun _ _ _ h => h) (Or.inl ⟨by rfl, ?_⟩) ?_ ?_
      rotate_left
      ·intro w'
       go_simp
       with_reducible rfl
      rotate_left
      ·simp only [Act.put, List.setIfInBounds_toArray, List.set_cons_zero, List.set_cons_succ, i64_w, i32_w]
       rfl
      exact norm_ impl_NextTree.Z1 (hCont (v296, gb299) _ ⟨hHeld, (ea HO297), (eb BK291), (eb BK292), (eb BK299), GW299.out, GE299.out, NB291_299.out, NB299_291.out, NB292_299.out, NB299_292.out, (el HB)⟩)
    ·skip
     refine box_step ?hg (N := 4) ?hd (cs := #[.slice none 0 0]) (t := 26) ?hr ?_; (case hd => rfl); (case hg => rfl); (case hr => first | (go_simp; done) | (go_simp; rfl))
     intro gb299 hg w29 hbox hb
     have n0_ := A_ (eB BK291 hb)
     have n1_ := A_ (eB BK292 hb)
     have n2_ := A_ (below_step (el HB) hb)
     have n3_ := A_ (hbox)
     have n4_ := A_ ((by rw [hg]; exact (below_size (el HB)) : w.heap.size ≤ gb299))
     have n5_ := A_ ((by rw [hg]; exact (below_size (el HB)) : w.heap.size ≤ gb299))
     have n6_ := A_ ((by rw [hg]; exact Nat.ne_of_lt (eL BK291) : gb291 ≠ gb299))
     have n7_ := A_ ((by rw [hg]; exact Nat.ne_of_gt (eL BK291) : gb299 ≠ gb291))
     have n8_ := A_ ((by rw [hg]; exact Nat.ne_of_lt (eL BK292) : gb292 ≠ gb299))
     have n9_ := A_ ((by rw [hg]; exact Nat.ne_of_gt (eL BK292) : gb299 ≠ gb292))
     clear BK291
     clear BK292
     clear HB
     have BK291 := n0_
     have BK292 := n1_
     have HB := n2_
     have BK299 := n3_
     have GW299 := n4_
     have GE299 := n5_
     have NB291_299 := n6_
     have NB299_291 := n7_
     have NB292_299 := n8_
     have NB299_292 := n9_
     clear n0_ n1_ n2_ n3_ n4_ n5_ n6_ n7_ n8_ n9_
     clear hb hbox hg
     refine hK.out _ _ ((blk_cell BK291.out 0).trans rfl) (fun hHeld => ?_)
     clear hK K
     refine norm_ (a' := ?_) ?_ ?_
     rotate_left
     ·show Act.put _ (some 4) _ = _
      simp only [Act.put, List.setIfInBounds_toArray, List.set_cons_zero, List.set_cons_succ, i64_w, i32_w]
      rfl
     refine one_ (i := 4) (N := some 15) #[true, true, true, true, true, false, false, false, false, false, true, false, false] rfl rfl (one_of HT_.out (by kernel_rfl)) (by decide) (fun K hK => ?_)
     refine goes_ Try.func163 (by kernel_rfl) rfl #[.agg #[.slice A0_0 l0_0.length c0_0]] (by rfl) rfl rfl eg ?_
     with_reducible refine (impl_rankOfTree.calls _ _ l0_0 t294 _ ?side1 ?side2 A4.out).mono ?_
     (case side1 => repeat (first | exact (Kd.C_below HR0_0.out HB.out) | (with_reducible refine Kd.C_alloc ?_ _) | (with_reducible refine Kd.C_drewN ?_ _) | (with_reducible refine Kd.C_drew ?_)))
     (case side2 => exact HC0_0.out)
     rintro e w30 ⟨rfl, hb⟩
     refine ⟨_, rfl, ?_⟩
     have n0_ := A_ (eB BK291 hb)
     have n1_ := A_ (eB BK292 hb)
     have n2_ := A_ (eB BK299 hb)
     have n3_ := A_ (below_step (el HB) hb)
     clear BK291
     clear BK292
     clear BK299
     clear HB
     have BK291 := n0_
     have BK292 := n1_
     have BK299 := n2_
     have HB := n3_
     clear n0_ n1_ n2_ n3_
     (try clear hb)
     (try clear hb2)
     (try clear hk)
     (try clear hi)
     refine hK.out _ _ ((blk_cell BK291.out 0).trans rfl) (fun hHeld => ?_)
     clear hK K
     refine norm_ (a' := ?_) ?_ ?_
     rotate_left
     ·show Act.put _ (some 15) _ = _
      simp only [Act.put, List.setIfInBounds_toArray, List.set_cons_zero, List.set_cons_succ, i64_w, i32_w]
      rfl
     refine pure_ (i := 5) (N := some 16) (v := ?_) (a' := ?_) #[true, true, true, true, true, true, false, false, false, false, true, false, false] rfl rfl (any_of HT_.out (by kernel_rfl)) (fun _ _ _ h => h) (Or.inl ⟨by rfl, ?_⟩) ?_ ?_
     rotate_left
     ·intro w'
      go_simp
      with_reducible rfl
     rotate_left
     ·simp only [Act.put, List.setIfInBounds_toArray, List.set_cons_zero, List.set_cons_succ, i64_w, i32_w]
      rfl
     refine one_ (i := 6) (N := some 17) #[true, true, true, true, true, true, true, false, false, false, true, false, false] rfl rfl (one_of HT_.out (by kernel_rfl)) (by decide) (fun K hK => ?_)
     refine goes_ Try.func165 (by kernel_rfl) rfl #[.int .i64 (l0_0.length : Int), .int .i64 (wrap64 (t294 + 1))] (by rfl) rfl rfl eg ?_
     with_reducible refine (impl_treeOfRank.calls (l0_0.length : Int) (wrap64 (t294 + 1)) t295 false _ A5.out).mono ?_
     rintro e w31 ⟨v296, rfl, ho0, hb⟩
     refine ⟨_, rfl, ?_⟩
     have n0_ := A_ (Kd.R_lower ho0 (below_size (el HB)))
     have n1_ := A_ (eB BK291 hb)
     have n2_ := A_ (eB BK292 hb)
     have n3_ := A_ (eB BK299 hb)
     have n4_ := A_ (below_step (el HB) hb)
     clear BK291
     clear BK292
     clear BK299
     clear HB
     have HO297 := n0_
     have BK291 := n1_
     have BK292 := n2_
     have BK299 := n3_
     have HB := n4_
     clear n0_ n1_ n2_ n3_ n4_
     (try clear hb)
     (try clear hb2)
     (try clear hk)
     (try clear hi)
     (try clear ho0)
     refine hK.out _ _ ((blk_cell BK291.out 0).trans rfl) (fun hHeld => ?_)
     clear hK K
     refine norm_ (a' := ?_) ?_ ?_
     rotate_left
     ·show Act.put _ (some 17) _ = _
      simp only [Act.put, List.setIfInBounds_toArray, List.set_cons_zero, List.set_cons_succ, i64_w, i32_w]
      rfl
     refine pure_ (i := 7) (N := some 10) (v := ?_) (a' := ?_) #[true, true, true, true, true, true, true, true, false, false, true, false, false] rfl rfl (any_of HT_.out (by kernel_rfl)) (fun _ _ _ h => h) (Or.inl ⟨by rfl, ?_⟩) ?_ ?_
     rotate_left
     ·intro w'
      go_simp
      with_reducible rfl
     rotate_left
     ·simp only [Act.put, List.setIfInBounds_toArray, List.set_cons_zero, List.set_cons_succ, i64_w, i32_w]
      rfl
     refine pure_ (i := 8) (N := some 18) (v := ?_) (a' := ?_) #[true, true, true, true, true, true, true, true, true, false, true, false, false] rfl rfl (any_of HT_.out (by kernel_rfl)) (fun _ _ _ h => h) (Or.inl ⟨by rfl, ?_⟩) ?_ ?_
     rotate_left
     ·intro w'
      go_simp
      with_reducible rfl
     rotate_left
     ·simp only [Act.put, List.setIfInBounds_toArray, List.set_cons_zero, List.set_cons_succ, i64_w, i32_w]
      rfl
     refine pure_ (i := 9) (N := some 19) (v := ?_) (a' := ?_) #[true, true, true, true, true, true, true, true, true, true, true, false, false] rfl rfl (any_of HT_.out (by kernel_rfl)) (fun _ _ _ h => h) (Or.inl ⟨by rfl, ?_⟩) ?_ ?_
     rotate_left
     ·intro w'
      go_simp
      with_reducible rfl
     rotate_left
     ·simp only [Act.put, List.setIfInBounds_toArray, List.set_cons_zero, List.set_cons_succ, i64_w, i32_w]
      rfl
     exact norm_ impl_NextTree.Z1 (hCont (v296, gb299) _ ⟨hHeld, (ea HO297), (eb BK291), (eb BK292), (eb BK299), GW299.out, GE299.out, NB291_299.out, NB299_291.out, NB292_299.out, NB299_292.out, (el HB)⟩)
   rintro ⟨v296, gb299⟩ w32 ⟨hS_, h0_, h1_, h2_, h3_, h4_, h5_, h6_, h7_, h8_, h9_, h10_⟩
   have n0_ : Aside0 (Kd.R (Kd.int .i64) 2 w32 w.heap.size (fun _ => True) v296 t295) := ⟨h0_⟩
   have n1_ : Aside0 (w32.heap[gb291]? = some (.cells #[.slice A0_0 l0_0.length c0_0] 26 (0, 0))) := ⟨h1_⟩
   have n2_ : Aside0 (w32.heap[gb292]? = some (.cells #[.slice none 0 0] 26 (0, 0))) := ⟨h2_⟩
   have n3_ : Aside0 (w32.heap[gb299]? = some (.cells #[.slice none 0 0] 26 (0, 0))) := ⟨h3_⟩
   have n4_ : Aside0 (w.heap.size ≤ gb299) := ⟨h4_⟩
   have n5_ : Aside0 (w.heap.size ≤ gb299) := ⟨h5_⟩
   have n6_ : Aside0 (gb291 ≠ gb299) := ⟨h6_⟩
   have n7_ : Aside0 (gb299 ≠ gb291) := ⟨h7_⟩
   have n8_ : Aside0 (gb292 ≠ gb299) := ⟨h8_⟩
   have n9_ : Aside0 (gb299 ≠ gb292) := ⟨h9_⟩
   have n10_ : Aside0 (Below w.heap.size w w32) := ⟨h10_⟩
   clear BK291
   clear BK292
   clear HB
   clear h0_ h1_ h2_ h3_ h4_ h5_ h6_ h7_ h8_ h9_ h10_
   have HO297 := n0_
   have BK291 := n1_
   have BK292 := n2_
   have BK299 := n3_
   have GW299 := n4_
   have GE299 := n5_
   have NB291_299 := n6_
   have NB299_291 := n7_
   have NB292_299 := n8_
   have NB299_292 := n9_
   have HB := n10_
   clear n0_ n1_ n2_ n3_ n4_ n5_ n6_ n7_ n8_ n9_ n10_
   have hHeld : w32.cell? ⟨gb291, 0, none⟩ = some (.slice A0_0 l0_0.length c0_0) := hS_
   obtain ⟨Ao33, co33, eo33⟩ := Kd.R_slice HO297.out
   (first | subst eo33 | (injection eo33 with f1_ f2_ f3_; have f4_ := f1_.symm; have f5_ := f3_.symm; clear f1_ f2_ f3_; subst f4_; subst f5_))
   refine norm_ (a' := ?_) ?_ ?_
   rotate_left
   ·simp only [putAll, Act.put, List.setIfInBounds_toArray, List.set_cons_zero, List.set_cons_succ]
    rfl
   refine one_ (i := 11) (N := none) #[true, true, true, true, true, true, true, true, true, true, true, true, false] rfl rfl (one_of HT_.out (by kernel_rfl)) (by decide) (fun K hK => ?_)
   have hs34 : w32.cell? ⟨gb299, 0, none⟩ = some (.slice none 0 0) := (blk_cell BK299.out 0).trans rfl
   have hfs34 := blk_frozen BK299.out 0
   have hns34_0 := NB291_299.out
   have hns34_1 := NB292_299.out
   have hms34_0 := NB299_291.out
   have hms34_1 := NB299_292.out
   refine skip_ (w1 := ?_) (by rfl) rfl ?_ ?_
   rotate_left
   ·go_simp
    rfl
   refine hK.out _ _ (((cell_far (p := ⟨gb299, _, none⟩) NB291_299.out _).trans (hHeld))) (fun hHeld => ?_)
   clear hK K
   refine pure_ (i := 12) (N := some 5) (v := ?_) (a' := ?_) #[true, true, true, true, true, true, true, true, true, true, true, true, true] rfl rfl (any_of HT_.out (by kernel_rfl)) (fun _ _ _ h => h) (Or.inl ⟨by rfl, ?_⟩) ?_ ?_
   rotate_left
   ·intro w'
    go_simp
    with_reducible rfl
   rotate_left
   ·simp only [Act.put, List.setIfInBounds_toArray, List.set_cons_zero, List.set_cons_succ, i64_w, i32_w]
    rfl
   refine done_ (done_of HT_.out (by kernel_rfl)) ?_
   have hnb35 := NB292_299.out
   have hnc35 := NB299_292.out
   have hcz36_0 : w32.cell? ⟨gb292, 0, none⟩ = some (.slice none 0 0) := (blk_cell BK292.out 0).trans rfl
   have hfz36_0 := blk_frozen BK292.out 0
   try go_wp2
   refine bodyPost_ret (results_ct rfl _ _ gb292 26 #[.slice none 0 0] (0, 0) _ rfl impl_NextTree.Z0 Try.underlying26 rfl (by kernel_rfl)) rfl ?_
   exact ⟨_, er, by first | exact Kd.R_nil _ _ _ _ _ | exact Kd.N_nil _ _ _ _ _ | exact Kd.V_nil _ _ _ _ _ | exact Kd.Q_nil _ _ _ _ _ | exact Kd.S_nil _ _ _ _ _, el HB⟩
 ·replace c3 := Bool.eq_false_iff.mpr c3
  subst c3
  have H1 : (some (([] : List Int), 1)) = some (r1, r2) := by rw [if_neg (show ¬ (false = true) by decide)] at H; exact H
  clear H
  have H := H1
  clear H1
  simp only [Option.some.injEq, Prod.mk.injEq] at H
  obtain ⟨rfl, rfl⟩ := H
  go_enter Try.func87, Try.ntmps87
  go_wp2_with (first | ((with_reducible refine gate_dst (N := 1) rfl ?_); refine box_event ?hg (N := 1) ?hd (cs := #[.slice A0_0 l0_0.length c0_0]) (t := 26) ?hr ?_; (case hd => rfl); (case hg => rfl); (case hr => first | (go_simp; done) | (go_simp; rfl)); intro gb291 hg w37 hbox hb; have n0_ := A_ (below_step (el HB) hb); have n1_ := A_ (hbox); have n2_ := A_ ((by rw [hg]; exact (below_size (el HB)) : w.heap.size ≤ gb291)); have n3_ := A_ ((by rw [hg]; exact (below_size (el HB)) : w.heap.size ≤ gb291)); clear HB; have HB := n0_; have BK291 := n1_; have GW291 := n2_; have GE291 := n3_; clear n0_ n1_ n2_ n3_; clear hb hbox hg) | ((with_reducible refine gate_dst (N := 2) rfl ?_); refine box_event ?hg (N := 2) ?hd (cs := #[.slice none 0 0]) (t := 26) ?hr ?_; (case hd => rfl); (case hg => rfl); (case hr => first | (go_simp; done) | (go_simp; rfl)); intro gb292 hg w38 hbox hb; have n0_ := A_ (eB BK291 hb); have n1_ := A_ (below_step (el HB) hb); have n2_ := A_ (hbox); have n3_ := A_ ((by rw [hg]; exact (below_size (el HB)) : w.heap.size ≤ gb292)); have n4_ := A_ ((by rw [hg]; exact (below_size (el HB)) : w.heap.size ≤ gb292)); have n5_ := A_ ((by rw [hg]; exact Nat.ne_of_lt (eL BK291) : gb291 ≠ gb292)); have n6_ := A_ ((by rw [hg]; exact Nat.ne_of_gt (eL BK291) : gb292 ≠ gb291)); clear BK291; clear HB; have BK291 := n0_; have HB := n1_; have BK292 := n2_; have GW292 := n3_; have GE292 := n4_; have NB291_292 := n5_; have NB292_291 := n6_; clear n0_ n1_ n2_ n3_ n4_ n5_ n6_; clear hb hbox hg; have hnb39 := NB291_292.out; have hnc39 := NB292_291.out; have hcz40_0 : w38.cell? ⟨gb291, 0, none⟩ = some (.slice A0_0 l0_0.length c0_0) := (blk_cell BK291.out 0).trans rfl; have hfz40_0 := blk_frozen BK291.out 0) | ((with_reducible refine gate_callee (f := 24) rfl ?_); refine goesL_ (some 7) rfl rfl Try.func24 (by kernel_rfl) rfl #[.agg #[.slice A0_0 l0_0.length c0_0]] rfl eg ?_; (with_reducible refine (impl_IsTree.calls k _ _ l0_0 false _ ?side1 ?side2 A2.out).mono ?_); (case side1 => repeat (first | exact (Kd.C_below HR0_0.out HB.out) | (with_reducible refine Kd.C_alloc ?_ _) | (with_reducible refine Kd.C_drewN ?_ _) | (with_reducible refine Kd.C_drew ?_))); (case side2 => exact HC0_0.out); rintro e w41 ⟨rfl, hb⟩; refine ⟨_, rfl, ?_⟩; have n0_ := A_ (eB BK291 hb); have n1_ := A_ (eB BK292 hb); have n2_ := A_ (below_step (el HB) hb); clear BK291; clear BK292; clear HB; have BK291 := n0_; have BK292 := n1_; have HB := n2_; clear n0_ n1_ n2_; (try clear hb); (try clear hb2); (try clear hk); (try clear hi); have hcz42_0 : w41.cell? ⟨gb292, 0, none⟩ = some (.slice none 0 0) := (blk_cell BK292.out 0).trans rfl; have hfz42_0 := blk_frozen BK292.out 0))
  refine bodyPost_ret (results_ct rfl _ _ gb292 26 #[.slice none 0 0] (0, 0) _ rfl (by (with_reducible repeat (first | refine blk_drewN ?_ _ | refine blk_drew ?_ | refine blk_alloc ?_ _)); refine blk_put (cs := #[.slice none 0 0]) ?_ 0 _ rfl; (with_reducible repeat (first | refine blk_drewN ?_ _ | refine blk_drew ?_ | refine blk_alloc ?_ _)); exact BK292.out) Try.underlying26 rfl (by kernel_rfl)) rfl ?_
  exact ⟨_, er, by first | exact Kd.R_nil _ _ _ _ _ | exact Kd.N_nil _ _ _ _ _ | exact Kd.V_nil _ _ _ _ _ | exact Kd.Q_nil _ _ _ _ _ | exact Kd.S_nil _ _ _ _ _, el HB⟩

end Go.Proofs.Ytocachknmgefaaa.QFnRanks
