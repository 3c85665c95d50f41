/- Functions of the program as plain Lean functions, each with a proof that the machine's call answers what it answers. Conditions: none. -/
import Derived.Test.YtocachknmgefaaaQFnRanksx0
import Derived.Test.YtocachknmgefaaaQFnRanksx3
import Derived.Test.YtocachknmgefaaaQFnRanksx5
import Derived.Test.YtocachknmgefaaaQFnRanksx6
import Derived.Test.YtocachknmgefaaaQFnRanksx8
namespace Go.Proofs.Ytocachknmgefaaa.QFnRanks
open Go.RowKit Go.Proofs.YtocachknmgefaaaW.PrintWords Go.Proofs.YtocachknmgefaaaW.PrintLast Go.Proofs.YtocachknmgefaaaW.PrintMore
attribute [local go_sem] max2_int min2_int max_two min_two max_three min_three max_four min_four   -- for this text's walks alone
set_option linter.unusedVariables false
set_option linter.unusedSimpArgs false

/-! ### spec_NextTree: function 88 -/
def spec_NextTree.f (k : Nat) (l0_0 : List Int) : Option (List Int × Int) := (spec_l01Is.f k l0_0).bind fun t318 => (if t318 = true then ((spec_l01N.f l0_0).bind fun t319 => ((spec_l02Rank.f k l0_0).bind fun t320 => ((spec_l02Tree.f k t319 (wrap64 (t320 + 1))).bind fun bt321 => (if bt321.2 = true then (some (bt321.1, 0)) else (some (([] : List Int), 4)))))) else (some (([] : List Int), 1)))
theorem spec_NextTree.mono : ∀ a0 k, LeO (spec_NextTree.f k a0) (spec_NextTree.f (k + 1) a0) := by
  intro a0 k
  unfold spec_NextTree.f
  repeat' first
      | (with_reducible exact spec_l01Is.mono _ _)
      | (with_reducible exact spec_l02Rank.mono _ _)
      | (with_reducible exact spec_l02Tree.mono _ _ _)
      | (with_reducible exact LeO.refl _)
      | (with_reducible exact LeO.none _)
      | (with_reducible refine LeO.ite ?_ ?_)
      | (with_reducible refine LeO.bind ?_ (fun _ => ?_))
      | exact spec_l01Is.mono _ _
      | exact spec_l02Rank.mono _ _
      | exact spec_l02Tree.mono _ _ _
      | exact LeO.none _
      | refine LeO.ite ?_ ?_
      | refine LeO.bind ?_ (fun _ => ?_)
def spec_NextTree.T3 : Bool × List (List Nat × List Nat) := (true, [([], []), ([0], [0]), ([], []), ([2, 1], [2]), ([3], [3]), ([1, 4, 3], [1, 4]), ([5], [5]), ([6], [6]), ([6], [6]), ([], []), ([9, 7, 5, 0, 1, 2, 3, 4, 5, 6, 7, 9], [7, 9]), ([8, 10, 0, 1, 2, 3, 4, 5, 6, 7, 8, 9, 10], [8])])
def spec_NextTree.B3 : List Nat := [0, 1, 0, 7, 15, 31, 63, 127, 127, 0, 767, 2047]
theorem spec_NextTree.tab3 : rtab .any (opsOf Try.f88 3) = spec_NextTree.T3 := by kernel_rfl
theorem spec_NextTree.bits3 : waitsOk spec_NextTree.T3.2 spec_NextTree.B3 = true := by kernel_rfl
theorem spec_NextTree.Z0 {p : Prop} (h : p := by (with_reducible repeat (first | refine blk_drewN ?_ _ | refine blk_drew ?_ | refine blk_alloc ?_ _)); refine blk_put (cs := #[.slice none 0 0]) ?_ 0 _ rfl; (with_reducible repeat (first | refine blk_drewN ?_ _ | refine blk_drew ?_ | refine blk_alloc ?_ _)); refine blk_far ?_ NB317_325.out _; (with_reducible repeat (first | refine blk_drewN ?_ _ | refine blk_drew ?_ | refine blk_alloc ?_ _)); exact BK317.out) : p := h
theorem spec_NextTree.Z1 {p : Prop} (h : p := by simp only [putAll, Act.put, List.setIfInBounds_toArray, List.set_cons_zero, List.set_cons_succ]) : p := h
set_option maxHeartbeats 8000000 in
set_option maxRecDepth 100000 in
theorem spec_NextTree.calls (k : Nat) (A0_0 : Option Addr) (c0_0 : Nat) (l0_0 : List Int) (r1 : List Int) (r2 : Int) (w : World) (hr0_0 : Kd.C (Kd.int .i64) w A0_0 l0_0.length l0_0) (hc0_0 : l0_0.length ≤ c0_0) (h : spec_NextTree.f k l0_0 = some (r1, r2)) :
  Calls Try.prog 88 #[.agg #[.slice A0_0 l0_0.length c0_0]] w fun e w' => ∃ v0_ : Value, e = .returned (.tuple #[.agg #[v0_], .int .i64 r2]) ∧ Kd.R (Kd.int .i64) 2 w' w.heap.size (fun _ => True) v0_ r1 ∧ Below w.heap.size w w' := by
 have hu26 := Try.underlying26
 have HR0_0 := A_ hr0_0
 have HC0_0 := A_ hc0_0
 clear hr0_0 hc0_0
 have HB := A_ (Below.refl w.heap.size w)
 have H : ((spec_l01Is.f k l0_0).bind fun t318 => (if t318 = true then ((spec_l01N.f l0_0).bind fun t319 => ((spec_l02Rank.f k l0_0).bind fun t320 => ((spec_l02Tree.f k t319 (wrap64 (t320 + 1))).bind fun bt321 => (if bt321.2 = true then (some (bt321.1, 0)) else (some (([] : List Int), 4)))))) else (some (([] : List Int), 1)))) = some (r1, r2) := h
 clear h
 replace H := Option.bind_eq_some_iff.mp H
 obtain ⟨t318, A20, H⟩ := H
 replace H : (if t318 = true then ((spec_l01N.f l0_0).bind fun t319 => ((spec_l02Rank.f k l0_0).bind fun t320 => ((spec_l02Tree.f k t319 (wrap64 (t320 + 1))).bind fun bt321 => (if bt321.2 = true then (some (bt321.1, 0)) else (some (([] : List Int), 4)))))) else (some (([] : List Int), 1))) = some (r1, r2) := H
 have A2 := A_ A20
 clear A20
 by_cases c3 : t318 = true
 ·subst c3
  have H1 : ((spec_l01N.f l0_0).bind fun t319 => ((spec_l02Rank.f k l0_0).bind fun t320 => ((spec_l02Tree.f k t319 (wrap64 (t320 + 1))).bind fun bt321 => (if bt321.2 = true then (some (bt321.1, 0)) else (some (([] : List Int), 4)))))) = some (r1, r2) := by rw [if_pos rfl] at H; exact H
  clear H
  have H := H1
  clear H1
  replace H := Option.bind_eq_some_iff.mp H
  obtain ⟨t319, A40, H⟩ := H
  replace H : ((spec_l02Rank.f k l0_0).bind fun t320 => ((spec_l02Tree.f k t319 (wrap64 (t320 + 1))).bind fun bt321 => (if bt321.2 = true then (some (bt321.1, 0)) else (some (([] : List Int), 4))))) = some (r1, r2) := H
  have A4 := A_ A40
  clear A40
  replace H := Option.bind_eq_some_iff.mp H
  obtain ⟨t320, A50, H⟩ := H
  replace H : ((spec_l02Tree.f k t319 (wrap64 (t320 + 1))).bind fun bt321 => (if bt321.2 = true then (some (bt321.1, 0)) else (some (([] : List Int), 4)))) = some (r1, r2) := H
  have A5 := A_ A50
  clear A50
  replace H := Option.bind_eq_some_iff.mp H
  obtain ⟨⟨t321, t324⟩, A60, H⟩ := H
  replace H : (if t324 = true then (some (t321, 0)) else (some (([] : List Int), 4))) = some (r1, r2) := H
  have A6 := A_ A60
  clear A60
  by_cases c7 : t324 = true
  ·subst c7
   have H1 : (some (t321, 0)) = some (r1, r2) := by rw [if_pos rfl] at H; exact H
   clear H
   have H := H1
   clear H1
   simp only [Option.some.injEq, Prod.mk.injEq] at H
   obtain ⟨rfl, rfl⟩ := H
   go_enter Try.func88, Try.ntmps88
   try go_wp2_with (first | ((with_reducible refine gate_dst (N := 1) rfl ?_); refine box_event ?hg (N := 1) ?hd (cs := #[.slice A0_0 l0_0.length c0_0]) (t := 26) ?hr ?_; (case hd => rfl); (case hg => rfl); (case hr => first | (go_simp; done) | (go_simp; rfl)); intro gb316 hg w8 hbox hb; have n0_ := A_ (below_step (el HB) hb); have n1_ := A_ (hbox); have n2_ := A_ ((by rw [hg]; exact (below_size (el HB)) : w.heap.size ≤ gb316)); have n3_ := A_ ((by rw [hg]; exact (below_size (el HB)) : w.heap.size ≤ gb316)); clear HB; have HB := n0_; have BK316 := n1_; have GW316 := n2_; have GE316 := n3_; clear n0_ n1_ n2_ n3_; clear hb hbox hg) | ((with_reducible refine gate_dst (N := 2) rfl ?_); refine box_event ?hg (N := 2) ?hd (cs := #[.slice none 0 0]) (t := 26) ?hr ?_; (case hd => rfl); (case hg => rfl); (case hr => first | (go_simp; done) | (go_simp; rfl)); intro gb317 hg w9 hbox hb; have n0_ := A_ (eB BK316 hb); have n1_ := A_ (below_step (el HB) hb); have n2_ := A_ (hbox); have n3_ := A_ ((by rw [hg]; exact (below_size (el HB)) : w.heap.size ≤ gb317)); have n4_ := A_ ((by rw [hg]; exact (below_size (el HB)) : w.heap.size ≤ gb317)); have n5_ := A_ ((by rw [hg]; exact Nat.ne_of_lt (eL BK316) : gb316 ≠ gb317)); have n6_ := A_ ((by rw [hg]; exact Nat.ne_of_gt (eL BK316) : gb317 ≠ gb316)); clear BK316; clear HB; have BK316 := n0_; have HB := n1_; have BK317 := n2_; have GW317 := n3_; have GE317 := n4_; have NB316_317 := n5_; have NB317_316 := n6_; clear n0_ n1_ n2_ n3_ n4_ n5_ n6_; clear hb hbox hg; have hnb10 := NB316_317.out; have hnc10 := NB317_316.out; have hcz11_0 : w9.cell? ⟨gb316, 0, none⟩ = some (.slice A0_0 l0_0.length c0_0) := (blk_cell BK316.out 0).trans rfl; have hfz11_0 := blk_frozen BK316.out 0) | ((with_reducible refine gate_callee (f := 101) rfl ?_); refine goesL_ (some 7) rfl rfl Try.func101 (by kernel_rfl) rfl #[.agg #[.slice A0_0 l0_0.length c0_0]] rfl eg ?_; (with_reducible refine (spec_l01Is.calls k _ _ l0_0 true _ ?side1 ?side2 A2.out).mono ?_); (case side1 => repeat (first | exact (Kd.C_below HR0_0.out HB.out) | (with_reducible refine Kd.C_alloc ?_ _) | (with_reducible refine Kd.C_drewN ?_ _) | (with_reducible refine Kd.C_drew ?_))); (case side2 => exact HC0_0.out); rintro e w12 ⟨rfl, hb⟩; refine ⟨_, rfl, ?_⟩; have n0_ := A_ (eB BK316 hb); have n1_ := A_ (eB BK317 hb); have n2_ := A_ (below_step (el HB) hb); clear BK316; clear BK317; clear HB; have BK316 := n0_; have BK317 := n1_; have HB := n2_; clear n0_ n1_ n2_; (try clear hb); (try clear hb2); (try clear hk); (try clear hi)))
   have n0_ := A_ (blk_drew BK316.out)
   have n1_ := A_ (blk_drew BK317.out)
   have n2_ := A_ (below_drew1 HB.out)
   clear BK316
   clear BK317
   clear HB
   have BK316 := n0_
   have BK317 := n1_
   have HB := n2_
   clear n0_ n1_ n2_
   refine start_ (n := 12) (S := fun w' => w'.cell? ⟨gb316, 0, none⟩ = some (.slice A0_0 l0_0.length c0_0)) (ds := []) #[false, false, false, false, false, false, false, false, false, false, false, false] (by kernel_rfl) rfl rfl ((blk_cell BK316.out 0).trans rfl) (fun hHeld => ?_); refine with_tabW spec_NextTree.tab3 spec_NextTree.bits3 (fun HT_ HW_ => ?_)
   generalize w12.drew = w13 at BK316 BK317 HB hHeld ⊢
   refine take_ (i := 0) (N := some 11) (v := ?_) (a' := ?_) #[true, false, false, false, false, false, false, false, false, false, false, false] rfl rfl (take_ofW HT_.out HW_.out (by kernel_rfl)) (fun _ _ _ h => h) (Or.inl ⟨by rfl, ?_⟩) hHeld ?_ ?_
   rotate_left
   ·intro w' s0
    go_simp
    with_reducible rfl
   rotate_left
   ·simp only [Act.put, List.setIfInBounds_toArray, List.set_cons_zero, List.set_cons_succ, i64_w, i32_w]
    rfl
   refine take_ (i := 2) (N := some 13) (v := ?_) (a' := ?_) #[true, false, true, false, false, false, false, false, false, false, false, false] rfl rfl (take_ofW HT_.out HW_.out (by kernel_rfl)) (fun _ _ _ h => h) (Or.inl ⟨by rfl, ?_⟩) hHeld ?_ ?_
   rotate_left
   ·intro w' s0
    go_simp
    with_reducible rfl
   rotate_left
   ·simp only [Act.put, List.setIfInBounds_toArray, List.set_cons_zero, List.set_cons_succ, i64_w, i32_w]
    rfl
   refine join_ (σ := Value × Nat) 2 #[true, true, true, true, true, true, true, true, true, true, false, false] (fun s_ => [(12, .int .i64 t319), (14, .int .i64 t320), (16, .tuple #[.agg #[s_.1], .bool true]), (4, .pointer (some ⟨s_.2, 0, none⟩)), (15, .int .i64 (wrap64 (t320 + 1))), (10, .tuple #[.agg #[s_.1], .bool true]), (17, .agg #[s_.1]), (18, .bool true)]) (fun s_ w' => (w'.cell? ⟨gb316, 0, none⟩ = some (.slice A0_0 l0_0.length c0_0)) ∧ (Kd.R (Kd.int .i64) 2 w' w.heap.size (fun _ => True) s_.1 t321) ∧ (w'.heap[gb316]? = some (.cells #[.slice A0_0 l0_0.length c0_0] 26 (0, 0))) ∧ (w'.heap[gb317]? = some (.cells #[.slice none 0 0] 26 (0, 0))) ∧ (w'.heap[s_.2]? = some (.cells #[.slice none 0 0] 26 (0, 0))) ∧ (w.heap.size ≤ s_.2) ∧ (w.heap.size ≤ s_.2) ∧ (gb316 ≠ s_.2) ∧ (s_.2 ≠ gb316) ∧ (gb317 ≠ s_.2) ∧ (s_.2 ≠ gb317) ∧ (Below w.heap.size w w')) ?_ ?_
   rotate_left
   ·intro hCont
    refine two_ (i := 1) (j := 9) (Ni := some 12) (Nj := some 4) #[true, true, true, false, false, false, false, false, false, false, false, false] #[true, false, true, false, false, false, false, false, false, true, false, false] rfl rfl rfl rfl (two_of HT_.out (by kernel_rfl)) (by decide) (by decide) (fun K hK => ?_) (fun K hK => ?_)
    ·skip
     refine goes_ Try.func102 (by kernel_rfl) rfl #[.agg #[.slice A0_0 l0_0.length c0_0]] (by rfl) rfl rfl eg ?_
     with_reducible refine (spec_l01N.calls _ _ l0_0 t319 _ ?side1 ?side2 A4.out).mono ?_
     (case side1 => repeat (first | exact (Kd.C_below HR0_0.out HB.out) | (with_reducible refine Kd.C_alloc ?_ _) | (with_reducible refine Kd.C_drewN ?_ _) | (with_reducible refine Kd.C_drew ?_)))
     (case side2 => exact HC0_0.out)
     rintro e w14 ⟨rfl, hb⟩
     refine ⟨_, rfl, ?_⟩
     have n0_ := A_ (eB BK316 hb)
     have n1_ := A_ (eB BK317 hb)
     have n2_ := A_ (below_step (el HB) hb)
     clear BK316
     clear BK317
     clear HB
     have BK316 := n0_
     have BK317 := n1_
     have HB := n2_
     clear n0_ n1_ n2_
     (try clear hb)
     (try clear hb2)
     (try clear hk)
     (try clear hi)
     refine hK.out _ _ ((blk_cell BK316.out 0).trans rfl) (fun hHeld => ?_)
     clear hK K
     refine norm_ (a' := ?_) ?_ ?_
     rotate_left
     ·show Act.put _ (some 12) _ = _
      simp only [Act.put, List.setIfInBounds_toArray, List.set_cons_zero, List.set_cons_succ, i64_w, i32_w]
      rfl
     refine two_ (i := 3) (j := 9) (Ni := some 14) (Nj := some 4) #[true, true, true, true, false, false, false, false, false, false, false, false] #[true, true, true, false, false, false, false, false, false, true, false, false] rfl rfl rfl rfl (two_of HT_.out (by kernel_rfl)) (by decide) (by decide) (fun K hK => ?_) (fun K hK => ?_)
     ·skip
      refine goes_ Try.func164 (by kernel_rfl) rfl #[.agg #[.slice A0_0 l0_0.length c0_0]] (by rfl) rfl rfl eg ?_
      with_reducible refine (spec_l02Rank.calls k _ _ l0_0 t320 _ ?side1 ?side2 A5.out).mono ?_
      (case side1 => repeat (first | exact (Kd.C_below HR0_0.out HB.out) | (with_reducible refine Kd.C_alloc ?_ _) | (with_reducible refine Kd.C_drewN ?_ _) | (with_reducible refine Kd.C_drew ?_)))
      (case side2 => exact HC0_0.out)
      rintro e w15 ⟨rfl, hb⟩
      refine ⟨_, rfl, ?_⟩
      have n0_ := A_ (eB BK316 hb)
      have n1_ := A_ (eB BK317 hb)
      have n2_ := A_ (below_step (el HB) hb)
      clear BK316
      clear BK317
      clear HB
      have BK316 := n0_
      have BK317 := n1_
      have HB := n2_
      clear n0_ n1_ n2_
      (try clear hb)
      (try clear hb2)
      (try clear hk)
      (try clear hi)
      refine hK.out _ _ ((blk_cell BK316.out 0).trans rfl) (fun hHeld => ?_)
      clear hK K
      refine norm_ (a' := ?_) ?_ ?_
      rotate_left
      ·show Act.put _ (some 14) _ = _
       simp only [Act.put, List.setIfInBounds_toArray, List.set_cons_zero, List.set_cons_succ, i64_w, i32_w]
       rfl
      refine pure_ (i := 4) (N := some 15) (v := ?_) (a' := ?_) #[true, true, true, true, true, false, false, false, false, false, false, false] rfl rfl (any_of HT_.out (by kernel_rfl)) (fun _ _ _ h => h) (Or.inl ⟨by rfl, ?_⟩) ?_ ?_
      rotate_left
      ·intro w'
       go_simp
       with_reducible rfl
      rotate_left
      ·simp only [Act.put, List.setIfInBounds_toArray, List.set_cons_zero, List.set_cons_succ, i64_w, i32_w]
       rfl
      refine two_ (i := 5) (j := 9) (Ni := some 16) (Nj := some 4) #[true, true, true, true, true, true, false, false, false, false, false, false] #[true, true, true, true, true, false, false, false, false, true, false, false] rfl rfl rfl rfl (two_of HT_.out (by kernel_rfl)) (by decide) (by decide) (fun K hK => ?_) (fun K hK => ?_)
      ·skip
       refine goes_ Try.func161 (by kernel_rfl) rfl #[.int .i64 t319, .int .i64 (wrap64 (t320 + 1))] (by rfl) rfl rfl eg ?_
       with_reducible refine (spec_l02Tree.calls k t319 (wrap64 (t320 + 1)) t321 true _ A6.out).mono ?_
       rintro e w16 ⟨v322, rfl, ho0, hb⟩
       refine ⟨_, rfl, ?_⟩
       have n0_ := A_ (Kd.R_lower ho0 (below_size (el HB)))
       have n1_ := A_ (eB BK316 hb)
       have n2_ := A_ (eB BK317 hb)
       have n3_ := A_ (below_step (el HB) hb)
       clear BK316
       clear BK317
       clear HB
       have HO323 := n0_
       have BK316 := n1_
       have BK317 := n2_
       have HB := n3_
       clear n0_ n1_ n2_ n3_
       (try clear hb)
       (try clear hb2)
       (try clear hk)
       (try clear hi)
       (try clear ho0)
       refine hK.out _ _ ((blk_cell BK316.out 0).trans rfl) (fun hHeld => ?_)
       clear hK K
       refine norm_ (a' := ?_) ?_ ?_
       rotate_left
       ·show Act.put _ (some 16) _ = _
        simp only [Act.put, List.setIfInBounds_toArray, List.set_cons_zero, List.set_cons_succ, i64_w, i32_w]
        rfl
       refine pure_ (i := 6) (N := some 10) (v := ?_) (a' := ?_) #[true, true, true, true, true, true, true, false, false, false, false, false] rfl rfl (any_of HT_.out (by kernel_rfl)) (fun _ _ _ h => h) (Or.inl ⟨by rfl, ?_⟩) ?_ ?_
       rotate_left
       ·intro w'
        go_simp
        with_reducible rfl
       rotate_left
       ·simp only [Act.put, List.setIfInBounds_toArray, List.set_cons_zero, List.set_cons_succ, i64_w, i32_w]
        rfl
       refine pure_ (i := 7) (N := some 17) (v := ?_) (a' := ?_) #[true, true, true, true, true, true, true, true, false, false, false, false] rfl rfl (any_of HT_.out (by kernel_rfl)) (fun _ _ _ h => h) (Or.inl ⟨by rfl, ?_⟩) ?_ ?_
       rotate_left
       ·intro w'
        go_simp
        with_reducible rfl
       rotate_left
       ·simp only [Act.put, List.setIfInBounds_toArray, List.set_cons_zero, List.set_cons_succ, i64_w, i32_w]
        rfl
       refine pure_ (i := 8) (N := some 18) (v := ?_) (a' := ?_) #[true, true, true, true, true, true, true, true, true, false, false, false] rfl rfl (any_of HT_.out (by kernel_rfl)) (fun _ _ _ h => h) (Or.inl ⟨by rfl, ?_⟩) ?_ ?_
       rotate_left
       ·intro w'
        go_simp
        with_reducible rfl
       rotate_left
       ·simp only [Act.put, List.setIfInBounds_toArray, List.set_cons_zero, List.set_cons_succ, i64_w, i32_w]
        rfl
       refine one_ (i := 9) (N := some 4) #[true, true, true, true, true, true, true, true, true, true, false, false] rfl rfl (one_of HT_.out (by kernel_rfl)) (by decide) (fun K hK => ?_)
       refine box_step ?hg (N := 4) ?hd (cs := #[.slice none 0 0]) (t := 26) ?hr ?_; (case hd => rfl); (case hg => rfl); (case hr => first | (go_simp; done) | (go_simp; rfl))
       intro gb325 hg w17 hbox hb
       have n0_ := A_ (Kd.R_below (ea HO323) hb)
       have n1_ := A_ (eB BK316 hb)
       have n2_ := A_ (eB BK317 hb)
       have n3_ := A_ (below_step (el HB) hb)
       have n4_ := A_ (hbox)
       have n5_ := A_ ((by rw [hg]; exact (below_size (el HB)) : w.heap.size ≤ gb325))
       have n6_ := A_ ((by rw [hg]; exact (below_size (el HB)) : w.heap.size ≤ gb325))
       have n7_ := A_ ((by rw [hg]; exact Nat.ne_of_lt (eL BK316) : gb316 ≠ gb325))
       have n8_ := A_ ((by rw [hg]; exact Nat.ne_of_gt (eL BK316) : gb325 ≠ gb316))
       have n9_ := A_ ((by rw [hg]; exact Nat.ne_of_lt (eL BK317) : gb317 ≠ gb325))
       have n10_ := A_ ((by rw [hg]; exact Nat.ne_of_gt (eL BK317) : gb325 ≠ gb317))
       clear HO323
       clear BK316
       clear BK317
       clear HB
       have HO323 := n0_
       have BK316 := n1_
       have BK317 := n2_
       have HB := n3_
       have BK325 := n4_
       have GW325 := n5_
       have GE325 := n6_
       have NB316_325 := n7_
       have NB325_316 := n8_
       have NB317_325 := n9_
       have NB325_317 := n10_
       clear n0_ n1_ n2_ n3_ n4_ n5_ n6_ n7_ n8_ n9_ n10_
       clear hb hbox hg
       refine hK.out _ _ ((blk_cell BK316.out 0).trans rfl) (fun hHeld => ?_)
       clear hK K
       refine norm_ (a' := ?_) ?_ ?_
       rotate_left
       ·show Act.put _ (some 4) _ = _
        simp only [Act.put, List.setIfInBounds_toArray, List.set_cons_zero, List.set_cons_succ, i64_w, i32_w]
        rfl
       exact norm_ spec_NextTree.Z1 (hCont (v322, gb325) _ ⟨hHeld, (ea HO323), (eb BK316), (eb BK317), (eb BK325), GW325.out, GE325.out, NB316_325.out, NB325_316.out, NB317_325.out, NB325_317.out, (el HB)⟩)
      ·skip
       refine box_step ?hg (N := 4) ?hd (cs := #[.slice none 0 0]) (t := 26) ?hr ?_; (case hd => rfl); (case hg => rfl); (case hr => first | (go_simp; done) | (go_simp; rfl))
       intro gb325 hg w16 hbox hb
       have n0_ := A_ (eB BK316 hb)
       have n1_ := A_ (eB BK317 hb)
       have n2_ := A_ (below_step (el HB) hb)
       have n3_ := A_ (hbox)
       have n4_ := A_ ((by rw [hg]; exact (below_size (el HB)) : w.heap.size ≤ gb325))
       have n5_ := A_ ((by rw [hg]; exact (below_size (el HB)) : w.heap.size ≤ gb325))
       have n6_ := A_ ((by rw [hg]; exact Nat.ne_of_lt (eL BK316) : gb316 ≠ gb325))
       have n7_ := A_ ((by rw [hg]; exact Nat.ne_of_gt (eL BK316) : gb325 ≠ gb316))
       have n8_ := A_ ((by rw [hg]; exact Nat.ne_of_lt (eL BK317) : gb317 ≠ gb325))
       have n9_ := A_ ((by rw [hg]; exact Nat.ne_of_gt (eL BK317) : gb325 ≠ gb317))
       clear BK316
       clear BK317
       clear HB
       have BK316 := n0_
       have BK317 := n1_
       have HB := n2_
       have BK325 := n3_
       have GW325 := n4_
       have GE325 := n5_
       have NB316_325 := n6_
       have NB325_316 := n7_
       have NB317_325 := n8_
       have NB325_317 := n9_
       clear n0_ n1_ n2_ n3_ n4_ n5_ n6_ n7_ n8_ n9_
       clear hb hbox hg
       refine hK.out _ _ ((blk_cell BK316.out 0).trans rfl) (fun hHeld => ?_)
       clear hK K
       refine norm_ (a' := ?_) ?_ ?_
       rotate_left
       ·show Act.put _ (some 4) _ = _
        simp only [Act.put, List.setIfInBounds_toArray, List.set_cons_zero, List.set_cons_succ, i64_w, i32_w]
        rfl
       refine one_ (i := 5) (N := some 16) #[true, true, true, true, true, true, false, false, false, true, false, false] rfl rfl (one_of HT_.out (by kernel_rfl)) (by decide) (fun K hK => ?_)
       refine goes_ Try.func161 (by kernel_rfl) rfl #[.int .i64 t319, .int .i64 (wrap64 (t320 + 1))] (by rfl) rfl rfl eg ?_
       with_reducible refine (spec_l02Tree.calls k t319 (wrap64 (t320 + 1)) t321 true _ A6.out).mono ?_
       rintro e w17 ⟨v322, rfl, ho0, hb⟩
       refine ⟨_, rfl, ?_⟩
       have n0_ := A_ (Kd.R_lower ho0 (below_size (el HB)))
       have n1_ := A_ (eB BK316 hb)
       have n2_ := A_ (eB BK317 hb)
       have n3_ := A_ (eB BK325 hb)
       have n4_ := A_ (below_step (el HB) hb)
       clear BK316
       clear BK317
       clear BK325
       clear HB
       have HO323 := n0_
       have BK316 := n1_
       have BK317 := n2_
       have BK325 := n3_
       have HB := n4_
       clear n0_ n1_ n2_ n3_ n4_
       (try clear hb)
       (try clear hb2)
       (try clear hk)
       (try clear hi)
       (try clear ho0)
       refine hK.out _ _ ((blk_cell BK316.out 0).trans rfl) (fun hHeld => ?_)
       clear hK K
       refine norm_ (a' := ?_) ?_ ?_
       rotate_left
       ·show Act.put _ (some 16) _ = _
        simp only [Act.put, List.setIfInBounds_toArray, List.set_cons_zero, List.set_cons_succ, i64_w, i32_w]
        rfl
       refine pure_ (i := 6) (N := some 10) (v := ?_) (a' := ?_) #[true, true, true, true, true, true, true, false, false, true, false, false] rfl rfl (any_of HT_.out (by kernel_rfl)) (fun _ _ _ h => h) (Or.inl ⟨by rfl, ?_⟩) ?_ ?_
       rotate_left
       ·intro w'
        go_simp
        with_reducible rfl
       rotate_left
       ·simp only [Act.put, List.setIfInBounds_toArray, List.set_cons_zero, List.set_cons_succ, i64_w, i32_w]
        rfl
       refine pure_ (i := 7) (N := some 17) (v := ?_) (a' := ?_) #[true, true, true, true, true, true, true, true, false, true, false, false] rfl rfl (any_of HT_.out (by kernel_rfl)) (fun _ _ _ h => h) (Or.inl ⟨by rfl, ?_⟩) ?_ ?_
       rotate_left
       ·intro w'
        go_simp
        with_reducible rfl
       rotate_left
       ·simp only [Act.put, List.setIfInBounds_toArray, List.set_cons_zero, List.set_cons_succ, i64_w, i32_w]
        rfl
       refine pure_ (i := 8) (N := some 18) (v := ?_) (a' := ?_) #[true, true, true, true, true, true, true, true, true, true, false, false] rfl rfl (any_of HT_.out (by kernel_rfl)) (fun _ _ _ h => h) (Or.inl ⟨by rfl, ?_⟩) ?_ ?_
       rotate_left
       ·intro w'
        go_simp
        with_reducible rfl
       rotate_left
       ·simp only [Act.put, List.setIfInBounds_toArray, List.set_cons_zero, List.set_cons_succ, i64_w, i32_w]
        rfl
       exact norm_ spec_NextTree.Z1 (hCont (v322, gb325) _ ⟨hHeld, (ea HO323), (eb BK316), (eb BK317), (eb BK325), GW325.out, GE325.out, NB316_325.out, NB325_316.out, NB317_325.out, NB325_317.out, (el HB)⟩)
     ·skip
      refine box_step ?hg (N := 4) ?hd (cs := #[.slice none 0 0]) (t := 26) ?hr ?_; (case hd => rfl); (case hg => rfl); (case hr => first | (go_simp; done) | (go_simp; rfl))
      intro gb325 hg w15 hbox hb
      have n0_ := A_ (eB BK316 hb)
      have n1_ := A_ (eB BK317 hb)
      have n2_ := A_ (below_step (el HB) hb)
      have n3_ := A_ (hbox)
      have n4_ := A_ ((by rw [hg]; exact (below_size (el HB)) : w.heap.size ≤ gb325))
      have n5_ := A_ ((by rw [hg]; exact (below_size (el HB)) : w.heap.size ≤ gb325))
      have n6_ := A_ ((by rw [hg]; exact Nat.ne_of_lt (eL BK316) : gb316 ≠ gb325))
      have n7_ := A_ ((by rw [hg]; exact Nat.ne_of_gt (eL BK316) : gb325 ≠ gb316))
      have n8_ := A_ ((by rw [hg]; exact Nat.ne_of_lt (eL BK317) : gb317 ≠ gb325))
      have n9_ := A_ ((by rw [hg]; exact Nat.ne_of_gt (eL BK317) : gb325 ≠ gb317))
      clear BK316
      clear BK317
      clear HB
      have BK316 := n0_
      have BK317 := n1_
      have HB := n2_
      have BK325 := n3_
      have GW325 := n4_
      have GE325 := n5_
      have NB316_325 := n6_
      have NB325_316 := n7_
      have NB317_325 := n8_
      have NB325_317 := n9_
      clear n0_ n1_ n2_ n3_ n4_ n5_ n6_ n7_ n8_ n9_
      clear hb hbox hg
      refine hK.out _ _ ((blk_cell BK316.out 0).trans rfl) (fun hHeld => ?_)
      clear hK K
      refine norm_ (a' := ?_) ?_ ?_
      rotate_left
      ·show Act.put _ (some 4) _ = _
       simp only [Act.put, List.setIfInBounds_toArray, List.set_cons_zero, List.set_cons_succ, i64_w, i32_w]
       rfl
      refine one_ (i := 3) (N := some 14) #[true, true, true, true, false, false, false, false, false, true, false, false] rfl rfl (one_of HT_.out (by kernel_rfl)) (by decide) (fun K hK => ?_)
      refine goes_ Try.func164 (by kernel_rfl) rfl #[.agg #[.slice A0_0 l0_0.length c0_0]] (by rfl) rfl rfl eg ?_
      with_reducible refine (spec_l02Rank.calls k _ _ l0_0 t320 _ ?side1 ?side2 A5.out).mono ?_
      (case side1 => repeat (first | exact (Kd.C_below HR0_0.out HB.out) | (with_reducible refine Kd.C_alloc ?_ _) | (with_reducible refine Kd.C_drewN ?_ _) | (with_reducible refine Kd.C_drew ?_)))
      (case side2 => exact HC0_0.out)
      rintro e w16 ⟨rfl, hb⟩
      refine ⟨_, rfl, ?_⟩
      have n0_ := A_ (eB BK316 hb)
      have n1_ := A_ (eB BK317 hb)
      have n2_ := A_ (eB BK325 hb)
      have n3_ := A_ (below_step (el HB) hb)
      clear BK316
      clear BK317
      clear BK325
      clear HB
      have BK316 := n0_
      have BK317 := n1_
      have BK325 := n2_
      have HB := n3_
      clear n0_ n1_ n2_ n3_
      (try clear hb)
      (try clear hb2)
      (try clear hk)
      (try clear hi)
      refine hK.out _ _ ((blk_cell BK316.out 0).trans rfl) (fun hHeld => ?_)
      clear hK K
      refine norm_ (a' := ?_) ?_ ?_
      rotate_left
      ·show Act.put _ (some 14) _ = _
       simp only [Act.put, List.setIfInBounds_toArray, List.set_cons_zero, List.set_cons_succ, i64_w, i32_w]
       rfl
      refine pure_ (i := 4) (N := some 15) (v := ?_) (a' := ?_) #[true, true, true, true, true, false, false, false, false, true, false, false] rfl rfl (any_of HT_.out (by kernel_rfl)) (fun _ _ _ h => h) (Or.inl ⟨by rfl, ?_⟩) ?_ ?_
      rotate_left
      ·intro w'
       go_simp
       with_reducible rfl
      rotate_left
      ·simp only [Act.put, List.setIfInBounds_toArray, List.set_cons_zero, List.set_cons_succ, i64_w, i32_w]
       rfl
      refine one_ (i := 5) (N := some 16) #[true, true, true, true, true, true, false, false, false, true, false, false] rfl rfl (one_of HT_.out (by kernel_rfl)) (by decide) (fun K hK => ?_)
      refine goes_ Try.func161 (by kernel_rfl) rfl #[.int .i64 t319, .int .i64 (wrap64 (t320 + 1))] (by rfl) rfl rfl eg ?_
      with_reducible refine (spec_l02Tree.calls k t319 (wrap64 (t320 + 1)) t321 true _ A6.out).mono ?_
      rintro e w17 ⟨v322, rfl, ho0, hb⟩
      refine ⟨_, rfl, ?_⟩
      have n0_ := A_ (Kd.R_lower ho0 (below_size (el HB)))
      have n1_ := A_ (eB BK316 hb)
      have n2_ := A_ (eB BK317 hb)
      have n3_ := A_ (eB BK325 hb)
      have n4_ := A_ (below_step (el HB) hb)
      clear BK316
      clear BK317
      clear BK325
      clear HB
      have HO323 := n0_
      have BK316 := n1_
      have BK317 := n2_
      have BK325 := n3_
      have HB := n4_
      clear n0_ n1_ n2_ n3_ n4_
      (try clear hb)
      (try clear hb2)
      (try clear hk)
      (try clear hi)
      (try clear ho0)
      refine hK.out _ _ ((blk_cell BK316.out 0).trans rfl) (fun hHeld => ?_)
      clear hK K
      refine norm_ (a' := ?_) ?_ ?_
      rotate_left
      ·show Act.put _ (some 16) _ = _
       simp only [Act.put, List.setIfInBounds_toArray, List.set_cons_zero, List.set_cons_succ, i64_w, i32_w]
       rfl
      refine pure_ (i := 6) (N := some 10) (v := ?_) (a' := ?_) #[true, true, true, true, true, true, true, false, false, true, false, false] rfl rfl (any_of HT_.out (by kernel_rfl)) (fun _ _ _ h => h) (Or.inl ⟨by rfl, ?_⟩) ?_ ?_
      rotate_left
      ·intro w'
       go_simp
       with_reducible rfl
      rotate_left
      ·simp only [Act.put, List.setIfInBounds_toArray, List.set_cons_zero, List.set_cons_succ, i64_w, i32_w]
       rfl
      refine pure_ (i := 7) (N := some 17) (v := ?_) (a' := ?_) #[true, true, true, true, true, true, true, true, false, true, false, false] rfl rfl (any_of HT_.out (by kernel_rfl)) (fun _ _ _ h => h) (Or.inl ⟨by rfl, ?_⟩) ?_ ?_
      rotate_left
      ·intro w'
       go_simp
       with_reducible rfl
      rotate_left
      ·simp only [Act.put, List.setIfInBounds_toArray, List.set_cons_zero, List.set_cons_succ, i64_w, i32_w]
       rfl
      refine pure_ (i := 8) (N := some 18) (v := ?_) (a' := ?_) #[true, true, true, true, true, true, true, true, true, true, false, false] rfl rfl (any_of HT_.out (by kernel_rfl)) (fun _ _ _ h => h) (Or.inl ⟨by rfl, ?_⟩) ?_ ?_
      rotate_left
      ·intro w'
       go_simp
       with_reducible rfl
      rotate_left
      ·simp only [Act.put, List.setIfInBounds_toArray, List.set_cons_zero, List.set_cons_succ, i64_w, i32_w]
       rfl
      exact norm_ spec_NextTree.Z1 (hCont (v322, gb325) _ ⟨hHeld, (ea HO323), (eb BK316), (eb BK317), (eb BK325), GW325.out, GE325.out, NB316_325.out, NB325_316.out, NB317_325.out, NB325_317.out, (el HB)⟩)
    ·skip
     refine box_step ?hg (N := 4) ?hd (cs := #[.slice none 0 0]) (t := 26) ?hr ?_; (case hd => rfl); (case hg => rfl); (case hr => first | (go_simp; done) | (go_simp; rfl))
     intro gb325 hg w14 hbox hb
     have n0_ := A_ (eB BK316 hb)
     have n1_ := A_ (eB BK317 hb)
     have n2_ := A_ (below_step (el HB) hb)
     have n3_ := A_ (hbox)
     have n4_ := A_ ((by rw [hg]; exact (below_size (el HB)) : w.heap.size ≤ gb325))
     have n5_ := A_ ((by rw [hg]; exact (below_size (el HB)) : w.heap.size ≤ gb325))
     have n6_ := A_ ((by rw [hg]; exact Nat.ne_of_lt (eL BK316) : gb316 ≠ gb325))
     have n7_ := A_ ((by rw [hg]; exact Nat.ne_of_gt (eL BK316) : gb325 ≠ gb316))
     have n8_ := A_ ((by rw [hg]; exact Nat.ne_of_lt (eL BK317) : gb317 ≠ gb325))
     have n9_ := A_ ((by rw [hg]; exact Nat.ne_of_gt (eL BK317) : gb325 ≠ gb317))
     clear BK316
     clear BK317
     clear HB
     have BK316 := n0_
     have BK317 := n1_
     have HB := n2_
     have BK325 := n3_
     have GW325 := n4_
     have GE325 := n5_
     have NB316_325 := n6_
     have NB325_316 := n7_
     have NB317_325 := n8_
     have NB325_317 := n9_
     clear n0_ n1_ n2_ n3_ n4_ n5_ n6_ n7_ n8_ n9_
     clear hb hbox hg
     refine hK.out _ _ ((blk_cell BK316.out 0).trans rfl) (fun hHeld => ?_)
     clear hK K
     refine norm_ (a' := ?_) ?_ ?_
     rotate_left
     ·show Act.put _ (some 4) _ = _
      simp only [Act.put, List.setIfInBounds_toArray, List.set_cons_zero, List.set_cons_succ, i64_w, i32_w]
      rfl
     refine one_ (i := 1) (N := some 12) #[true, true, true, false, false, false, false, false, false, true, false, false] rfl rfl (one_of HT_.out (by kernel_rfl)) (by decide) (fun K hK => ?_)
     refine goes_ Try.func102 (by kernel_rfl) rfl #[.agg #[.slice A0_0 l0_0.length c0_0]] (by rfl) rfl rfl eg ?_
     with_reducible refine (spec_l01N.calls _ _ l0_0 t319 _ ?side1 ?side2 A4.out).mono ?_
     (case side1 => repeat (first | exact (Kd.C_below HR0_0.out HB.out) | (with_reducible refine Kd.C_alloc ?_ _) | (with_reducible refine Kd.C_drewN ?_ _) | (with_reducible refine Kd.C_drew ?_)))
     (case side2 => exact HC0_0.out)
     rintro e w15 ⟨rfl, hb⟩
     refine ⟨_, rfl, ?_⟩
     have n0_ := A_ (eB BK316 hb)
     have n1_ := A_ (eB BK317 hb)
     have n2_ := A_ (eB BK325 hb)
     have n3_ := A_ (below_step (el HB) hb)
     clear BK316
     clear BK317
     clear BK325
     clear HB
     have BK316 := n0_
     have BK317 := n1_
     have BK325 := n2_
     have HB := n3_
     clear n0_ n1_ n2_ n3_
     (try clear hb)
     (try clear hb2)
     (try clear hk)
     (try clear hi)
     refine hK.out _ _ ((blk_cell BK316.out 0).trans rfl) (fun hHeld => ?_)
     clear hK K
     refine norm_ (a' := ?_) ?_ ?_
     rotate_left
     ·show Act.put _ (some 12) _ = _
      simp only [Act.put, List.setIfInBounds_toArray, List.set_cons_zero, List.set_cons_succ, i64_w, i32_w]
      rfl
     refine one_ (i := 3) (N := some 14) #[true, true, true, true, false, false, false, false, false, true, false, false] rfl rfl (one_of HT_.out (by kernel_rfl)) (by decide) (fun K hK => ?_)
     refine goes_ Try.func164 (by kernel_rfl) rfl #[.agg #[.slice A0_0 l0_0.length c0_0]] (by rfl) rfl rfl eg ?_
     with_reducible refine (spec_l02Rank.calls k _ _ l0_0 t320 _ ?side1 ?side2 A5.out).mono ?_
     (case side1 => repeat (first | exact (Kd.C_below HR0_0.out HB.out) | (with_reducible refine Kd.C_alloc ?_ _) | (with_reducible refine Kd.C_drewN ?_ _) | (with_reducible refine Kd.C_drew ?_)))
     (case side2 => exact HC0_0.out)
     rintro e w16 ⟨rfl, hb⟩
     refine ⟨_, rfl, ?_⟩
     have n0_ := A_ (eB BK316 hb)
     have n1_ := A_ (eB BK317 hb)
     have n2_ := A_ (eB BK325 hb)
     have n3_ := A_ (below_step (el HB) hb)
     clear BK316
     clear BK317
     clear BK325
     clear HB
     have BK316 := n0_
     have BK317 := n1_
     have BK325 := n2_
     have HB := n3_
     clear n0_ n1_ n2_ n3_
     (try clear hb)
     (try clear hb2)
     (try clear hk)
     (try clear hi)
     refine hK.out _ _ ((blk_cell BK316.out 0).trans rfl) (fun hHeld => ?_)
     clear hK K
     refine norm_ (a' := ?_) ?_ ?_
     rotate_left
     ·show Act.put _ (some 14) _ = _
      simp only [Act.put, List.setIfInBounds_toArray, List.set_cons_zero, List.set_cons_succ, i64_w, i32_w]
      rfl
     refine pure_ (i := 4) (N := some 15) (v := ?_) (a' := ?_) #[true, true, true, true, true, false, false, false, false, true, false, false] rfl rfl (any_of HT_.out (by kernel_rfl)) (fun _ _ _ h => h) (Or.inl ⟨by rfl, ?_⟩) ?_ ?_
     rotate_left
     ·intro w'
      go_simp
      with_reducible rfl
     rotate_left
     ·simp only [Act.put, List.setIfInBounds_toArray, List.set_cons_zero, List.set_cons_succ, i64_w, i32_w]
      rfl
     refine one_ (i := 5) (N := some 16) #[true, true, true, true, true, true, false, false, false, true, false, false] rfl rfl (one_of HT_.out (by kernel_rfl)) (by decide) (fun K hK => ?_)
     refine goes_ Try.func161 (by kernel_rfl) rfl #[.int .i64 t319, .int .i64 (wrap64 (t320 + 1))] (by rfl) rfl rfl eg ?_
     with_reducible refine (spec_l02Tree.calls k t319 (wrap64 (t320 + 1)) t321 true _ A6.out).mono ?_
     rintro e w17 ⟨v322, rfl, ho0, hb⟩
     refine ⟨_, rfl, ?_⟩
     have n0_ := A_ (Kd.R_lower ho0 (below_size (el HB)))
     have n1_ := A_ (eB BK316 hb)
     have n2_ := A_ (eB BK317 hb)
     have n3_ := A_ (eB BK325 hb)
     have n4_ := A_ (below_step (el HB) hb)
     clear BK316
     clear BK317
     clear BK325
     clear HB
     have HO323 := n0_
     have BK316 := n1_
     have BK317 := n2_
     have BK325 := n3_
     have HB := n4_
     clear n0_ n1_ n2_ n3_ n4_
     (try clear hb)
     (try clear hb2)
     (try clear hk)
     (try clear hi)
     (try clear ho0)
     refine hK.out _ _ ((blk_cell BK316.out 0).trans rfl) (fun hHeld => ?_)
     clear hK K
     refine norm_ (a' := ?_) ?_ ?_
     rotate_left
     ·show Act.put _ (some 16) _ = _
      simp only [Act.put, List.setIfInBounds_toArray, List.set_cons_zero, List.set_cons_succ, i64_w, i32_w]
      rfl
     refine pure_ (i := 6) (N := some 10) (v := ?_) (a' := ?_) #[true, true, true, true, true, true, true, false, false, true, false, false] rfl rfl (any_of HT_.out (by kernel_rfl)) (fun _ _ _ h => h) (Or.inl ⟨by rfl, ?_⟩) ?_ ?_
     rotate_left
     ·intro w'
      go_simp
      with_reducible rfl
     rotate_left
     ·simp only [Act.put, List.setIfInBounds_toArray, List.set_cons_zero, List.set_cons_succ, i64_w, i32_w]
      rfl
     refine pure_ (i := 7) (N := some 17) (v := ?_) (a' := ?_) #[true, true, true, true, true, true, true, true, false, true, false, false] rfl rfl (any_of HT_.out (by kernel_rfl)) (fun _ _ _ h => h) (Or.inl ⟨by rfl, ?_⟩) ?_ ?_
     rotate_left
     ·intro w'
      go_simp
      with_reducible rfl
     rotate_left
     ·simp only [Act.put, List.setIfInBounds_toArray, List.set_cons_zero, List.set_cons_succ, i64_w, i32_w]
      rfl
     refine pure_ (i := 8) (N := some 18) (v := ?_) (a' := ?_) #[true, true, true, true, true, true, true, true, true, true, false, false] rfl rfl (any_of HT_.out (by kernel_rfl)) (fun _ _ _ h => h) (Or.inl ⟨by rfl, ?_⟩) ?_ ?_
     rotate_left
     ·intro w'
      go_simp
      with_reducible rfl
     rotate_left
     ·simp only [Act.put, List.setIfInBounds_toArray, List.set_cons_zero, List.set_cons_succ, i64_w, i32_w]
      rfl
     exact norm_ spec_NextTree.Z1 (hCont (v322, gb325) _ ⟨hHeld, (ea HO323), (eb BK316), (eb BK317), (eb BK325), GW325.out, GE325.out, NB316_325.out, NB325_316.out, NB317_325.out, NB325_317.out, (el HB)⟩)
   rintro ⟨v322, gb325⟩ w18 ⟨hS_, h0_, h1_, h2_, h3_, h4_, h5_, h6_, h7_, h8_, h9_, h10_⟩
   have n0_ : Aside0 (Kd.R (Kd.int .i64) 2 w18 w.heap.size (fun _ => True) v322 t321) := ⟨h0_⟩
   have n1_ : Aside0 (w18.heap[gb316]? = some (.cells #[.slice A0_0 l0_0.length c0_0] 26 (0, 0))) := ⟨h1_⟩
   have n2_ : Aside0 (w18.heap[gb317]? = some (.cells #[.slice none 0 0] 26 (0, 0))) := ⟨h2_⟩
   have n3_ : Aside0 (w18.heap[gb325]? = some (.cells #[.slice none 0 0] 26 (0, 0))) := ⟨h3_⟩
   have n4_ : Aside0 (w.heap.size ≤ gb325) := ⟨h4_⟩
   have n5_ : Aside0 (w.heap.size ≤ gb325) := ⟨h5_⟩
   have n6_ : Aside0 (gb316 ≠ gb325) := ⟨h6_⟩
   have n7_ : Aside0 (gb325 ≠ gb316) := ⟨h7_⟩
   have n8_ : Aside0 (gb317 ≠ gb325) := ⟨h8_⟩
   have n9_ : Aside0 (gb325 ≠ gb317) := ⟨h9_⟩
   have n10_ : Aside0 (Below w.heap.size w w18) := ⟨h10_⟩
   clear BK316
   clear BK317
   clear HB
   clear h0_ h1_ h2_ h3_ h4_ h5_ h6_ h7_ h8_ h9_ h10_
   have HO323 := n0_
   have BK316 := n1_
   have BK317 := n2_
   have BK325 := n3_
   have GW325 := n4_
   have GE325 := n5_
   have NB316_325 := n6_
   have NB325_316 := n7_
   have NB317_325 := n8_
   have NB325_317 := n9_
   have HB := n10_
   clear n0_ n1_ n2_ n3_ n4_ n5_ n6_ n7_ n8_ n9_ n10_
   have hHeld : w18.cell? ⟨gb316, 0, none⟩ = some (.slice A0_0 l0_0.length c0_0) := hS_
   obtain ⟨Ao19, co19, eo19⟩ := Kd.R_slice HO323.out
   (first | subst eo19 | (injection eo19 with f1_ f2_ f3_; have f4_ := f1_.symm; have f5_ := f3_.symm; clear f1_ f2_ f3_; subst f4_; subst f5_))
   refine norm_ (a' := ?_) ?_ ?_
   rotate_left
   ·simp only [putAll, Act.put, List.setIfInBounds_toArray, List.set_cons_zero, List.set_cons_succ]
    rfl
   refine one_ (i := 10) (N := none) #[true, true, true, true, true, true, true, true, true, true, true, false] rfl rfl (one_of HT_.out (by kernel_rfl)) (by decide) (fun K hK => ?_)
   have hs20 : w18.cell? ⟨gb325, 0, none⟩ = some (.slice none 0 0) := (blk_cell BK325.out 0).trans rfl
   have hfs20 := blk_frozen BK325.out 0
   have hns20_0 := NB316_325.out
   have hns20_1 := NB317_325.out
   have hms20_0 := NB325_316.out
   have hms20_1 := NB325_317.out
   refine skip_ (w1 := ?_) (by rfl) rfl ?_ ?_
   rotate_left
   ·go_simp
    rfl
   refine hK.out _ _ (((cell_far (p := ⟨gb325, _, none⟩) NB316_325.out _).trans (hHeld))) (fun hHeld => ?_)
   clear hK K
   refine pure_ (i := 11) (N := some 5) (v := ?_) (a' := ?_) #[true, true, true, true, true, true, true, true, true, true, true, true] rfl rfl (any_of HT_.out (by kernel_rfl)) (fun _ _ _ h => h) (Or.inl ⟨by rfl, ?_⟩) ?_ ?_
   rotate_left
   ·intro w'
    go_simp
    with_reducible rfl
   rotate_left
   ·simp only [Act.put, List.setIfInBounds_toArray, List.set_cons_zero, List.set_cons_succ, i64_w, i32_w]
    rfl
   refine done_ (done_of HT_.out (by kernel_rfl)) ?_
   have hnb21 := NB325_316.out
   have hnc21 := NB316_325.out
   have hnb22 := NB325_317.out
   have hnc22 := NB317_325.out
   have hcz23_0 : w18.cell? ⟨gb325, 0, none⟩ = some (.slice none 0 0) := (blk_cell BK325.out 0).trans rfl
   have hfz23_0 := blk_frozen BK325.out 0
   have hcz24_0 : w18.cell? ⟨gb317, 0, none⟩ = some (.slice none 0 0) := (blk_cell BK317.out 0).trans rfl
   have hfz24_0 := blk_frozen BK317.out 0
   try go_wp2
   refine bodyPost_ret (results_ct rfl _ _ gb317 26 #[.slice Ao19 t321.length co19] (0, 0) _ rfl spec_NextTree.Z0 Try.underlying26 rfl (by kernel_rfl)) rfl ?_
   exact ⟨_, er, by (with_reducible repeat (first | apply Kd.R_alloc | apply Kd.R_drewN | apply Kd.R_drew)); exact Kd.R_mono (Kd.R_far (p := ⟨gb317, 0, none⟩) (Kd.R_far (p := ⟨gb325, 0, none⟩) (Kd.R_types (Kd.R_types HO323.out BK325.out (by decide)) BK317.out (by decide)) (fun _ hk => hk.1.2) (.slice Ao19 t321.length co19)) (fun _ hk => hk.2) (.slice Ao19 t321.length co19)) (fun _ hk => trivial), el HB⟩
  ·replace c7 := Bool.eq_false_iff.mpr c7
   subst c7
   have H1 : (some (([] : List Int), 4)) = some (r1, r2) := by rw [if_neg (show ¬ (false = true) by decide)] at H; exact H
   clear H
   have H := H1
   clear H1
   simp only [Option.some.injEq, Prod.mk.injEq] at H
   obtain ⟨rfl, rfl⟩ := H
   go_enter Try.func88, Try.ntmps88
   try go_wp2_with (first | ((with_reducible refine gate_dst (N := 1) rfl ?_); refine box_event ?hg (N := 1) ?hd (cs := #[.slice A0_0 l0_0.length c0_0]) (t := 26) ?hr ?_; (case hd => rfl); (case hg => rfl); (case hr => first | (go_simp; done) | (go_simp; rfl)); intro gb316 hg w25 hbox hb; have n0_ := A_ (below_step (el HB) hb); have n1_ := A_ (hbox); have n2_ := A_ ((by rw [hg]; exact (below_size (el HB)) : w.heap.size ≤ gb316)); have n3_ := A_ ((by rw [hg]; exact (below_size (el HB)) : w.heap.size ≤ gb316)); clear HB; have HB := n0_; have BK316 := n1_; have GW316 := n2_; have GE316 := n3_; clear n0_ n1_ n2_ n3_; clear hb hbox hg) | ((with_reducible refine gate_dst (N := 2) rfl ?_); refine box_event ?hg (N := 2) ?hd (cs := #[.slice none 0 0]) (t := 26) ?hr ?_; (case hd => rfl); (case hg => rfl); (case hr => first | (go_simp; done) | (go_simp; rfl)); intro gb317 hg w26 hbox hb; have n0_ := A_ (eB BK316 hb); have n1_ := A_ (below_step (el HB) hb); have n2_ := A_ (hbox); have n3_ := A_ ((by rw [hg]; exact (below_size (el HB)) : w.heap.size ≤ gb317)); have n4_ := A_ ((by rw [hg]; exact (below_size (el HB)) : w.heap.size ≤ gb317)); have n5_ := A_ ((by rw [hg]; exact Nat.ne_of_lt (eL BK316) : gb316 ≠ gb317)); have n6_ := A_ ((by rw [hg]; exact Nat.ne_of_gt (eL BK316) : gb317 ≠ gb316)); clear BK316; clear HB; have BK316 := n0_; have HB := n1_; have BK317 := n2_; have GW317 := n3_; have GE317 := n4_; have NB316_317 := n5_; have NB317_316 := n6_; clear n0_ n1_ n2_ n3_ n4_ n5_ n6_; clear hb hbox hg; have hnb27 := NB316_317.out; have hnc27 := NB317_316.out; have hcz28_0 : w26.cell? ⟨gb316, 0, none⟩ = some (.slice A0_0 l0_0.length c0_0) := (blk_cell BK316.out 0).trans rfl; have hfz28_0 := blk_frozen BK316.out 0) | ((with_reducible refine gate_callee (f := 101) rfl ?_); refine goesL_ (some 7) rfl rfl Try.func101 (by kernel_rfl) rfl #[.agg #[.slice A0_0 l0_0.length c0_0]] rfl eg ?_; (with_reducible refine (spec_l01Is.calls k _ _ l0_0 true _ ?side1 ?side2 A2.out).mono ?_); (case side1 => repeat (first | exact (Kd.C_below HR0_0.out HB.out) | (with_reducible refine Kd.C_alloc ?_ _) | (with_reducible refine Kd.C_drewN ?_ _) | (with_reducible refine Kd.C_drew ?_))); (case side2 => exact HC0_0.out); rintro e w29 ⟨rfl, hb⟩; refine ⟨_, rfl, ?_⟩; have n0_ := A_ (eB BK316 hb); have n1_ := A_ (eB BK317 hb); have n2_ := A_ (below_step (el HB) hb); clear BK316; clear BK317; clear HB; have BK316 := n0_; have BK317 := n1_; have HB := n2_; clear n0_ n1_ n2_; (try clear hb); (try clear hb2); (try clear hk); (try clear hi)))
   have n0_ := A_ (blk_drew BK316.out)
   have n1_ := A_ (blk_drew BK317.out)
   have n2_ := A_ (below_drew1 HB.out)
   clear BK316
   clear BK317
   clear HB
   have BK316 := n0_
   have BK317 := n1_
   have HB := n2_
   clear n0_ n1_ n2_
   refine start_ (n := 12) (S := fun w' => w'.cell? ⟨gb316, 0, none⟩ = some (.slice A0_0 l0_0.length c0_0)) (ds := []) #[false, false, false, false, false, false, false, false, false, false, false, false] (by kernel_rfl) rfl rfl ((blk_cell BK316.out 0).trans rfl) (fun hHeld => ?_); refine with_tabW spec_NextTree.tab3 spec_NextTree.bits3 (fun HT_ HW_ => ?_)
   generalize w29.drew = w30 at BK316 BK317 HB hHeld ⊢
   refine take_ (i := 0) (N := some 11) (v := ?_) (a' := ?_) #[true, false, false, false, false, false, false, false, false, false, false, false] rfl rfl (take_ofW HT_.out HW_.out (by kernel_rfl)) (fun _ _ _ h => h) (Or.inl ⟨by rfl, ?_⟩) hHeld ?_ ?_
   rotate_left
   ·intro w' s0
    go_simp
    with_reducible rfl
   rotate_left
   ·simp only [Act.put, List.setIfInBounds_toArray, List.set_cons_zero, List.set_cons_succ, i64_w, i32_w]
    rfl
   refine take_ (i := 2) (N := some 13) (v := ?_) (a' := ?_) #[true, false, true, false, false, false, false, false, false, false, false, false] rfl rfl (take_ofW HT_.out HW_.out (by kernel_rfl)) (fun _ _ _ h => h) (Or.inl ⟨by rfl, ?_⟩) hHeld ?_ ?_
   rotate_left
   ·intro w' s0
    go_simp
    with_reducible rfl
   rotate_left
   ·simp only [Act.put, List.setIfInBounds_toArray, List.set_cons_zero, List.set_cons_succ, i64_w, i32_w]
    rfl
   refine join_ (σ := Value × Nat) 2 #[true, true, true, true, true, true, true, true, true, true, false, false] (fun s_ => [(12, .int .i64 t319), (14, .int .i64 t320), (16, .tuple #[.agg #[s_.1], .bool false]), (4, .pointer (some ⟨s_.2, 0, none⟩)), (15, .int .i64 (wrap64 (t320 + 1))), (10, .tuple #[.agg #[s_.1], .bool false]), (17, .agg #[s_.1]), (18, .bool false)]) (fun s_ w' => (w'.cell? ⟨gb316, 0, none⟩ = some (.slice A0_0 l0_0.length c0_0)) ∧ (Kd.R (Kd.int .i64) 2 w' w.heap.size (fun _ => True) s_.1 t321) ∧ (w'.heap[gb316]? = some (.cells #[.slice A0_0 l0_0.length c0_0] 26 (0, 0))) ∧ (w'.heap[gb317]? = some (.cells #[.slice none 0 0] 26 (0, 0))) ∧ (w'.heap[s_.2]? = some (.cells #[.slice none 0 0] 26 (0, 0))) ∧ (w.heap.size ≤ s_.2) ∧ (w.heap.size ≤ s_.2) ∧ (gb316 ≠ s_.2) ∧ (s_.2 ≠ gb316) ∧ (gb317 ≠ s_.2) ∧ (s_.2 ≠ gb317) ∧ (Below w.heap.size w w')) ?_ ?_
   rotate_left
   ·intro hCont
    refine two_ (i := 1) (j := 9) (Ni := some 12) (Nj := some 4) #[true, true, true, false, false, false, false, false, false, false, false, false] #[true, false, true, false, false, false, false, false, false, true, false, false] rfl rfl rfl rfl (two_of HT_.out (by kernel_rfl)) (by decide) (by decide) (fun K hK => ?_) (fun K hK => ?_)
    ·skip
     refine goes_ Try.func102 (by kernel_rfl) rfl #[.agg #[.slice A0_0 l0_0.length c0_0]] (by rfl) rfl rfl eg ?_
     with_reducible refine (spec_l01N.calls _ _ l0_0 t319 _ ?side1 ?side2 A4.out).mono ?_
     (case side1 => repeat (first | exact (Kd.C_below HR0_0.out HB.out) | (with_reducible refine Kd.C_alloc ?_ _) | (with_reducible refine Kd.C_drewN ?_ _) | (with_reducible refine Kd.C_drew ?_)))
     (case side2 => exact HC0_0.out)
     rintro e w31 ⟨rfl, hb⟩
     refine ⟨_, rfl, ?_⟩
     have n0_ := A_ (eB BK316 hb)
     have n1_ := A_ (eB BK317 hb)
     have n2_ := A_ (below_step (el HB) hb)
     clear BK316
     clear BK317
     clear HB
     have BK316 := n0_
     have BK317 := n1_
     have HB := n2_
     clear n0_ n1_ n2_
     (try clear hb)
     (try clear hb2)
     (try clear hk)
     (try clear hi)
     refine hK.out _ _ ((blk_cell BK316.out 0).trans rfl) (fun hHeld => ?_)
     clear hK K
     refine norm_ (a' := ?_) ?_ ?_
     rotate_left
     ·show Act.put _ (some 12) _ = _
      simp only [Act.put, List.setIfInBounds_toArray, List.set_cons_zero, List.set_cons_succ, i64_w, i32_w]
      rfl
     refine two_ (i := 3) (j := 9) (Ni := some 14) (Nj := some 4) #[true, true, true, true, false, false, false, false, false, false, false, false] #[true, true, true, false, false, false, false, false, false, true, false, false] rfl rfl rfl rfl (two_of HT_.out (by kernel_rfl)) (by decide) (by decide) (fun K hK => ?_) (fun K hK => ?_)
     ·skip
      refine goes_ Try.func164 (by kernel_rfl) rfl #[.agg #[.slice A0_0 l0_0.length c0_0]] (by rfl) rfl rfl eg ?_
      with_reducible refine (spec_l02Rank.calls k _ _ l0_0 t320 _ ?side1 ?side2 A5.out).mono ?_
      (case side1 => repeat (first | exact (Kd.C_below HR0_0.out HB.out) | (with_reducible refine Kd.C_alloc ?_ _) | (with_reducible refine Kd.C_drewN ?_ _) | (with_reducible refine Kd.C_drew ?_)))
      (case side2 => exact HC0_0.out)
      rintro e w32 ⟨rfl, hb⟩
      refine ⟨_, rfl, ?_⟩
      have n0_ := A_ (eB BK316 hb)
      have n1_ := A_ (eB BK317 hb)
      have n2_ := A_ (below_step (el HB) hb)
      clear BK316
      clear BK317
      clear HB
      have BK316 := n0_
      have BK317 := n1_
      have HB := n2_
      clear n0_ n1_ n2_
      (try clear hb)
      (try clear hb2)
      (try clear hk)
      (try clear hi)
      refine hK.out _ _ ((blk_cell BK316.out 0).trans rfl) (fun hHeld => ?_)
      clear hK K
      refine norm_ (a' := ?_) ?_ ?_
      rotate_left
      ·show Act.put _ (some 14) _ = _
       simp only [Act.put, List.setIfInBounds_toArray, List.set_cons_zero, List.set_cons_succ, i64_w, i32_w]
       rfl
      refine pure_ (i := 4) (N := some 15) (v := ?_) (a' := ?_) #[true, true, true, true, true, false, false, false, false, false, false, false] rfl rfl (any_of HT_.out (by kernel_rfl)) (fun _ _ _ h => h) (Or.inl ⟨by rfl, ?_⟩) ?_ ?_
      rotate_left
      ·intro w'
       go_simp
       with_reducible rfl
      rotate_left
      ·simp only [Act.put, List.setIfInBounds_toArray, List.set_cons_zero, List.set_cons_succ, i64_w, i32_w]
       rfl
      refine two_ (i := 5) (j := 9) (Ni := some 16) (Nj := some 4) #[true, true, true, true, true, true, false, false, false, false, false, false] #[true, true, true, true, true, false, false, false, false, true, false, false] rfl rfl rfl rfl (two_of HT_.out (by kernel_rfl)) (by decide) (by decide) (fun K hK => ?_) (fun K hK => ?_)
      ·skip
       refine goes_ Try.func161 (by kernel_rfl) rfl #[.int .i64 t319, .int .i64 (wrap64 (t320 + 1))] (by rfl) rfl rfl eg ?_
       with_reducible refine (spec_l02Tree.calls k t319 (wrap64 (t320 + 1)) t321 false _ A6.out).mono ?_
       rintro e w33 ⟨v322, rfl, ho0, hb⟩
       refine ⟨_, rfl, ?_⟩
       have n0_ := A_ (Kd.R_lower ho0 (below_size (el HB)))
       have n1_ := A_ (eB BK316 hb)
       have n2_ := A_ (eB BK317 hb)
       have n3_ := A_ (below_step (el HB) hb)
       clear BK316
       clear BK317
       clear HB
       have HO323 := n0_
       have BK316 := n1_
       have BK317 := n2_
       have HB := n3_
       clear n0_ n1_ n2_ n3_
       (try clear hb)
       (try clear hb2)
       (try clear hk)
       (try clear hi)
       (try clear ho0)
       refine hK.out _ _ ((blk_cell BK316.out 0).trans rfl) (fun hHeld => ?_)
       clear hK K
       refine norm_ (a' := ?_) ?_ ?_
       rotate_left
       ·show Act.put _ (some 16) _ = _
        simp only [Act.put, List.setIfInBounds_toArray, List.set_cons_zero, List.set_cons_succ, i64_w, i32_w]
        rfl
       refine pure_ (i := 6) (N := some 10) (v := ?_) (a' := ?_) #[true, true, true, true, true, true, true, false, false, false, false, false] rfl rfl (any_of HT_.out (by kernel_rfl)) (fun _ _ _ h => h) (Or.inl ⟨by rfl, ?_⟩) ?_ ?_
       rotate_left
       ·intro w'
        go_simp
        with_reducible rfl
       rotate_left
       ·simp only [Act.put, List.setIfInBounds_toArray, List.set_cons_zero, List.set_cons_succ, i64_w, i32_w]
        rfl
       refine pure_ (i := 7) (N := some 17) (v := ?_) (a' := ?_) #[true, true, true, true, true, true, true, true, false, false, false, false] rfl rfl (any_of HT_.out (by kernel_rfl)) (fun _ _ _ h => h) (Or.inl ⟨by rfl, ?_⟩) ?_ ?_
       rotate_left
       ·intro w'
        go_simp
        with_reducible rfl
       rotate_left
       ·simp only [Act.put, List.setIfInBounds_toArray, List.set_cons_zero, List.set_cons_succ, i64_w, i32_w]
        rfl
       refine pure_ (i := 8) (N := some 18) (v := ?_) (a' := ?_) #[true, true, true, true, true, true, true, true, true, false, false, false] rfl rfl (any_of HT_.out (by kernel_rfl)) (fun _ _ _ h => h) (Or.inl ⟨by rfl, ?_⟩) ?_ ?_
       rotate_left
       ·intro w'
        go_simp
        with_reducible rfl
       rotate_left
       ·simp only [Act.put, List.setIfInBounds_toArray, List.set_cons_zero, List.set_cons_succ, i64_w, i32_w]
        rfl
       refine one_ (i := 9) (N := some 4) #[true, true, true, true, true, true, true, true, true, true, false, false] rfl rfl (one_of HT_.out (by kernel_rfl)) (by decide) (fun K hK => ?_)
       refine box_step ?hg (N := 4) ?hd (cs := #[.slice none 0 0]) (t := 26) ?hr ?_; (case hd => rfl); (case hg => rfl); (case hr => first | (go_simp; done) | (go_simp; rfl))
       intro gb325 hg w34 hbox hb
       have n0_ := A_ (Kd.R_below (ea HO323) hb)
       have n1_ := A_ (eB BK316 hb)
       have n2_ := A_ (eB BK317 hb)
       have n3_ := A_ (below_step (el HB) hb)
       have n4_ := A_ (hbox)
       have n5_ := A_ ((by rw [hg]; exact (below_size (el HB)) : w.heap.size ≤ gb325))
       have n6_ := A_ ((by rw [hg]; exact (below_size (el HB)) : w.heap.size ≤ gb325))
       have n7_ := A_ ((by rw [hg]; exact Nat.ne_of_lt (eL BK316) : gb316 ≠ gb325))
       have n8_ := A_ ((by rw [hg]; exact Nat.ne_of_gt (eL BK316) : gb325 ≠ gb316))
       have n9_ := A_ ((by rw [hg]; exact Nat.ne_of_lt (eL BK317) : gb317 ≠ gb325))
       have n10_ := A_ ((by rw [hg]; exact Nat.ne_of_gt (eL BK317) : gb325 ≠ gb317))
       clear HO323
       clear BK316
       clear BK317
       clear HB
       have HO323 := n0_
       have BK316 := n1_
       have BK317 := n2_
       have HB := n3_
       have BK325 := n4_
       have GW325 := n5_
       have GE325 := n6_
       have NB316_325 := n7_
       have NB325_316 := n8_
       have NB317_325 := n9_
       have NB325_317 := n10_
       clear n0_ n1_ n2_ n3_ n4_ n5_ n6_ n7_ n8_ n9_ n10_
       clear hb hbox hg
       refine hK.out _ _ ((blk_cell BK316.out 0).trans rfl) (fun hHeld => ?_)
       clear hK K
       refine norm_ (a' := ?_) ?_ ?_
       rotate_left
       ·show Act.put _ (some 4) _ = _
        simp only [Act.put, List.setIfInBounds_toArray, List.set_cons_zero, List.set_cons_succ, i64_w, i32_w]
        rfl
       exact norm_ spec_NextTree.Z1 (hCont (v322, gb325) _ ⟨hHeld, (ea HO323), (eb BK316), (eb BK317), (eb BK325), GW325.out, GE325.out, NB316_325.out, NB325_316.out, NB317_325.out, NB325_317.out, (el HB)⟩)
      ·skip
       refine box_step ?hg (N := 4) ?hd (cs := #[.slice none 0 0]) (t := 26) ?hr ?_; (case hd => rfl); (case hg => rfl); (case hr => first | (go_simp; done) | (go_simp; rfl))
       intro gb325 hg w33 hbox hb
       have n0_ := A_ (eB BK316 hb)
       have n1_ := A_ (eB BK317 hb)
       have n2_ := A_ (below_step (el HB) hb)
       have n3_ := A_ (hbox)
       have n4_ := A_ ((by rw [hg]; exact (below_size (el HB)) : w.heap.size ≤ gb325))
       have n5_ := A_ ((by rw [hg]; exact (below_size (el HB)) : w.heap.size ≤ gb325))
       have n6_ := A_ ((by rw [hg]; exact Nat.ne_of_lt (eL BK316) : gb316 ≠ gb325))
       have n7_ := A_ ((by rw [hg]; exact Nat.ne_of_gt (eL BK316) : gb325 ≠ gb316))
       have n8_ := A_ ((by rw [hg]; exact Nat.ne_of_lt (eL BK317) : gb317 ≠ gb325))
       have n9_ := A_ ((by rw [hg]; exact Nat.ne_of_gt (eL BK317) : gb325 ≠ gb317))
       clear BK316
       clear BK317
       clear HB
       have BK316 := n0_
       have BK317 := n1_
       have HB := n2_
       have BK325 := n3_
       have GW325 := n4_
       have GE325 := n5_
       have NB316_325 := n6_
       have NB325_316 := n7_
       have NB317_325 := n8_
       have NB325_317 := n9_
       clear n0_ n1_ n2_ n3_ n4_ n5_ n6_ n7_ n8_ n9_
       clear hb hbox hg
       refine hK.out _ _ ((blk_cell BK316.out 0).trans rfl) (fun hHeld => ?_)
       clear hK K
       refine norm_ (a' := ?_) ?_ ?_
       rotate_left
       ·show Act.put _ (some 4) _ = _
        simp only [Act.put, List.setIfInBounds_toArray, List.set_cons_zero, List.set_cons_succ, i64_w, i32_w]
        rfl
       refine one_ (i := 5) (N := some 16) #[true, true, true, true, true, true, false, false, false, true, false, false] rfl rfl (one_of HT_.out (by kernel_rfl)) (by decide) (fun K hK => ?_)
       refine goes_ Try.func161 (by kernel_rfl) rfl #[.int .i64 t319, .int .i64 (wrap64 (t320 + 1))] (by rfl) rfl rfl eg ?_
       with_reducible refine (spec_l02Tree.calls k t319 (wrap64 (t320 + 1)) t321 false _ A6.out).mono ?_
       rintro e w34 ⟨v322, rfl, ho0, hb⟩
       refine ⟨_, rfl, ?_⟩
       have n0_ := A_ (Kd.R_lower ho0 (below_size (el HB)))
       have n1_ := A_ (eB BK316 hb)
       have n2_ := A_ (eB BK317 hb)
       have n3_ := A_ (eB BK325 hb)
       have n4_ := A_ (below_step (el HB) hb)
       clear BK316
       clear BK317
       clear BK325
       clear HB
       have HO323 := n0_
       have BK316 := n1_
       have BK317 := n2_
       have BK325 := n3_
       have HB := n4_
       clear n0_ n1_ n2_ n3_ n4_
       (try clear hb)
       (try clear hb2)
       (try clear hk)
       (try clear hi)
       (try clear ho0)
       refine hK.out _ _ ((blk_cell BK316.out 0).trans rfl) (fun hHeld => ?_)
       clear hK K
       refine norm_ (a' := ?_) ?_ ?_
       rotate_left
       ·show Act.put _ (some 16) _ = _
        simp only [Act.put, List.setIfInBounds_toArray, List.set_cons_zero, List.set_cons_succ, i64_w, i32_w]
        rfl
       refine pure_ (i := 6) (N := some 10) (v := ?_) (a' := ?_) #[true, true, true, true, true, true, true, false, false, true, false, false] rfl rfl (any_of HT_.out (by kernel_rfl)) (fun _ _ _ h => h) (Or.inl ⟨by rfl, ?_⟩) ?_ ?_
       rotate_left
       ·intro w'
        go_simp
        with_reducible rfl
       rotate_left
       ·simp only [Act.put, List.setIfInBounds_toArray, List.set_cons_zero, List.set_cons_succ, i64_w, i32_w]
        rfl
       refine pure_ (i := 7) (N := some 17) (v := ?_) (a' := ?_) #[true, true, true, true, true, true, true, true, false, true, false, false] rfl rfl (any_of HT_.out (by kernel_rfl)) (fun _ _ _ h => h) (Or.inl ⟨by rfl, ?_⟩) ?_ ?_
       rotate_left
       ·intro w'
        go_simp
        with_reducible rfl
       rotate_left
       ·simp only [Act.put, List.setIfInBounds_toArray, List.set_cons_zero, List.set_cons_succ, i64_w, i32_w]
        rfl
       refine pure_ (i := 8) (N := some 18) (v := ?_) (a' := ?_) #[true, true, true, true, true, true, true, true, true, true, false, false] rfl rfl (any_of HT_.out (by kernel_rfl)) (fun _ _ _ h => h) (Or.inl ⟨by rfl, ?_⟩) ?_ ?_
       rotate_left
       ·intro w'
        go_simp
        with_reducible rfl
       rotate_left
       ·simp only [Act.put, List.setIfInBounds_toArray, List.set_cons_zero, List.set_cons_succ, i64_w, i32_w]
        rfl
       exact norm_ spec_NextTree.Z1 (hCont (v322, gb325) _ ⟨hHeld, (ea HO323), (eb BK316), (eb BK317), (eb BK325), GW325.out, GE325.out, NB316_325.out, NB325_316.out, NB317_325.out, NB325_317.out, (el HB)⟩)
     ·skip
      refine box_step ?hg (N := 4) ?hd (cs := #[.slice none 0 0]) (t := 26) ?hr ?_; (case hd => rfl); (case hg => rfl); (case hr => first | (go_simp; done) | (go_simp; rfl))
      intro gb325 hg w32 hbox hb
      have n0_ := A_ (eB BK316 hb)
      have n1_ := A_ (eB BK317 hb)
      have n2_ := A_ (below_step (el HB) hb)
      have n3_ := A_ (hbox)
      have n4_ := A_ ((by rw [hg]; exact (below_size (el HB)) : w.heap.size ≤ gb325))
      have n5_ := A_ ((by rw [hg]; exact (below_size (el HB)) : w.heap.size ≤ gb325))
      have n6_ := A_ ((by rw [hg]; exact Nat.ne_of_lt (eL BK316) : gb316 ≠ gb325))
      have n7_ := A_ ((by rw [hg]; exact Nat.ne_of_gt (eL BK316) : gb325 ≠ gb316))
      have n8_ := A_ ((by rw [hg]; exact Nat.ne_of_lt (eL BK317) : gb317 ≠ gb325))
      have n9_ := A_ ((by rw [hg]; exact Nat.ne_of_gt (eL BK317) : gb325 ≠ gb317))
      clear BK316
      clear BK317
      clear HB
      have BK316 := n0_
      have BK317 := n1_
      have HB := n2_
      have BK325 := n3_
      have GW325 := n4_
      have GE325 := n5_
      have NB316_325 := n6_
      have NB325_316 := n7_
      have NB317_325 := n8_
      have NB325_317 := n9_
      clear n0_ n1_ n2_ n3_ n4_ n5_ n6_ n7_ n8_ n9_
      clear hb hbox hg
      refine hK.out _ _ ((blk_cell BK316.out 0).trans rfl) (fun hHeld => ?_)
      clear hK K
      refine norm_ (a' := ?_) ?_ ?_
      rotate_left
      ·show Act.put _ (some 4) _ = _
       simp only [Act.put, List.setIfInBounds_toArray, List.set_cons_zero, List.set_cons_succ, i64_w, i32_w]
       rfl
      refine one_ (i := 3) (N := some 14) #[true, true, true, true, false, false, false, false, false, true, false, false] rfl rfl (one_of HT_.out (by kernel_rfl)) (by decide) (fun K hK => ?_)
      refine goes_ Try.func164 (by kernel_rfl) rfl #[.agg #[.slice A0_0 l0_0.length c0_0]] (by rfl) rfl rfl eg ?_
      with_reducible refine (spec_l02Rank.calls k _ _ l0_0 t320 _ ?side1 ?side2 A5.out).mono ?_
      (case side1 => repeat (first | exact (Kd.C_below HR0_0.out HB.out) | (with_reducible refine Kd.C_alloc ?_ _) | (with_reducible refine Kd.C_drewN ?_ _) | (with_reducible refine Kd.C_drew ?_)))
      (case side2 => exact HC0_0.out)
      rintro e w33 ⟨rfl, hb⟩
      refine ⟨_, rfl, ?_⟩
      have n0_ := A_ (eB BK316 hb)
      have n1_ := A_ (eB BK317 hb)
      have n2_ := A_ (eB BK325 hb)
      have n3_ := A_ (below_step (el HB) hb)
      clear BK316
      clear BK317
      clear BK325
      clear HB
      have BK316 := n0_
      have BK317 := n1_
      have BK325 := n2_
      have HB := n3_
      clear n0_ n1_ n2_ n3_
      (try clear hb)
      (try clear hb2)
      (try clear hk)
      (try clear hi)
      refine hK.out _ _ ((blk_cell BK316.out 0).trans rfl) (fun hHeld => ?_)
      clear hK K
      refine norm_ (a' := ?_) ?_ ?_
      rotate_left
      ·show Act.put _ (some 14) _ = _
       simp only [Act.put, List.setIfInBounds_toArray, List.set_cons_zero, List.set_cons_succ, i64_w, i32_w]
       rfl
      refine pure_ (i := 4) (N := some 15) (v := ?_) (a' := ?_) #[true, true, true, true, true, false, false, false, false, true, false, false] rfl rfl (any_of HT_.out (by kernel_rfl)) (fun _ _ _ h => h) (Or.inl ⟨by rfl, ?_⟩) ?_ ?_
      rotate_left
      ·intro w'
       go_simp
       with_reducible rfl
      rotate_left
      ·simp only [Act.put, List.setIfInBounds_toArray, List.set_cons_zero, List.set_cons_succ, i64_w, i32_w]
       rfl
      refine one_ (i := 5) (N := some 16) #[true, true, true, true, true, true, false, false, false, true, false, false] rfl rfl (one_of HT_.out (by kernel_rfl)) (by decide) (fun K hK => ?_)
      refine goes_ Try.func161 (by kernel_rfl) rfl #[.int .i64 t319, .int .i64 (wrap64 (t320 + 1))] (by rfl) rfl rfl eg ?_
      with_reducible refine (spec_l02Tree.calls k t319 (wrap64 (t320 + 1)) t321 false _ A6.out).mono ?_
      rintro e w34 ⟨v322, rfl, ho0, hb⟩
      refine ⟨_, rfl, ?_⟩
      have n0_ := A_ (Kd.R_lower ho0 (below_size (el HB)))
      have n1_ := A_ (eB BK316 hb)
      have n2_ := A_ (eB BK317 hb)
      have n3_ := A_ (eB BK325 hb)
      have n4_ := A_ (below_step (el HB) hb)
      clear BK316
      clear BK317
      clear BK325
      clear HB
      have HO323 := n0_
      have BK316 := n1_
      have BK317 := n2_
      have BK325 := n3_
      have HB := n4_
      clear n0_ n1_ n2_ n3_ n4_
      (try clear hb)
      (try clear hb2)
      (try clear hk)
      (try clear hi)
      (try clear ho0)
      refine hK.out _ _ ((blk_cell BK316.out 0).trans rfl) (fun hHeld => ?_)
      clear hK K
      refine norm_ (a' := ?_) ?_ ?_
      rotate_left
      ·show Act.put _ (some 16) _ = _
       simp only [Act.put, List.setIfInBounds_toArray, List.set_cons_zero, List.set_cons_succ, i64_w, i32_w]
       rfl
      refine pure_ (i := 6) (N := some 10) (v := ?_) (a' := ?_) #[true, true, true, true, true, true, true, false, false, true, false, false] rfl rfl (any_of HT_.out (by kernel_rfl)) (fun _ _ _ h => h) (Or.inl ⟨by rfl, ?_⟩) ?_ ?_
      rotate_left
      ·intro w'
       go_simp
       with_reducible rfl
      rotate_left
      ·simp only [Act.put, List.setIfInBounds_toArray, List.set_cons_zero, List.set_cons_succ, i64_w, i32_w]
       rfl
      refine pure_ (i := 7) (N := some 17) (v := ?_) (a' := ?_) #[true, true, true, true, true, true, true, true, false, true, false, false] rfl rfl (any_of HT_.out (by kernel_rfl)) (fun _ _ _ h => h) (Or.inl ⟨by rfl, ?_⟩) ?_ ?_
      rotate_left
      ·intro w'
       go_simp
       with_reducible rfl
      rotate_left
      ·simp only [Act.put, List.setIfInBounds_toArray, List.set_cons_zero, List.set_cons_succ, i64_w, i32_w]
       rfl
      refine pure_ (i := 8) (N := some 18) (v := ?_) (a' := ?_) #[true, true, true, true, true, true, true, true, true, true, false, false] rfl rfl (any_of HT_.out (by kernel_rfl)) (fun _ _ _ h => h) (Or.inl ⟨by rfl, ?_⟩) ?_ ?_
      rotate_left
      ·intro w'
       go_simp
       with_reducible rfl
      rotate_left
      ·simp only [Act.put, List.setIfInBounds_toArray, List.set_cons_zero, List.set_cons_succ, i64_w, i32_w]
       rfl
      exact norm_ spec_NextTree.Z1 (hCont (v322, gb325) _ ⟨hHeld, (ea HO323), (eb BK316), (eb BK317), (eb BK325), GW325.out, GE325.out, NB316_325.out, NB325_316.out, NB317_325.out, NB325_317.out, (el HB)⟩)
    ·skip
     refine box_step ?hg (N := 4) ?hd (cs := #[.slice none 0 0]) (t := 26) ?hr ?_; (case hd => rfl); (case hg => rfl); (case hr => first | (go_simp; done) | (go_simp; rfl))
     intro gb325 hg w31 hbox hb
     have n0_ := A_ (eB BK316 hb)
     have n1_ := A_ (eB BK317 hb)
     have n2_ := A_ (below_step (el HB) hb)
     have n3_ := A_ (hbox)
     have n4_ := A_ ((by rw [hg]; exact (below_size (el HB)) : w.heap.size ≤ gb325))
     have n5_ := A_ ((by rw [hg]; exact (below_size (el HB)) : w.heap.size ≤ gb325))
     have n6_ := A_ ((by rw [hg]; exact Nat.ne_of_lt (eL BK316) : gb316 ≠ gb325))
     have n7_ := A_ ((by rw [hg]; exact Nat.ne_of_gt (eL BK316) : gb325 ≠ gb316))
     have n8_ := A_ ((by rw [hg]; exact Nat.ne_of_lt (eL BK317) : gb317 ≠ gb325))
     have n9_ := A_ ((by rw [hg]; exact Nat.ne_of_gt (eL BK317) : gb325 ≠ gb317))
     clear BK316
     clear BK317
     clear HB
     have BK316 := n0_
     have BK317 := n1_
     have HB := n2_
     have BK325 := n3_
     have GW325 := n4_
     have GE325 := n5_
     have NB316_325 := n6_
     have NB325_316 := n7_
     have NB317_325 := n8_
     have NB325_317 := n9_
     clear n0_ n1_ n2_ n3_ n4_ n5_ n6_ n7_ n8_ n9_
     clear hb hbox hg
     refine hK.out _ _ ((blk_cell BK316.out 0).trans rfl) (fun hHeld => ?_)
     clear hK K
     refine norm_ (a' := ?_) ?_ ?_
     rotate_left
     ·show Act.put _ (some 4) _ = _
      simp only [Act.put, List.setIfInBounds_toArray, List.set_cons_zero, List.set_cons_succ, i64_w, i32_w]
      rfl
     refine one_ (i := 1) (N := some 12) #[true, true, true, false, false, false, false, false, false, true, false, false] rfl rfl (one_of HT_.out (by kernel_rfl)) (by decide) (fun K hK => ?_)
     refine goes_ Try.func102 (by kernel_rfl) rfl #[.agg #[.slice A0_0 l0_0.length c0_0]] (by rfl) rfl rfl eg ?_
     with_reducible refine (spec_l01N.calls _ _ l0_0 t319 _ ?side1 ?side2 A4.out).mono ?_
     (case side1 => repeat (first | exact (Kd.C_below HR0_0.out HB.out) | (with_reducible refine Kd.C_alloc ?_ _) | (with_reducible refine Kd.C_drewN ?_ _) | (with_reducible refine Kd.C_drew ?_)))
     (case side2 => exact HC0_0.out)
     rintro e w32 ⟨rfl, hb⟩
     refine ⟨_, rfl, ?_⟩
     have n0_ := A_ (eB BK316 hb)
     have n1_ := A_ (eB BK317 hb)
     have n2_ := A_ (eB BK325 hb)
     have n3_ := A_ (below_step (el HB) hb)
     clear BK316
     clear BK317
     clear BK325
     clear HB
     have BK316 := n0_
     have BK317 := n1_
     have BK325 := n2_
     have HB := n3_
     clear n0_ n1_ n2_ n3_
     (try clear hb)
     (try clear hb2)
     (try clear hk)
     (try clear hi)
     refine hK.out _ _ ((blk_cell BK316.out 0).trans rfl) (fun hHeld => ?_)
     clear hK K
     refine norm_ (a' := ?_) ?_ ?_
     rotate_left
     ·show Act.put _ (some 12) _ = _
      simp only [Act.put, List.setIfInBounds_toArray, List.set_cons_zero, List.set_cons_succ, i64_w, i32_w]
      rfl
     refine one_ (i := 3) (N := some 14) #[true, true, true, true, false, false, false, false, false, true, false, false] rfl rfl (one_of HT_.out (by kernel_rfl)) (by decide) (fun K hK => ?_)
     refine goes_ Try.func164 (by kernel_rfl) rfl #[.agg #[.slice A0_0 l0_0.length c0_0]] (by rfl) rfl rfl eg ?_
     with_reducible refine (spec_l02Rank.calls k _ _ l0_0 t320 _ ?side1 ?side2 A5.out).mono ?_
     (case side1 => repeat (first | exact (Kd.C_below HR0_0.out HB.out) | (with_reducible refine Kd.C_alloc ?_ _) | (with_reducible refine Kd.C_drewN ?_ _) | (with_reducible refine Kd.C_drew ?_)))
     (case side2 => exact HC0_0.out)
     rintro e w33 ⟨rfl, hb⟩
     refine ⟨_, rfl, ?_⟩
     have n0_ := A_ (eB BK316 hb)
     have n1_ := A_ (eB BK317 hb)
     have n2_ := A_ (eB BK325 hb)
     have n3_ := A_ (below_step (el HB) hb)
     clear BK316
     clear BK317
     clear BK325
     clear HB
     have BK316 := n0_
     have BK317 := n1_
     have BK325 := n2_
     have HB := n3_
     clear n0_ n1_ n2_ n3_
     (try clear hb)
     (try clear hb2)
     (try clear hk)
     (try clear hi)
     refine hK.out _ _ ((blk_cell BK316.out 0).trans rfl) (fun hHeld => ?_)
     clear hK K
     refine norm_ (a' := ?_) ?_ ?_
     rotate_left
     ·show Act.put _ (some 14) _ = _
      simp only [Act.put, List.setIfInBounds_toArray, List.set_cons_zero, List.set_cons_succ, i64_w, i32_w]
      rfl
     refine pure_ (i := 4) (N := some 15) (v := ?_) (a' := ?_) #[true, true, true, true, true, false, false, false, false, true, false, false] rfl rfl (any_of HT_.out (by kernel_rfl)) (fun _ _ _ h => h) (Or.inl ⟨by rfl, ?_⟩) ?_ ?_
     rotate_left
     ·intro w'
      go_simp
      with_reducible rfl
     rotate_left
     ·simp only [Act.put, List.setIfInBounds_toArray, List.set_cons_zero, List.set_cons_succ, i64_w, i32_w]
      rfl
     refine one_ (i := 5) (N := some 16) #[true, true, true, true, true, true, false, false, false, true, false, false] rfl rfl (one_of HT_.out (by kernel_rfl)) (by decide) (fun K hK => ?_)
     refine goes_ Try.func161 (by kernel_rfl) rfl #[.int .i64 t319, .int .i64 (wrap64 (t320 + 1))] (by rfl) rfl rfl eg ?_
     with_reducible refine (spec_l02Tree.calls k t319 (wrap64 (t320 + 1)) t321 false _ A6.out).mono ?_
     rintro e w34 ⟨v322, rfl, ho0, hb⟩
     refine ⟨_, rfl, ?_⟩
     have n0_ := A_ (Kd.R_lower ho0 (below_size (el HB)))
     have n1_ := A_ (eB BK316 hb)
     have n2_ := A_ (eB BK317 hb)
     have n3_ := A_ (eB BK325 hb)
     have n4_ := A_ (below_step (el HB) hb)
     clear BK316
     clear BK317
     clear BK325
     clear HB
     have HO323 := n0_
     have BK316 := n1_
     have BK317 := n2_
     have BK325 := n3_
     have HB := n4_
     clear n0_ n1_ n2_ n3_ n4_
     (try clear hb)
     (try clear hb2)
     (try clear hk)
     (try clear hi)
     (try clear ho0)
     refine hK.out _ _ ((blk_cell BK316.out 0).trans rfl) (fun hHeld => ?_)
     clear hK K
     refine norm_ (a' := ?_) ?_ ?_
     rotate_left
     ·show Act.put _ (some 16) _ = _
      simp only [Act.put, List.setIfInBounds_toArray, List.set_cons_zero, List.set_cons_succ, i64_w, i32_w]
      rfl
     refine pure_ (i := 6) (N := some 10) (v := ?_) (a' := ?_) #[true, true, true, true, true, true, true, false, false, true, false, false] rfl rfl (any_of HT_.out (by kernel_rfl)) (fun _ _ _ h => h) (Or.inl ⟨by rfl, ?_⟩) ?_ ?_
     rotate_left
     ·intro w'
      go_simp
      with_reducible rfl
     rotate_left
     ·simp only [Act.put, List.setIfInBounds_toArray, List.set_cons_zero, List.set_cons_succ, i64_w, i32_w]
      rfl
     refine pure_ (i := 7) (N := some 17) (v := ?_) (a' := ?_) #[true, true, true, true, true, true, true, true, false, true, false, false] rfl rfl (any_of HT_.out (by kernel_rfl)) (fun _ _ _ h => h) (Or.inl ⟨by rfl, ?_⟩) ?_ ?_
     rotate_left
     ·intro w'
      go_simp
      with_reducible rfl
     rotate_left
     ·simp only [Act.put, List.setIfInBounds_toArray, List.set_cons_zero, List.set_cons_succ, i64_w, i32_w]
      rfl
     refine pure_ (i := 8) (N := some 18) (v := ?_) (a' := ?_) #[true, true, true, true, true, true, true, true, true, true, false, false] rfl rfl (any_of HT_.out (by kernel_rfl)) (fun _ _ _ h => h) (Or.inl ⟨by rfl, ?_⟩) ?_ ?_
     rotate_left
     ·intro w'
      go_simp
      with_reducible rfl
     rotate_left
     ·simp only [Act.put, List.setIfInBounds_toArray, List.set_cons_zero, List.set_cons_succ, i64_w, i32_w]
      rfl
     exact norm_ spec_NextTree.Z1 (hCont (v322, gb325) _ ⟨hHeld, (ea HO323), (eb BK316), (eb BK317), (eb BK325), GW325.out, GE325.out, NB316_325.out, NB325_316.out, NB317_325.out, NB325_317.out, (el HB)⟩)
   rintro ⟨v322, gb325⟩ w35 ⟨hS_, h0_, h1_, h2_, h3_, h4_, h5_, h6_, h7_, h8_, h9_, h10_⟩
   have n0_ : Aside0 (Kd.R (Kd.int .i64) 2 w35 w.heap.size (fun _ => True) v322 t321) := ⟨h0_⟩
   have n1_ : Aside0 (w35.heap[gb316]? = some (.cells #[.slice A0_0 l0_0.length c0_0] 26 (0, 0))) := ⟨h1_⟩
   have n2_ : Aside0 (w35.heap[gb317]? = some (.cells #[.slice none 0 0] 26 (0, 0))) := ⟨h2_⟩
   have n3_ : Aside0 (w35.heap[gb325]? = some (.cells #[.slice none 0 0] 26 (0, 0))) := ⟨h3_⟩
   have n4_ : Aside0 (w.heap.size ≤ gb325) := ⟨h4_⟩
   have n5_ : Aside0 (w.heap.size ≤ gb325) := ⟨h5_⟩
   have n6_ : Aside0 (gb316 ≠ gb325) := ⟨h6_⟩
   have n7_ : Aside0 (gb325 ≠ gb316) := ⟨h7_⟩
   have n8_ : Aside0 (gb317 ≠ gb325) := ⟨h8_⟩
   have n9_ : Aside0 (gb325 ≠ gb317) := ⟨h9_⟩
   have n10_ : Aside0 (Below w.heap.size w w35) := ⟨h10_⟩
   clear BK316
   clear BK317
   clear HB
   clear h0_ h1_ h2_ h3_ h4_ h5_ h6_ h7_ h8_ h9_ h10_
   have HO323 := n0_
   have BK316 := n1_
   have BK317 := n2_
   have BK325 := n3_
   have GW325 := n4_
   have GE325 := n5_
   have NB316_325 := n6_
   have NB325_316 := n7_
   have NB317_325 := n8_
   have NB325_317 := n9_
   have HB := n10_
   clear n0_ n1_ n2_ n3_ n4_ n5_ n6_ n7_ n8_ n9_ n10_
   have hHeld : w35.cell? ⟨gb316, 0, none⟩ = some (.slice A0_0 l0_0.length c0_0) := hS_
   obtain ⟨Ao36, co36, eo36⟩ := Kd.R_slice HO323.out
   (first | subst eo36 | (injection eo36 with f1_ f2_ f3_; have f4_ := f1_.symm; have f5_ := f3_.symm; clear f1_ f2_ f3_; subst f4_; subst f5_))
   refine norm_ (a' := ?_) ?_ ?_
   rotate_left
   ·simp only [putAll, Act.put, List.setIfInBounds_toArray, List.set_cons_zero, List.set_cons_succ]
    rfl
   refine one_ (i := 10) (N := none) #[true, true, true, true, true, true, true, true, true, true, true, false] rfl rfl (one_of HT_.out (by kernel_rfl)) (by decide) (fun K hK => ?_)
   have hs37 : w35.cell? ⟨gb325, 0, none⟩ = some (.slice none 0 0) := (blk_cell BK325.out 0).trans rfl
   have hfs37 := blk_frozen BK325.out 0
   have hns37_0 := NB316_325.out
   have hns37_1 := NB317_325.out
   have hms37_0 := NB325_316.out
   have hms37_1 := NB325_317.out
   refine skip_ (w1 := ?_) (by rfl) rfl ?_ ?_
   rotate_left
   ·go_simp
    rfl
   refine hK.out _ _ (((cell_far (p := ⟨gb325, _, none⟩) NB316_325.out _).trans (hHeld))) (fun hHeld => ?_)
   clear hK K
   refine pure_ (i := 11) (N := some 5) (v := ?_) (a' := ?_) #[true, true, true, true, true, true, true, true, true, true, true, true] rfl rfl (any_of HT_.out (by kernel_rfl)) (fun _ _ _ h => h) (Or.inl ⟨by rfl, ?_⟩) ?_ ?_
   rotate_left
   ·intro w'
    go_simp
    with_reducible rfl
   rotate_left
   ·simp only [Act.put, List.setIfInBounds_toArray, List.set_cons_zero, List.set_cons_succ, i64_w, i32_w]
    rfl
   refine done_ (done_of HT_.out (by kernel_rfl)) ?_
   have hnb38 := NB317_325.out
   have hnc38 := NB325_317.out
   have hcz39_0 : w35.cell? ⟨gb317, 0, none⟩ = some (.slice none 0 0) := (blk_cell BK317.out 0).trans rfl
   have hfz39_0 := blk_frozen BK317.out 0
   try go_wp2
   refine bodyPost_ret (results_ct rfl _ _ gb317 26 #[.slice none 0 0] (0, 0) _ rfl spec_NextTree.Z0 Try.underlying26 rfl (by kernel_rfl)) rfl ?_
   exact ⟨_, er, by first | exact Kd.R_nil _ _ _ _ _ | exact Kd.N_nil _ _ _ _ _ | exact Kd.V_nil _ _ _ _ _ | exact Kd.Q_nil _ _ _ _ _ | exact Kd.S_nil _ _ _ _ _, el HB⟩
 ·replace c3 := Bool.eq_false_iff.mpr c3
  subst c3
  have H1 : (some (([] : List Int), 1)) = some (r1, r2) := by rw [if_neg (show ¬ (false = true) by decide)] at H; exact H
  clear H
  have H := H1
  clear H1
  simp only [Option.some.injEq, Prod.mk.injEq] at H
  obtain ⟨rfl, rfl⟩ := H
  go_enter Try.func88, Try.ntmps88
  go_wp2_with (first | ((with_reducible refine gate_dst (N := 1) rfl ?_); refine box_event ?hg (N := 1) ?hd (cs := #[.slice A0_0 l0_0.length c0_0]) (t := 26) ?hr ?_; (case hd => rfl); (case hg => rfl); (case hr => first | (go_simp; done) | (go_simp; rfl)); intro gb316 hg w40 hbox hb; have n0_ := A_ (below_step (el HB) hb); have n1_ := A_ (hbox); have n2_ := A_ ((by rw [hg]; exact (below_size (el HB)) : w.heap.size ≤ gb316)); have n3_ := A_ ((by rw [hg]; exact (below_size (el HB)) : w.heap.size ≤ gb316)); clear HB; have HB := n0_; have BK316 := n1_; have GW316 := n2_; have GE316 := n3_; clear n0_ n1_ n2_ n3_; clear hb hbox hg) | ((with_reducible refine gate_dst (N := 2) rfl ?_); refine box_event ?hg (N := 2) ?hd (cs := #[.slice none 0 0]) (t := 26) ?hr ?_; (case hd => rfl); (case hg => rfl); (case hr => first | (go_simp; done) | (go_simp; rfl)); intro gb317 hg w41 hbox hb; have n0_ := A_ (eB BK316 hb); have n1_ := A_ (below_step (el HB) hb); have n2_ := A_ (hbox); have n3_ := A_ ((by rw [hg]; exact (below_size (el HB)) : w.heap.size ≤ gb317)); have n4_ := A_ ((by rw [hg]; exact (below_size (el HB)) : w.heap.size ≤ gb317)); have n5_ := A_ ((by rw [hg]; exact Nat.ne_of_lt (eL BK316) : gb316 ≠ gb317)); have n6_ := A_ ((by rw [hg]; exact Nat.ne_of_gt (eL BK316) : gb317 ≠ gb316)); clear BK316; clear HB; have BK316 := n0_; have HB := n1_; have BK317 := n2_; have GW317 := n3_; have GE317 := n4_; have NB316_317 := n5_; have NB317_316 := n6_; clear n0_ n1_ n2_ n3_ n4_ n5_ n6_; clear hb hbox hg; have hnb42 := NB316_317.out; have hnc42 := NB317_316.out; have hcz43_0 : w41.cell? ⟨gb316, 0, none⟩ = some (.slice A0_0 l0_0.length c0_0) := (blk_cell BK316.out 0).trans rfl; have hfz43_0 := blk_frozen BK316.out 0) | ((with_reducible refine gate_callee (f := 101) rfl ?_); refine goesL_ (some 7) rfl rfl Try.func101 (by kernel_rfl) rfl #[.agg #[.slice A0_0 l0_0.length c0_0]] rfl eg ?_; (with_reducible refine (spec_l01Is.calls k _ _ l0_0 false _ ?side1 ?side2 A2.out).mono ?_); (case side1 => repeat (first | exact (Kd.C_below HR0_0.out HB.out) | (with_reducible refine Kd.C_alloc ?_ _) | (with_reducible refine Kd.C_drewN ?_ _) | (with_reducible refine Kd.C_drew ?_))); (case side2 => exact HC0_0.out); rintro e w44 ⟨rfl, hb⟩; refine ⟨_, rfl, ?_⟩; have n0_ := A_ (eB BK316 hb); have n1_ := A_ (eB BK317 hb); have n2_ := A_ (below_step (el HB) hb); clear BK316; clear BK317; clear HB; have BK316 := n0_; have BK317 := n1_; have HB := n2_; clear n0_ n1_ n2_; (try clear hb); (try clear hb2); (try clear hk); (try clear hi); have hcz45_0 : w44.cell? ⟨gb317, 0, none⟩ = some (.slice none 0 0) := (blk_cell BK317.out 0).trans rfl; have hfz45_0 := blk_frozen BK317.out 0))
  refine bodyPost_ret (results_ct rfl _ _ gb317 26 #[.slice none 0 0] (0, 0) _ rfl (by (with_reducible repeat (first | refine blk_drewN ?_ _ | refine blk_drew ?_ | refine blk_alloc ?_ _)); refine blk_put (cs := #[.slice none 0 0]) ?_ 0 _ rfl; (with_reducible repeat (first | refine blk_drewN ?_ _ | refine blk_drew ?_ | refine blk_alloc ?_ _)); exact BK317.out) Try.underlying26 rfl (by kernel_rfl)) rfl ?_
  exact ⟨_, er, by first | exact Kd.R_nil _ _ _ _ _ | exact Kd.N_nil _ _ _ _ _ | exact Kd.V_nil _ _ _ _ _ | exact Kd.Q_nil _ _ _ _ _ | exact Kd.S_nil _ _ _ _ _, el HB⟩

end Go.Proofs.Ytocachknmgefaaa.QFnRanks
