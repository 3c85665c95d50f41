/- Functions of the program as plain Lean functions, each with a proof that the machine's call answers what it answers. Conditions: none. -/
import Derived.Test.YtocachknmgefaaaQFnRanksx0
import Derived.Test.YtocachknmgefaaaQFnRanksx2
import Derived.Test.YtocachknmgefaaaQFnRanksx5
import Derived.Test.YtocachknmgefaaaQFnRanksx6
import Derived.Test.YtocachknmgefaaaQFnRanksx8
import Derived.Test.YtocachknmgefaaaQFnRanksx10
namespace Go.Proofs.Ytocachknmgefaaa.QFnRanks
open Go.RowKit Go.Proofs.YtocachknmgefaaaW.PrintWords Go.Proofs.YtocachknmgefaaaW.PrintLast Go.Proofs.YtocachknmgefaaaW.PrintMore
attribute [local go_sem] max2_int min2_int max_two min_two max_three min_three max_four min_four   -- for this text's walks alone
set_option linter.unusedVariables false
set_option linter.unusedSimpArgs false

/-! ### spec_TreeOfRank: function 92 -/
def spec_TreeOfRank.j0 : Nat → Int → Int → Bool → Option (List Int × Int)
  | 0, _, _, _ => none
  | k + 1, x0, x1, x14 => if x14 = true then (some (([] : List Int), 2)) else ((spec_l02Tree.f k x0 x1).bind fun bt396 => (if bt396.2 = true then (some (bt396.1, 0)) else (some (([] : List Int), 4))))
def spec_TreeOfRank.f (k : Nat) (a0 : Int) (a1 : Int) : Option (List Int × Int) := (spec_l02Whole.f a0).bind fun t395 => (if t395 = true then (spec_TreeOfRank.j0 k a0 a1 (decide (a1 < 0))) else (spec_TreeOfRank.j0 k a0 a1 true))
theorem spec_TreeOfRank.mono_l : ∀ k, (∀ y0 y1 y2, LeO (spec_TreeOfRank.j0 k y0 y1 y2) (spec_TreeOfRank.j0 (k + 1) y0 y1 y2))
  | 0 => fun _ _ _ r h => by simp [spec_TreeOfRank.j0] at h
  | k + 1 => by
    have ih0 := spec_TreeOfRank.mono_l k
    · intro y0 y1 y2
      unfold spec_TreeOfRank.j0
      repeat' first
      | (with_reducible exact ih0 _ _ _)
      | (with_reducible exact spec_l02Tree.mono _ _ _)
      | (with_reducible exact LeO.refl _)
      | (with_reducible exact LeO.none _)
      | (with_reducible refine LeO.ite ?_ ?_)
      | (with_reducible refine LeO.bind ?_ (fun _ => ?_))
      | exact ih0 _ _ _
      | exact spec_l02Tree.mono _ _ _
      | exact LeO.none _
      | refine LeO.ite ?_ ?_
      | refine LeO.bind ?_ (fun _ => ?_)
theorem spec_TreeOfRank.mono : ∀ a0 a1 k, LeO (spec_TreeOfRank.f k a0 a1) (spec_TreeOfRank.f (k + 1) a0 a1) := by
  intro a0 a1 k
  have ih0 := spec_TreeOfRank.mono_l k
  unfold spec_TreeOfRank.f
  repeat' first
      | (with_reducible exact ih0 _ _ _)
      | (with_reducible exact spec_l02Tree.mono _ _ _)
      | (with_reducible exact LeO.refl _)
      | (with_reducible exact LeO.none _)
      | (with_reducible refine LeO.ite ?_ ?_)
      | (with_reducible refine LeO.bind ?_ (fun _ => ?_))
      | exact ih0 _ _ _
      | exact spec_l02Tree.mono _ _ _
      | exact LeO.none _
      | refine LeO.ite ?_ ?_
      | refine LeO.bind ?_ (fun _ => ?_)
theorem spec_TreeOfRank.Z0 {p : Prop} (h : p := by (with_reducible repeat (first | refine blk_drewN ?_ _ | refine blk_drew ?_ | refine blk_alloc ?_ _)); refine blk_put (cs := #[.slice none 0 0]) ?_ 0 _ rfl; (with_reducible repeat (first | refine blk_drewN ?_ _ | refine blk_drew ?_ | refine blk_alloc ?_ _)); refine blk_far ?_ NB394_400.out _; (with_reducible repeat (first | refine blk_drewN ?_ _ | refine blk_drew ?_ | refine blk_alloc ?_ _)); exact BK394.out) : p := h
theorem spec_TreeOfRank.Z1 {p : Prop} (h : p := by first | rfl | (simp; done) | (simp [*]; done)) : p := h
set_option maxHeartbeats 8000000 in
set_option maxRecDepth 100000 in
theorem spec_TreeOfRank.calls (k : Nat) (a0 : Int) (a1 : Int) (r1 : List Int) (r2 : Int) (w : World) (h : spec_TreeOfRank.f k a0 a1 = some (r1, r2)) :
  Calls Try.prog 92 #[.int .i64 a0, .int .i64 a1] w fun e w' => ∃ v0_ : Value, e = .returned (.tuple #[.agg #[v0_], .int .i64 r2]) ∧ Kd.R (Kd.int .i64) 2 w' w.heap.size (fun _ => True) v0_ r1 ∧ Below w.heap.size w w' := by
 have hu26 := Try.underlying26
 have HB := A_ (Below.refl w.heap.size w)
 have H : ((spec_l02Whole.f a0).bind fun t395 => (if t395 = true then (spec_TreeOfRank.j0 k a0 a1 (decide (a1 < 0))) else (spec_TreeOfRank.j0 k a0 a1 true))) = some (r1, r2) := h
 clear h
 have HC3 := A_ H
 clear H
 go_enter Try.func92, Try.ntmps92
 go_upto_region 1 with (first | ((with_reducible refine gate_dst (N := 4) rfl ?_); refine box_event ?hg (N := 4) ?hd (cs := #[.slice none 0 0]) (t := 26) ?hr ?_; (case hd => rfl); (case hg => rfl); (case hr => first | (go_simp; done) | (go_simp; rfl)); intro gb394 hg w4 hbox hb; have n0_ := A_ (below_step (el HB) hb); have n1_ := A_ (hbox); have n2_ := A_ ((by rw [hg]; exact (below_size (el HB)) : w.heap.size ≤ gb394)); have n3_ := A_ ((by rw [hg]; exact (below_size (el HB)) : w.heap.size ≤ gb394)); clear HB; have HB := n0_; have BK394 := n1_; have GW394 := n2_; have GE394 := n3_; clear n0_ n1_ n2_ n3_; clear hb hbox hg))
 (try simp only [Act.put, List.setIfInBounds_toArray, List.set_cons_zero, List.set_cons_succ])
 go_cut [14] (fun v14 wc => ∃ (kq : Nat) (x14_2 : Bool), v14 = .bool x14_2 ∧ Aside0 (spec_TreeOfRank.j0 kq a0 a1 x14_2 = some (r1, r2)) ∧ Aside0 (kq ≤ k) ∧ Aside0 (wc.heap[gb394]? = some (.cells #[(.slice none 0 0)] 26 (0, 0))) ∧ Aside0 (Below w.heap.size w wc))
 case first =>
  have H := HC3.out
  clear HC3
  replace H := Option.bind_eq_some_iff.mp H
  obtain ⟨t395, A50, H⟩ := H
  replace H : (if t395 = true then (spec_TreeOfRank.j0 k a0 a1 (decide (a1 < 0))) else (spec_TreeOfRank.j0 k a0 a1 true)) = some (r1, r2) := H
  have A5 := A_ A50
  clear A50
  by_cases c6 : t395 = true
  ·subst c6
   have H1 : (spec_TreeOfRank.j0 k a0 a1 (decide (a1 < 0))) = some (r1, r2) := by rw [if_pos rfl] at H; exact H
   clear H
   have H := H1
   clear H1
   have H' := A_ H
   clear H
   go_wp2_with (first | ((with_reducible refine gate_callee (f := 160) rfl ?_); refine goesL_ (some 9) rfl rfl Try.func160 (by kernel_rfl) rfl #[.int .i64 a0] rfl eg ?_; (with_reducible refine (spec_l02Whole.calls a0 true _ A5.out).mono ?_); rintro e w' ⟨rfl, ⟨nd, rfl⟩⟩; refine ⟨_, rfl, ?_⟩))
   go_meet
   case rel => exact ⟨_, (decide (a1 < 0)), spec_TreeOfRank.Z1, H', ⟨by first | omega | exact Nat.le_refl _⟩, ⟨eb BK394⟩, ⟨el HB⟩⟩
  ·replace c6 := Bool.eq_false_iff.mpr c6
   subst c6
   have H1 : (spec_TreeOfRank.j0 k a0 a1 true) = some (r1, r2) := by rw [if_neg (show ¬ (false = true) by decide)] at H; exact H
   clear H
   have H := H1
   clear H1
   have H' := A_ H
   clear H
   go_wp2_with (first | ((with_reducible refine gate_callee (f := 160) rfl ?_); refine goesL_ (some 9) rfl rfl Try.func160 (by kernel_rfl) rfl #[.int .i64 a0] rfl eg ?_; (with_reducible refine (spec_l02Whole.calls a0 false _ A5.out).mono ?_); rintro e w' ⟨rfl, ⟨nd, rfl⟩⟩; refine ⟨_, rfl, ?_⟩))
   go_meet
   case rel => exact ⟨_, (true), spec_TreeOfRank.Z1, H', ⟨by first | omega | exact Nat.le_refl _⟩, ⟨eb BK394⟩, ⟨el HB⟩⟩
 case rest =>
  clear HC3
  try clear c1
  try clear p2
  try clear c6
  obtain ⟨kq, x14_2, rfl, HA, HJ2, BK394, HB⟩ := hcut
  cases kq with
  | zero => exact absurd HA.out (by simp [spec_TreeOfRank.j0])
  | succ kj2 =>
   have H := HA.out
   clear HA
   simp only [spec_TreeOfRank.j0] at H
   by_cases c7 : x14_2 = true
   ·subst c7
    have H1 : (some (([] : List Int), 2)) = some (r1, r2) := by rw [if_pos rfl] at H; exact H
    clear H
    have H := H1
    clear H1
    simp only [Option.some.injEq, Prod.mk.injEq] at H
    obtain ⟨rfl, rfl⟩ := H
    have hcz8_0 : wc.cell? ⟨gb394, 0, none⟩ = some (.slice none 0 0) := (blk_cell BK394.out 0).trans rfl
    have hfz8_0 := blk_frozen BK394.out 0
    go_wp2
    refine bodyPost_ret (results_ct rfl _ _ gb394 26 #[.slice none 0 0] (0, 0) _ rfl (by (with_reducible repeat (first | refine blk_drewN ?_ _ | refine blk_drew ?_ | refine blk_alloc ?_ _)); refine blk_put (cs := #[.slice none 0 0]) ?_ 0 _ rfl; (with_reducible repeat (first | refine blk_drewN ?_ _ | refine blk_drew ?_ | refine blk_alloc ?_ _)); exact BK394.out) Try.underlying26 rfl (by kernel_rfl)) rfl ?_
    exact ⟨_, er, by first | exact Kd.R_nil _ _ _ _ _ | exact Kd.N_nil _ _ _ _ _ | exact Kd.V_nil _ _ _ _ _ | exact Kd.Q_nil _ _ _ _ _ | exact Kd.S_nil _ _ _ _ _, el HB⟩
   ·replace c7 := Bool.eq_false_iff.mpr c7
    subst c7
    have H1 : ((spec_l02Tree.f kj2 a0 a1).bind fun bt396 => (if bt396.2 = true then (some (bt396.1, 0)) else (some (([] : List Int), 4)))) = some (r1, r2) := by rw [if_neg (show ¬ (false = true) by decide)] at H; exact H
    clear H
    have H := H1
    clear H1
    replace H := Option.bind_eq_some_iff.mp H
    obtain ⟨⟨t396, t399⟩, A90, H⟩ := H
    replace H : (if t399 = true then (some (t396, 0)) else (some (([] : List Int), 4))) = some (r1, r2) := H
    have A9 := A_ A90
    clear A90
    by_cases c10 : t399 = true
    ·subst c10
     have H1 : (some (t396, 0)) = some (r1, r2) := by rw [if_pos rfl] at H; exact H
     clear H
     have H := H1
     clear H1
     simp only [Option.some.injEq, Prod.mk.injEq] at H
     obtain ⟨rfl, rfl⟩ := H
     go_wp2_with (first | ((with_reducible refine gate_callee (f := 161) rfl ?_); refine goesL_ (some 19) rfl rfl Try.func161 (by kernel_rfl) rfl #[.int .i64 a0, .int .i64 a1] rfl eg ?_; (with_reducible refine (spec_l02Tree.calls kj2 a0 a1 t396 true _ A9.out).mono ?_); rintro e w11 ⟨v397, rfl, ho0, hb⟩; refine ⟨_, rfl, ?_⟩; have n0_ := A_ (Kd.R_lower ho0 (below_size (el HB))); have n1_ := A_ (eB BK394 hb); have n2_ := A_ (below_step (el HB) hb); clear BK394; clear HB; have HO398 := n0_; have BK394 := n1_; have HB := n2_; clear n0_ n1_ n2_; (try clear hb); (try clear hb2); (try clear hk); (try clear hi); (try clear ho0)) | ((with_reducible refine gate_dst (N := 6) rfl ?_); refine box_event ?hg (N := 6) ?hd (cs := #[.slice none 0 0]) (t := 26) ?hr ?_; (case hd => rfl); (case hg => rfl); (case hr => first | (go_simp; done) | (go_simp; rfl)); intro gb400 hg w12 hbox hb; have n0_ := A_ (Kd.R_below (ea HO398) hb); have n1_ := A_ (eB BK394 hb); have n2_ := A_ (below_step (el HB) hb); have n3_ := A_ (hbox); have n4_ := A_ ((by rw [hg]; exact (below_size (el HB)) : w.heap.size ≤ gb400)); have n5_ := A_ ((by rw [hg]; exact (below_size (el HB)) : w.heap.size ≤ gb400)); have n6_ := A_ ((by rw [hg]; exact Nat.ne_of_lt (eL BK394) : gb394 ≠ gb400)); have n7_ := A_ ((by rw [hg]; exact Nat.ne_of_gt (eL BK394) : gb400 ≠ gb394)); clear HO398; clear BK394; clear HB; have HO398 := n0_; have BK394 := n1_; have HB := n2_; have BK400 := n3_; have GW400 := n4_; have GE400 := n5_; have NB394_400 := n6_; have NB400_394 := n7_; clear n0_ n1_ n2_ n3_ n4_ n5_ n6_ n7_; clear hb hbox hg; obtain ⟨Ao13, co13, eo13⟩ := Kd.R_slice HO398.out; subst eo13; have hnb14 := NB400_394.out; have hnc14 := NB394_400.out; have hcz15_0 : w12.cell? ⟨gb400, 0, none⟩ = some (.slice none 0 0) := (blk_cell BK400.out 0).trans rfl; have hfz15_0 := blk_frozen BK400.out 0; have hcz16_0 : w12.cell? ⟨gb394, 0, none⟩ = some (.slice none 0 0) := (blk_cell BK394.out 0).trans rfl; have hfz16_0 := blk_frozen BK394.out 0))
     refine bodyPost_ret (results_ct rfl _ _ gb394 26 #[.slice Ao13 t396.length co13] (0, 0) _ rfl spec_TreeOfRank.Z0 Try.underlying26 rfl (by kernel_rfl)) rfl ?_
     exact ⟨_, er, by (with_reducible repeat (first | apply Kd.R_alloc | apply Kd.R_drewN | apply Kd.R_drew)); exact Kd.R_mono (Kd.R_far (p := ⟨gb394, 0, none⟩) (Kd.R_far (p := ⟨gb400, 0, none⟩) (Kd.R_types (Kd.R_types HO398.out BK400.out (by decide)) BK394.out (by decide)) (fun _ hk => hk.1.2) (.slice Ao13 t396.length co13)) (fun _ hk => hk.2) (.slice Ao13 t396.length co13)) (fun _ hk => trivial), el HB⟩
    ·replace c10 := Bool.eq_false_iff.mpr c10
     subst c10
     have H1 : (some (([] : List Int), 4)) = some (r1, r2) := by rw [if_neg (show ¬ (false = true) by decide)] at H; exact H
     clear H
     have H := H1
     clear H1
     simp only [Option.some.injEq, Prod.mk.injEq] at H
     obtain ⟨rfl, rfl⟩ := H
     go_wp2_with (first | ((with_reducible refine gate_callee (f := 161) rfl ?_); refine goesL_ (some 19) rfl rfl Try.func161 (by kernel_rfl) rfl #[.int .i64 a0, .int .i64 a1] rfl eg ?_; (with_reducible refine (spec_l02Tree.calls kj2 a0 a1 t396 false _ A9.out).mono ?_); rintro e w17 ⟨v397, rfl, ho0, hb⟩; refine ⟨_, rfl, ?_⟩; have n0_ := A_ (Kd.R_lower ho0 (below_size (el HB))); have n1_ := A_ (eB BK394 hb); have n2_ := A_ (below_step (el HB) hb); clear BK394; clear HB; have HO398 := n0_; have BK394 := n1_; have HB := n2_; clear n0_ n1_ n2_; (try clear hb); (try clear hb2); (try clear hk); (try clear hi); (try clear ho0)) | ((with_reducible refine gate_dst (N := 6) rfl ?_); refine box_event ?hg (N := 6) ?hd (cs := #[.slice none 0 0]) (t := 26) ?hr ?_; (case hd => rfl); (case hg => rfl); (case hr => first | (go_simp; done) | (go_simp; rfl)); intro gb400 hg w18 hbox hb; have n0_ := A_ (Kd.R_below (ea HO398) hb); have n1_ := A_ (eB BK394 hb); have n2_ := A_ (below_step (el HB) hb); have n3_ := A_ (hbox); have n4_ := A_ ((by rw [hg]; exact (below_size (el HB)) : w.heap.size ≤ gb400)); have n5_ := A_ ((by rw [hg]; exact (below_size (el HB)) : w.heap.size ≤ gb400)); have n6_ := A_ ((by rw [hg]; exact Nat.ne_of_lt (eL BK394) : gb394 ≠ gb400)); have n7_ := A_ ((by rw [hg]; exact Nat.ne_of_gt (eL BK394) : gb400 ≠ gb394)); clear HO398; clear BK394; clear HB; have HO398 := n0_; have BK394 := n1_; have HB := n2_; have BK400 := n3_; have GW400 := n4_; have GE400 := n5_; have NB394_400 := n6_; have NB400_394 := n7_; clear n0_ n1_ n2_ n3_ n4_ n5_ n6_ n7_; clear hb hbox hg; obtain ⟨Ao19, co19, eo19⟩ := Kd.R_slice HO398.out; subst eo19; have hnb20 := NB400_394.out; have hnc20 := NB394_400.out; have hcz21_0 : w18.cell? ⟨gb400, 0, none⟩ = some (.slice none 0 0) := (blk_cell BK400.out 0).trans rfl; have hfz21_0 := blk_frozen BK400.out 0; have hcz22_0 : w18.cell? ⟨gb394, 0, none⟩ = some (.slice none 0 0) := (blk_cell BK394.out 0).trans rfl; have hfz22_0 := blk_frozen BK394.out 0))
     refine bodyPost_ret (results_ct rfl _ _ gb394 26 #[.slice none 0 0] (0, 0) _ rfl spec_TreeOfRank.Z0 Try.underlying26 rfl (by kernel_rfl)) rfl ?_
     exact ⟨_, er, by first | exact Kd.R_nil _ _ _ _ _ | exact Kd.N_nil _ _ _ _ _ | exact Kd.V_nil _ _ _ _ _ | exact Kd.Q_nil _ _ _ _ _ | exact Kd.S_nil _ _ _ _ _, el HB⟩

/-! ### spec_DrawFirstTree: function 93 -/
def spec_DrawFirstTree.f (k : Nat) (l0 : List Int) : Option (Int) := (spec_l01From.f k l0).bind fun bt401 => ((spec_l01Near.f bt401.1 bt401.2.1 bt401.2.2 24).bind fun bt405 => (some bt405.1))
theorem spec_DrawFirstTree.mono : ∀ a0 k, LeO (spec_DrawFirstTree.f k a0) (spec_DrawFirstTree.f (k + 1) a0) := by
  intro a0 k
  unfold spec_DrawFirstTree.f
  repeat' first
      | (with_reducible exact spec_l01From.mono _ _)
      | (with_reducible exact LeO.refl _)
      | (with_reducible exact LeO.none _)
      | (with_reducible refine LeO.ite ?_ ?_)
      | (with_reducible refine LeO.bind ?_ (fun _ => ?_))
      | exact spec_l01From.mono _ _
      | exact LeO.none _
      | refine LeO.ite ?_ ?_
      | refine LeO.bind ?_ (fun _ => ?_)
set_option maxHeartbeats 8000000 in
set_option maxRecDepth 100000 in
theorem spec_DrawFirstTree.calls (k : Nat) (A0 : Option Addr) (c0 : Nat) (l0 : List Int) (r : Int) (w : World) (hr0 : Kd.C (Kd.int .u8) w A0 l0.length l0) (hc0 : l0.length ≤ c0) (h : spec_DrawFirstTree.f k l0 = some r) :
  Calls Try.prog 93 #[.slice A0 l0.length c0] w fun e w' => e = .returned (.int .i64 r) ∧ Below w.heap.size w w' := by
 have HR0 := A_ hr0
 have HC0 := A_ hc0
 clear hr0 hc0
 have HB := A_ (Below.refl w.heap.size w)
 have H : ((spec_l01From.f k l0).bind fun bt401 => ((spec_l01Near.f bt401.1 bt401.2.1 bt401.2.2 24).bind fun bt405 => (some bt405.1))) = some r := h
 clear h
 replace H := Option.bind_eq_some_iff.mp H
 obtain ⟨⟨t401, t402, t403⟩, A20, H⟩ := H
 replace H : ((spec_l01Near.f t401 t402 t403 24).bind fun bt405 => (some bt405.1)) = some r := H
 have A2 := A_ A20
 clear A20
 replace H := Option.bind_eq_some_iff.mp H
 obtain ⟨⟨t405, t406, t407⟩, A30, H⟩ := H
 replace H : (some t405) = some r := H
 have A3 := A_ A30
 clear A30
 obtain rfl := Option.some.inj H
 go_enter Try.func93, Try.ntmps93
 go_wp2_with (first | ((with_reducible refine gate_callee (f := 99) rfl ?_); refine goesL_ (some 4) rfl rfl Try.func99 (by kernel_rfl) rfl #[.slice A0 l0.length c0] rfl eg ?_; (with_reducible refine (spec_l01From.calls k _ _ l0 t401 t402 t403 w _ ?side1 ?side2 ?side3 A2.out).mono ?_); (case side1 => exact el HB); (case side2 => exact HR0.out); (case side3 => exact HC0.out); rintro e w4 ⟨g404, rfl, hi, hb, hb2⟩; refine ⟨_, rfl, ?_⟩; have n0_ := A_ (hb); have n1_ := A_ (hi); clear HB; have HB := n0_; have HI404 := n1_; clear n0_ n1_; (try clear hb); (try clear hb2); (try clear hk); (try clear hi)) | ((with_reducible refine gate_callee (f := 127) rfl ?_); refine goesL_ (some 5) rfl rfl Try.func127 (by kernel_rfl) rfl #[.pointer (some ⟨g404, 0, none⟩), .int .i64 24] rfl eg ?_; (with_reducible refine (spec_l01Near.calls g404 t401 t402 t403 24 t405 t406 t407 w _ ?side1 ?side2 A3.out).mono ?_); (case side1 => exact ei121 HI404); (case side2 => exact em121 HB); rintro e w5 ⟨rfl, hi, hb, hk⟩; refine ⟨_, rfl, ?_⟩; have n0_ := A_ (hb); have n1_ := A_ (hi); clear HB; clear HI404; have HB := n0_; have HI404 := n1_; clear n0_ n1_; (try clear hb); (try clear hb2); (try clear hk); (try clear hi)))
 go_ret
 exact ⟨er, em121 HB⟩

/-! ### impl_FirstTree: function 94 -/
def impl_FirstTree.f (a0 : Int) : Option (List Int × Int) := (impl_isNodes.f a0).bind fun t409 => (if t409 = true then ((impl_treeOfRank.f a0 0).bind fun bt410 => (some (bt410.1, 0))) else (some (([] : List Int), 2)))
set_option maxHeartbeats 8000000 in
set_option maxRecDepth 100000 in
theorem impl_FirstTree.calls (a0 : Int) (r1 : List Int) (r2 : Int) (w : World) (h : impl_FirstTree.f a0 = some (r1, r2)) :
  Calls Try.prog 94 #[.int .i64 a0] w fun e w' => ∃ v0_ : Value, e = .returned (.tuple #[.agg #[v0_], .int .i64 r2]) ∧ Kd.R (Kd.int .i64) 2 w' w.heap.size (fun _ => True) v0_ r1 ∧ Below w.heap.size w w' := by
 have hu26 := Try.underlying26
 have HB := A_ (Below.refl w.heap.size w)
 have H : ((impl_isNodes.f a0).bind fun t409 => (if t409 = true then ((impl_treeOfRank.f a0 0).bind fun bt410 => (some (bt410.1, 0))) else (some (([] : List Int), 2)))) = some (r1, r2) := h
 clear h
 replace H := Option.bind_eq_some_iff.mp H
 obtain ⟨t409, A20, H⟩ := H
 replace H : (if t409 = true then ((impl_treeOfRank.f a0 0).bind fun bt410 => (some (bt410.1, 0))) else (some (([] : List Int), 2))) = some (r1, r2) := H
 have A2 := A_ A20
 clear A20
 by_cases c3 : t409 = true
 ·subst c3
  have H1 : ((impl_treeOfRank.f a0 0).bind fun bt410 => (some (bt410.1, 0))) = some (r1, r2) := by rw [if_pos rfl] at H; exact H
  clear H
  have H := H1
  clear H1
  replace H := Option.bind_eq_some_iff.mp H
  obtain ⟨⟨t410, t413⟩, A40, H⟩ := H
  replace H : (some (t410, 0)) = some (r1, r2) := H
  have A4 := A_ A40
  clear A40
  simp only [Option.some.injEq, Prod.mk.injEq] at H
  obtain ⟨rfl, rfl⟩ := H
  go_enter Try.func94, Try.ntmps94
  go_wp2_with (first | ((with_reducible refine gate_dst (N := 2) rfl ?_); refine box_event ?hg (N := 2) ?hd (cs := #[.slice none 0 0]) (t := 26) ?hr ?_; (case hd => rfl); (case hg => rfl); (case hr => first | (go_simp; done) | (go_simp; rfl)); intro gb408 hg w5 hbox hb; have n0_ := A_ (below_step (el HB) hb); have n1_ := A_ (hbox); have n2_ := A_ ((by rw [hg]; exact (below_size (el HB)) : w.heap.size ≤ gb408)); have n3_ := A_ ((by rw [hg]; exact (below_size (el HB)) : w.heap.size ≤ gb408)); clear HB; have HB := n0_; have BK408 := n1_; have GW408 := n2_; have GE408 := n3_; clear n0_ n1_ n2_ n3_; clear hb hbox hg) | ((with_reducible refine gate_callee (f := 158) rfl ?_); refine goesL_ (some 7) rfl rfl Try.func158 (by kernel_rfl) rfl #[.int .i64 a0] rfl eg ?_; (with_reducible refine (impl_isNodes.calls a0 true _ A2.out).mono ?_); rintro e w' ⟨rfl, ⟨nd, rfl⟩⟩; refine ⟨_, rfl, ?_⟩; (try (rw [drewN_self w5]; generalize hq_ : World.drewN w5 _ = w5; have n0_ : Aside0 (w5.heap[gb408]? = some (.cells #[.slice none 0 0] 26 (0, 0))) := ⟨by rw [← hq_]; exact (eb BK408)⟩; have n1_ : Aside0 (Below w.heap.size w w5) := ⟨by rw [← hq_]; exact (el HB)⟩; clear BK408 HB hq_; have BK408 := n0_; have HB := n1_; clear n0_ n1_))) | ((with_reducible refine gate_callee (f := 165) rfl ?_); refine goesL_ (some 12) rfl rfl Try.func165 (by kernel_rfl) rfl #[.int .i64 a0, .int .i64 0] rfl eg ?_; (with_reducible refine (impl_treeOfRank.calls a0 0 t410 t413 _ A4.out).mono ?_); rintro e w6 ⟨v411, rfl, ho0, hb⟩; refine ⟨_, rfl, ?_⟩; have n0_ := A_ (Kd.R_lower ho0 (below_size (el HB))); have n1_ := A_ (eB BK408 hb); have n2_ := A_ (below_step (el HB) hb); clear BK408; clear HB; have HO412 := n0_; have BK408 := n1_; have HB := n2_; clear n0_ n1_ n2_; (try clear hb); (try clear hb2); (try clear hk); (try clear hi); (try clear ho0)) | ((with_reducible refine gate_dst (N := 4) rfl ?_); refine box_event ?hg (N := 4) ?hd (cs := #[.slice none 0 0]) (t := 26) ?hr ?_; (case hd => rfl); (case hg => rfl); (case hr => first | (go_simp; done) | (go_simp; rfl)); intro gb414 hg w7 hbox hb; have n0_ := A_ (Kd.R_below (ea HO412) hb); have n1_ := A_ (eB BK408 hb); have n2_ := A_ (below_step (el HB) hb); have n3_ := A_ (hbox); have n4_ := A_ ((by rw [hg]; exact (below_size (el HB)) : w.heap.size ≤ gb414)); have n5_ := A_ ((by rw [hg]; exact (below_size (el HB)) : w.heap.size ≤ gb414)); have n6_ := A_ ((by rw [hg]; exact Nat.ne_of_lt (eL BK408) : gb408 ≠ gb414)); have n7_ := A_ ((by rw [hg]; exact Nat.ne_of_gt (eL BK408) : gb414 ≠ gb408)); clear HO412; clear BK408; clear HB; have HO412 := n0_; have BK408 := n1_; have HB := n2_; have BK414 := n3_; have GW414 := n4_; have GE414 := n5_; have NB408_414 := n6_; have NB414_408 := n7_; clear n0_ n1_ n2_ n3_ n4_ n5_ n6_ n7_; clear hb hbox hg; obtain ⟨Ao8, co8, eo8⟩ := Kd.R_slice HO412.out; subst eo8; have hnb9 := NB414_408.out; have hnc9 := NB408_414.out; have hcz10_0 : w7.cell? ⟨gb414, 0, none⟩ = some (.slice none 0 0) := (blk_cell BK414.out 0).trans rfl; have hfz10_0 := blk_frozen BK414.out 0; have hcz11_0 : w7.cell? ⟨gb408, 0, none⟩ = some (.slice none 0 0) := (blk_cell BK408.out 0).trans rfl; have hfz11_0 := blk_frozen BK408.out 0))
  refine bodyPost_ret (results_ct rfl _ _ gb408 26 #[.slice Ao8 t410.length co8] (0, 0) _ rfl (by (with_reducible repeat (first | refine blk_drewN ?_ _ | refine blk_drew ?_ | refine blk_alloc ?_ _)); refine blk_put (cs := #[.slice none 0 0]) ?_ 0 _ rfl; (with_reducible repeat (first | refine blk_drewN ?_ _ | refine blk_drew ?_ | refine blk_alloc ?_ _)); refine blk_far ?_ NB408_414.out _; (with_reducible repeat (first | refine blk_drewN ?_ _ | refine blk_drew ?_ | refine blk_alloc ?_ _)); exact BK408.out) Try.underlying26 rfl (by kernel_rfl)) rfl ?_
  exact ⟨_, er, by (with_reducible repeat (first | apply Kd.R_alloc | apply Kd.R_drewN | apply Kd.R_drew)); exact Kd.R_mono (Kd.R_far (p := ⟨gb408, 0, none⟩) (Kd.R_far (p := ⟨gb414, 0, none⟩) (Kd.R_types (Kd.R_types HO412.out BK414.out (by decide)) BK408.out (by decide)) (fun _ hk => hk.1.2) (.slice Ao8 t410.length co8)) (fun _ hk => hk.2) (.slice Ao8 t410.length co8)) (fun _ hk => trivial), el HB⟩
 ·replace c3 := Bool.eq_false_iff.mpr c3
  subst c3
  have H1 : (some (([] : List Int), 2)) = some (r1, r2) := by rw [if_neg (show ¬ (false = true) by decide)] at H; exact H
  clear H
  have H := H1
  clear H1
  simp only [Option.some.injEq, Prod.mk.injEq] at H
  obtain ⟨rfl, rfl⟩ := H
  go_enter Try.func94, Try.ntmps94
  go_wp2_with (first | ((with_reducible refine gate_dst (N := 2) rfl ?_); refine box_event ?hg (N := 2) ?hd (cs := #[.slice none 0 0]) (t := 26) ?hr ?_; (case hd => rfl); (case hg => rfl); (case hr => first | (go_simp; done) | (go_simp; rfl)); intro gb408 hg w12 hbox hb; have n0_ := A_ (below_step (el HB) hb); have n1_ := A_ (hbox); have n2_ := A_ ((by rw [hg]; exact (below_size (el HB)) : w.heap.size ≤ gb408)); have n3_ := A_ ((by rw [hg]; exact (below_size (el HB)) : w.heap.size ≤ gb408)); clear HB; have HB := n0_; have BK408 := n1_; have GW408 := n2_; have GE408 := n3_; clear n0_ n1_ n2_ n3_; clear hb hbox hg) | ((with_reducible refine gate_callee (f := 158) rfl ?_); refine goesL_ (some 7) rfl rfl Try.func158 (by kernel_rfl) rfl #[.int .i64 a0] rfl eg ?_; (with_reducible refine (impl_isNodes.calls a0 false _ A2.out).mono ?_); rintro e w' ⟨rfl, ⟨nd, rfl⟩⟩; refine ⟨_, rfl, ?_⟩; (try (rw [drewN_self w12]; generalize hq_ : World.drewN w12 _ = w12; have n0_ : Aside0 (w12.heap[gb408]? = some (.cells #[.slice none 0 0] 26 (0, 0))) := ⟨by rw [← hq_]; exact (eb BK408)⟩; have n1_ : Aside0 (Below w.heap.size w w12) := ⟨by rw [← hq_]; exact (el HB)⟩; clear BK408 HB hq_; have BK408 := n0_; have HB := n1_; clear n0_ n1_)); have hcz13_0 : w12.cell? ⟨gb408, 0, none⟩ = some (.slice none 0 0) := (blk_cell BK408.out 0).trans rfl; have hfz13_0 := blk_frozen BK408.out 0))
  refine bodyPost_ret (results_ct rfl _ _ gb408 26 #[.slice none 0 0] (0, 0) _ rfl (by (with_reducible repeat (first | refine blk_drewN ?_ _ | refine blk_drew ?_ | refine blk_alloc ?_ _)); refine blk_put (cs := #[.slice none 0 0]) ?_ 0 _ rfl; (with_reducible repeat (first | refine blk_drewN ?_ _ | refine blk_drew ?_ | refine blk_alloc ?_ _)); exact BK408.out) Try.underlying26 rfl (by kernel_rfl)) rfl ?_
  exact ⟨_, er, by first | exact Kd.R_nil _ _ _ _ _ | exact Kd.N_nil _ _ _ _ _ | exact Kd.V_nil _ _ _ _ _ | exact Kd.Q_nil _ _ _ _ _ | exact Kd.S_nil _ _ _ _ _, el HB⟩

/-! ### spec_FirstTree: function 95 -/
def spec_FirstTree.l0 : Nat → Int → List Int → Int → Option (List Int × Int)
  | 0, _, _, _ => none
  | k + 1, x0, x4, x5 => if x5 < x0 then (if x4.length < 17592186044416 then (spec_FirstTree.l0 k x0 (x4 ++ [1]) (wrap64 (x5 + 1))) else (none)) else (if x4.length < 17592186044416 then (some ((x4 ++ [0]), 0)) else (none))
def spec_FirstTree.f (k : Nat) (a0 : Int) : Option (List Int × Int) := (spec_l02Whole.f a0).bind fun t416 => (if t416 = true then (spec_FirstTree.l0 k a0 (([] : List Int)) 1) else (some (([] : List Int), 2)))
theorem spec_FirstTree.mono_l : ∀ k, (∀ y0 y1 y2, LeO (spec_FirstTree.l0 k y0 y1 y2) (spec_FirstTree.l0 (k + 1) y0 y1 y2))
  | 0 => fun _ _ _ r h => by simp [spec_FirstTree.l0] at h
  | k + 1 => by
    have ih0 := spec_FirstTree.mono_l k
    · intro y0 y1 y2
      unfold spec_FirstTree.l0
      repeat' first
      | (with_reducible exact ih0 _ _ _)
      | (with_reducible exact LeO.refl _)
      | (with_reducible exact LeO.none _)
      | (with_reducible refine LeO.ite ?_ ?_)
      | (with_reducible refine LeO.bind ?_ (fun _ => ?_))
      | exact ih0 _ _ _
      | exact LeO.none _
      | refine LeO.ite ?_ ?_
      | refine LeO.bind ?_ (fun _ => ?_)
theorem spec_FirstTree.mono : ∀ a0 k, LeO (spec_FirstTree.f k a0) (spec_FirstTree.f (k + 1) a0) := by
  intro a0 k
  have ih0 := spec_FirstTree.mono_l k
  unfold spec_FirstTree.f
  repeat' first
      | (with_reducible exact ih0 _ _ _)
      | (with_reducible exact LeO.refl _)
      | (with_reducible exact LeO.none _)
      | (with_reducible refine LeO.ite ?_ ?_)
      | (with_reducible refine LeO.bind ?_ (fun _ => ?_))
      | exact ih0 _ _ _
      | exact LeO.none _
      | refine LeO.ite ?_ ?_
      | refine LeO.bind ?_ (fun _ => ?_)
theorem spec_FirstTree.Z0 {p : Prop} (h : p := by (with_reducible repeat (first | refine blk_drewN ?_ _ | refine blk_drew ?_ | refine blk_alloc ?_ _)); refine blk_put (cs := #[.slice none 0 0]) ?_ 0 _ rfl; (with_reducible repeat (first | refine blk_drewN ?_ _ | refine blk_drew ?_ | refine blk_alloc ?_ _)); exact BK415.out) : p := h
theorem spec_FirstTree.Z1 {p : Prop} (h : p := by first | rfl | (simp; done) | (simp [*]; done)) : p := h
set_option maxHeartbeats 8000000 in
set_option maxRecDepth 100000 in
theorem spec_FirstTree.calls (k : Nat) (a0 : Int) (r1 : List Int) (r2 : Int) (w : World) (h : spec_FirstTree.f k a0 = some (r1, r2)) :
  Calls Try.prog 95 #[.int .i64 a0] w fun e w' => ∃ v0_ : Value, e = .returned (.tuple #[.agg #[v0_], .int .i64 r2]) ∧ Kd.R (Kd.int .i64) 2 w' w.heap.size (fun _ => True) v0_ r1 ∧ Below w.heap.size w w' := by
 have hu26 := Try.underlying26
 have HB := A_ (Below.refl w.heap.size w)
 have H : ((spec_l02Whole.f a0).bind fun t416 => (if t416 = true then (spec_FirstTree.l0 k a0 (([] : List Int)) 1) else (some (([] : List Int), 2)))) = some (r1, r2) := h
 clear h
 replace H := Option.bind_eq_some_iff.mp H
 obtain ⟨t416, A20, H⟩ := H
 replace H : (if t416 = true then (spec_FirstTree.l0 k a0 (([] : List Int)) 1) else (some (([] : List Int), 2))) = some (r1, r2) := H
 have A2 := A_ A20
 clear A20
 by_cases c3 : t416 = true
 ·subst c3
  have H1 : (spec_FirstTree.l0 k a0 (([] : List Int)) 1) = some (r1, r2) := by rw [if_pos rfl] at H; exact H
  clear H
  have H := H1
  clear H1
  obtain ⟨y417, hy417⟩ : ∃ y_ : List Int, y_ = (([] : List Int)) := ⟨_, rfl⟩
  replace H : (spec_FirstTree.l0 k a0 y417 1) = some (r1, r2) := by first | (rw [hy417]; with_reducible exact H) | (have H2_ := (Option.bind_some _ _).symm.trans H; rw [hy417]; with_reducible exact H2_) | (have H2_ := (Option.bind_some _ _).symm.trans H; with_reducible exact H2_) | with_reducible exact H | (rw [hy417]; exact H) | exact H
  have Ny417 := A_ hy417
  clear hy417
  have H' := A_ H
  clear H
  go_enter Try.func95, Try.ntmps95
  go_wp2_with (first | ((with_reducible refine gate_dst (N := 2) rfl ?_); refine box_event ?hg (N := 2) ?hd (cs := #[.slice none 0 0]) (t := 26) ?hr ?_; (case hd => rfl); (case hg => rfl); (case hr => first | (go_simp; done) | (go_simp; rfl)); intro gb415 hg w4 hbox hb; have n0_ := A_ (below_step (el HB) hb); have n1_ := A_ (hbox); have n2_ := A_ ((by rw [hg]; exact (below_size (el HB)) : w.heap.size ≤ gb415)); have n3_ := A_ ((by rw [hg]; exact (below_size (el HB)) : w.heap.size ≤ gb415)); clear HB; have HB := n0_; have BK415 := n1_; have GW415 := n2_; have GE415 := n3_; clear n0_ n1_ n2_ n3_; clear hb hbox hg) | ((with_reducible refine gate_callee (f := 160) rfl ?_); refine goesL_ (some 7) rfl rfl Try.func160 (by kernel_rfl) rfl #[.int .i64 a0] rfl eg ?_; (with_reducible refine (spec_l02Whole.calls a0 true _ A2.out).mono ?_); rintro e w' ⟨rfl, ⟨nd, rfl⟩⟩; refine ⟨_, rfl, ?_⟩) | ((with_reducible refine gate_dst (N := 10) rfl ?_); refine Kd.R_lit (Kd.int .i64) _ 2 ?hg (N := 10) ?hd (xs := ([] : List Int)) (inner := []) (ok := fun _ => True) (okp := fun _ => True) ?hr ?hp (fun _ hk => hk) trivial (Below.refl _ _) (Nat.le_refl _) (by simp) ?_; (case hd => rfl); (case hg => rfl); (case hr => first | (go_simp; done) | (go_simp; rfl)); (case hp => exact (Reps.none _ _)); intro v418 w5 ho6 hb hg_ hnew_; clear hg_ hnew_; (first | rw [← Ny417.out] at ho6 | (simp only [Int.reduceToNat] at ho6; rw [← Ny417.out] at ho6)); have n0_ := A_ (Kd.R_lower ho6 (below_size (el HB))); have n1_ := A_ (eB BK415 hb); have n2_ := A_ (below_step (el HB) hb); clear BK415; clear HB; have HO419 := n0_; have BK415 := n1_; have HB := n2_; clear n0_ n1_ n2_; clear hb ho6))
  go_loopg [4, 5] k (fun kq v4 v5 w' => ∃ (x4_1 : List Int) (x5_1 : Int), v5 = .int .i64 x5_1 ∧ Aside0 (spec_FirstTree.l0 kq a0 x4_1 x5_1 = some (r1, r2)) ∧ Aside0 (kq ≤ k) ∧ Aside0 (Kd.R (Kd.int .i64) 2 w' w.heap.size (fun _ => True) v4 x4_1) ∧ Aside0 (w'.heap[gb415]? = some (.cells #[(.slice none 0 0)] 26 (0, 0))) ∧ Aside0 (Below w.heap.size w w'))
  case atStart => exact ⟨(y417), (1), spec_FirstTree.Z1, H', ⟨Nat.le_refl _⟩, ⟨ea HO419⟩, ⟨eb BK415⟩, ⟨el HB⟩⟩
  case round =>
   clear H'
   try clear c1
   try clear p2
   try clear c3
   obtain ⟨x4_1, x5_1, rfl, HA, HK1, HO_4, BK415, HB⟩ := hrel
   cases gk with
   | zero => exact absurd HA.out (by simp [spec_FirstTree.l0])
   | succ k1 =>
    have H := HA.out
    clear HA
    simp only [spec_FirstTree.l0] at H
    by_cases c7 : x5_1 < a0
    ·rw [if_pos c7] at H
     have c7b0 : decide (x5_1 < a0) = true := decide_eq_true c7
     clear c7
     by_cases c8 : x4_1.length < 17592186044416
     rotate_left
     ·rw [if_neg c8] at H
      exact absurd H (by simp)
     rw [if_pos c8] at H
     have LMc8 := A_ c8
     clear c8
     obtain ⟨y420, hy420⟩ : ∃ y_ : List Int, y_ = (x4_1 ++ [1]) := ⟨_, rfl⟩
     replace H : (spec_FirstTree.l0 k1 a0 y420 (wrap64 (x5_1 + 1))) = some (r1, r2) := by first | (rw [hy420]; with_reducible exact H) | (have H2_ := (Option.bind_some _ _).symm.trans H; rw [hy420]; with_reducible exact H2_) | (have H2_ := (Option.bind_some _ _).symm.trans H; with_reducible exact H2_) | with_reducible exact H | (rw [hy420]; exact H) | exact H
     have Ny420 := A_ hy420
     clear hy420
     have H' := A_ H
     clear H
     go_wp2_with (first | ((with_reducible refine gate_builtin (b := .append) (xs := #[.tmp 16, .tmp 17]) rfl ?_); at_builtin; refine Kd.R_append (Kd.int .i64) (w0 := w) w.heap.size rfl (.tmp 16) (.tmp 17) 24 2 (.int .i64 0) 8 rfl Try.underlying24 info2 rfl (by decide) (by omega) u4 x4_1 1 [.int .i64 1] (fun _ => True) (fun _ => False) rfl rfl ?aP (fun _ hk => hk.elim) ?aF ?aO ?aB ?aS ?aL ?_; (case aP => exact rfl); (case aB => exact (el HB)); (case aF => exact (fun _ _ => trivial)); (case aO => exact (ea HO_4)); (case aS => exact (below_size (el HB))); (case aL => have := LMc8.out; omega); intro v421 w9 ho hb hg hat; rw [← Ny420.out] at ho; have n0_ := A_ (blk_grown (g := gb415) (o := .cells #[.slice none 0 0] 26 (0, 0)) (eb BK415) hg (Kd.R_ne HO_4.out BK415.out (by decide))); have n1_ := A_ (hb); have n2_ := A_ (ho); clear BK415; clear HB; clear HO_4; have BK415 := n0_; have HB := n1_; have HO422 := n2_; clear n0_ n1_ n2_; clear ho hb hg hat))
     go_roundg k1
     case measure => have := HK1.out; omega
     case rel => exact ⟨(y420), (wrap64 (x5_1 + 1)), spec_FirstTree.Z1, H', ⟨by have := HK1.out; omega⟩, ⟨es HO422⟩, ⟨eb BK415⟩, ⟨el HB⟩⟩
    ·rw [if_neg c7] at H
     have c7b0 : decide (x5_1 < a0) = false := decide_eq_false c7
     clear c7
     by_cases c10 : x4_1.length < 17592186044416
     rotate_left
     ·rw [if_neg c10] at H
      exact absurd H (by simp)
     rw [if_pos c10] at H
     have LMc10 := A_ c10
     clear c10
     obtain ⟨y423, hy423⟩ : ∃ y_ : List Int, y_ = (x4_1 ++ [0]) := ⟨_, rfl⟩
     replace H : (some (y423, 0)) = some (r1, r2) := by first | (rw [hy423]; with_reducible exact H) | (have H2_ := (Option.bind_some _ _).symm.trans H; rw [hy423]; with_reducible exact H2_) | (have H2_ := (Option.bind_some _ _).symm.trans H; with_reducible exact H2_) | with_reducible exact H | (rw [hy423]; exact H) | exact H
     have Ny423 := A_ hy423
     clear hy423
     simp only [Option.some.injEq, Prod.mk.injEq] at H
     obtain ⟨rfl, rfl⟩ := H
     go_wp2_with (first | ((with_reducible refine gate_builtin (b := .append) (xs := #[.tmp 19, .tmp 20]) rfl ?_); at_builtin; refine Kd.R_append (Kd.int .i64) (w0 := w) w.heap.size rfl (.tmp 19) (.tmp 20) 24 2 (.int .i64 0) 8 rfl Try.underlying24 info2 rfl (by decide) (by omega) u4 x4_1 0 [.int .i64 0] (fun _ => True) (fun _ => False) rfl rfl ?aP (fun _ hk => hk.elim) ?aF ?aO ?aB ?aS ?aL ?_; (case aP => exact rfl); (case aB => exact (el HB)); (case aF => exact (fun _ _ => trivial)); (case aO => exact (ea HO_4)); (case aS => exact (below_size (el HB))); (case aL => have := LMc10.out; omega); intro v424 w11 ho hb hg hat; rw [← Ny423.out] at ho; have n0_ := A_ (blk_grown (g := gb415) (o := .cells #[.slice none 0 0] 26 (0, 0)) (eb BK415) hg (Kd.R_ne HO_4.out BK415.out (by decide))); have n1_ := A_ (hb); have n2_ := A_ (ho); clear BK415; clear HB; clear HO_4; have BK415 := n0_; have HB := n1_; have HO425 := n2_; clear n0_ n1_ n2_; clear ho hb hg hat; obtain ⟨Ao12, co12, eo12⟩ := Kd.R_slice HO425.out; subst eo12; have hcz13_0 : w11.cell? ⟨gb415, 0, none⟩ = some (.slice none 0 0) := (blk_cell BK415.out 0).trans rfl; have hfz13_0 := blk_frozen BK415.out 0))
     refine bodyPost_ret (results_ct rfl _ _ gb415 26 #[.slice Ao12 y423.length co12] (0, 0) _ rfl spec_FirstTree.Z0 Try.underlying26 rfl (by kernel_rfl)) rfl ?_
     exact ⟨_, er, by (with_reducible repeat (first | apply Kd.R_alloc | apply Kd.R_drewN | apply Kd.R_drew)); exact Kd.R_mono (Kd.R_far (p := ⟨gb415, 0, none⟩) (Kd.R_types HO425.out BK415.out (by decide)) (fun _ hk => hk.2) (.slice Ao12 y423.length co12)) (fun _ hk => trivial), el HB⟩
 ·replace c3 := Bool.eq_false_iff.mpr c3
  subst c3
  have H1 : (some (([] : List Int), 2)) = some (r1, r2) := by rw [if_neg (show ¬ (false = true) by decide)] at H; exact H
  clear H
  have H := H1
  clear H1
  simp only [Option.some.injEq, Prod.mk.injEq] at H
  obtain ⟨rfl, rfl⟩ := H
  go_enter Try.func95, Try.ntmps95
  go_wp2_with (first | ((with_reducible refine gate_dst (N := 2) rfl ?_); refine box_event ?hg (N := 2) ?hd (cs := #[.slice none 0 0]) (t := 26) ?hr ?_; (case hd => rfl); (case hg => rfl); (case hr => first | (go_simp; done) | (go_simp; rfl)); intro gb415 hg w14 hbox hb; have n0_ := A_ (below_step (el HB) hb); have n1_ := A_ (hbox); have n2_ := A_ ((by rw [hg]; exact (below_size (el HB)) : w.heap.size ≤ gb415)); have n3_ := A_ ((by rw [hg]; exact (below_size (el HB)) : w.heap.size ≤ gb415)); clear HB; have HB := n0_; have BK415 := n1_; have GW415 := n2_; have GE415 := n3_; clear n0_ n1_ n2_ n3_; clear hb hbox hg) | ((with_reducible refine gate_callee (f := 160) rfl ?_); refine goesL_ (some 7) rfl rfl Try.func160 (by kernel_rfl) rfl #[.int .i64 a0] rfl eg ?_; (with_reducible refine (spec_l02Whole.calls a0 false _ A2.out).mono ?_); rintro e w' ⟨rfl, ⟨nd, rfl⟩⟩; refine ⟨_, rfl, ?_⟩; (try (rw [drewN_self w14]; generalize hq_ : World.drewN w14 _ = w14; have n0_ : Aside0 (w14.heap[gb415]? = some (.cells #[.slice none 0 0] 26 (0, 0))) := ⟨by rw [← hq_]; exact (eb BK415)⟩; have n1_ : Aside0 (Below w.heap.size w w14) := ⟨by rw [← hq_]; exact (el HB)⟩; clear BK415 HB hq_; have BK415 := n0_; have HB := n1_; clear n0_ n1_)); have hcz15_0 : w14.cell? ⟨gb415, 0, none⟩ = some (.slice none 0 0) := (blk_cell BK415.out 0).trans rfl; have hfz15_0 := blk_frozen BK415.out 0))
  refine bodyPost_ret (results_ct rfl _ _ gb415 26 #[.slice none 0 0] (0, 0) _ rfl spec_FirstTree.Z0 Try.underlying26 rfl (by kernel_rfl)) rfl ?_
  exact ⟨_, er, by first | exact Kd.R_nil _ _ _ _ _ | exact Kd.N_nil _ _ _ _ _ | exact Kd.V_nil _ _ _ _ _ | exact Kd.Q_nil _ _ _ _ _ | exact Kd.S_nil _ _ _ _ _, el HB⟩

/-! ### impl_LastTree: function 96 -/
def impl_LastTree.f (a0 : Int) : Option (List Int × Int) := (impl_isNodes.f a0).bind fun t => if t = true then (if 0 ≤ a0 then (if a0 ≤ 30 then ((impl_treeOfRank.f a0 (wrap64 (tab a0.toNat 1 - 1))).bind fun p => some (p.1, 0)) else none) else none) else some ([], 2)
theorem impl_LastTree.Z0 {p : Prop} (h : p := by (try simp only [List.map_toArray, List.map_cons, List.map_nil]); first | done | rfl) : p := h
theorem impl_LastTree.Z1 {p : Prop} (h : p := by rw [hg]; exact below_size HB.out) : p := h
set_option maxHeartbeats 8000000 in
set_option maxRecDepth 100000 in
theorem impl_LastTree.calls (a0 : Int) (r1 : List Int) (r2 : Int) (w : World) (h : impl_LastTree.f a0 = some (r1, r2)) :
  Calls Try.prog 96 #[.int .i64 a0] w fun e w' => ∃ v0_ : Value, e = .returned (.tuple #[.agg #[v0_], .int .i64 r2]) ∧ Kd.R (Kd.int .i64) 2 w' w.heap.size (fun _ => True) v0_ r1 ∧ Below w.heap.size w w' := by
 have hu := Try.underlying26
 have HB := A_ (Below.refl w.heap.size w)
 unfold impl_LastTree.f at h
 obtain ⟨t, ht, h⟩ := Option.bind_eq_some_iff.mp h
 have A2 := A_ ht
 clear ht
 cases t with
 | false =>
  rw [if_neg (by simp)] at h
  simp only [Option.some.injEq, Prod.mk.injEq] at h
  obtain ⟨rfl, rfl⟩ := h
  go_enter Try.func96, Try.ntmps96
  go_wp2_with (first | ((with_reducible refine gate_dst (N := 2) rfl ?_); refine box_event ?hg (N := 2) ?hd (cs := #[.slice none 0 0]) (t := 26) ?hr ?_; (case hd => rfl); (case hg => rfl); (case hr => first | (go_simp; done) | (go_simp; rfl)); intro g1 hg w5 hbox hb; have n0_ := A_ (below_step HB.out hb); have n1_ := A_ hbox; have n2_ := A_ (impl_LastTree.Z1 : w.heap.size ≤ g1); clear HB; have HB := n0_; have BK1 := n1_; have GE1 := n2_; clear n0_ n1_ n2_; clear hb hbox hg) | ((with_reducible refine gate_callee (f := 158) rfl ?_); refine goesL_ (some 7) rfl rfl Try.func158 (by kernel_rfl) rfl #[.int .i64 a0] rfl impl_LastTree.Z0 ?_; (with_reducible refine (impl_isNodes.calls a0 false _ A2.out).mono ?_); rintro e w' ⟨rfl, ⟨nd, rfl⟩⟩; refine ⟨_, rfl, ?_⟩; (try (rw [drewN_self w5]; generalize hq_ : World.drewN w5 _ = w5; have n0_ : Aside0 (w5.heap[g1]? = some (.cells #[.slice none 0 0] 26 (0, 0))) := ⟨by rw [← hq_]; exact (eb BK1)⟩; have n1_ : Aside0 (Below w.heap.size w w5) := ⟨by rw [← hq_]; exact (el HB)⟩; clear BK1 HB hq_; have BK1 := n0_; have HB := n1_; clear n0_ n1_)); have hcz1 : w5.cell? ⟨g1, 0, none⟩ = some (.slice none 0 0) := (blk_cell BK1.out 0).trans rfl; have hfz1 := blk_frozen BK1.out 0))
  refine bodyPost_ret (results_ct rfl _ _ g1 26 #[.slice none 0 0] (0, 0) _ rfl (by (with_reducible repeat (first | refine blk_drewN ?_ _ | refine blk_drew ?_ | refine blk_alloc ?_ _)); refine blk_put (cs := #[.slice none 0 0]) ?_ 0 _ rfl; (with_reducible repeat (first | refine blk_drewN ?_ _ | refine blk_drew ?_ | refine blk_alloc ?_ _)); exact BK1.out) Try.underlying26 rfl (by kernel_rfl)) rfl ?_
  exact ⟨_, by first | rfl | (simp; done), Kd.R_nil _ _ _ _ _, el HB⟩
 | true =>
  rw [if_pos rfl] at h
  by_cases c1 : 0 ≤ a0
  ·rw [if_pos c1] at h
   by_cases c2 : a0 ≤ 30
   ·rw [if_pos c2] at h
    obtain ⟨n, rfl⟩ : ∃ n : Nat, a0 = n := ⟨a0.toNat, by omega⟩
    have hn : n ≤ 30 := by omega
    clear c1 c2
    rw [Int.toNat_natCast] at h
    obtain ⟨E, hE⟩ : ∃ E, E = tab n 1 := ⟨_, rfl⟩
    rw [← hE] at h
    have HE := A_ hE
    clear hE
    obtain ⟨⟨q1, q2⟩, h4, h⟩ := Option.bind_eq_some_iff.mp h
    have A4 := A_ h4
    clear h4
    simp only [Option.some.injEq, Prod.mk.injEq] at h
    obtain ⟨rfl, rfl⟩ := h
    go_enter Try.func96, Try.ntmps96
    go_wp2_with (first | ((with_reducible refine gate_dst (N := 2) rfl ?_); refine box_event ?hg (N := 2) ?hd (cs := #[.slice none 0 0]) (t := 26) ?hr ?_; (case hd => rfl); (case hg => rfl); (case hr => first | (go_simp; done) | (go_simp; rfl)); intro g1 hg w5 hbox hb; have n0_ := A_ (below_step HB.out hb); have n1_ := A_ hbox; have n2_ := A_ (impl_LastTree.Z1 : w.heap.size ≤ g1); clear HB; have HB := n0_; have BK1 := n1_; have GE1 := n2_; clear n0_ n1_ n2_; clear hb hbox hg) | ((with_reducible refine gate_callee (f := 158) rfl ?_); refine goesL_ (some 7) rfl rfl Try.func158 (by kernel_rfl) rfl #[.int .i64 (n : Int)] rfl impl_LastTree.Z0 ?_; (with_reducible refine (impl_isNodes.calls (n : Int) true _ A2.out).mono ?_); rintro e w' ⟨rfl, ⟨nd, rfl⟩⟩; refine ⟨_, rfl, ?_⟩; (try (rw [drewN_self w5]; generalize hq_ : World.drewN w5 _ = w5; have n0_ : Aside0 (w5.heap[g1]? = some (.cells #[.slice none 0 0] 26 (0, 0))) := ⟨by rw [← hq_]; exact (eb BK1)⟩; have n1_ : Aside0 (Below w.heap.size w w5) := ⟨by rw [← hq_]; exact (el HB)⟩; clear BK1 HB hq_; have BK1 := n0_; have HB := n1_; clear n0_ n1_))) | (go_at_call 156; (with_reducible refine (impl_countForests.calls _).mono ?_); rintro e w1 ⟨g, rfl, hg, ⟨C, hC, hS⟩, hb⟩; have hcell := forests_cell hC hS n 1 (by omega) (by omega); rw [← HE.out] at hcell; have n1_ := A_ (eB BK1 hb); have n2_ := A_ (below_step (el HB) hb); clear BK1; clear HB; have BK1 := n1_; have HB := n2_; clear n1_ n2_; clear hg hC hS hb) | ((with_reducible refine gate_callee (f := 165) rfl ?_); refine goesL_ (some 19) rfl rfl Try.func165 (by kernel_rfl) rfl #[.int .i64 (n : Int), .int .i64 (wrap64 (E - 1))] rfl impl_LastTree.Z0 ?_; (with_reducible refine (impl_treeOfRank.calls (n : Int) (wrap64 (E - 1)) q1 q2 _ A4.out).mono ?_); rintro e w6 ⟨v6, rfl, ho0, hb⟩; refine ⟨_, rfl, ?_⟩; have n0_ := A_ (Kd.R_lower ho0 (below_size HB.out)); have n1_ := A_ (blk_below (g := g1) (o := .cells #[.slice none 0 0] 26 (0, 0)) BK1.out hb); have n2_ := A_ (below_step HB.out hb); clear BK1; clear HB; have HO := n0_; have BK1 := n1_; have HB := n2_; clear n0_ n1_ n2_; clear hb ho0 hcell) | ((with_reducible refine gate_dst (N := 4) rfl ?_); refine box_event ?hg (N := 4) ?hd (cs := #[.slice none 0 0]) (t := 26) ?hr ?_; (case hd => rfl); (case hg => rfl); (case hr => first | (go_simp; done) | (go_simp; rfl)); intro g2 hg w7 hbox hb; have n0_ := A_ (Kd.R_below HO.out hb); have n1_ := A_ (blk_below (g := g1) (o := .cells #[.slice none 0 0] 26 (0, 0)) BK1.out hb); have n2_ := A_ (below_step HB.out hb); have n3_ := A_ hbox; have n5_ := A_ (impl_LastTree.Z1 : w.heap.size ≤ g2); have n6_ := A_ ((by rw [hg]; exact Nat.ne_of_lt (blk_lt (g := g1) (o := .cells #[.slice none 0 0] 26 (0, 0)) BK1.out)) : g1 ≠ g2); clear HO; clear BK1; clear HB; have HO := n0_; have BK1 := n1_; have HB := n2_; have BK2 := n3_; have GE2 := n5_; have NB := n6_; clear n0_ n1_ n2_ n3_ n5_ n6_; clear hb hbox hg; obtain ⟨Ao, co, eo⟩ := Kd.R_slice HO.out; subst eo; have hnb := NB.out; have hnc := NB.out.symm; have hcz2 : w7.cell? ⟨g2, 0, none⟩ = some (.slice none 0 0) := (blk_cell BK2.out 0).trans rfl; have hfz2 := blk_frozen BK2.out 0; have hcz1 : w7.cell? ⟨g1, 0, none⟩ = some (.slice none 0 0) := (blk_cell BK1.out 0).trans rfl; have hfz1 := blk_frozen BK1.out 0))
    refine bodyPost_ret (results_ct rfl _ _ g1 26 #[.slice Ao q1.length co] (0, 0) _ rfl (by (with_reducible repeat (first | refine blk_drewN ?_ _ | refine blk_drew ?_ | refine blk_alloc ?_ _)); refine blk_put (cs := #[.slice none 0 0]) ?_ 0 _ rfl; (with_reducible repeat (first | refine blk_drewN ?_ _ | refine blk_drew ?_ | refine blk_alloc ?_ _)); refine blk_far ?_ NB.out _; (with_reducible repeat (first | refine blk_drewN ?_ _ | refine blk_drew ?_ | refine blk_alloc ?_ _)); exact BK1.out) Try.underlying26 rfl (by kernel_rfl)) rfl ?_
    exact ⟨_, by first | rfl | (simp; done), by (with_reducible repeat (first | apply Kd.R_alloc | apply Kd.R_drewN | apply Kd.R_drew)); exact Kd.R_mono (Kd.R_far (p := ⟨g1, 0, none⟩) (Kd.R_far (p := ⟨g2, 0, none⟩) (Kd.R_types (Kd.R_types HO.out BK2.out (by decide)) BK1.out (by decide)) (fun _ hk => hk.1.2) (.slice Ao q1.length co)) (fun _ hk => hk.2) (.slice Ao q1.length co)) (fun _ hk => trivial), el HB⟩
   ·rw [if_neg c2] at h
    cases h
  ·rw [if_neg c1] at h
   cases h


/-! ### spec_LastTree: function 97 -/
def spec_LastTree.f (a0 : Int) : Option (List Int × Int) := (spec_l02Whole.f a0).bind fun t427 => (if t427 = true then (if 0 ≤ a0 then (if (a0 : Int).toNat ≤ 35184372088832 then ((some (List.replicate (a0 : Int).toNat 0 : List Int)).bind fun y428 => (if 0 < (y428.length : Int) then (some ((y428.set (0 : Int).toNat (wrap64 (a0 - 1))), 0)) else (none))) else (none)) else (none)) else (some (([] : List Int), 2)))
theorem spec_LastTree.Z0 {p : Prop} (h : p := by (with_reducible repeat (first | refine blk_drewN ?_ _ | refine blk_drew ?_ | refine blk_alloc ?_ _)); refine blk_put (cs := #[.slice none 0 0]) ?_ 0 _ rfl; (with_reducible repeat (first | refine blk_drewN ?_ _ | refine blk_drew ?_ | refine blk_alloc ?_ _)); exact BK426.out) : p := h
theorem spec_LastTree.Z1 {p : Prop} (h : p := by first | (with_reducible assumption) | assumption) : p := h
set_option maxHeartbeats 8000000 in
set_option maxRecDepth 100000 in
theorem spec_LastTree.calls (a0 : Int) (r1 : List Int) (r2 : Int) (w : World) (h : spec_LastTree.f a0 = some (r1, r2)) :
  Calls Try.prog 97 #[.int .i64 a0] w fun e w' => ∃ v0_ : Value, e = .returned (.tuple #[.agg #[v0_], .int .i64 r2]) ∧ Kd.R (Kd.int .i64) 2 w' w.heap.size (fun _ => True) v0_ r1 ∧ Below w.heap.size w w' := by
 have hu26 := Try.underlying26
 have HB := A_ (Below.refl w.heap.size w)
 have H : ((spec_l02Whole.f a0).bind fun t427 => (if t427 = true then (if 0 ≤ a0 then (if (a0 : Int).toNat ≤ 35184372088832 then ((some (List.replicate (a0 : Int).toNat 0 : List Int)).bind fun y428 => (if 0 < (y428.length : Int) then (some ((y428.set (0 : Int).toNat (wrap64 (a0 - 1))), 0)) else (none))) else (none)) else (none)) else (some (([] : List Int), 2)))) = some (r1, r2) := h
 clear h
 replace H := Option.bind_eq_some_iff.mp H
 obtain ⟨t427, A20, H⟩ := H
 replace H : (if t427 = true then (if 0 ≤ a0 then (if (a0 : Int).toNat ≤ 35184372088832 then ((some (List.replicate (a0 : Int).toNat 0 : List Int)).bind fun y428 => (if 0 < (y428.length : Int) then (some ((y428.set (0 : Int).toNat (wrap64 (a0 - 1))), 0)) else (none))) else (none)) else (none)) else (some (([] : List Int), 2))) = some (r1, r2) := H
 have A2 := A_ A20
 clear A20
 by_cases c3 : t427 = true
 ·subst c3
  have H1 : (if 0 ≤ a0 then (if (a0 : Int).toNat ≤ 35184372088832 then ((some (List.replicate (a0 : Int).toNat 0 : List Int)).bind fun y428 => (if 0 < (y428.length : Int) then (some ((y428.set (0 : Int).toNat (wrap64 (a0 - 1))), 0)) else (none))) else (none)) else (none)) = some (r1, r2) := by rw [if_pos rfl] at H; exact H
  clear H
  have H := H1
  clear H1
  by_cases c4 : 0 ≤ a0
  rotate_left
  ·rw [if_neg c4] at H
   exact absurd H (by simp)
  rw [if_pos c4] at H
  have c4b0 := eq_true c4
  have c4b1 : decide (0 ≤ a0) = true := decide_eq_true c4
  clear c4
  by_cases c5 : (a0 : Int).toNat ≤ 35184372088832
  rotate_left
  ·rw [if_neg c5] at H
   exact absurd H (by simp)
  rw [if_pos c5] at H
  have c5b0 := eq_true c5
  have c5b1 : decide ((a0 : Int).toNat ≤ 35184372088832) = true := decide_eq_true c5
  clear c5
  obtain ⟨y428, hy428⟩ : ∃ y_ : List Int, y_ = (List.replicate (a0 : Int).toNat 0) := ⟨_, rfl⟩
  replace H : (if 0 < (y428.length : Int) then (some ((y428.set (0 : Int).toNat (wrap64 (a0 - 1))), 0)) else (none)) = some (r1, r2) := by first | (rw [hy428]; with_reducible exact H) | (have H2_ := (Option.bind_some _ _).symm.trans H; rw [hy428]; with_reducible exact H2_) | (have H2_ := (Option.bind_some _ _).symm.trans H; with_reducible exact H2_) | with_reducible exact H | (rw [hy428]; exact H) | exact H
  have Ny428 := A_ hy428
  clear hy428
  by_cases c6 : 0 < (y428.length : Int)
  rotate_left
  ·rw [if_neg c6] at H
   exact absurd H (by simp)
  rw [if_pos c6] at H
  have c6b0 : decide (0 < (y428.length : Int)) = true := decide_eq_true c6
  have c6b1 : decide (0 < y428.length) = true := decide_eq_true (by omega)
  clear c6
  obtain ⟨y431, hy431⟩ : ∃ y_ : List Int, y_ = (y428.set (0 : Int).toNat (wrap64 (a0 - 1))) := ⟨_, rfl⟩
  replace H : (some (y431, 0)) = some (r1, r2) := by first | (rw [hy431]; with_reducible exact H) | (have H2_ := (Option.bind_some _ _).symm.trans H; rw [hy431]; with_reducible exact H2_) | (have H2_ := (Option.bind_some _ _).symm.trans H; with_reducible exact H2_) | with_reducible exact H | (rw [hy431]; exact H) | exact H
  have Ny431 := A_ hy431
  clear hy431
  simp only [Option.some.injEq, Prod.mk.injEq] at H
  obtain ⟨rfl, rfl⟩ := H
  go_enter Try.func97, Try.ntmps97
  go_wp2_with (first | ((with_reducible refine gate_dst (N := 2) rfl ?_); refine box_event ?hg (N := 2) ?hd (cs := #[.slice none 0 0]) (t := 26) ?hr ?_; (case hd => rfl); (case hg => rfl); (case hr => first | (go_simp; done) | (go_simp; rfl)); intro gb426 hg w8 hbox hb; have n0_ := A_ (below_step (el HB) hb); have n1_ := A_ (hbox); have n2_ := A_ ((by rw [hg]; exact (below_size (el HB)) : w.heap.size ≤ gb426)); have n3_ := A_ ((by rw [hg]; exact (below_size (el HB)) : w.heap.size ≤ gb426)); clear HB; have HB := n0_; have BK426 := n1_; have GW426 := n2_; have GE426 := n3_; clear n0_ n1_ n2_ n3_; clear hb hbox hg) | ((with_reducible refine gate_callee (f := 160) rfl ?_); refine goesL_ (some 6) rfl rfl Try.func160 (by kernel_rfl) rfl #[.int .i64 a0] rfl eg ?_; (with_reducible refine (spec_l02Whole.calls a0 true _ A2.out).mono ?_); rintro e w' ⟨rfl, ⟨nd, rfl⟩⟩; refine ⟨_, rfl, ?_⟩; (try (rw [drewN_self w8]; generalize hq_ : World.drewN w8 _ = w8; have n0_ : Aside0 (w8.heap[gb426]? = some (.cells #[.slice none 0 0] 26 (0, 0))) := ⟨by rw [← hq_]; exact (eb BK426)⟩; have n1_ : Aside0 (Below w.heap.size w w8) := ⟨by rw [← hq_]; exact (el HB)⟩; clear BK426 HB hq_; have BK426 := n0_; have HB := n1_; clear n0_ n1_))) | ((with_reducible refine gate_dst (N := 10) rfl ?_); refine Kd.R_make (Kd.int .i64) _ 2 rfl (N := 10) rfl 24 _ _ rfl a0 rfl rfl Try.underlying24 (.int .i64 0) 8 info2 rfl (by decide) (by omega) 0 (ok := fun _ => True) (okp := fun _ => True) rfl (fun _ hk => hk) trivial (of_decide_eq_true spec_LastTree.Z1) (Nat.le_trans (Nat.mul_le_mul_right _ (of_decide_eq_true spec_LastTree.Z1 : a0.toNat ≤ 35184372088832)) (by omega)) (Below.refl _ _) (Nat.le_refl _) ?_; intro v429 w9 ho10 hb hg_ hnew_; clear hg_ hnew_; (first | rw [← Ny428.out] at ho10 | (simp only [Int.reduceToNat] at ho10; rw [← Ny428.out] at ho10)); have n0_ := A_ (Kd.R_lower ho10 (below_size (el HB))); have n1_ := A_ (eB BK426 hb); have n2_ := A_ (below_step (el HB) hb); clear BK426; clear HB; have HO430 := n0_; have BK426 := n1_; have HB := n2_; clear n0_ n1_ n2_; clear hb ho10; have p7 : 0 ≤ (0 : Int) := (by omega); have q7 : (0 : Int) < ((y428.length : Int) : Int) := of_decide_eq_true spec_LastTree.Z1; have qi7 : (0 < y428.length) = True := eq_true (by omega); obtain ⟨go7, co7, eo7, gb7, gl7, cl7, HG7⟩ := Kd.R_form HO430.out (by omega); (first | cases eo7 | (injection eo7 with ea_ en_ ec_; (first | subst ea_ | (injection ea_ with ea_; subst ea_)); subst ec_; clear en_)); have GB7 := A_ gb7; have GG7 := A_ HG7; clear gb7 gl7 HG7; obtain ⟨hx7_0, hf7_0⟩ := Kd.R_celln 0 HO430.out (0 : Int) p7 q7; (try rw [show ((0 : Int)).toNat = 0 from rfl] at hx7_0); (try simp only [Nat.reduceMul, Nat.zero_mul, Nat.zero_add, Nat.reduceAdd] at hx7_0); (try rw [show ((0 : Int)).toNat = 0 from rfl] at hf7_0); (try simp only [Nat.reduceMul, Nat.zero_mul, Nat.zero_add, Nat.reduceAdd] at hf7_0); replace p7 := eq_true p7; replace q7 := eq_true q7; obtain ⟨hy11_, hz11_⟩ := Kd.R_celln 0 HO430.out (0 : Int) (by omega) (of_decide_eq_true spec_LastTree.Z1); (try simp only [Int.reduceToNat, Int.toNat_zero, Int.toNat_ofNat, Nat.reduceMul, Nat.zero_mul, Nat.zero_add] at hy11_ hz11_); (try rw [show ((0 : Int)).toNat = 0 from rfl] at hy11_); (try rw [show ((0 : Int)).toNat = 0 from rfl] at hz11_); have HP11 := Kd.R_putg HO430.out (0 : Int) (wrap64 (a0 - 1))) | ((with_reducible refine gate_store (t := 2) (p := 14) rfl ?_); refine store_event (t := 2) (p := 14) (v := ?vo_w12) (w1 := (w9.setCell ⟨go7, (0 : Int).toNat, none⟩ (.int .i64 (wrap64 (a0 - 1))))) ?hg ?ho ?hn ?hr ?_; (case ho => rfl); (case hg => rfl); (case hn => rfl); (case hr => first | (go_simp; done) | (go_simp; rfl)); intro w12 hw; have hg : w9.grownBy w12 (some go7) := (by rw [hw]; exact HP11.2); have hp_ : Kd.R (Kd.int .i64) 2 w12 w.heap.size (fun _ => True) (.slice (some ⟨go7, 0, none⟩) y428.length co7) y431 := (by rw [hw, Ny431.out]; exact HP11.1); clear HP11; have n0_ := A_ (blk_grown (g := gb426) (o := .cells #[.slice none 0 0] 26 (0, 0)) (eb BK426) hg (Kd.R_ne HO430.out BK426.out (by decide))); have n1_ := A_ (hp_); have n2_ := A_ ((by rw [hw]; exact below_set (HB.out) GB7.out : Below w.heap.size w w12)); clear BK426; clear HO430; clear HB; have BK426 := n0_; have HO430 := n1_; have HB := n2_; clear n0_ n1_ n2_; clear hg hw hp_; have hcz13_0 : w12.cell? ⟨gb426, 0, none⟩ = some (.slice none 0 0) := (blk_cell BK426.out 0).trans rfl; have hfz13_0 := blk_frozen BK426.out 0))
  refine bodyPost_ret (results_ct rfl _ _ gb426 26 #[.slice (some ⟨go7, 0, none⟩) y428.length co7] (0, 0) _ rfl spec_LastTree.Z0 Try.underlying26 rfl (by kernel_rfl)) rfl ?_
  exact ⟨_, er, by (with_reducible repeat (first | apply Kd.R_alloc | apply Kd.R_drewN | apply Kd.R_drew)); exact Kd.R_mono (Kd.R_far (p := ⟨gb426, 0, none⟩) (Kd.R_types HO430.out BK426.out (by decide)) (fun _ hk => hk.2) (.slice (some ⟨go7, 0, none⟩) y428.length co7)) (fun _ hk => trivial), el HB⟩
 ·replace c3 := Bool.eq_false_iff.mpr c3
  subst c3
  have H1 : (some (([] : List Int), 2)) = some (r1, r2) := by rw [if_neg (show ¬ (false = true) by decide)] at H; exact H
  clear H
  have H := H1
  clear H1
  simp only [Option.some.injEq, Prod.mk.injEq] at H
  obtain ⟨rfl, rfl⟩ := H
  go_enter Try.func97, Try.ntmps97
  go_wp2_with (first | ((with_reducible refine gate_dst (N := 2) rfl ?_); refine box_event ?hg (N := 2) ?hd (cs := #[.slice none 0 0]) (t := 26) ?hr ?_; (case hd => rfl); (case hg => rfl); (case hr => first | (go_simp; done) | (go_simp; rfl)); intro gb426 hg w14 hbox hb; have n0_ := A_ (below_step (el HB) hb); have n1_ := A_ (hbox); have n2_ := A_ ((by rw [hg]; exact (below_size (el HB)) : w.heap.size ≤ gb426)); have n3_ := A_ ((by rw [hg]; exact (below_size (el HB)) : w.heap.size ≤ gb426)); clear HB; have HB := n0_; have BK426 := n1_; have GW426 := n2_; have GE426 := n3_; clear n0_ n1_ n2_ n3_; clear hb hbox hg) | ((with_reducible refine gate_callee (f := 160) rfl ?_); refine goesL_ (some 6) rfl rfl Try.func160 (by kernel_rfl) rfl #[.int .i64 a0] rfl eg ?_; (with_reducible refine (spec_l02Whole.calls a0 false _ A2.out).mono ?_); rintro e w' ⟨rfl, ⟨nd, rfl⟩⟩; refine ⟨_, rfl, ?_⟩; (try (rw [drewN_self w14]; generalize hq_ : World.drewN w14 _ = w14; have n0_ : Aside0 (w14.heap[gb426]? = some (.cells #[.slice none 0 0] 26 (0, 0))) := ⟨by rw [← hq_]; exact (eb BK426)⟩; have n1_ : Aside0 (Below w.heap.size w w14) := ⟨by rw [← hq_]; exact (el HB)⟩; clear BK426 HB hq_; have BK426 := n0_; have HB := n1_; clear n0_ n1_)); have hcz15_0 : w14.cell? ⟨gb426, 0, none⟩ = some (.slice none 0 0) := (blk_cell BK426.out 0).trans rfl; have hfz15_0 := blk_frozen BK426.out 0))
  refine bodyPost_ret (results_ct rfl _ _ gb426 26 #[.slice none 0 0] (0, 0) _ rfl spec_LastTree.Z0 Try.underlying26 rfl (by kernel_rfl)) rfl ?_
  exact ⟨_, er, by first | exact Kd.R_nil _ _ _ _ _ | exact Kd.N_nil _ _ _ _ _ | exact Kd.V_nil _ _ _ _ _ | exact Kd.Q_nil _ _ _ _ _ | exact Kd.S_nil _ _ _ _ _, el HB⟩

end Go.Proofs.Ytocachknmgefaaa.QFnRanks
