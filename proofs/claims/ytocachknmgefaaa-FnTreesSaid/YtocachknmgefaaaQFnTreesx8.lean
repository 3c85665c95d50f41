/- Functions of the program as plain Lean functions, each with a proof that the machine's call answers what it answers. Conditions: none. -/
import Derived.Test.YtocachknmgefaaaQFnTreesx0
import Derived.Test.YtocachknmgefaaaQFnTreesx2
import Derived.Test.YtocachknmgefaaaQFnTreesx4
import Derived.Test.YtocachknmgefaaaQFnTreesx5
import Derived.Test.YtocachknmgefaaaQFnTreesx6
namespace Go.Proofs.Ytocachknmgefaaa.QFnTrees
open Go.RowKit Go.Proofs.YtocachknmgefaaaW.PrintWords Go.Proofs.YtocachknmgefaaaW.PrintLast Go.Proofs.YtocachknmgefaaaW.PrintMore
attribute [local go_sem] max2_int min2_int max_two min_two max_three min_three max_four min_four   -- for this text's walks alone
set_option linter.unusedVariables false
set_option maxHeartbeats 8000000
set_option maxRecDepth 100000
set_option linter.unusedSimpArgs false

/-! ### spec_LeavesOf: function 16 -/
def spec_LeavesOf.l0 : Nat → List Int → Int → List Int → Option (List Int × Int)
  | 0, _, _, _ => none
  | k + 1, x4, x5, x359000 => (spec_l01N.f x359000).bind fun t363 => (if x5 < t363 then (if 0 ≤ x5 then (if x5 < (x359000.length : Int) then (if (rd x359000 x5) = 0 then (if x4.length < 17592186044416 then (spec_LeavesOf.l0 k (x4 ++ [x5]) (wrap64 (x5 + 1)) x359000) else (none)) else (spec_LeavesOf.l0 k x4 (wrap64 (x5 + 1)) x359000)) else (none)) else (none)) else (some (x4, 0)))
def spec_LeavesOf.f (k : Nat) (l0_0 : List Int) : Option (List Int × Int) := (spec_l01Is.f k l0_0).bind fun t359 => (if t359 = true then (spec_LeavesOf.l0 k (([] : List Int)) 0 l0_0) else (some (([] : List Int), 1)))
theorem spec_LeavesOf.mono_l : ∀ k, (∀ y0 y1 y2, LeO (spec_LeavesOf.l0 k y0 y1 y2) (spec_LeavesOf.l0 (k + 1) y0 y1 y2))
  | 0 => fun _ _ _ r h => by simp [spec_LeavesOf.l0] at h
  | k + 1 => by
    have ih0 := spec_LeavesOf.mono_l k
    · intro y0 y1 y2
      unfold spec_LeavesOf.l0
      repeat' first | (with_reducible first | exact ih0 _ _ _ | exact spec_l01Is.mono _ _ | exact LeO.refl _ | exact LeO.none _ | refine LeO.ite ?_ ?_ | refine LeO.bind ?_ (fun _ => ?_)) | exact ih0 _ _ _ | exact spec_l01Is.mono _ _ | exact LeO.none _ | refine LeO.ite ?_ ?_ | refine LeO.bind ?_ (fun _ => ?_)
theorem spec_LeavesOf.mono : ∀ a0 k, LeO (spec_LeavesOf.f k a0) (spec_LeavesOf.f (k + 1) a0) := by
  intro a0 k
  have ih0 := spec_LeavesOf.mono_l k
  unfold spec_LeavesOf.f
  repeat' first | (with_reducible first | exact ih0 _ _ _ | exact spec_l01Is.mono _ _ | exact LeO.refl _ | exact LeO.none _ | refine LeO.ite ?_ ?_ | refine LeO.bind ?_ (fun _ => ?_)) | exact ih0 _ _ _ | exact spec_l01Is.mono _ _ | exact LeO.none _ | refine LeO.ite ?_ ?_ | refine LeO.bind ?_ (fun _ => ?_)
theorem spec_LeavesOf.Z0 {p : Prop} (h : p := by first | (with_reducible assumption) | assumption) : p := h
theorem spec_LeavesOf.Z1 {p : Prop} (h : p := by first | rfl | (simp; done) | (simp [*]; done)) : p := h
theorem spec_LeavesOf.calls (k : Nat) (A0_0 : Option Addr) (c0_0 : Nat) (l0_0 : List Int) (r1 : List Int) (r2 : Int) (w : World) (hr0_0 : Kd.C (Kd.int .i64) w A0_0 l0_0.length l0_0) (hc0_0 : l0_0.length ≤ c0_0) (h : spec_LeavesOf.f k l0_0 = some (r1, r2)) :
  Calls Try.prog 16 #[.agg #[.slice A0_0 l0_0.length c0_0]] w fun e w' => ∃ v0_ : Value, e = .returned (.tuple #[v0_, .int .i64 r2]) ∧ Kd.R (Kd.int .i64) 2 w' w.heap.size (fun _ => True) v0_ r1 ∧ Below w.heap.size w w' := by
 have hu26 := Try.underlying26
 have HR0_0 := A_ hr0_0
 have HC0_0 := A_ hc0_0
 clear hr0_0 hc0_0
 have HB := A_ (Below.refl w.heap.size w)
 have H : ((spec_l01Is.f k l0_0).bind fun t359 => (if t359 = true then (spec_LeavesOf.l0 k (([] : List Int)) 0 l0_0) else (some (([] : List Int), 1)))) = some (r1, r2) := h
 clear h
 replace H := Option.bind_eq_some_iff.mp H
 obtain ⟨t359, A20, H⟩ := H
 replace H : (if t359 = true then (spec_LeavesOf.l0 k (([] : List Int)) 0 l0_0) else (some (([] : List Int), 1))) = some (r1, r2) := H
 have A2 := A_ A20
 clear A20
 by_cases c3 : t359 = true
 ·subst c3
  have H1 : (spec_LeavesOf.l0 k (([] : List Int)) 0 l0_0) = some (r1, r2) := by rw [if_pos rfl] at H; exact H
  clear H
  have H := H1
  clear H1
  obtain ⟨y360, hy360⟩ : ∃ y_ : List Int, y_ = (([] : List Int)) := ⟨_, rfl⟩
  replace H : (spec_LeavesOf.l0 k y360 0 l0_0) = some (r1, r2) := eH hy360 H
  have Ny360 := A_ hy360
  clear hy360
  have H' := A_ H
  clear H
  go_enter Try.func16, Try.ntmps16
  go_wp2_with (first | ((with_reducible refine gate_dst (N := 1) rfl ?_); refine bx 1 #[.slice A0_0 l0_0.length c0_0] 26 ?_; intro gb358 hg w4 hbox hb; have BK358 := A_ hbox; have GW358 := A_ (eG hg (below_size (el HB)) : w.heap.size ≤ gb358); have GE358 := A_ (eG hg (below_size (el HB)) : w.heap.size ≤ gb358); replace HB := A_ (below_step (el HB) hb); clear hb hbox hg; have hcz5_0 : w4.cell? ⟨gb358, 0, none⟩ = some (.slice A0_0 l0_0.length c0_0) := (blk_cell BK358.out 0).trans rfl; have hfz5_0 := blk_frozen BK358.out 0) | ((with_reducible refine gate_callee (f := 101) rfl ?_); refine goesL_ (some 7) rfl rfl Try.func101 (by kernel_rfl) rfl #[.agg #[.slice A0_0 l0_0.length c0_0]] rfl eg ?_; (with_reducible refine (spec_l01Is.calls k _ _ l0_0 true _ ?side1 ?side2 A2.out).mono ?_); (case side1 => exact cS (Kd.C_below HR0_0.out HB.out)); (case side2 => exact HC0_0.out); rintro e w6 ⟨rfl, hb⟩; refine ⟨_, rfl, ?_⟩; replace BK358 := A_ (eB BK358 hb); replace HB := A_ (below_step (el HB) hb); (try clear hb); (try clear hb2); (try clear hk); (try clear hi)) | ((with_reducible refine gate_dst (N := 9) rfl ?_); refine Kd.R_lit (Kd.int .i64) _ 2 ?hg (N := 9) ?hd (xs := ([] : List Int)) (inner := []) (ok := fun _ => True) (okp := fun _ => True) ?hr ?hp (fun _ hk => hk) trivial (Below.refl _ _) (Nat.le_refl _) (by simp) ?_; (case hd => rfl); (case hg => rfl); (case hr => first | (go_simp; done) | (go_simp; rfl)); (case hp => exact (Reps.none _ _)); intro v361 w7 ho8 hb hg_ hnew_; clear hg_ hnew_; (first | rw [← Ny360.out] at ho8 | (simp only [Int.reduceToNat] at ho8; rw [← Ny360.out] at ho8)); have HO362 := A_ (Kd.R_lower ho8 (below_size (el HB))); replace BK358 := A_ (eB BK358 hb); replace HB := A_ (below_step (el HB) hb); clear hb ho8))
  go_loopg [4, 5] k (fun kq v4 v5 w' => ∃ (x4_1 : List Int) (x5_1 : Int), v5 = .int .i64 x5_1 ∧ Aside0 (spec_LeavesOf.l0 kq x4_1 x5_1 l0_0 = some (r1, r2)) ∧ Aside0 (kq ≤ k) ∧ Aside0 (Kd.R (Kd.int .i64) 2 w' w.heap.size (fun _ => True) v4 x4_1) ∧ Aside0 (w'.heap[gb358]? = some (.cells #[(.slice A0_0 l0_0.length c0_0)] 26 (0, 0))) ∧ Aside0 (Below w.heap.size w w'))
  case atStart => exact ⟨(y360), (0), spec_LeavesOf.Z1, H', ⟨Nat.le_refl _⟩, ⟨ea HO362⟩, ⟨eb BK358⟩, ⟨el HB⟩⟩
  case round =>
   clear H'
   try clear c1
   try clear p2
   try clear c3
   try clear hcz5_0
   try clear hfz5_0
   obtain ⟨x4_1, x5_1, rfl, HA, HK1, HO_4, BK358, HB⟩ := hrel
   cases gk with
   | zero => exact absurd HA.out (by simp [spec_LeavesOf.l0])
   | succ k1 =>
    have H := HA.out
    clear HA
    simp only [spec_LeavesOf.l0] at H
    replace H := Option.bind_eq_some_iff.mp H
    obtain ⟨t363, A90, H⟩ := H
    replace H : (if x5_1 < t363 then (if 0 ≤ x5_1 then (if x5_1 < (l0_0.length : Int) then (if (rd l0_0 x5_1) = 0 then (if x4_1.length < 17592186044416 then (spec_LeavesOf.l0 k1 (x4_1 ++ [x5_1]) (wrap64 (x5_1 + 1)) l0_0) else (none)) else (spec_LeavesOf.l0 k1 x4_1 (wrap64 (x5_1 + 1)) l0_0)) else (none)) else (none)) else (some (x4_1, 0))) = some (r1, r2) := H
    have A9 := A_ A90
    clear A90
    by_cases c10 : x5_1 < t363
    ·rw [if_pos c10] at H
     have c10b0 := decide_eq_true c10
     clear c10
     by_cases c11 : 0 ≤ x5_1
     rotate_left
     ·rw [if_neg c11] at H
      exact absurd H (by simp)
     rw [if_pos c11] at H
     have c11b0 := decide_eq_true c11
     clear c11
     by_cases c12 : x5_1 < (l0_0.length : Int)
     rotate_left
     ·rw [if_neg c12] at H
      exact absurd H (by simp)
     rw [if_pos c12] at H
     have c12b0 := decide_eq_true c12
     clear c12
     by_cases c13 : (rd l0_0 x5_1) = 0
     ·rw [if_pos c13] at H
      have c13b0 : ((rd l0_0 x5_1) == 0) = true := beq_iff_eq.mpr c13
      have c13b1 : ((rd l0_0 x5_1) != 0) = false := bne_eq_false_iff_eq.mpr c13
      clear c13
      by_cases c14 : x4_1.length < 17592186044416
      rotate_left
      ·rw [if_neg c14] at H
       exact absurd H (by simp)
      rw [if_pos c14] at H
      have LMc14 := A_ c14
      clear c14
      obtain ⟨y365, hy365⟩ : ∃ y_ : List Int, y_ = (x4_1 ++ [x5_1]) := ⟨_, rfl⟩
      replace H : (spec_LeavesOf.l0 k1 y365 (wrap64 (x5_1 + 1)) l0_0) = some (r1, r2) := eH hy365 H
      have Ny365 := A_ hy365
      clear hy365
      have H' := A_ H
      clear H
      have hcz15_0 : wr.cell? ⟨gb358, 0, none⟩ = some (.slice A0_0 l0_0.length c0_0) := (blk_cell BK358.out 0).trans rfl
      have hfz15_0 := blk_frozen BK358.out 0
      go_wp2_with (first | ((with_reducible refine gate_callee (f := 102) rfl ?_); refine goesL_ (some 12) rfl rfl Try.func102 (by kernel_rfl) rfl #[.agg #[.slice A0_0 l0_0.length c0_0]] rfl eg ?_; (with_reducible refine (spec_l01N.calls _ _ l0_0 t363 _ ?side1 ?side2 A9.out).mono ?_); (case side1 => exact cS (Kd.C_below HR0_0.out HB.out)); (case side2 => exact HC0_0.out); rintro e w16 ⟨rfl, hb⟩; refine ⟨_, rfl, ?_⟩; replace HO_4 := A_ (Kd.R_below (ea HO_4) hb); replace BK358 := A_ (eB BK358 hb); replace HB := A_ (below_step (el HB) hb); (try clear hb); (try clear hb2); (try clear hk); (try clear hi); have hcz17_0 : w16.cell? ⟨gb358, 0, none⟩ = some (.slice A0_0 l0_0.length c0_0) := (blk_cell BK358.out 0).trans rfl; have hfz17_0 := blk_frozen BK358.out 0; have p364 : 0 ≤ (x5_1 : Int) := of_decide_eq_true spec_LeavesOf.Z0; have q364 : x5_1 < (l0_0.length : Int) := of_decide_eq_true spec_LeavesOf.Z0; obtain ⟨ad364, e364, hx364_0⟩ := Kd.at_int HR0_0.out x5_1 p364 q364; cases e364; replace hx364_0 := (HB.out.cell (World.block_lt_of_cell? w _ hx364_0)).trans hx364_0; replace p364 := eq_true p364; replace q364 := eq_true q364) | ((with_reducible refine gate_builtin (b := .append) (xs := #[.tmp 22, .tmp 24]) rfl ?_); at_builtin; refine Kd.R_append (Kd.int .i64) (w0 := w) w.heap.size rfl (.tmp 22) (.tmp 24) 24 2 (.int .i64 0) 8 rfl Try.underlying24 info2 rfl (by decide) (by omega) u4 x4_1 x5_1 [.int .i64 x5_1] (fun _ => True) (fun _ => False) rfl rfl ?aP (fun _ hk => hk.elim) ?aF ?aO ?aB ?aS ?aL ?_; (case aP => exact rfl); (case aB => exact (el HB)); (case aF => exact (fun _ _ => trivial)); (case aO => exact (ea HO_4)); (case aS => exact (below_size (el HB))); (case aL => have := LMc14.out; omega); intro v366 w18 ho hb hg hat; rw [← Ny365.out] at ho; replace BK358 := A_ (blk_grown (g := gb358) (o := .cells #[.slice (some ad364) l0_0.length c0_0] 26 (0, 0)) (eb BK358) hg (Kd.R_ne HO_4.out BK358.out (by decide))); replace HB := A_ hb; have HO367 := A_ ho; clear HO_4; clear ho hb hg hat))
      go_roundg k1
      case measure => have := HK1.out; omega
      case rel => exact ⟨(y365), (wrap64 (x5_1 + 1)), spec_LeavesOf.Z1, H', ⟨by have := HK1.out; omega⟩, ⟨es HO367⟩, ⟨eb BK358⟩, ⟨el HB⟩⟩
     ·rw [if_neg c13] at H
      have c13b0 : ((rd l0_0 x5_1) == 0) = false := beq_eq_false_iff_ne.mpr c13
      have c13b1 : ((rd l0_0 x5_1) != 0) = true := bne_iff_ne.mpr c13
      have H' := A_ H
      clear H
      have hcz19_0 : wr.cell? ⟨gb358, 0, none⟩ = some (.slice A0_0 l0_0.length c0_0) := (blk_cell BK358.out 0).trans rfl
      have hfz19_0 := blk_frozen BK358.out 0
      go_wp2_with (first | ((with_reducible refine gate_callee (f := 102) rfl ?_); refine goesL_ (some 12) rfl rfl Try.func102 (by kernel_rfl) rfl #[.agg #[.slice A0_0 l0_0.length c0_0]] rfl eg ?_; (with_reducible refine (spec_l01N.calls _ _ l0_0 t363 _ ?side1 ?side2 A9.out).mono ?_); (case side1 => exact cS (Kd.C_below HR0_0.out HB.out)); (case side2 => exact HC0_0.out); rintro e w20 ⟨rfl, hb⟩; refine ⟨_, rfl, ?_⟩; replace HO_4 := A_ (Kd.R_below (ea HO_4) hb); replace BK358 := A_ (eB BK358 hb); replace HB := A_ (below_step (el HB) hb); (try clear hb); (try clear hb2); (try clear hk); (try clear hi); have hcz21_0 : w20.cell? ⟨gb358, 0, none⟩ = some (.slice A0_0 l0_0.length c0_0) := (blk_cell BK358.out 0).trans rfl; have hfz21_0 := blk_frozen BK358.out 0; have p364 : 0 ≤ (x5_1 : Int) := of_decide_eq_true spec_LeavesOf.Z0; have q364 : x5_1 < (l0_0.length : Int) := of_decide_eq_true spec_LeavesOf.Z0; obtain ⟨ad364, e364, hx364_0⟩ := Kd.at_int HR0_0.out x5_1 p364 q364; cases e364; replace hx364_0 := (HB.out.cell (World.block_lt_of_cell? w _ hx364_0)).trans hx364_0; replace p364 := eq_true p364; replace q364 := eq_true q364))
      go_roundg k1
      case measure => have := HK1.out; omega
      case rel => exact ⟨(x4_1), (wrap64 (x5_1 + 1)), spec_LeavesOf.Z1, H', ⟨by have := HK1.out; omega⟩, ⟨es HO_4⟩, ⟨eb BK358⟩, ⟨el HB⟩⟩
    ·rw [if_neg c10] at H
     have c10b0 := decide_eq_false c10
     clear c10
     simp only [Option.some.injEq, Prod.mk.injEq] at H
     obtain ⟨rfl, rfl⟩ := H
     have hcz22_0 : wr.cell? ⟨gb358, 0, none⟩ = some (.slice A0_0 l0_0.length c0_0) := (blk_cell BK358.out 0).trans rfl
     have hfz22_0 := blk_frozen BK358.out 0
     go_wp2_with (first | ((with_reducible refine gate_callee (f := 102) rfl ?_); refine goesL_ (some 12) rfl rfl Try.func102 (by kernel_rfl) rfl #[.agg #[.slice A0_0 l0_0.length c0_0]] rfl eg ?_; (with_reducible refine (spec_l01N.calls _ _ l0_0 t363 _ ?side1 ?side2 A9.out).mono ?_); (case side1 => exact cS (Kd.C_below HR0_0.out HB.out)); (case side2 => exact HC0_0.out); rintro e w23 ⟨rfl, hb⟩; refine ⟨_, rfl, ?_⟩; replace HO_4 := A_ (Kd.R_below (ea HO_4) hb); replace BK358 := A_ (eB BK358 hb); replace HB := A_ (below_step (el HB) hb); (try clear hb); (try clear hb2); (try clear hk); (try clear hi)))
     go_ret2
     exact ⟨_, er, by (with_reducible repeat (first | apply Kd.R_alloc | apply Kd.R_drewN | apply Kd.R_drew)); exact HO_4.out, el HB⟩
 ·replace c3 := Bool.eq_false_iff.mpr c3
  subst c3
  have H1 : (some (([] : List Int), 1)) = some (r1, r2) := by rw [if_neg (show ¬ (false = true) by decide)] at H; exact H
  clear H
  have H := H1
  clear H1
  simp only [Option.some.injEq, Prod.mk.injEq] at H
  obtain ⟨rfl, rfl⟩ := H
  go_enter Try.func16, Try.ntmps16
  go_wp2_with (first | ((with_reducible refine gate_dst (N := 1) rfl ?_); refine bx 1 #[.slice A0_0 l0_0.length c0_0] 26 ?_; intro gb358 hg w24 hbox hb; have BK358 := A_ hbox; have GW358 := A_ (eG hg (below_size (el HB)) : w.heap.size ≤ gb358); have GE358 := A_ (eG hg (below_size (el HB)) : w.heap.size ≤ gb358); replace HB := A_ (below_step (el HB) hb); clear hb hbox hg; have hcz25_0 : w24.cell? ⟨gb358, 0, none⟩ = some (.slice A0_0 l0_0.length c0_0) := (blk_cell BK358.out 0).trans rfl; have hfz25_0 := blk_frozen BK358.out 0) | ((with_reducible refine gate_callee (f := 101) rfl ?_); refine goesL_ (some 7) rfl rfl Try.func101 (by kernel_rfl) rfl #[.agg #[.slice A0_0 l0_0.length c0_0]] rfl eg ?_; (with_reducible refine (spec_l01Is.calls k _ _ l0_0 false _ ?side1 ?side2 A2.out).mono ?_); (case side1 => exact cS (Kd.C_below HR0_0.out HB.out)); (case side2 => exact HC0_0.out); rintro e w26 ⟨rfl, hb⟩; refine ⟨_, rfl, ?_⟩; replace BK358 := A_ (eB BK358 hb); replace HB := A_ (below_step (el HB) hb); (try clear hb); (try clear hb2); (try clear hk); (try clear hi)))
  go_ret2
  exact ⟨_, er, by first | exact Kd.R_nil _ _ _ _ _ | exact Kd.N_nil _ _ _ _ _ | exact Kd.V_nil _ _ _ _ _ | exact Kd.Q_nil _ _ _ _ _ | exact Kd.S_nil _ _ _ _ _, el HB⟩

/-! ### impl_postorder: function 108 -/
mutual
def impl_postorder.l0 : Nat → List Int → Int → List Int → List Int → Int → Int → Option (List Int)
  | 0, _, _, _, _, _, _ => none
  | k + 1, x0, x1, x5, x11, x12, x13 => if x13 < x12 then (if 0 ≤ x13 then (if x13 < (x11.length : Int) then ((impl_postorder.f k x0 (rd x11 x13)).bind fun t375 => (if x5.length + t375.length < 17592186044416 then (impl_postorder.l0 k x0 x1 (x5 ++ t375) x11 x12 (wrap64 (x13 + 1))) else (none))) else (none)) else (none)) else (if x5.length < 17592186044416 then (some (x5 ++ [x1])) else (none))
def impl_postorder.f : Nat → List Int → Int → Option (List Int)
  | 0, _, _ => none
  | k + 1, l0, a1 => (impl_kidsOf.f k l0 a1).bind fun t371 => (impl_postorder.l0 k l0 a1 (([] : List Int)) t371 (t371.length : Int) 0)
end
theorem impl_postorder.mono_l : ∀ k, (∀ y0 y1, LeO (impl_postorder.f k y0 y1) (impl_postorder.f (k + 1) y0 y1)) ∧ (∀ y0 y1 y2 y3 y4 y5, LeO (impl_postorder.l0 k y0 y1 y2 y3 y4 y5) (impl_postorder.l0 (k + 1) y0 y1 y2 y3 y4 y5))
  | 0 => ⟨fun _ _ r h => by simp [impl_postorder.f] at h, fun _ _ _ _ _ _ r h => by simp [impl_postorder.l0] at h⟩
  | k + 1 => by
    obtain ⟨ih0, ih1⟩ := impl_postorder.mono_l k
    refine ⟨?_, ?_⟩
    · intro y0 y1
      unfold impl_postorder.f
      repeat' first | (with_reducible first | exact ih0 _ _ | exact ih1 _ _ _ _ _ _ | exact impl_kidsOf.mono _ _ _ | exact LeO.refl _ | exact LeO.none _ | refine LeO.ite ?_ ?_ | refine LeO.bind ?_ (fun _ => ?_)) | exact ih0 _ _ | exact ih1 _ _ _ _ _ _ | exact impl_kidsOf.mono _ _ _ | exact LeO.none _ | refine LeO.ite ?_ ?_ | refine LeO.bind ?_ (fun _ => ?_)
    · intro y0 y1 y2 y3 y4 y5
      unfold impl_postorder.l0
      repeat' first | (with_reducible first | exact ih0 _ _ | exact ih1 _ _ _ _ _ _ | exact impl_kidsOf.mono _ _ _ | exact LeO.refl _ | exact LeO.none _ | refine LeO.ite ?_ ?_ | refine LeO.bind ?_ (fun _ => ?_)) | exact ih0 _ _ | exact ih1 _ _ _ _ _ _ | exact impl_kidsOf.mono _ _ _ | exact LeO.none _ | refine LeO.ite ?_ ?_ | refine LeO.bind ?_ (fun _ => ?_)
theorem impl_postorder.mono : ∀ a0 a1 k, LeO (impl_postorder.f k a0 a1) (impl_postorder.f (k + 1) a0 a1) := by
  intro a0 a1 k
  obtain ⟨ih0, ih1⟩ := impl_postorder.mono_l k
  exact ih0 a0 a1
theorem impl_postorder.Z0 {p : Prop} (h : p := by first | (with_reducible assumption) | assumption) : p := h
theorem impl_postorder.Z1 {p : Prop} (h : p := by first | rfl | (simp; done) | (simp [*]; done)) : p := h
theorem impl_postorder.calls (k : Nat) : ∀ (A0 : Option Addr) (c0 : Nat) (l0 : List Int) (a1 : Int) (r : List Int) (w : World) (hr0 : Kd.C (Kd.int .i64) w A0 l0.length l0) (hc0 : l0.length ≤ c0) (h : impl_postorder.f k l0 a1 = some r),
  Calls Try.prog 108 #[.slice A0 l0.length c0, .int .i64 a1] w fun e w' => ∃ v0_ : Value, e = .returned (v0_) ∧ Kd.R (Kd.int .i64) 2 w' w.heap.size (fun _ => True) v0_ r ∧ Below w.heap.size w w' := by
 induction k using Nat.strongRecOn with
 | _ k ih =>
 intro A0 c0 l0 a1 r w hr0 hc0 h
 cases k with
 | zero => exact absurd h (by simp [impl_postorder.f])
 | succ k =>
 simp only [impl_postorder.f] at h
 have HR0 := A_ hr0
 have HC0 := A_ hc0
 clear hr0 hc0
 have HB := A_ (Below.refl w.heap.size w)
 have H : ((impl_kidsOf.f k l0 a1).bind fun t371 => (impl_postorder.l0 k l0 a1 (([] : List Int)) t371 (t371.length : Int) 0)) = some r := h
 clear h
 obtain ⟨y368, hy368⟩ : ∃ y_ : List Int, y_ = (([] : List Int)) := ⟨_, rfl⟩
 replace H : ((impl_kidsOf.f k l0 a1).bind fun t371 => (impl_postorder.l0 k l0 a1 y368 t371 (t371.length : Int) 0)) = some r := eH hy368 H
 have Ny368 := A_ hy368
 clear hy368
 replace H := Option.bind_eq_some_iff.mp H
 obtain ⟨t371, A30, H⟩ := H
 replace H : (impl_postorder.l0 k l0 a1 y368 t371 (t371.length : Int) 0) = some r := H
 have A3 := A_ A30
 clear A30
 have H' := A_ H
 clear H
 go_enter Try.func108, Try.ntmps108
 go_wp2_with (first | ((with_reducible refine gate_dst (N := 8) rfl ?_); refine Kd.R_lit (Kd.int .i64) _ 2 ?hg (N := 8) ?hd (xs := ([] : List Int)) (inner := []) (ok := fun _ => True) (okp := fun _ => True) ?hr ?hp (fun _ hk => hk) trivial (Below.refl _ _) (Nat.le_refl _) (by simp) ?_; (case hd => rfl); (case hg => rfl); (case hr => first | (go_simp; done) | (go_simp; rfl)); (case hp => exact (Reps.none _ _)); intro v369 w4 ho5 hb hg_ hnew_; clear hg_ hnew_; (first | rw [← Ny368.out] at ho5 | (simp only [Int.reduceToNat] at ho5; rw [← Ny368.out] at ho5)); have HO370 := A_ (Kd.R_lower ho5 (below_size (el HB))); replace HB := A_ (below_step (el HB) hb); clear hb ho5) | ((with_reducible refine gate_callee (f := 118) rfl ?_); refine goesL_ (some 11) rfl rfl Try.func118 (by kernel_rfl) rfl #[.slice A0 l0.length c0, .int .i64 a1] rfl eg ?_; (with_reducible refine (impl_kidsOf.calls k _ _ l0 a1 t371 _ ?side1 ?side2 A3.out).mono ?_); (case side1 => exact cS (Kd.C_below HR0.out HB.out)); (case side2 => exact HC0.out); rintro e w6 ⟨v372, rfl, ho0, hb⟩; refine ⟨_, rfl, ?_⟩; have HO373 := A_ (Kd.R_lower (Kd.R_new' ho0 (Kd.R_lt (ea HO370))) (below_size (el HB))); replace HO370 := A_ (Kd.R_elder' (ea HO370) (Kd.R_base ho0) hb); replace HB := A_ (below_step (el HB) hb); (try clear hb); (try clear hb2); (try clear hk); (try clear hi); (try clear ho0); obtain ⟨Ao7, co7, eo7⟩ := Kd.R_slice HO373.out; subst eo7))
 go_loopg [5, 13] k (fun kq v5 v13 w' => ∃ (x5_1 : List Int) (x13_1 : Int), v13 = .int .i64 x13_1 ∧ Aside0 (impl_postorder.l0 kq l0 a1 x5_1 t371 (t371.length : Int) x13_1 = some r) ∧ Aside0 (kq ≤ k) ∧ Aside0 (Kd.R (Kd.int .i64) 2 w' w.heap.size (fun k_ => some k_ ≠ ((.slice Ao7 t371.length co7) : Value).ownBlock) v5 x5_1) ∧ Aside0 (Kd.R (Kd.int .i64) 2 w' w.heap.size (fun k_ => some k_ ≠ (v5 : Value).ownBlock) (.slice Ao7 t371.length co7) t371) ∧ Aside0 (Below w.heap.size w w'))
 case atStart => exact ⟨(y368), (0), impl_postorder.Z1, H', ⟨Nat.le_refl _⟩, ⟨by (with_reducible repeat (first | apply Kd.R_alloc | apply Kd.R_drewN | apply Kd.R_drew)); exact Kd.R_mono HO370.out (fun _ hk => hk.2)⟩, ⟨by (with_reducible repeat (first | apply Kd.R_alloc | apply Kd.R_drewN | apply Kd.R_drew)); exact Kd.R_mono HO373.out (fun _ hk => hk.2)⟩, ⟨el HB⟩⟩
 case round =>
  clear H'
  try clear c1
  try clear p2
  obtain ⟨x5_1, x13_1, rfl, HA, HK1, HO_5, HO_11, HB⟩ := hrel
  cases gk with
  | zero => exact absurd HA.out (by simp [impl_postorder.l0])
  | succ k1 =>
   have H := HA.out
   clear HA
   simp only [impl_postorder.l0] at H
   by_cases c8 : x13_1 < (t371.length : Int)
   ·rw [if_pos c8] at H
    have c8b0 := decide_eq_true c8
    clear c8
    by_cases c9 : 0 ≤ x13_1
    rotate_left
    ·rw [if_neg c9] at H
     exact absurd H (by simp)
    rw [if_pos c9] at H
    have c9b0 := decide_eq_true c9
    clear c9
    by_cases c10 : x13_1 < (t371.length : Int)
    rotate_left
    ·rw [if_neg c10] at H
     exact absurd H (by simp)
    rw [if_pos c10] at H
    have c10b0 := decide_eq_true c10
    clear c10
    replace H := Option.bind_eq_some_iff.mp H
    obtain ⟨t375, A110, H⟩ := H
    replace H : (if x5_1.length + t375.length < 17592186044416 then (impl_postorder.l0 k1 l0 a1 (x5_1 ++ t375) t371 (t371.length : Int) (wrap64 (x13_1 + 1))) else (none)) = some r := H
    have A11 := A_ A110
    clear A110
    by_cases c12 : x5_1.length + t375.length < 17592186044416
    rotate_left
    ·rw [if_neg c12] at H
     exact absurd H (by simp)
    rw [if_pos c12] at H
    have LMc12 := A_ c12
    clear c12
    obtain ⟨y378, hy378⟩ : ∃ y_ : List Int, y_ = (x5_1 ++ t375) := ⟨_, rfl⟩
    replace H : (impl_postorder.l0 k1 l0 a1 y378 t371 (t371.length : Int) (wrap64 (x13_1 + 1))) = some r := eH hy378 H
    have Ny378 := A_ hy378
    clear hy378
    have H' := A_ H
    clear H
    have p374 : 0 ≤ (x13_1 : Int) := of_decide_eq_true impl_postorder.Z0
    have q374 : x13_1 < (t371.length : Int) := of_decide_eq_true impl_postorder.Z0
    obtain ⟨ad374, e374, hx374_0⟩ := Kd.at_int (Kd.R_reads' HO_11.out).2.2 x13_1 p374 q374
    cases e374
    replace p374 := eq_true p374
    replace q374 := eq_true q374
    go_wp2_with (first | ((with_reducible refine gate_callee (f := 108) rfl ?_); refine goesL_ (some 20) rfl rfl Try.func108 (by kernel_rfl) rfl #[.slice A0 l0.length c0, .int .i64 (rd t371 x13_1)] rfl eg ?_; (with_reducible refine (ih k1 (by have := HK1.out; omega) _ _ l0 (rd t371 x13_1) t375 _ ?side1 ?side2 A11.out).mono ?_); (case side1 => exact cS (Kd.C_below HR0.out HB.out)); (case side2 => exact HC0.out); rintro e w13 ⟨v376, rfl, ho0, hb⟩; refine ⟨_, rfl, ?_⟩; have HO377 := A_ (Kd.R_lower (Kd.R_new' (Kd.R_new' ho0 (Kd.R_lt (ea HO_5))) (Kd.R_lt (ea HO_11))) (below_size (el HB))); replace HO_5 := A_ (Kd.R_elder' (ea HO_5) (Kd.R_base ho0) hb); replace HO_11 := A_ (Kd.R_elder' (ea HO_11) (Kd.R_base ho0) hb); replace HB := A_ (below_step (el HB) hb); (try clear hb); (try clear hb2); (try clear hk); (try clear hi); (try clear ho0); obtain ⟨Ao15, co15, eo15⟩ := Kd.R_slice HO377.out; subst eo15) | ((with_reducible refine gate_builtin (b := .append) (xs := #[.tmp 17, .tmp 20]) rfl ?_); at_builtin; refine Kd.R_append_rows (Kd.int .i64) (w0 := w) w.heap.size rfl (.tmp 17) (.tmp 20) 24 2 (.int .i64 0) 8 rfl Try.underlying24 info2 rfl (by decide) (by omega) u5 x5_1 t375 _ _ _ (fun k_ => some k_ ≠ (.slice (some ad374) t371.length co7 : Value).ownBlock ∧ some k_ ≠ (.slice Ao15 t375.length co15 : Value).ownBlock) (fun _ => False) rfl rfl ?aO ?aR (fun _ _ h => h) (fun _ h => h.elim) ?aF ?aB ?aS ?aL ?_; (case aR => repeat (first | exact (Kd.R_reads' HO377.out).2.2 | (with_reducible refine Kd.C_alloc ?_ _) | (with_reducible refine Kd.C_drewN ?_ _) | (with_reducible refine Kd.C_drew ?_))); (case aB => exact (el HB)); (case aF => exact (fun k_ hk => ⟨Kd.fresh' (Kd.R_lt (ea HO_11)) k_ hk, Kd.fresh' (Kd.R_lt (ea HO377)) k_ hk⟩)); (case aO => exact (ea HO_5)); (case aS => exact (below_size (el HB))); (case aL => have := LMc12.out; omega); intro v379 w14 ho hb hg hat; rw [← Ny378.out] at ho; replace HO_11 := A_ (Kd.R_after (ok := (fun k_ => some k_ ≠ (.slice Ao15 t375.length co15 : Value).ownBlock)) (by (with_reducible repeat (first | apply Kd.R_alloc | apply Kd.R_drewN | apply Kd.R_drew)); exact Kd.R_mono HO_11.out (fun _ hk => ⟨hk.2, hk.1⟩)) hg hat); replace HO377 := A_ (Kd.R_after (ok := (fun k_ => some k_ ≠ (.slice (some ad374) t371.length co7 : Value).ownBlock)) (by (with_reducible repeat (first | apply Kd.R_alloc | apply Kd.R_drewN | apply Kd.R_drew)); exact Kd.R_mono HO377.out (fun _ hk => ⟨hk.2, hk.1.2⟩)) hg hat); replace HB := A_ hb; have HO380 := A_ ho; clear HO_5; clear ho hb hg hat))
    go_roundg k1
    case measure => have := HK1.out; omega
    case rel => exact ⟨(y378), (wrap64 (x13_1 + 1)), impl_postorder.Z1, H', ⟨by have := HK1.out; omega⟩, ⟨by (with_reducible repeat (first | apply Kd.R_alloc | apply Kd.R_drewN | apply Kd.R_drew)); exact Kd.R_mono HO380.out (fun _ hk => hk.1)⟩, ⟨by (with_reducible repeat (first | apply Kd.R_alloc | apply Kd.R_drewN | apply Kd.R_drew)); exact Kd.R_mono HO_11.out (fun _ hk => hk.2)⟩, ⟨el HB⟩⟩
   ·rw [if_neg c8] at H
    have c8b0 := decide_eq_false c8
    clear c8
    by_cases c16 : x5_1.length < 17592186044416
    ·rw [if_pos c16] at H
     have LMc16 := A_ c16
     clear c16
     obtain ⟨y381, hy381⟩ : ∃ y_ : List Int, y_ = (x5_1 ++ [a1]) := ⟨_, rfl⟩
     replace H : (some y381) = some r := eH hy381 H
     have Ny381 := A_ hy381
     clear hy381
     obtain rfl := Option.some.inj H
     go_wp2_with (first | ((with_reducible refine gate_builtin (b := .append) (xs := #[.tmp 23, .tmp 25]) rfl ?_); at_builtin; refine Kd.R_append (Kd.int .i64) (w0 := w) w.heap.size rfl (.tmp 23) (.tmp 25) 24 2 (.int .i64 0) 8 rfl Try.underlying24 info2 rfl (by decide) (by omega) u5 x5_1 a1 [.int .i64 a1] (fun k_ => some k_ ≠ (.slice Ao7 t371.length co7 : Value).ownBlock) (fun _ => False) rfl rfl ?aP (fun _ hk => hk.elim) ?aF ?aO ?aB ?aS ?aL ?_; (case aP => exact rfl); (case aB => exact (el HB)); (case aF => exact (fun k_ hk => Kd.fresh' (Kd.R_lt (ea HO_11)) k_ hk)); (case aO => exact (ea HO_5)); (case aS => exact (below_size (el HB))); (case aL => have := LMc16.out; omega); intro v382 w17 ho hb hg hat; rw [← Ny381.out] at ho; replace HO_11 := A_ (Kd.R_after (ok := (fun _ => True)) (by (with_reducible repeat (first | apply Kd.R_alloc | apply Kd.R_drewN | apply Kd.R_drew)); exact Kd.R_mono HO_11.out (fun _ hk => ⟨trivial, hk⟩)) hg hat); replace HB := A_ hb; have HO383 := A_ ho; clear HO_5; clear ho hb hg hat))
     go_ret
     exact ⟨_, er, by (with_reducible repeat (first | apply Kd.R_alloc | apply Kd.R_drewN | apply Kd.R_drew)); exact Kd.R_mono HO383.out (fun _ hk => trivial), el HB⟩
    ·rw [if_neg c16] at H
     exact absurd H (by simp)

/-! ### impl_PostorderOf: function 17 -/
def impl_PostorderOf.f (k : Nat) (l0_0 : List Int) : Option (List Int × Int) := (impl_IsTree.f k l0_0).bind fun t385 => (if t385 = true then ((impl_postorder.f k l0_0 0).bind fun t386 => (some (t386, 0))) else (some (([] : List Int), 1)))
theorem impl_PostorderOf.mono : ∀ a0 k, LeO (impl_PostorderOf.f k a0) (impl_PostorderOf.f (k + 1) a0) := by
  intro a0 k
  unfold impl_PostorderOf.f
  repeat' first | (with_reducible first | exact impl_IsTree.mono _ _ | exact impl_postorder.mono _ _ _ | exact LeO.refl _ | exact LeO.none _ | refine LeO.ite ?_ ?_ | refine LeO.bind ?_ (fun _ => ?_)) | exact impl_IsTree.mono _ _ | exact impl_postorder.mono _ _ _ | exact LeO.none _ | refine LeO.ite ?_ ?_ | refine LeO.bind ?_ (fun _ => ?_)
theorem impl_PostorderOf.calls (k : Nat) (A0_0 : Option Addr) (c0_0 : Nat) (l0_0 : List Int) (r1 : List Int) (r2 : Int) (w : World) (hr0_0 : Kd.C (Kd.int .i64) w A0_0 l0_0.length l0_0) (hc0_0 : l0_0.length ≤ c0_0) (h : impl_PostorderOf.f k l0_0 = some (r1, r2)) :
  Calls Try.prog 17 #[.agg #[.slice A0_0 l0_0.length c0_0]] w fun e w' => ∃ v0_ : Value, e = .returned (.tuple #[v0_, .int .i64 r2]) ∧ Kd.R (Kd.int .i64) 2 w' w.heap.size (fun _ => True) v0_ r1 ∧ Below w.heap.size w w' := by
 have hu26 := Try.underlying26
 have HR0_0 := A_ hr0_0
 have HC0_0 := A_ hc0_0
 clear hr0_0 hc0_0
 have HB := A_ (Below.refl w.heap.size w)
 have H : ((impl_IsTree.f k l0_0).bind fun t385 => (if t385 = true then ((impl_postorder.f k l0_0 0).bind fun t386 => (some (t386, 0))) else (some (([] : List Int), 1)))) = some (r1, r2) := h
 clear h
 replace H := Option.bind_eq_some_iff.mp H
 obtain ⟨t385, A20, H⟩ := H
 replace H : (if t385 = true then ((impl_postorder.f k l0_0 0).bind fun t386 => (some (t386, 0))) else (some (([] : List Int), 1))) = some (r1, r2) := H
 have A2 := A_ A20
 clear A20
 by_cases c3 : t385 = true
 ·subst c3
  have H1 : ((impl_postorder.f k l0_0 0).bind fun t386 => (some (t386, 0))) = some (r1, r2) := by rw [if_pos rfl] at H; exact H
  clear H
  have H := H1
  clear H1
  replace H := Option.bind_eq_some_iff.mp H
  obtain ⟨t386, A40, H⟩ := H
  replace H : (some (t386, 0)) = some (r1, r2) := H
  have A4 := A_ A40
  clear A40
  simp only [Option.some.injEq, Prod.mk.injEq] at H
  obtain ⟨rfl, rfl⟩ := H
  go_enter Try.func17, Try.ntmps17
  go_wp2_with (first | ((with_reducible refine gate_dst (N := 1) rfl ?_); refine bx 1 #[.slice A0_0 l0_0.length c0_0] 26 ?_; intro gb384 hg w5 hbox hb; have BK384 := A_ hbox; have GW384 := A_ (eG hg (below_size (el HB)) : w.heap.size ≤ gb384); have GE384 := A_ (eG hg (below_size (el HB)) : w.heap.size ≤ gb384); replace HB := A_ (below_step (el HB) hb); clear hb hbox hg; have hcz6_0 : w5.cell? ⟨gb384, 0, none⟩ = some (.slice A0_0 l0_0.length c0_0) := (blk_cell BK384.out 0).trans rfl; have hfz6_0 := blk_frozen BK384.out 0) | ((with_reducible refine gate_callee (f := 24) rfl ?_); refine goesL_ (some 5) rfl rfl Try.func24 (by kernel_rfl) rfl #[.agg #[.slice A0_0 l0_0.length c0_0]] rfl eg ?_; (with_reducible refine (impl_IsTree.calls k _ _ l0_0 true _ ?side1 ?side2 A2.out).mono ?_); (case side1 => exact cS (Kd.C_below HR0_0.out HB.out)); (case side2 => exact HC0_0.out); rintro e w7 ⟨rfl, hb⟩; refine ⟨_, rfl, ?_⟩; replace BK384 := A_ (eB BK384 hb); replace HB := A_ (below_step (el HB) hb); (try clear hb); (try clear hb2); (try clear hk); (try clear hi); have hcz8_0 : w7.cell? ⟨gb384, 0, none⟩ = some (.slice A0_0 l0_0.length c0_0) := (blk_cell BK384.out 0).trans rfl; have hfz8_0 := blk_frozen BK384.out 0) | ((with_reducible refine gate_callee (f := 108) rfl ?_); refine goesL_ (some 9) rfl rfl Try.func108 (by kernel_rfl) rfl #[.slice A0_0 l0_0.length c0_0, .int .i64 0] rfl eg ?_; (with_reducible refine (impl_postorder.calls k _ _ l0_0 0 t386 _ ?side1 ?side2 A4.out).mono ?_); (case side1 => exact cS (Kd.C_below HR0_0.out HB.out)); (case side2 => exact HC0_0.out); rintro e w9 ⟨v387, rfl, ho0, hb⟩; refine ⟨_, rfl, ?_⟩; have HO388 := A_ (Kd.R_lower ho0 (below_size (el HB))); replace BK384 := A_ (eB BK384 hb); replace HB := A_ (below_step (el HB) hb); (try clear hb); (try clear hb2); (try clear hk); (try clear hi); (try clear ho0)))
  go_ret2
  exact ⟨_, er, by (with_reducible repeat (first | apply Kd.R_alloc | apply Kd.R_drewN | apply Kd.R_drew)); exact HO388.out, el HB⟩
 ·replace c3 := Bool.eq_false_iff.mpr c3
  subst c3
  have H1 : (some (([] : List Int), 1)) = some (r1, r2) := by rw [if_neg (show ¬ (false = true) by decide)] at H; exact H
  clear H
  have H := H1
  clear H1
  simp only [Option.some.injEq, Prod.mk.injEq] at H
  obtain ⟨rfl, rfl⟩ := H
  go_enter Try.func17, Try.ntmps17
  go_wp2_with (first | ((with_reducible refine gate_dst (N := 1) rfl ?_); refine bx 1 #[.slice A0_0 l0_0.length c0_0] 26 ?_; intro gb384 hg w10 hbox hb; have BK384 := A_ hbox; have GW384 := A_ (eG hg (below_size (el HB)) : w.heap.size ≤ gb384); have GE384 := A_ (eG hg (below_size (el HB)) : w.heap.size ≤ gb384); replace HB := A_ (below_step (el HB) hb); clear hb hbox hg; have hcz11_0 : w10.cell? ⟨gb384, 0, none⟩ = some (.slice A0_0 l0_0.length c0_0) := (blk_cell BK384.out 0).trans rfl; have hfz11_0 := blk_frozen BK384.out 0) | ((with_reducible refine gate_callee (f := 24) rfl ?_); refine goesL_ (some 5) rfl rfl Try.func24 (by kernel_rfl) rfl #[.agg #[.slice A0_0 l0_0.length c0_0]] rfl eg ?_; (with_reducible refine (impl_IsTree.calls k _ _ l0_0 false _ ?side1 ?side2 A2.out).mono ?_); (case side1 => exact cS (Kd.C_below HR0_0.out HB.out)); (case side2 => exact HC0_0.out); rintro e w12 ⟨rfl, hb⟩; refine ⟨_, rfl, ?_⟩; replace BK384 := A_ (eB BK384 hb); replace HB := A_ (below_step (el HB) hb); (try clear hb); (try clear hb2); (try clear hk); (try clear hi)))
  go_ret2
  exact ⟨_, er, by first | exact Kd.R_nil _ _ _ _ _ | exact Kd.N_nil _ _ _ _ _ | exact Kd.V_nil _ _ _ _ _ | exact Kd.Q_nil _ _ _ _ _ | exact Kd.S_nil _ _ _ _ _, el HB⟩

/-! ### spec_l01Post: function 109 -/
mutual
def spec_l01Post.l0 : Nat → Int → List Int → List Int → Int → List Int → Option (List Int)
  | 0, _, _, _, _, _ => none
  | k + 1, x1, x5, x6, x7, x390000 => if x7 < (x6.length : Int) then (if 0 ≤ x7 then ((spec_l01Post.f k x390000 (rd x6 x7)).bind fun t397 => (if x5.length + t397.length < 17592186044416 then (spec_l01Post.l0 k x1 (x5 ++ t397) x6 (wrap64 (x7 + 1)) x390000) else (none))) else (none)) else (if x5.length < 17592186044416 then (some (x5 ++ [x1])) else (none))
def spec_l01Post.f : Nat → List Int → Int → Option (List Int)
  | 0, _, _ => none
  | k + 1, l0_0, a1 => (spec_l01Children.f k l0_0 a1).bind fun t393 => (spec_l01Post.l0 k a1 (([] : List Int)) t393 0 l0_0)
end
theorem spec_l01Post.mono_l : ∀ k, (∀ y0 y1, LeO (spec_l01Post.f k y0 y1) (spec_l01Post.f (k + 1) y0 y1)) ∧ (∀ y0 y1 y2 y3 y4, LeO (spec_l01Post.l0 k y0 y1 y2 y3 y4) (spec_l01Post.l0 (k + 1) y0 y1 y2 y3 y4))
  | 0 => ⟨fun _ _ r h => by simp [spec_l01Post.f] at h, fun _ _ _ _ _ r h => by simp [spec_l01Post.l0] at h⟩
  | k + 1 => by
    obtain ⟨ih0, ih1⟩ := spec_l01Post.mono_l k
    refine ⟨?_, ?_⟩
    · intro y0 y1
      unfold spec_l01Post.f
      repeat' first | (with_reducible first | exact ih0 _ _ | exact ih1 _ _ _ _ _ | exact spec_l01Children.mono _ _ _ | exact LeO.refl _ | exact LeO.none _ | refine LeO.ite ?_ ?_ | refine LeO.bind ?_ (fun _ => ?_)) | exact ih0 _ _ | exact ih1 _ _ _ _ _ | exact spec_l01Children.mono _ _ _ | exact LeO.none _ | refine LeO.ite ?_ ?_ | refine LeO.bind ?_ (fun _ => ?_)
    · intro y0 y1 y2 y3 y4
      unfold spec_l01Post.l0
      repeat' first | (with_reducible first | exact ih0 _ _ | exact ih1 _ _ _ _ _ | exact spec_l01Children.mono _ _ _ | exact LeO.refl _ | exact LeO.none _ | refine LeO.ite ?_ ?_ | refine LeO.bind ?_ (fun _ => ?_)) | exact ih0 _ _ | exact ih1 _ _ _ _ _ | exact spec_l01Children.mono _ _ _ | exact LeO.none _ | refine LeO.ite ?_ ?_ | refine LeO.bind ?_ (fun _ => ?_)
theorem spec_l01Post.mono : ∀ a0 a1 k, LeO (spec_l01Post.f k a0 a1) (spec_l01Post.f (k + 1) a0 a1) := by
  intro a0 a1 k
  obtain ⟨ih0, ih1⟩ := spec_l01Post.mono_l k
  exact ih0 a0 a1
def spec_l01Post.T5 : Bool × List (List Nat × List Nat) := (true, [([], []), ([], []), ([], []), ([], []), ([2, 3], [2, 3]), ([4], [4]), ([1, 5], [1, 5]), ([0, 6, 6], [0, 6]), ([7, 7, 0, 1, 2, 3, 4, 5, 6, 7], [0, 7])])
def spec_l01Post.B5 : List Nat := [0, 0, 0, 0, 12, 28, 62, 127, 255]
theorem spec_l01Post.tab5 : rtab .any (opsOf Try.f109 5) = spec_l01Post.T5 := by kernel_rfl
theorem spec_l01Post.bits5 : waitsOk spec_l01Post.T5.2 spec_l01Post.B5 = true := by kernel_rfl
theorem spec_l01Post.Z0 {p : Prop} (h : p := by first | (with_reducible assumption) | assumption) : p := h
theorem spec_l01Post.Z1 {p : Prop} (h : p := by first | rfl | (simp; done) | (simp [*]; done)) : p := h
theorem spec_l01Post.calls (k : Nat) : ∀ (A0_0 : Option Addr) (c0_0 : Nat) (l0_0 : List Int) (a1 : Int) (r : List Int) (w : World) (hr0_0 : Kd.C (Kd.int .i64) w A0_0 l0_0.length l0_0) (hc0_0 : l0_0.length ≤ c0_0) (h : spec_l01Post.f k l0_0 a1 = some r),
  Calls Try.prog 109 #[.agg #[.slice A0_0 l0_0.length c0_0], .int .i64 a1] w fun e w' => ∃ v0_ : Value, e = .returned (v0_) ∧ Kd.R (Kd.int .i64) 2 w' w.heap.size (fun _ => True) v0_ r ∧ Below w.heap.size w w' := by
 induction k using Nat.strongRecOn with
 | _ k ih =>
 intro A0_0 c0_0 l0_0 a1 r w hr0_0 hc0_0 h
 cases k with
 | zero => exact absurd h (by simp [spec_l01Post.f])
 | succ k =>
 simp only [spec_l01Post.f] at h
 have hu26 := Try.underlying26
 have HR0_0 := A_ hr0_0
 have HC0_0 := A_ hc0_0
 clear hr0_0 hc0_0
 have HB := A_ (Below.refl w.heap.size w)
 have H : ((spec_l01Children.f k l0_0 a1).bind fun t393 => (spec_l01Post.l0 k a1 (([] : List Int)) t393 0 l0_0)) = some r := h
 clear h
 obtain ⟨y390, hy390⟩ : ∃ y_ : List Int, y_ = (([] : List Int)) := ⟨_, rfl⟩
 replace H : ((spec_l01Children.f k l0_0 a1).bind fun t393 => (spec_l01Post.l0 k a1 y390 t393 0 l0_0)) = some r := eH hy390 H
 have Ny390 := A_ hy390
 clear hy390
 replace H := Option.bind_eq_some_iff.mp H
 obtain ⟨t393, A30, H⟩ := H
 replace H : (spec_l01Post.l0 k a1 y390 t393 0 l0_0) = some r := H
 have A3 := A_ A30
 clear A30
 have H' := A_ H
 clear H
 go_enter Try.func109, Try.ntmps109
 go_wp2_with (first | ((with_reducible refine gate_dst (N := 2) rfl ?_); refine bx 2 #[.slice A0_0 l0_0.length c0_0] 26 ?_; intro gb389 hg w4 hbox hb; have BK389 := A_ hbox; have GW389 := A_ (eG hg (below_size (el HB)) : w.heap.size ≤ gb389); have GE389 := A_ (eG hg (below_size (el HB)) : w.heap.size ≤ gb389); replace HB := A_ (below_step (el HB) hb); clear hb hbox hg) | ((with_reducible refine gate_dst (N := 8) rfl ?_); refine Kd.R_lit (Kd.int .i64) _ 2 ?hg (N := 8) ?hd (xs := ([] : List Int)) (inner := []) (ok := fun _ => True) (okp := fun _ => True) ?hr ?hp (fun _ hk => hk) trivial (Below.refl _ _) (Nat.le_refl _) (by simp) ?_; (case hd => rfl); (case hg => rfl); (case hr => first | (go_simp; done) | (go_simp; rfl)); (case hp => exact (Reps.none _ _)); intro v391 w5 ho6 hb hg_ hnew_; clear hg_ hnew_; (first | rw [← Ny390.out] at ho6 | (simp only [Int.reduceToNat] at ho6; rw [← Ny390.out] at ho6)); have HO392 := A_ (Kd.R_lower ho6 (below_size (el HB))); replace BK389 := A_ (eB BK389 hb); replace HB := A_ (below_step (el HB) hb); clear hb ho6; have hcz7_0 : w5.cell? ⟨gb389, 0, none⟩ = some (.slice A0_0 l0_0.length c0_0) := (blk_cell BK389.out 0).trans rfl; have hfz7_0 := blk_frozen BK389.out 0) | ((with_reducible refine gate_callee (f := 111) rfl ?_); refine goesL_ (some 11) rfl rfl Try.func111 (by kernel_rfl) rfl #[.agg #[.slice A0_0 l0_0.length c0_0], .int .i64 a1] rfl eg ?_; (with_reducible refine (spec_l01Children.calls k _ _ l0_0 a1 t393 _ ?side1 ?side2 A3.out).mono ?_); (case side1 => exact cS (Kd.C_below HR0_0.out HB.out)); (case side2 => exact HC0_0.out); rintro e w8 ⟨v394, rfl, ho0, hb⟩; refine ⟨_, rfl, ?_⟩; have HO395 := A_ (Kd.R_lower (Kd.R_new' ho0 (Kd.R_lt (ea HO392))) (below_size (el HB))); replace HO392 := A_ (Kd.R_elder' (ea HO392) (Kd.R_base ho0) hb); replace BK389 := A_ (eB BK389 hb); replace HB := A_ (below_step (el HB) hb); (try clear hb); (try clear hb2); (try clear hk); (try clear hi); (try clear ho0)))
 go_loopg [5, 7] k (fun kq v5 v7 w' => ∃ (x5_1 : List Int) (x7_1 : Int), v7 = .int .i64 x7_1 ∧ Aside0 (spec_l01Post.l0 kq a1 x5_1 t393 x7_1 l0_0 = some r) ∧ Aside0 (kq ≤ k) ∧ Aside0 (Kd.R (Kd.int .i64) 2 w' w.heap.size (fun k_ => some k_ ≠ (v394 : Value).ownBlock) v5 x5_1) ∧ Aside0 (Kd.R (Kd.int .i64) 2 w' w.heap.size (fun k_ => some k_ ≠ (v5 : Value).ownBlock) v394 t393) ∧ Aside0 (w'.heap[gb389]? = some (.cells #[(.slice A0_0 l0_0.length c0_0)] 26 (0, 0))) ∧ Aside0 (Below w.heap.size w w'))
 case atStart => exact ⟨(y390), (0), spec_l01Post.Z1, H', ⟨Nat.le_refl _⟩, ⟨by (with_reducible repeat (first | apply Kd.R_alloc | apply Kd.R_drewN | apply Kd.R_drew)); exact Kd.R_mono HO392.out (fun _ hk => hk.2)⟩, ⟨by (with_reducible repeat (first | apply Kd.R_alloc | apply Kd.R_drewN | apply Kd.R_drew)); exact Kd.R_mono HO395.out (fun _ hk => hk.2)⟩, ⟨eb BK389⟩, ⟨el HB⟩⟩
 case round =>
  clear H'
  try clear c1
  try clear p2
  try clear hcz7_0
  try clear hfz7_0
  obtain ⟨x5_1, x7_1, rfl, HA, HK1, HO_5, HO_6, BK389, HB⟩ := hrel
  cases gk with
  | zero => exact absurd HA.out (by simp [spec_l01Post.l0])
  | succ k1 =>
   have H := HA.out
   clear HA
   simp only [spec_l01Post.l0] at H
   by_cases c9 : x7_1 < (t393.length : Int)
   ·rw [if_pos c9] at H
    have c9b0 := decide_eq_true c9
    clear c9
    by_cases c10 : 0 ≤ x7_1
    rotate_left
    ·rw [if_neg c10] at H
     exact absurd H (by simp)
    rw [if_pos c10] at H
    have c10b0 := decide_eq_true c10
    clear c10
    replace H := Option.bind_eq_some_iff.mp H
    obtain ⟨t397, A110, H⟩ := H
    replace H : (if x5_1.length + t397.length < 17592186044416 then (spec_l01Post.l0 k1 a1 (x5_1 ++ t397) t393 (wrap64 (x7_1 + 1)) l0_0) else (none)) = some r := H
    have A11 := A_ A110
    clear A110
    by_cases c12 : x5_1.length + t397.length < 17592186044416
    rotate_left
    ·rw [if_neg c12] at H
     exact absurd H (by simp)
    rw [if_pos c12] at H
    have LMc12 := A_ c12
    clear c12
    obtain ⟨y400, hy400⟩ : ∃ y_ : List Int, y_ = (x5_1 ++ t397) := ⟨_, rfl⟩
    replace H : (spec_l01Post.l0 k1 a1 y400 t393 (wrap64 (x7_1 + 1)) l0_0) = some r := eH hy400 H
    have Ny400 := A_ hy400
    clear hy400
    have H' := A_ H
    clear H
    obtain ⟨Ao13, co13, eo13⟩ := Kd.R_slice HO_6.out
    subst eo13
    try go_wp2
    replace HO_5 := A_ (Kd.R_drew HO_5.out)
    replace HO_6 := A_ (Kd.R_drew HO_6.out)
    replace BK389 := A_ (blk_drew BK389.out)
    replace HB := A_ (below_drew1 HB.out)
    have p396 : 0 ≤ (x7_1 : Int) := of_decide_eq_true spec_l01Post.Z0
    have q396 : x7_1 < (t393.length : Int) := of_decide_eq_true spec_l01Post.Z0
    obtain ⟨ad396, e396, hx396_0⟩ := Kd.at_int (Kd.R_reads' HO_6.out).2.2 x7_1 p396 q396
    cases e396
    replace p396 := eq_true p396
    replace q396 := eq_true q396
    refine start_ (n := 9) (S := fun w' => w'.cell? ⟨gb389, 0, none⟩ = some (.slice A0_0 l0_0.length c0_0) ∧ w'.cell? (ad396.add (x7_1).toNat) = some (.int .i64 (rd t393 x7_1))) (ds := [7]) (bM 9 0) (by kernel_rfl) rfl rfl ⟨(blk_cell BK389.out 0).trans rfl, hx396_0⟩ (fun hHeld => ?_); refine with_tabW spec_l01Post.tab5 spec_l01Post.bits5 (fun HT_ HW_ => ?_)
    generalize wr.drew = w14 at HO_5 HO_6 BK389 HB hx396_0 hHeld ⊢
    refine pA 0 18 (bM 9 1) HT_ ?_
    refine pA 2 20 (bM 9 5) HT_ ?_
    refine pA 3 21 (bM 9 13) HT_ ?_
    refine pA 4 22 (bM 9 29) HT_ ?_
    refine take_ (i := 1) (N := some 19) (v := ?_) (a' := ?_) (bM 9 31) rfl rfl (take_ofW HT_.out HW_.out (by kernel_rfl)) (fun _ _ _ h => h) (Or.inl ⟨by rfl, ?_⟩) hHeld ?_ ?_
    rotate_left
    ·rintro w' ⟨s0, s1⟩
     go_simp
     with_reducible rfl
    rotate_left
    ·simp only [Act.put, List.setIfInBounds_toArray, List.set_cons_zero, List.set_cons_succ, i64_w, i32_w]
     rfl
    refine take_ (i := 5) (N := some 23) (v := ?_) (a' := ?_) (bM 9 63) rfl rfl (take_ofW HT_.out HW_.out (by kernel_rfl)) (fun _ _ _ h => h) (Or.inl ⟨by rfl, ?_⟩) hHeld ?_ ?_
    rotate_left
    ·rintro w' ⟨s0, s1⟩
     go_simp
     with_reducible rfl
    rotate_left
    ·simp only [Act.put, List.setIfInBounds_toArray, List.set_cons_zero, List.set_cons_succ, i64_w, i32_w]
     rfl
    refine one_ (i := 6) (N := some 24) (bM 9 127) rfl rfl (one_of HT_.out (by kernel_rfl)) (by decide) (fun K hK => ?_)
    refine goes_ Try.func109 (by kernel_rfl) rfl #[.agg #[.slice A0_0 l0_0.length c0_0], .int .i64 (rd t393 x7_1)] (by rfl) rfl rfl eg ?_
    with_reducible refine (ih k1 (by have := HK1.out; omega) _ _ l0_0 (rd t393 x7_1) t397 _ ?side1 ?side2 A11.out).mono ?_
    (case side1 => exact cS (Kd.C_below HR0_0.out HB.out))
    (case side2 => exact HC0_0.out)
    rintro e w15 ⟨v398, rfl, ho0, hb⟩
    have HS1_ := (hb.cell (World.block_lt_of_cell? _ _ (hHeld.2))).trans (hHeld.2)
    refine ⟨_, rfl, ?_⟩
    have HO399 := A_ (Kd.R_lower (Kd.R_new' (Kd.R_new' ho0 (Kd.R_lt (ea HO_5))) (Kd.R_lt (ea HO_6))) (below_size (el HB)))
    replace HO_5 := A_ (Kd.R_elder' (ea HO_5) (Kd.R_base ho0) hb)
    replace HO_6 := A_ (Kd.R_elder' (ea HO_6) (Kd.R_base ho0) hb)
    replace BK389 := A_ (eB BK389 hb)
    replace HB := A_ (below_step (el HB) hb)
    (try clear hb)
    (try clear hb2)
    (try clear hk)
    (try clear hi)
    (try clear ho0)
    obtain ⟨Ao17, co17, eo17⟩ := Kd.R_slice HO399.out
    (first | subst eo17 | (injection eo17 with f1_ f2_ f3_; have f4_ := f1_.symm; have f5_ := f3_.symm; clear f1_ f2_ f3_; subst f4_; subst f5_))
    refine hK.out _ _ ⟨(blk_cell BK389.out 0).trans rfl, HS1_⟩ (fun hHeld => ?_)
    clear hK K
    refine norm_ (a' := ?_) ?_ ?_
    rotate_left
    ·show Act.put _ (some 24) _ = _
     simp only [Act.put, List.setIfInBounds_toArray, List.set_cons_zero, List.set_cons_succ, i64_w, i32_w]
     rfl
    refine last_ (i := 7) (N := some 25) (bM 9 255) rfl rfl (one_of HT_.out (by kernel_rfl)) (by decide) (fun K hK => ?_)
    refine Kd.R_append_rows_step (Kd.int .i64) (w0 := w) w.heap.size (by rfl) (.tmp 18) (.tmp 24) 24 2 (.int .i64 0) 8 rfl Try.underlying24 info2 rfl (by decide) (by omega) u5 x5_1 t397 _ _ _ (fun k_ => some k_ ≠ (.slice (some ad396) t393.length co13 : Value).ownBlock ∧ some k_ ≠ (.slice Ao17 t397.length co17 : Value).ownBlock) (fun _ => False) rfl rfl ?aO ?aR (fun _ _ h => h) (fun _ h => h.elim) ?aF ?aB ?aS ?aL ?_
    (case aR => repeat (first | exact (Kd.R_reads' HO399.out).2.2 | (with_reducible refine Kd.C_alloc ?_ _) | (with_reducible refine Kd.C_drewN ?_ _) | (with_reducible refine Kd.C_drew ?_)))
    (case aB => exact (el HB))
    (case aF => exact (fun k_ hk => ⟨Kd.fresh' (Kd.R_lt (ea HO_6)) k_ hk, Kd.fresh' (Kd.R_lt (ea HO399)) k_ hk⟩))
    (case aO => exact (ea HO_5))
    (case aS => exact (below_size (el HB)))
    (case aL => have := LMc12.out; omega)
    intro v401 w16 ho hb hg hat
    rw [← Ny400.out] at ho
    replace HO_6 := A_ (Kd.R_after (ok := (fun k_ => some k_ ≠ (.slice Ao17 t397.length co17 : Value).ownBlock)) (by (with_reducible repeat (first | apply Kd.R_alloc | apply Kd.R_drewN | apply Kd.R_drew)); exact Kd.R_mono HO_6.out (fun _ hk => ⟨hk.2, hk.1⟩)) hg hat)
    replace BK389 := A_ (blk_grown (g := gb389) (o := .cells #[.slice A0_0 l0_0.length c0_0] 26 (0, 0)) (eb BK389) hg (Kd.R_ne HO_5.out BK389.out (by decide)))
    replace HO399 := A_ (Kd.R_after (ok := (fun k_ => some k_ ≠ (.slice (some ad396) t393.length co13 : Value).ownBlock)) (by (with_reducible repeat (first | apply Kd.R_alloc | apply Kd.R_drewN | apply Kd.R_drew)); exact Kd.R_mono HO399.out (fun _ hk => ⟨hk.2, hk.1.2⟩)) hg hat)
    replace HB := A_ hb
    have HO402 := A_ ho
    clear HO_5
    clear ho hb hg hat
    refine hK.out _ _ ?_
    clear hK K
    refine norm_ (a' := ?_) ?_ ?_
    rotate_left
    ·show Act.put _ (some 25) _ = _
     simp only [Act.put, List.setIfInBounds_toArray, List.set_cons_zero, List.set_cons_succ, i64_w, i32_w]
     rfl
    refine pA 8 5 (bM 9 511) HT_ ?_
    refine done_ (done_of HT_.out (by kernel_rfl)) ?_
    try go_wp2
    go_roundg k1
    case measure => have := HK1.out; omega
    case rel => exact ⟨(y400), (wrap64 (x7_1 + 1)), spec_l01Post.Z1, H', ⟨by have := HK1.out; omega⟩, ⟨by (with_reducible repeat (first | apply Kd.R_alloc | apply Kd.R_drewN | apply Kd.R_drew)); exact Kd.R_mono HO402.out (fun _ hk => hk.1)⟩, ⟨by (with_reducible repeat (first | apply Kd.R_alloc | apply Kd.R_drewN | apply Kd.R_drew)); exact Kd.R_mono HO_6.out (fun _ hk => hk.2)⟩, ⟨eb BK389⟩, ⟨el HB⟩⟩
   ·rw [if_neg c9] at H
    have c9b0 := decide_eq_false c9
    clear c9
    by_cases c18 : x5_1.length < 17592186044416
    ·rw [if_pos c18] at H
     have LMc18 := A_ c18
     clear c18
     obtain ⟨y403, hy403⟩ : ∃ y_ : List Int, y_ = (x5_1 ++ [a1]) := ⟨_, rfl⟩
     replace H : (some y403) = some r := eH hy403 H
     have Ny403 := A_ hy403
     clear hy403
     obtain rfl := Option.some.inj H
     obtain ⟨Ao19, co19, eo19⟩ := Kd.R_slice HO_6.out
     subst eo19
     go_wp2_with (first | ((with_reducible refine gate_builtin (b := .append) (xs := #[.tmp 26, .tmp 28]) rfl ?_); at_builtin; refine Kd.R_append (Kd.int .i64) (w0 := w) w.heap.size rfl (.tmp 26) (.tmp 28) 24 2 (.int .i64 0) 8 rfl Try.underlying24 info2 rfl (by decide) (by omega) u5 x5_1 a1 [.int .i64 a1] (fun k_ => some k_ ≠ (.slice Ao19 t393.length co19 : Value).ownBlock) (fun _ => False) rfl rfl ?aP (fun _ hk => hk.elim) ?aF ?aO ?aB ?aS ?aL ?_; (case aP => exact rfl); (case aB => exact (el HB)); (case aF => exact (fun k_ hk => Kd.fresh' (Kd.R_lt (ea HO_6)) k_ hk)); (case aO => exact (ea HO_5)); (case aS => exact (below_size (el HB))); (case aL => have := LMc18.out; omega); intro v404 w20 ho hb hg hat; rw [← Ny403.out] at ho; replace HO_6 := A_ (Kd.R_after (ok := (fun _ => True)) (by (with_reducible repeat (first | apply Kd.R_alloc | apply Kd.R_drewN | apply Kd.R_drew)); exact Kd.R_mono HO_6.out (fun _ hk => ⟨trivial, hk⟩)) hg hat); replace BK389 := A_ (blk_grown (g := gb389) (o := .cells #[.slice A0_0 l0_0.length c0_0] 26 (0, 0)) (eb BK389) hg (Kd.R_ne HO_5.out BK389.out (by decide))); replace HB := A_ hb; have HO405 := A_ ho; clear HO_5; clear ho hb hg hat))
     go_ret
     exact ⟨_, er, by (with_reducible repeat (first | apply Kd.R_alloc | apply Kd.R_drewN | apply Kd.R_drew)); exact Kd.R_mono HO405.out (fun _ hk => trivial), el HB⟩
    ·rw [if_neg c18] at H
     exact absurd H (by simp)

/-! ### spec_PostorderOf: function 18 -/
def spec_PostorderOf.f (k : Nat) (l0_0 : List Int) : Option (List Int × Int) := (spec_l01Is.f k l0_0).bind fun t407 => (if t407 = true then ((spec_l01Post.f k l0_0 0).bind fun t408 => (some (t408, 0))) else (some (([] : List Int), 1)))
theorem spec_PostorderOf.mono : ∀ a0 k, LeO (spec_PostorderOf.f k a0) (spec_PostorderOf.f (k + 1) a0) := by
  intro a0 k
  unfold spec_PostorderOf.f
  repeat' first | (with_reducible first | exact spec_l01Is.mono _ _ | exact spec_l01Post.mono _ _ _ | exact LeO.refl _ | exact LeO.none _ | refine LeO.ite ?_ ?_ | refine LeO.bind ?_ (fun _ => ?_)) | exact spec_l01Is.mono _ _ | exact spec_l01Post.mono _ _ _ | exact LeO.none _ | refine LeO.ite ?_ ?_ | refine LeO.bind ?_ (fun _ => ?_)
theorem spec_PostorderOf.calls (k : Nat) (A0_0 : Option Addr) (c0_0 : Nat) (l0_0 : List Int) (r1 : List Int) (r2 : Int) (w : World) (hr0_0 : Kd.C (Kd.int .i64) w A0_0 l0_0.length l0_0) (hc0_0 : l0_0.length ≤ c0_0) (h : spec_PostorderOf.f k l0_0 = some (r1, r2)) :
  Calls Try.prog 18 #[.agg #[.slice A0_0 l0_0.length c0_0]] w fun e w' => ∃ v0_ : Value, e = .returned (.tuple #[v0_, .int .i64 r2]) ∧ Kd.R (Kd.int .i64) 2 w' w.heap.size (fun _ => True) v0_ r1 ∧ Below w.heap.size w w' := by
 have hu26 := Try.underlying26
 have HR0_0 := A_ hr0_0
 have HC0_0 := A_ hc0_0
 clear hr0_0 hc0_0
 have HB := A_ (Below.refl w.heap.size w)
 have H : ((spec_l01Is.f k l0_0).bind fun t407 => (if t407 = true then ((spec_l01Post.f k l0_0 0).bind fun t408 => (some (t408, 0))) else (some (([] : List Int), 1)))) = some (r1, r2) := h
 clear h
 replace H := Option.bind_eq_some_iff.mp H
 obtain ⟨t407, A20, H⟩ := H
 replace H : (if t407 = true then ((spec_l01Post.f k l0_0 0).bind fun t408 => (some (t408, 0))) else (some (([] : List Int), 1))) = some (r1, r2) := H
 have A2 := A_ A20
 clear A20
 by_cases c3 : t407 = true
 ·subst c3
  have H1 : ((spec_l01Post.f k l0_0 0).bind fun t408 => (some (t408, 0))) = some (r1, r2) := by rw [if_pos rfl] at H; exact H
  clear H
  have H := H1
  clear H1
  replace H := Option.bind_eq_some_iff.mp H
  obtain ⟨t408, A40, H⟩ := H
  replace H : (some (t408, 0)) = some (r1, r2) := H
  have A4 := A_ A40
  clear A40
  simp only [Option.some.injEq, Prod.mk.injEq] at H
  obtain ⟨rfl, rfl⟩ := H
  go_enter Try.func18, Try.ntmps18
  go_wp2_with (first | ((with_reducible refine gate_dst (N := 1) rfl ?_); refine bx 1 #[.slice A0_0 l0_0.length c0_0] 26 ?_; intro gb406 hg w5 hbox hb; have BK406 := A_ hbox; have GW406 := A_ (eG hg (below_size (el HB)) : w.heap.size ≤ gb406); have GE406 := A_ (eG hg (below_size (el HB)) : w.heap.size ≤ gb406); replace HB := A_ (below_step (el HB) hb); clear hb hbox hg; have hcz6_0 : w5.cell? ⟨gb406, 0, none⟩ = some (.slice A0_0 l0_0.length c0_0) := (blk_cell BK406.out 0).trans rfl; have hfz6_0 := blk_frozen BK406.out 0) | ((with_reducible refine gate_callee (f := 101) rfl ?_); refine goesL_ (some 5) rfl rfl Try.func101 (by kernel_rfl) rfl #[.agg #[.slice A0_0 l0_0.length c0_0]] rfl eg ?_; (with_reducible refine (spec_l01Is.calls k _ _ l0_0 true _ ?side1 ?side2 A2.out).mono ?_); (case side1 => exact cS (Kd.C_below HR0_0.out HB.out)); (case side2 => exact HC0_0.out); rintro e w7 ⟨rfl, hb⟩; refine ⟨_, rfl, ?_⟩; replace BK406 := A_ (eB BK406 hb); replace HB := A_ (below_step (el HB) hb); (try clear hb); (try clear hb2); (try clear hk); (try clear hi); have hcz8_0 : w7.cell? ⟨gb406, 0, none⟩ = some (.slice A0_0 l0_0.length c0_0) := (blk_cell BK406.out 0).trans rfl; have hfz8_0 := blk_frozen BK406.out 0) | ((with_reducible refine gate_callee (f := 109) rfl ?_); refine goesL_ (some 8) rfl rfl Try.func109 (by kernel_rfl) rfl #[.agg #[.slice A0_0 l0_0.length c0_0], .int .i64 0] rfl eg ?_; (with_reducible refine (spec_l01Post.calls k _ _ l0_0 0 t408 _ ?side1 ?side2 A4.out).mono ?_); (case side1 => exact cS (Kd.C_below HR0_0.out HB.out)); (case side2 => exact HC0_0.out); rintro e w9 ⟨v409, rfl, ho0, hb⟩; refine ⟨_, rfl, ?_⟩; have HO410 := A_ (Kd.R_lower ho0 (below_size (el HB))); replace BK406 := A_ (eB BK406 hb); replace HB := A_ (below_step (el HB) hb); (try clear hb); (try clear hb2); (try clear hk); (try clear hi); (try clear ho0)))
  go_ret2
  exact ⟨_, er, by (with_reducible repeat (first | apply Kd.R_alloc | apply Kd.R_drewN | apply Kd.R_drew)); exact HO410.out, el HB⟩
 ·replace c3 := Bool.eq_false_iff.mpr c3
  subst c3
  have H1 : (some (([] : List Int), 1)) = some (r1, r2) := by rw [if_neg (show ¬ (false = true) by decide)] at H; exact H
  clear H
  have H := H1
  clear H1
  simp only [Option.some.injEq, Prod.mk.injEq] at H
  obtain ⟨rfl, rfl⟩ := H
  go_enter Try.func18, Try.ntmps18
  go_wp2_with (first | ((with_reducible refine gate_dst (N := 1) rfl ?_); refine bx 1 #[.slice A0_0 l0_0.length c0_0] 26 ?_; intro gb406 hg w10 hbox hb; have BK406 := A_ hbox; have GW406 := A_ (eG hg (below_size (el HB)) : w.heap.size ≤ gb406); have GE406 := A_ (eG hg (below_size (el HB)) : w.heap.size ≤ gb406); replace HB := A_ (below_step (el HB) hb); clear hb hbox hg; have hcz11_0 : w10.cell? ⟨gb406, 0, none⟩ = some (.slice A0_0 l0_0.length c0_0) := (blk_cell BK406.out 0).trans rfl; have hfz11_0 := blk_frozen BK406.out 0) | ((with_reducible refine gate_callee (f := 101) rfl ?_); refine goesL_ (some 5) rfl rfl Try.func101 (by kernel_rfl) rfl #[.agg #[.slice A0_0 l0_0.length c0_0]] rfl eg ?_; (with_reducible refine (spec_l01Is.calls k _ _ l0_0 false _ ?side1 ?side2 A2.out).mono ?_); (case side1 => exact cS (Kd.C_below HR0_0.out HB.out)); (case side2 => exact HC0_0.out); rintro e w12 ⟨rfl, hb⟩; refine ⟨_, rfl, ?_⟩; replace BK406 := A_ (eB BK406 hb); replace HB := A_ (below_step (el HB) hb); (try clear hb); (try clear hb2); (try clear hk); (try clear hi)))
  go_ret2
  exact ⟨_, er, by first | exact Kd.R_nil _ _ _ _ _ | exact Kd.N_nil _ _ _ _ _ | exact Kd.V_nil _ _ _ _ _ | exact Kd.Q_nil _ _ _ _ _ | exact Kd.S_nil _ _ _ _ _, el HB⟩

/-! ### impl_levelOrder: function 110 -/
def impl_levelOrder.l0 : Nat → List Int → List Int → Int → Option (List Int)
  | 0, _, _, _ => none
  | k + 1, x0, x3, x4 => if x4 < (x3.length : Int) then (if 0 ≤ x4 then ((impl_kidsOf.f k x0 (rd x3 x4)).bind fun t415 => (if x3.length + t415.length < 17592186044416 then (impl_levelOrder.l0 k x0 (x3 ++ t415) (wrap64 (x4 + 1))) else (none))) else (none)) else (some x3)
def impl_levelOrder.f (k : Nat) (l0 : List Int) : Option (List Int) := impl_levelOrder.l0 k l0 (([0] : List Int)) 0
theorem impl_levelOrder.mono_l : ∀ k, (∀ y0 y1 y2, LeO (impl_levelOrder.l0 k y0 y1 y2) (impl_levelOrder.l0 (k + 1) y0 y1 y2))
  | 0 => fun _ _ _ r h => by simp [impl_levelOrder.l0] at h
  | k + 1 => by
    have ih0 := impl_levelOrder.mono_l k
    · intro y0 y1 y2
      unfold impl_levelOrder.l0
      repeat' first | (with_reducible first | exact ih0 _ _ _ | exact impl_kidsOf.mono _ _ _ | exact LeO.refl _ | exact LeO.none _ | refine LeO.ite ?_ ?_ | refine LeO.bind ?_ (fun _ => ?_)) | exact ih0 _ _ _ | exact impl_kidsOf.mono _ _ _ | exact LeO.none _ | refine LeO.ite ?_ ?_ | refine LeO.bind ?_ (fun _ => ?_)
theorem impl_levelOrder.mono : ∀ a0 k, LeO (impl_levelOrder.f k a0) (impl_levelOrder.f (k + 1) a0) := by
  intro a0 k
  have ih0 := impl_levelOrder.mono_l k
  unfold impl_levelOrder.f
  repeat' first | (with_reducible first | exact ih0 _ _ _ | exact impl_kidsOf.mono _ _ _ | exact LeO.refl _ | exact LeO.none _ | refine LeO.ite ?_ ?_ | refine LeO.bind ?_ (fun _ => ?_)) | exact ih0 _ _ _ | exact impl_kidsOf.mono _ _ _ | exact LeO.none _ | refine LeO.ite ?_ ?_ | refine LeO.bind ?_ (fun _ => ?_)
theorem impl_levelOrder.Z0 {p : Prop} (h : p := by first | (with_reducible assumption) | assumption) : p := h
theorem impl_levelOrder.Z1 {p : Prop} (h : p := by first | rfl | (simp; done) | (simp [*]; done)) : p := h
theorem impl_levelOrder.calls (k : Nat) (A0 : Option Addr) (c0 : Nat) (l0 : List Int) (r : List Int) (w : World) (hr0 : Kd.C (Kd.int .i64) w A0 l0.length l0) (hc0 : l0.length ≤ c0) (h : impl_levelOrder.f k l0 = some r) :
  Calls Try.prog 110 #[.slice A0 l0.length c0] w fun e w' => ∃ v0_ : Value, e = .returned (v0_) ∧ Kd.R (Kd.int .i64) 2 w' w.heap.size (fun _ => True) v0_ r ∧ Below w.heap.size w w' := by
 have HR0 := A_ hr0
 have HC0 := A_ hc0
 clear hr0 hc0
 have HB := A_ (Below.refl w.heap.size w)
 have H : (impl_levelOrder.l0 k l0 (([0] : List Int)) 0) = some r := h
 clear h
 obtain ⟨y411, hy411⟩ : ∃ y_ : List Int, y_ = (([0] : List Int)) := ⟨_, rfl⟩
 replace H : (impl_levelOrder.l0 k l0 y411 0) = some r := eH hy411 H
 have Ny411 := A_ hy411
 clear hy411
 have H' := A_ H
 clear H
 go_enter Try.func110, Try.ntmps110
 go_wp2_with (first | ((with_reducible refine gate_dst (N := 5) rfl ?_); refine Kd.R_lit (Kd.int .i64) _ 2 ?hg (N := 5) ?hd (xs := ([0] : List Int)) (inner := [.int .i64 0]) (ok := fun _ => True) (okp := fun _ => True) ?hr ?hp (fun _ hk => hk) trivial (Below.refl _ _) (Nat.le_refl _) (by simp) ?_; (case hd => rfl); (case hg => rfl); (case hr => first | (go_simp; done) | (go_simp; rfl)); (case hp => exact (Reps.one (show Kd.M (Kd.int .i64) _ _ _ 0 [.int .i64 0] from rfl) (Reps.none _ _))); intro v412 w2 ho3 hb hg_ hnew_; clear hg_ hnew_; (first | rw [← Ny411.out] at ho3 | (simp only [Int.reduceToNat] at ho3; rw [← Ny411.out] at ho3)); have HO413 := A_ (Kd.R_lower ho3 (below_size (el HB))); replace HB := A_ (below_step (el HB) hb); clear hb ho3))
 go_loopg [3, 4] k (fun kq v3 v4 w' => ∃ (x3_1 : List Int) (x4_1 : Int), v4 = .int .i64 x4_1 ∧ Aside0 (impl_levelOrder.l0 kq l0 x3_1 x4_1 = some r) ∧ Aside0 (kq ≤ k) ∧ Aside0 (Kd.R (Kd.int .i64) 2 w' w.heap.size (fun _ => True) v3 x3_1) ∧ Aside0 (Below w.heap.size w w'))
 case atStart => exact ⟨(y411), (0), impl_levelOrder.Z1, H', ⟨Nat.le_refl _⟩, ⟨ea HO413⟩, ⟨el HB⟩⟩
 case round =>
  clear H'
  try clear c1
  try clear p2
  obtain ⟨x3_1, x4_1, rfl, HA, HK1, HO_3, HB⟩ := hrel
  cases gk with
  | zero => exact absurd HA.out (by simp [impl_levelOrder.l0])
  | succ k1 =>
   have H := HA.out
   clear HA
   simp only [impl_levelOrder.l0] at H
   by_cases c4 : x4_1 < (x3_1.length : Int)
   ·rw [if_pos c4] at H
    have c4b0 := decide_eq_true c4
    clear c4
    by_cases c5 : 0 ≤ x4_1
    rotate_left
    ·rw [if_neg c5] at H
     exact absurd H (by simp)
    rw [if_pos c5] at H
    have c5b0 := decide_eq_true c5
    clear c5
    replace H := Option.bind_eq_some_iff.mp H
    obtain ⟨t415, A60, H⟩ := H
    replace H : (if x3_1.length + t415.length < 17592186044416 then (impl_levelOrder.l0 k1 l0 (x3_1 ++ t415) (wrap64 (x4_1 + 1))) else (none)) = some r := H
    have A6 := A_ A60
    clear A60
    by_cases c7 : x3_1.length + t415.length < 17592186044416
    rotate_left
    ·rw [if_neg c7] at H
     exact absurd H (by simp)
    rw [if_pos c7] at H
    have LMc7 := A_ c7
    clear c7
    obtain ⟨y418, hy418⟩ : ∃ y_ : List Int, y_ = (x3_1 ++ t415) := ⟨_, rfl⟩
    replace H : (impl_levelOrder.l0 k1 l0 y418 (wrap64 (x4_1 + 1))) = some r := eH hy418 H
    have Ny418 := A_ hy418
    clear hy418
    have H' := A_ H
    clear H
    obtain ⟨Ao8, co8, eo8⟩ := Kd.R_slice HO_3.out
    subst eo8
    have p414 : 0 ≤ (x4_1 : Int) := of_decide_eq_true impl_levelOrder.Z0
    have q414 : x4_1 < (x3_1.length : Int) := of_decide_eq_true impl_levelOrder.Z0
    obtain ⟨ad414, e414, hx414_0⟩ := Kd.at_int (Kd.R_reads' HO_3.out).2.2 x4_1 p414 q414
    cases e414
    replace p414 := eq_true p414
    replace q414 := eq_true q414
    go_wp2_with (first | ((with_reducible refine gate_callee (f := 118) rfl ?_); refine goesL_ (some 18) rfl rfl Try.func118 (by kernel_rfl) rfl #[.slice A0 l0.length c0, .int .i64 (rd x3_1 x4_1)] rfl eg ?_; (with_reducible refine (impl_kidsOf.calls k1 _ _ l0 (rd x3_1 x4_1) t415 _ ?side1 ?side2 A6.out).mono ?_); (case side1 => exact cS (Kd.C_below HR0.out HB.out)); (case side2 => exact HC0.out); rintro e w9 ⟨v416, rfl, ho0, hb⟩; refine ⟨_, rfl, ?_⟩; have HO417 := A_ (Kd.R_lower (Kd.R_new' ho0 (Kd.R_lt (ea HO_3))) (below_size (el HB))); replace HO_3 := A_ (Kd.R_elder' (ea HO_3) (Kd.R_base ho0) hb); replace HB := A_ (below_step (el HB) hb); (try clear hb); (try clear hb2); (try clear hk); (try clear hi); (try clear ho0); obtain ⟨Ao11, co11, eo11⟩ := Kd.R_slice HO417.out; subst eo11) | ((with_reducible refine gate_builtin (b := .append) (xs := #[.tmp 12, .tmp 18]) rfl ?_); at_builtin; refine Kd.R_append_rows (Kd.int .i64) (w0 := w) w.heap.size rfl (.tmp 12) (.tmp 18) 24 2 (.int .i64 0) 8 rfl Try.underlying24 info2 rfl (by decide) (by omega) (.slice (some ad414) x3_1.length co8) x3_1 t415 _ _ _ (fun k_ => some k_ ≠ (.slice Ao11 t415.length co11 : Value).ownBlock) (fun _ => False) rfl rfl ?aO ?aR (fun _ _ h => h) (fun _ h => h.elim) ?aF ?aB ?aS ?aL ?_; (case aR => repeat (first | exact (Kd.R_reads' HO417.out).2.2 | (with_reducible refine Kd.C_alloc ?_ _) | (with_reducible refine Kd.C_drewN ?_ _) | (with_reducible refine Kd.C_drew ?_))); (case aB => exact (el HB)); (case aF => exact (fun k_ hk => Kd.fresh' (Kd.R_lt (ea HO417)) k_ hk)); (case aO => exact (by (with_reducible repeat (first | apply Kd.R_alloc | apply Kd.R_drewN | apply Kd.R_drew)); exact Kd.R_mono HO_3.out (fun _ hk => hk.2))); (case aS => exact (below_size (el HB))); (case aL => have := LMc7.out; omega); intro v419 w10 ho hb hg hat; rw [← Ny418.out] at ho; replace HO417 := A_ (Kd.R_after (ok := (fun _ => True)) (ea HO417) hg hat); replace HB := A_ hb; have HO420 := A_ ho; clear HO_3; clear ho hb hg hat))
    go_roundg k1
    case measure => have := HK1.out; omega
    case rel => exact ⟨(y418), (wrap64 (x4_1 + 1)), impl_levelOrder.Z1, H', ⟨by have := HK1.out; omega⟩, ⟨by (with_reducible repeat (first | apply Kd.R_alloc | apply Kd.R_drewN | apply Kd.R_drew)); exact Kd.R_mono HO420.out (fun _ hk => trivial)⟩, ⟨el HB⟩⟩
   ·rw [if_neg c4] at H
    have c4b0 := decide_eq_false c4
    clear c4
    obtain rfl := Option.some.inj H
    obtain ⟨Ao12, co12, eo12⟩ := Kd.R_slice HO_3.out
    subst eo12
    go_wp2
    go_ret
    exact ⟨_, er, by (with_reducible repeat (first | apply Kd.R_alloc | apply Kd.R_drewN | apply Kd.R_drew)); exact HO_3.out, el HB⟩

end Go.Proofs.Ytocachknmgefaaa.QFnTrees
