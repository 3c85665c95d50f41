/- Functions of the program as plain Lean functions, each with a proof that the machine's call answers what it answers. Conditions: none. -/
import Derived.Test.YtocachknmgefaaaQFnTreesx0
import Derived.Test.YtocachknmgefaaaQFnTreesx1
import Derived.Test.YtocachknmgefaaaQFnTreesx2
import Derived.Test.YtocachknmgefaaaQFnTreesx3
import Derived.Test.YtocachknmgefaaaQFnTreesx4
import Derived.Test.YtocachknmgefaaaQFnTreesx5
namespace Go.Proofs.Ytocachknmgefaaa.QFnTrees
open Go.RowKit Go.Proofs.YtocachknmgefaaaW.PrintWords Go.Proofs.YtocachknmgefaaaW.PrintLast Go.Proofs.YtocachknmgefaaaW.PrintMore
attribute [local go_sem] max2_int min2_int max_two min_two max_three min_three max_four min_four   -- for this text's walks alone
set_option linter.unusedVariables false
set_option maxHeartbeats 8000000
set_option maxRecDepth 100000
set_option linter.unusedSimpArgs false

/-! ### impl_treeCode: function 117 -/
def impl_treeCode.l0 : Nat → List Int → Int → Int → List Int → Option (Int)
  | 0, _, _, _, _ => none
  | k + 1, x10, x11, x12, x505000 => if x12 < x11 then (if 0 ≤ x12 then (if x12 < (x10.length : Int) then (if (rd x10 x12) < 0 then (some 2) else (if (rd x10 x12) ≥ (x505000.length : Int) then (some 2) else (impl_treeCode.l0 k x10 x11 (wrap64 (x12 + 1)) x505000))) else (none)) else (none)) else (some 0)
def impl_treeCode.f (k : Nat) (l0_0 : List Int) (l1 : List Int) : Option (Int) := (impl_IsTree.f k l0_0).bind fun t505 => (if t505 = true then (impl_treeCode.l0 k l1 (l1.length : Int) 0 l0_0) else (some 1))
theorem impl_treeCode.mono_l : ∀ k, (∀ y0 y1 y2 y3, LeO (impl_treeCode.l0 k y0 y1 y2 y3) (impl_treeCode.l0 (k + 1) y0 y1 y2 y3))
  | 0 => fun _ _ _ _ r h => by simp [impl_treeCode.l0] at h
  | k + 1 => by
    have ih0 := impl_treeCode.mono_l k
    · intro y0 y1 y2 y3
      unfold impl_treeCode.l0
      repeat' first | (with_reducible first | exact ih0 _ _ _ _ | exact impl_IsTree.mono _ _ | exact LeO.refl _ | exact LeO.none _ | refine LeO.ite ?_ ?_ | refine LeO.bind ?_ (fun _ => ?_)) | exact ih0 _ _ _ _ | exact impl_IsTree.mono _ _ | exact LeO.none _ | refine LeO.ite ?_ ?_ | refine LeO.bind ?_ (fun _ => ?_)
theorem impl_treeCode.mono : ∀ a0 a1 k, LeO (impl_treeCode.f k a0 a1) (impl_treeCode.f (k + 1) a0 a1) := by
  intro a0 a1 k
  have ih0 := impl_treeCode.mono_l k
  unfold impl_treeCode.f
  repeat' first | (with_reducible first | exact ih0 _ _ _ _ | exact impl_IsTree.mono _ _ | exact LeO.refl _ | exact LeO.none _ | refine LeO.ite ?_ ?_ | refine LeO.bind ?_ (fun _ => ?_)) | exact ih0 _ _ _ _ | exact impl_IsTree.mono _ _ | exact LeO.none _ | refine LeO.ite ?_ ?_ | refine LeO.bind ?_ (fun _ => ?_)
theorem impl_treeCode.Z0 {p : Prop} (h : p := by first | (with_reducible assumption) | assumption) : p := h
theorem impl_treeCode.Z1 {p : Prop} (h : p := by first | rfl | (simp; done) | (simp [*]; done)) : p := h
theorem impl_treeCode.calls (k : Nat) (A0_0 : Option Addr) (c0_0 : Nat) (l0_0 : List Int) (A1 : Option Addr) (c1 : Nat) (l1 : List Int) (r : Int) (w : World) (hr0_0 : Kd.C (Kd.int .i64) w A0_0 l0_0.length l0_0) (hc0_0 : l0_0.length ≤ c0_0) (hr1 : Kd.C (Kd.int .i64) w A1 l1.length l1) (hc1 : l1.length ≤ c1) (h : impl_treeCode.f k l0_0 l1 = some r) :
  Calls Try.prog 117 #[.agg #[.slice A0_0 l0_0.length c0_0], .slice A1 l1.length c1] w fun e w' => e = .returned (.int .i64 r) ∧ Below w.heap.size w w' := by
 have hu26 := Try.underlying26
 have HR0_0 := A_ hr0_0
 have HC0_0 := A_ hc0_0
 clear hr0_0 hc0_0
 have HR1 := A_ hr1
 have HC1 := A_ hc1
 clear hr1 hc1
 have HB := A_ (Below.refl w.heap.size w)
 have H : ((impl_IsTree.f k l0_0).bind fun t505 => (if t505 = true then (impl_treeCode.l0 k l1 (l1.length : Int) 0 l0_0) else (some 1))) = some r := h
 clear h
 replace H := Option.bind_eq_some_iff.mp H
 obtain ⟨t505, A30, H⟩ := H
 replace H : (if t505 = true then (impl_treeCode.l0 k l1 (l1.length : Int) 0 l0_0) else (some 1)) = some r := H
 have A3 := A_ A30
 clear A30
 by_cases c4 : t505 = true
 ·subst c4
  have H1 : (impl_treeCode.l0 k l1 (l1.length : Int) 0 l0_0) = some r := by rw [if_pos rfl] at H; exact H
  clear H
  have H := H1
  clear H1
  have H' := A_ H
  clear H
  go_enter Try.func117, Try.ntmps117
  go_wp2_with (first | ((with_reducible refine gate_dst (N := 2) rfl ?_); (try (refine gate_guard (by rfl) ?_; dsimp only)); refine bx 2 #[.slice A0_0 l0_0.length c0_0] 26 ?_; intro gb504 hg w5 hbox hb; have BK504 := A_ hbox; have GW504 := A_ (eG hg (below_size (el HB)) : w.heap.size ≤ gb504); have GE504 := A_ (eG hg (below_size (el HB)) : w.heap.size ≤ gb504); replace HB := A_ (below_step (el HB) hb); clear hb hbox hg; have hcz6_0 : w5.cell? ⟨gb504, 0, none⟩ = some (.slice A0_0 l0_0.length c0_0) := (blk_cell BK504.out 0).trans rfl; have hfz6_0 := blk_frozen BK504.out 0) | ((with_reducible refine gate_callee (f := 24) rfl ?_); refine goesL_ (some 8) rfl rfl Try.func24 (by kernel_rfl) rfl #[.agg #[.slice A0_0 l0_0.length c0_0]] rfl eg ?_; (with_reducible refine (impl_IsTree.calls k _ _ l0_0 true _ ?side1 ?side2 A3.out).mono ?_); (case side1 => exact cS (Kd.C_below HR0_0.out HB.out)); (case side2 => exact HC0_0.out); rintro e w7 ⟨rfl, hb⟩; refine ⟨_, rfl, ?_⟩; replace BK504 := A_ (eB BK504 hb); replace HB := A_ (below_step (el HB) hb); (try clear hb); (try clear hb2); (try clear hk); (try clear hi)))
  go_loopg [12] k (fun kq v12 w' => ∃ (x12_1 : Int), v12 = .int .i64 x12_1 ∧ Aside0 (impl_treeCode.l0 kq l1 (l1.length : Int) x12_1 l0_0 = some r) ∧ Aside0 (kq ≤ k) ∧ Aside0 (w'.heap[gb504]? = some (.cells #[(.slice A0_0 l0_0.length c0_0)] 26 (0, 0))) ∧ Aside0 (Below w.heap.size w w'))
  case atStart => exact ⟨(0), impl_treeCode.Z1, H', ⟨Nat.le_refl _⟩, ⟨eb BK504⟩, ⟨el HB⟩⟩
  case round =>
   clear H'
   try clear c1
   try clear c2
   try clear p2
   try clear c4
   try clear hcz6_0
   try clear hfz6_0
   obtain ⟨x12_1, rfl, HA, HK1, BK504, HB⟩ := hrel
   cases gk with
   | zero => exact absurd HA.out (by simp [impl_treeCode.l0])
   | succ k1 =>
    have H := HA.out
    clear HA
    simp only [impl_treeCode.l0] at H
    by_cases c8 : x12_1 < (l1.length : Int)
    ·rw [if_pos c8] at H
     have c8b0 := decide_eq_true c8
     clear c8
     by_cases c9 : 0 ≤ x12_1
     rotate_left
     ·rw [if_neg c9] at H
      exact absurd H (by simp)
     rw [if_pos c9] at H
     have c9b0 := decide_eq_true c9
     clear c9
     by_cases c10 : x12_1 < (l1.length : Int)
     rotate_left
     ·rw [if_neg c10] at H
      exact absurd H (by simp)
     rw [if_pos c10] at H
     have c10b0 := decide_eq_true c10
     clear c10
     by_cases c11 : (rd l1 x12_1) < 0
     ·rw [if_pos c11] at H
      have c11b0 := decide_eq_true c11
      clear c11
      obtain rfl := Option.some.inj H
      have p506 : 0 ≤ (x12_1 : Int) := of_decide_eq_true impl_treeCode.Z0
      have q506 : x12_1 < (l1.length : Int) := of_decide_eq_true impl_treeCode.Z0
      obtain ⟨ad506, e506, hx506_0⟩ := Kd.at_int HR1.out x12_1 p506 q506
      cases e506
      replace hx506_0 := (HB.out.cell (World.block_lt_of_cell? w _ hx506_0)).trans hx506_0
      replace p506 := eq_true p506
      replace q506 := eq_true q506
      go_wp2
      go_ret
      exact ⟨er, el HB⟩
     ·rw [if_neg c11] at H
      have c11b0 := decide_eq_false c11
      clear c11
      by_cases c12 : (rd l1 x12_1) ≥ (l0_0.length : Int)
      ·rw [if_pos c12] at H
       have c12b0 := decide_eq_true c12
       clear c12
       obtain rfl := Option.some.inj H
       have p506 : 0 ≤ (x12_1 : Int) := of_decide_eq_true impl_treeCode.Z0
       have q506 : x12_1 < (l1.length : Int) := of_decide_eq_true impl_treeCode.Z0
       obtain ⟨ad506, e506, hx506_0⟩ := Kd.at_int HR1.out x12_1 p506 q506
       cases e506
       replace hx506_0 := (HB.out.cell (World.block_lt_of_cell? w _ hx506_0)).trans hx506_0
       replace p506 := eq_true p506
       replace q506 := eq_true q506
       have hcz13_0 : wr.cell? ⟨gb504, 0, none⟩ = some (.slice A0_0 l0_0.length c0_0) := (blk_cell BK504.out 0).trans rfl
       have hfz13_0 := blk_frozen BK504.out 0
       go_wp2
       go_ret
       exact ⟨er, el HB⟩
      ·rw [if_neg c12] at H
       have c12b0 := decide_eq_false c12
       clear c12
       have H' := A_ H
       clear H
       have p506 : 0 ≤ (x12_1 : Int) := of_decide_eq_true impl_treeCode.Z0
       have q506 : x12_1 < (l1.length : Int) := of_decide_eq_true impl_treeCode.Z0
       obtain ⟨ad506, e506, hx506_0⟩ := Kd.at_int HR1.out x12_1 p506 q506
       cases e506
       replace hx506_0 := (HB.out.cell (World.block_lt_of_cell? w _ hx506_0)).trans hx506_0
       replace p506 := eq_true p506
       replace q506 := eq_true q506
       have hcz14_0 : wr.cell? ⟨gb504, 0, none⟩ = some (.slice A0_0 l0_0.length c0_0) := (blk_cell BK504.out 0).trans rfl
       have hfz14_0 := blk_frozen BK504.out 0
       go_wp2
       go_roundg k1
       case measure => have := HK1.out; omega
       case rel => exact ⟨(wrap64 (x12_1 + 1)), impl_treeCode.Z1, H', ⟨by have := HK1.out; omega⟩, ⟨eb BK504⟩, ⟨el HB⟩⟩
    ·rw [if_neg c8] at H
     have c8b0 := decide_eq_false c8
     clear c8
     obtain rfl := Option.some.inj H
     go_wp2
     go_ret
     exact ⟨er, el HB⟩
 ·replace c4 := Bool.eq_false_iff.mpr c4
  subst c4
  have H1 : (some 1) = some r := by rw [if_neg (show ¬ (false = true) by decide)] at H; exact H
  clear H
  have H := H1
  clear H1
  obtain rfl := Option.some.inj H
  go_enter Try.func117, Try.ntmps117
  go_wp2_with (first | ((with_reducible refine gate_dst (N := 2) rfl ?_); (try (refine gate_guard (by rfl) ?_; dsimp only)); refine bx 2 #[.slice A0_0 l0_0.length c0_0] 26 ?_; intro gb504 hg w15 hbox hb; have BK504 := A_ hbox; have GW504 := A_ (eG hg (below_size (el HB)) : w.heap.size ≤ gb504); have GE504 := A_ (eG hg (below_size (el HB)) : w.heap.size ≤ gb504); replace HB := A_ (below_step (el HB) hb); clear hb hbox hg; have hcz16_0 : w15.cell? ⟨gb504, 0, none⟩ = some (.slice A0_0 l0_0.length c0_0) := (blk_cell BK504.out 0).trans rfl; have hfz16_0 := blk_frozen BK504.out 0) | ((with_reducible refine gate_callee (f := 24) rfl ?_); refine goesL_ (some 8) rfl rfl Try.func24 (by kernel_rfl) rfl #[.agg #[.slice A0_0 l0_0.length c0_0]] rfl eg ?_; (with_reducible refine (impl_IsTree.calls k _ _ l0_0 false _ ?side1 ?side2 A3.out).mono ?_); (case side1 => exact cS (Kd.C_below HR0_0.out HB.out)); (case side2 => exact HC0_0.out); rintro e w17 ⟨rfl, hb⟩; refine ⟨_, rfl, ?_⟩; replace BK504 := A_ (eB BK504 hb); replace HB := A_ (below_step (el HB) hb); (try clear hb); (try clear hb2); (try clear hk); (try clear hi)))
  go_ret
  exact ⟨er, el HB⟩

/-! ### impl_ChildrenOf: function 30 -/
def impl_ChildrenOf.f (k : Nat) (l0_0 : List Int) (a1 : Int) : Option (List Int × Int) := (impl_treeCode.f k l0_0 (([a1] : List Int))).bind fun t511 => (if t511 = 0 then ((impl_kidsOf.f k l0_0 a1).bind fun t512 => (some (t512, 0))) else (some (([] : List Int), t511)))
theorem impl_ChildrenOf.mono : ∀ a0 a1 k, LeO (impl_ChildrenOf.f k a0 a1) (impl_ChildrenOf.f (k + 1) a0 a1) := by
  intro a0 a1 k
  unfold impl_ChildrenOf.f
  repeat' first | (with_reducible first | exact impl_kidsOf.mono _ _ _ | exact impl_treeCode.mono _ _ _ | exact LeO.refl _ | exact LeO.none _ | refine LeO.ite ?_ ?_ | refine LeO.bind ?_ (fun _ => ?_)) | exact impl_kidsOf.mono _ _ _ | exact impl_treeCode.mono _ _ _ | exact LeO.none _ | refine LeO.ite ?_ ?_ | refine LeO.bind ?_ (fun _ => ?_)
theorem impl_ChildrenOf.calls (k : Nat) (A0_0 : Option Addr) (c0_0 : Nat) (l0_0 : List Int) (a1 : Int) (r1 : List Int) (r2 : Int) (w : World) (hr0_0 : Kd.C (Kd.int .i64) w A0_0 l0_0.length l0_0) (hc0_0 : l0_0.length ≤ c0_0) (h : impl_ChildrenOf.f k l0_0 a1 = some (r1, r2)) :
  Calls Try.prog 30 #[.agg #[.slice A0_0 l0_0.length c0_0], .int .i64 a1] w fun e w' => ∃ v0_ : Value, e = .returned (.tuple #[v0_, .int .i64 r2]) ∧ Kd.R (Kd.int .i64) 2 w' w.heap.size (fun _ => True) v0_ r1 ∧ Below w.heap.size w w' := by
 have hu26 := Try.underlying26
 have HR0_0 := A_ hr0_0
 have HC0_0 := A_ hc0_0
 clear hr0_0 hc0_0
 have HB := A_ (Below.refl w.heap.size w)
 have H : ((impl_treeCode.f k l0_0 (([a1] : List Int))).bind fun t511 => (if t511 = 0 then ((impl_kidsOf.f k l0_0 a1).bind fun t512 => (some (t512, 0))) else (some (([] : List Int), t511)))) = some (r1, r2) := h
 clear h
 obtain ⟨y508, hy508⟩ : ∃ y_ : List Int, y_ = (([a1] : List Int)) := ⟨_, rfl⟩
 replace H : ((impl_treeCode.f k l0_0 y508).bind fun t511 => (if t511 = 0 then ((impl_kidsOf.f k l0_0 a1).bind fun t512 => (some (t512, 0))) else (some (([] : List Int), t511)))) = some (r1, r2) := eH hy508 H
 have Ny508 := A_ hy508
 clear hy508
 replace H := Option.bind_eq_some_iff.mp H
 obtain ⟨t511, A30, H⟩ := H
 replace H : (if t511 = 0 then ((impl_kidsOf.f k l0_0 a1).bind fun t512 => (some (t512, 0))) else (some (([] : List Int), t511))) = some (r1, r2) := H
 have A3 := A_ A30
 clear A30
 by_cases c4 : t511 = 0
 ·rw [if_pos c4] at H
  have c4b0 : (t511 == 0) = true := beq_iff_eq.mpr c4
  have c4b1 : (t511 != 0) = false := bne_eq_false_iff_eq.mpr c4
  clear c4
  replace H := Option.bind_eq_some_iff.mp H
  obtain ⟨t512, A50, H⟩ := H
  replace H : (some (t512, 0)) = some (r1, r2) := H
  have A5 := A_ A50
  clear A50
  simp only [Option.some.injEq, Prod.mk.injEq] at H
  obtain ⟨rfl, rfl⟩ := H
  go_enter Try.func30, Try.ntmps30
  go_wp2_with (first | ((with_reducible refine gate_dst (N := 2) rfl ?_); refine bx 2 #[.slice A0_0 l0_0.length c0_0] 26 ?_; intro gb507 hg w6 hbox hb; have BK507 := A_ hbox; have GW507 := A_ (eG hg (below_size (el HB)) : w.heap.size ≤ gb507); have GE507 := A_ (eG hg (below_size (el HB)) : w.heap.size ≤ gb507); replace HB := A_ (below_step (el HB) hb); clear hb hbox hg; have hcz7_0 : w6.cell? ⟨gb507, 0, none⟩ = some (.slice A0_0 l0_0.length c0_0) := (blk_cell BK507.out 0).trans rfl; have hfz7_0 := blk_frozen BK507.out 0) | ((with_reducible refine gate_dst (N := 9) rfl ?_); refine Kd.R_lit (Kd.int .i64) _ 2 ?hg (N := 9) ?hd (xs := ([a1] : List Int)) (inner := [.int .i64 a1]) (ok := fun _ => True) (okp := fun _ => True) ?hr ?hp (fun _ hk => hk) trivial (Below.refl _ _) (Nat.le_refl _) (by simp) ?_; (case hd => rfl); (case hg => rfl); (case hr => first | (go_simp; done) | (go_simp; rfl)); (case hp => exact (Reps.one (show Kd.M (Kd.int .i64) _ _ _ a1 [.int .i64 a1] from rfl) (Reps.none _ _))); intro v509 w8 ho9 hb hg_ hnew_; clear hg_ hnew_; (first | rw [← Ny508.out] at ho9 | (simp only [Int.reduceToNat] at ho9; rw [← Ny508.out] at ho9)); have HO510 := A_ (Kd.R_lower ho9 (below_size (el HB))); replace BK507 := A_ (eB BK507 hb); replace HB := A_ (below_step (el HB) hb); clear hb ho9; obtain ⟨Ao10, co10, eo10⟩ := Kd.R_slice HO510.out; subst eo10) | ((with_reducible refine gate_callee (f := 117) rfl ?_); refine goesL_ (some 10) rfl rfl Try.func117 (by kernel_rfl) rfl #[.agg #[.slice A0_0 l0_0.length c0_0], .slice Ao10 y508.length co10] rfl eg ?_; (with_reducible refine (impl_treeCode.calls k _ _ l0_0 _ _ y508 t511 _ ?side1 ?side2 ?side3 ?side4 A3.out).mono ?_); (case side1 => exact cS (Kd.C_below HR0_0.out HB.out)); (case side2 => exact HC0_0.out); (case side3 => exact cS ((Kd.R_reads' HO510.out).2.2)); (case side4 => exact (Kd.R_reads' HO510.out).2.1); rintro e w11 ⟨rfl, hb⟩; refine ⟨_, rfl, ?_⟩; replace HO510 := A_ (Kd.R_below (ea HO510) hb); replace BK507 := A_ (eB BK507 hb); replace HB := A_ (below_step (el HB) hb); (try clear hb); (try clear hb2); (try clear hk); (try clear hi); have hcz12_0 : w11.cell? ⟨gb507, 0, none⟩ = some (.slice A0_0 l0_0.length c0_0) := (blk_cell BK507.out 0).trans rfl; have hfz12_0 := blk_frozen BK507.out 0) | ((with_reducible refine gate_callee (f := 118) rfl ?_); refine goesL_ (some 17) rfl rfl Try.func118 (by kernel_rfl) rfl #[.slice A0_0 l0_0.length c0_0, .int .i64 a1] rfl eg ?_; (with_reducible refine (impl_kidsOf.calls k _ _ l0_0 a1 t512 _ ?side1 ?side2 A5.out).mono ?_); (case side1 => exact cS (Kd.C_below HR0_0.out HB.out)); (case side2 => exact HC0_0.out); rintro e w13 ⟨v513, rfl, ho0, hb⟩; refine ⟨_, rfl, ?_⟩; have HO514 := A_ (Kd.R_lower (Kd.R_new' ho0 (Kd.R_lt (ea HO510))) (below_size (el HB))); replace HO510 := A_ (Kd.R_elder' (ea HO510) (Kd.R_base ho0) hb); replace BK507 := A_ (eB BK507 hb); replace HB := A_ (below_step (el HB) hb); (try clear hb); (try clear hb2); (try clear hk); (try clear hi); (try clear ho0)))
  go_ret2
  exact ⟨_, er, by (with_reducible repeat (first | apply Kd.R_alloc | apply Kd.R_drewN | apply Kd.R_drew)); exact Kd.R_mono HO514.out (fun _ hk => trivial), el HB⟩
 ·rw [if_neg c4] at H
  have c4b0 : (t511 == 0) = false := beq_eq_false_iff_ne.mpr c4
  have c4b1 : (t511 != 0) = true := bne_iff_ne.mpr c4
  simp only [Option.some.injEq, Prod.mk.injEq] at H
  obtain ⟨rfl, rfl⟩ := H
  go_enter Try.func30, Try.ntmps30
  go_wp2_with (first | ((with_reducible refine gate_dst (N := 2) rfl ?_); refine bx 2 #[.slice A0_0 l0_0.length c0_0] 26 ?_; intro gb507 hg w14 hbox hb; have BK507 := A_ hbox; have GW507 := A_ (eG hg (below_size (el HB)) : w.heap.size ≤ gb507); have GE507 := A_ (eG hg (below_size (el HB)) : w.heap.size ≤ gb507); replace HB := A_ (below_step (el HB) hb); clear hb hbox hg; have hcz15_0 : w14.cell? ⟨gb507, 0, none⟩ = some (.slice A0_0 l0_0.length c0_0) := (blk_cell BK507.out 0).trans rfl; have hfz15_0 := blk_frozen BK507.out 0) | ((with_reducible refine gate_dst (N := 9) rfl ?_); refine Kd.R_lit (Kd.int .i64) _ 2 ?hg (N := 9) ?hd (xs := ([a1] : List Int)) (inner := [.int .i64 a1]) (ok := fun _ => True) (okp := fun _ => True) ?hr ?hp (fun _ hk => hk) trivial (Below.refl _ _) (Nat.le_refl _) (by simp) ?_; (case hd => rfl); (case hg => rfl); (case hr => first | (go_simp; done) | (go_simp; rfl)); (case hp => exact (Reps.one (show Kd.M (Kd.int .i64) _ _ _ a1 [.int .i64 a1] from rfl) (Reps.none _ _))); intro v509 w16 ho17 hb hg_ hnew_; clear hg_ hnew_; (first | rw [← Ny508.out] at ho17 | (simp only [Int.reduceToNat] at ho17; rw [← Ny508.out] at ho17)); have HO510 := A_ (Kd.R_lower ho17 (below_size (el HB))); replace BK507 := A_ (eB BK507 hb); replace HB := A_ (below_step (el HB) hb); clear hb ho17; obtain ⟨Ao18, co18, eo18⟩ := Kd.R_slice HO510.out; subst eo18) | ((with_reducible refine gate_callee (f := 117) rfl ?_); refine goesL_ (some 10) rfl rfl Try.func117 (by kernel_rfl) rfl #[.agg #[.slice A0_0 l0_0.length c0_0], .slice Ao18 y508.length co18] rfl eg ?_; (with_reducible refine (impl_treeCode.calls k _ _ l0_0 _ _ y508 t511 _ ?side1 ?side2 ?side3 ?side4 A3.out).mono ?_); (case side1 => exact cS (Kd.C_below HR0_0.out HB.out)); (case side2 => exact HC0_0.out); (case side3 => exact cS ((Kd.R_reads' HO510.out).2.2)); (case side4 => exact (Kd.R_reads' HO510.out).2.1); rintro e w19 ⟨rfl, hb⟩; refine ⟨_, rfl, ?_⟩; replace HO510 := A_ (Kd.R_below (ea HO510) hb); replace BK507 := A_ (eB BK507 hb); replace HB := A_ (below_step (el HB) hb); (try clear hb); (try clear hb2); (try clear hk); (try clear hi)))
  go_ret2
  exact ⟨_, er, by first | exact Kd.R_nil _ _ _ _ _ | exact Kd.N_nil _ _ _ _ _ | exact Kd.V_nil _ _ _ _ _ | exact Kd.Q_nil _ _ _ _ _ | exact Kd.S_nil _ _ _ _ _, el HB⟩

/-! ### laws_hasInt: function 31 -/
def laws_hasInt.l0 : Nat → List Int → Int → Int → Option (Bool)
  | 0, _, _, _ => none
  | k + 1, x0, x1, x5 => if x5 < (x0.length : Int) then (if 0 ≤ x5 then (if (rd x0 x5) = x1 then (some true) else (laws_hasInt.l0 k x0 x1 (wrap64 (x5 + 1)))) else (none)) else (some false)
def laws_hasInt.f (k : Nat) (l0 : List Int) (a1 : Int) : Option (Bool) := laws_hasInt.l0 k l0 a1 0
theorem laws_hasInt.mono_l : ∀ k, (∀ y0 y1 y2, LeO (laws_hasInt.l0 k y0 y1 y2) (laws_hasInt.l0 (k + 1) y0 y1 y2))
  | 0 => fun _ _ _ r h => by simp [laws_hasInt.l0] at h
  | k + 1 => by
    have ih0 := laws_hasInt.mono_l k
    · intro y0 y1 y2
      unfold laws_hasInt.l0
      repeat' first | (with_reducible first | exact ih0 _ _ _ | exact LeO.refl _ | exact LeO.none _ | refine LeO.ite ?_ ?_ | refine LeO.bind ?_ (fun _ => ?_)) | exact ih0 _ _ _ | exact LeO.none _ | refine LeO.ite ?_ ?_ | refine LeO.bind ?_ (fun _ => ?_)
theorem laws_hasInt.mono : ∀ a0 a1 k, LeO (laws_hasInt.f k a0 a1) (laws_hasInt.f (k + 1) a0 a1) := by
  intro a0 a1 k
  have ih0 := laws_hasInt.mono_l k
  unfold laws_hasInt.f
  repeat' first | (with_reducible first | exact ih0 _ _ _ | exact LeO.refl _ | exact LeO.none _ | refine LeO.ite ?_ ?_ | refine LeO.bind ?_ (fun _ => ?_)) | exact ih0 _ _ _ | exact LeO.none _ | refine LeO.ite ?_ ?_ | refine LeO.bind ?_ (fun _ => ?_)
theorem laws_hasInt.Z0 {p : Prop} (h : p := by first | (with_reducible assumption) | assumption) : p := h
theorem laws_hasInt.Z1 {p : Prop} (h : p := by first | rfl | (simp; done) | (simp [*]; done)) : p := h
theorem laws_hasInt.calls (k : Nat) (A0 : Option Addr) (c0 : Nat) (l0 : List Int) (a1 : Int) (r : Bool) (w : World) (hr0 : Kd.C (Kd.int .i64) w A0 l0.length l0) (hc0 : l0.length ≤ c0) (h : laws_hasInt.f k l0 a1 = some r) :
  Calls Try.prog 31 #[.slice A0 l0.length c0, .int .i64 a1] w fun e w' => e = .returned (.bool r) ∧ Drawn0 w w' := by
 have HR0 := A_ hr0
 have HC0 := A_ hc0
 clear hr0 hc0
 have H : (laws_hasInt.l0 k l0 a1 0) = some r := h
 clear h
 have H' := A_ H
 clear H
 go_enter Try.func31, Try.ntmps31
 go_wp2
 go_loopg [5] k (fun kq v5 w' => ∃ (x5_1 : Int), v5 = .int .i64 x5_1 ∧ Aside0 (laws_hasInt.l0 kq l0 a1 x5_1 = some r) ∧ Aside0 (kq ≤ k) ∧ Drawn0 w w')
 case atStart => exact ⟨(0), laws_hasInt.Z1, H', ⟨Nat.le_refl _⟩, by repeat (first | exact Drawn0.refl _ | apply Drawn0.step)⟩
 case round =>
  clear H'
  try clear p2
  obtain ⟨x5_1, rfl, HA, HK1, ⟨m1, rfl⟩⟩ := hrel
  cases gk with
  | zero => exact absurd HA.out (by simp [laws_hasInt.l0])
  | succ k1 =>
   have H := HA.out
   clear HA
   simp only [laws_hasInt.l0] at H
   by_cases c3 : x5_1 < (l0.length : Int)
   ·rw [if_pos c3] at H
    have c3b0 := decide_eq_true c3
    clear c3
    by_cases c4 : 0 ≤ x5_1
    rotate_left
    ·rw [if_neg c4] at H
     exact absurd H (by simp)
    rw [if_pos c4] at H
    have c4b0 := decide_eq_true c4
    clear c4
    by_cases c5 : (rd l0 x5_1) = a1
    ·rw [if_pos c5] at H
     have c5b0 : ((rd l0 x5_1) == a1) = true := beq_iff_eq.mpr c5
     have c5b1 : ((rd l0 x5_1) != a1) = false := bne_eq_false_iff_eq.mpr c5
     clear c5
     obtain rfl := Option.some.inj H
     have p515 : 0 ≤ (x5_1 : Int) := of_decide_eq_true laws_hasInt.Z0
     have q515 : x5_1 < (l0.length : Int) := of_decide_eq_true laws_hasInt.Z0
     obtain ⟨ad515, e515, hx515_0⟩ := Kd.at_int HR0.out x5_1 p515 q515
     cases e515
     replace p515 := eq_true p515
     replace q515 := eq_true q515
     go_wp2
     go_ret
     exact ⟨by first | rfl | (simp; done) | (simp [*]; done), by repeat (first | exact Drawn0.refl _ | apply Drawn0.step)⟩
    ·rw [if_neg c5] at H
     have c5b0 : ((rd l0 x5_1) == a1) = false := beq_eq_false_iff_ne.mpr c5
     have c5b1 : ((rd l0 x5_1) != a1) = true := bne_iff_ne.mpr c5
     have H' := A_ H
     clear H
     have p515 : 0 ≤ (x5_1 : Int) := of_decide_eq_true laws_hasInt.Z0
     have q515 : x5_1 < (l0.length : Int) := of_decide_eq_true laws_hasInt.Z0
     obtain ⟨ad515, e515, hx515_0⟩ := Kd.at_int HR0.out x5_1 p515 q515
     cases e515
     replace p515 := eq_true p515
     replace q515 := eq_true q515
     go_wp2
     go_roundg k1
     case measure => have := HK1.out; omega
     case rel => exact ⟨(wrap64 (x5_1 + 1)), laws_hasInt.Z1, H', ⟨by have := HK1.out; omega⟩, by repeat (first | exact Drawn0.refl _ | apply Drawn0.step)⟩
   ·rw [if_neg c3] at H
    have c3b0 := decide_eq_false c3
    clear c3
    obtain rfl := Option.some.inj H
    go_wp2
    go_ret
    exact ⟨by first | rfl | (simp; done) | (simp [*]; done), by repeat (first | exact Drawn0.refl _ | apply Drawn0.step)⟩

/-! ### spec_l01Near: function 127 -/
def spec_l01Near.f (s0_0 : List Int) (s0_1 : Int) (s0_2 : Int) (a1 : Int) : Option (Int × Int × Int) := (spec_l01Next.f s0_0 s0_1 s0_2 14).bind fun bt516 => (if bt516.1 = 0 then ((spec_l01Pick.f s0_0 bt516.2.1 bt516.2.2 (([(-1), wrap64 (a1 + 1), 1099511627776, (-4611686018427387904)] : List Int))).bind fun bt522 => (some (bt522.1, bt522.2.1, bt522.2.2))) else ((spec_l01Next.f s0_0 bt516.2.1 bt516.2.2 (wrap64 (a1 + 1))).bind fun bt525 => (some (bt525.1, bt525.2.1, bt525.2.2))))
theorem spec_l01Near.calls (g : Nat) (s0_0 : List Int) (s0_1 : Int) (s0_2 : Int) (a1 : Int) (r1 : Int) (r2 : Int) (r3 : Int) (w0 w : World) (hI : IsS121 w0 w g s0_0 s0_1 s0_2) (hB : Below w0.heap.size w0 w) (h : spec_l01Near.f s0_0 s0_1 s0_2 a1 = some (r1, r2, r3)) :
  Calls Try.prog 127 #[.pointer (some ⟨g, 0, none⟩), .int .i64 a1] w fun e w' => e = .returned (.int .i64 r1) ∧ IsS121 w0 w' g s0_0 r2 r3 ∧ Below w0.heap.size w0 w' ∧ KeepBut w w' g none := by
 have HI0 := A_ hI
 have HK := A_ (KeepBut.refl w g none)
 have HL := A_ hB.size
 clear hI
 have HW0 := A_ hB.size
 have HB := A_ hB
 clear hB
 have H : ((spec_l01Next.f s0_0 s0_1 s0_2 14).bind fun bt516 => (if bt516.1 = 0 then ((spec_l01Pick.f s0_0 bt516.2.1 bt516.2.2 (([(-1), wrap64 (a1 + 1), 1099511627776, (-4611686018427387904)] : List Int))).bind fun bt522 => (some (bt522.1, bt522.2.1, bt522.2.2))) else ((spec_l01Next.f s0_0 bt516.2.1 bt516.2.2 (wrap64 (a1 + 1))).bind fun bt525 => (some (bt525.1, bt525.2.1, bt525.2.2))))) = some (r1, r2, r3) := h
 clear h
 replace H := Option.bind_eq_some_iff.mp H
 obtain ⟨⟨t516, t517, t518⟩, A30, H⟩ := H
 replace H : (if t516 = 0 then ((spec_l01Pick.f s0_0 t517 t518 (([(-1), wrap64 (a1 + 1), 1099511627776, (-4611686018427387904)] : List Int))).bind fun bt522 => (some (bt522.1, bt522.2.1, bt522.2.2))) else ((spec_l01Next.f s0_0 t517 t518 (wrap64 (a1 + 1))).bind fun bt525 => (some (bt525.1, bt525.2.1, bt525.2.2)))) = some (r1, r2, r3) := H
 have A3 := A_ A30
 clear A30
 by_cases c4 : t516 = 0
 ·rw [if_pos c4] at H
  have c4b0 : (t516 == 0) = true := beq_iff_eq.mpr c4
  have c4b1 : (t516 != 0) = false := bne_eq_false_iff_eq.mpr c4
  clear c4
  obtain ⟨y519, hy519⟩ : ∃ y_ : List Int, y_ = (([(-1), wrap64 (a1 + 1), 1099511627776, (-4611686018427387904)] : List Int)) := ⟨_, rfl⟩
  replace H : ((spec_l01Pick.f s0_0 t517 t518 y519).bind fun bt522 => (some (bt522.1, bt522.2.1, bt522.2.2))) = some (r1, r2, r3) := eH hy519 H
  have Ny519 := A_ hy519
  clear hy519
  replace H := Option.bind_eq_some_iff.mp H
  obtain ⟨⟨t522, t523, t524⟩, A50, H⟩ := H
  replace H : (some (t522, t523, t524)) = some (r1, r2, r3) := H
  have A5 := A_ A50
  clear A50
  simp only [Option.some.injEq, Prod.mk.injEq] at H
  obtain ⟨rfl, rfl, rfl⟩ := H
  go_enter Try.func127, Try.ntmps127
  go_wp2_with (first | ((with_reducible refine gate_callee (f := 123) rfl ?_); refine goesL_ (some 6) rfl rfl Try.func123 (by kernel_rfl) rfl #[.pointer (some ⟨g, 0, none⟩), .int .i64 14] rfl eg ?_; (with_reducible refine (spec_l01Next.calls g s0_0 s0_1 s0_2 14 t516 t517 t518 w0 _ ?side1 ?side2 A3.out).mono ?_); (case side1 => exact ei121 HI0); (case side2 => exact em121 HB); rintro e w6 ⟨rfl, hi, hb, hk⟩; refine ⟨_, rfl, ?_⟩; replace HK := A_ (KeepBut.trans (ek HK) hk (.inl rfl)); replace HB := A_ hb; replace HI0 := A_ hi; (try clear hb); (try clear hb2); (try clear hk); (try clear hi)) | ((with_reducible refine gate_dst (N := 11) rfl ?_); refine Kd.R_lit (Kd.int .i64) _ 2 ?hg (N := 11) ?hd (xs := ([(-1), wrap64 (a1 + 1), 1099511627776, (-4611686018427387904)] : List Int)) (inner := [.int .i64 (-1), .int .i64 (wrap64 (a1 + 1)), .int .i64 1099511627776, .int .i64 (-4611686018427387904)]) (ok := fun _ => True) (okp := fun _ => True) ?hr ?hp (fun _ hk => hk) trivial (Below.refl _ _) (Nat.le_refl _) (by simp) ?_; (case hd => rfl); (case hg => rfl); (case hr => first | (go_simp; done) | (go_simp; rfl)); (case hp => exact (Reps.one (show Kd.M (Kd.int .i64) _ _ _ (-1) [.int .i64 (-1)] from rfl) (Reps.one (show Kd.M (Kd.int .i64) _ _ _ (wrap64 (a1 + 1)) [.int .i64 (wrap64 (a1 + 1))] from rfl) (Reps.one (show Kd.M (Kd.int .i64) _ _ _ 1099511627776 [.int .i64 1099511627776] from rfl) (Reps.one (show Kd.M (Kd.int .i64) _ _ _ (-4611686018427387904) [.int .i64 (-4611686018427387904)] from rfl) (Reps.none _ _)))))); intro v520 w7 ho8 hb hg_ hnew_; clear hg_ hnew_; (first | rw [← Ny519.out] at ho8 | (simp only [Int.reduceToNat] at ho8; rw [← Ny519.out] at ho8)); have HO521 := A_ (Kd.R_lower ho8 (keep_size (w := w) (g := g) (row := none) (ek HK))); replace HI0 := A_ (IsS121.below (ei121 HI0) hb); replace HK := A_ (KeepBut.trans (ek HK) (KeepBut.of_below hb g none) (.inl rfl)); replace HB := A_ (below_step (em121 HB) hb); clear hb ho8; obtain ⟨Ao9, co9, eo9⟩ := Kd.R_slice HO521.out; subst eo9) | ((with_reducible refine gate_callee (f := 147) rfl ?_); refine goesL_ (some 12) rfl rfl Try.func147 (by kernel_rfl) rfl #[.pointer (some ⟨g, 0, none⟩), .slice Ao9 y519.length co9] rfl eg ?_; (with_reducible refine (spec_l01Pick.calls g s0_0 t517 t518 _ _ y519 t522 t523 t524 w0 _ ?side1 ?side2 ?side3 ?side4 ?side5 A5.out).mono ?_); (case side1 => exact ei121 HI0); (case side2 => exact em121 HB); (case side3 => exact cS ((Kd.R_reads' HO521.out).2.2)); (case side4 => exact (Kd.R_reads' HO521.out).2.1); (case side5 => exact far_slice (IsS121.own_ne HI0.out HO521.out (by decide))); rintro e w10 ⟨rfl, hi, hb, hk⟩; refine ⟨_, rfl, ?_⟩; replace HO521 := A_ (Kd.R_mono (Kd.R_keep (IsS121.apart (show IsS121 w0 _ g s0_0 t517 t518 from ei121 HI0) (ea HO521) (by decide)) hk (fun _ h => h.2)) (fun _ h => h.1)); replace HK := A_ (KeepBut.trans (ek HK) hk (.inl rfl)); replace HB := A_ hb; replace HI0 := A_ hi; (try clear hb); (try clear hb2); (try clear hk); (try clear hi)))
  go_ret
  exact ⟨er, ei121 HI0, em121 HB, ek HK⟩
 ·rw [if_neg c4] at H
  have c4b0 : (t516 == 0) = false := beq_eq_false_iff_ne.mpr c4
  have c4b1 : (t516 != 0) = true := bne_iff_ne.mpr c4
  replace H := Option.bind_eq_some_iff.mp H
  obtain ⟨⟨t525, t526, t527⟩, A110, H⟩ := H
  replace H : (some (t525, t526, t527)) = some (r1, r2, r3) := H
  have A11 := A_ A110
  clear A110
  simp only [Option.some.injEq, Prod.mk.injEq] at H
  obtain ⟨rfl, rfl, rfl⟩ := H
  go_enter Try.func127, Try.ntmps127
  go_wp2_with (first | ((with_reducible refine gate_callee (f := 123) rfl ?_); refine goesL_ (some 6) rfl rfl Try.func123 (by kernel_rfl) rfl #[.pointer (some ⟨g, 0, none⟩), .int .i64 14] rfl eg ?_; (with_reducible refine (spec_l01Next.calls g s0_0 s0_1 s0_2 14 t516 t517 t518 w0 _ ?side1 ?side2 A3.out).mono ?_); (case side1 => exact ei121 HI0); (case side2 => exact em121 HB); rintro e w12 ⟨rfl, hi, hb, hk⟩; refine ⟨_, rfl, ?_⟩; replace HK := A_ (KeepBut.trans (ek HK) hk (.inl rfl)); replace HB := A_ hb; replace HI0 := A_ hi; (try clear hb); (try clear hb2); (try clear hk); (try clear hi)) | ((with_reducible refine gate_callee (f := 123) rfl ?_); refine goesL_ (some 16) rfl rfl Try.func123 (by kernel_rfl) rfl #[.pointer (some ⟨g, 0, none⟩), .int .i64 (wrap64 (a1 + 1))] rfl eg ?_; (with_reducible refine (spec_l01Next.calls g s0_0 t517 t518 (wrap64 (a1 + 1)) t525 t526 t527 w0 _ ?side1 ?side2 A11.out).mono ?_); (case side1 => exact ei121 HI0); (case side2 => exact em121 HB); rintro e w13 ⟨rfl, hi, hb, hk⟩; refine ⟨_, rfl, ?_⟩; replace HK := A_ (KeepBut.trans (ek HK) hk (.inl rfl)); replace HB := A_ hb; replace HI0 := A_ hi; (try clear hb); (try clear hb2); (try clear hk); (try clear hi)))
  go_ret
  exact ⟨er, ei121 HI0, em121 HB, ek HK⟩

/-! ### spec_l01With: function 119 -/
def spec_l01With.f (k : Nat) (l0 : List Int) : Option (List Int × Int × Int) := (spec_l01From.f k l0).bind fun bt529 => ((spec_l01Draw.f k bt529.1 bt529.2.1 bt529.2.2).bind fun bt533 => ((spec_l01N.f bt533.1).bind fun t539 => ((spec_l01Near.f bt529.1 bt533.2.1 bt533.2.2 (wrap64 (t539 - 1))).bind fun bt540 => ((spec_l01N.f bt533.1).bind fun t543 => ((spec_l01Near.f bt529.1 bt540.2.1 bt540.2.2 (wrap64 (t543 - 1))).bind fun bt544 => ((spec_l01Bad.f bt529.1 bt544.2.1 bt544.2.2 bt533.1).bind fun bt547 => (some (bt547.1, bt540.1, bt544.1))))))))
theorem spec_l01With.mono : ∀ a0 k, LeO (spec_l01With.f k a0) (spec_l01With.f (k + 1) a0) := by
  intro a0 k
  unfold spec_l01With.f
  repeat' first | (with_reducible first | exact spec_l01Draw.mono _ _ _ _ | exact spec_l01From.mono _ _ | exact LeO.refl _ | exact LeO.none _ | refine LeO.ite ?_ ?_ | refine LeO.bind ?_ (fun _ => ?_)) | exact spec_l01Draw.mono _ _ _ _ | exact spec_l01From.mono _ _ | exact LeO.none _ | refine LeO.ite ?_ ?_ | refine LeO.bind ?_ (fun _ => ?_)
def spec_l01With.T3 : Bool × List (List Nat × List Nat) := (true, [([], []), ([], []), ([1], [1]), ([2], [2]), ([0, 3, 2], [0, 3]), ([], []), ([], []), ([6, 4], [6]), ([7], [7]), ([5, 8, 7], [5, 8]), ([4, 9, 0, 1, 2, 3, 4], [4]), ([9, 10, 0, 1, 2, 3, 4, 5, 6, 7, 8, 9, 10], [9])])
def spec_l01With.B3 : List Nat := [0, 0, 2, 6, 15, 0, 0, 95, 223, 511, 1023, 2047]
theorem spec_l01With.tab3 : rtab .any (opsOf Try.f119 3) = spec_l01With.T3 := by kernel_rfl
theorem spec_l01With.bits3 : waitsOk spec_l01With.T3.2 spec_l01With.B3 = true := by kernel_rfl
theorem spec_l01With.calls (k : Nat) (A0 : Option Addr) (c0 : Nat) (l0 : List Int) (r1 : List Int) (r2 : Int) (r3 : Int) (w : World) (hr0 : Kd.C (Kd.int .u8) w A0 l0.length l0) (hc0 : l0.length ≤ c0) (h : spec_l01With.f k l0 = some (r1, r2, r3)) :
  Calls Try.prog 119 #[.slice A0 l0.length c0] w fun e w' => ∃ v0_ : Value, e = .returned (.tuple #[.agg #[v0_], .int .i64 r2, .int .i64 r3]) ∧ Kd.R (Kd.int .i64) 2 w' w.heap.size (fun _ => True) v0_ r1 ∧ Below w.heap.size w w' := by
 have hu26 := Try.underlying26
 have HR0 := A_ hr0
 have HC0 := A_ hc0
 clear hr0 hc0
 have HB := A_ (Below.refl w.heap.size w)
 have H : ((spec_l01From.f k l0).bind fun bt529 => ((spec_l01Draw.f k bt529.1 bt529.2.1 bt529.2.2).bind fun bt533 => ((spec_l01N.f bt533.1).bind fun t539 => ((spec_l01Near.f bt529.1 bt533.2.1 bt533.2.2 (wrap64 (t539 - 1))).bind fun bt540 => ((spec_l01N.f bt533.1).bind fun t543 => ((spec_l01Near.f bt529.1 bt540.2.1 bt540.2.2 (wrap64 (t543 - 1))).bind fun bt544 => ((spec_l01Bad.f bt529.1 bt544.2.1 bt544.2.2 bt533.1).bind fun bt547 => (some (bt547.1, bt540.1, bt544.1))))))))) = some (r1, r2, r3) := h
 clear h
 replace H := Option.bind_eq_some_iff.mp H
 obtain ⟨⟨t529, t530, t531⟩, A20, H⟩ := H
 replace H : ((spec_l01Draw.f k t529 t530 t531).bind fun bt533 => ((spec_l01N.f bt533.1).bind fun t539 => ((spec_l01Near.f t529 bt533.2.1 bt533.2.2 (wrap64 (t539 - 1))).bind fun bt540 => ((spec_l01N.f bt533.1).bind fun t543 => ((spec_l01Near.f t529 bt540.2.1 bt540.2.2 (wrap64 (t543 - 1))).bind fun bt544 => ((spec_l01Bad.f t529 bt544.2.1 bt544.2.2 bt533.1).bind fun bt547 => (some (bt547.1, bt540.1, bt544.1)))))))) = some (r1, r2, r3) := H
 have A2 := A_ A20
 clear A20
 replace H := Option.bind_eq_some_iff.mp H
 obtain ⟨⟨t533, t536, t537⟩, A30, H⟩ := H
 replace H : ((spec_l01N.f t533).bind fun t539 => ((spec_l01Near.f t529 t536 t537 (wrap64 (t539 - 1))).bind fun bt540 => ((spec_l01N.f t533).bind fun t543 => ((spec_l01Near.f t529 bt540.2.1 bt540.2.2 (wrap64 (t543 - 1))).bind fun bt544 => ((spec_l01Bad.f t529 bt544.2.1 bt544.2.2 t533).bind fun bt547 => (some (bt547.1, bt540.1, bt544.1))))))) = some (r1, r2, r3) := H
 have A3 := A_ A30
 clear A30
 replace H := Option.bind_eq_some_iff.mp H
 obtain ⟨t539, A40, H⟩ := H
 replace H : ((spec_l01Near.f t529 t536 t537 (wrap64 (t539 - 1))).bind fun bt540 => ((spec_l01N.f t533).bind fun t543 => ((spec_l01Near.f t529 bt540.2.1 bt540.2.2 (wrap64 (t543 - 1))).bind fun bt544 => ((spec_l01Bad.f t529 bt544.2.1 bt544.2.2 t533).bind fun bt547 => (some (bt547.1, bt540.1, bt544.1)))))) = some (r1, r2, r3) := H
 have A4 := A_ A40
 clear A40
 replace H := Option.bind_eq_some_iff.mp H
 obtain ⟨⟨t540, t541, t542⟩, A50, H⟩ := H
 replace H : ((spec_l01N.f t533).bind fun t543 => ((spec_l01Near.f t529 t541 t542 (wrap64 (t543 - 1))).bind fun bt544 => ((spec_l01Bad.f t529 bt544.2.1 bt544.2.2 t533).bind fun bt547 => (some (bt547.1, t540, bt544.1))))) = some (r1, r2, r3) := H
 have A5 := A_ A50
 clear A50
 replace H := Option.bind_eq_some_iff.mp H
 obtain ⟨t543, A60, H⟩ := H
 replace H : ((spec_l01Near.f t529 t541 t542 (wrap64 (t543 - 1))).bind fun bt544 => ((spec_l01Bad.f t529 bt544.2.1 bt544.2.2 t533).bind fun bt547 => (some (bt547.1, t540, bt544.1)))) = some (r1, r2, r3) := H
 have A6 := A_ A60
 clear A60
 replace H := Option.bind_eq_some_iff.mp H
 obtain ⟨⟨t544, t545, t546⟩, A70, H⟩ := H
 replace H : ((spec_l01Bad.f t529 t545 t546 t533).bind fun bt547 => (some (bt547.1, t540, t544))) = some (r1, r2, r3) := H
 have A7 := A_ A70
 clear A70
 replace H := Option.bind_eq_some_iff.mp H
 obtain ⟨⟨t547, t550, t551⟩, A80, H⟩ := H
 replace H : (some (t547, t540, t544)) = some (r1, r2, r3) := H
 have A8 := A_ A80
 clear A80
 simp only [Option.some.injEq, Prod.mk.injEq] at H
 obtain ⟨rfl, rfl, rfl⟩ := H
 go_enter Try.func119, Try.ntmps119
 try go_wp2_with (first | ((with_reducible refine gate_dst (N := 2) rfl ?_); refine bx 2 #[.slice none 0 0] 26 ?_; intro gb528 hg w9 hbox hb; have BK528 := A_ hbox; have GW528 := A_ (eG hg (below_size (el HB)) : w.heap.size ≤ gb528); have GE528 := A_ (eG hg (below_size (el HB)) : w.heap.size ≤ gb528); replace HB := A_ (below_step (el HB) hb); clear hb hbox hg) | ((with_reducible refine gate_callee (f := 99) rfl ?_); refine goesL_ (some 10) rfl rfl Try.func99 (by kernel_rfl) rfl #[.slice A0 l0.length c0] rfl eg ?_; (with_reducible refine (spec_l01From.calls k _ _ l0 t529 t530 t531 w _ ?side1 ?side2 ?side3 A2.out).mono ?_); (case side1 => exact el HB); (case side2 => exact HR0.out); (case side3 => exact HC0.out); rintro e w10 ⟨g532, rfl, hi, hb, hb2⟩; refine ⟨_, rfl, ?_⟩; replace HB := A_ hb; have HI532 := A_ hi; have NB532_528 := A_ (IsS121.ne_blk hi (blk_below (g := gb528) (o := .cells #[.slice none 0 0] 26 (0, 0)) (eb BK528) hb2) (by decide)); have NB528_532 := A_ (Ne.symm (IsS121.ne_blk hi (blk_below (g := gb528) (o := .cells #[.slice none 0 0] 26 (0, 0)) (eb BK528) hb2) (by decide))); replace BK528 := A_ (blk_below (g := gb528) (o := .cells #[.slice none 0 0] 26 (0, 0)) (eb BK528) hb2); (try clear hb); (try clear hb2); (try clear hk); (try clear hi)) | ((with_reducible refine gate_callee (f := 122) rfl ?_); refine goesL_ (some 12) rfl rfl Try.func122 (by kernel_rfl) rfl #[.pointer (some ⟨g532, 0, none⟩)] rfl eg ?_; (with_reducible refine (spec_l01Draw.calls k g532 t529 t530 t531 t533 t536 t537 w _ ?side1 ?side2 A3.out).mono ?_); (case side1 => exact ei121 HI532); (case side2 => exact em121 HB); rintro e w11 ⟨v534, rfl, ho0, hi, hb, hk⟩; refine ⟨_, rfl, ?_⟩; replace BK528 := A_ (KeepBut.blk hk (g' := gb528) (o := .cells #[.slice none 0 0] 26 (0, 0)) (eb BK528) NB528_532.out (by simp)); have HO535 := A_ (Kd.R_lower ho0 (below_size (em121 HB))); replace HB := A_ hb; replace HI532 := A_ hi; (try clear hb); (try clear hb2); (try clear hk); (try clear hi); (try clear ho0)) | ((with_reducible refine gate_dst (N := 6) rfl ?_); refine bx 6 #[.slice none 0 0] 26 ?_; intro gb538 hg w12 hbox hb; replace HO535 := A_ (Kd.R_below (ea HO535) hb); have BK538 := A_ hbox; have GW538 := A_ (eG hg (below_size (em121 HB)) : w.heap.size ≤ gb538); have GE538 := A_ (eG hg (below_size (em121 HB)) : w.heap.size ≤ gb538); replace HB := A_ (below_step (em121 HB) hb); have NB528_538 := A_ ((by rw [hg]; exact Nat.ne_of_lt (eL BK528) : gb528 ≠ gb538)); have NB538_528 := A_ ((by rw [hg]; exact Nat.ne_of_gt (eL BK528) : gb538 ≠ gb528)); replace BK528 := A_ (eB BK528 hb); have NB532_538 := A_ ((by rw [hg]; exact Nat.ne_of_lt (IsS121.lt (show IsS121 w _ g532 t529 t536 t537 from ei121 HI532)) : g532 ≠ gb538)); have NB538_532 := A_ ((by rw [hg]; exact Nat.ne_of_gt (IsS121.lt (show IsS121 w _ g532 t529 t536 t537 from ei121 HI532)) : gb538 ≠ g532)); replace HI532 := A_ (IsS121.below (ei121 HI532) hb); clear hb hbox hg; obtain ⟨Ao13, co13, eo13⟩ := Kd.R_slice HO535.out; subst eo13; have hnb14 := NB538_528.out; have hnc14 := NB528_538.out; have hnb15 := NB538_532.out; have hnc15 := NB532_538.out; have hcz16_0 : w12.cell? ⟨gb538, 0, none⟩ = some (.slice none 0 0) := (blk_cell BK538.out 0).trans rfl; have hfz16_0 := blk_frozen BK538.out 0))
 have n0_ : Aside0 (Kd.R (Kd.int .i64) 2 (w12.setCell ⟨gb538, 0, none⟩ (.slice Ao13 t533.length co13)) w.heap.size (fun _ => True) (.slice Ao13 t533.length co13) t533) := ⟨by (with_reducible repeat (first | apply Kd.R_alloc | apply Kd.R_drewN | apply Kd.R_drew)); exact Kd.R_mono (Kd.R_far (p := ⟨gb538, 0, none⟩) (Kd.R_types HO535.out BK538.out (by decide)) (fun _ hk => hk.2) (.slice Ao13 t533.length co13)) (fun _ hk => trivial)⟩
 have n1_ : Aside0 ((w12.setCell ⟨gb538, 0, none⟩ (.slice Ao13 t533.length co13)).heap[gb528]? = some (.cells #[.slice none 0 0] 26 (0, 0))) := ⟨eb BK528⟩
 have n2_ : Aside0 ((w12.setCell ⟨gb538, 0, none⟩ (.slice Ao13 t533.length co13)).heap[gb538]? = some (.cells #[.slice Ao13 t533.length co13] 26 (0, 0))) := ⟨by (with_reducible repeat (first | refine blk_drewN ?_ _ | refine blk_drew ?_ | refine blk_alloc ?_ _)); refine blk_put (cs := #[.slice none 0 0]) ?_ 0 _ rfl; (with_reducible repeat (first | refine blk_drewN ?_ _ | refine blk_drew ?_ | refine blk_alloc ?_ _)); exact BK538.out⟩
 have n3_ : Aside0 (IsS121 w (w12.setCell ⟨gb538, 0, none⟩ (.slice Ao13 t533.length co13)) g532 t529 t536 t537) := ⟨ei121 HI532⟩
 have n4_ : Aside0 (Below w.heap.size w (w12.setCell ⟨gb538, 0, none⟩ (.slice Ao13 t533.length co13))) := ⟨em121 HB⟩
 (try clear HO535)
 (try clear BK528)
 (try clear BK538)
 (try clear HI532)
 (try clear HB)
 generalize (w12.setCell ⟨gb538, 0, none⟩ (.slice Ao13 t533.length co13)) = w17 at n0_ n1_ n2_ n3_ n4_ ⊢
 have HO535 := n0_
 have BK528 := n1_
 have BK538 := n2_
 have HI532 := n3_
 have HB := n4_
 clear n0_ n1_ n2_ n3_ n4_
 replace HO535 := A_ (Kd.R_drew HO535.out)
 replace BK528 := A_ (blk_drew BK528.out)
 replace BK538 := A_ (blk_drew BK538.out)
 replace HI532 := A_ (IsS121.drew HI532.out)
 replace HB := A_ (below_drew1 HB.out)
 refine start_ (n := 12) (S := fun w' => w'.cell? ⟨gb538, 0, none⟩ = some (.slice Ao13 t533.length co13)) (ds := []) (bM 12 0) (by kernel_rfl) rfl rfl ((blk_cell BK538.out 0).trans rfl) (fun hHeld => ?_); refine with_tabW spec_l01With.tab3 spec_l01With.bits3 (fun HT_ HW_ => ?_)
 generalize w17.drew = w18 at HO535 BK528 BK538 HI532 HB hHeld ⊢
 refine pA 0 13 (bM 12 1) HT_ ?_
 refine pA 5 18 (bM 12 33) HT_ ?_
 refine take_ (i := 1) (N := some 14) (v := ?_) (a' := ?_) (bM 12 35) rfl rfl (take_ofW HT_.out HW_.out (by kernel_rfl)) (fun _ _ _ h => h) (Or.inl ⟨by rfl, ?_⟩) hHeld ?_ ?_
 rotate_left
 ·intro w' s0
  go_simp
  with_reducible rfl
 rotate_left
 ·simp only [Act.put, List.setIfInBounds_toArray, List.set_cons_zero, List.set_cons_succ, i64_w, i32_w]
  rfl
 refine take_ (i := 6) (N := some 19) (v := ?_) (a' := ?_) (bM 12 99) rfl rfl (take_ofW HT_.out HW_.out (by kernel_rfl)) (fun _ _ _ h => h) (Or.inl ⟨by rfl, ?_⟩) hHeld ?_ ?_
 rotate_left
 ·intro w' s0
  go_simp
  with_reducible rfl
 rotate_left
 ·simp only [Act.put, List.setIfInBounds_toArray, List.set_cons_zero, List.set_cons_succ, i64_w, i32_w]
  rfl
 refine one_ (i := 2) (N := some 15) (bM 12 103) rfl rfl (one_of HT_.out (by kernel_rfl)) (by decide) (fun K hK => ?_)
 refine goes_ Try.func102 (by kernel_rfl) rfl #[.agg #[.slice Ao13 t533.length co13]] (by rfl) rfl rfl eg ?_
 with_reducible refine (spec_l01N.calls _ _ t533 t539 _ ?side1 ?side2 A4.out).mono ?_
 (case side1 => exact cS ((Kd.R_reads' HO535.out).2.2))
 (case side2 => exact (Kd.R_reads' HO535.out).2.1)
 rintro e w19 ⟨rfl, hb⟩
 refine ⟨_, rfl, ?_⟩
 replace HO535 := A_ (Kd.R_below (ea HO535) hb)
 replace BK528 := A_ (eB BK528 hb)
 replace HI532 := A_ (IsS121.below (ei121 HI532) hb)
 replace BK538 := A_ (eB BK538 hb)
 replace HB := A_ (below_step (em121 HB) hb)
 (try clear hb)
 (try clear hb2)
 (try clear hk)
 (try clear hi)
 refine hK.out _ _ ((blk_cell BK538.out 0).trans rfl) (fun hHeld => ?_)
 clear hK K
 refine norm_ (a' := ?_) ?_ ?_
 rotate_left
 ·show Act.put _ (some 15) _ = _
  simp only [Act.put, List.setIfInBounds_toArray, List.set_cons_zero, List.set_cons_succ, i64_w, i32_w]
  rfl
 refine pA 3 16 (bM 12 111) HT_ ?_
 refine one_ (i := 4) (N := some 17) (bM 12 127) rfl rfl (one_of HT_.out (by kernel_rfl)) (by decide) (fun K hK => ?_)
 refine goes_ Try.func127 (by kernel_rfl) rfl #[.pointer (some ⟨g532, 0, none⟩), .int .i64 (wrap64 (t539 - 1))] (by rfl) rfl rfl eg ?_
 with_reducible refine (spec_l01Near.calls g532 t529 t536 t537 (wrap64 (t539 - 1)) t540 t541 t542 w _ ?side1 ?side2 A5.out).mono ?_
 (case side1 => exact ei121 HI532)
 (case side2 => exact em121 HB)
 rintro e w20 ⟨rfl, hi, hb, hk⟩
 refine ⟨_, rfl, ?_⟩
 replace BK528 := A_ (KeepBut.blk hk (g' := gb528) (o := .cells #[.slice none 0 0] 26 (0, 0)) (eb BK528) NB528_532.out (by simp))
 replace HO535 := A_ (Kd.R_mono (Kd.R_keep (IsS121.apart (show IsS121 w _ g532 t529 t536 t537 from ei121 HI532) (ea HO535) (by decide)) hk (fun _ h => h.2)) (fun _ h => h.1))
 replace BK538 := A_ (KeepBut.blk hk (g' := gb538) (o := .cells #[.slice Ao13 t533.length co13] 26 (0, 0)) (eb BK538) NB538_532.out (by simp))
 replace HB := A_ hb
 replace HI532 := A_ hi
 (try clear hb)
 (try clear hb2)
 (try clear hk)
 (try clear hi)
 refine hK.out _ _ ((blk_cell BK538.out 0).trans rfl) (fun hHeld => ?_)
 clear hK K
 refine norm_ (a' := ?_) ?_ ?_
 rotate_left
 ·show Act.put _ (some 17) _ = _
  simp only [Act.put, List.setIfInBounds_toArray, List.set_cons_zero, List.set_cons_succ, i64_w, i32_w]
  rfl
 refine one_ (i := 7) (N := some 20) (bM 12 255) rfl rfl (one_of HT_.out (by kernel_rfl)) (by decide) (fun K hK => ?_)
 refine goes_ Try.func102 (by kernel_rfl) rfl #[.agg #[.slice Ao13 t533.length co13]] (by rfl) rfl rfl eg ?_
 with_reducible refine (spec_l01N.calls _ _ t533 t543 _ ?side1 ?side2 A6.out).mono ?_
 (case side1 => exact cS ((Kd.R_reads' HO535.out).2.2))
 (case side2 => exact (Kd.R_reads' HO535.out).2.1)
 rintro e w21 ⟨rfl, hb⟩
 refine ⟨_, rfl, ?_⟩
 replace HO535 := A_ (Kd.R_below (ea HO535) hb)
 replace BK528 := A_ (eB BK528 hb)
 replace HI532 := A_ (IsS121.below (ei121 HI532) hb)
 replace BK538 := A_ (eB BK538 hb)
 replace HB := A_ (below_step (em121 HB) hb)
 (try clear hb)
 (try clear hb2)
 (try clear hk)
 (try clear hi)
 refine hK.out _ _ ((blk_cell BK538.out 0).trans rfl) (fun hHeld => ?_)
 clear hK K
 refine norm_ (a' := ?_) ?_ ?_
 rotate_left
 ·show Act.put _ (some 20) _ = _
  simp only [Act.put, List.setIfInBounds_toArray, List.set_cons_zero, List.set_cons_succ, i64_w, i32_w]
  rfl
 refine pA 8 21 (bM 12 511) HT_ ?_
 refine one_ (i := 9) (N := some 22) (bM 12 1023) rfl rfl (one_of HT_.out (by kernel_rfl)) (by decide) (fun K hK => ?_)
 refine goes_ Try.func127 (by kernel_rfl) rfl #[.pointer (some ⟨g532, 0, none⟩), .int .i64 (wrap64 (t543 - 1))] (by rfl) rfl rfl eg ?_
 with_reducible refine (spec_l01Near.calls g532 t529 t541 t542 (wrap64 (t543 - 1)) t544 t545 t546 w _ ?side1 ?side2 A7.out).mono ?_
 (case side1 => exact ei121 HI532)
 (case side2 => exact em121 HB)
 rintro e w22 ⟨rfl, hi, hb, hk⟩
 refine ⟨_, rfl, ?_⟩
 replace BK528 := A_ (KeepBut.blk hk (g' := gb528) (o := .cells #[.slice none 0 0] 26 (0, 0)) (eb BK528) NB528_532.out (by simp))
 replace HO535 := A_ (Kd.R_mono (Kd.R_keep (IsS121.apart (show IsS121 w _ g532 t529 t541 t542 from ei121 HI532) (ea HO535) (by decide)) hk (fun _ h => h.2)) (fun _ h => h.1))
 replace BK538 := A_ (KeepBut.blk hk (g' := gb538) (o := .cells #[.slice Ao13 t533.length co13] 26 (0, 0)) (eb BK538) NB538_532.out (by simp))
 replace HB := A_ hb
 replace HI532 := A_ hi
 (try clear hb)
 (try clear hb2)
 (try clear hk)
 (try clear hi)
 refine hK.out _ _ ((blk_cell BK538.out 0).trans rfl) (fun hHeld => ?_)
 clear hK K
 refine norm_ (a' := ?_) ?_ ?_
 rotate_left
 ·show Act.put _ (some 22) _ = _
  simp only [Act.put, List.setIfInBounds_toArray, List.set_cons_zero, List.set_cons_succ, i64_w, i32_w]
  rfl
 refine pA 10 7 (bM 12 2047) HT_ ?_
 refine pA 11 8 (bM 12 4095) HT_ ?_
 refine done_ (done_of HT_.out (by kernel_rfl)) ?_
 have hcz23_0 : w22.cell? ⟨gb538, 0, none⟩ = some (.slice Ao13 t533.length co13) := (blk_cell BK538.out 0).trans rfl
 have hfz23_0 := blk_frozen BK538.out 0
 try go_wp2_with (first | ((with_reducible refine gate_callee (f := 128) rfl ?_); refine goesL_ (some 25) rfl rfl Try.func128 (by kernel_rfl) rfl #[.pointer (some ⟨g532, 0, none⟩), .agg #[.slice Ao13 t533.length co13]] rfl eg ?_; (with_reducible refine (spec_l01Bad.calls g532 t529 t545 t546 (fun k_ => some k_ = (.slice Ao13 t533.length co13 : Value).ownBlock) (.slice Ao13 t533.length co13) t533 t547 t550 t551 w _ ?side1 ?side2 ?side3 A8.out).mono ?_); (case side1 => exact ei121 HI532); (case side2 => exact em121 HB); (case side3 => exact Kd.R_tight rfl HO535.out); rintro e w24 ⟨v548, rfl, ho0, hi, hb, hkp⟩; refine ⟨_, rfl, ?_⟩; replace BK528 := A_ (blk_kept (eb BK528) hkp (fun hs_ => Or.elim hs_ (fun hs_ => (fun e_ => (Kd.R_ne HO535.out BK528.out (by decide)) e_) hs_) (fun e_ => NB528_532.out e_))); replace HI532 := A_ hi; replace BK538 := A_ (blk_kept (eb BK538) hkp (fun hs_ => Or.elim hs_ (fun hs_ => (fun e_ => (Kd.R_ne HO535.out BK538.out (by decide)) e_) hs_) (fun e_ => NB538_532.out e_))); have HO549 := A_ (Kd.R_mono (ok' := fun k_ => True) ho0 (fun k_ hk_ => trivial)); replace HB := A_ hb; clear HO535; (try clear hb); (try clear hkp); (try clear ho0); obtain ⟨Ao25, co25, eo25⟩ := Kd.R_slice HO549.out; subst eo25; have hnb26 := NB528_532.out; have hnc26 := NB532_528.out; have hcz27_0 : w24.cell? ⟨gb528, 0, none⟩ = some (.slice none 0 0) := (blk_cell BK528.out 0).trans rfl; have hfz27_0 := blk_frozen BK528.out 0))
 refine bodyPost_ret (results_ctt rfl _ _ gb528 26 #[.slice Ao25 t547.length co25] (0, 0) _ rfl (by (with_reducible repeat (first | refine blk_drewN ?_ _ | refine blk_drew ?_ | refine blk_alloc ?_ _)); refine blk_put (cs := #[.slice none 0 0]) ?_ 0 _ rfl; (with_reducible repeat (first | refine blk_drewN ?_ _ | refine blk_drew ?_ | refine blk_alloc ?_ _)); exact BK528.out) Try.underlying26 rfl (by kernel_rfl)) rfl ?_
 exact ⟨_, er, by (with_reducible repeat (first | apply Kd.R_alloc | apply Kd.R_drewN | apply Kd.R_drew)); exact Kd.R_mono (Kd.R_far (p := ⟨gb528, 0, none⟩) (Kd.R_types HO549.out BK528.out (by decide)) (fun _ hk => hk.2) (.slice Ao25 t547.length co25)) (fun _ hk => trivial), em121 HB⟩

/-! ### spec_DrawChildrenOf: function 32 -/
def spec_DrawChildrenOf.f (k : Nat) (l0 : List Int) : Option (List Int × Int) := (spec_l01With.f k l0).bind fun bt553 => (some (bt553.1, bt553.2.1))
theorem spec_DrawChildrenOf.mono : ∀ a0 k, LeO (spec_DrawChildrenOf.f k a0) (spec_DrawChildrenOf.f (k + 1) a0) := by
  intro a0 k
  unfold spec_DrawChildrenOf.f
  repeat' first | (with_reducible first | exact spec_l01With.mono _ _ | exact LeO.refl _ | exact LeO.none _ | refine LeO.ite ?_ ?_ | refine LeO.bind ?_ (fun _ => ?_)) | exact spec_l01With.mono _ _ | exact LeO.none _ | refine LeO.ite ?_ ?_ | refine LeO.bind ?_ (fun _ => ?_)
theorem spec_DrawChildrenOf.calls (k : Nat) (A0 : Option Addr) (c0 : Nat) (l0 : List Int) (r1 : List Int) (r2 : Int) (w : World) (hr0 : Kd.C (Kd.int .u8) w A0 l0.length l0) (hc0 : l0.length ≤ c0) (h : spec_DrawChildrenOf.f k l0 = some (r1, r2)) :
  Calls Try.prog 32 #[.slice A0 l0.length c0] w fun e w' => ∃ v0_ : Value, e = .returned (.tuple #[.agg #[v0_], .int .i64 r2]) ∧ Kd.R (Kd.int .i64) 2 w' w.heap.size (fun _ => True) v0_ r1 ∧ Below w.heap.size w w' := by
 have hu26 := Try.underlying26
 have HR0 := A_ hr0
 have HC0 := A_ hc0
 clear hr0 hc0
 have HB := A_ (Below.refl w.heap.size w)
 have H : ((spec_l01With.f k l0).bind fun bt553 => (some (bt553.1, bt553.2.1))) = some (r1, r2) := h
 clear h
 replace H := Option.bind_eq_some_iff.mp H
 obtain ⟨⟨t553, t556, t557⟩, A20, H⟩ := H
 replace H : (some (t553, t556)) = some (r1, r2) := H
 have A2 := A_ A20
 clear A20
 simp only [Option.some.injEq, Prod.mk.injEq] at H
 obtain ⟨rfl, rfl⟩ := H
 go_enter Try.func32, Try.ntmps32
 go_wp2_with (first | ((with_reducible refine gate_dst (N := 2) rfl ?_); refine bx 2 #[.slice none 0 0] 26 ?_; intro gb552 hg w3 hbox hb; have BK552 := A_ hbox; have GW552 := A_ (eG hg (below_size (el HB)) : w.heap.size ≤ gb552); have GE552 := A_ (eG hg (below_size (el HB)) : w.heap.size ≤ gb552); replace HB := A_ (below_step (el HB) hb); clear hb hbox hg) | ((with_reducible refine gate_callee (f := 119) rfl ?_); refine goesL_ (some 9) rfl rfl Try.func119 (by kernel_rfl) rfl #[.slice A0 l0.length c0] rfl eg ?_; (with_reducible refine (spec_l01With.calls k _ _ l0 t553 t556 t557 _ ?side1 ?side2 A2.out).mono ?_); (case side1 => exact cS (Kd.C_below HR0.out HB.out)); (case side2 => exact HC0.out); rintro e w4 ⟨v554, rfl, ho0, hb⟩; refine ⟨_, rfl, ?_⟩; have HO555 := A_ (Kd.R_lower ho0 (below_size (el HB))); replace BK552 := A_ (eB BK552 hb); replace HB := A_ (below_step (el HB) hb); (try clear hb); (try clear hb2); (try clear hk); (try clear hi); (try clear ho0)) | ((with_reducible refine gate_dst (N := 4) rfl ?_); refine bx 4 #[.slice none 0 0] 26 ?_; intro gb558 hg w5 hbox hb; replace HO555 := A_ (Kd.R_below (ea HO555) hb); have BK558 := A_ hbox; have GW558 := A_ (eG hg (below_size (el HB)) : w.heap.size ≤ gb558); have GE558 := A_ (eG hg (below_size (el HB)) : w.heap.size ≤ gb558); replace HB := A_ (below_step (el HB) hb); have NB552_558 := A_ ((by rw [hg]; exact Nat.ne_of_lt (eL BK552) : gb552 ≠ gb558)); have NB558_552 := A_ ((by rw [hg]; exact Nat.ne_of_gt (eL BK552) : gb558 ≠ gb552)); replace BK552 := A_ (eB BK552 hb); clear hb hbox hg; obtain ⟨Ao6, co6, eo6⟩ := Kd.R_slice HO555.out; subst eo6; have hnb7 := NB558_552.out; have hnc7 := NB552_558.out; have hcz8_0 : w5.cell? ⟨gb558, 0, none⟩ = some (.slice none 0 0) := (blk_cell BK558.out 0).trans rfl; have hfz8_0 := blk_frozen BK558.out 0; have hcz9_0 : w5.cell? ⟨gb552, 0, none⟩ = some (.slice none 0 0) := (blk_cell BK552.out 0).trans rfl; have hfz9_0 := blk_frozen BK552.out 0))
 refine bodyPost_ret (results_ct rfl _ _ gb552 26 #[.slice Ao6 t553.length co6] (0, 0) _ rfl (by (with_reducible repeat (first | refine blk_drewN ?_ _ | refine blk_drew ?_ | refine blk_alloc ?_ _)); refine blk_put (cs := #[.slice none 0 0]) ?_ 0 _ rfl; (with_reducible repeat (first | refine blk_drewN ?_ _ | refine blk_drew ?_ | refine blk_alloc ?_ _)); refine blk_far ?_ NB552_558.out _; (with_reducible repeat (first | refine blk_drewN ?_ _ | refine blk_drew ?_ | refine blk_alloc ?_ _)); exact BK552.out) Try.underlying26 rfl (by kernel_rfl)) rfl ?_
 exact ⟨_, er, by (with_reducible repeat (first | apply Kd.R_alloc | apply Kd.R_drewN | apply Kd.R_drew)); exact Kd.R_mono (Kd.R_far (p := ⟨gb552, 0, none⟩) (Kd.R_far (p := ⟨gb558, 0, none⟩) (Kd.R_types (Kd.R_types HO555.out BK558.out (by decide)) BK552.out (by decide)) (fun _ hk => hk.1.2) (.slice Ao6 t553.length co6)) (fun _ hk => hk.2) (.slice Ao6 t553.length co6)) (fun _ hk => trivial), el HB⟩

end Go.Proofs.Ytocachknmgefaaa.QFnTrees
