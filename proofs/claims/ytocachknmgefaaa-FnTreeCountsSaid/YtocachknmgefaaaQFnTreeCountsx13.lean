/- Functions of the program as plain Lean functions, each with a proof that the machine's call answers what it answers. Conditions: none. -/
import Derived.Test.YtocachknmgefaaaQFnTreeCountsx0
import Derived.Test.YtocachknmgefaaaQFnTreeCountsx1
import Derived.Test.YtocachknmgefaaaQFnTreeCountsx2
import Derived.Test.YtocachknmgefaaaQFnTreeCountsx9
import Derived.Test.YtocachknmgefaaaQFnTreeCountsx12
namespace Go.Proofs.Ytocachknmgefaaa.QFnTreeCounts
open Go.RowKit Go.Proofs.YtocachknmgefaaaW.PrintWords Go.Proofs.YtocachknmgefaaaW.PrintLast Go.Proofs.YtocachknmgefaaaW.PrintMore
attribute [local go_sem] max2_int min2_int max_two min_two max_three min_three max_four min_four   -- for this text's walks alone
set_option linter.unusedVariables false
set_option linter.unusedSimpArgs false

/-! ### spec_CountsOfTree: function 79 -/
mutual
def spec_CountsOfTree.l0 : Nat → List Int → Int → List Int → Option (List Int × Int)
  | 0, _, _, _ => none
  | k + 1, x4, x5, x453000 => if x5 < (x453000.length : Int) then (spec_CountsOfTree.l1 k x4 x5 x453000) else (some (x4, 0))
def spec_CountsOfTree.l1 : Nat → List Int → Int → List Int → Option (List Int × Int)
  | 0, _, _, _ => none
  | k + 1, x4, x5, x453000 => if 0 ≤ x5 then (if x5 < (x453000.length : Int) then (if (x4.length : Int) ≤ (rd x453000 x5) then (if x4.length < 17592186044416 then (spec_CountsOfTree.l1 k (x4 ++ [0]) x5 x453000) else (none)) else (if 0 ≤ (rd x453000 x5) then (if (rd x453000 x5) < (x4.length : Int) then (spec_CountsOfTree.l0 k (x4.set ((rd x453000 x5) : Int).toNat (wrap64 ((rd x4 (rd x453000 x5)) + 1))) (wrap64 (x5 + 1)) x453000) else (none)) else (none))) else (none)) else (none)
end
def spec_CountsOfTree.f (k : Nat) (l0_0 : List Int) : Option (List Int × Int) := (spec_l01Is.f k l0_0).bind fun t453 => (if t453 = true then (spec_CountsOfTree.l0 k (([] : List Int)) 0 l0_0) else (some (([] : List Int), 1)))
theorem spec_CountsOfTree.mono_l : ∀ k, (∀ y0 y1 y2, LeO (spec_CountsOfTree.l0 k y0 y1 y2) (spec_CountsOfTree.l0 (k + 1) y0 y1 y2)) ∧ (∀ y0 y1 y2, LeO (spec_CountsOfTree.l1 k y0 y1 y2) (spec_CountsOfTree.l1 (k + 1) y0 y1 y2))
  | 0 => ⟨fun _ _ _ r h => by simp [spec_CountsOfTree.l0] at h, fun _ _ _ r h => by simp [spec_CountsOfTree.l1] at h⟩
  | k + 1 => by
    obtain ⟨ih0, ih1⟩ := spec_CountsOfTree.mono_l k
    refine ⟨?_, ?_⟩
    · intro y0 y1 y2
      unfold spec_CountsOfTree.l0
      repeat' first
      | (with_reducible exact ih0 _ _ _)
      | (with_reducible exact ih1 _ _ _)
      | (with_reducible exact spec_l01Is.mono _ _)
      | (with_reducible exact LeO.refl _)
      | (with_reducible exact LeO.none _)
      | (with_reducible refine LeO.ite ?_ ?_)
      | (with_reducible refine LeO.bind ?_ (fun _ => ?_))
      | exact ih0 _ _ _
      | exact ih1 _ _ _
      | exact spec_l01Is.mono _ _
      | exact LeO.none _
      | refine LeO.ite ?_ ?_
      | refine LeO.bind ?_ (fun _ => ?_)
    · intro y0 y1 y2
      unfold spec_CountsOfTree.l1
      repeat' first
      | (with_reducible exact ih0 _ _ _)
      | (with_reducible exact ih1 _ _ _)
      | (with_reducible exact spec_l01Is.mono _ _)
      | (with_reducible exact LeO.refl _)
      | (with_reducible exact LeO.none _)
      | (with_reducible refine LeO.ite ?_ ?_)
      | (with_reducible refine LeO.bind ?_ (fun _ => ?_))
      | exact ih0 _ _ _
      | exact ih1 _ _ _
      | exact spec_l01Is.mono _ _
      | exact LeO.none _
      | refine LeO.ite ?_ ?_
      | refine LeO.bind ?_ (fun _ => ?_)
theorem spec_CountsOfTree.mono : ∀ a0 k, LeO (spec_CountsOfTree.f k a0) (spec_CountsOfTree.f (k + 1) a0) := by
  intro a0 k
  obtain ⟨ih0, ih1⟩ := spec_CountsOfTree.mono_l k
  unfold spec_CountsOfTree.f
  repeat' first
      | (with_reducible exact ih0 _ _ _)
      | (with_reducible exact ih1 _ _ _)
      | (with_reducible exact spec_l01Is.mono _ _)
      | (with_reducible exact LeO.refl _)
      | (with_reducible exact LeO.none _)
      | (with_reducible refine LeO.ite ?_ ?_)
      | (with_reducible refine LeO.bind ?_ (fun _ => ?_))
      | exact ih0 _ _ _
      | exact ih1 _ _ _
      | exact spec_l01Is.mono _ _
      | exact LeO.none _
      | refine LeO.ite ?_ ?_
      | refine LeO.bind ?_ (fun _ => ?_)
theorem spec_CountsOfTree.Z0 {p : Prop} (h : p := by first | (with_reducible assumption) | assumption) : p := h
theorem spec_CountsOfTree.Z1 {p : Prop} (h : p := by first | rfl | (simp; done) | (simp [*]; done)) : p := h
set_option maxHeartbeats 8000000 in
set_option maxRecDepth 100000 in
theorem spec_CountsOfTree.calls (k : Nat) (A0_0 : Option Addr) (c0_0 : Nat) (l0_0 : List Int) (r1 : List Int) (r2 : Int) (w : World) (hr0_0 : Kd.C (Kd.int .i64) w A0_0 l0_0.length l0_0) (hc0_0 : l0_0.length ≤ c0_0) (h : spec_CountsOfTree.f k l0_0 = some (r1, r2)) :
  Calls Try.prog 79 #[.agg #[.slice A0_0 l0_0.length c0_0]] w fun e w' => ∃ v0_ : Value, e = .returned (.tuple #[v0_, .int .i64 r2]) ∧ Kd.R (Kd.int .i64) 2 w' w.heap.size (fun _ => True) v0_ r1 ∧ Below w.heap.size w w' := by
 have hu26 := Try.underlying26
 have HR0_0 := A_ hr0_0
 have HC0_0 := A_ hc0_0
 clear hr0_0 hc0_0
 have HB := A_ (Below.refl w.heap.size w)
 have H : ((spec_l01Is.f k l0_0).bind fun t453 => (if t453 = true then (spec_CountsOfTree.l0 k (([] : List Int)) 0 l0_0) else (some (([] : List Int), 1)))) = some (r1, r2) := h
 clear h
 replace H := Option.bind_eq_some_iff.mp H
 obtain ⟨t453, A20, H⟩ := H
 replace H : (if t453 = true then (spec_CountsOfTree.l0 k (([] : List Int)) 0 l0_0) else (some (([] : List Int), 1))) = some (r1, r2) := H
 have A2 := A_ A20
 clear A20
 by_cases c3 : t453 = true
 ·subst c3
  have H1 : (spec_CountsOfTree.l0 k (([] : List Int)) 0 l0_0) = some (r1, r2) := by rw [if_pos rfl] at H; exact H
  clear H
  have H := H1
  clear H1
  obtain ⟨y454, hy454⟩ : ∃ y_ : List Int, y_ = (([] : List Int)) := ⟨_, rfl⟩
  replace H : (spec_CountsOfTree.l0 k y454 0 l0_0) = some (r1, r2) := by first | (rw [hy454]; with_reducible exact H) | (have H2_ := (Option.bind_some _ _).symm.trans H; rw [hy454]; with_reducible exact H2_) | (have H2_ := (Option.bind_some _ _).symm.trans H; with_reducible exact H2_) | with_reducible exact H | (rw [hy454]; exact H) | exact H
  have Ny454 := A_ hy454
  clear hy454
  have H' := A_ H
  clear H
  go_enter Try.func79, Try.ntmps79
  go_wp2_with (first | ((with_reducible refine gate_dst (N := 1) rfl ?_); refine box_event ?hg (N := 1) ?hd (cs := #[.slice A0_0 l0_0.length c0_0]) (t := 26) ?hr ?_; (case hd => rfl); (case hg => rfl); (case hr => first | (go_simp; done) | (go_simp; rfl)); intro gb452 hg w4 hbox hb; have n0_ := A_ (below_step (el HB) hb); have n1_ := A_ (hbox); have n2_ := A_ ((by rw [hg]; exact (below_size (el HB)) : w.heap.size ≤ gb452)); have n3_ := A_ ((by rw [hg]; exact (below_size (el HB)) : w.heap.size ≤ gb452)); clear HB; have HB := n0_; have BK452 := n1_; have GW452 := n2_; have GE452 := n3_; clear n0_ n1_ n2_ n3_; clear hb hbox hg; have hcz5_0 : w4.cell? ⟨gb452, 0, none⟩ = some (.slice A0_0 l0_0.length c0_0) := (blk_cell BK452.out 0).trans rfl; have hfz5_0 := blk_frozen BK452.out 0) | ((with_reducible refine gate_callee (f := 101) rfl ?_); refine goesL_ (some 7) rfl rfl Try.func101 (by kernel_rfl) rfl #[.agg #[.slice A0_0 l0_0.length c0_0]] rfl eg ?_; (with_reducible refine (spec_l01Is.calls k _ _ l0_0 true _ ?side1 ?side2 A2.out).mono ?_); (case side1 => repeat (first | exact (Kd.C_below HR0_0.out HB.out) | (with_reducible refine Kd.C_alloc ?_ _) | (with_reducible refine Kd.C_drewN ?_ _) | (with_reducible refine Kd.C_drew ?_))); (case side2 => exact HC0_0.out); rintro e w6 ⟨rfl, hb⟩; refine ⟨_, rfl, ?_⟩; have n0_ := A_ (eB BK452 hb); have n1_ := A_ (below_step (el HB) hb); clear BK452; clear HB; have BK452 := n0_; have HB := n1_; clear n0_ n1_; (try clear hb); (try clear hb2); (try clear hk); (try clear hi)) | ((with_reducible refine gate_dst (N := 9) rfl ?_); refine Kd.R_lit (Kd.int .i64) _ 2 ?hg (N := 9) ?hd (xs := ([] : List Int)) (inner := []) (ok := fun _ => True) (okp := fun _ => True) ?hr ?hp (fun _ hk => hk) trivial (Below.refl _ _) (Nat.le_refl _) (by simp) ?_; (case hd => rfl); (case hg => rfl); (case hr => first | (go_simp; done) | (go_simp; rfl)); (case hp => exact (Reps.none _ _)); intro v455 w7 ho8 hb hg_ hnew_; clear hg_ hnew_; (first | rw [← Ny454.out] at ho8 | (simp only [Int.reduceToNat] at ho8; rw [← Ny454.out] at ho8)); have n0_ := A_ (Kd.R_lower ho8 (below_size (el HB))); have n1_ := A_ (eB BK452 hb); have n2_ := A_ (below_step (el HB) hb); clear BK452; clear HB; have HO456 := n0_; have BK452 := n1_; have HB := n2_; clear n0_ n1_ n2_; clear hb ho8))
  go_loopg [4, 5] k (fun kq v4 v5 w' => ∃ (x4_1 : List Int) (x5_1 : Int), v5 = .int .i64 x5_1 ∧ Aside0 (spec_CountsOfTree.l0 kq x4_1 x5_1 l0_0 = some (r1, r2)) ∧ Aside0 (kq ≤ k) ∧ Aside0 (Kd.R (Kd.int .i64) 2 w' w.heap.size (fun _ => True) v4 x4_1) ∧ Aside0 (w'.heap[gb452]? = some (.cells #[(.slice A0_0 l0_0.length c0_0)] 26 (0, 0))) ∧ Aside0 (Below w.heap.size w w'))
  case atStart => exact ⟨(y454), (0), spec_CountsOfTree.Z1, H', ⟨Nat.le_refl _⟩, ⟨ea HO456⟩, ⟨eb BK452⟩, ⟨el HB⟩⟩
  case round =>
   clear H'
   try clear c1
   try clear p2
   try clear c3
   try clear c7
   try clear hcz5_0
   try clear hfz5_0
   obtain ⟨x4_1, x5_1, rfl, HA, HK1, HO_4, BK452, HB⟩ := hrel
   cases gk with
   | zero => exact absurd HA.out (by simp [spec_CountsOfTree.l0])
   | succ k1 =>
    have H := HA.out
    clear HA
    simp only [spec_CountsOfTree.l0] at H
    by_cases c9 : x5_1 < (l0_0.length : Int)
    ·rw [if_pos c9] at H
     have c9b0 : decide (x5_1 < (l0_0.length : Int)) = true := decide_eq_true c9
     clear c9
     have H' := A_ H
     clear H
     have hcz10_0 : wr.cell? ⟨gb452, 0, none⟩ = some (.slice A0_0 l0_0.length c0_0) := (blk_cell BK452.out 0).trans rfl
     have hfz10_0 := blk_frozen BK452.out 0
     go_wp2
     go_loopg [4] k1 (fun kq v4 w' => ∃ (x4_2 : List Int), Aside0 (spec_CountsOfTree.l1 kq x4_2 x5_1 l0_0 = some (r1, r2)) ∧ Aside0 (kq ≤ k1) ∧ Aside0 (Kd.R (Kd.int .i64) 2 w' w.heap.size (fun _ => True) v4 x4_2) ∧ Aside0 (w'.heap[gb452]? = some (.cells #[(.slice A0_0 l0_0.length c0_0)] 26 (0, 0))) ∧ Aside0 (Below w.heap.size w w'))
     case atStart => exact ⟨(x4_1), H', ⟨Nat.le_refl _⟩, ⟨ea HO_4⟩, ⟨eb BK452⟩, ⟨el HB⟩⟩
     case round =>
      clear H'
      try clear c1
      try clear p2
      try clear c3
      try clear c7
      try clear c9
      try clear c9b0
      try clear c10
      try clear hcz10_0
      try clear hcz5_0
      try clear hfz10_0
      try clear hfz5_0
      try clear p2
      obtain ⟨x4_2, HA, HK2, HO_4, BK452, HB⟩ := hrel
      cases gk with
      | zero => exact absurd HA.out (by simp [spec_CountsOfTree.l1])
      | succ k2 =>
       have H := HA.out
       clear HA
       simp only [spec_CountsOfTree.l1] at H
       by_cases c11 : 0 ≤ x5_1
       rotate_left
       ·rw [if_neg c11] at H
        exact absurd H (by simp)
       rw [if_pos c11] at H
       have c11b0 : decide (0 ≤ x5_1) = true := decide_eq_true c11
       clear c11
       by_cases c12 : x5_1 < (l0_0.length : Int)
       rotate_left
       ·rw [if_neg c12] at H
        exact absurd H (by simp)
       rw [if_pos c12] at H
       have c12b0 : decide (x5_1 < (l0_0.length : Int)) = true := decide_eq_true c12
       clear c12
       by_cases c13 : (x4_2.length : Int) ≤ (rd l0_0 x5_1)
       ·rw [if_pos c13] at H
        have c13b0 : decide ((x4_2.length : Int) ≤ (rd l0_0 x5_1)) = true := decide_eq_true c13
        clear c13
        by_cases c14 : x4_2.length < 17592186044416
        rotate_left
        ·rw [if_neg c14] at H
         exact absurd H (by simp)
        rw [if_pos c14] at H
        have LMc14 := A_ c14
        clear c14
        obtain ⟨y458, hy458⟩ : ∃ y_ : List Int, y_ = (x4_2 ++ [0]) := ⟨_, rfl⟩
        replace H : (spec_CountsOfTree.l1 k2 y458 x5_1 l0_0) = some (r1, r2) := by first | (rw [hy458]; with_reducible exact H) | (have H2_ := (Option.bind_some _ _).symm.trans H; rw [hy458]; with_reducible exact H2_) | (have H2_ := (Option.bind_some _ _).symm.trans H; with_reducible exact H2_) | with_reducible exact H | (rw [hy458]; exact H) | exact H
        have Ny458 := A_ hy458
        clear hy458
        have H' := A_ H
        clear H
        obtain ⟨Ao15, co15, eo15⟩ := Kd.R_slice HO_4.out
        subst eo15
        have hcz16_0 : wr.cell? ⟨gb452, 0, none⟩ = some (.slice A0_0 l0_0.length c0_0) := (blk_cell BK452.out 0).trans rfl
        have hfz16_0 := blk_frozen BK452.out 0
        have p457 : 0 ≤ (x5_1 : Int) := of_decide_eq_true spec_CountsOfTree.Z0
        have q457 : x5_1 < (l0_0.length : Int) := of_decide_eq_true spec_CountsOfTree.Z0
        obtain ⟨ad457, e457, hx457_0⟩ := Kd.at_int HR0_0.out x5_1 p457 q457
        cases e457
        replace hx457_0 := (HB.out.cell (World.block_lt_of_cell? w _ hx457_0)).trans hx457_0
        replace p457 := eq_true p457
        replace q457 := eq_true q457
        go_wp2_with (first | ((with_reducible refine gate_builtin (b := .append) (xs := #[.tmp 25, .tmp 26]) rfl ?_); at_builtin; refine Kd.R_append (Kd.int .i64) (w0 := w) w.heap.size rfl (.tmp 25) (.tmp 26) 24 2 (.int .i64 0) 8 rfl Try.underlying24 info2 rfl (by decide) (by omega) (.slice Ao15 x4_2.length co15) x4_2 0 [.int .i64 0] (fun _ => True) (fun _ => False) rfl rfl ?aP (fun _ hk => hk.elim) ?aF ?aO ?aB ?aS ?aL ?_; (case aP => exact rfl); (case aB => exact (el HB)); (case aF => exact (fun _ _ => trivial)); (case aO => exact (ea HO_4)); (case aS => exact (below_size (el HB))); (case aL => have := LMc14.out; omega); intro v459 w17 ho hb hg hat; rw [← Ny458.out] at ho; have n0_ := A_ (blk_grown (g := gb452) (o := .cells #[.slice (some ad457) l0_0.length c0_0] 26 (0, 0)) (eb BK452) hg (Kd.R_ne HO_4.out BK452.out (by decide))); have n1_ := A_ (hb); have n2_ := A_ (ho); clear BK452; clear HB; clear HO_4; have BK452 := n0_; have HB := n1_; have HO460 := n2_; clear n0_ n1_ n2_; clear ho hb hg hat))
        go_roundg k2
        case measure => have := HK1.out; have := HK2.out; omega
        case rel => exact ⟨(y458), H', ⟨by have := HK1.out; have := HK2.out; omega⟩, ⟨es HO460⟩, ⟨eb BK452⟩, ⟨el HB⟩⟩
       ·rw [if_neg c13] at H
        have c13b0 : decide ((x4_2.length : Int) ≤ (rd l0_0 x5_1)) = false := decide_eq_false c13
        clear c13
        by_cases c18 : 0 ≤ (rd l0_0 x5_1)
        rotate_left
        ·rw [if_neg c18] at H
         exact absurd H (by simp)
        rw [if_pos c18] at H
        have c18b0 : decide (0 ≤ (rd l0_0 x5_1)) = true := decide_eq_true c18
        clear c18
        by_cases c19 : (rd l0_0 x5_1) < (x4_2.length : Int)
        rotate_left
        ·rw [if_neg c19] at H
         exact absurd H (by simp)
        rw [if_pos c19] at H
        have c19b0 : decide ((rd l0_0 x5_1) < (x4_2.length : Int)) = true := decide_eq_true c19
        clear c19
        obtain ⟨y463, hy463⟩ : ∃ y_ : List Int, y_ = (x4_2.set ((rd l0_0 x5_1) : Int).toNat (wrap64 ((rd x4_2 (rd l0_0 x5_1)) + 1))) := ⟨_, rfl⟩
        replace H : (spec_CountsOfTree.l0 k2 y463 (wrap64 (x5_1 + 1)) l0_0) = some (r1, r2) := by first | (rw [hy463]; with_reducible exact H) | (have H2_ := (Option.bind_some _ _).symm.trans H; rw [hy463]; with_reducible exact H2_) | (have H2_ := (Option.bind_some _ _).symm.trans H; with_reducible exact H2_) | with_reducible exact H | (rw [hy463]; exact H) | exact H
        have Ny463 := A_ hy463
        clear hy463
        have H' := A_ H
        clear H
        obtain ⟨Ao21, co21, eo21⟩ := Kd.R_slice HO_4.out
        subst eo21
        have hcz22_0 : wr.cell? ⟨gb452, 0, none⟩ = some (.slice A0_0 l0_0.length c0_0) := (blk_cell BK452.out 0).trans rfl
        have hfz22_0 := blk_frozen BK452.out 0
        have p457 : 0 ≤ (x5_1 : Int) := of_decide_eq_true spec_CountsOfTree.Z0
        have q457 : x5_1 < (l0_0.length : Int) := of_decide_eq_true spec_CountsOfTree.Z0
        obtain ⟨ad457, e457, hx457_0⟩ := Kd.at_int HR0_0.out x5_1 p457 q457
        cases e457
        replace hx457_0 := (HB.out.cell (World.block_lt_of_cell? w _ hx457_0)).trans hx457_0
        replace p457 := eq_true p457
        replace q457 := eq_true q457
        have p461 : 0 ≤ (x5_1 : Int) := of_decide_eq_true spec_CountsOfTree.Z0
        have q461 : x5_1 < (l0_0.length : Int) := of_decide_eq_true spec_CountsOfTree.Z0
        obtain ⟨ad461, e461, hx461_0⟩ := Kd.at_int HR0_0.out x5_1 p461 q461
        obtain rfl : ad457 = ad461 := (by injection e461)
        replace hx461_0 := (HB.out.cell (World.block_lt_of_cell? w _ hx461_0)).trans hx461_0
        replace p461 := eq_true p461
        replace q461 := eq_true q461
        have p462 : 0 ≤ ((rd l0_0 x5_1) : Int) := of_decide_eq_true spec_CountsOfTree.Z0
        have q462 : (rd l0_0 x5_1) < (x4_2.length : Int) := of_decide_eq_true spec_CountsOfTree.Z0
        obtain ⟨ad462, e462, hx462_0⟩ := Kd.at_int (Kd.R_reads' HO_4.out).2.2 (rd l0_0 x5_1) p462 q462
        cases e462
        replace p462 := eq_true p462
        replace q462 := eq_true q462
        have p20 : 0 ≤ ((rd l0_0 x5_1) : Int) := of_decide_eq_true spec_CountsOfTree.Z0
        have q20 : ((rd l0_0 x5_1) : Int) < ((x4_2.length : Int) : Int) := of_decide_eq_true spec_CountsOfTree.Z0
        obtain ⟨go20, co20, eo20, gb20, gl20, cl20, HG20⟩ := Kd.R_form HO_4.out (by omega)
        (first | cases eo20 | (injection eo20 with ea_ en_ ec_; (first | subst ea_ | (injection ea_ with ea_; subst ea_)); subst ec_; clear en_))
        have GB20 := A_ gb20
        have GG20 := A_ HG20
        clear gb20 gl20 HG20
        (first | simp only [add_plain] at hx462_0 | skip)
        obtain ⟨hx20_0, hf20_0⟩ := Kd.R_celln 0 HO_4.out ((rd l0_0 x5_1) : Int) p20 q20
        replace p20 := eq_true p20
        replace q20 := eq_true q20
        have HP23 := Kd.R_putg HO_4.out ((rd l0_0 x5_1) : Int) (wrap64 ((rd x4_2 (rd l0_0 x5_1)) + 1))
        go_wp2_with (first | ((with_reducible refine gate_store (t := 2) (p := 37) rfl ?_); refine store_event (t := 2) (p := 37) (v := ?vo_w24) (w1 := (wr.setCell ⟨go20, ((rd l0_0 x5_1) : Int).toNat, none⟩ (.int .i64 (wrap64 ((rd x4_2 (rd l0_0 x5_1)) + 1))))) ?hg ?ho ?hn ?hr ?_; (case ho => rfl); (case hg => rfl); (case hn => rfl); (case hr => first | (go_simp; done) | (go_simp; rfl)); intro w24 hw; have hg : wr.grownBy w24 (some go20) := (by rw [hw]; exact HP23.2); have hp_ : Kd.R (Kd.int .i64) 2 w24 w.heap.size (fun _ => True) (.slice (some ⟨go20, 0, none⟩) x4_2.length co21) y463 := (by rw [hw, Ny463.out]; exact HP23.1); clear HP23; have n0_ := A_ (hp_); have n1_ := A_ (blk_grown (g := gb452) (o := .cells #[.slice (some ad457) l0_0.length c0_0] 26 (0, 0)) (eb BK452) hg (Kd.R_ne HO_4.out BK452.out (by decide))); have n2_ := A_ ((by rw [hw]; exact below_set (HB.out) GB20.out : Below w.heap.size w w24)); clear HO_4; clear BK452; clear HB; have HO_4 := n0_; have BK452 := n1_; have HB := n2_; clear n0_ n1_ n2_; clear hg hw hp_))
        go_roundg k2
        case measure => have := HK1.out; have := HK2.out; omega
        case rel => exact ⟨(y463), (wrap64 (x5_1 + 1)), spec_CountsOfTree.Z1, H', ⟨by have := HK1.out; have := HK2.out; omega⟩, ⟨es HO_4⟩, ⟨eb BK452⟩, ⟨el HB⟩⟩
    ·rw [if_neg c9] at H
     have c9b0 : decide (x5_1 < (l0_0.length : Int)) = false := decide_eq_false c9
     clear c9
     simp only [Option.some.injEq, Prod.mk.injEq] at H
     obtain ⟨rfl, rfl⟩ := H
     have hcz25_0 : wr.cell? ⟨gb452, 0, none⟩ = some (.slice A0_0 l0_0.length c0_0) := (blk_cell BK452.out 0).trans rfl
     have hfz25_0 := blk_frozen BK452.out 0
     go_wp2
     go_ret2
     exact ⟨_, er, by (with_reducible repeat (first | apply Kd.R_alloc | apply Kd.R_drewN | apply Kd.R_drew)); exact HO_4.out, el HB⟩
 ·replace c3 := Bool.eq_false_iff.mpr c3
  subst c3
  have H1 : (some (([] : List Int), 1)) = some (r1, r2) := by rw [if_neg (show ¬ (false = true) by decide)] at H; exact H
  clear H
  have H := H1
  clear H1
  simp only [Option.some.injEq, Prod.mk.injEq] at H
  obtain ⟨rfl, rfl⟩ := H
  go_enter Try.func79, Try.ntmps79
  go_wp2_with (first | ((with_reducible refine gate_dst (N := 1) rfl ?_); refine box_event ?hg (N := 1) ?hd (cs := #[.slice A0_0 l0_0.length c0_0]) (t := 26) ?hr ?_; (case hd => rfl); (case hg => rfl); (case hr => first | (go_simp; done) | (go_simp; rfl)); intro gb452 hg w26 hbox hb; have n0_ := A_ (below_step (el HB) hb); have n1_ := A_ (hbox); have n2_ := A_ ((by rw [hg]; exact (below_size (el HB)) : w.heap.size ≤ gb452)); have n3_ := A_ ((by rw [hg]; exact (below_size (el HB)) : w.heap.size ≤ gb452)); clear HB; have HB := n0_; have BK452 := n1_; have GW452 := n2_; have GE452 := n3_; clear n0_ n1_ n2_ n3_; clear hb hbox hg; have hcz27_0 : w26.cell? ⟨gb452, 0, none⟩ = some (.slice A0_0 l0_0.length c0_0) := (blk_cell BK452.out 0).trans rfl; have hfz27_0 := blk_frozen BK452.out 0) | ((with_reducible refine gate_callee (f := 101) rfl ?_); refine goesL_ (some 7) rfl rfl Try.func101 (by kernel_rfl) rfl #[.agg #[.slice A0_0 l0_0.length c0_0]] rfl eg ?_; (with_reducible refine (spec_l01Is.calls k _ _ l0_0 false _ ?side1 ?side2 A2.out).mono ?_); (case side1 => repeat (first | exact (Kd.C_below HR0_0.out HB.out) | (with_reducible refine Kd.C_alloc ?_ _) | (with_reducible refine Kd.C_drewN ?_ _) | (with_reducible refine Kd.C_drew ?_))); (case side2 => exact HC0_0.out); rintro e w28 ⟨rfl, hb⟩; refine ⟨_, rfl, ?_⟩; have n0_ := A_ (eB BK452 hb); have n1_ := A_ (below_step (el HB) hb); clear BK452; clear HB; have BK452 := n0_; have HB := n1_; clear n0_ n1_; (try clear hb); (try clear hb2); (try clear hk); (try clear hi)))
  go_ret2
  exact ⟨_, er, by first | exact Kd.R_nil _ _ _ _ _ | exact Kd.N_nil _ _ _ _ _ | exact Kd.V_nil _ _ _ _ _ | exact Kd.Q_nil _ _ _ _ _ | exact Kd.S_nil _ _ _ _ _, el HB⟩

/-! ### spec_DrawCountByCounts: function 80 -/
def spec_DrawCountByCounts.f (k : Nat) (l0 : List Int) : Option (List Int) := (spec_l01From.f k l0).bind fun bt464 => ((spec_l01Pick.f bt464.1 bt464.2.1 bt464.2.2 (([6, 20] : List Int))).bind fun bt471 => ((spec_l01Next.f bt464.1 bt471.2.1 bt471.2.2 bt471.1).bind fun bt474 => ((spec_l01DrawOf.f k bt464.1 bt474.2.1 bt474.2.2 (wrap64 (1 + bt474.1))).bind fun bt477 => ((spec_CountsOfTree.f k bt477.1).bind fun bt482 => ((spec_l01Next.f bt464.1 bt477.2.1 bt477.2.2 8).bind fun bt486 => (if bt486.1 = 0 then ((spec_l01Next.f bt464.1 bt486.2.1 bt486.2.2 (bt482.1.length : Int)).bind fun bt489 => ((spec_l01Pick.f bt464.1 bt489.2.1 bt489.2.2 (([0, 1, 2, (-1), 21] : List Int))).bind fun bt495 => (if 0 ≤ bt489.1 then (if bt489.1 < (bt482.1.length : Int) then (some (bt482.1.set (bt489.1 : Int).toNat bt495.1)) else (none)) else (none)))) else (if bt486.1 = 1 then ((spec_l01Pick.f bt464.1 bt486.2.1 bt486.2.2 (([0, 1] : List Int))).bind fun bt502 => (if bt482.1.length < 17592186044416 then (some (bt482.1 ++ [bt502.1])) else (none))) else (some bt482.1))))))))
theorem spec_DrawCountByCounts.mono : ∀ a0 k, LeO (spec_DrawCountByCounts.f k a0) (spec_DrawCountByCounts.f (k + 1) a0) := by
  intro a0 k
  unfold spec_DrawCountByCounts.f
  repeat' first
      | (with_reducible exact spec_CountsOfTree.mono _ _)
      | (with_reducible exact spec_l01DrawOf.mono _ _ _ _ _)
      | (with_reducible exact spec_l01From.mono _ _)
      | (with_reducible exact LeO.refl _)
      | (with_reducible exact LeO.none _)
      | (with_reducible refine LeO.ite ?_ ?_)
      | (with_reducible refine LeO.bind ?_ (fun _ => ?_))
      | exact spec_CountsOfTree.mono _ _
      | exact spec_l01DrawOf.mono _ _ _ _ _
      | exact spec_l01From.mono _ _
      | exact LeO.none _
      | refine LeO.ite ?_ ?_
      | refine LeO.bind ?_ (fun _ => ?_)
theorem spec_DrawCountByCounts.Z0 {p : Prop} (h : p := by (with_reducible repeat (first | apply Kd.R_alloc | apply Kd.R_drewN | apply Kd.R_drew)); exact Kd.R_mono HO470.out (fun _ hk => ⟨⟨hk.1.1.2, hk.2⟩, hk.1.2⟩)) : p := h
theorem spec_DrawCountByCounts.Z1 {p : Prop} (h : p := by (with_reducible repeat (first | apply Kd.R_alloc | apply Kd.R_drewN | apply Kd.R_drew)); exact Kd.R_mono HO479.out (fun _ hk => ⟨⟨hk.1.1.2, hk.2⟩, hk.1.2⟩)) : p := h
theorem spec_DrawCountByCounts.Z2 {p : Prop} (h : p := by first | (with_reducible assumption) | assumption) : p := h
set_option maxHeartbeats 8000000 in
set_option maxRecDepth 100000 in
theorem spec_DrawCountByCounts.calls (k : Nat) (A0 : Option Addr) (c0 : Nat) (l0 : List Int) (r : List Int) (w : World) (hr0 : Kd.C (Kd.int .u8) w A0 l0.length l0) (hc0 : l0.length ≤ c0) (h : spec_DrawCountByCounts.f k l0 = some r) :
  Calls Try.prog 80 #[.slice A0 l0.length c0] w fun e w' => ∃ v0_ : Value, e = .returned (v0_) ∧ Kd.R (Kd.int .i64) 2 w' w.heap.size (fun _ => True) v0_ r ∧ Below w.heap.size w w' := by
 have HR0 := A_ hr0
 have HC0 := A_ hc0
 clear hr0 hc0
 have HB := A_ (Below.refl w.heap.size w)
 have H : ((spec_l01From.f k l0).bind fun bt464 => ((spec_l01Pick.f bt464.1 bt464.2.1 bt464.2.2 (([6, 20] : List Int))).bind fun bt471 => ((spec_l01Next.f bt464.1 bt471.2.1 bt471.2.2 bt471.1).bind fun bt474 => ((spec_l01DrawOf.f k bt464.1 bt474.2.1 bt474.2.2 (wrap64 (1 + bt474.1))).bind fun bt477 => ((spec_CountsOfTree.f k bt477.1).bind fun bt482 => ((spec_l01Next.f bt464.1 bt477.2.1 bt477.2.2 8).bind fun bt486 => (if bt486.1 = 0 then ((spec_l01Next.f bt464.1 bt486.2.1 bt486.2.2 (bt482.1.length : Int)).bind fun bt489 => ((spec_l01Pick.f bt464.1 bt489.2.1 bt489.2.2 (([0, 1, 2, (-1), 21] : List Int))).bind fun bt495 => (if 0 ≤ bt489.1 then (if bt489.1 < (bt482.1.length : Int) then (some (bt482.1.set (bt489.1 : Int).toNat bt495.1)) else (none)) else (none)))) else (if bt486.1 = 1 then ((spec_l01Pick.f bt464.1 bt486.2.1 bt486.2.2 (([0, 1] : List Int))).bind fun bt502 => (if bt482.1.length < 17592186044416 then (some (bt482.1 ++ [bt502.1])) else (none))) else (some bt482.1))))))))) = some r := h
 clear h
 replace H := Option.bind_eq_some_iff.mp H
 obtain ⟨⟨t464, t465, t466⟩, A20, H⟩ := H
 replace H : ((spec_l01Pick.f t464 t465 t466 (([6, 20] : List Int))).bind fun bt471 => ((spec_l01Next.f t464 bt471.2.1 bt471.2.2 bt471.1).bind fun bt474 => ((spec_l01DrawOf.f k t464 bt474.2.1 bt474.2.2 (wrap64 (1 + bt474.1))).bind fun bt477 => ((spec_CountsOfTree.f k bt477.1).bind fun bt482 => ((spec_l01Next.f t464 bt477.2.1 bt477.2.2 8).bind fun bt486 => (if bt486.1 = 0 then ((spec_l01Next.f t464 bt486.2.1 bt486.2.2 (bt482.1.length : Int)).bind fun bt489 => ((spec_l01Pick.f t464 bt489.2.1 bt489.2.2 (([0, 1, 2, (-1), 21] : List Int))).bind fun bt495 => (if 0 ≤ bt489.1 then (if bt489.1 < (bt482.1.length : Int) then (some (bt482.1.set (bt489.1 : Int).toNat bt495.1)) else (none)) else (none)))) else (if bt486.1 = 1 then ((spec_l01Pick.f t464 bt486.2.1 bt486.2.2 (([0, 1] : List Int))).bind fun bt502 => (if bt482.1.length < 17592186044416 then (some (bt482.1 ++ [bt502.1])) else (none))) else (some bt482.1)))))))) = some r := H
 have A2 := A_ A20
 clear A20
 obtain ⟨y468, hy468⟩ : ∃ y_ : List Int, y_ = (([6, 20] : List Int)) := ⟨_, rfl⟩
 replace H : ((spec_l01Pick.f t464 t465 t466 y468).bind fun bt471 => ((spec_l01Next.f t464 bt471.2.1 bt471.2.2 bt471.1).bind fun bt474 => ((spec_l01DrawOf.f k t464 bt474.2.1 bt474.2.2 (wrap64 (1 + bt474.1))).bind fun bt477 => ((spec_CountsOfTree.f k bt477.1).bind fun bt482 => ((spec_l01Next.f t464 bt477.2.1 bt477.2.2 8).bind fun bt486 => (if bt486.1 = 0 then ((spec_l01Next.f t464 bt486.2.1 bt486.2.2 (bt482.1.length : Int)).bind fun bt489 => ((spec_l01Pick.f t464 bt489.2.1 bt489.2.2 (([0, 1, 2, (-1), 21] : List Int))).bind fun bt495 => (if 0 ≤ bt489.1 then (if bt489.1 < (bt482.1.length : Int) then (some (bt482.1.set (bt489.1 : Int).toNat bt495.1)) else (none)) else (none)))) else (if bt486.1 = 1 then ((spec_l01Pick.f t464 bt486.2.1 bt486.2.2 (([0, 1] : List Int))).bind fun bt502 => (if bt482.1.length < 17592186044416 then (some (bt482.1 ++ [bt502.1])) else (none))) else (some bt482.1)))))))) = some r := by first | (rw [hy468]; with_reducible exact H) | (have H2_ := (Option.bind_some _ _).symm.trans H; rw [hy468]; with_reducible exact H2_) | (have H2_ := (Option.bind_some _ _).symm.trans H; with_reducible exact H2_) | with_reducible exact H | (rw [hy468]; exact H) | exact H
 have Ny468 := A_ hy468
 clear hy468
 replace H := Option.bind_eq_some_iff.mp H
 obtain ⟨⟨t471, t472, t473⟩, A30, H⟩ := H
 replace H : ((spec_l01Next.f t464 t472 t473 t471).bind fun bt474 => ((spec_l01DrawOf.f k t464 bt474.2.1 bt474.2.2 (wrap64 (1 + bt474.1))).bind fun bt477 => ((spec_CountsOfTree.f k bt477.1).bind fun bt482 => ((spec_l01Next.f t464 bt477.2.1 bt477.2.2 8).bind fun bt486 => (if bt486.1 = 0 then ((spec_l01Next.f t464 bt486.2.1 bt486.2.2 (bt482.1.length : Int)).bind fun bt489 => ((spec_l01Pick.f t464 bt489.2.1 bt489.2.2 (([0, 1, 2, (-1), 21] : List Int))).bind fun bt495 => (if 0 ≤ bt489.1 then (if bt489.1 < (bt482.1.length : Int) then (some (bt482.1.set (bt489.1 : Int).toNat bt495.1)) else (none)) else (none)))) else (if bt486.1 = 1 then ((spec_l01Pick.f t464 bt486.2.1 bt486.2.2 (([0, 1] : List Int))).bind fun bt502 => (if bt482.1.length < 17592186044416 then (some (bt482.1 ++ [bt502.1])) else (none))) else (some bt482.1))))))) = some r := H
 have A3 := A_ A30
 clear A30
 replace H := Option.bind_eq_some_iff.mp H
 obtain ⟨⟨t474, t475, t476⟩, A40, H⟩ := H
 replace H : ((spec_l01DrawOf.f k t464 t475 t476 (wrap64 (1 + t474))).bind fun bt477 => ((spec_CountsOfTree.f k bt477.1).bind fun bt482 => ((spec_l01Next.f t464 bt477.2.1 bt477.2.2 8).bind fun bt486 => (if bt486.1 = 0 then ((spec_l01Next.f t464 bt486.2.1 bt486.2.2 (bt482.1.length : Int)).bind fun bt489 => ((spec_l01Pick.f t464 bt489.2.1 bt489.2.2 (([0, 1, 2, (-1), 21] : List Int))).bind fun bt495 => (if 0 ≤ bt489.1 then (if bt489.1 < (bt482.1.length : Int) then (some (bt482.1.set (bt489.1 : Int).toNat bt495.1)) else (none)) else (none)))) else (if bt486.1 = 1 then ((spec_l01Pick.f t464 bt486.2.1 bt486.2.2 (([0, 1] : List Int))).bind fun bt502 => (if bt482.1.length < 17592186044416 then (some (bt482.1 ++ [bt502.1])) else (none))) else (some bt482.1)))))) = some r := H
 have A4 := A_ A40
 clear A40
 replace H := Option.bind_eq_some_iff.mp H
 obtain ⟨⟨t477, t480, t481⟩, A50, H⟩ := H
 replace H : ((spec_CountsOfTree.f k t477).bind fun bt482 => ((spec_l01Next.f t464 t480 t481 8).bind fun bt486 => (if bt486.1 = 0 then ((spec_l01Next.f t464 bt486.2.1 bt486.2.2 (bt482.1.length : Int)).bind fun bt489 => ((spec_l01Pick.f t464 bt489.2.1 bt489.2.2 (([0, 1, 2, (-1), 21] : List Int))).bind fun bt495 => (if 0 ≤ bt489.1 then (if bt489.1 < (bt482.1.length : Int) then (some (bt482.1.set (bt489.1 : Int).toNat bt495.1)) else (none)) else (none)))) else (if bt486.1 = 1 then ((spec_l01Pick.f t464 bt486.2.1 bt486.2.2 (([0, 1] : List Int))).bind fun bt502 => (if bt482.1.length < 17592186044416 then (some (bt482.1 ++ [bt502.1])) else (none))) else (some bt482.1))))) = some r := H
 have A5 := A_ A50
 clear A50
 replace H := Option.bind_eq_some_iff.mp H
 obtain ⟨⟨t482, t485⟩, A60, H⟩ := H
 replace H : ((spec_l01Next.f t464 t480 t481 8).bind fun bt486 => (if bt486.1 = 0 then ((spec_l01Next.f t464 bt486.2.1 bt486.2.2 (t482.length : Int)).bind fun bt489 => ((spec_l01Pick.f t464 bt489.2.1 bt489.2.2 (([0, 1, 2, (-1), 21] : List Int))).bind fun bt495 => (if 0 ≤ bt489.1 then (if bt489.1 < (t482.length : Int) then (some (t482.set (bt489.1 : Int).toNat bt495.1)) else (none)) else (none)))) else (if bt486.1 = 1 then ((spec_l01Pick.f t464 bt486.2.1 bt486.2.2 (([0, 1] : List Int))).bind fun bt502 => (if t482.length < 17592186044416 then (some (t482 ++ [bt502.1])) else (none))) else (some t482)))) = some r := H
 have A6 := A_ A60
 clear A60
 replace H := Option.bind_eq_some_iff.mp H
 obtain ⟨⟨t486, t487, t488⟩, A70, H⟩ := H
 replace H : (if t486 = 0 then ((spec_l01Next.f t464 t487 t488 (t482.length : Int)).bind fun bt489 => ((spec_l01Pick.f t464 bt489.2.1 bt489.2.2 (([0, 1, 2, (-1), 21] : List Int))).bind fun bt495 => (if 0 ≤ bt489.1 then (if bt489.1 < (t482.length : Int) then (some (t482.set (bt489.1 : Int).toNat bt495.1)) else (none)) else (none)))) else (if t486 = 1 then ((spec_l01Pick.f t464 t487 t488 (([0, 1] : List Int))).bind fun bt502 => (if t482.length < 17592186044416 then (some (t482 ++ [bt502.1])) else (none))) else (some t482))) = some r := H
 have A7 := A_ A70
 clear A70
 by_cases c8 : t486 = 0
 ·rw [if_pos c8] at H
  have c8b0 : (t486 == 0) = true := beq_iff_eq.mpr c8
  have c8b1 : (t486 != 0) = false := bne_eq_false_iff_eq.mpr c8
  clear c8
  replace H := Option.bind_eq_some_iff.mp H
  obtain ⟨⟨t489, t490, t491⟩, A90, H⟩ := H
  replace H : ((spec_l01Pick.f t464 t490 t491 (([0, 1, 2, (-1), 21] : List Int))).bind fun bt495 => (if 0 ≤ t489 then (if t489 < (t482.length : Int) then (some (t482.set (t489 : Int).toNat bt495.1)) else (none)) else (none))) = some r := H
  have A9 := A_ A90
  clear A90
  obtain ⟨y492, hy492⟩ : ∃ y_ : List Int, y_ = (([0, 1, 2, (-1), 21] : List Int)) := ⟨_, rfl⟩
  replace H : ((spec_l01Pick.f t464 t490 t491 y492).bind fun bt495 => (if 0 ≤ t489 then (if t489 < (t482.length : Int) then (some (t482.set (t489 : Int).toNat bt495.1)) else (none)) else (none))) = some r := by first | (rw [hy492]; with_reducible exact H) | (have H2_ := (Option.bind_some _ _).symm.trans H; rw [hy492]; with_reducible exact H2_) | (have H2_ := (Option.bind_some _ _).symm.trans H; with_reducible exact H2_) | with_reducible exact H | (rw [hy492]; exact H) | exact H
  have Ny492 := A_ hy492
  clear hy492
  replace H := Option.bind_eq_some_iff.mp H
  obtain ⟨⟨t495, t496, t497⟩, A100, H⟩ := H
  replace H : (if 0 ≤ t489 then (if t489 < (t482.length : Int) then (some (t482.set (t489 : Int).toNat t495)) else (none)) else (none)) = some r := H
  have A10 := A_ A100
  clear A100
  by_cases c11 : 0 ≤ t489
  rotate_left
  ·rw [if_neg c11] at H
   exact absurd H (by simp)
  rw [if_pos c11] at H
  have c11b0 : decide (0 ≤ t489) = true := decide_eq_true c11
  clear c11
  by_cases c12 : t489 < (t482.length : Int)
  rotate_left
  ·rw [if_neg c12] at H
   exact absurd H (by simp)
  rw [if_pos c12] at H
  have c12b0 : decide (t489 < (t482.length : Int)) = true := decide_eq_true c12
  clear c12
  obtain ⟨y498, hy498⟩ : ∃ y_ : List Int, y_ = (t482.set (t489 : Int).toNat t495) := ⟨_, rfl⟩
  replace H : (some y498) = some r := by first | (rw [hy498]; with_reducible exact H) | (have H2_ := (Option.bind_some _ _).symm.trans H; rw [hy498]; with_reducible exact H2_) | (have H2_ := (Option.bind_some _ _).symm.trans H; with_reducible exact H2_) | with_reducible exact H | (rw [hy498]; exact H) | exact H
  have Ny498 := A_ hy498
  clear hy498
  obtain rfl := Option.some.inj H
  go_enter Try.func80, Try.ntmps80
  go_wp2_with (first | ((with_reducible refine gate_callee (f := 99) rfl ?_); refine goesL_ (some 7) rfl rfl Try.func99 (by kernel_rfl) rfl #[.slice A0 l0.length c0] rfl eg ?_; (with_reducible refine (spec_l01From.calls k _ _ l0 t464 t465 t466 w _ ?side1 ?side2 ?side3 A2.out).mono ?_); (case side1 => exact el HB); (case side2 => exact HR0.out); (case side3 => exact HC0.out); rintro e w14 ⟨g467, rfl, hi, hb, hb2⟩; refine ⟨_, rfl, ?_⟩; have n0_ := A_ (hb); have n1_ := A_ (hi); clear HB; have HB := n0_; have HI467 := n1_; clear n0_ n1_; (try clear hb); (try clear hb2); (try clear hk); (try clear hi)) | ((with_reducible refine gate_dst (N := 12) rfl ?_); refine Kd.R_lit (Kd.int .i64) _ 2 ?hg (N := 12) ?hd (xs := ([6, 20] : List Int)) (inner := [.int .i64 6, .int .i64 20]) (ok := fun _ => True) (okp := fun _ => True) ?hr ?hp (fun _ hk => hk) trivial (Below.refl _ _) (Nat.le_refl _) (by simp) ?_; (case hd => rfl); (case hg => rfl); (case hr => first | (go_simp; done) | (go_simp; rfl)); (case hp => exact (Reps.one (show Kd.M (Kd.int .i64) _ _ _ 6 [.int .i64 6] from rfl) (Reps.one (show Kd.M (Kd.int .i64) _ _ _ 20 [.int .i64 20] from rfl) (Reps.none _ _)))); intro v469 w15 ho16 hb hg_ hnew_; clear hg_ hnew_; (first | rw [← Ny468.out] at ho16 | (simp only [Int.reduceToNat] at ho16; rw [← Ny468.out] at ho16)); have n0_ := A_ (Kd.R_lower ho16 (below_size (em121 HB))); have n1_ := A_ (IsS121.below (ei121 HI467) hb); have n2_ := A_ (below_step (em121 HB) hb); clear HI467; clear HB; have HO470 := n0_; have HI467 := n1_; have HB := n2_; clear n0_ n1_ n2_; clear hb ho16; obtain ⟨Ao17, co17, eo17⟩ := Kd.R_slice HO470.out; subst eo17) | ((with_reducible refine gate_callee (f := 147) rfl ?_); refine goesL_ (some 13) rfl rfl Try.func147 (by kernel_rfl) rfl #[.pointer (some ⟨g467, 0, none⟩), .slice Ao17 y468.length co17] rfl eg ?_; (with_reducible refine (spec_l01Pick.calls g467 t464 t465 t466 _ _ y468 t471 t472 t473 w _ ?side1 ?side2 ?side3 ?side4 ?side5 A3.out).mono ?_); (case side1 => exact ei121 HI467); (case side2 => exact em121 HB); (case side3 => repeat (first | exact (Kd.R_reads' HO470.out).2.2 | (with_reducible refine Kd.C_alloc ?_ _) | (with_reducible refine Kd.C_drewN ?_ _) | (with_reducible refine Kd.C_drew ?_))); (case side4 => exact (Kd.R_reads' HO470.out).2.1); (case side5 => exact far_slice (IsS121.own_ne HI467.out HO470.out (by decide))); rintro e w18 ⟨rfl, hi, hb, hk⟩; refine ⟨_, rfl, ?_⟩; have n0_ := A_ (Kd.R_mono (Kd.R_keep (IsS121.apart (show IsS121 w _ g467 t464 t465 t466 from ei121 HI467) (ea HO470) (by decide)) hk (fun _ h => h.2)) (fun _ h => h.1)); have n1_ := A_ (hb); have n2_ := A_ (hi); clear HO470; clear HB; clear HI467; have HO470 := n0_; have HB := n1_; have HI467 := n2_; clear n0_ n1_ n2_; (try clear hb); (try clear hb2); (try clear hk); (try clear hi)) | ((with_reducible refine gate_callee (f := 123) rfl ?_); refine goesL_ (some 14) rfl rfl Try.func123 (by kernel_rfl) rfl #[.pointer (some ⟨g467, 0, none⟩), .int .i64 t471] rfl eg ?_; (with_reducible refine (spec_l01Next.calls g467 t464 t472 t473 t471 t474 t475 t476 w _ ?side1 ?side2 A4.out).mono ?_); (case side1 => exact ei121 HI467); (case side2 => exact em121 HB); rintro e w19 ⟨rfl, hi, hb, hk⟩; refine ⟨_, rfl, ?_⟩; have n0_ := A_ (Kd.R_mono (Kd.R_keep (IsS121.apart (show IsS121 w _ g467 t464 t472 t473 from ei121 HI467) (ea HO470) (by decide)) hk (fun _ h => h.2)) (fun _ h => h.1)); have n1_ := A_ (hb); have n2_ := A_ (hi); clear HO470; clear HB; clear HI467; have HO470 := n0_; have HB := n1_; have HI467 := n2_; clear n0_ n1_ n2_; (try clear hb); (try clear hb2); (try clear hk); (try clear hi)) | ((with_reducible refine gate_callee (f := 143) rfl ?_); refine goesL_ (some 16) rfl rfl Try.func143 (by kernel_rfl) rfl #[.pointer (some ⟨g467, 0, none⟩), .int .i64 (wrap64 (1 + t474))] rfl eg ?_; (with_reducible refine (spec_l01DrawOf.calls k g467 t464 t475 t476 (wrap64 (1 + t474)) t477 t480 t481 w _ ?side1 ?side2 A5.out).mono ?_); (case side1 => exact ei121 HI467); (case side2 => exact em121 HB); rintro e w20 ⟨v478, rfl, ho0, hi, hb, hk⟩; refine ⟨_, rfl, ?_⟩; have n0_ := A_ (Kd.R_mono (Kd.R_told (Kd.R_oldK (IsS121.apart (show IsS121 w _ g467 t464 t475 t476 from ei121 HI467) (ea HO470) (by decide)) hk) (Kd.R_base ho0)) (fun _ h_ => h_.1)); have n1_ := A_ (Kd.R_lower (Kd.R_new' ho0 (Kd.R_lt (ea HO470))) (below_size (em121 HB))); have n2_ := A_ (hb); have n3_ := A_ (hi); clear HO470; clear HB; clear HI467; have HO470 := n0_; have HO479 := n1_; have HB := n2_; have HI467 := n3_; clear n0_ n1_ n2_ n3_; (try clear hb); (try clear hb2); (try clear hk); (try clear hi); (try clear ho0); obtain ⟨Ao21, co21, eo21⟩ := Kd.R_slice HO479.out; subst eo21) | ((with_reducible refine gate_callee (f := 79) rfl ?_); refine goesL_ (some 17) rfl rfl Try.func79 (by kernel_rfl) rfl #[.agg #[.slice Ao21 t477.length co21]] rfl eg ?_; (with_reducible refine (spec_CountsOfTree.calls k _ _ t477 t482 t485 _ ?side1 ?side2 A6.out).mono ?_); (case side1 => repeat (first | exact (Kd.R_reads' HO479.out).2.2 | (with_reducible refine Kd.C_alloc ?_ _) | (with_reducible refine Kd.C_drewN ?_ _) | (with_reducible refine Kd.C_drew ?_))); (case side2 => exact (Kd.R_reads' HO479.out).2.1); rintro e w22 ⟨v483, rfl, ho0, hb⟩; refine ⟨_, rfl, ?_⟩; have n0_ := A_ (Kd.R_elder' (ea HO470) (Kd.R_base ho0) hb); have n1_ := A_ (Kd.R_elder' (ea HO479) (Kd.R_base ho0) hb); have n2_ := A_ (Kd.R_lower (Kd.R_new' (Kd.R_new' ho0 (Kd.R_lt (ea HO470))) (Kd.R_lt (ea HO479))) (below_size (em121 HB))); have n3_ := A_ (IsS121.below (ei121 HI467) hb); have n4_ := A_ (below_step (em121 HB) hb); clear HO470; clear HO479; clear HI467; clear HB; have HO470 := n0_; have HO479 := n1_; have HO484 := n2_; have HI467 := n3_; have HB := n4_; clear n0_ n1_ n2_ n3_ n4_; (try clear hb); (try clear hb2); (try clear hk); (try clear hi); (try clear ho0)) | ((with_reducible refine gate_callee (f := 123) rfl ?_); refine goesL_ (some 21) rfl rfl Try.func123 (by kernel_rfl) rfl #[.pointer (some ⟨g467, 0, none⟩), .int .i64 8] rfl eg ?_; (with_reducible refine (spec_l01Next.calls g467 t464 t480 t481 8 t486 t487 t488 w _ ?side1 ?side2 A7.out).mono ?_); (case side1 => exact ei121 HI467); (case side2 => exact em121 HB); rintro e w23 ⟨rfl, hi, hb, hk⟩; refine ⟨_, rfl, ?_⟩; have n0_ := A_ (Kd.R_mono (Kd.R_keep (IsS121.apart (show IsS121 w _ g467 t464 t480 t481 from ei121 HI467) (ea HO470) (by decide)) hk (fun _ h => h.2)) (fun _ h => h.1)); have n1_ := A_ (Kd.R_mono (Kd.R_keep (IsS121.apart (show IsS121 w _ g467 t464 t480 t481 from ei121 HI467) (ea HO479) (by decide)) hk (fun _ h => h.2)) (fun _ h => h.1)); have n2_ := A_ (Kd.R_mono (Kd.R_keep (IsS121.apart (show IsS121 w _ g467 t464 t480 t481 from ei121 HI467) (ea HO484) (by decide)) hk (fun _ h => h.2)) (fun _ h => h.1)); have n3_ := A_ (hb); have n4_ := A_ (hi); clear HO470; clear HO479; clear HO484; clear HB; clear HI467; have HO470 := n0_; have HO479 := n1_; have HO484 := n2_; have HB := n3_; have HI467 := n4_; clear n0_ n1_ n2_ n3_ n4_; (try clear hb); (try clear hb2); (try clear hk); (try clear hi); obtain ⟨Ao24, co24, eo24⟩ := Kd.R_slice HO484.out; subst eo24) | ((with_reducible refine gate_callee (f := 123) rfl ?_); refine goesL_ (some 28) rfl rfl Try.func123 (by kernel_rfl) rfl #[.pointer (some ⟨g467, 0, none⟩), .int .i64 (t482.length : Int)] rfl eg ?_; (with_reducible refine (spec_l01Next.calls g467 t464 t487 t488 (t482.length : Int) t489 t490 t491 w _ ?side1 ?side2 A9.out).mono ?_); (case side1 => exact ei121 HI467); (case side2 => exact em121 HB); rintro e w25 ⟨rfl, hi, hb, hk⟩; refine ⟨_, rfl, ?_⟩; have n0_ := A_ (Kd.R_mono (Kd.R_keep (IsS121.apart (show IsS121 w _ g467 t464 t487 t488 from ei121 HI467) (ea HO470) (by decide)) hk (fun _ h => h.2)) (fun _ h => h.1)); have n1_ := A_ (Kd.R_mono (Kd.R_keep (IsS121.apart (show IsS121 w _ g467 t464 t487 t488 from ei121 HI467) (ea HO479) (by decide)) hk (fun _ h => h.2)) (fun _ h => h.1)); have n2_ := A_ (Kd.R_mono (Kd.R_keep (IsS121.apart (show IsS121 w _ g467 t464 t487 t488 from ei121 HI467) (ea HO484) (by decide)) hk (fun _ h => h.2)) (fun _ h => h.1)); have n3_ := A_ (hb); have n4_ := A_ (hi); clear HO470; clear HO479; clear HO484; clear HB; clear HI467; have HO470 := n0_; have HO479 := n1_; have HO484 := n2_; have HB := n3_; have HI467 := n4_; clear n0_ n1_ n2_ n3_ n4_; (try clear hb); (try clear hb2); (try clear hk); (try clear hi)) | ((with_reducible refine gate_dst (N := 30) rfl ?_); refine Kd.R_lit (Kd.int .i64) _ 2 ?hg (N := 30) ?hd (xs := ([0, 1, 2, (-1), 21] : List Int)) (inner := [.int .i64 0, .int .i64 1, .int .i64 2, .int .i64 (-1), .int .i64 21]) (ok := fun _ => True) (okp := fun _ => True) ?hr ?hp (fun _ hk => hk) trivial (Below.refl _ _) (Nat.le_refl _) (by simp) ?_; (case hd => rfl); (case hg => rfl); (case hr => first | (go_simp; done) | (go_simp; rfl)); (case hp => exact (Reps.one (show Kd.M (Kd.int .i64) _ _ _ 0 [.int .i64 0] from rfl) (Reps.one (show Kd.M (Kd.int .i64) _ _ _ 1 [.int .i64 1] from rfl) (Reps.one (show Kd.M (Kd.int .i64) _ _ _ 2 [.int .i64 2] from rfl) (Reps.one (show Kd.M (Kd.int .i64) _ _ _ (-1) [.int .i64 (-1)] from rfl) (Reps.one (show Kd.M (Kd.int .i64) _ _ _ 21 [.int .i64 21] from rfl) (Reps.none _ _))))))); intro v493 w26 ho27 hb hg_ hnew_; clear hg_ hnew_; (first | rw [← Ny492.out] at ho27 | (simp only [Int.reduceToNat] at ho27; rw [← Ny492.out] at ho27)); have n0_ := A_ (Kd.R_elder' (ea HO470) (Kd.R_base ho27) hb); have n1_ := A_ (Kd.R_elder' (ea HO479) (Kd.R_base ho27) hb); have n2_ := A_ (Kd.R_elder' (ea HO484) (Kd.R_base ho27) hb); have n3_ := A_ (Kd.R_lower (Kd.R_new' (Kd.R_new' (Kd.R_new' ho27 (Kd.R_lt (ea HO470))) (Kd.R_lt (ea HO479))) (Kd.R_lt (ea HO484))) (below_size (em121 HB))); have n4_ := A_ (IsS121.below (ei121 HI467) hb); have n5_ := A_ (below_step (em121 HB) hb); clear HO470; clear HO479; clear HO484; clear HI467; clear HB; have HO470 := n0_; have HO479 := n1_; have HO484 := n2_; have HO494 := n3_; have HI467 := n4_; have HB := n5_; clear n0_ n1_ n2_ n3_ n4_ n5_; clear hb ho27; obtain ⟨Ao28, co28, eo28⟩ := Kd.R_slice HO494.out; subst eo28) | ((with_reducible refine gate_callee (f := 147) rfl ?_); refine goesL_ (some 31) rfl rfl Try.func147 (by kernel_rfl) rfl #[.pointer (some ⟨g467, 0, none⟩), .slice Ao28 y492.length co28] rfl eg ?_; (with_reducible refine (spec_l01Pick.calls g467 t464 t490 t491 _ _ y492 t495 t496 t497 w _ ?side1 ?side2 ?side3 ?side4 ?side5 A10.out).mono ?_); (case side1 => exact ei121 HI467); (case side2 => exact em121 HB); (case side3 => repeat (first | exact (Kd.R_reads' HO494.out).2.2 | (with_reducible refine Kd.C_alloc ?_ _) | (with_reducible refine Kd.C_drewN ?_ _) | (with_reducible refine Kd.C_drew ?_))); (case side4 => exact (Kd.R_reads' HO494.out).2.1); (case side5 => exact far_slice (IsS121.own_ne HI467.out HO494.out (by decide))); rintro e w29 ⟨rfl, hi, hb, hk⟩; refine ⟨_, rfl, ?_⟩; have n0_ := A_ (Kd.R_mono (Kd.R_keep (IsS121.apart (show IsS121 w _ g467 t464 t490 t491 from ei121 HI467) (ea HO470) (by decide)) hk (fun _ h => h.2)) (fun _ h => h.1)); have n1_ := A_ (Kd.R_mono (Kd.R_keep (IsS121.apart (show IsS121 w _ g467 t464 t490 t491 from ei121 HI467) (ea HO479) (by decide)) hk (fun _ h => h.2)) (fun _ h => h.1)); have n2_ := A_ (Kd.R_mono (Kd.R_keep (IsS121.apart (show IsS121 w _ g467 t464 t490 t491 from ei121 HI467) (ea HO484) (by decide)) hk (fun _ h => h.2)) (fun _ h => h.1)); have n3_ := A_ (Kd.R_mono (Kd.R_keep (IsS121.apart (show IsS121 w _ g467 t464 t490 t491 from ei121 HI467) (ea HO494) (by decide)) hk (fun _ h => h.2)) (fun _ h => h.1)); have n4_ := A_ (hb); have n5_ := A_ (hi); clear HO470; clear HO479; clear HO484; clear HO494; clear HB; clear HI467; have HO470 := n0_; have HO479 := n1_; have HO484 := n2_; have HO494 := n3_; have HB := n4_; have HI467 := n5_; clear n0_ n1_ n2_ n3_ n4_ n5_; (try clear hb); (try clear hb2); (try clear hk); (try clear hi); have p13 : 0 ≤ (t489 : Int) := of_decide_eq_true spec_DrawCountByCounts.Z2; have q13 : (t489 : Int) < ((t482.length : Int) : Int) := of_decide_eq_true spec_DrawCountByCounts.Z2; obtain ⟨go13, co13, eo13, gb13, gl13, cl13, HG13⟩ := Kd.R_form HO484.out (by omega); (first | cases eo13 | (injection eo13 with ea_ en_ ec_; (first | subst ea_ | (injection ea_ with ea_; subst ea_)); subst ec_; clear en_)); have GB13 := A_ gb13; have GG13 := A_ HG13; clear gb13 gl13 HG13; obtain ⟨hx13_0, hf13_0⟩ := Kd.R_celln 0 HO484.out (t489 : Int) p13 q13; replace p13 := eq_true p13; replace q13 := eq_true q13; have n_ := A_ (Kd.R_mono (ok' := (fun k_ => some k_ ≠ (.slice Ao17 y468.length co17 : Value).ownBlock ∧ some k_ ≠ (.slice Ao21 t477.length co21 : Value).ownBlock ∧ some k_ ≠ (.slice Ao28 y492.length co28 : Value).ownBlock)) HO484.out (fun k_ hk => ⟨hk.1.1.2, ⟨hk.1.2, hk.2⟩⟩)); clear HO484; have HO484 := n_; clear n_; obtain ⟨hy30_, hz30_⟩ := Kd.R_celln 0 HO484.out (t489 : Int) (of_decide_eq_true spec_DrawCountByCounts.Z2) (of_decide_eq_true spec_DrawCountByCounts.Z2); have HP30 := Kd.R_putg HO484.out (t489 : Int) t495) | ((with_reducible refine gate_store (t := 2) (p := 32) rfl ?_); refine store_event (t := 2) (p := 32) (v := ?vo_w31) (w1 := (w29.setCell ⟨go13, (t489 : Int).toNat, none⟩ (.int .i64 t495))) ?hg ?ho ?hn ?hr ?_; (case ho => rfl); (case hg => rfl); (case hn => rfl); (case hr => first | (go_simp; done) | (go_simp; rfl)); intro w31 hw; have hg : w29.grownBy w31 (some go13) := (by rw [hw]; exact HP30.2); have hp_ : Kd.R (Kd.int .i64) 2 w31 w.heap.size (fun k_ => some k_ ≠ (.slice Ao17 y468.length co17 : Value).ownBlock ∧ some k_ ≠ (.slice Ao21 t477.length co21 : Value).ownBlock ∧ some k_ ≠ (.slice Ao28 y492.length co28 : Value).ownBlock) (.slice (some ⟨go13, 0, none⟩) t482.length co24) y498 := (by rw [hw, Ny498.out]; exact HP30.1); clear HP30; have n0_ := A_ (IsS121.grown (ei121 HI467) hg (IsS121.own_ne HI467.out HO484.out (by decide))); have n1_ := A_ (Kd.R_after (v := (.slice (some ⟨go13, 0, none⟩) t482.length co24)) (v1 := (.slice (some ⟨go13, 0, none⟩) t482.length co24)) (ok := (fun k_ => some k_ ≠ (.slice Ao21 t477.length co21 : Value).ownBlock ∧ some k_ ≠ (.slice Ao28 y492.length co28 : Value).ownBlock)) spec_DrawCountByCounts.Z0 hg (.inl rfl)); have n2_ := A_ (Kd.R_after (v := (.slice (some ⟨go13, 0, none⟩) t482.length co24)) (v1 := (.slice (some ⟨go13, 0, none⟩) t482.length co24)) (ok := (fun k_ => some k_ ≠ (.slice Ao17 y468.length co17 : Value).ownBlock ∧ some k_ ≠ (.slice Ao28 y492.length co28 : Value).ownBlock)) spec_DrawCountByCounts.Z1 hg (.inl rfl)); have n3_ := A_ (hp_); have n4_ := A_ (Kd.R_after (v := (.slice (some ⟨go13, 0, none⟩) t482.length co24)) (v1 := (.slice (some ⟨go13, 0, none⟩) t482.length co24)) (ok := (fun k_ => some k_ ≠ (.slice Ao17 y468.length co17 : Value).ownBlock ∧ some k_ ≠ (.slice Ao21 t477.length co21 : Value).ownBlock)) (by (with_reducible repeat (first | apply Kd.R_alloc | apply Kd.R_drewN | apply Kd.R_drew)); exact Kd.R_mono HO494.out (fun _ hk => ⟨⟨hk.1.1.2, hk.1.2⟩, hk.2⟩)) hg (.inl rfl)); have n5_ := A_ ((by rw [hw]; exact below_set (HB.out) GB13.out : Below w.heap.size w w31)); clear HI467; clear HO470; clear HO479; clear HO484; clear HO494; clear HB; have HI467 := n0_; have HO470 := n1_; have HO479 := n2_; have HO484 := n3_; have HO494 := n4_; have HB := n5_; clear n0_ n1_ n2_ n3_ n4_ n5_; clear hg hw hp_))
  go_ret
  exact ⟨_, er, by (with_reducible repeat (first | apply Kd.R_alloc | apply Kd.R_drewN | apply Kd.R_drew)); exact Kd.R_mono HO484.out (fun _ hk => trivial), em121 HB⟩
 ·rw [if_neg c8] at H
  have c8b0 : (t486 == 0) = false := beq_eq_false_iff_ne.mpr c8
  have c8b1 : (t486 != 0) = true := bne_iff_ne.mpr c8
  by_cases c32 : t486 = 1
  ·rw [if_pos c32] at H
   have c32b0 : (t486 == 1) = true := beq_iff_eq.mpr c32
   have c32b1 : (t486 != 1) = false := bne_eq_false_iff_eq.mpr c32
   clear c32
   obtain ⟨y499, hy499⟩ : ∃ y_ : List Int, y_ = (([0, 1] : List Int)) := ⟨_, rfl⟩
   replace H : ((spec_l01Pick.f t464 t487 t488 y499).bind fun bt502 => (if t482.length < 17592186044416 then (some (t482 ++ [bt502.1])) else (none))) = some r := by first | (rw [hy499]; with_reducible exact H) | (have H2_ := (Option.bind_some _ _).symm.trans H; rw [hy499]; with_reducible exact H2_) | (have H2_ := (Option.bind_some _ _).symm.trans H; with_reducible exact H2_) | with_reducible exact H | (rw [hy499]; exact H) | exact H
   have Ny499 := A_ hy499
   clear hy499
   replace H := Option.bind_eq_some_iff.mp H
   obtain ⟨⟨t502, t503, t504⟩, A330, H⟩ := H
   replace H : (if t482.length < 17592186044416 then (some (t482 ++ [t502])) else (none)) = some r := H
   have A33 := A_ A330
   clear A330
   by_cases c34 : t482.length < 17592186044416
   rotate_left
   ·rw [if_neg c34] at H
    exact absurd H (by simp)
   rw [if_pos c34] at H
   have LMc34 := A_ c34
   clear c34
   obtain ⟨y505, hy505⟩ : ∃ y_ : List Int, y_ = (t482 ++ [t502]) := ⟨_, rfl⟩
   replace H : (some y505) = some r := by first | (rw [hy505]; with_reducible exact H) | (have H2_ := (Option.bind_some _ _).symm.trans H; rw [hy505]; with_reducible exact H2_) | (have H2_ := (Option.bind_some _ _).symm.trans H; with_reducible exact H2_) | with_reducible exact H | (rw [hy505]; exact H) | exact H
   have Ny505 := A_ hy505
   clear hy505
   obtain rfl := Option.some.inj H
   go_enter Try.func80, Try.ntmps80
   go_wp2_with (first | ((with_reducible refine gate_callee (f := 99) rfl ?_); refine goesL_ (some 7) rfl rfl Try.func99 (by kernel_rfl) rfl #[.slice A0 l0.length c0] rfl eg ?_; (with_reducible refine (spec_l01From.calls k _ _ l0 t464 t465 t466 w _ ?side1 ?side2 ?side3 A2.out).mono ?_); (case side1 => exact el HB); (case side2 => exact HR0.out); (case side3 => exact HC0.out); rintro e w35 ⟨g467, rfl, hi, hb, hb2⟩; refine ⟨_, rfl, ?_⟩; have n0_ := A_ (hb); have n1_ := A_ (hi); clear HB; have HB := n0_; have HI467 := n1_; clear n0_ n1_; (try clear hb); (try clear hb2); (try clear hk); (try clear hi)) | ((with_reducible refine gate_dst (N := 12) rfl ?_); refine Kd.R_lit (Kd.int .i64) _ 2 ?hg (N := 12) ?hd (xs := ([6, 20] : List Int)) (inner := [.int .i64 6, .int .i64 20]) (ok := fun _ => True) (okp := fun _ => True) ?hr ?hp (fun _ hk => hk) trivial (Below.refl _ _) (Nat.le_refl _) (by simp) ?_; (case hd => rfl); (case hg => rfl); (case hr => first | (go_simp; done) | (go_simp; rfl)); (case hp => exact (Reps.one (show Kd.M (Kd.int .i64) _ _ _ 6 [.int .i64 6] from rfl) (Reps.one (show Kd.M (Kd.int .i64) _ _ _ 20 [.int .i64 20] from rfl) (Reps.none _ _)))); intro v469 w36 ho37 hb hg_ hnew_; clear hg_ hnew_; (first | rw [← Ny468.out] at ho37 | (simp only [Int.reduceToNat] at ho37; rw [← Ny468.out] at ho37)); have n0_ := A_ (Kd.R_lower ho37 (below_size (em121 HB))); have n1_ := A_ (IsS121.below (ei121 HI467) hb); have n2_ := A_ (below_step (em121 HB) hb); clear HI467; clear HB; have HO470 := n0_; have HI467 := n1_; have HB := n2_; clear n0_ n1_ n2_; clear hb ho37; obtain ⟨Ao38, co38, eo38⟩ := Kd.R_slice HO470.out; subst eo38) | ((with_reducible refine gate_callee (f := 147) rfl ?_); refine goesL_ (some 13) rfl rfl Try.func147 (by kernel_rfl) rfl #[.pointer (some ⟨g467, 0, none⟩), .slice Ao38 y468.length co38] rfl eg ?_; (with_reducible refine (spec_l01Pick.calls g467 t464 t465 t466 _ _ y468 t471 t472 t473 w _ ?side1 ?side2 ?side3 ?side4 ?side5 A3.out).mono ?_); (case side1 => exact ei121 HI467); (case side2 => exact em121 HB); (case side3 => repeat (first | exact (Kd.R_reads' HO470.out).2.2 | (with_reducible refine Kd.C_alloc ?_ _) | (with_reducible refine Kd.C_drewN ?_ _) | (with_reducible refine Kd.C_drew ?_))); (case side4 => exact (Kd.R_reads' HO470.out).2.1); (case side5 => exact far_slice (IsS121.own_ne HI467.out HO470.out (by decide))); rintro e w39 ⟨rfl, hi, hb, hk⟩; refine ⟨_, rfl, ?_⟩; have n0_ := A_ (Kd.R_mono (Kd.R_keep (IsS121.apart (show IsS121 w _ g467 t464 t465 t466 from ei121 HI467) (ea HO470) (by decide)) hk (fun _ h => h.2)) (fun _ h => h.1)); have n1_ := A_ (hb); have n2_ := A_ (hi); clear HO470; clear HB; clear HI467; have HO470 := n0_; have HB := n1_; have HI467 := n2_; clear n0_ n1_ n2_; (try clear hb); (try clear hb2); (try clear hk); (try clear hi)) | ((with_reducible refine gate_callee (f := 123) rfl ?_); refine goesL_ (some 14) rfl rfl Try.func123 (by kernel_rfl) rfl #[.pointer (some ⟨g467, 0, none⟩), .int .i64 t471] rfl eg ?_; (with_reducible refine (spec_l01Next.calls g467 t464 t472 t473 t471 t474 t475 t476 w _ ?side1 ?side2 A4.out).mono ?_); (case side1 => exact ei121 HI467); (case side2 => exact em121 HB); rintro e w40 ⟨rfl, hi, hb, hk⟩; refine ⟨_, rfl, ?_⟩; have n0_ := A_ (Kd.R_mono (Kd.R_keep (IsS121.apart (show IsS121 w _ g467 t464 t472 t473 from ei121 HI467) (ea HO470) (by decide)) hk (fun _ h => h.2)) (fun _ h => h.1)); have n1_ := A_ (hb); have n2_ := A_ (hi); clear HO470; clear HB; clear HI467; have HO470 := n0_; have HB := n1_; have HI467 := n2_; clear n0_ n1_ n2_; (try clear hb); (try clear hb2); (try clear hk); (try clear hi)) | ((with_reducible refine gate_callee (f := 143) rfl ?_); refine goesL_ (some 16) rfl rfl Try.func143 (by kernel_rfl) rfl #[.pointer (some ⟨g467, 0, none⟩), .int .i64 (wrap64 (1 + t474))] rfl eg ?_; (with_reducible refine (spec_l01DrawOf.calls k g467 t464 t475 t476 (wrap64 (1 + t474)) t477 t480 t481 w _ ?side1 ?side2 A5.out).mono ?_); (case side1 => exact ei121 HI467); (case side2 => exact em121 HB); rintro e w41 ⟨v478, rfl, ho0, hi, hb, hk⟩; refine ⟨_, rfl, ?_⟩; have n0_ := A_ (Kd.R_mono (Kd.R_told (Kd.R_oldK (IsS121.apart (show IsS121 w _ g467 t464 t475 t476 from ei121 HI467) (ea HO470) (by decide)) hk) (Kd.R_base ho0)) (fun _ h_ => h_.1)); have n1_ := A_ (Kd.R_lower (Kd.R_new' ho0 (Kd.R_lt (ea HO470))) (below_size (em121 HB))); have n2_ := A_ (hb); have n3_ := A_ (hi); clear HO470; clear HB; clear HI467; have HO470 := n0_; have HO479 := n1_; have HB := n2_; have HI467 := n3_; clear n0_ n1_ n2_ n3_; (try clear hb); (try clear hb2); (try clear hk); (try clear hi); (try clear ho0); obtain ⟨Ao42, co42, eo42⟩ := Kd.R_slice HO479.out; subst eo42) | ((with_reducible refine gate_callee (f := 79) rfl ?_); refine goesL_ (some 17) rfl rfl Try.func79 (by kernel_rfl) rfl #[.agg #[.slice Ao42 t477.length co42]] rfl eg ?_; (with_reducible refine (spec_CountsOfTree.calls k _ _ t477 t482 t485 _ ?side1 ?side2 A6.out).mono ?_); (case side1 => repeat (first | exact (Kd.R_reads' HO479.out).2.2 | (with_reducible refine Kd.C_alloc ?_ _) | (with_reducible refine Kd.C_drewN ?_ _) | (with_reducible refine Kd.C_drew ?_))); (case side2 => exact (Kd.R_reads' HO479.out).2.1); rintro e w43 ⟨v483, rfl, ho0, hb⟩; refine ⟨_, rfl, ?_⟩; have n0_ := A_ (Kd.R_elder' (ea HO470) (Kd.R_base ho0) hb); have n1_ := A_ (Kd.R_elder' (ea HO479) (Kd.R_base ho0) hb); have n2_ := A_ (Kd.R_lower (Kd.R_new' (Kd.R_new' ho0 (Kd.R_lt (ea HO470))) (Kd.R_lt (ea HO479))) (below_size (em121 HB))); have n3_ := A_ (IsS121.below (ei121 HI467) hb); have n4_ := A_ (below_step (em121 HB) hb); clear HO470; clear HO479; clear HI467; clear HB; have HO470 := n0_; have HO479 := n1_; have HO484 := n2_; have HI467 := n3_; have HB := n4_; clear n0_ n1_ n2_ n3_ n4_; (try clear hb); (try clear hb2); (try clear hk); (try clear hi); (try clear ho0)) | ((with_reducible refine gate_callee (f := 123) rfl ?_); refine goesL_ (some 21) rfl rfl Try.func123 (by kernel_rfl) rfl #[.pointer (some ⟨g467, 0, none⟩), .int .i64 8] rfl eg ?_; (with_reducible refine (spec_l01Next.calls g467 t464 t480 t481 8 t486 t487 t488 w _ ?side1 ?side2 A7.out).mono ?_); (case side1 => exact ei121 HI467); (case side2 => exact em121 HB); rintro e w44 ⟨rfl, hi, hb, hk⟩; refine ⟨_, rfl, ?_⟩; have n0_ := A_ (Kd.R_mono (Kd.R_keep (IsS121.apart (show IsS121 w _ g467 t464 t480 t481 from ei121 HI467) (ea HO470) (by decide)) hk (fun _ h => h.2)) (fun _ h => h.1)); have n1_ := A_ (Kd.R_mono (Kd.R_keep (IsS121.apart (show IsS121 w _ g467 t464 t480 t481 from ei121 HI467) (ea HO479) (by decide)) hk (fun _ h => h.2)) (fun _ h => h.1)); have n2_ := A_ (Kd.R_mono (Kd.R_keep (IsS121.apart (show IsS121 w _ g467 t464 t480 t481 from ei121 HI467) (ea HO484) (by decide)) hk (fun _ h => h.2)) (fun _ h => h.1)); have n3_ := A_ (hb); have n4_ := A_ (hi); clear HO470; clear HO479; clear HO484; clear HB; clear HI467; have HO470 := n0_; have HO479 := n1_; have HO484 := n2_; have HB := n3_; have HI467 := n4_; clear n0_ n1_ n2_ n3_ n4_; (try clear hb); (try clear hb2); (try clear hk); (try clear hi)) | ((with_reducible refine gate_dst (N := 37) rfl ?_); refine Kd.R_lit (Kd.int .i64) _ 2 ?hg (N := 37) ?hd (xs := ([0, 1] : List Int)) (inner := [.int .i64 0, .int .i64 1]) (ok := fun _ => True) (okp := fun _ => True) ?hr ?hp (fun _ hk => hk) trivial (Below.refl _ _) (Nat.le_refl _) (by simp) ?_; (case hd => rfl); (case hg => rfl); (case hr => first | (go_simp; done) | (go_simp; rfl)); (case hp => exact (Reps.one (show Kd.M (Kd.int .i64) _ _ _ 0 [.int .i64 0] from rfl) (Reps.one (show Kd.M (Kd.int .i64) _ _ _ 1 [.int .i64 1] from rfl) (Reps.none _ _)))); intro v500 w45 ho46 hb hg_ hnew_; clear hg_ hnew_; (first | rw [← Ny499.out] at ho46 | (simp only [Int.reduceToNat] at ho46; rw [← Ny499.out] at ho46)); have n0_ := A_ (Kd.R_elder' (ea HO470) (Kd.R_base ho46) hb); have n1_ := A_ (Kd.R_elder' (ea HO479) (Kd.R_base ho46) hb); have n2_ := A_ (Kd.R_elder' (ea HO484) (Kd.R_base ho46) hb); have n3_ := A_ (Kd.R_lower (Kd.R_new' (Kd.R_new' (Kd.R_new' ho46 (Kd.R_lt (ea HO470))) (Kd.R_lt (ea HO479))) (Kd.R_lt (ea HO484))) (below_size (em121 HB))); have n4_ := A_ (IsS121.below (ei121 HI467) hb); have n5_ := A_ (below_step (em121 HB) hb); clear HO470; clear HO479; clear HO484; clear HI467; clear HB; have HO470 := n0_; have HO479 := n1_; have HO484 := n2_; have HO501 := n3_; have HI467 := n4_; have HB := n5_; clear n0_ n1_ n2_ n3_ n4_ n5_; clear hb ho46; obtain ⟨Ao47, co47, eo47⟩ := Kd.R_slice HO501.out; subst eo47) | ((with_reducible refine gate_callee (f := 147) rfl ?_); refine goesL_ (some 38) rfl rfl Try.func147 (by kernel_rfl) rfl #[.pointer (some ⟨g467, 0, none⟩), .slice Ao47 y499.length co47] rfl eg ?_; (with_reducible refine (spec_l01Pick.calls g467 t464 t487 t488 _ _ y499 t502 t503 t504 w _ ?side1 ?side2 ?side3 ?side4 ?side5 A33.out).mono ?_); (case side1 => exact ei121 HI467); (case side2 => exact em121 HB); (case side3 => repeat (first | exact (Kd.R_reads' HO501.out).2.2 | (with_reducible refine Kd.C_alloc ?_ _) | (with_reducible refine Kd.C_drewN ?_ _) | (with_reducible refine Kd.C_drew ?_))); (case side4 => exact (Kd.R_reads' HO501.out).2.1); (case side5 => exact far_slice (IsS121.own_ne HI467.out HO501.out (by decide))); rintro e w48 ⟨rfl, hi, hb, hk⟩; refine ⟨_, rfl, ?_⟩; have n0_ := A_ (Kd.R_mono (Kd.R_keep (IsS121.apart (show IsS121 w _ g467 t464 t487 t488 from ei121 HI467) (ea HO470) (by decide)) hk (fun _ h => h.2)) (fun _ h => h.1)); have n1_ := A_ (Kd.R_mono (Kd.R_keep (IsS121.apart (show IsS121 w _ g467 t464 t487 t488 from ei121 HI467) (ea HO479) (by decide)) hk (fun _ h => h.2)) (fun _ h => h.1)); have n2_ := A_ (Kd.R_mono (Kd.R_keep (IsS121.apart (show IsS121 w _ g467 t464 t487 t488 from ei121 HI467) (ea HO484) (by decide)) hk (fun _ h => h.2)) (fun _ h => h.1)); have n3_ := A_ (Kd.R_mono (Kd.R_keep (IsS121.apart (show IsS121 w _ g467 t464 t487 t488 from ei121 HI467) (ea HO501) (by decide)) hk (fun _ h => h.2)) (fun _ h => h.1)); have n4_ := A_ (hb); have n5_ := A_ (hi); clear HO470; clear HO479; clear HO484; clear HO501; clear HB; clear HI467; have HO470 := n0_; have HO479 := n1_; have HO484 := n2_; have HO501 := n3_; have HB := n4_; have HI467 := n5_; clear n0_ n1_ n2_ n3_ n4_ n5_; (try clear hb); (try clear hb2); (try clear hk); (try clear hi)) | ((with_reducible refine gate_builtin (b := .append) (xs := #[.tmp 35, .tmp 39]) rfl ?_); at_builtin; refine Kd.R_append (Kd.int .i64) (w0 := w) w.heap.size rfl (.tmp 35) (.tmp 39) 24 2 (.int .i64 0) 8 rfl Try.underlying24 info2 rfl (by decide) (by omega) v483 t482 t502 [.int .i64 t502] (fun k_ => some k_ ≠ (.slice Ao38 y468.length co38 : Value).ownBlock ∧ some k_ ≠ (.slice Ao42 t477.length co42 : Value).ownBlock ∧ some k_ ≠ (.slice Ao47 y499.length co47 : Value).ownBlock) (fun _ => False) rfl rfl ?aP (fun _ hk => hk.elim) ?aF ?aO ?aB ?aS ?aL ?_; (case aP => exact rfl); (case aB => exact (em121 HB)); (case aF => exact (fun k_ hk => ⟨Kd.fresh' (Kd.R_lt (ea HO470)) k_ hk, Kd.fresh' (Kd.R_lt (ea HO479)) k_ hk, Kd.fresh' (Kd.R_lt (ea HO501)) k_ hk⟩)); (case aO => exact (by (with_reducible repeat (first | apply Kd.R_alloc | apply Kd.R_drewN | apply Kd.R_drew)); exact Kd.R_mono HO484.out (fun _ hk => ⟨hk.1.1.2, ⟨hk.1.2, hk.2⟩⟩))); (case aS => exact (below_size (em121 HB))); (case aL => have := LMc34.out; omega); intro v506 w49 ho hb hg hat; rw [← Ny505.out] at ho; have n0_ := A_ (IsS121.grown (ei121 HI467) hg (IsS121.own_ne HI467.out HO484.out (by decide))); have n1_ := A_ (Kd.R_after (ok := (fun k_ => some k_ ≠ (.slice Ao42 t477.length co42 : Value).ownBlock ∧ some k_ ≠ (.slice Ao47 y499.length co47 : Value).ownBlock)) spec_DrawCountByCounts.Z0 hg hat); have n2_ := A_ (Kd.R_after (ok := (fun k_ => some k_ ≠ (.slice Ao38 y468.length co38 : Value).ownBlock ∧ some k_ ≠ (.slice Ao47 y499.length co47 : Value).ownBlock)) spec_DrawCountByCounts.Z1 hg hat); have n3_ := A_ (Kd.R_after (ok := (fun k_ => some k_ ≠ (.slice Ao38 y468.length co38 : Value).ownBlock ∧ some k_ ≠ (.slice Ao42 t477.length co42 : Value).ownBlock)) (by (with_reducible repeat (first | apply Kd.R_alloc | apply Kd.R_drewN | apply Kd.R_drew)); exact Kd.R_mono HO501.out (fun _ hk => ⟨⟨hk.1.1.2, hk.1.2⟩, hk.2⟩)) hg hat); have n4_ := A_ (hb); have n5_ := A_ (ho); clear HI467; clear HO470; clear HO479; clear HO501; clear HB; clear HO484; have HI467 := n0_; have HO470 := n1_; have HO479 := n2_; have HO501 := n3_; have HB := n4_; have HO507 := n5_; clear n0_ n1_ n2_ n3_ n4_ n5_; clear ho hb hg hat))
   go_ret
   exact ⟨_, er, by (with_reducible repeat (first | apply Kd.R_alloc | apply Kd.R_drewN | apply Kd.R_drew)); exact Kd.R_mono HO507.out (fun _ hk => trivial), em121 HB⟩
  ·rw [if_neg c32] at H
   have c32b0 : (t486 == 1) = false := beq_eq_false_iff_ne.mpr c32
   have c32b1 : (t486 != 1) = true := bne_iff_ne.mpr c32
   obtain rfl := Option.some.inj H
   go_enter Try.func80, Try.ntmps80
   go_wp2_with (first | ((with_reducible refine gate_callee (f := 99) rfl ?_); refine goesL_ (some 7) rfl rfl Try.func99 (by kernel_rfl) rfl #[.slice A0 l0.length c0] rfl eg ?_; (with_reducible refine (spec_l01From.calls k _ _ l0 t464 t465 t466 w _ ?side1 ?side2 ?side3 A2.out).mono ?_); (case side1 => exact el HB); (case side2 => exact HR0.out); (case side3 => exact HC0.out); rintro e w50 ⟨g467, rfl, hi, hb, hb2⟩; refine ⟨_, rfl, ?_⟩; have n0_ := A_ (hb); have n1_ := A_ (hi); clear HB; have HB := n0_; have HI467 := n1_; clear n0_ n1_; (try clear hb); (try clear hb2); (try clear hk); (try clear hi)) | ((with_reducible refine gate_dst (N := 12) rfl ?_); refine Kd.R_lit (Kd.int .i64) _ 2 ?hg (N := 12) ?hd (xs := ([6, 20] : List Int)) (inner := [.int .i64 6, .int .i64 20]) (ok := fun _ => True) (okp := fun _ => True) ?hr ?hp (fun _ hk => hk) trivial (Below.refl _ _) (Nat.le_refl _) (by simp) ?_; (case hd => rfl); (case hg => rfl); (case hr => first | (go_simp; done) | (go_simp; rfl)); (case hp => exact (Reps.one (show Kd.M (Kd.int .i64) _ _ _ 6 [.int .i64 6] from rfl) (Reps.one (show Kd.M (Kd.int .i64) _ _ _ 20 [.int .i64 20] from rfl) (Reps.none _ _)))); intro v469 w51 ho52 hb hg_ hnew_; clear hg_ hnew_; (first | rw [← Ny468.out] at ho52 | (simp only [Int.reduceToNat] at ho52; rw [← Ny468.out] at ho52)); have n0_ := A_ (Kd.R_lower ho52 (below_size (em121 HB))); have n1_ := A_ (IsS121.below (ei121 HI467) hb); have n2_ := A_ (below_step (em121 HB) hb); clear HI467; clear HB; have HO470 := n0_; have HI467 := n1_; have HB := n2_; clear n0_ n1_ n2_; clear hb ho52; obtain ⟨Ao53, co53, eo53⟩ := Kd.R_slice HO470.out; subst eo53) | ((with_reducible refine gate_callee (f := 147) rfl ?_); refine goesL_ (some 13) rfl rfl Try.func147 (by kernel_rfl) rfl #[.pointer (some ⟨g467, 0, none⟩), .slice Ao53 y468.length co53] rfl eg ?_; (with_reducible refine (spec_l01Pick.calls g467 t464 t465 t466 _ _ y468 t471 t472 t473 w _ ?side1 ?side2 ?side3 ?side4 ?side5 A3.out).mono ?_); (case side1 => exact ei121 HI467); (case side2 => exact em121 HB); (case side3 => repeat (first | exact (Kd.R_reads' HO470.out).2.2 | (with_reducible refine Kd.C_alloc ?_ _) | (with_reducible refine Kd.C_drewN ?_ _) | (with_reducible refine Kd.C_drew ?_))); (case side4 => exact (Kd.R_reads' HO470.out).2.1); (case side5 => exact far_slice (IsS121.own_ne HI467.out HO470.out (by decide))); rintro e w54 ⟨rfl, hi, hb, hk⟩; refine ⟨_, rfl, ?_⟩; have n0_ := A_ (Kd.R_mono (Kd.R_keep (IsS121.apart (show IsS121 w _ g467 t464 t465 t466 from ei121 HI467) (ea HO470) (by decide)) hk (fun _ h => h.2)) (fun _ h => h.1)); have n1_ := A_ (hb); have n2_ := A_ (hi); clear HO470; clear HB; clear HI467; have HO470 := n0_; have HB := n1_; have HI467 := n2_; clear n0_ n1_ n2_; (try clear hb); (try clear hb2); (try clear hk); (try clear hi)) | ((with_reducible refine gate_callee (f := 123) rfl ?_); refine goesL_ (some 14) rfl rfl Try.func123 (by kernel_rfl) rfl #[.pointer (some ⟨g467, 0, none⟩), .int .i64 t471] rfl eg ?_; (with_reducible refine (spec_l01Next.calls g467 t464 t472 t473 t471 t474 t475 t476 w _ ?side1 ?side2 A4.out).mono ?_); (case side1 => exact ei121 HI467); (case side2 => exact em121 HB); rintro e w55 ⟨rfl, hi, hb, hk⟩; refine ⟨_, rfl, ?_⟩; have n0_ := A_ (Kd.R_mono (Kd.R_keep (IsS121.apart (show IsS121 w _ g467 t464 t472 t473 from ei121 HI467) (ea HO470) (by decide)) hk (fun _ h => h.2)) (fun _ h => h.1)); have n1_ := A_ (hb); have n2_ := A_ (hi); clear HO470; clear HB; clear HI467; have HO470 := n0_; have HB := n1_; have HI467 := n2_; clear n0_ n1_ n2_; (try clear hb); (try clear hb2); (try clear hk); (try clear hi)) | ((with_reducible refine gate_callee (f := 143) rfl ?_); refine goesL_ (some 16) rfl rfl Try.func143 (by kernel_rfl) rfl #[.pointer (some ⟨g467, 0, none⟩), .int .i64 (wrap64 (1 + t474))] rfl eg ?_; (with_reducible refine (spec_l01DrawOf.calls k g467 t464 t475 t476 (wrap64 (1 + t474)) t477 t480 t481 w _ ?side1 ?side2 A5.out).mono ?_); (case side1 => exact ei121 HI467); (case side2 => exact em121 HB); rintro e w56 ⟨v478, rfl, ho0, hi, hb, hk⟩; refine ⟨_, rfl, ?_⟩; have n0_ := A_ (Kd.R_mono (Kd.R_told (Kd.R_oldK (IsS121.apart (show IsS121 w _ g467 t464 t475 t476 from ei121 HI467) (ea HO470) (by decide)) hk) (Kd.R_base ho0)) (fun _ h_ => h_.1)); have n1_ := A_ (Kd.R_lower (Kd.R_new' ho0 (Kd.R_lt (ea HO470))) (below_size (em121 HB))); have n2_ := A_ (hb); have n3_ := A_ (hi); clear HO470; clear HB; clear HI467; have HO470 := n0_; have HO479 := n1_; have HB := n2_; have HI467 := n3_; clear n0_ n1_ n2_ n3_; (try clear hb); (try clear hb2); (try clear hk); (try clear hi); (try clear ho0); obtain ⟨Ao57, co57, eo57⟩ := Kd.R_slice HO479.out; subst eo57) | ((with_reducible refine gate_callee (f := 79) rfl ?_); refine goesL_ (some 17) rfl rfl Try.func79 (by kernel_rfl) rfl #[.agg #[.slice Ao57 t477.length co57]] rfl eg ?_; (with_reducible refine (spec_CountsOfTree.calls k _ _ t477 t482 t485 _ ?side1 ?side2 A6.out).mono ?_); (case side1 => repeat (first | exact (Kd.R_reads' HO479.out).2.2 | (with_reducible refine Kd.C_alloc ?_ _) | (with_reducible refine Kd.C_drewN ?_ _) | (with_reducible refine Kd.C_drew ?_))); (case side2 => exact (Kd.R_reads' HO479.out).2.1); rintro e w58 ⟨v483, rfl, ho0, hb⟩; refine ⟨_, rfl, ?_⟩; have n0_ := A_ (Kd.R_elder' (ea HO470) (Kd.R_base ho0) hb); have n1_ := A_ (Kd.R_elder' (ea HO479) (Kd.R_base ho0) hb); have n2_ := A_ (Kd.R_lower (Kd.R_new' (Kd.R_new' ho0 (Kd.R_lt (ea HO470))) (Kd.R_lt (ea HO479))) (below_size (em121 HB))); have n3_ := A_ (IsS121.below (ei121 HI467) hb); have n4_ := A_ (below_step (em121 HB) hb); clear HO470; clear HO479; clear HI467; clear HB; have HO470 := n0_; have HO479 := n1_; have HO484 := n2_; have HI467 := n3_; have HB := n4_; clear n0_ n1_ n2_ n3_ n4_; (try clear hb); (try clear hb2); (try clear hk); (try clear hi); (try clear ho0)) | ((with_reducible refine gate_callee (f := 123) rfl ?_); refine goesL_ (some 21) rfl rfl Try.func123 (by kernel_rfl) rfl #[.pointer (some ⟨g467, 0, none⟩), .int .i64 8] rfl eg ?_; (with_reducible refine (spec_l01Next.calls g467 t464 t480 t481 8 t486 t487 t488 w _ ?side1 ?side2 A7.out).mono ?_); (case side1 => exact ei121 HI467); (case side2 => exact em121 HB); rintro e w59 ⟨rfl, hi, hb, hk⟩; refine ⟨_, rfl, ?_⟩; have n0_ := A_ (Kd.R_mono (Kd.R_keep (IsS121.apart (show IsS121 w _ g467 t464 t480 t481 from ei121 HI467) (ea HO470) (by decide)) hk (fun _ h => h.2)) (fun _ h => h.1)); have n1_ := A_ (Kd.R_mono (Kd.R_keep (IsS121.apart (show IsS121 w _ g467 t464 t480 t481 from ei121 HI467) (ea HO479) (by decide)) hk (fun _ h => h.2)) (fun _ h => h.1)); have n2_ := A_ (Kd.R_mono (Kd.R_keep (IsS121.apart (show IsS121 w _ g467 t464 t480 t481 from ei121 HI467) (ea HO484) (by decide)) hk (fun _ h => h.2)) (fun _ h => h.1)); have n3_ := A_ (hb); have n4_ := A_ (hi); clear HO470; clear HO479; clear HO484; clear HB; clear HI467; have HO470 := n0_; have HO479 := n1_; have HO484 := n2_; have HB := n3_; have HI467 := n4_; clear n0_ n1_ n2_ n3_ n4_; (try clear hb); (try clear hb2); (try clear hk); (try clear hi)))
   go_ret
   exact ⟨_, er, by (with_reducible repeat (first | apply Kd.R_alloc | apply Kd.R_drewN | apply Kd.R_drew)); exact Kd.R_mono HO484.out (fun _ hk => trivial), em121 HB⟩

/-! ### impl_CountByCounts: function 81 -/
mutual
def impl_CountByCounts.j0 : Nat → List Int → Bool → Option (Int × Int)
  | 0, _, _ => none
  | k + 1, x0, x28 => if x28 = true then (some (0, 2)) else (impl_CountByCounts.l0 k x0 0 0 x0 (x0.length : Int) 0)
def impl_CountByCounts.l0 : Nat → List Int → Int → Int → List Int → Int → Int → Option (Int × Int)
  | 0, _, _, _, _, _, _ => none
  | k + 1, x0, x4, x5, x29, x30, x31 => if x31 < x30 then (if 0 ≤ x31 then (if x31 < (x29.length : Int) then (if (rd x29 x31) < 0 then (some (0, 2)) else (if (rd x29 x31) > 20 then (some (0, 2)) else (impl_CountByCounts.l0 k x0 (wrap64 (x4 + (rd x29 x31))) (wrap64 (x5 + (wrap64 (x31 * (rd x29 x31))))) x29 x30 (wrap64 (x31 + 1))))) else (none)) else (none)) else (if x4 > 20 then (some (0, 2)) else (if x5 = (wrap64 (x4 - 1)) then (impl_CountByCounts.l1 k x4 1 x4 x0 (x0.length : Int) 0) else (some (0, 5))))
def impl_CountByCounts.l1 : Nat → Int → Int → Int → List Int → Int → Int → Option (Int × Int)
  | 0, _, _, _, _, _, _ => none
  | k + 1, x4, x8, x9, x60, x61, x62 => if x62 < x61 then (if 0 ≤ x62 then (if x62 < (x60.length : Int) then ((impl_choose.f k x9 (rd x60 x62)).bind fun t511 => (impl_CountByCounts.l1 k x4 (wrap64 (x8 * t511)) (wrap64 (x9 - (rd x60 x62))) x60 x61 (wrap64 (x62 + 1)))) else (none)) else (none)) else (if x4 = 0 then (none) else (some (wrap64 (Int.tdiv x8 x4), 0)))
end
def impl_CountByCounts.f (k : Nat) (l0 : List Int) : Option (Int × Int) := if (l0.length : Int) < 1 then (impl_CountByCounts.j0 k l0 true) else (if (l0.length : Int) > 30 then (impl_CountByCounts.j0 k l0 true) else (if 0 ≤ (wrap64 ((l0.length : Int) - 1)) then (if (wrap64 ((l0.length : Int) - 1)) < (l0.length : Int) then (impl_CountByCounts.j0 k l0 ((rd l0 (wrap64 ((l0.length : Int) - 1))) == 0)) else (none)) else (none)))
theorem impl_CountByCounts.mono_l : ∀ k, (∀ y0 y1, LeO (impl_CountByCounts.j0 k y0 y1) (impl_CountByCounts.j0 (k + 1) y0 y1)) ∧ (∀ y0 y1 y2 y3 y4 y5, LeO (impl_CountByCounts.l0 k y0 y1 y2 y3 y4 y5) (impl_CountByCounts.l0 (k + 1) y0 y1 y2 y3 y4 y5)) ∧ (∀ y0 y1 y2 y3 y4 y5, LeO (impl_CountByCounts.l1 k y0 y1 y2 y3 y4 y5) (impl_CountByCounts.l1 (k + 1) y0 y1 y2 y3 y4 y5))
  | 0 => ⟨fun _ _ r h => by simp [impl_CountByCounts.j0] at h, fun _ _ _ _ _ _ r h => by simp [impl_CountByCounts.l0] at h, fun _ _ _ _ _ _ r h => by simp [impl_CountByCounts.l1] at h⟩
  | k + 1 => by
    obtain ⟨ih0, ih1, ih2⟩ := impl_CountByCounts.mono_l k
    refine ⟨?_, ?_, ?_⟩
    · intro y0 y1
      unfold impl_CountByCounts.j0
      repeat' first
      | (with_reducible exact ih0 _ _)
      | (with_reducible exact ih1 _ _ _ _ _ _)
      | (with_reducible exact ih2 _ _ _ _ _ _)
      | (with_reducible exact impl_choose.mono _ _ _)
      | (with_reducible exact LeO.refl _)
      | (with_reducible exact LeO.none _)
      | (with_reducible refine LeO.ite ?_ ?_)
      | (with_reducible refine LeO.bind ?_ (fun _ => ?_))
      | exact ih0 _ _
      | exact ih1 _ _ _ _ _ _
      | exact ih2 _ _ _ _ _ _
      | exact impl_choose.mono _ _ _
      | exact LeO.none _
      | refine LeO.ite ?_ ?_
      | refine LeO.bind ?_ (fun _ => ?_)
    · intro y0 y1 y2 y3 y4 y5
      unfold impl_CountByCounts.l0
      repeat' first
      | (with_reducible exact ih0 _ _)
      | (with_reducible exact ih1 _ _ _ _ _ _)
      | (with_reducible exact ih2 _ _ _ _ _ _)
      | (with_reducible exact impl_choose.mono _ _ _)
      | (with_reducible exact LeO.refl _)
      | (with_reducible exact LeO.none _)
      | (with_reducible refine LeO.ite ?_ ?_)
      | (with_reducible refine LeO.bind ?_ (fun _ => ?_))
      | exact ih0 _ _
      | exact ih1 _ _ _ _ _ _
      | exact ih2 _ _ _ _ _ _
      | exact impl_choose.mono _ _ _
      | exact LeO.none _
      | refine LeO.ite ?_ ?_
      | refine LeO.bind ?_ (fun _ => ?_)
    · intro y0 y1 y2 y3 y4 y5
      unfold impl_CountByCounts.l1
      repeat' first
      | (with_reducible exact ih0 _ _)
      | (with_reducible exact ih1 _ _ _ _ _ _)
      | (with_reducible exact ih2 _ _ _ _ _ _)
      | (with_reducible exact impl_choose.mono _ _ _)
      | (with_reducible exact LeO.refl _)
      | (with_reducible exact LeO.none _)
      | (with_reducible refine LeO.ite ?_ ?_)
      | (with_reducible refine LeO.bind ?_ (fun _ => ?_))
      | exact ih0 _ _
      | exact ih1 _ _ _ _ _ _
      | exact ih2 _ _ _ _ _ _
      | exact impl_choose.mono _ _ _
      | exact LeO.none _
      | refine LeO.ite ?_ ?_
      | refine LeO.bind ?_ (fun _ => ?_)
theorem impl_CountByCounts.mono : ∀ a0 k, LeO (impl_CountByCounts.f k a0) (impl_CountByCounts.f (k + 1) a0) := by
  intro a0 k
  obtain ⟨ih0, ih1, ih2⟩ := impl_CountByCounts.mono_l k
  unfold impl_CountByCounts.f
  repeat' first
      | (with_reducible exact ih0 _ _)
      | (with_reducible exact ih1 _ _ _ _ _ _)
      | (with_reducible exact ih2 _ _ _ _ _ _)
      | (with_reducible exact impl_choose.mono _ _ _)
      | (with_reducible exact LeO.refl _)
      | (with_reducible exact LeO.none _)
      | (with_reducible refine LeO.ite ?_ ?_)
      | (with_reducible refine LeO.bind ?_ (fun _ => ?_))
      | exact ih0 _ _
      | exact ih1 _ _ _ _ _ _
      | exact ih2 _ _ _ _ _ _
      | exact impl_choose.mono _ _ _
      | exact LeO.none _
      | refine LeO.ite ?_ ?_
      | refine LeO.bind ?_ (fun _ => ?_)
theorem impl_CountByCounts.Z0 {p : Prop} (h : p := by first | (with_reducible assumption) | assumption) : p := h
theorem impl_CountByCounts.Z1 {p : Prop} (h : p := by first | rfl | (simp; done) | (simp [*]; done)) : p := h
set_option maxHeartbeats 8000000 in
set_option maxRecDepth 100000 in
theorem impl_CountByCounts.calls (k : Nat) (A0 : Option Addr) (c0 : Nat) (l0 : List Int) (r1 : Int) (r2 : Int) (w : World) (hr0 : Kd.C (Kd.int .i64) w A0 l0.length l0) (hc0 : l0.length ≤ c0) (h : impl_CountByCounts.f k l0 = some (r1, r2)) :
  Calls Try.prog 81 #[.slice A0 l0.length c0] w fun e w' => e = .returned (.tuple #[.int .i64 r1, .int .i64 r2]) ∧ Drawn0 w w' := by
 have HR0 := A_ hr0
 have HC0 := A_ hc0
 clear hr0 hc0
 have H : (if (l0.length : Int) < 1 then (impl_CountByCounts.j0 k l0 true) else (if (l0.length : Int) > 30 then (impl_CountByCounts.j0 k l0 true) else (if 0 ≤ (wrap64 ((l0.length : Int) - 1)) then (if (wrap64 ((l0.length : Int) - 1)) < (l0.length : Int) then (impl_CountByCounts.j0 k l0 ((rd l0 (wrap64 ((l0.length : Int) - 1))) == 0)) else (none)) else (none)))) = some (r1, r2) := h
 clear h
 have HC2 := A_ H
 clear H
 go_enter Try.func81, Try.ntmps81
 go_upto_region 1 with (fail)
 go_cut [28] (fun v28 wc => ∃ (kq : Nat) (x28_1 : Bool), v28 = .bool x28_1 ∧ Aside0 (impl_CountByCounts.j0 kq l0 x28_1 = some (r1, r2)) ∧ Aside0 (kq ≤ k) ∧ Drawn0 w wc)
 case first =>
  have H := HC2.out
  clear HC2
  by_cases c3 : (l0.length : Int) < 1
  ·rw [if_pos c3] at H
   have c3b0 : decide ((l0.length : Int) < 1) = true := decide_eq_true c3
   have c3b1 : decide (l0.length < 1) = true := decide_eq_true (by omega)
   clear c3
   (first | rw [c3b0] | (simp only [i64_w, i32_w]; rw [c3b0]) | skip)
   have H' := A_ H
   clear H
   go_wp2
   go_meet
   case rel => exact ⟨_, (true), impl_CountByCounts.Z1, H', ⟨by first | omega | exact Nat.le_refl _⟩, by repeat (first | exact Drawn0.refl _ | apply Drawn0.step)⟩
  ·rw [if_neg c3] at H
   have c3b0 : decide ((l0.length : Int) < 1) = false := decide_eq_false c3
   have c3b1 : decide (l0.length < 1) = false := decide_eq_false (by omega)
   clear c3
   (first | rw [c3b0] | (simp only [i64_w, i32_w]; rw [c3b0]) | skip)
   by_cases c4 : (l0.length : Int) > 30
   ·rw [if_pos c4] at H
    have c4b0 : decide (30 < (l0.length : Int)) = true := decide_eq_true c4
    have c4b1 : decide (30 < l0.length) = true := decide_eq_true (by omega)
    clear c4
    have H' := A_ H
    clear H
    go_wp2
    go_meet
    case rel => exact ⟨_, (true), impl_CountByCounts.Z1, H', ⟨by first | omega | exact Nat.le_refl _⟩, by repeat (first | exact Drawn0.refl _ | apply Drawn0.step)⟩
   ·rw [if_neg c4] at H
    have c4b0 : decide (30 < (l0.length : Int)) = false := decide_eq_false c4
    have c4b1 : decide (30 < l0.length) = false := decide_eq_false (by omega)
    clear c4
    obtain ⟨ji5, hji5⟩ : ∃ j_ : Int, (wrap64 ((l0.length : Int) - 1)) = j_ := ⟨_, rfl⟩
    replace H : (if 0 ≤ (ji5) then (if (ji5) < (l0.length : Int) then (impl_CountByCounts.j0 k l0 ((rd l0 (ji5)) == 0)) else (none)) else (none)) = some (r1, r2) := by first | (rw [hji5] at H; exact H) | (simp only [hji5] at H ⊢; exact H)
    have hji5w : (IntKind.i64.wrap ((l0.length : Int) - 1)) = ji5 := (i64_w _).trans hji5
    by_cases c6 : 0 ≤ (ji5)
    rotate_left
    ·rw [if_neg c6] at H
     exact absurd H (by simp)
    rw [if_pos c6] at H
    have c6b0 : decide (0 ≤ (ji5)) = true := decide_eq_true c6
    clear c6
    by_cases c7 : (ji5) < (l0.length : Int)
    rotate_left
    ·rw [if_neg c7] at H
     exact absurd H (by simp)
    rw [if_pos c7] at H
    have c7b0 : decide ((ji5) < (l0.length : Int)) = true := decide_eq_true c7
    clear c7
    have H' := A_ H
    clear H
    have p508 : 0 ≤ ((ji5) : Int) := of_decide_eq_true impl_CountByCounts.Z0
    have q508 : (ji5) < (l0.length : Int) := of_decide_eq_true impl_CountByCounts.Z0
    obtain ⟨ad508, e508, hx508_0⟩ := Kd.at_int HR0.out (ji5) p508 q508
    cases e508
    replace p508 := eq_true p508
    replace q508 := eq_true q508
    go_wp2
    go_meet
    case rel => exact ⟨_, (((rd l0 (ji5)) == 0)), (by first | rfl | (simp; done) | (simp only [← hji5] <;> (first | rfl | simp)) | (simp [*]; done)), H', ⟨by first | omega | exact Nat.le_refl _⟩, by repeat (first | exact Drawn0.refl _ | apply Drawn0.step)⟩
 case rest =>
  clear HC2
  try clear p2
  try clear c3
  try clear c3b0
  try clear c3b1
  try clear c4
  try clear c4b0
  try clear c4b1
  try clear p5
  try clear q5
  try clear hx5
  try clear c6
  try clear c6b0
  try clear p6
  try clear c7
  try clear c7b0
  try clear hx508_0
  try clear p508
  try clear q508
  obtain ⟨kq, x28_1, rfl, HA, HJ1, ⟨mc1, rfl⟩⟩ := hcut
  cases kq with
  | zero => exact absurd HA.out (by simp [impl_CountByCounts.j0])
  | succ kj1 =>
   have H := HA.out
   clear HA
   simp only [impl_CountByCounts.j0] at H
   by_cases c8 : x28_1 = true
   ·subst c8
    have H1 : (some (0, 2)) = some (r1, r2) := by rw [if_pos rfl] at H; exact H
    clear H
    have H := H1
    clear H1
    simp only [Option.some.injEq, Prod.mk.injEq] at H
    obtain ⟨rfl, rfl⟩ := H
    go_wp2
    go_ret2
    exact ⟨by first | rfl | (simp; done) | (simp [*]; done), by repeat (first | exact Drawn0.refl _ | apply Drawn0.step)⟩
   ·replace c8 := Bool.eq_false_iff.mpr c8
    subst c8
    have H1 : (impl_CountByCounts.l0 kj1 l0 0 0 l0 (l0.length : Int) 0) = some (r1, r2) := by rw [if_neg (show ¬ (false = true) by decide)] at H; exact H
    clear H
    have H := H1
    clear H1
    have H' := A_ H
    clear H
    go_wp2
    go_loopg [4, 5, 31] kj1 (fun kq v4 v5 v31 w' => ∃ (x4_2 : Int) (x5_2 : Int) (x31_2 : Int), v4 = .int .i64 x4_2 ∧ v5 = .int .i64 x5_2 ∧ v31 = .int .i64 x31_2 ∧ Aside0 (impl_CountByCounts.l0 kq l0 x4_2 x5_2 l0 (l0.length : Int) x31_2 = some (r1, r2)) ∧ Aside0 (kq ≤ kj1) ∧ Drawn0 w w')
    case atStart => exact ⟨(0), (0), (0), impl_CountByCounts.Z1, impl_CountByCounts.Z1, impl_CountByCounts.Z1, H', ⟨Nat.le_refl _⟩, by repeat (first | exact Drawn0.refl _ | apply Drawn0.step)⟩
    case round =>
     clear H'
     try clear c1
     try clear p2
     try clear c3
     try clear c3b0
     try clear c3b1
     try clear c4
     try clear c4b0
     try clear c4b1
     try clear p5
     try clear q5
     try clear hx5
     try clear c6
     try clear c6b0
     try clear p6
     try clear c7
     try clear c7b0
     try clear c8
     try clear hx508_0
     try clear p2
     try clear p5
     try clear p508
     try clear p6
     try clear q5
     try clear q508
     obtain ⟨x4_2, x5_2, x31_2, rfl, rfl, rfl, HA, HK2, ⟨m2, rfl⟩⟩ := hrel
     cases gk with
     | zero => exact absurd HA.out (by simp [impl_CountByCounts.l0])
     | succ k2 =>
      have H := HA.out
      clear HA
      simp only [impl_CountByCounts.l0] at H
      by_cases c9 : x31_2 < (l0.length : Int)
      ·rw [if_pos c9] at H
       have c9b0 : decide (x31_2 < (l0.length : Int)) = true := decide_eq_true c9
       clear c9
       by_cases c10 : 0 ≤ x31_2
       rotate_left
       ·rw [if_neg c10] at H
        exact absurd H (by simp)
       rw [if_pos c10] at H
       have c10b0 : decide (0 ≤ x31_2) = true := decide_eq_true c10
       clear c10
       by_cases c11 : x31_2 < (l0.length : Int)
       rotate_left
       ·rw [if_neg c11] at H
        exact absurd H (by simp)
       rw [if_pos c11] at H
       have c11b0 : decide (x31_2 < (l0.length : Int)) = true := decide_eq_true c11
       clear c11
       by_cases c12 : (rd l0 x31_2) < 0
       ·rw [if_pos c12] at H
        have c12b0 : decide ((rd l0 x31_2) < 0) = true := decide_eq_true c12
        clear c12
        simp only [Option.some.injEq, Prod.mk.injEq] at H
        obtain ⟨rfl, rfl⟩ := H
        have p509 : 0 ≤ (x31_2 : Int) := of_decide_eq_true impl_CountByCounts.Z0
        have q509 : x31_2 < (l0.length : Int) := of_decide_eq_true impl_CountByCounts.Z0
        obtain ⟨ad509, e509, hx509_0⟩ := Kd.at_int HR0.out x31_2 p509 q509
        cases e509
        replace p509 := eq_true p509
        replace q509 := eq_true q509
        go_wp2
        go_ret2
        exact ⟨by first | rfl | (simp; done) | (simp [*]; done), by repeat (first | exact Drawn0.refl _ | apply Drawn0.step)⟩
       ·rw [if_neg c12] at H
        have c12b0 : decide ((rd l0 x31_2) < 0) = false := decide_eq_false c12
        clear c12
        by_cases c13 : (rd l0 x31_2) > 20
        ·rw [if_pos c13] at H
         have c13b0 : decide (20 < (rd l0 x31_2)) = true := decide_eq_true c13
         clear c13
         simp only [Option.some.injEq, Prod.mk.injEq] at H
         obtain ⟨rfl, rfl⟩ := H
         have p509 : 0 ≤ (x31_2 : Int) := of_decide_eq_true impl_CountByCounts.Z0
         have q509 : x31_2 < (l0.length : Int) := of_decide_eq_true impl_CountByCounts.Z0
         obtain ⟨ad509, e509, hx509_0⟩ := Kd.at_int HR0.out x31_2 p509 q509
         cases e509
         replace p509 := eq_true p509
         replace q509 := eq_true q509
         go_wp2
         go_ret2
         exact ⟨by first | rfl | (simp; done) | (simp [*]; done), by repeat (first | exact Drawn0.refl _ | apply Drawn0.step)⟩
        ·rw [if_neg c13] at H
         have c13b0 : decide (20 < (rd l0 x31_2)) = false := decide_eq_false c13
         clear c13
         have H' := A_ H
         clear H
         have p509 : 0 ≤ (x31_2 : Int) := of_decide_eq_true impl_CountByCounts.Z0
         have q509 : x31_2 < (l0.length : Int) := of_decide_eq_true impl_CountByCounts.Z0
         obtain ⟨ad509, e509, hx509_0⟩ := Kd.at_int HR0.out x31_2 p509 q509
         cases e509
         replace p509 := eq_true p509
         replace q509 := eq_true q509
         go_wp2
         go_roundg k2
         case measure => have := HJ1.out; have := HK2.out; omega
         case rel => exact ⟨(wrap64 (x4_2 + (rd l0 x31_2))), (wrap64 (x5_2 + (wrap64 (x31_2 * (rd l0 x31_2))))), (wrap64 (x31_2 + 1)), impl_CountByCounts.Z1, impl_CountByCounts.Z1, impl_CountByCounts.Z1, H', ⟨by have := HJ1.out; have := HK2.out; omega⟩, by repeat (first | exact Drawn0.refl _ | apply Drawn0.step)⟩
      ·rw [if_neg c9] at H
       have c9b0 : decide (x31_2 < (l0.length : Int)) = false := decide_eq_false c9
       clear c9
       by_cases c14 : x4_2 > 20
       ·rw [if_pos c14] at H
        have c14b0 : decide (20 < x4_2) = true := decide_eq_true c14
        clear c14
        simp only [Option.some.injEq, Prod.mk.injEq] at H
        obtain ⟨rfl, rfl⟩ := H
        go_wp2
        go_ret2
        exact ⟨by first | rfl | (simp; done) | (simp [*]; done), by repeat (first | exact Drawn0.refl _ | apply Drawn0.step)⟩
       ·rw [if_neg c14] at H
        have c14b0 : decide (20 < x4_2) = false := decide_eq_false c14
        clear c14
        by_cases c15 : x5_2 = (wrap64 (x4_2 - 1))
        ·rw [if_pos c15] at H
         have c15b0 : (x5_2 == (wrap64 (x4_2 - 1))) = true := beq_iff_eq.mpr c15
         have c15b1 : (x5_2 != (wrap64 (x4_2 - 1))) = false := bne_eq_false_iff_eq.mpr c15
         clear c15
         have H' := A_ H
         clear H
         go_wp2
         go_loopg [8, 9, 62] k2 (fun kq v8 v9 v62 w' => ∃ (x8_3 : Int) (x9_3 : Int) (x62_3 : Int), v8 = .int .i64 x8_3 ∧ v9 = .int .i64 x9_3 ∧ v62 = .int .i64 x62_3 ∧ Aside0 (impl_CountByCounts.l1 kq x4_2 x8_3 x9_3 l0 (l0.length : Int) x62_3 = some (r1, r2)) ∧ Aside0 (kq ≤ k2) ∧ Drawn0 w w')
         case atStart => exact ⟨(1), (x4_2), (0), impl_CountByCounts.Z1, impl_CountByCounts.Z1, impl_CountByCounts.Z1, H', ⟨Nat.le_refl _⟩, by repeat (first | exact Drawn0.refl _ | apply Drawn0.step)⟩
         case round =>
          clear H'
          try clear c1
          try clear p2
          try clear c3
          try clear c3b0
          try clear c3b1
          try clear c4
          try clear c4b0
          try clear c4b1
          try clear p5
          try clear q5
          try clear hx5
          try clear c6
          try clear c6b0
          try clear p6
          try clear c7
          try clear c7b0
          try clear c8
          try clear c9
          try clear c9b0
          try clear c10
          try clear c10b0
          try clear c11
          try clear c11b0
          try clear c12
          try clear c12b0
          try clear c13
          try clear c13b0
          try clear c14
          try clear c14b0
          try clear c15
          try clear c15b0
          try clear c15b1
          try clear hx508_0
          try clear hx509_0
          try clear p2
          try clear p5
          try clear p508
          try clear p509
          try clear p6
          try clear q5
          try clear q508
          try clear q509
          obtain ⟨x8_3, x9_3, x62_3, rfl, rfl, rfl, HA, HK3, ⟨m3, rfl⟩⟩ := hrel
          cases gk with
          | zero => exact absurd HA.out (by simp [impl_CountByCounts.l1])
          | succ k3 =>
           have H := HA.out
           clear HA
           simp only [impl_CountByCounts.l1] at H
           by_cases c16 : x62_3 < (l0.length : Int)
           ·rw [if_pos c16] at H
            have c16b0 : decide (x62_3 < (l0.length : Int)) = true := decide_eq_true c16
            clear c16
            by_cases c17 : 0 ≤ x62_3
            rotate_left
            ·rw [if_neg c17] at H
             exact absurd H (by simp)
            rw [if_pos c17] at H
            have c17b0 : decide (0 ≤ x62_3) = true := decide_eq_true c17
            clear c17
            by_cases c18 : x62_3 < (l0.length : Int)
            rotate_left
            ·rw [if_neg c18] at H
             exact absurd H (by simp)
            rw [if_pos c18] at H
            have c18b0 : decide (x62_3 < (l0.length : Int)) = true := decide_eq_true c18
            clear c18
            replace H := Option.bind_eq_some_iff.mp H
            obtain ⟨t511, A190, H⟩ := H
            replace H : (impl_CountByCounts.l1 k3 x4_2 (wrap64 (x8_3 * t511)) (wrap64 (x9_3 - (rd l0 x62_3))) l0 (l0.length : Int) (wrap64 (x62_3 + 1))) = some (r1, r2) := H
            have A19 := A_ A190
            clear A190
            have H' := A_ H
            clear H
            have p510 : 0 ≤ (x62_3 : Int) := of_decide_eq_true impl_CountByCounts.Z0
            have q510 : x62_3 < (l0.length : Int) := of_decide_eq_true impl_CountByCounts.Z0
            obtain ⟨ad510, e510, hx510_0⟩ := Kd.at_int HR0.out x62_3 p510 q510
            cases e510
            replace p510 := eq_true p510
            replace q510 := eq_true q510
            go_wp2_with (first | ((with_reducible refine gate_callee (f := 151) rfl ?_); refine goesL_ (some 69) rfl rfl Try.func151 (by kernel_rfl) rfl #[.int .i64 x9_3, .int .i64 (rd l0 x62_3)] rfl eg ?_; (with_reducible refine (impl_choose.calls k3 x9_3 (rd l0 x62_3) t511 _ A19.out).mono ?_); rintro e w' ⟨rfl, ⟨nd, rfl⟩⟩; refine ⟨_, rfl, ?_⟩))
            go_roundg k3
            case measure => have := HJ1.out; have := HK2.out; have := HK3.out; omega
            case rel => exact ⟨(wrap64 (x8_3 * t511)), (wrap64 (x9_3 - (rd l0 x62_3))), (wrap64 (x62_3 + 1)), impl_CountByCounts.Z1, impl_CountByCounts.Z1, impl_CountByCounts.Z1, H', ⟨by have := HJ1.out; have := HK2.out; have := HK3.out; omega⟩, by repeat (first | exact Drawn0.refl _ | apply Drawn0.step)⟩
           ·rw [if_neg c16] at H
            have c16b0 : decide (x62_3 < (l0.length : Int)) = false := decide_eq_false c16
            clear c16
            by_cases c20 : x4_2 = 0
            ·rw [if_pos c20] at H
             exact absurd H (by simp)
            rw [if_neg c20] at H
            have c20b0 : (x4_2 == 0) = false := beq_eq_false_iff_ne.mpr c20
            have c20b1 : (x4_2 != 0) = true := bne_iff_ne.mpr c20
            simp only [Option.some.injEq, Prod.mk.injEq] at H
            obtain ⟨rfl, rfl⟩ := H
            go_wp2
            go_ret2
            exact ⟨by first | rfl | (simp; done) | (simp [*]; done), by repeat (first | exact Drawn0.refl _ | apply Drawn0.step)⟩
        ·rw [if_neg c15] at H
         have c15b0 : (x5_2 == (wrap64 (x4_2 - 1))) = false := beq_eq_false_iff_ne.mpr c15
         have c15b1 : (x5_2 != (wrap64 (x4_2 - 1))) = true := bne_iff_ne.mpr c15
         simp only [Option.some.injEq, Prod.mk.injEq] at H
         obtain ⟨rfl, rfl⟩ := H
         go_wp2
         go_ret2
         exact ⟨by first | rfl | (simp; done) | (simp [*]; done), by repeat (first | exact Drawn0.refl _ | apply Drawn0.step)⟩

end Go.Proofs.Ytocachknmgefaaa.QFnTreeCounts
