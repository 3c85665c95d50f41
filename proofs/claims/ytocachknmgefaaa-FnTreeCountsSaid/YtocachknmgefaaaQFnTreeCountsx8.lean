/- Functions of the program as plain Lean functions, each with a proof that the machine's call answers what it answers. Conditions: none. -/
import Derived.Test.YtocachknmgefaaaQFnTreeCountsx0
import Derived.Test.YtocachknmgefaaaQFnTreeCountsx1
import Derived.Test.YtocachknmgefaaaQFnTreeCountsx7
namespace Go.Proofs.Ytocachknmgefaaa.QFnTreeCounts
open Go.RowKit Go.Proofs.YtocachknmgefaaaW.PrintWords Go.Proofs.YtocachknmgefaaaW.PrintLast Go.Proofs.YtocachknmgefaaaW.PrintMore
attribute [local go_sem] max2_int min2_int max_two min_two max_three min_three max_four min_four   -- for this text's walks alone
set_option linter.unusedVariables false
set_option linter.unusedSimpArgs false

/-! ### spec_l02Tree: function 161 -/
mutual
def spec_l02Tree.l0 : Nat → Int → Int → List (List Int) → Int → List Int → Int → Option (List Int × Bool)
  | 0, _, _, _, _, _, _ => none
  | k + 1, x0, x1, x6, x7, x8, x9 => if x9 < x0 then (spec_l02Tree.l1 k x0 x1 x6 x7 x8 x9 0) else (some (x8, true))
def spec_l02Tree.l1 : Nat → Int → Int → List (List Int) → Int → List Int → Int → Int → Option (List Int × Bool)
  | 0, _, _, _, _, _, _, _ => none
  | k + 1, x0, x1, x6, x7, x8, x9, x10 => if 0 ≤ (wrap64 ((wrap64 (x0 - x9)) - 1)) then (if (wrap64 ((wrap64 (x0 - x9)) - 1)) < (x6.length : Int) then (if 0 ≤ (wrap64 ((wrap64 (x7 - 1)) + x10)) then (if (wrap64 ((wrap64 (x7 - 1)) + x10)) < ((rd_L2 x6 (wrap64 ((wrap64 (x0 - x9)) - 1))).length : Int) then (if x1 ≥ (rd (rd_L2 x6 (wrap64 ((wrap64 (x0 - x9)) - 1))) (wrap64 ((wrap64 (x7 - 1)) + x10))) then (spec_l02Tree.l1 k x0 (wrap64 (x1 - (rd (rd_L2 x6 (wrap64 ((wrap64 (x0 - x9)) - 1))) (wrap64 ((wrap64 (x7 - 1)) + x10))))) x6 x7 x8 x9 (wrap64 (x10 + 1))) else (if x8.length < 17592186044416 then (spec_l02Tree.l0 k x0 x1 x6 (wrap64 ((wrap64 (x7 - 1)) + x10)) (x8 ++ [x10]) (wrap64 (x9 + 1))) else (none))) else (none)) else (none)) else (none)) else (none)
end
def spec_l02Tree.f (k : Nat) (a0 : Int) (a1 : Int) : Option (List Int × Bool) := (spec_l02Table.f k a0).bind fun t274 => (if 0 ≤ a0 then (if a0 < (t274.length : Int) then (if 1 < ((rd_L2 t274 a0).length : Int) then (if a1 ≥ (rd (rd_L2 t274 a0) 1) then (some (([] : List Int), false)) else (spec_l02Tree.l0 k a0 a1 t274 1 (([] : List Int)) 0)) else (none)) else (none)) else (none))
theorem spec_l02Tree.mono_l : ∀ k, (∀ y0 y1 y2 y3 y4 y5, LeO (spec_l02Tree.l0 k y0 y1 y2 y3 y4 y5) (spec_l02Tree.l0 (k + 1) y0 y1 y2 y3 y4 y5)) ∧ (∀ y0 y1 y2 y3 y4 y5 y6, LeO (spec_l02Tree.l1 k y0 y1 y2 y3 y4 y5 y6) (spec_l02Tree.l1 (k + 1) y0 y1 y2 y3 y4 y5 y6))
  | 0 => ⟨fun _ _ _ _ _ _ r h => by simp [spec_l02Tree.l0] at h, fun _ _ _ _ _ _ _ r h => by simp [spec_l02Tree.l1] at h⟩
  | k + 1 => by
    obtain ⟨ih0, ih1⟩ := spec_l02Tree.mono_l k
    refine ⟨?_, ?_⟩
    · intro y0 y1 y2 y3 y4 y5
      unfold spec_l02Tree.l0
      repeat' first
      | (with_reducible exact ih0 _ _ _ _ _ _)
      | (with_reducible exact ih1 _ _ _ _ _ _ _)
      | (with_reducible exact spec_l02Table.mono _ _)
      | (with_reducible exact LeO.refl _)
      | (with_reducible exact LeO.none _)
      | (with_reducible refine LeO.ite ?_ ?_)
      | (with_reducible refine LeO.bind ?_ (fun _ => ?_))
      | exact ih0 _ _ _ _ _ _
      | exact ih1 _ _ _ _ _ _ _
      | exact spec_l02Table.mono _ _
      | exact LeO.none _
      | refine LeO.ite ?_ ?_
      | refine LeO.bind ?_ (fun _ => ?_)
    · intro y0 y1 y2 y3 y4 y5 y6
      unfold spec_l02Tree.l1
      repeat' first
      | (with_reducible exact ih0 _ _ _ _ _ _)
      | (with_reducible exact ih1 _ _ _ _ _ _ _)
      | (with_reducible exact spec_l02Table.mono _ _)
      | (with_reducible exact LeO.refl _)
      | (with_reducible exact LeO.none _)
      | (with_reducible refine LeO.ite ?_ ?_)
      | (with_reducible refine LeO.bind ?_ (fun _ => ?_))
      | exact ih0 _ _ _ _ _ _
      | exact ih1 _ _ _ _ _ _ _
      | exact spec_l02Table.mono _ _
      | exact LeO.none _
      | refine LeO.ite ?_ ?_
      | refine LeO.bind ?_ (fun _ => ?_)
theorem spec_l02Tree.mono : ∀ a0 a1 k, LeO (spec_l02Tree.f k a0 a1) (spec_l02Tree.f (k + 1) a0 a1) := by
  intro a0 a1 k
  obtain ⟨ih0, ih1⟩ := spec_l02Tree.mono_l k
  unfold spec_l02Tree.f
  repeat' first
      | (with_reducible exact ih0 _ _ _ _ _ _)
      | (with_reducible exact ih1 _ _ _ _ _ _ _)
      | (with_reducible exact spec_l02Table.mono _ _)
      | (with_reducible exact LeO.refl _)
      | (with_reducible exact LeO.none _)
      | (with_reducible refine LeO.ite ?_ ?_)
      | (with_reducible refine LeO.bind ?_ (fun _ => ?_))
      | exact ih0 _ _ _ _ _ _
      | exact ih1 _ _ _ _ _ _ _
      | exact spec_l02Table.mono _ _
      | exact LeO.none _
      | refine LeO.ite ?_ ?_
      | refine LeO.bind ?_ (fun _ => ?_)
theorem spec_l02Tree.Z0 {p : Prop} (h : p := by (with_reducible repeat (first | refine blk_drewN ?_ _ | refine blk_drew ?_ | refine blk_alloc ?_ _)); refine blk_put (cs := #[.slice none 0 0]) ?_ 0 _ rfl; (with_reducible repeat (first | refine blk_drewN ?_ _ | refine blk_drew ?_ | refine blk_alloc ?_ _)); exact BK273.out) : p := h
theorem spec_l02Tree.Z1 {p : Prop} (h : p := by repeat (first | (with_reducible exact HR280_0.out) | (with_reducible refine Kd.C_alloc ?_ _) | (with_reducible refine Kd.C_drewN ?_ _) | (with_reducible refine Kd.C_drew ?_) | exact HR280_0.out)) : p := h
theorem spec_l02Tree.Z2 {p : Prop} (h : p := by repeat (first | (with_reducible exact HR282_0.out) | (with_reducible refine Kd.C_alloc ?_ _) | (with_reducible refine Kd.C_drewN ?_ _) | (with_reducible refine Kd.C_drew ?_) | exact HR282_0.out)) : p := h
theorem spec_l02Tree.Z3 {p : Prop} (h : p := by first | exact q280 | exact of_decide_eq_true (by first | (with_reducible assumption) | assumption) | (have e_ := (Kd.S_reads' HO276.out).1; omega)) : p := h
theorem spec_l02Tree.Z4 {p : Prop} (h : p := by first | exact q282 | exact of_decide_eq_true (by first | (with_reducible assumption) | assumption) | (have e_ := (Kd.S_reads' HO_6.out).1; omega)) : p := h
theorem spec_l02Tree.Z5 {p : Prop} (h : p := by (with_reducible repeat (first | apply Kd.S_alloc | apply Kd.S_drewN | apply Kd.S_drew)); exact HO276.out) : p := h
theorem spec_l02Tree.Z6 {p : Prop} (h : p := by first | (with_reducible assumption) | assumption) : p := h
theorem spec_l02Tree.Z7 {p : Prop} (h : p := by first | rfl | (simp; done) | (simp [*]; done)) : p := h
set_option maxHeartbeats 8000000 in
set_option maxRecDepth 100000 in
theorem spec_l02Tree.calls (k : Nat) (a0 : Int) (a1 : Int) (r1 : List Int) (r2 : Bool) (w : World) (h : spec_l02Tree.f k a0 a1 = some (r1, r2)) :
  Calls Try.prog 161 #[.int .i64 a0, .int .i64 a1] w fun e w' => ∃ v0_ : Value, e = .returned (.tuple #[.agg #[v0_], .bool r2]) ∧ Kd.R (Kd.int .i64) 2 w' w.heap.size (fun _ => True) v0_ r1 ∧ Below w.heap.size w w' := by
 have hu26 := Try.underlying26
 have HB := A_ (Below.refl w.heap.size w)
 have H : ((spec_l02Table.f k a0).bind fun t274 => (if 0 ≤ a0 then (if a0 < (t274.length : Int) then (if 1 < ((rd_L2 t274 a0).length : Int) then (if a1 ≥ (rd (rd_L2 t274 a0) 1) then (some (([] : List Int), false)) else (spec_l02Tree.l0 k a0 a1 t274 1 (([] : List Int)) 0)) else (none)) else (none)) else (none))) = some (r1, r2) := h
 clear h
 replace H := Option.bind_eq_some_iff.mp H
 obtain ⟨t274, A30, H⟩ := H
 replace H : (if 0 ≤ a0 then (if a0 < (t274.length : Int) then (if 1 < ((rd_L2 t274 a0).length : Int) then (if a1 ≥ (rd (rd_L2 t274 a0) 1) then (some (([] : List Int), false)) else (spec_l02Tree.l0 k a0 a1 t274 1 (([] : List Int)) 0)) else (none)) else (none)) else (none)) = some (r1, r2) := H
 have A3 := A_ A30
 clear A30
 obtain ⟨y277, hy277⟩ : ∃ y_ : List Int, y_ = (([] : List Int)) := ⟨_, rfl⟩
 replace H : (if 0 ≤ a0 then (if a0 < (t274.length : Int) then (if 1 < ((rd_L2 t274 a0).length : Int) then (if a1 ≥ (rd (rd_L2 t274 a0) 1) then (some (([] : List Int), false)) else (spec_l02Tree.l0 k a0 a1 t274 1 y277 0)) else (none)) else (none)) else (none)) = some (r1, r2) := by first | (rw [hy277]; with_reducible exact H) | (have H2_ := (Option.bind_some _ _).symm.trans H; rw [hy277]; with_reducible exact H2_) | (have H2_ := (Option.bind_some _ _).symm.trans H; with_reducible exact H2_) | with_reducible exact H | (rw [hy277]; exact H) | exact H
 have Ny277 := A_ hy277
 clear hy277
 by_cases c4 : 0 ≤ a0
 ·rw [if_pos c4] at H
  have c4b0 : decide (0 ≤ a0) = true := decide_eq_true c4
  clear c4
  by_cases c5 : a0 < (t274.length : Int)
  rotate_left
  ·rw [if_neg c5] at H
   exact absurd H (by simp)
  rw [if_pos c5] at H
  have c5b0 : decide (a0 < (t274.length : Int)) = true := decide_eq_true c5
  clear c5
  by_cases c6 : 1 < ((rd_L2 t274 a0).length : Int)
  rotate_left
  ·rw [if_neg c6] at H
   exact absurd H (by simp)
  rw [if_pos c6] at H
  have c6b0 : decide (1 < ((rd_L2 t274 a0).length : Int)) = true := decide_eq_true c6
  have c6b1 : decide (1 < (rd_L2 t274 a0).length) = true := decide_eq_true (by omega)
  clear c6
  by_cases c7 : a1 ≥ (rd (rd_L2 t274 a0) 1)
  ·rw [if_pos c7] at H
   have c7b0 : decide ((rd (rd_L2 t274 a0) 1) ≤ a1) = true := decide_eq_true c7
   clear c7
   simp only [Option.some.injEq, Prod.mk.injEq] at H
   obtain ⟨rfl, rfl⟩ := H
   go_enter Try.func161, Try.ntmps161
   go_wp2_with (first | ((with_reducible refine gate_dst (N := 4) rfl ?_); refine box_event ?hg (N := 4) ?hd (cs := #[.slice none 0 0]) (t := 26) ?hr ?_; (case hd => rfl); (case hg => rfl); (case hr => first | (go_simp; done) | (go_simp; rfl)); intro gb273 hg w8 hbox hb; have n0_ := A_ (below_step (el HB) hb); have n1_ := A_ (hbox); have n2_ := A_ ((by rw [hg]; exact (below_size (el HB)) : w.heap.size ≤ gb273)); have n3_ := A_ ((by rw [hg]; exact (below_size (el HB)) : w.heap.size ≤ gb273)); clear HB; have HB := n0_; have BK273 := n1_; have GW273 := n2_; have GE273 := n3_; clear n0_ n1_ n2_ n3_; clear hb hbox hg) | ((with_reducible refine gate_callee (f := 174) rfl ?_); refine goesL_ (some 12) rfl rfl Try.func174 (by kernel_rfl) rfl #[.int .i64 a0] rfl eg ?_; (with_reducible refine (spec_l02Table.calls k a0 t274 _ A3.out).mono ?_); rintro e w9 ⟨v275, rfl, ho0, hb⟩; refine ⟨_, rfl, ?_⟩; have n0_ := A_ (Kd.S_lower ho0 (below_size (el HB))); have n1_ := A_ (eB BK273 hb); have n2_ := A_ (below_step (el HB) hb); clear BK273; clear HB; have HO276 := n0_; have BK273 := n1_; have HB := n2_; clear n0_ n1_ n2_; (try clear hb); (try clear hb2); (try clear hk); (try clear hi); (try clear ho0)) | ((with_reducible refine gate_dst (N := 13) rfl ?_); refine Kd.R_lit (Kd.int .i64) _ 2 ?hg (N := 13) ?hd (xs := ([] : List Int)) (inner := []) (ok := fun _ => True) (okp := fun _ => True) ?hr ?hp (fun _ hk => hk) trivial (Below.refl _ _) (Nat.le_refl _) (by simp) ?_; (case hd => rfl); (case hg => rfl); (case hr => first | (go_simp; done) | (go_simp; rfl)); (case hp => exact (Reps.none _ _)); intro v278 w10 ho11 hb hg_ hnew_; clear hg_ hnew_; (first | rw [← Ny277.out] at ho11 | (simp only [Int.reduceToNat] at ho11; rw [← Ny277.out] at ho11)); have n0_ := A_ (Kd.S_elder' spec_l02Tree.Z5 (Kd.R_base ho11) hb); have n1_ := A_ (Kd.R_lower ho11 (below_size (el HB))); have n2_ := A_ (eB BK273 hb); have n3_ := A_ (below_step (el HB) hb); clear HO276; clear BK273; clear HB; have HO276 := n0_; have HO279 := n1_; have BK273 := n2_; have HB := n3_; clear n0_ n1_ n2_ n3_; clear hb ho11; obtain ⟨Ao12, co12, eo12⟩ := Kd.S_slice HO276.out; subst eo12; have p280 : 0 ≤ (a0 : Int) := of_decide_eq_true spec_l02Tree.Z6; have q280 : a0 < (t274.length : Int) := of_decide_eq_true spec_l02Tree.Z6; obtain ⟨ad280, A280_0, c280_0, e280, hx280_0, hl280_0, hi280_0⟩ := at_L2 (Kd.S_reads' HO276.out).2.2 a0 p280 q280; cases e280; obtain ⟨ce280, hce280, hMe280, hcc280⟩ := Kd.S_get HO276.out [] a0 p280 spec_l02Tree.Z3; obtain ⟨ve280_0, rfl, ge280_0⟩ := hMe280; have hv280_0 := hcc280 0 _ rfl; rw [Nat.add_zero, show ((Kd.slice 2 (Kd.int .i64))).sz = 1 from rfl, Nat.mul_one] at hv280_0; replace hv280_0 := Option.some.inj (hv280_0.symm.trans hx280_0); rw [hv280_0] at ge280_0; have HL280_0 := A_ (show Kd.R (Kd.int .i64) 2 _ _ _ _ (rd_L2 t274 a0) from ge280_0); clear hv280_0 ge280_0; clear hcc280 hce280; have HR280_0 := A_ hi280_0; have HC280_0 := A_ hl280_0; clear hi280_0 hl280_0; replace p280 := eq_true p280; replace q280 := eq_true q280; have p281 : 0 ≤ (1 : Int) := (by omega); have q281 : 1 < ((rd_L2 t274 a0).length : Int) := of_decide_eq_true spec_l02Tree.Z6; obtain ⟨ad281, e281, hx281_0⟩ := Kd.at_int spec_l02Tree.Z1 1 p281 q281; cases e281; (try simp only [show (1 : Int).toNat = 1 from rfl, Nat.reduceMul, Nat.reduceEqDiff, Go.Addr.add, ↓reduceIte] at hx281_0); have qi281 : (1 < (rd_L2 t274 a0).length) = True := eq_true (by omega); (try rw [show ((1 : Int)).toNat = 1 from rfl] at hx281_0); replace p281 := eq_true p281; replace q281 := eq_true q281; have hcz13_0 : w10.cell? ⟨gb273, 0, none⟩ = some (.slice none 0 0) := (blk_cell BK273.out 0).trans rfl; have hfz13_0 := blk_frozen BK273.out 0))
   refine bodyPost_ret (results_ct rfl _ _ gb273 26 #[.slice none 0 0] (0, 0) _ rfl spec_l02Tree.Z0 Try.underlying26 rfl (by kernel_rfl)) rfl ?_
   exact ⟨_, er, by first | exact Kd.R_nil _ _ _ _ _ | exact Kd.N_nil _ _ _ _ _ | exact Kd.V_nil _ _ _ _ _ | exact Kd.Q_nil _ _ _ _ _ | exact Kd.S_nil _ _ _ _ _, el HB⟩
  ·rw [if_neg c7] at H
   have c7b0 : decide ((rd (rd_L2 t274 a0) 1) ≤ a1) = false := decide_eq_false c7
   clear c7
   have H' := A_ H
   clear H
   go_enter Try.func161, Try.ntmps161
   go_wp2_with (first | ((with_reducible refine gate_dst (N := 4) rfl ?_); refine box_event ?hg (N := 4) ?hd (cs := #[.slice none 0 0]) (t := 26) ?hr ?_; (case hd => rfl); (case hg => rfl); (case hr => first | (go_simp; done) | (go_simp; rfl)); intro gb273 hg w14 hbox hb; have n0_ := A_ (below_step (el HB) hb); have n1_ := A_ (hbox); have n2_ := A_ ((by rw [hg]; exact (below_size (el HB)) : w.heap.size ≤ gb273)); have n3_ := A_ ((by rw [hg]; exact (below_size (el HB)) : w.heap.size ≤ gb273)); clear HB; have HB := n0_; have BK273 := n1_; have GW273 := n2_; have GE273 := n3_; clear n0_ n1_ n2_ n3_; clear hb hbox hg) | ((with_reducible refine gate_callee (f := 174) rfl ?_); refine goesL_ (some 12) rfl rfl Try.func174 (by kernel_rfl) rfl #[.int .i64 a0] rfl eg ?_; (with_reducible refine (spec_l02Table.calls k a0 t274 _ A3.out).mono ?_); rintro e w15 ⟨v275, rfl, ho0, hb⟩; refine ⟨_, rfl, ?_⟩; have n0_ := A_ (Kd.S_lower ho0 (below_size (el HB))); have n1_ := A_ (eB BK273 hb); have n2_ := A_ (below_step (el HB) hb); clear BK273; clear HB; have HO276 := n0_; have BK273 := n1_; have HB := n2_; clear n0_ n1_ n2_; (try clear hb); (try clear hb2); (try clear hk); (try clear hi); (try clear ho0)) | ((with_reducible refine gate_dst (N := 13) rfl ?_); refine Kd.R_lit (Kd.int .i64) _ 2 ?hg (N := 13) ?hd (xs := ([] : List Int)) (inner := []) (ok := fun _ => True) (okp := fun _ => True) ?hr ?hp (fun _ hk => hk) trivial (Below.refl _ _) (Nat.le_refl _) (by simp) ?_; (case hd => rfl); (case hg => rfl); (case hr => first | (go_simp; done) | (go_simp; rfl)); (case hp => exact (Reps.none _ _)); intro v278 w16 ho17 hb hg_ hnew_; clear hg_ hnew_; (first | rw [← Ny277.out] at ho17 | (simp only [Int.reduceToNat] at ho17; rw [← Ny277.out] at ho17)); have n0_ := A_ (Kd.S_elder' spec_l02Tree.Z5 (Kd.R_base ho17) hb); have n1_ := A_ (Kd.R_lower ho17 (below_size (el HB))); have n2_ := A_ (eB BK273 hb); have n3_ := A_ (below_step (el HB) hb); clear HO276; clear BK273; clear HB; have HO276 := n0_; have HO279 := n1_; have BK273 := n2_; have HB := n3_; clear n0_ n1_ n2_ n3_; clear hb ho17; obtain ⟨Ao18, co18, eo18⟩ := Kd.S_slice HO276.out; subst eo18; have p280 : 0 ≤ (a0 : Int) := of_decide_eq_true spec_l02Tree.Z6; have q280 : a0 < (t274.length : Int) := of_decide_eq_true spec_l02Tree.Z6; obtain ⟨ad280, A280_0, c280_0, e280, hx280_0, hl280_0, hi280_0⟩ := at_L2 (Kd.S_reads' HO276.out).2.2 a0 p280 q280; cases e280; obtain ⟨ce280, hce280, hMe280, hcc280⟩ := Kd.S_get HO276.out [] a0 p280 spec_l02Tree.Z3; obtain ⟨ve280_0, rfl, ge280_0⟩ := hMe280; have hv280_0 := hcc280 0 _ rfl; rw [Nat.add_zero, show ((Kd.slice 2 (Kd.int .i64))).sz = 1 from rfl, Nat.mul_one] at hv280_0; replace hv280_0 := Option.some.inj (hv280_0.symm.trans hx280_0); rw [hv280_0] at ge280_0; have HL280_0 := A_ (show Kd.R (Kd.int .i64) 2 _ _ _ _ (rd_L2 t274 a0) from ge280_0); clear hv280_0 ge280_0; clear hcc280 hce280; have HR280_0 := A_ hi280_0; have HC280_0 := A_ hl280_0; clear hi280_0 hl280_0; replace p280 := eq_true p280; replace q280 := eq_true q280; have p281 : 0 ≤ (1 : Int) := (by omega); have q281 : 1 < ((rd_L2 t274 a0).length : Int) := of_decide_eq_true spec_l02Tree.Z6; obtain ⟨ad281, e281, hx281_0⟩ := Kd.at_int spec_l02Tree.Z1 1 p281 q281; cases e281; (try simp only [show (1 : Int).toNat = 1 from rfl, Nat.reduceMul, Nat.reduceEqDiff, Go.Addr.add, ↓reduceIte] at hx281_0); have qi281 : (1 < (rd_L2 t274 a0).length) = True := eq_true (by omega); (try rw [show ((1 : Int)).toNat = 1 from rfl] at hx281_0); replace p281 := eq_true p281; replace q281 := eq_true q281))
   go_loopg [1, 7, 8, 9] k (fun kq v1 v7 v8 v9 w' => ∃ (x1_1 : Int) (x7_1 : Int) (x8_1 : List Int) (x9_1 : Int), v1 = .int .i64 x1_1 ∧ v7 = .int .i64 x7_1 ∧ v9 = .int .i64 x9_1 ∧ Aside0 (spec_l02Tree.l0 kq a0 x1_1 t274 x7_1 x8_1 x9_1 = some (r1, r2)) ∧ Aside0 (kq ≤ k) ∧ Aside0 (Kd.S (Kd.slice 2 (Kd.int .i64)) 24 w' w.heap.size (fun k_ => some k_ ≠ (v8 : Value).ownBlock) (.slice (some ad280) t274.length co18) t274) ∧ Aside0 (Kd.R (Kd.int .i64) 2 w' w.heap.size (fun _ => True) v8 x8_1) ∧ Aside0 (w'.heap[gb273]? = some (.cells #[(.slice none 0 0)] 26 (0, 0))) ∧ Aside0 (Below w.heap.size w w'))
   case atStart => exact ⟨(a1), (1), (y277), (0), spec_l02Tree.Z7, spec_l02Tree.Z7, spec_l02Tree.Z7, H', ⟨Nat.le_refl _⟩, ⟨by (with_reducible repeat (first | apply Kd.S_alloc | apply Kd.S_drewN | apply Kd.S_drew)); exact Kd.S_mono HO276.out (fun _ hk => hk.2)⟩, ⟨ea HO279⟩, ⟨eb BK273⟩, ⟨el HB⟩⟩
   case round =>
    clear H'
    try clear c1
    try clear c2
    try clear p2
    try clear q2
    try clear hx2
    try clear qi2
    try clear c4
    try clear c4b0
    try clear c5
    try clear c5b0
    try clear c6
    try clear c6b0
    try clear c6b1
    try clear c7
    try clear c7b0
    try clear c16
    try clear c17
    try clear hcz13_0
    try clear hfz13_0
    try clear hx280_0
    try clear hx281_0
    try clear p280
    try clear p281
    try clear q280
    try clear q281
    obtain ⟨x1_1, x7_1, x8_1, x9_1, rfl, rfl, rfl, HA, HK1, HO_6, HO_8, BK273, HB⟩ := hrel
    cases gk with
    | zero => exact absurd HA.out (by simp [spec_l02Tree.l0])
    | succ k1 =>
     have H := HA.out
     clear HA
     simp only [spec_l02Tree.l0] at H
     by_cases c19 : x9_1 < a0
     ·rw [if_pos c19] at H
      have c19b0 : decide (x9_1 < a0) = true := decide_eq_true c19
      clear c19
      have H' := A_ H
      clear H
      go_wp2
      go_loopg [1, 10] k1 (fun kq v1 v10 w' => ∃ (x1_2 : Int) (x10_2 : Int), v1 = .int .i64 x1_2 ∧ v10 = .int .i64 x10_2 ∧ Aside0 (spec_l02Tree.l1 kq a0 x1_2 t274 x7_1 x8_1 x9_1 x10_2 = some (r1, r2)) ∧ Aside0 (kq ≤ k1) ∧ Aside0 (Kd.S (Kd.slice 2 (Kd.int .i64)) 24 w' w.heap.size (fun k_ => some k_ ≠ (u8 : Value).ownBlock) (.slice (some ad280) t274.length co18) t274) ∧ Aside0 (Kd.R (Kd.int .i64) 2 w' w.heap.size (fun _ => True) u8 x8_1) ∧ Aside0 (w'.heap[gb273]? = some (.cells #[(.slice none 0 0)] 26 (0, 0))) ∧ Aside0 (Below w.heap.size w w'))
      case atStart => exact ⟨(x1_1), (0), spec_l02Tree.Z7, spec_l02Tree.Z7, H', ⟨Nat.le_refl _⟩, ⟨by (with_reducible repeat (first | apply Kd.S_alloc | apply Kd.S_drewN | apply Kd.S_drew)); exact HO_6.out⟩, ⟨ea HO_8⟩, ⟨eb BK273⟩, ⟨el HB⟩⟩
      case round =>
       clear H'
       try clear c1
       try clear c2
       try clear p2
       try clear q2
       try clear hx2
       try clear qi2
       try clear c4
       try clear c4b0
       try clear c5
       try clear c5b0
       try clear c6
       try clear c6b0
       try clear c6b1
       try clear c7
       try clear c7b0
       try clear c16
       try clear c17
       try clear c19
       try clear c19b0
       try clear hcz13_0
       try clear hfz13_0
       try clear hx280_0
       try clear hx281_0
       try clear p2
       try clear p280
       try clear p281
       try clear q2
       try clear q280
       try clear q281
       obtain ⟨x1_2, x10_2, rfl, rfl, HA, HK2, HO_6, HO_8, BK273, HB⟩ := hrel
       cases gk with
       | zero => exact absurd HA.out (by simp [spec_l02Tree.l1])
       | succ k2 =>
        have H := HA.out
        clear HA
        simp only [spec_l02Tree.l1] at H
        obtain ⟨ji20, hji20⟩ : ∃ j_ : Int, (wrap64 ((wrap64 (a0 - x9_1)) - 1)) = j_ := ⟨_, rfl⟩
        replace H : (if 0 ≤ (ji20) then (if (ji20) < (t274.length : Int) then (if 0 ≤ (wrap64 ((wrap64 (x7_1 - 1)) + x10_2)) then (if (wrap64 ((wrap64 (x7_1 - 1)) + x10_2)) < ((rd_L2 t274 (ji20)).length : Int) then (if x1_2 ≥ (rd (rd_L2 t274 (ji20)) (wrap64 ((wrap64 (x7_1 - 1)) + x10_2))) then (spec_l02Tree.l1 k2 a0 (wrap64 (x1_2 - (rd (rd_L2 t274 (ji20)) (wrap64 ((wrap64 (x7_1 - 1)) + x10_2))))) t274 x7_1 x8_1 x9_1 (wrap64 (x10_2 + 1))) else (if x8_1.length < 17592186044416 then (spec_l02Tree.l0 k2 a0 x1_2 t274 (wrap64 ((wrap64 (x7_1 - 1)) + x10_2)) (x8_1 ++ [x10_2]) (wrap64 (x9_1 + 1))) else (none))) else (none)) else (none)) else (none)) else (none)) = some (r1, r2) := by first | (rw [hji20] at H; exact H) | (simp only [hji20] at H ⊢; exact H)
        have hji20w : (IntKind.i64.wrap ((wrap64 (a0 - x9_1)) - 1)) = ji20 := (i64_w _).trans hji20
        by_cases c21 : 0 ≤ (ji20)
        rotate_left
        ·rw [if_neg c21] at H
         exact absurd H (by simp)
        rw [if_pos c21] at H
        have c21b0 : decide (0 ≤ (ji20)) = true := decide_eq_true c21
        clear c21
        by_cases c22 : (ji20) < (t274.length : Int)
        rotate_left
        ·rw [if_neg c22] at H
         exact absurd H (by simp)
        rw [if_pos c22] at H
        have c22b0 : decide ((ji20) < (t274.length : Int)) = true := decide_eq_true c22
        clear c22
        obtain ⟨ji23, hji23⟩ : ∃ j_ : Int, (wrap64 ((wrap64 (x7_1 - 1)) + x10_2)) = j_ := ⟨_, rfl⟩
        replace H : (if 0 ≤ (ji23) then (if (ji23) < ((rd_L2 t274 (ji20)).length : Int) then (if x1_2 ≥ (rd (rd_L2 t274 (ji20)) (ji23)) then (spec_l02Tree.l1 k2 a0 (wrap64 (x1_2 - (rd (rd_L2 t274 (ji20)) (ji23)))) t274 x7_1 x8_1 x9_1 (wrap64 (x10_2 + 1))) else (if x8_1.length < 17592186044416 then (spec_l02Tree.l0 k2 a0 x1_2 t274 ji23 (x8_1 ++ [x10_2]) (wrap64 (x9_1 + 1))) else (none))) else (none)) else (none)) = some (r1, r2) := by first | (rw [hji23] at H; exact H) | (simp only [hji23] at H ⊢; exact H)
        have hji23w : (IntKind.i64.wrap ((wrap64 (x7_1 - 1)) + x10_2)) = ji23 := (i64_w _).trans hji23
        by_cases c24 : 0 ≤ (ji23)
        rotate_left
        ·rw [if_neg c24] at H
         exact absurd H (by simp)
        rw [if_pos c24] at H
        have c24b0 : decide (0 ≤ (ji23)) = true := decide_eq_true c24
        clear c24
        by_cases c25 : (ji23) < ((rd_L2 t274 (ji20)).length : Int)
        rotate_left
        ·rw [if_neg c25] at H
         exact absurd H (by simp)
        rw [if_pos c25] at H
        have c25b0 : decide ((ji23) < ((rd_L2 t274 (ji20)).length : Int)) = true := decide_eq_true c25
        clear c25
        by_cases c26 : x1_2 ≥ (rd (rd_L2 t274 (ji20)) (ji23))
        ·rw [if_pos c26] at H
         have c26b0 : decide ((rd (rd_L2 t274 (ji20)) (ji23)) ≤ x1_2) = true := decide_eq_true c26
         clear c26
         have H' := A_ H
         clear H
         have p282 : 0 ≤ ((ji20) : Int) := of_decide_eq_true spec_l02Tree.Z6
         have q282 : (ji20) < (t274.length : Int) := of_decide_eq_true spec_l02Tree.Z6
         obtain ⟨ad282, A282_0, c282_0, e282, hx282_0, hl282_0, hi282_0⟩ := at_L2 (Kd.S_reads' HO_6.out).2.2 (ji20) p282 q282
         obtain rfl : ad280 = ad282 := (by injection e282)
         obtain ⟨ce282, hce282, hMe282, hcc282⟩ := Kd.S_get HO_6.out [] (ji20) p282 spec_l02Tree.Z4
         obtain ⟨ve282_0, rfl, ge282_0⟩ := hMe282
         have hv282_0 := hcc282 0 _ rfl
         rw [Nat.add_zero, show ((Kd.slice 2 (Kd.int .i64))).sz = 1 from rfl, Nat.mul_one] at hv282_0
         replace hv282_0 := Option.some.inj (hv282_0.symm.trans hx282_0)
         rw [hv282_0] at ge282_0
         have HL282_0 := A_ (show Kd.R (Kd.int .i64) 2 _ _ _ _ (rd_L2 t274 (ji20)) from ge282_0)
         clear hv282_0 ge282_0
         clear hcc282 hce282
         have HR282_0 := A_ hi282_0
         have HC282_0 := A_ hl282_0
         clear hi282_0 hl282_0
         replace p282 := eq_true p282
         replace q282 := eq_true q282
         have p283 : 0 ≤ ((ji23) : Int) := of_decide_eq_true spec_l02Tree.Z6
         have q283 : (ji23) < ((rd_L2 t274 (ji20)).length : Int) := of_decide_eq_true spec_l02Tree.Z6
         obtain ⟨ad283, e283, hx283_0⟩ := Kd.at_int spec_l02Tree.Z2 (ji23) p283 q283
         cases e283
         replace p283 := eq_true p283
         replace q283 := eq_true q283
         have p284 : 0 ≤ ((ji20) : Int) := of_decide_eq_true spec_l02Tree.Z6
         have q284 : (ji20) < (t274.length : Int) := of_decide_eq_true spec_l02Tree.Z6
         obtain ⟨ad284, A284_0, c284_0, e284, hx284_0, hl284_0, hi284_0⟩ := at_L2 (Kd.S_reads' HO_6.out).2.2 (ji20) p284 q284
         obtain rfl : ad280 = ad284 := (by injection e284)
         obtain ⟨ce284, hce284, hMe284, hcc284⟩ := Kd.S_get HO_6.out [] (ji20) p284 (by first | exact q284 | exact of_decide_eq_true spec_l02Tree.Z6 | (have e_ := (Kd.S_reads' HO_6.out).1; omega))
         obtain ⟨ve284_0, rfl, ge284_0⟩ := hMe284
         have hv284_0 := hcc284 0 _ rfl
         rw [Nat.add_zero, show ((Kd.slice 2 (Kd.int .i64))).sz = 1 from rfl, Nat.mul_one] at hv284_0
         replace hv284_0 := Option.some.inj (hv284_0.symm.trans hx284_0)
         rw [hv284_0] at ge284_0
         have HL284_0 := A_ (show Kd.R (Kd.int .i64) 2 _ _ _ _ (rd_L2 t274 (ji20)) from ge284_0)
         clear hv284_0 ge284_0
         clear hcc284 hce284
         have HR284_0 := A_ hi284_0
         have HC284_0 := A_ hl284_0
         clear hi284_0 hl284_0
         replace p284 := eq_true p284
         replace q284 := eq_true q284
         have ea_ := Option.some.inj (hx282_0.symm.trans hx284_0)
         injection ea_ with ea_ en_ ec_
         subst ea_
         subst ec_
         clear en_
         have p285 : 0 ≤ ((ji23) : Int) := of_decide_eq_true spec_l02Tree.Z6
         have q285 : (ji23) < ((rd_L2 t274 (ji20)).length : Int) := of_decide_eq_true spec_l02Tree.Z6
         obtain ⟨ad285, e285, hx285_0⟩ := Kd.at_int (by repeat (first | (with_reducible exact HR284_0.out) | (with_reducible refine Kd.C_alloc ?_ _) | (with_reducible refine Kd.C_drewN ?_ _) | (with_reducible refine Kd.C_drew ?_) | exact HR284_0.out)) (ji23) p285 q285
         cases e285
         replace p285 := eq_true p285
         replace q285 := eq_true q285
         go_wp2
         go_roundg k2
         case measure => have := HK1.out; have := HK2.out; omega
         case rel => exact ⟨(wrap64 (x1_2 - (rd (rd_L2 t274 (ji20)) (ji23)))), (wrap64 (x10_2 + 1)), (by first | rfl | (simp; done) | (simp only [← hji20, ← hji23] <;> (first | rfl | simp)) | (simp [*]; done)), spec_l02Tree.Z7, H', ⟨by have := HK1.out; have := HK2.out; omega⟩, ⟨by (with_reducible repeat (first | apply Kd.S_alloc | apply Kd.S_drewN | apply Kd.S_drew)); first | exact HO_6.out | (have h_ := HO_6.out; simpa only [ownBlock_slice] using h_)⟩, ⟨es HO_8⟩, ⟨eb BK273⟩, ⟨el HB⟩⟩
        ·rw [if_neg c26] at H
         have c26b0 : decide ((rd (rd_L2 t274 (ji20)) (ji23)) ≤ x1_2) = false := decide_eq_false c26
         clear c26
         by_cases c27 : x8_1.length < 17592186044416
         rotate_left
         ·rw [if_neg c27] at H
          exact absurd H (by simp)
         rw [if_pos c27] at H
         have LMc27 := A_ c27
         clear c27
         obtain ⟨y286, hy286⟩ : ∃ y_ : List Int, y_ = (x8_1 ++ [x10_2]) := ⟨_, rfl⟩
         replace H : (spec_l02Tree.l0 k2 a0 x1_2 t274 ji23 y286 (wrap64 (x9_1 + 1))) = some (r1, r2) := by first | (rw [hy286]; with_reducible exact H) | (have H2_ := (Option.bind_some _ _).symm.trans H; rw [hy286]; with_reducible exact H2_) | (have H2_ := (Option.bind_some _ _).symm.trans H; with_reducible exact H2_) | with_reducible exact H | (rw [hy286]; exact H) | exact H
         have Ny286 := A_ hy286
         clear hy286
         have H' := A_ H
         clear H
         have p282 : 0 ≤ ((ji20) : Int) := of_decide_eq_true spec_l02Tree.Z6
         have q282 : (ji20) < (t274.length : Int) := of_decide_eq_true spec_l02Tree.Z6
         obtain ⟨ad282, A282_0, c282_0, e282, hx282_0, hl282_0, hi282_0⟩ := at_L2 (Kd.S_reads' HO_6.out).2.2 (ji20) p282 q282
         obtain rfl : ad280 = ad282 := (by injection e282)
         obtain ⟨ce282, hce282, hMe282, hcc282⟩ := Kd.S_get HO_6.out [] (ji20) p282 spec_l02Tree.Z4
         obtain ⟨ve282_0, rfl, ge282_0⟩ := hMe282
         have hv282_0 := hcc282 0 _ rfl
         rw [Nat.add_zero, show ((Kd.slice 2 (Kd.int .i64))).sz = 1 from rfl, Nat.mul_one] at hv282_0
         replace hv282_0 := Option.some.inj (hv282_0.symm.trans hx282_0)
         rw [hv282_0] at ge282_0
         have HL282_0 := A_ (show Kd.R (Kd.int .i64) 2 _ _ _ _ (rd_L2 t274 (ji20)) from ge282_0)
         clear hv282_0 ge282_0
         clear hcc282 hce282
         have HR282_0 := A_ hi282_0
         have HC282_0 := A_ hl282_0
         clear hi282_0 hl282_0
         replace p282 := eq_true p282
         replace q282 := eq_true q282
         have p283 : 0 ≤ ((ji23) : Int) := of_decide_eq_true spec_l02Tree.Z6
         have q283 : (ji23) < ((rd_L2 t274 (ji20)).length : Int) := of_decide_eq_true spec_l02Tree.Z6
         obtain ⟨ad283, e283, hx283_0⟩ := Kd.at_int spec_l02Tree.Z2 (ji23) p283 q283
         cases e283
         replace p283 := eq_true p283
         replace q283 := eq_true q283
         go_wp2_with (first | ((with_reducible refine gate_builtin (b := .append) (xs := #[.tmp 60, .tmp 62]) rfl ?_); at_builtin; refine Kd.R_append (Kd.int .i64) (w0 := w) w.heap.size rfl (.tmp 60) (.tmp 62) 24 2 (.int .i64 0) 8 rfl Try.underlying24 info2 rfl (by decide) (by omega) u8 x8_1 x10_2 [.int .i64 x10_2] (fun _ => True) (fun _ => False) rfl rfl ?aP (fun _ hk => hk.elim) ?aF ?aO ?aB ?aS ?aL ?_; (case aP => exact rfl); (case aB => exact (el HB)); (case aF => exact (fun _ _ => trivial)); (case aO => exact (ea HO_8)); (case aS => exact (below_size (el HB))); (case aL => have := LMc27.out; omega); intro v287 w28 ho hb hg hat; rw [← Ny286.out] at ho; have n0_ := A_ (Kd.S_after (ok := (fun _ => True)) (by (with_reducible repeat (first | apply Kd.S_alloc | apply Kd.S_drewN | apply Kd.S_drew)); exact Kd.S_mono HO_6.out (fun _ hk => ⟨trivial, hk⟩)) hg hat); have n1_ := A_ (blk_grown (g := gb273) (o := .cells #[.slice none 0 0] 26 (0, 0)) (eb BK273) hg (Kd.R_ne HO_8.out BK273.out (by decide))); have n2_ := A_ (Kd.R_after (ok := (fun k_ => some k_ ≠ (.slice (some ad280) t274.length co18 : Value).ownBlock)) (by (with_reducible repeat (first | apply Kd.R_alloc | apply Kd.R_drewN | apply Kd.R_drew)); exact Kd.R_mono HL282_0.out (fun _ hk => ⟨hk.2, hk.1⟩)) hg hat); have n3_ := A_ (hb); have n4_ := A_ (ho); clear HO_6; clear BK273; clear HL282_0; clear HB; clear HO_8; have HO_6 := n0_; have BK273 := n1_; have HL282_0 := n2_; have HB := n3_; have HO288 := n4_; clear n0_ n1_ n2_ n3_ n4_; clear ho hb hg hat))
         go_roundg k2
         case measure => have := HK1.out; have := HK2.out; omega
         case rel => exact ⟨(x1_2), (ji23), (y286), (wrap64 (x9_1 + 1)), spec_l02Tree.Z7, (by first | rfl | (simp; done) | (simp only [← hji23] <;> (first | rfl | simp)) | (simp [*]; done)), spec_l02Tree.Z7, H', ⟨by have := HK1.out; have := HK2.out; omega⟩, ⟨by (with_reducible repeat (first | apply Kd.S_alloc | apply Kd.S_drewN | apply Kd.S_drew)); exact Kd.S_mono HO_6.out (fun _ hk => hk.2)⟩, ⟨es HO288⟩, ⟨eb BK273⟩, ⟨el HB⟩⟩
     ·rw [if_neg c19] at H
      have c19b0 : decide (x9_1 < a0) = false := decide_eq_false c19
      clear c19
      simp only [Option.some.injEq, Prod.mk.injEq] at H
      obtain ⟨rfl, rfl⟩ := H
      obtain ⟨Ao29, co29, eo29⟩ := Kd.R_slice HO_8.out
      subst eo29
      have hcz30_0 : wr.cell? ⟨gb273, 0, none⟩ = some (.slice none 0 0) := (blk_cell BK273.out 0).trans rfl
      have hfz30_0 := blk_frozen BK273.out 0
      go_wp2
      refine bodyPost_ret (results_ct rfl _ _ gb273 26 #[.slice Ao29 x8_1.length co29] (0, 0) _ rfl spec_l02Tree.Z0 Try.underlying26 rfl (by kernel_rfl)) rfl ?_
      exact ⟨_, er, by (with_reducible repeat (first | apply Kd.R_alloc | apply Kd.R_drewN | apply Kd.R_drew)); exact Kd.R_mono (Kd.R_far (p := ⟨gb273, 0, none⟩) (Kd.R_types HO_8.out BK273.out (by decide)) (fun _ hk => hk.2) (.slice Ao29 x8_1.length co29)) (fun _ hk => trivial), el HB⟩
 ·rw [if_neg c4] at H
  exact absurd H (by simp)

/-! ### spec_TreesOf: function 75 -/
def spec_TreesOf.l0 : Nat → Int → List (S26) → Int → Option ((List (S26)) × Int)
  | 0, _, _, _ => none
  | k + 1, x0, x4, x5 => (spec_l02Tree.f k x0 x5).bind fun bt293 => (if bt293.2 = true then (if x4.length < 5864062014805 then (spec_TreesOf.l0 k x0 (x4 ++ [(⟨bt293.1⟩ : S26)]) (wrap64 (x5 + 1))) else (none)) else (some (x4, 0)))
def spec_TreesOf.f (k : Nat) (a0 : Int) : Option ((List (S26)) × Int) := (spec_l02Whole.f a0).bind fun t289 => (if t289 = true then (if a0 > 7 then (some (([] : List (S26)), 3)) else (spec_TreesOf.l0 k a0 (([] : List (S26))) 0)) else (some (([] : List (S26)), 2)))
theorem spec_TreesOf.mono_l : ∀ k, (∀ y0 y1 y2, LeO (spec_TreesOf.l0 k y0 y1 y2) (spec_TreesOf.l0 (k + 1) y0 y1 y2))
  | 0 => fun _ _ _ r h => by simp [spec_TreesOf.l0] at h
  | k + 1 => by
    have ih0 := spec_TreesOf.mono_l k
    · intro y0 y1 y2
      unfold spec_TreesOf.l0
      repeat' first
      | (with_reducible exact ih0 _ _ _)
      | (with_reducible exact spec_l02Tree.mono _ _ _)
      | (with_reducible exact LeO.refl _)
      | (with_reducible exact LeO.none _)
      | (with_reducible refine LeO.ite ?_ ?_)
      | (with_reducible refine LeO.bind ?_ (fun _ => ?_))
      | exact ih0 _ _ _
      | exact spec_l02Tree.mono _ _ _
      | exact LeO.none _
      | refine LeO.ite ?_ ?_
      | refine LeO.bind ?_ (fun _ => ?_)
theorem spec_TreesOf.mono : ∀ a0 k, LeO (spec_TreesOf.f k a0) (spec_TreesOf.f (k + 1) a0) := by
  intro a0 k
  have ih0 := spec_TreesOf.mono_l k
  unfold spec_TreesOf.f
  repeat' first
      | (with_reducible exact ih0 _ _ _)
      | (with_reducible exact spec_l02Tree.mono _ _ _)
      | (with_reducible exact LeO.refl _)
      | (with_reducible exact LeO.none _)
      | (with_reducible refine LeO.ite ?_ ?_)
      | (with_reducible refine LeO.bind ?_ (fun _ => ?_))
      | exact ih0 _ _ _
      | exact spec_l02Tree.mono _ _ _
      | exact LeO.none _
      | refine LeO.ite ?_ ?_
      | refine LeO.bind ?_ (fun _ => ?_)
theorem spec_TreesOf.Z0 {p : Prop} (h : p := by (with_reducible repeat (first | apply Kd.S_alloc | apply Kd.S_drewN | apply Kd.S_drew)); exact HO_4.out) : p := h
theorem spec_TreesOf.Z1 {p : Prop} (h : p := by first | rfl | (simp; done) | (simp [*]; done)) : p := h
set_option maxHeartbeats 8000000 in
set_option maxRecDepth 100000 in
theorem spec_TreesOf.calls (k : Nat) (a0 : Int) (r1 : List (S26)) (r2 : Int) (w : World) (h : spec_TreesOf.f k a0 = some (r1, r2)) :
  Calls Try.prog 75 #[.int .i64 a0] w fun e w' => ∃ v0_ : Value, e = .returned (.tuple #[v0_, .int .i64 r2]) ∧ Kd.S k26 26 w' w.heap.size (fun _ => True) v0_ r1 ∧ Below w.heap.size w w' := by
 have hu26 := Try.underlying26
 have HB := A_ (Below.refl w.heap.size w)
 have H : ((spec_l02Whole.f a0).bind fun t289 => (if t289 = true then (if a0 > 7 then (some (([] : List (S26)), 3)) else (spec_TreesOf.l0 k a0 (([] : List (S26))) 0)) else (some (([] : List (S26)), 2)))) = some (r1, r2) := h
 clear h
 replace H := Option.bind_eq_some_iff.mp H
 obtain ⟨t289, A20, H⟩ := H
 replace H : (if t289 = true then (if a0 > 7 then (some (([] : List (S26)), 3)) else (spec_TreesOf.l0 k a0 (([] : List (S26))) 0)) else (some (([] : List (S26)), 2))) = some (r1, r2) := H
 have A2 := A_ A20
 clear A20
 by_cases c3 : t289 = true
 ·subst c3
  have H1 : (if a0 > 7 then (some (([] : List (S26)), 3)) else (spec_TreesOf.l0 k a0 (([] : List (S26))) 0)) = some (r1, r2) := by rw [if_pos rfl] at H; exact H
  clear H
  have H := H1
  clear H1
  by_cases c4 : a0 > 7
  ·rw [if_pos c4] at H
   have c4b0 : decide (7 < a0) = true := decide_eq_true c4
   clear c4
   simp only [Option.some.injEq, Prod.mk.injEq] at H
   obtain ⟨rfl, rfl⟩ := H
   go_enter Try.func75, Try.ntmps75
   go_wp2_with (first | ((with_reducible refine gate_callee (f := 160) rfl ?_); refine goesL_ (some 10) rfl rfl Try.func160 (by kernel_rfl) rfl #[.int .i64 a0] rfl eg ?_; (with_reducible refine (spec_l02Whole.calls a0 true _ A2.out).mono ?_); rintro e w' ⟨rfl, ⟨nd, rfl⟩⟩; refine ⟨_, rfl, ?_⟩))
   go_ret2
   exact ⟨_, er, by first | exact Kd.S_nil _ _ _ _ _ | exact Kd.N_nil _ _ _ _ _ | exact Kd.V_nil _ _ _ _ _ | exact Kd.Q_nil _ _ _ _ _ | exact Kd.R_nil _ _ _ _ _, el HB⟩
  ·rw [if_neg c4] at H
   have c4b0 : decide (7 < a0) = false := decide_eq_false c4
   clear c4
   obtain ⟨y290, hy290⟩ : ∃ y_ : List (S26), y_ = (([] : List (S26))) := ⟨_, rfl⟩
   replace H : (spec_TreesOf.l0 k a0 y290 0) = some (r1, r2) := by first | (rw [hy290]; with_reducible exact H) | (have H2_ := (Option.bind_some _ _).symm.trans H; rw [hy290]; with_reducible exact H2_) | (have H2_ := (Option.bind_some _ _).symm.trans H; with_reducible exact H2_) | with_reducible exact H | (rw [hy290]; exact H) | exact H
   have Ny290 := A_ hy290
   clear hy290
   have H' := A_ H
   clear H
   go_enter Try.func75, Try.ntmps75
   go_wp2_with (first | ((with_reducible refine gate_callee (f := 160) rfl ?_); refine goesL_ (some 10) rfl rfl Try.func160 (by kernel_rfl) rfl #[.int .i64 a0] rfl eg ?_; (with_reducible refine (spec_l02Whole.calls a0 true _ A2.out).mono ?_); rintro e w' ⟨rfl, ⟨nd, rfl⟩⟩; refine ⟨_, rfl, ?_⟩) | ((with_reducible refine gate_dst (N := 15) rfl ?_); refine Kd.S_lit k26 _ 26 ?hg (N := 15) ?hd (xs := ([] : List (S26))) (inner := []) (ok := fun _ => True) (okp := fun _ => True) ?hr ?hp (fun _ hk => hk) trivial (Below.refl _ _) (Nat.le_refl _) (by simp) ?_; (case hd => rfl); (case hg => rfl); (case hr => first | (go_simp; done) | (go_simp; rfl)); (case hp => exact (Reps.none _ _)); intro v291 w5 ho6 hb hg_ hnew_; clear hg_ hnew_; (first | rw [← Ny290.out] at ho6 | (simp only [Int.reduceToNat] at ho6; rw [← Ny290.out] at ho6)); have n0_ := A_ (Kd.S_lower ho6 (below_size (el HB))); have n1_ := A_ (below_step (el HB) hb); clear HB; have HO292 := n0_; have HB := n1_; clear n0_ n1_; clear hb ho6))
   go_loopg [4, 5] k (fun kq v4 v5 w' => ∃ (x4_1 : List (S26)) (x5_1 : Int), v5 = .int .i64 x5_1 ∧ Aside0 (spec_TreesOf.l0 kq a0 x4_1 x5_1 = some (r1, r2)) ∧ Aside0 (kq ≤ k) ∧ Aside0 (Kd.S k26 26 w' w.heap.size (fun _ => True) v4 x4_1) ∧ Aside0 (Below w.heap.size w w'))
   case atStart => exact ⟨(y290), (0), spec_TreesOf.Z1, H', ⟨Nat.le_refl _⟩, ⟨by (with_reducible repeat (first | apply Kd.S_alloc | apply Kd.S_drewN | apply Kd.S_drew)); exact HO292.out⟩, ⟨el HB⟩⟩
   case round =>
    clear H'
    try clear c1
    try clear p2
    try clear c3
    try clear c4
    try clear c4b0
    obtain ⟨x4_1, x5_1, rfl, HA, HK1, HO_4, HB⟩ := hrel
    cases gk with
    | zero => exact absurd HA.out (by simp [spec_TreesOf.l0])
    | succ k1 =>
     have H := HA.out
     clear HA
     simp only [spec_TreesOf.l0] at H
     replace H := Option.bind_eq_some_iff.mp H
     obtain ⟨⟨t293, t296⟩, A70, H⟩ := H
     replace H : (if t296 = true then (if x4_1.length < 5864062014805 then (spec_TreesOf.l0 k1 a0 (x4_1 ++ [(⟨t293⟩ : S26)]) (wrap64 (x5_1 + 1))) else (none)) else (some (x4_1, 0))) = some (r1, r2) := H
     have A7 := A_ A70
     clear A70
     by_cases c8 : t296 = true
     ·subst c8
      have H1 : (if x4_1.length < 5864062014805 then (spec_TreesOf.l0 k1 a0 (x4_1 ++ [(⟨t293⟩ : S26)]) (wrap64 (x5_1 + 1))) else (none)) = some (r1, r2) := by rw [if_pos rfl] at H; exact H
      clear H
      have H := H1
      clear H1
      by_cases c9 : x4_1.length < 5864062014805
      rotate_left
      ·rw [if_neg c9] at H
       exact absurd H (by simp)
      rw [if_pos c9] at H
      have LMc9 := A_ c9
      clear c9
      obtain ⟨y298, hy298⟩ : ∃ y_ : List (S26), y_ = (x4_1 ++ [(⟨t293⟩ : S26)]) := ⟨_, rfl⟩
      replace H : (spec_TreesOf.l0 k1 a0 y298 (wrap64 (x5_1 + 1))) = some (r1, r2) := by first | (rw [hy298]; with_reducible exact H) | (have H2_ := (Option.bind_some _ _).symm.trans H; rw [hy298]; with_reducible exact H2_) | (have H2_ := (Option.bind_some _ _).symm.trans H; with_reducible exact H2_) | with_reducible exact H | (rw [hy298]; exact H) | exact H
      have Ny298 := A_ hy298
      clear hy298
      have H' := A_ H
      clear H
      go_wp2_with (first | ((with_reducible refine gate_callee (f := 161) rfl ?_); refine goesL_ (some 21) rfl rfl Try.func161 (by kernel_rfl) rfl #[.int .i64 a0, .int .i64 x5_1] rfl eg ?_; (with_reducible refine (spec_l02Tree.calls k1 a0 x5_1 t293 true _ A7.out).mono ?_); rintro e w10 ⟨v294, rfl, ho0, hb⟩; refine ⟨_, rfl, ?_⟩; have n0_ := A_ (Kd.S_elder' spec_TreesOf.Z0 (Kd.R_base ho0) hb); have n1_ := A_ (Kd.R_lower ho0 (below_size (el HB))); have n2_ := A_ (below_step (el HB) hb); clear HO_4; clear HB; have HO_4 := n0_; have HO295 := n1_; have HB := n2_; clear n0_ n1_ n2_; (try clear hb); (try clear hb2); (try clear hk); (try clear hi); (try clear ho0)) | ((with_reducible refine gate_dst (N := 6) rfl ?_); refine box_event ?hg (N := 6) ?hd (cs := #[.slice none 0 0]) (t := 26) ?hr ?_; (case hd => rfl); (case hg => rfl); (case hr => first | (go_simp; done) | (go_simp; rfl)); intro gb297 hg w11 hbox hb; have n0_ := A_ (Kd.S_below (Kd.S_elderB spec_TreesOf.Z0 gb297 (Nat.le_of_eq hg.symm)) hb); have n1_ := A_ (Kd.R_below (ea HO295) hb); have n2_ := A_ (below_step (el HB) hb); have n3_ := A_ (hbox); have n4_ := A_ ((by rw [hg]; exact (below_size (el HB)) : w.heap.size ≤ gb297)); have n5_ := A_ ((by rw [hg]; exact (below_size (el HB)) : w.heap.size ≤ gb297)); clear HO_4; clear HO295; clear HB; have HO_4 := n0_; have HO295 := n1_; have HB := n2_; have BK297 := n3_; have GW297 := n4_; have GE297 := n5_; clear n0_ n1_ n2_ n3_ n4_ n5_; clear hb hbox hg; obtain ⟨Ao12, co12, eo12⟩ := Kd.R_slice HO295.out; subst eo12; have hcz13_0 : w11.cell? ⟨gb297, 0, none⟩ = some (.slice none 0 0) := (blk_cell BK297.out 0).trans rfl; have hfz13_0 := blk_frozen BK297.out 0) | ((with_reducible refine gate_store (t := 26) (p := 6) rfl ?_); refine store_event (t := 26) (p := 6) (v := ?vo_w14) (w1 := (w11.setCell ⟨gb297, 0, none⟩ (.slice Ao12 t293.length co12))) ?hg ?ho ?hn ?hr ?_; (case ho => rfl); (case hg => rfl); (case hn => rfl); (case hr => first | (go_simp; done) | (go_simp; rfl)); intro w14 hw; have n0_ : Aside0 (Kd.S k26 26 w14 w.heap.size (fun k_ => some k_ ≠ (.slice Ao12 t293.length co12 : Value).ownBlock ∧ k_ ≠ gb297) u4 x4_1) := ⟨(by rw [hw]; exact (by (with_reducible repeat (first | apply Kd.S_alloc | apply Kd.S_drewN | apply Kd.S_drew)); exact Kd.S_mono (Kd.S_far (p := ⟨gb297, 0, none⟩) (Kd.S_mono HO_4.out (fun k_ hk => (⟨hk, hk.2⟩ : _ ∧ k_ ≠ gb297))) (fun _ hk => hk.2) (.slice Ao12 t293.length co12)) (fun _ hk => ⟨hk.1.1.2, hk.1.2⟩)))⟩; have n1_ : Aside0 (Kd.R (Kd.int .i64) 2 w14 w.heap.size (fun _ => True) (.slice Ao12 t293.length co12) t293) := ⟨(by rw [hw]; exact (by (with_reducible repeat (first | apply Kd.R_alloc | apply Kd.R_drewN | apply Kd.R_drew)); exact Kd.R_mono (Kd.R_far (p := ⟨gb297, 0, none⟩) (Kd.R_types HO295.out BK297.out (by decide)) (fun _ hk => hk.2) (.slice Ao12 t293.length co12)) (fun _ hk => trivial)))⟩; have n2_ : Aside0 (w14.heap[gb297]? = some (.cells #[.slice Ao12 t293.length co12] 26 (0, 0))) := ⟨(by rw [hw]; exact (by (with_reducible repeat (first | refine blk_drewN ?_ _ | refine blk_drew ?_ | refine blk_alloc ?_ _)); refine blk_put (cs := #[.slice none 0 0]) ?_ 0 _ rfl; (with_reducible repeat (first | refine blk_drewN ?_ _ | refine blk_drew ?_ | refine blk_alloc ?_ _)); exact BK297.out))⟩; have n3_ : Aside0 (Below w.heap.size w w14) := ⟨(by rw [hw]; exact (el HB))⟩; clear hw; clear HO_4; clear HO295; clear BK297; clear HB; have HO_4 := n0_; have HO295 := n1_; have BK297 := n2_; have HB := n3_; clear n0_ n1_ n2_ n3_; have hcz15_0 : w14.cell? ⟨gb297, 0, none⟩ = some (.slice Ao12 t293.length co12) := (blk_cell BK297.out 0).trans rfl; have hfz15_0 := blk_frozen BK297.out 0) | ((with_reducible refine gate_builtin (b := .append) (xs := #[.tmp 27, .tmp 29]) rfl ?_); at_builtin; refine Kd.S_append k26 (w0 := w) w.heap.size rfl (.tmp 27) (.tmp 29) 56 26 (.agg #[(.slice none 0 0)]) 24 rfl Try.underlying56 info26 rfl (by decide) (by omega) u4 x4_1 (⟨t293⟩ : S26) [.slice Ao12 t293.length co12] (fun k_ => k_ ≠ gb297) (fun k_ => some k_ = (.slice Ao12 t293.length co12 : Value).ownBlock) rfl rfl ?aP (fun k_ hk_ => ((Kd.R_mono (ok' := fun k_ => ((fun k_ => k_ ≠ gb297)) k_ ∧ some k_ ≠ (u4 : Value).ownBlock) (Kd.R_types (Kd.R_apart' (HO295.out) (Kd.S_typed HO_4.out) (by decide)) BK297.out (by decide)) (fun k_ hk => ⟨hk.2, hk.1.2⟩))).1 k_ hk_.symm) ?aF ?aO ?aB ?aS ?aL ?_; (case aP => exact k26_mkM _ _ _ (⟨t293⟩ : S26) (Kd.R_mono (Kd.R_tight rfl (Kd.R_mono (ok' := fun k_ => ((fun k_ => k_ ≠ gb297)) k_ ∧ some k_ ≠ (u4 : Value).ownBlock) (Kd.R_types (Kd.R_apart' (HO295.out) (Kd.S_typed HO_4.out) (by decide)) BK297.out (by decide)) (fun k_ hk => ⟨hk.2, hk.1.2⟩))) (fun _ h_ => h_))); (case aB => exact (el HB)); (case aF => exact (fun k_ hk => Kd.freshB (g := gb297) (o := .cells #[.slice Ao12 t293.length co12] 26 (0, 0)) (eb BK297) k_ hk)); (case aO => exact (by (with_reducible repeat (first | apply Kd.S_alloc | apply Kd.S_drewN | apply Kd.S_drew)); exact Kd.S_mono HO_4.out (fun k_ hk => ⟨hk.2, fun e_ => hk.1 e_⟩))); (case aS => exact (below_size (el HB))); (case aL => have := LMc9.out; omega); intro v299 w16 ho hb hg hat; rw [← Ny298.out] at ho; have n0_ := A_ (blk_grown (g := gb297) (o := .cells #[.slice Ao12 t293.length co12] 26 (0, 0)) (eb BK297) hg (Kd.S_away HO_4.out (fun _ hk => hk.2))); have n1_ := A_ (hb); have n2_ := A_ (ho); clear BK297; clear HB; clear HO_4; clear HO295; have BK297 := n0_; have HB := n1_; have HO300 := n2_; clear n0_ n1_ n2_; clear ho hb hg hat))
      go_roundg k1
      case measure => have := HK1.out; omega
      case rel => exact ⟨(y298), (wrap64 (x5_1 + 1)), spec_TreesOf.Z1, H', ⟨by have := HK1.out; omega⟩, ⟨by (with_reducible repeat (first | apply Kd.S_alloc | apply Kd.S_drewN | apply Kd.S_drew)); exact Kd.S_mono HO300.out (fun _ hk => trivial)⟩, ⟨el HB⟩⟩
     ·replace c8 := Bool.eq_false_iff.mpr c8
      subst c8
      have H1 : (some (x4_1, 0)) = some (r1, r2) := by rw [if_neg (show ¬ (false = true) by decide)] at H; exact H
      clear H
      have H := H1
      clear H1
      simp only [Option.some.injEq, Prod.mk.injEq] at H
      obtain ⟨rfl, rfl⟩ := H
      go_wp2_with (first | ((with_reducible refine gate_callee (f := 161) rfl ?_); refine goesL_ (some 21) rfl rfl Try.func161 (by kernel_rfl) rfl #[.int .i64 a0, .int .i64 x5_1] rfl eg ?_; (with_reducible refine (spec_l02Tree.calls k1 a0 x5_1 t293 false _ A7.out).mono ?_); rintro e w17 ⟨v294, rfl, ho0, hb⟩; refine ⟨_, rfl, ?_⟩; have n0_ := A_ (Kd.S_elder' spec_TreesOf.Z0 (Kd.R_base ho0) hb); have n1_ := A_ (Kd.R_lower ho0 (below_size (el HB))); have n2_ := A_ (below_step (el HB) hb); clear HO_4; clear HB; have HO_4 := n0_; have HO295 := n1_; have HB := n2_; clear n0_ n1_ n2_; (try clear hb); (try clear hb2); (try clear hk); (try clear hi); (try clear ho0)) | ((with_reducible refine gate_dst (N := 6) rfl ?_); refine box_event ?hg (N := 6) ?hd (cs := #[.slice none 0 0]) (t := 26) ?hr ?_; (case hd => rfl); (case hg => rfl); (case hr => first | (go_simp; done) | (go_simp; rfl)); intro gb297 hg w18 hbox hb; have n0_ := A_ (Kd.S_below (Kd.S_elderB spec_TreesOf.Z0 gb297 (Nat.le_of_eq hg.symm)) hb); have n1_ := A_ (Kd.R_below (ea HO295) hb); have n2_ := A_ (below_step (el HB) hb); have n3_ := A_ (hbox); have n4_ := A_ ((by rw [hg]; exact (below_size (el HB)) : w.heap.size ≤ gb297)); have n5_ := A_ ((by rw [hg]; exact (below_size (el HB)) : w.heap.size ≤ gb297)); clear HO_4; clear HO295; clear HB; have HO_4 := n0_; have HO295 := n1_; have HB := n2_; have BK297 := n3_; have GW297 := n4_; have GE297 := n5_; clear n0_ n1_ n2_ n3_ n4_ n5_; clear hb hbox hg; obtain ⟨Ao19, co19, eo19⟩ := Kd.R_slice HO295.out; subst eo19; have hcz20_0 : w18.cell? ⟨gb297, 0, none⟩ = some (.slice none 0 0) := (blk_cell BK297.out 0).trans rfl; have hfz20_0 := blk_frozen BK297.out 0))
      go_ret2
      exact ⟨_, er, by (with_reducible repeat (first | apply Kd.S_alloc | apply Kd.S_drewN | apply Kd.S_drew)); exact Kd.S_mono (Kd.S_far (p := ⟨gb297, 0, none⟩) (Kd.S_mono HO_4.out (fun k_ hk => (⟨hk, hk.2⟩ : _ ∧ k_ ≠ gb297))) (fun _ hk => hk.2) (.slice Ao19 t293.length co19)) (fun _ hk => trivial), el HB⟩
 ·replace c3 := Bool.eq_false_iff.mpr c3
  subst c3
  have H1 : (some (([] : List (S26)), 2)) = some (r1, r2) := by rw [if_neg (show ¬ (false = true) by decide)] at H; exact H
  clear H
  have H := H1
  clear H1
  simp only [Option.some.injEq, Prod.mk.injEq] at H
  obtain ⟨rfl, rfl⟩ := H
  go_enter Try.func75, Try.ntmps75
  go_wp2_with (first | ((with_reducible refine gate_callee (f := 160) rfl ?_); refine goesL_ (some 10) rfl rfl Try.func160 (by kernel_rfl) rfl #[.int .i64 a0] rfl eg ?_; (with_reducible refine (spec_l02Whole.calls a0 false _ A2.out).mono ?_); rintro e w' ⟨rfl, ⟨nd, rfl⟩⟩; refine ⟨_, rfl, ?_⟩))
  go_ret2
  exact ⟨_, er, by first | exact Kd.S_nil _ _ _ _ _ | exact Kd.N_nil _ _ _ _ _ | exact Kd.V_nil _ _ _ _ _ | exact Kd.Q_nil _ _ _ _ _ | exact Kd.R_nil _ _ _ _ _, el HB⟩

/-! ### laws_tree9: function 89 -/
def laws_tree9.f (k : Nat) (l0_0 : List Int) (l1_0 : List Int) : Option (Bool) := (laws_likeInts.f k l0_0 l1_0).bind fun t303 => (some t303)
theorem laws_tree9.mono : ∀ a0 a1 k, LeO (laws_tree9.f k a0 a1) (laws_tree9.f (k + 1) a0 a1) := by
  intro a0 a1 k
  unfold laws_tree9.f
  repeat' first
      | (with_reducible exact laws_likeInts.mono _ _ _)
      | (with_reducible exact LeO.refl _)
      | (with_reducible exact LeO.none _)
      | (with_reducible refine LeO.ite ?_ ?_)
      | (with_reducible refine LeO.bind ?_ (fun _ => ?_))
      | exact laws_likeInts.mono _ _ _
      | exact LeO.none _
      | refine LeO.ite ?_ ?_
      | refine LeO.bind ?_ (fun _ => ?_)
set_option maxHeartbeats 8000000 in
set_option maxRecDepth 100000 in
theorem laws_tree9.calls (k : Nat) (A0_0 : Option Addr) (c0_0 : Nat) (l0_0 : List Int) (A1_0 : Option Addr) (c1_0 : Nat) (l1_0 : List Int) (r : Bool) (w : World) (hr0_0 : Kd.C (Kd.int .i64) w A0_0 l0_0.length l0_0) (hc0_0 : l0_0.length ≤ c0_0) (hr1_0 : Kd.C (Kd.int .i64) w A1_0 l1_0.length l1_0) (hc1_0 : l1_0.length ≤ c1_0) (h : laws_tree9.f k l0_0 l1_0 = some r) :
  Calls Try.prog 89 #[.agg #[.slice A0_0 l0_0.length c0_0], .agg #[.slice A1_0 l1_0.length c1_0]] w fun e w' => e = .returned (.bool r) ∧ Below w.heap.size w w' := by
 have hu26 := Try.underlying26
 have HR0_0 := A_ hr0_0
 have HC0_0 := A_ hc0_0
 clear hr0_0 hc0_0
 have HR1_0 := A_ hr1_0
 have HC1_0 := A_ hc1_0
 clear hr1_0 hc1_0
 have HB := A_ (Below.refl w.heap.size w)
 have H : ((laws_likeInts.f k l0_0 l1_0).bind fun t303 => (some t303)) = some r := h
 clear h
 replace H := Option.bind_eq_some_iff.mp H
 obtain ⟨t303, A30, H⟩ := H
 replace H : (some t303) = some r := H
 have A3 := A_ A30
 clear A30
 obtain rfl := Option.some.inj H
 go_enter Try.func89, Try.ntmps89
 go_wp2_with (first | ((with_reducible refine gate_dst (N := 2) rfl ?_); refine box_event ?hg (N := 2) ?hd (cs := #[.slice A0_0 l0_0.length c0_0]) (t := 26) ?hr ?_; (case hd => rfl); (case hg => rfl); (case hr => first | (go_simp; done) | (go_simp; rfl)); intro gb301 hg w4 hbox hb; have n0_ := A_ (below_step (el HB) hb); have n1_ := A_ (hbox); have n2_ := A_ ((by rw [hg]; exact (below_size (el HB)) : w.heap.size ≤ gb301)); have n3_ := A_ ((by rw [hg]; exact (below_size (el HB)) : w.heap.size ≤ gb301)); clear HB; have HB := n0_; have BK301 := n1_; have GW301 := n2_; have GE301 := n3_; clear n0_ n1_ n2_ n3_; clear hb hbox hg) | ((with_reducible refine gate_dst (N := 3) rfl ?_); refine box_event ?hg (N := 3) ?hd (cs := #[.slice A1_0 l1_0.length c1_0]) (t := 26) ?hr ?_; (case hd => rfl); (case hg => rfl); (case hr => first | (go_simp; done) | (go_simp; rfl)); intro gb302 hg w5 hbox hb; have n0_ := A_ (eB BK301 hb); have n1_ := A_ (below_step (el HB) hb); have n2_ := A_ (hbox); have n3_ := A_ ((by rw [hg]; exact (below_size (el HB)) : w.heap.size ≤ gb302)); have n4_ := A_ ((by rw [hg]; exact (below_size (el HB)) : w.heap.size ≤ gb302)); have n5_ := A_ ((by rw [hg]; exact Nat.ne_of_lt (eL BK301) : gb301 ≠ gb302)); have n6_ := A_ ((by rw [hg]; exact Nat.ne_of_gt (eL BK301) : gb302 ≠ gb301)); clear BK301; clear HB; have BK301 := n0_; have HB := n1_; have BK302 := n2_; have GW302 := n3_; have GE302 := n4_; have NB301_302 := n5_; have NB302_301 := n6_; clear n0_ n1_ n2_ n3_ n4_ n5_ n6_; clear hb hbox hg; have hnb6 := NB301_302.out; have hnc6 := NB302_301.out; have hcz7_0 : w5.cell? ⟨gb301, 0, none⟩ = some (.slice A0_0 l0_0.length c0_0) := (blk_cell BK301.out 0).trans rfl; have hfz7_0 := blk_frozen BK301.out 0; have hcz8_0 : w5.cell? ⟨gb302, 0, none⟩ = some (.slice A1_0 l1_0.length c1_0) := (blk_cell BK302.out 0).trans rfl; have hfz8_0 := blk_frozen BK302.out 0) | ((with_reducible refine gate_callee (f := 23) rfl ?_); refine goesL_ (some 9) rfl rfl Try.func23 (by kernel_rfl) rfl #[.slice A0_0 l0_0.length c0_0, .slice A1_0 l1_0.length c1_0] rfl eg ?_; (with_reducible refine (laws_likeInts.calls k _ _ l0_0 _ _ l1_0 t303 _ ?side1 ?side2 ?side3 ?side4 A3.out).mono ?_); (case side1 => repeat (first | exact (Kd.C_below HR0_0.out HB.out) | (with_reducible refine Kd.C_alloc ?_ _) | (with_reducible refine Kd.C_drewN ?_ _) | (with_reducible refine Kd.C_drew ?_))); (case side2 => exact HC0_0.out); (case side3 => repeat (first | exact (Kd.C_below HR1_0.out HB.out) | (with_reducible refine Kd.C_alloc ?_ _) | (with_reducible refine Kd.C_drewN ?_ _) | (with_reducible refine Kd.C_drew ?_))); (case side4 => exact HC1_0.out); rintro e w' ⟨rfl, ⟨nd, rfl⟩⟩; refine ⟨_, rfl, ?_⟩))
 go_ret
 exact ⟨er, el HB⟩

end Go.Proofs.Ytocachknmgefaaa.QFnTreeCounts
