/- Functions of the program as plain Lean functions, each with a proof that the machine's call answers what it answers. Conditions: none. -/
import Derived.Test.YtocachknmgefaaaQFnRanksx0
import Derived.Test.YtocachknmgefaaaQFnRanksx6
namespace Go.Proofs.Ytocachknmgefaaa.QFnRanks
open Go.RowKit Go.Proofs.YtocachknmgefaaaW.PrintWords Go.Proofs.YtocachknmgefaaaW.PrintLast Go.Proofs.YtocachknmgefaaaW.PrintMore
attribute [local go_sem] max2_int min2_int max_two min_two max_three min_three max_four min_four   -- for this text's walks alone
set_option linter.unusedVariables false
set_option linter.unusedSimpArgs false

/-! ### spec_l02Tree: function 161 -/
mutual
def spec_l02Tree.l0 : Nat → Int → Int → List (List Int) → Int → List Int → Int → Option (List Int × Bool)
  | 0, _, _, _, _, _, _ => none
  | k + 1, x0, x1, x6, x7, x8, x9 => if x9 < x0 then (spec_l02Tree.l1 k x0 x1 x6 x7 x8 x9 0) else (some (x8, true))
def spec_l02Tree.l1 : Nat → Int → Int → List (List Int) → Int → List Int → Int → Int → Option (List Int × Bool)
  | 0, _, _, _, _, _, _, _ => none
  | k + 1, x0, x1, x6, x7, x8, x9, x10 => if 0 ≤ (wrap64 ((wrap64 (x0 - x9)) - 1)) then (if (wrap64 ((wrap64 (x0 - x9)) - 1)) < (x6.length : Int) then (if 0 ≤ (wrap64 ((wrap64 (x7 - 1)) + x10)) then (if (wrap64 ((wrap64 (x7 - 1)) + x10)) < ((rd_L2 x6 (wrap64 ((wrap64 (x0 - x9)) - 1))).length : Int) then (if x1 ≥ (rd (rd_L2 x6 (wrap64 ((wrap64 (x0 - x9)) - 1))) (wrap64 ((wrap64 (x7 - 1)) + x10))) then (spec_l02Tree.l1 k x0 (wrap64 (x1 - (rd (rd_L2 x6 (wrap64 ((wrap64 (x0 - x9)) - 1))) (wrap64 ((wrap64 (x7 - 1)) + x10))))) x6 x7 x8 x9 (wrap64 (x10 + 1))) else (if x8.length < 17592186044416 then (spec_l02Tree.l0 k x0 x1 x6 (wrap64 ((wrap64 (x7 - 1)) + x10)) (x8 ++ [x10]) (wrap64 (x9 + 1))) else (none))) else (none)) else (none)) else (none)) else (none)
end
def spec_l02Tree.f (k : Nat) (a0 : Int) (a1 : Int) : Option (List Int × Bool) := (spec_l02Table.f k a0).bind fun t301 => (if 0 ≤ a0 then (if a0 < (t301.length : Int) then (if 1 < ((rd_L2 t301 a0).length : Int) then (if a1 ≥ (rd (rd_L2 t301 a0) 1) then (some (([] : List Int), false)) else (spec_l02Tree.l0 k a0 a1 t301 1 (([] : List Int)) 0)) else (none)) else (none)) else (none))
theorem spec_l02Tree.mono_l : ∀ k, (∀ y0 y1 y2 y3 y4 y5, LeO (spec_l02Tree.l0 k y0 y1 y2 y3 y4 y5) (spec_l02Tree.l0 (k + 1) y0 y1 y2 y3 y4 y5)) ∧ (∀ y0 y1 y2 y3 y4 y5 y6, LeO (spec_l02Tree.l1 k y0 y1 y2 y3 y4 y5 y6) (spec_l02Tree.l1 (k + 1) y0 y1 y2 y3 y4 y5 y6))
  | 0 => ⟨fun _ _ _ _ _ _ r h => by simp [spec_l02Tree.l0] at h, fun _ _ _ _ _ _ _ r h => by simp [spec_l02Tree.l1] at h⟩
  | k + 1 => by
    obtain ⟨ih0, ih1⟩ := spec_l02Tree.mono_l k
    refine ⟨?_, ?_⟩
    · intro y0 y1 y2 y3 y4 y5
      unfold spec_l02Tree.l0
      repeat' first
      | (with_reducible exact ih0 _ _ _ _ _ _)
      | (with_reducible exact ih1 _ _ _ _ _ _ _)
      | (with_reducible exact spec_l02Table.mono _ _)
      | (with_reducible exact LeO.refl _)
      | (with_reducible exact LeO.none _)
      | (with_reducible refine LeO.ite ?_ ?_)
      | (with_reducible refine LeO.bind ?_ (fun _ => ?_))
      | exact ih0 _ _ _ _ _ _
      | exact ih1 _ _ _ _ _ _ _
      | exact spec_l02Table.mono _ _
      | exact LeO.none _
      | refine LeO.ite ?_ ?_
      | refine LeO.bind ?_ (fun _ => ?_)
    · intro y0 y1 y2 y3 y4 y5 y6
      unfold spec_l02Tree.l1
      repeat' first
      | (with_reducible exact ih0 _ _ _ _ _ _)
      | (with_reducible exact ih1 _ _ _ _ _ _ _)
      | (with_reducible exact spec_l02Table.mono _ _)
      | (with_reducible exact LeO.refl _)
      | (with_reducible exact LeO.none _)
      | (with_reducible refine LeO.ite ?_ ?_)
      | (with_reducible refine LeO.bind ?_ (fun _ => ?_))
      | exact ih0 _ _ _ _ _ _
      | exact ih1 _ _ _ _ _ _ _
      | exact spec_l02Table.mono _ _
      | exact LeO.none _
      | refine LeO.ite ?_ ?_
      | refine LeO.bind ?_ (fun _ => ?_)
theorem spec_l02Tree.mono : ∀ a0 a1 k, LeO (spec_l02Tree.f k a0 a1) (spec_l02Tree.f (k + 1) a0 a1) := by
  intro a0 a1 k
  obtain ⟨ih0, ih1⟩ := spec_l02Tree.mono_l k
  unfold spec_l02Tree.f
  repeat' first
      | (with_reducible exact ih0 _ _ _ _ _ _)
      | (with_reducible exact ih1 _ _ _ _ _ _ _)
      | (with_reducible exact spec_l02Table.mono _ _)
      | (with_reducible exact LeO.refl _)
      | (with_reducible exact LeO.none _)
      | (with_reducible refine LeO.ite ?_ ?_)
      | (with_reducible refine LeO.bind ?_ (fun _ => ?_))
      | exact ih0 _ _ _ _ _ _
      | exact ih1 _ _ _ _ _ _ _
      | exact spec_l02Table.mono _ _
      | exact LeO.none _
      | refine LeO.ite ?_ ?_
      | refine LeO.bind ?_ (fun _ => ?_)
theorem spec_l02Tree.Z0 {p : Prop} (h : p := by (with_reducible repeat (first | refine blk_drewN ?_ _ | refine blk_drew ?_ | refine blk_alloc ?_ _)); refine blk_put (cs := #[.slice none 0 0]) ?_ 0 _ rfl; (with_reducible repeat (first | refine blk_drewN ?_ _ | refine blk_drew ?_ | refine blk_alloc ?_ _)); exact BK300.out) : p := h
theorem spec_l02Tree.Z1 {p : Prop} (h : p := by repeat (first | (with_reducible exact HR307_0.out) | (with_reducible refine Kd.C_alloc ?_ _) | (with_reducible refine Kd.C_drewN ?_ _) | (with_reducible refine Kd.C_drew ?_) | exact HR307_0.out)) : p := h
theorem spec_l02Tree.Z2 {p : Prop} (h : p := by repeat (first | (with_reducible exact HR309_0.out) | (with_reducible refine Kd.C_alloc ?_ _) | (with_reducible refine Kd.C_drewN ?_ _) | (with_reducible refine Kd.C_drew ?_) | exact HR309_0.out)) : p := h
theorem spec_l02Tree.Z3 {p : Prop} (h : p := by first | exact q307 | exact of_decide_eq_true (by first | (with_reducible assumption) | assumption) | (have e_ := (Kd.S_reads' HO303.out).1; omega)) : p := h
theorem spec_l02Tree.Z4 {p : Prop} (h : p := by first | exact q309 | exact of_decide_eq_true (by first | (with_reducible assumption) | assumption) | (have e_ := (Kd.S_reads' HO_6.out).1; omega)) : p := h
theorem spec_l02Tree.Z5 {p : Prop} (h : p := by (with_reducible repeat (first | apply Kd.S_alloc | apply Kd.S_drewN | apply Kd.S_drew)); exact HO303.out) : p := h
theorem spec_l02Tree.Z6 {p : Prop} (h : p := by first | (with_reducible assumption) | assumption) : p := h
theorem spec_l02Tree.Z7 {p : Prop} (h : p := by first | rfl | (simp; done) | (simp [*]; done)) : p := h
set_option maxHeartbeats 8000000 in
set_option maxRecDepth 100000 in
theorem spec_l02Tree.calls (k : Nat) (a0 : Int) (a1 : Int) (r1 : List Int) (r2 : Bool) (w : World) (h : spec_l02Tree.f k a0 a1 = some (r1, r2)) :
  Calls Try.prog 161 #[.int .i64 a0, .int .i64 a1] w fun e w' => ∃ v0_ : Value, e = .returned (.tuple #[.agg #[v0_], .bool r2]) ∧ Kd.R (Kd.int .i64) 2 w' w.heap.size (fun _ => True) v0_ r1 ∧ Below w.heap.size w w' := by
 have hu26 := Try.underlying26
 have HB := A_ (Below.refl w.heap.size w)
 have H : ((spec_l02Table.f k a0).bind fun t301 => (if 0 ≤ a0 then (if a0 < (t301.length : Int) then (if 1 < ((rd_L2 t301 a0).length : Int) then (if a1 ≥ (rd (rd_L2 t301 a0) 1) then (some (([] : List Int), false)) else (spec_l02Tree.l0 k a0 a1 t301 1 (([] : List Int)) 0)) else (none)) else (none)) else (none))) = some (r1, r2) := h
 clear h
 replace H := Option.bind_eq_some_iff.mp H
 obtain ⟨t301, A30, H⟩ := H
 replace H : (if 0 ≤ a0 then (if a0 < (t301.length : Int) then (if 1 < ((rd_L2 t301 a0).length : Int) then (if a1 ≥ (rd (rd_L2 t301 a0) 1) then (some (([] : List Int), false)) else (spec_l02Tree.l0 k a0 a1 t301 1 (([] : List Int)) 0)) else (none)) else (none)) else (none)) = some (r1, r2) := H
 have A3 := A_ A30
 clear A30
 obtain ⟨y304, hy304⟩ : ∃ y_ : List Int, y_ = (([] : List Int)) := ⟨_, rfl⟩
 replace H : (if 0 ≤ a0 then (if a0 < (t301.length : Int) then (if 1 < ((rd_L2 t301 a0).length : Int) then (if a1 ≥ (rd (rd_L2 t301 a0) 1) then (some (([] : List Int), false)) else (spec_l02Tree.l0 k a0 a1 t301 1 y304 0)) else (none)) else (none)) else (none)) = some (r1, r2) := by first | (rw [hy304]; with_reducible exact H) | (have H2_ := (Option.bind_some _ _).symm.trans H; rw [hy304]; with_reducible exact H2_) | (have H2_ := (Option.bind_some _ _).symm.trans H; with_reducible exact H2_) | with_reducible exact H | (rw [hy304]; exact H) | exact H
 have Ny304 := A_ hy304
 clear hy304
 by_cases c4 : 0 ≤ a0
 ·rw [if_pos c4] at H
  have c4b0 : decide (0 ≤ a0) = true := decide_eq_true c4
  clear c4
  by_cases c5 : a0 < (t301.length : Int)
  rotate_left
  ·rw [if_neg c5] at H
   exact absurd H (by simp)
  rw [if_pos c5] at H
  have c5b0 : decide (a0 < (t301.length : Int)) = true := decide_eq_true c5
  clear c5
  by_cases c6 : 1 < ((rd_L2 t301 a0).length : Int)
  rotate_left
  ·rw [if_neg c6] at H
   exact absurd H (by simp)
  rw [if_pos c6] at H
  have c6b0 : decide (1 < ((rd_L2 t301 a0).length : Int)) = true := decide_eq_true c6
  have c6b1 : decide (1 < (rd_L2 t301 a0).length) = true := decide_eq_true (by omega)
  clear c6
  by_cases c7 : a1 ≥ (rd (rd_L2 t301 a0) 1)
  ·rw [if_pos c7] at H
   have c7b0 : decide ((rd (rd_L2 t301 a0) 1) ≤ a1) = true := decide_eq_true c7
   clear c7
   simp only [Option.some.injEq, Prod.mk.injEq] at H
   obtain ⟨rfl, rfl⟩ := H
   go_enter Try.func161, Try.ntmps161
   go_wp2_with (first | ((with_reducible refine gate_dst (N := 4) rfl ?_); refine box_event ?hg (N := 4) ?hd (cs := #[.slice none 0 0]) (t := 26) ?hr ?_; (case hd => rfl); (case hg => rfl); (case hr => first | (go_simp; done) | (go_simp; rfl)); intro gb300 hg w8 hbox hb; have n0_ := A_ (below_step (el HB) hb); have n1_ := A_ (hbox); have n2_ := A_ ((by rw [hg]; exact (below_size (el HB)) : w.heap.size ≤ gb300)); have n3_ := A_ ((by rw [hg]; exact (below_size (el HB)) : w.heap.size ≤ gb300)); clear HB; have HB := n0_; have BK300 := n1_; have GW300 := n2_; have GE300 := n3_; clear n0_ n1_ n2_ n3_; clear hb hbox hg) | ((with_reducible refine gate_callee (f := 174) rfl ?_); refine goesL_ (some 12) rfl rfl Try.func174 (by kernel_rfl) rfl #[.int .i64 a0] rfl eg ?_; (with_reducible refine (spec_l02Table.calls k a0 t301 _ A3.out).mono ?_); rintro e w9 ⟨v302, rfl, ho0, hb⟩; refine ⟨_, rfl, ?_⟩; have n0_ := A_ (Kd.S_lower ho0 (below_size (el HB))); have n1_ := A_ (eB BK300 hb); have n2_ := A_ (below_step (el HB) hb); clear BK300; clear HB; have HO303 := n0_; have BK300 := n1_; have HB := n2_; clear n0_ n1_ n2_; (try clear hb); (try clear hb2); (try clear hk); (try clear hi); (try clear ho0)) | ((with_reducible refine gate_dst (N := 13) rfl ?_); refine Kd.R_lit (Kd.int .i64) _ 2 ?hg (N := 13) ?hd (xs := ([] : List Int)) (inner := []) (ok := fun _ => True) (okp := fun _ => True) ?hr ?hp (fun _ hk => hk) trivial (Below.refl _ _) (Nat.le_refl _) (by simp) ?_; (case hd => rfl); (case hg => rfl); (case hr => first | (go_simp; done) | (go_simp; rfl)); (case hp => exact (Reps.none _ _)); intro v305 w10 ho11 hb hg_ hnew_; clear hg_ hnew_; (first | rw [← Ny304.out] at ho11 | (simp only [Int.reduceToNat] at ho11; rw [← Ny304.out] at ho11)); have n0_ := A_ (Kd.S_elder' spec_l02Tree.Z5 (Kd.R_base ho11) hb); have n1_ := A_ (Kd.R_lower ho11 (below_size (el HB))); have n2_ := A_ (eB BK300 hb); have n3_ := A_ (below_step (el HB) hb); clear HO303; clear BK300; clear HB; have HO303 := n0_; have HO306 := n1_; have BK300 := n2_; have HB := n3_; clear n0_ n1_ n2_ n3_; clear hb ho11; obtain ⟨Ao12, co12, eo12⟩ := Kd.S_slice HO303.out; subst eo12; have p307 : 0 ≤ (a0 : Int) := of_decide_eq_true spec_l02Tree.Z6; have q307 : a0 < (t301.length : Int) := of_decide_eq_true spec_l02Tree.Z6; obtain ⟨ad307, A307_0, c307_0, e307, hx307_0, hl307_0, hi307_0⟩ := at_L2 (Kd.S_reads' HO303.out).2.2 a0 p307 q307; cases e307; obtain ⟨ce307, hce307, hMe307, hcc307⟩ := Kd.S_get HO303.out [] a0 p307 spec_l02Tree.Z3; obtain ⟨ve307_0, rfl, ge307_0⟩ := hMe307; have hv307_0 := hcc307 0 _ rfl; rw [Nat.add_zero, show ((Kd.slice 2 (Kd.int .i64))).sz = 1 from rfl, Nat.mul_one] at hv307_0; replace hv307_0 := Option.some.inj (hv307_0.symm.trans hx307_0); rw [hv307_0] at ge307_0; have HL307_0 := A_ (show Kd.R (Kd.int .i64) 2 _ _ _ _ (rd_L2 t301 a0) from ge307_0); clear hv307_0 ge307_0; clear hcc307 hce307; have HR307_0 := A_ hi307_0; have HC307_0 := A_ hl307_0; clear hi307_0 hl307_0; replace p307 := eq_true p307; replace q307 := eq_true q307; have p308 : 0 ≤ (1 : Int) := (by omega); have q308 : 1 < ((rd_L2 t301 a0).length : Int) := of_decide_eq_true spec_l02Tree.Z6; obtain ⟨ad308, e308, hx308_0⟩ := Kd.at_int spec_l02Tree.Z1 1 p308 q308; cases e308; (try simp only [show (1 : Int).toNat = 1 from rfl, Nat.reduceMul, Nat.reduceEqDiff, Go.Addr.add, ↓reduceIte] at hx308_0); have qi308 : (1 < (rd_L2 t301 a0).length) = True := eq_true (by omega); (try rw [show ((1 : Int)).toNat = 1 from rfl] at hx308_0); replace p308 := eq_true p308; replace q308 := eq_true q308; have hcz13_0 : w10.cell? ⟨gb300, 0, none⟩ = some (.slice none 0 0) := (blk_cell BK300.out 0).trans rfl; have hfz13_0 := blk_frozen BK300.out 0))
   refine bodyPost_ret (results_ct rfl _ _ gb300 26 #[.slice none 0 0] (0, 0) _ rfl spec_l02Tree.Z0 Try.underlying26 rfl (by kernel_rfl)) rfl ?_
   exact ⟨_, er, by first | exact Kd.R_nil _ _ _ _ _ | exact Kd.N_nil _ _ _ _ _ | exact Kd.V_nil _ _ _ _ _ | exact Kd.Q_nil _ _ _ _ _ | exact Kd.S_nil _ _ _ _ _, el HB⟩
  ·rw [if_neg c7] at H
   have c7b0 : decide ((rd (rd_L2 t301 a0) 1) ≤ a1) = false := decide_eq_false c7
   clear c7
   have H' := A_ H
   clear H
   go_enter Try.func161, Try.ntmps161
   go_wp2_with (first | ((with_reducible refine gate_dst (N := 4) rfl ?_); refine box_event ?hg (N := 4) ?hd (cs := #[.slice none 0 0]) (t := 26) ?hr ?_; (case hd => rfl); (case hg => rfl); (case hr => first | (go_simp; done) | (go_simp; rfl)); intro gb300 hg w14 hbox hb; have n0_ := A_ (below_step (el HB) hb); have n1_ := A_ (hbox); have n2_ := A_ ((by rw [hg]; exact (below_size (el HB)) : w.heap.size ≤ gb300)); have n3_ := A_ ((by rw [hg]; exact (below_size (el HB)) : w.heap.size ≤ gb300)); clear HB; have HB := n0_; have BK300 := n1_; have GW300 := n2_; have GE300 := n3_; clear n0_ n1_ n2_ n3_; clear hb hbox hg) | ((with_reducible refine gate_callee (f := 174) rfl ?_); refine goesL_ (some 12) rfl rfl Try.func174 (by kernel_rfl) rfl #[.int .i64 a0] rfl eg ?_; (with_reducible refine (spec_l02Table.calls k a0 t301 _ A3.out).mono ?_); rintro e w15 ⟨v302, rfl, ho0, hb⟩; refine ⟨_, rfl, ?_⟩; have n0_ := A_ (Kd.S_lower ho0 (below_size (el HB))); have n1_ := A_ (eB BK300 hb); have n2_ := A_ (below_step (el HB) hb); clear BK300; clear HB; have HO303 := n0_; have BK300 := n1_; have HB := n2_; clear n0_ n1_ n2_; (try clear hb); (try clear hb2); (try clear hk); (try clear hi); (try clear ho0)) | ((with_reducible refine gate_dst (N := 13) rfl ?_); refine Kd.R_lit (Kd.int .i64) _ 2 ?hg (N := 13) ?hd (xs := ([] : List Int)) (inner := []) (ok := fun _ => True) (okp := fun _ => True) ?hr ?hp (fun _ hk => hk) trivial (Below.refl _ _) (Nat.le_refl _) (by simp) ?_; (case hd => rfl); (case hg => rfl); (case hr => first | (go_simp; done) | (go_simp; rfl)); (case hp => exact (Reps.none _ _)); intro v305 w16 ho17 hb hg_ hnew_; clear hg_ hnew_; (first | rw [← Ny304.out] at ho17 | (simp only [Int.reduceToNat] at ho17; rw [← Ny304.out] at ho17)); have n0_ := A_ (Kd.S_elder' spec_l02Tree.Z5 (Kd.R_base ho17) hb); have n1_ := A_ (Kd.R_lower ho17 (below_size (el HB))); have n2_ := A_ (eB BK300 hb); have n3_ := A_ (below_step (el HB) hb); clear HO303; clear BK300; clear HB; have HO303 := n0_; have HO306 := n1_; have BK300 := n2_; have HB := n3_; clear n0_ n1_ n2_ n3_; clear hb ho17; obtain ⟨Ao18, co18, eo18⟩ := Kd.S_slice HO303.out; subst eo18; have p307 : 0 ≤ (a0 : Int) := of_decide_eq_true spec_l02Tree.Z6; have q307 : a0 < (t301.length : Int) := of_decide_eq_true spec_l02Tree.Z6; obtain ⟨ad307, A307_0, c307_0, e307, hx307_0, hl307_0, hi307_0⟩ := at_L2 (Kd.S_reads' HO303.out).2.2 a0 p307 q307; cases e307; obtain ⟨ce307, hce307, hMe307, hcc307⟩ := Kd.S_get HO303.out [] a0 p307 spec_l02Tree.Z3; obtain ⟨ve307_0, rfl, ge307_0⟩ := hMe307; have hv307_0 := hcc307 0 _ rfl; rw [Nat.add_zero, show ((Kd.slice 2 (Kd.int .i64))).sz = 1 from rfl, Nat.mul_one] at hv307_0; replace hv307_0 := Option.some.inj (hv307_0.symm.trans hx307_0); rw [hv307_0] at ge307_0; have HL307_0 := A_ (show Kd.R (Kd.int .i64) 2 _ _ _ _ (rd_L2 t301 a0) from ge307_0); clear hv307_0 ge307_0; clear hcc307 hce307; have HR307_0 := A_ hi307_0; have HC307_0 := A_ hl307_0; clear hi307_0 hl307_0; replace p307 := eq_true p307; replace q307 := eq_true q307; have p308 : 0 ≤ (1 : Int) := (by omega); have q308 : 1 < ((rd_L2 t301 a0).length : Int) := of_decide_eq_true spec_l02Tree.Z6; obtain ⟨ad308, e308, hx308_0⟩ := Kd.at_int spec_l02Tree.Z1 1 p308 q308; cases e308; (try simp only [show (1 : Int).toNat = 1 from rfl, Nat.reduceMul, Nat.reduceEqDiff, Go.Addr.add, ↓reduceIte] at hx308_0); have qi308 : (1 < (rd_L2 t301 a0).length) = True := eq_true (by omega); (try rw [show ((1 : Int)).toNat = 1 from rfl] at hx308_0); replace p308 := eq_true p308; replace q308 := eq_true q308))
   go_loopg [1, 7, 8, 9] k (fun kq v1 v7 v8 v9 w' => ∃ (x1_1 : Int) (x7_1 : Int) (x8_1 : List Int) (x9_1 : Int), v1 = .int .i64 x1_1 ∧ v7 = .int .i64 x7_1 ∧ v9 = .int .i64 x9_1 ∧ Aside0 (spec_l02Tree.l0 kq a0 x1_1 t301 x7_1 x8_1 x9_1 = some (r1, r2)) ∧ Aside0 (kq ≤ k) ∧ Aside0 (Kd.S (Kd.slice 2 (Kd.int .i64)) 24 w' w.heap.size (fun k_ => some k_ ≠ (v8 : Value).ownBlock) (.slice (some ad307) t301.length co18) t301) ∧ Aside0 (Kd.R (Kd.int .i64) 2 w' w.heap.size (fun _ => True) v8 x8_1) ∧ Aside0 (w'.heap[gb300]? = some (.cells #[(.slice none 0 0)] 26 (0, 0))) ∧ Aside0 (Below w.heap.size w w'))
   case atStart => exact ⟨(a1), (1), (y304), (0), spec_l02Tree.Z7, spec_l02Tree.Z7, spec_l02Tree.Z7, H', ⟨Nat.le_refl _⟩, ⟨by (with_reducible repeat (first | apply Kd.S_alloc | apply Kd.S_drewN | apply Kd.S_drew)); exact Kd.S_mono HO303.out (fun _ hk => hk.2)⟩, ⟨ea HO306⟩, ⟨eb BK300⟩, ⟨el HB⟩⟩
   case round =>
    clear H'
    try clear c1
    try clear p2
    try clear c3
    try clear p3
    try clear q3
    try clear hx3
    try clear qi3
    try clear c4
    try clear c4b0
    try clear c5
    try clear c5b0
    try clear c6
    try clear c6b0
    try clear c6b1
    try clear c7
    try clear c7b0
    try clear c16
    try clear c17
    try clear hcz13_0
    try clear hfz13_0
    try clear hx307_0
    try clear hx308_0
    try clear p307
    try clear p308
    try clear q307
    try clear q308
    obtain ⟨x1_1, x7_1, x8_1, x9_1, rfl, rfl, rfl, HA, HK1, HO_6, HO_8, BK300, HB⟩ := hrel
    cases gk with
    | zero => exact absurd HA.out (by simp [spec_l02Tree.l0])
    | succ k1 =>
     have H := HA.out
     clear HA
     simp only [spec_l02Tree.l0] at H
     by_cases c19 : x9_1 < a0
     ·rw [if_pos c19] at H
      have c19b0 : decide (x9_1 < a0) = true := decide_eq_true c19
      clear c19
      have H' := A_ H
      clear H
      go_wp2
      go_loopg [1, 10] k1 (fun kq v1 v10 w' => ∃ (x1_2 : Int) (x10_2 : Int), v1 = .int .i64 x1_2 ∧ v10 = .int .i64 x10_2 ∧ Aside0 (spec_l02Tree.l1 kq a0 x1_2 t301 x7_1 x8_1 x9_1 x10_2 = some (r1, r2)) ∧ Aside0 (kq ≤ k1) ∧ Aside0 (Kd.S (Kd.slice 2 (Kd.int .i64)) 24 w' w.heap.size (fun k_ => some k_ ≠ (u8 : Value).ownBlock) (.slice (some ad307) t301.length co18) t301) ∧ Aside0 (Kd.R (Kd.int .i64) 2 w' w.heap.size (fun _ => True) u8 x8_1) ∧ Aside0 (w'.heap[gb300]? = some (.cells #[(.slice none 0 0)] 26 (0, 0))) ∧ Aside0 (Below w.heap.size w w'))
      case atStart => exact ⟨(x1_1), (0), spec_l02Tree.Z7, spec_l02Tree.Z7, H', ⟨Nat.le_refl _⟩, ⟨by (with_reducible repeat (first | apply Kd.S_alloc | apply Kd.S_drewN | apply Kd.S_drew)); exact HO_6.out⟩, ⟨ea HO_8⟩, ⟨eb BK300⟩, ⟨el HB⟩⟩
      case round =>
       clear H'
       try clear c1
       try clear p2
       try clear c3
       try clear p3
       try clear q3
       try clear hx3
       try clear qi3
       try clear c4
       try clear c4b0
       try clear c5
       try clear c5b0
       try clear c6
       try clear c6b0
       try clear c6b1
       try clear c7
       try clear c7b0
       try clear c16
       try clear c17
       try clear c19
       try clear c19b0
       try clear hcz13_0
       try clear hfz13_0
       try clear hx307_0
       try clear hx308_0
       try clear p2
       try clear p3
       try clear p307
       try clear p308
       try clear q3
       try clear q307
       try clear q308
       obtain ⟨x1_2, x10_2, rfl, rfl, HA, HK2, HO_6, HO_8, BK300, HB⟩ := hrel
       cases gk with
       | zero => exact absurd HA.out (by simp [spec_l02Tree.l1])
       | succ k2 =>
        have H := HA.out
        clear HA
        simp only [spec_l02Tree.l1] at H
        obtain ⟨ji20, hji20⟩ : ∃ j_ : Int, (wrap64 ((wrap64 (a0 - x9_1)) - 1)) = j_ := ⟨_, rfl⟩
        replace H : (if 0 ≤ (ji20) then (if (ji20) < (t301.length : Int) then (if 0 ≤ (wrap64 ((wrap64 (x7_1 - 1)) + x10_2)) then (if (wrap64 ((wrap64 (x7_1 - 1)) + x10_2)) < ((rd_L2 t301 (ji20)).length : Int) then (if x1_2 ≥ (rd (rd_L2 t301 (ji20)) (wrap64 ((wrap64 (x7_1 - 1)) + x10_2))) then (spec_l02Tree.l1 k2 a0 (wrap64 (x1_2 - (rd (rd_L2 t301 (ji20)) (wrap64 ((wrap64 (x7_1 - 1)) + x10_2))))) t301 x7_1 x8_1 x9_1 (wrap64 (x10_2 + 1))) else (if x8_1.length < 17592186044416 then (spec_l02Tree.l0 k2 a0 x1_2 t301 (wrap64 ((wrap64 (x7_1 - 1)) + x10_2)) (x8_1 ++ [x10_2]) (wrap64 (x9_1 + 1))) else (none))) else (none)) else (none)) else (none)) else (none)) = some (r1, r2) := by first | (rw [hji20] at H; exact H) | (simp only [hji20] at H ⊢; exact H)
        have hji20w : (IntKind.i64.wrap ((wrap64 (a0 - x9_1)) - 1)) = ji20 := (i64_w _).trans hji20
        by_cases c21 : 0 ≤ (ji20)
        rotate_left
        ·rw [if_neg c21] at H
         exact absurd H (by simp)
        rw [if_pos c21] at H
        have c21b0 : decide (0 ≤ (ji20)) = true := decide_eq_true c21
        clear c21
        by_cases c22 : (ji20) < (t301.length : Int)
        rotate_left
        ·rw [if_neg c22] at H
         exact absurd H (by simp)
        rw [if_pos c22] at H
        have c22b0 : decide ((ji20) < (t301.length : Int)) = true := decide_eq_true c22
        clear c22
        obtain ⟨ji23, hji23⟩ : ∃ j_ : Int, (wrap64 ((wrap64 (x7_1 - 1)) + x10_2)) = j_ := ⟨_, rfl⟩
        replace H : (if 0 ≤ (ji23) then (if (ji23) < ((rd_L2 t301 (ji20)).length : Int) then (if x1_2 ≥ (rd (rd_L2 t301 (ji20)) (ji23)) then (spec_l02Tree.l1 k2 a0 (wrap64 (x1_2 - (rd (rd_L2 t301 (ji20)) (ji23)))) t301 x7_1 x8_1 x9_1 (wrap64 (x10_2 + 1))) else (if x8_1.length < 17592186044416 then (spec_l02Tree.l0 k2 a0 x1_2 t301 ji23 (x8_1 ++ [x10_2]) (wrap64 (x9_1 + 1))) else (none))) else (none)) else (none)) = some (r1, r2) := by first | (rw [hji23] at H; exact H) | (simp only [hji23] at H ⊢; exact H)
        have hji23w : (IntKind.i64.wrap ((wrap64 (x7_1 - 1)) + x10_2)) = ji23 := (i64_w _).trans hji23
        by_cases c24 : 0 ≤ (ji23)
        rotate_left
        ·rw [if_neg c24] at H
         exact absurd H (by simp)
        rw [if_pos c24] at H
        have c24b0 : decide (0 ≤ (ji23)) = true := decide_eq_true c24
        clear c24
        by_cases c25 : (ji23) < ((rd_L2 t301 (ji20)).length : Int)
        rotate_left
        ·rw [if_neg c25] at H
         exact absurd H (by simp)
        rw [if_pos c25] at H
        have c25b0 : decide ((ji23) < ((rd_L2 t301 (ji20)).length : Int)) = true := decide_eq_true c25
        clear c25
        by_cases c26 : x1_2 ≥ (rd (rd_L2 t301 (ji20)) (ji23))
        ·rw [if_pos c26] at H
         have c26b0 : decide ((rd (rd_L2 t301 (ji20)) (ji23)) ≤ x1_2) = true := decide_eq_true c26
         clear c26
         have H' := A_ H
         clear H
         have p309 : 0 ≤ ((ji20) : Int) := of_decide_eq_true spec_l02Tree.Z6
         have q309 : (ji20) < (t301.length : Int) := of_decide_eq_true spec_l02Tree.Z6
         obtain ⟨ad309, A309_0, c309_0, e309, hx309_0, hl309_0, hi309_0⟩ := at_L2 (Kd.S_reads' HO_6.out).2.2 (ji20) p309 q309
         obtain rfl : ad307 = ad309 := (by injection e309)
         obtain ⟨ce309, hce309, hMe309, hcc309⟩ := Kd.S_get HO_6.out [] (ji20) p309 spec_l02Tree.Z4
         obtain ⟨ve309_0, rfl, ge309_0⟩ := hMe309
         have hv309_0 := hcc309 0 _ rfl
         rw [Nat.add_zero, show ((Kd.slice 2 (Kd.int .i64))).sz = 1 from rfl, Nat.mul_one] at hv309_0
         replace hv309_0 := Option.some.inj (hv309_0.symm.trans hx309_0)
         rw [hv309_0] at ge309_0
         have HL309_0 := A_ (show Kd.R (Kd.int .i64) 2 _ _ _ _ (rd_L2 t301 (ji20)) from ge309_0)
         clear hv309_0 ge309_0
         clear hcc309 hce309
         have HR309_0 := A_ hi309_0
         have HC309_0 := A_ hl309_0
         clear hi309_0 hl309_0
         replace p309 := eq_true p309
         replace q309 := eq_true q309
         have p310 : 0 ≤ ((ji23) : Int) := of_decide_eq_true spec_l02Tree.Z6
         have q310 : (ji23) < ((rd_L2 t301 (ji20)).length : Int) := of_decide_eq_true spec_l02Tree.Z6
         obtain ⟨ad310, e310, hx310_0⟩ := Kd.at_int spec_l02Tree.Z2 (ji23) p310 q310
         cases e310
         replace p310 := eq_true p310
         replace q310 := eq_true q310
         have p311 : 0 ≤ ((ji20) : Int) := of_decide_eq_true spec_l02Tree.Z6
         have q311 : (ji20) < (t301.length : Int) := of_decide_eq_true spec_l02Tree.Z6
         obtain ⟨ad311, A311_0, c311_0, e311, hx311_0, hl311_0, hi311_0⟩ := at_L2 (Kd.S_reads' HO_6.out).2.2 (ji20) p311 q311
         obtain rfl : ad307 = ad311 := (by injection e311)
         obtain ⟨ce311, hce311, hMe311, hcc311⟩ := Kd.S_get HO_6.out [] (ji20) p311 (by first | exact q311 | exact of_decide_eq_true spec_l02Tree.Z6 | (have e_ := (Kd.S_reads' HO_6.out).1; omega))
         obtain ⟨ve311_0, rfl, ge311_0⟩ := hMe311
         have hv311_0 := hcc311 0 _ rfl
         rw [Nat.add_zero, show ((Kd.slice 2 (Kd.int .i64))).sz = 1 from rfl, Nat.mul_one] at hv311_0
         replace hv311_0 := Option.some.inj (hv311_0.symm.trans hx311_0)
         rw [hv311_0] at ge311_0
         have HL311_0 := A_ (show Kd.R (Kd.int .i64) 2 _ _ _ _ (rd_L2 t301 (ji20)) from ge311_0)
         clear hv311_0 ge311_0
         clear hcc311 hce311
         have HR311_0 := A_ hi311_0
         have HC311_0 := A_ hl311_0
         clear hi311_0 hl311_0
         replace p311 := eq_true p311
         replace q311 := eq_true q311
         have ea_ := Option.some.inj (hx309_0.symm.trans hx311_0)
         injection ea_ with ea_ en_ ec_
         subst ea_
         subst ec_
         clear en_
         have p312 : 0 ≤ ((ji23) : Int) := of_decide_eq_true spec_l02Tree.Z6
         have q312 : (ji23) < ((rd_L2 t301 (ji20)).length : Int) := of_decide_eq_true spec_l02Tree.Z6
         obtain ⟨ad312, e312, hx312_0⟩ := Kd.at_int (by repeat (first | (with_reducible exact HR311_0.out) | (with_reducible refine Kd.C_alloc ?_ _) | (with_reducible refine Kd.C_drewN ?_ _) | (with_reducible refine Kd.C_drew ?_) | exact HR311_0.out)) (ji23) p312 q312
         cases e312
         replace p312 := eq_true p312
         replace q312 := eq_true q312
         go_wp2
         go_roundg k2
         case measure => have := HK1.out; have := HK2.out; omega
         case rel => exact ⟨(wrap64 (x1_2 - (rd (rd_L2 t301 (ji20)) (ji23)))), (wrap64 (x10_2 + 1)), (by first | rfl | (simp; done) | (simp only [← hji20, ← hji23] <;> (first | rfl | simp)) | (simp [*]; done)), spec_l02Tree.Z7, H', ⟨by have := HK1.out; have := HK2.out; omega⟩, ⟨by (with_reducible repeat (first | apply Kd.S_alloc | apply Kd.S_drewN | apply Kd.S_drew)); first | exact HO_6.out | (have h_ := HO_6.out; simpa only [ownBlock_slice] using h_)⟩, ⟨es HO_8⟩, ⟨eb BK300⟩, ⟨el HB⟩⟩
        ·rw [if_neg c26] at H
         have c26b0 : decide ((rd (rd_L2 t301 (ji20)) (ji23)) ≤ x1_2) = false := decide_eq_false c26
         clear c26
         by_cases c27 : x8_1.length < 17592186044416
         rotate_left
         ·rw [if_neg c27] at H
          exact absurd H (by simp)
         rw [if_pos c27] at H
         have LMc27 := A_ c27
         clear c27
         obtain ⟨y313, hy313⟩ : ∃ y_ : List Int, y_ = (x8_1 ++ [x10_2]) := ⟨_, rfl⟩
         replace H : (spec_l02Tree.l0 k2 a0 x1_2 t301 ji23 y313 (wrap64 (x9_1 + 1))) = some (r1, r2) := by first | (rw [hy313]; with_reducible exact H) | (have H2_ := (Option.bind_some _ _).symm.trans H; rw [hy313]; with_reducible exact H2_) | (have H2_ := (Option.bind_some _ _).symm.trans H; with_reducible exact H2_) | with_reducible exact H | (rw [hy313]; exact H) | exact H
         have Ny313 := A_ hy313
         clear hy313
         have H' := A_ H
         clear H
         have p309 : 0 ≤ ((ji20) : Int) := of_decide_eq_true spec_l02Tree.Z6
         have q309 : (ji20) < (t301.length : Int) := of_decide_eq_true spec_l02Tree.Z6
         obtain ⟨ad309, A309_0, c309_0, e309, hx309_0, hl309_0, hi309_0⟩ := at_L2 (Kd.S_reads' HO_6.out).2.2 (ji20) p309 q309
         obtain rfl : ad307 = ad309 := (by injection e309)
         obtain ⟨ce309, hce309, hMe309, hcc309⟩ := Kd.S_get HO_6.out [] (ji20) p309 spec_l02Tree.Z4
         obtain ⟨ve309_0, rfl, ge309_0⟩ := hMe309
         have hv309_0 := hcc309 0 _ rfl
         rw [Nat.add_zero, show ((Kd.slice 2 (Kd.int .i64))).sz = 1 from rfl, Nat.mul_one] at hv309_0
         replace hv309_0 := Option.some.inj (hv309_0.symm.trans hx309_0)
         rw [hv309_0] at ge309_0
         have HL309_0 := A_ (show Kd.R (Kd.int .i64) 2 _ _ _ _ (rd_L2 t301 (ji20)) from ge309_0)
         clear hv309_0 ge309_0
         clear hcc309 hce309
         have HR309_0 := A_ hi309_0
         have HC309_0 := A_ hl309_0
         clear hi309_0 hl309_0
         replace p309 := eq_true p309
         replace q309 := eq_true q309
         have p310 : 0 ≤ ((ji23) : Int) := of_decide_eq_true spec_l02Tree.Z6
         have q310 : (ji23) < ((rd_L2 t301 (ji20)).length : Int) := of_decide_eq_true spec_l02Tree.Z6
         obtain ⟨ad310, e310, hx310_0⟩ := Kd.at_int spec_l02Tree.Z2 (ji23) p310 q310
         cases e310
         replace p310 := eq_true p310
         replace q310 := eq_true q310
         go_wp2_with (first | ((with_reducible refine gate_builtin (b := .append) (xs := #[.tmp 60, .tmp 62]) rfl ?_); at_builtin; refine Kd.R_append (Kd.int .i64) (w0 := w) w.heap.size rfl (.tmp 60) (.tmp 62) 24 2 (.int .i64 0) 8 rfl Try.underlying24 info2 rfl (by decide) (by omega) u8 x8_1 x10_2 [.int .i64 x10_2] (fun _ => True) (fun _ => False) rfl rfl ?aP (fun _ hk => hk.elim) ?aF ?aO ?aB ?aS ?aL ?_; (case aP => exact rfl); (case aB => exact (el HB)); (case aF => exact (fun _ _ => trivial)); (case aO => exact (ea HO_8)); (case aS => exact (below_size (el HB))); (case aL => have := LMc27.out; omega); intro v314 w28 ho hb hg hat; rw [← Ny313.out] at ho; have n0_ := A_ (Kd.S_after (ok := (fun _ => True)) (by (with_reducible repeat (first | apply Kd.S_alloc | apply Kd.S_drewN | apply Kd.S_drew)); exact Kd.S_mono HO_6.out (fun _ hk => ⟨trivial, hk⟩)) hg hat); have n1_ := A_ (blk_grown (g := gb300) (o := .cells #[.slice none 0 0] 26 (0, 0)) (eb BK300) hg (Kd.R_ne HO_8.out BK300.out (by decide))); have n2_ := A_ (Kd.R_after (ok := (fun k_ => some k_ ≠ (.slice (some ad307) t301.length co18 : Value).ownBlock)) (by (with_reducible repeat (first | apply Kd.R_alloc | apply Kd.R_drewN | apply Kd.R_drew)); exact Kd.R_mono HL309_0.out (fun _ hk => ⟨hk.2, hk.1⟩)) hg hat); have n3_ := A_ (hb); have n4_ := A_ (ho); clear HO_6; clear BK300; clear HL309_0; clear HB; clear HO_8; have HO_6 := n0_; have BK300 := n1_; have HL309_0 := n2_; have HB := n3_; have HO315 := n4_; clear n0_ n1_ n2_ n3_ n4_; clear ho hb hg hat))
         go_roundg k2
         case measure => have := HK1.out; have := HK2.out; omega
         case rel => exact ⟨(x1_2), (ji23), (y313), (wrap64 (x9_1 + 1)), spec_l02Tree.Z7, (by first | rfl | (simp; done) | (simp only [← hji23] <;> (first | rfl | simp)) | (simp [*]; done)), spec_l02Tree.Z7, H', ⟨by have := HK1.out; have := HK2.out; omega⟩, ⟨by (with_reducible repeat (first | apply Kd.S_alloc | apply Kd.S_drewN | apply Kd.S_drew)); exact Kd.S_mono HO_6.out (fun _ hk => hk.2)⟩, ⟨es HO315⟩, ⟨eb BK300⟩, ⟨el HB⟩⟩
     ·rw [if_neg c19] at H
      have c19b0 : decide (x9_1 < a0) = false := decide_eq_false c19
      clear c19
      simp only [Option.some.injEq, Prod.mk.injEq] at H
      obtain ⟨rfl, rfl⟩ := H
      obtain ⟨Ao29, co29, eo29⟩ := Kd.R_slice HO_8.out
      subst eo29
      have hcz30_0 : wr.cell? ⟨gb300, 0, none⟩ = some (.slice none 0 0) := (blk_cell BK300.out 0).trans rfl
      have hfz30_0 := blk_frozen BK300.out 0
      go_wp2
      refine bodyPost_ret (results_ct rfl _ _ gb300 26 #[.slice Ao29 x8_1.length co29] (0, 0) _ rfl spec_l02Tree.Z0 Try.underlying26 rfl (by kernel_rfl)) rfl ?_
      exact ⟨_, er, by (with_reducible repeat (first | apply Kd.R_alloc | apply Kd.R_drewN | apply Kd.R_drew)); exact Kd.R_mono (Kd.R_far (p := ⟨gb300, 0, none⟩) (Kd.R_types HO_8.out BK300.out (by decide)) (fun _ hk => hk.2) (.slice Ao29 x8_1.length co29)) (fun _ hk => trivial), el HB⟩
 ·rw [if_neg c4] at H
  exact absurd H (by simp)

end Go.Proofs.Ytocachknmgefaaa.QFnRanks
