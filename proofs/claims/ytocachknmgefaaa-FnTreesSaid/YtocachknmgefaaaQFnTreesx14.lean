/- Functions of the program as plain Lean functions, each with a proof that the machine's call answers what it answers. Conditions: none. -/
import Derived.Test.YtocachknmgefaaaQFnTreesx0
import Derived.Test.YtocachknmgefaaaQFnTreesx5
import Derived.Test.YtocachknmgefaaaQFnTreesx13
namespace Go.Proofs.Ytocachknmgefaaa.QFnTrees
open Go.RowKit Go.Proofs.YtocachknmgefaaaW.PrintWords Go.Proofs.YtocachknmgefaaaW.PrintLast Go.Proofs.YtocachknmgefaaaW.PrintMore
attribute [local go_sem] max2_int min2_int max_two min_two max_three min_three max_four min_four   -- for this text's walks alone
set_option linter.unusedVariables false
set_option maxHeartbeats 8000000
set_option maxRecDepth 100000
set_option linter.unusedSimpArgs false

/-! ### spec_l01Read: function 125 -/
mutual
def spec_l01Read.l0 : Nat → ByteArray → List Int → List Int → Int → Option (List Int × Bool)
  | 0, _, _, _, _ => none
  | k + 1, x0, x4, x5, x6 => if x6 < (x0.size : Int) then (if 0 ≤ x6 then (if (bt x0 x6) = 40 then (if (x5.length : Int) > 0 then (spec_l01Read.j1 k x0 x4 x5 x6 true) else (spec_l01Read.j1 k x0 x4 x5 x6 ((x4.length : Int) == 0))) else (spec_l01Read.j1 k x0 x4 x5 x6 false)) else (none)) else (if (x5.length : Int) > 0 then (some (([] : List Int), false)) else (if (x4.length : Int) = 0 then (some (([] : List Int), false)) else (some (x4, true))))
def spec_l01Read.j1 : Nat → ByteArray → List Int → List Int → Int → Bool → Option (List Int × Bool)
  | 0, _, _, _, _, _ => none
  | k + 1, x0, x4, x5, x6, x20 => if x20 = true then (if (x5.length : Int) > 0 then (if 0 ≤ (wrap64 ((x5.length : Int) - 1)) then (if (wrap64 ((x5.length : Int) - 1)) < (x5.length : Int) then (if 0 ≤ (rd x5 (wrap64 ((x5.length : Int) - 1))) then (if (rd x5 (wrap64 ((x5.length : Int) - 1))) < (x4.length : Int) then ((some (x4.set ((rd x5 (wrap64 ((x5.length : Int) - 1))) : Int).toNat (wrap64 ((rd x4 (rd x5 (wrap64 ((x5.length : Int) - 1)))) + 1)) : List Int)).bind fun y626 => (if x5.length < 17592186044416 then (if y626.length < 17592186044416 then (spec_l01Read.l0 k x0 (y626 ++ [0]) (x5 ++ [(x4.length : Int)]) (wrap64 (x6 + 1))) else (none)) else (none))) else (none)) else (none)) else (none)) else (none)) else (if x5.length < 17592186044416 then (if x4.length < 17592186044416 then (spec_l01Read.l0 k x0 (x4 ++ [0]) (x5 ++ [(x4.length : Int)]) (wrap64 (x6 + 1))) else (none)) else (none))) else (if 0 ≤ x6 then (if x6 < (x0.size : Int) then (if (bt x0 x6) = 41 then (if (x5.length : Int) > 0 then (if 0 ≤ (wrap64 ((x5.length : Int) - 1)) then (if (wrap64 ((x5.length : Int) - 1)) ≤ (x5.length : Int) then (spec_l01Read.l0 k x0 x4 (x5.take ((wrap64 ((x5.length : Int) - 1)) : Int).toNat) (wrap64 (x6 + 1))) else (none)) else (none)) else (some (([] : List Int), false))) else (some (([] : List Int), false))) else (none)) else (none))
end
def spec_l01Read.f (k : Nat) (a0 : ByteArray) : Option (List Int × Bool) := if (a0.size : Int) > 48 then (some (([] : List Int), false)) else (spec_l01Read.l0 k a0 (([] : List Int)) (([] : List Int)) 0)
theorem spec_l01Read.mono_l : ∀ k, (∀ y0 y1 y2 y3, LeO (spec_l01Read.l0 k y0 y1 y2 y3) (spec_l01Read.l0 (k + 1) y0 y1 y2 y3)) ∧ (∀ y0 y1 y2 y3 y4, LeO (spec_l01Read.j1 k y0 y1 y2 y3 y4) (spec_l01Read.j1 (k + 1) y0 y1 y2 y3 y4))
  | 0 => ⟨fun _ _ _ _ r h => by simp [spec_l01Read.l0] at h, fun _ _ _ _ _ r h => by simp [spec_l01Read.j1] at h⟩
  | k + 1 => by
    obtain ⟨ih0, ih1⟩ := spec_l01Read.mono_l k
    refine ⟨?_, ?_⟩
    · intro y0 y1 y2 y3
      unfold spec_l01Read.l0
      repeat' first | (with_reducible first | exact ih0 _ _ _ _ | exact ih1 _ _ _ _ _ | exact LeO.refl _ | exact LeO.none _ | refine LeO.ite ?_ ?_ | refine LeO.bind ?_ (fun _ => ?_)) | exact ih0 _ _ _ _ | exact ih1 _ _ _ _ _ | exact LeO.none _ | refine LeO.ite ?_ ?_ | refine LeO.bind ?_ (fun _ => ?_)
    · intro y0 y1 y2 y3 y4
      unfold spec_l01Read.j1
      repeat' first | (with_reducible first | exact ih0 _ _ _ _ | exact ih1 _ _ _ _ _ | exact LeO.refl _ | exact LeO.none _ | refine LeO.ite ?_ ?_ | refine LeO.bind ?_ (fun _ => ?_)) | exact ih0 _ _ _ _ | exact ih1 _ _ _ _ _ | exact LeO.none _ | refine LeO.ite ?_ ?_ | refine LeO.bind ?_ (fun _ => ?_)
theorem spec_l01Read.mono : ∀ a0 k, LeO (spec_l01Read.f k a0) (spec_l01Read.f (k + 1) a0) := by
  intro a0 k
  obtain ⟨ih0, ih1⟩ := spec_l01Read.mono_l k
  unfold spec_l01Read.f
  repeat' first | (with_reducible first | exact ih0 _ _ _ _ | exact ih1 _ _ _ _ _ | exact LeO.refl _ | exact LeO.none _ | refine LeO.ite ?_ ?_ | refine LeO.bind ?_ (fun _ => ?_)) | exact ih0 _ _ _ _ | exact ih1 _ _ _ _ _ | exact LeO.none _ | refine LeO.ite ?_ ?_ | refine LeO.bind ?_ (fun _ => ?_)
theorem spec_l01Read.Z0 {p : Prop} (h : p := by (with_reducible repeat (first | refine blk_drewN ?_ _ | refine blk_drew ?_ | refine blk_alloc ?_ _)); refine blk_put (cs := #[.slice none 0 0]) ?_ 0 _ rfl; (with_reducible repeat (first | refine blk_drewN ?_ _ | refine blk_drew ?_ | refine blk_alloc ?_ _)); exact BK617.out) : p := h
theorem spec_l01Read.Z1 {p : Prop} (h : p := by (with_reducible repeat (first | apply Kd.R_alloc | apply Kd.R_drewN | apply Kd.R_drew)); exact Kd.R_mono HO_4.out (fun _ hk => ⟨trivial, hk⟩)) : p := h
theorem spec_l01Read.Z2 {p : Prop} (h : p := by (with_reducible repeat (first | apply Kd.R_alloc | apply Kd.R_drewN | apply Kd.R_drew)); exact Kd.R_mono HO_4.out (fun _ hk => hk.2)) : p := h
theorem spec_l01Read.Z3 {p : Prop} (h : p := by first | (with_reducible assumption) | assumption) : p := h
theorem spec_l01Read.Z4 {p : Prop} (h : p := by first | rfl | (simp; done) | (simp [*]; done)) : p := h
theorem spec_l01Read.calls (k : Nat) (a0 : ByteArray) (r1 : List Int) (r2 : Bool) (w : World) (h : spec_l01Read.f k a0 = some (r1, r2)) :
  Calls Try.prog 125 #[.string a0] w fun e w' => ∃ v0_ : Value, e = .returned (.tuple #[.agg #[v0_], .bool r2]) ∧ Kd.R (Kd.int .i64) 2 w' w.heap.size (fun _ => True) v0_ r1 ∧ Below w.heap.size w w' := by
 have hu26 := Try.underlying26
 have HB := A_ (Below.refl w.heap.size w)
 have H : (if (a0.size : Int) > 48 then (some (([] : List Int), false)) else (spec_l01Read.l0 k a0 (([] : List Int)) (([] : List Int)) 0)) = some (r1, r2) := h
 clear h
 by_cases c2 : (a0.size : Int) > 48
 ·rw [if_pos c2] at H
  have c2b0 := decide_eq_true c2
  have c2b1 : decide (48 < a0.size) = true := decide_eq_true (by omega)
  clear c2
  simp only [Option.some.injEq, Prod.mk.injEq] at H
  obtain ⟨rfl, rfl⟩ := H
  go_enter Try.func125, Try.ntmps125
  go_wp2_with (first | ((with_reducible refine gate_dst (N := 2) rfl ?_); (try (refine gate_guard (by rfl) ?_; dsimp only)); refine bx 2 #[.slice none 0 0] 26 ?_; intro gb617 hg w3 hbox hb; have BK617 := A_ hbox; have GW617 := A_ (eG hg (below_size (el HB)) : w.heap.size ≤ gb617); have GE617 := A_ (eG hg (below_size (el HB)) : w.heap.size ≤ gb617); replace HB := A_ (below_step (el HB) hb); clear hb hbox hg; have hcz4_0 : w3.cell? ⟨gb617, 0, none⟩ = some (.slice none 0 0) := (blk_cell BK617.out 0).trans rfl; have hfz4_0 := blk_frozen BK617.out 0))
  refine bodyPost_ret (results_ct rfl _ _ gb617 26 #[.slice none 0 0] (0, 0) _ rfl spec_l01Read.Z0 Try.underlying26 rfl (by kernel_rfl)) rfl ?_
  exact ⟨_, er, by first | exact Kd.R_nil _ _ _ _ _ | exact Kd.N_nil _ _ _ _ _ | exact Kd.V_nil _ _ _ _ _ | exact Kd.Q_nil _ _ _ _ _ | exact Kd.S_nil _ _ _ _ _, el HB⟩
 ·rw [if_neg c2] at H
  have c2b0 := decide_eq_false c2
  have c2b1 : decide (48 < a0.size) = false := decide_eq_false (by omega)
  clear c2
  obtain ⟨y618, hy618⟩ : ∃ y_ : List Int, y_ = (([] : List Int)) := ⟨_, rfl⟩
  replace H : (spec_l01Read.l0 k a0 y618 (([] : List Int)) 0) = some (r1, r2) := eH hy618 H
  have Ny618 := A_ hy618
  clear hy618
  obtain ⟨y621, hy621⟩ : ∃ y_ : List Int, y_ = (([] : List Int)) := ⟨_, rfl⟩
  replace H : (spec_l01Read.l0 k a0 y618 y621 0) = some (r1, r2) := eH hy621 H
  have Ny621 := A_ hy621
  clear hy621
  have H' := A_ H
  clear H
  go_enter Try.func125, Try.ntmps125
  go_wp2_with (first | ((with_reducible refine gate_dst (N := 2) rfl ?_); (try (refine gate_guard (by rfl) ?_; dsimp only)); refine bx 2 #[.slice none 0 0] 26 ?_; intro gb617 hg w5 hbox hb; have BK617 := A_ hbox; have GW617 := A_ (eG hg (below_size (el HB)) : w.heap.size ≤ gb617); have GE617 := A_ (eG hg (below_size (el HB)) : w.heap.size ≤ gb617); replace HB := A_ (below_step (el HB) hb); clear hb hbox hg) | ((with_reducible refine gate_dst (N := 11) rfl ?_); (try (refine gate_guard (by rfl) ?_; dsimp only)); refine Kd.R_lit (Kd.int .i64) _ 2 ?hg (N := 11) ?hd (xs := ([] : List Int)) (inner := []) (ok := fun _ => True) (okp := fun _ => True) ?hr ?hp (fun _ hk => hk) trivial (Below.refl _ _) (Nat.le_refl _) (by simp) ?_; (case hd => rfl); (case hg => rfl); (case hr => first | (go_simp; done) | (go_simp; rfl)); (case hp => exact (Reps.none _ _)); intro v619 w6 ho7 hb hg_ hnew_; clear hg_ hnew_; (first | rw [← Ny618.out] at ho7 | (simp only [Int.reduceToNat] at ho7; rw [← Ny618.out] at ho7)); have HO620 := A_ (Kd.R_lower ho7 (below_size (el HB))); replace BK617 := A_ (eB BK617 hb); replace HB := A_ (below_step (el HB) hb); clear hb ho7) | ((with_reducible refine gate_dst (N := 12) rfl ?_); (try (refine gate_guard (by rfl) ?_; dsimp only)); refine Kd.R_lit (Kd.int .i64) _ 2 ?hg (N := 12) ?hd (xs := ([] : List Int)) (inner := []) (ok := fun _ => True) (okp := fun _ => True) ?hr ?hp (fun _ hk => hk) trivial (Below.refl _ _) (Nat.le_refl _) (by simp) ?_; (case hd => rfl); (case hg => rfl); (case hr => first | (go_simp; done) | (go_simp; rfl)); (case hp => exact (Reps.none _ _)); intro v622 w8 ho9 hb hg_ hnew_; clear hg_ hnew_; (first | rw [← Ny621.out] at ho9 | (simp only [Int.reduceToNat] at ho9; rw [← Ny621.out] at ho9)); have HO623 := A_ (Kd.R_lower (Kd.R_new' ho9 (Kd.R_lt (ea HO620))) (below_size (el HB))); replace HO620 := A_ (Kd.R_elder' (ea HO620) (Kd.R_base ho9) hb); replace BK617 := A_ (eB BK617 hb); replace HB := A_ (below_step (el HB) hb); clear hb ho9))
  go_loopg [4, 5, 6] k (fun kq v4 v5 v6 w' => ∃ (x4_1 : List Int) (x5_1 : List Int) (x6_1 : Int), v6 = .int .i64 x6_1 ∧ Aside0 (spec_l01Read.l0 kq a0 x4_1 x5_1 x6_1 = some (r1, r2)) ∧ Aside0 (kq ≤ k) ∧ Aside0 (Kd.R (Kd.int .i64) 2 w' w.heap.size (fun k_ => some k_ ≠ (v5 : Value).ownBlock) v4 x4_1) ∧ Aside0 (Kd.R (Kd.int .i64) 2 w' w.heap.size (fun k_ => some k_ ≠ (v4 : Value).ownBlock) v5 x5_1) ∧ Aside0 (w'.heap[gb617]? = some (.cells #[(.slice none 0 0)] 26 (0, 0))) ∧ Aside0 (Below w.heap.size w w'))
  case atStart => exact ⟨(y618), (y621), (0), spec_l01Read.Z4, H', ⟨Nat.le_refl _⟩, ⟨by (with_reducible repeat (first | apply Kd.R_alloc | apply Kd.R_drewN | apply Kd.R_drew)); exact Kd.R_mono HO620.out (fun _ hk => hk.2)⟩, ⟨by (with_reducible repeat (first | apply Kd.R_alloc | apply Kd.R_drewN | apply Kd.R_drew)); exact Kd.R_mono HO623.out (fun _ hk => hk.2)⟩, ⟨eb BK617⟩, ⟨el HB⟩⟩
  case round =>
   clear H'
   try clear c1
   try clear c2
   try clear c2b0
   try clear c2b1
   try clear p2
   try clear hcz4_0
   try clear hfz4_0
   obtain ⟨x4_1, x5_1, x6_1, rfl, HA, HK1, HO_4, HO_5, BK617, HB⟩ := hrel
   cases gk with
   | zero => exact absurd HA.out (by simp [spec_l01Read.l0])
   | succ k1 =>
    have H := HA.out
    clear HA
    simp only [spec_l01Read.l0] at H
    by_cases c10 : x6_1 < (a0.size : Int)
    ·rw [if_pos c10] at H
     have c10b0 := decide_eq_true c10
     clear c10
     have HC11 := A_ H
     clear H
     go_upto_region 8 with (fail)
     go_cut [20] (fun v20 wc => ∃ (kq : Nat) (x20_10 : Bool), v20 = .bool x20_10 ∧ Aside0 (spec_l01Read.j1 kq a0 x4_1 x5_1 x6_1 x20_10 = some (r1, r2)) ∧ Aside0 (kq ≤ k1) ∧ Aside0 (Kd.R (Kd.int .i64) 2 wc w.heap.size (fun k_ => some k_ ≠ (u5 : Value).ownBlock) u4 x4_1) ∧ Aside0 (Kd.R (Kd.int .i64) 2 wc w.heap.size (fun k_ => some k_ ≠ (u4 : Value).ownBlock) u5 x5_1) ∧ Aside0 (wc.heap[gb617]? = some (.cells #[(.slice none 0 0)] 26 (0, 0))) ∧ Aside0 (Below w.heap.size w wc))
     case first =>
      have H := HC11.out
      clear HC11
      by_cases c12 : 0 ≤ x6_1
      rotate_left
      ·rw [if_neg c12] at H
       exact absurd H (by simp)
      rw [if_pos c12] at H
      have c12b0 := decide_eq_true c12
      clear c12
      (first | rw [c12b0] | (simp only [i64_w, i32_w]; rw [c12b0]) | skip)
      by_cases c14 : (bt a0 x6_1) = 40
      ·rw [if_pos c14] at H
       have c14b0 : ((bt a0 x6_1) == 40) = true := beq_iff_eq.mpr c14
       have c14b1 : ((bt a0 x6_1) != 40) = false := bne_eq_false_iff_eq.mpr c14
       clear c14
       by_cases c15 : (x5_1.length : Int) > 0
       ·rw [if_pos c15] at H
        have c15b0 := decide_eq_true c15
        have c15b1 : decide (0 < x5_1.length) = true := decide_eq_true (by omega)
        clear c15
        have H' := A_ H
        clear H
        have p13 : 0 ≤ (x6_1 : Int) := of_decide_eq_true spec_l01Read.Z3
        have q13 : x6_1 < (a0.size : Int) := of_decide_eq_true spec_l01Read.Z3
        have hx13 := bt_at a0 x6_1
        replace p13 := eq_true p13
        replace q13 := eq_true q13
        obtain ⟨Ao16, co16, eo16⟩ := Kd.R_slice HO_5.out
        subst eo16
        go_wp2
        go_meet
        case rel => exact ⟨_, (true), spec_l01Read.Z4, H', ⟨by have := HK1.out; first | omega | exact Nat.le_refl _⟩, ⟨es HO_4⟩, ⟨es HO_5⟩, ⟨eb BK617⟩, ⟨el HB⟩⟩
       ·rw [if_neg c15] at H
        have c15b0 := decide_eq_false c15
        have c15b1 : decide (0 < x5_1.length) = false := decide_eq_false (by omega)
        clear c15
        have H' := A_ H
        clear H
        have p13 : 0 ≤ (x6_1 : Int) := of_decide_eq_true spec_l01Read.Z3
        have q13 : x6_1 < (a0.size : Int) := of_decide_eq_true spec_l01Read.Z3
        have hx13 := bt_at a0 x6_1
        replace p13 := eq_true p13
        replace q13 := eq_true q13
        obtain ⟨Ao17, co17, eo17⟩ := Kd.R_slice HO_5.out
        subst eo17
        obtain ⟨Ao18, co18, eo18⟩ := Kd.R_slice HO_4.out
        subst eo18
        go_wp2
        go_meet
        case rel => exact ⟨_, (((x4_1.length : Int) == 0)), spec_l01Read.Z4, H', ⟨by have := HK1.out; first | omega | exact Nat.le_refl _⟩, ⟨es HO_4⟩, ⟨es HO_5⟩, ⟨eb BK617⟩, ⟨el HB⟩⟩
      ·rw [if_neg c14] at H
       have c14b0 : ((bt a0 x6_1) == 40) = false := beq_eq_false_iff_ne.mpr c14
       have c14b1 : ((bt a0 x6_1) != 40) = true := bne_iff_ne.mpr c14
       have H' := A_ H
       clear H
       have p13 : 0 ≤ (x6_1 : Int) := of_decide_eq_true spec_l01Read.Z3
       have q13 : x6_1 < (a0.size : Int) := of_decide_eq_true spec_l01Read.Z3
       have hx13 := bt_at a0 x6_1
       replace p13 := eq_true p13
       replace q13 := eq_true q13
       go_wp2
       go_meet
       case rel => exact ⟨_, (false), spec_l01Read.Z4, H', ⟨by have := HK1.out; first | omega | exact Nat.le_refl _⟩, ⟨es HO_4⟩, ⟨es HO_5⟩, ⟨eb BK617⟩, ⟨el HB⟩⟩
     case rest =>
      clear HC11
      try clear c1
      try clear p1
      try clear q1
      try clear hx1
      try clear c2
      try clear c2b0
      try clear c2b1
      try clear p2
      try clear c10
      try clear c10b0
      try clear c12
      try clear c12b0
      try clear p13
      try clear q13
      try clear hx13
      try clear c14
      try clear c14b0
      try clear c14b1
      try clear c15
      try clear c15b0
      try clear c15b1
      try clear hcz4_0
      try clear hfz4_0
      try clear p13
      try clear p2
      try clear q13
      obtain ⟨kq, x20_10, rfl, HA, HJ10, HO_4, HO_5, BK617, HB⟩ := hcut
      cases kq with
      | zero => exact absurd HA.out (by simp [spec_l01Read.j1])
      | succ kj10 =>
       have H := HA.out
       clear HA
       simp only [spec_l01Read.j1] at H
       by_cases c19 : x20_10 = true
       ·subst c19
        have H1 : (if (x5_1.length : Int) > 0 then (if 0 ≤ (wrap64 ((x5_1.length : Int) - 1)) then (if (wrap64 ((x5_1.length : Int) - 1)) < (x5_1.length : Int) then (if 0 ≤ (rd x5_1 (wrap64 ((x5_1.length : Int) - 1))) then (if (rd x5_1 (wrap64 ((x5_1.length : Int) - 1))) < (x4_1.length : Int) then ((some (x4_1.set ((rd x5_1 (wrap64 ((x5_1.length : Int) - 1))) : Int).toNat (wrap64 ((rd x4_1 (rd x5_1 (wrap64 ((x5_1.length : Int) - 1)))) + 1)) : List Int)).bind fun y626 => (if x5_1.length < 17592186044416 then (if y626.length < 17592186044416 then (spec_l01Read.l0 kj10 a0 (y626 ++ [0]) (x5_1 ++ [(x4_1.length : Int)]) (wrap64 (x6_1 + 1))) else (none)) else (none))) else (none)) else (none)) else (none)) else (none)) else (if x5_1.length < 17592186044416 then (if x4_1.length < 17592186044416 then (spec_l01Read.l0 kj10 a0 (x4_1 ++ [0]) (x5_1 ++ [(x4_1.length : Int)]) (wrap64 (x6_1 + 1))) else (none)) else (none))) = some (r1, r2) := by rw [if_pos rfl] at H; exact H
        clear H
        have H := H1
        clear H1
        by_cases c20 : (x5_1.length : Int) > 0
        ·rw [if_pos c20] at H
         have c20b0 := decide_eq_true c20
         have c20b1 : decide (0 < x5_1.length) = true := decide_eq_true (by omega)
         clear c20
         obtain ⟨ji21, hji21⟩ : ∃ j_ : Int, (wrap64 ((x5_1.length : Int) - 1)) = j_ := ⟨_, rfl⟩
         replace H : (if 0 ≤ (ji21) then (if (ji21) < (x5_1.length : Int) then (if 0 ≤ (rd x5_1 (ji21)) then (if (rd x5_1 (ji21)) < (x4_1.length : Int) then ((some (x4_1.set ((rd x5_1 (ji21)) : Int).toNat (wrap64 ((rd x4_1 (rd x5_1 (ji21))) + 1)) : List Int)).bind fun y626 => (if x5_1.length < 17592186044416 then (if y626.length < 17592186044416 then (spec_l01Read.l0 kj10 a0 (y626 ++ [0]) (x5_1 ++ [(x4_1.length : Int)]) (wrap64 (x6_1 + 1))) else (none)) else (none))) else (none)) else (none)) else (none)) else (none)) = some (r1, r2) := by first | (rw [hji21] at H; exact H) | (simp only [hji21] at H ⊢; exact H)
         have hji21w : (IntKind.i64.wrap ((x5_1.length : Int) - 1)) = ji21 := (i64_w _).trans hji21
         by_cases c22 : 0 ≤ (ji21)
         rotate_left
         ·rw [if_neg c22] at H
          exact absurd H (by simp)
         rw [if_pos c22] at H
         have c22b0 := decide_eq_true c22
         clear c22
         by_cases c23 : (ji21) < (x5_1.length : Int)
         rotate_left
         ·rw [if_neg c23] at H
          exact absurd H (by simp)
         rw [if_pos c23] at H
         have c23b0 := decide_eq_true c23
         clear c23
         by_cases c24 : 0 ≤ (rd x5_1 (ji21))
         rotate_left
         ·rw [if_neg c24] at H
          exact absurd H (by simp)
         rw [if_pos c24] at H
         have c24b0 := decide_eq_true c24
         clear c24
         by_cases c25 : (rd x5_1 (ji21)) < (x4_1.length : Int)
         rotate_left
         ·rw [if_neg c25] at H
          exact absurd H (by simp)
         rw [if_pos c25] at H
         have c25b0 := decide_eq_true c25
         clear c25
         obtain ⟨y626, hy626⟩ : ∃ y_ : List Int, y_ = (x4_1.set ((rd x5_1 (ji21)) : Int).toNat (wrap64 ((rd x4_1 (rd x5_1 (ji21))) + 1))) := ⟨_, rfl⟩
         replace H : (if x5_1.length < 17592186044416 then (if y626.length < 17592186044416 then (spec_l01Read.l0 kj10 a0 (y626 ++ [0]) (x5_1 ++ [(x4_1.length : Int)]) (wrap64 (x6_1 + 1))) else (none)) else (none)) = some (r1, r2) := eH hy626 H
         have Ny626 := A_ hy626
         clear hy626
         by_cases c27 : x5_1.length < 17592186044416
         rotate_left
         ·rw [if_neg c27] at H
          exact absurd H (by simp)
         rw [if_pos c27] at H
         have LMc27 := A_ c27
         clear c27
         obtain ⟨y627, hy627⟩ : ∃ y_ : List Int, y_ = (x5_1 ++ [(x4_1.length : Int)]) := ⟨_, rfl⟩
         replace H : (if y626.length < 17592186044416 then (spec_l01Read.l0 kj10 a0 (y626 ++ [0]) y627 (wrap64 (x6_1 + 1))) else (none)) = some (r1, r2) := eH hy627 H
         have Ny627 := A_ hy627
         clear hy627
         by_cases c28 : y626.length < 17592186044416
         rotate_left
         ·rw [if_neg c28] at H
          exact absurd H (by simp)
         rw [if_pos c28] at H
         have LMc28 := A_ c28
         clear c28
         obtain ⟨y630, hy630⟩ : ∃ y_ : List Int, y_ = (y626 ++ [0]) := ⟨_, rfl⟩
         replace H : (spec_l01Read.l0 kj10 a0 y630 y627 (wrap64 (x6_1 + 1))) = some (r1, r2) := eH hy630 H
         have Ny630 := A_ hy630
         clear hy630
         have H' := A_ H
         clear H
         obtain ⟨Ao29, co29, eo29⟩ := Kd.R_slice HO_5.out
         subst eo29
         have p624 : 0 ≤ ((ji21) : Int) := of_decide_eq_true spec_l01Read.Z3
         have q624 : (ji21) < (x5_1.length : Int) := of_decide_eq_true spec_l01Read.Z3
         obtain ⟨ad624, e624, hx624_0⟩ := Kd.at_int (Kd.R_reads' HO_5.out).2.2 (ji21) p624 q624
         cases e624
         replace p624 := eq_true p624
         replace q624 := eq_true q624
         obtain ⟨Ao30, co30, eo30⟩ := Kd.R_slice HO_4.out
         subst eo30
         have p625 : 0 ≤ ((rd x5_1 (ji21)) : Int) := of_decide_eq_true spec_l01Read.Z3
         have q625 : (rd x5_1 (ji21)) < (x4_1.length : Int) := of_decide_eq_true spec_l01Read.Z3
         obtain ⟨ad625, e625, hx625_0⟩ := Kd.at_int (Kd.R_reads' HO_4.out).2.2 (rd x5_1 (ji21)) p625 q625
         cases e625
         replace p625 := eq_true p625
         replace q625 := eq_true q625
         have p26 : 0 ≤ ((rd x5_1 (ji21)) : Int) := of_decide_eq_true spec_l01Read.Z3
         have q26 : ((rd x5_1 (ji21)) : Int) < ((x4_1.length : Int) : Int) := of_decide_eq_true spec_l01Read.Z3
         obtain ⟨go26, co26, eo26, gb26, gl26, cl26, HG26⟩ := Kd.R_form HO_4.out (by omega)
         (first | cases eo26 | (injection eo26 with ea_ en_ ec_; (first | subst ea_ | (injection ea_ with ea_; subst ea_)); subst ec_; clear en_))
         have GB26 := A_ gb26
         have GG26 := A_ HG26
         clear gb26 gl26 HG26
         (first | simp only [add_plain] at hx625_0 | skip)
         obtain ⟨hx26_0, hf26_0⟩ := Kd.R_celln 0 HO_4.out ((rd x5_1 (ji21)) : Int) p26 q26
         replace p26 := eq_true p26
         replace q26 := eq_true q26
         have HP31 := Kd.R_putg HO_4.out ((rd x5_1 (ji21)) : Int) (wrap64 ((rd x4_1 (rd x5_1 (ji21))) + 1))
         go_wp2_with (first | ((with_reducible refine gate_store (t := 2) (p := 48) rfl ?_); refine store_event (t := 2) (p := 48) (v := ?vo_w32) (w1 := (wc.setCell ⟨go26, ((rd x5_1 (ji21)) : Int).toNat, none⟩ (.int .i64 (wrap64 ((rd x4_1 (rd x5_1 (ji21))) + 1))))) ?hg ?ho ?hn ?hr ?_; (case ho => rfl); (case hg => rfl); (case hn => rfl); (case hr => first | (go_simp; done) | (go_simp; rfl)); intro w32 hw; have hg : wc.grownBy w32 (some go26) := (by rw [hw]; exact HP31.2); have hp_ : Kd.R (Kd.int .i64) 2 w32 w.heap.size (fun k_ => some k_ ≠ (.slice (some ad624) x5_1.length co29 : Value).ownBlock) (.slice (some ⟨go26, 0, none⟩) x4_1.length co30) y626 := (by rw [hw, Ny626.out]; exact HP31.1); clear HP31; replace HO_5 := A_ (Kd.R_after (v := (.slice (some ⟨go26, 0, none⟩) x4_1.length co30)) (v1 := (.slice (some ⟨go26, 0, none⟩) x4_1.length co30)) (ok := (fun _ => True)) (by (with_reducible repeat (first | apply Kd.R_alloc | apply Kd.R_drewN | apply Kd.R_drew)); exact Kd.R_mono HO_5.out (fun _ hk => ⟨trivial, hk⟩)) hg (.inl rfl)); replace BK617 := A_ (blk_grown (g := gb617) (o := .cells #[.slice none 0 0] 26 (0, 0)) (eb BK617) hg (Kd.R_ne HO_4.out BK617.out (by decide))); replace HO_4 := A_ hp_; replace HB := A_ ((by rw [hw]; exact below_set (HB.out) GB26.out : Below w.heap.size w w32)); clear hg hw hp_) | ((with_reducible refine gate_builtin (b := .append) (xs := #[.tmp 49, .tmp 52]) rfl ?_); (try (refine gate_guard (by rfl) ?_; dsimp only)); at_builtin; refine Kd.R_append (Kd.int .i64) (w0 := w) w.heap.size rfl (.tmp 49) (.tmp 52) 24 2 (.int .i64 0) 8 rfl Try.underlying24 info2 rfl (by decide) (by omega) (.slice (some ad624) x5_1.length co29) x5_1 (x4_1.length : Int) [.int .i64 (x4_1.length : Int)] (fun k_ => some k_ ≠ (.slice (some ⟨go26, 0, none⟩) x4_1.length co30 : Value).ownBlock) (fun _ => False) rfl rfl ?aP (fun _ hk => hk.elim) ?aF ?aO ?aB ?aS ?aL ?_; (case aP => exact rfl); (case aB => exact (el HB)); (case aF => exact (fun k_ hk => Kd.fresh' (Kd.R_lt (ea HO_4)) k_ hk)); (case aO => exact (by (with_reducible repeat (first | apply Kd.R_alloc | apply Kd.R_drewN | apply Kd.R_drew)); exact Kd.R_mono HO_5.out (fun _ hk => hk.2))); (case aS => exact (below_size (el HB))); (case aL => have := LMc27.out; omega); intro v628 w33 ho hb hg hat; rw [← Ny627.out] at ho; replace HO_4 := A_ (Kd.R_after (ok := (fun _ => True)) spec_l01Read.Z1 hg hat); replace BK617 := A_ (blk_grown (g := gb617) (o := .cells #[.slice none 0 0] 26 (0, 0)) (eb BK617) hg (Kd.R_ne HO_5.out BK617.out (by decide))); replace HB := A_ hb; have HO629 := A_ ho; clear HO_5; clear ho hb hg hat) | ((with_reducible refine gate_builtin (b := .append) (xs := #[.tmp 54, .tmp 55]) rfl ?_); (try (refine gate_guard (by rfl) ?_; dsimp only)); at_builtin; refine Kd.R_append (Kd.int .i64) (w0 := w) w.heap.size rfl (.tmp 54) (.tmp 55) 24 2 (.int .i64 0) 8 rfl Try.underlying24 info2 rfl (by decide) (by omega) (.slice (some ⟨go26, 0, none⟩) x4_1.length co30) y626 0 [.int .i64 0] (fun k_ => some k_ ≠ (v628 : Value).ownBlock) (fun _ => False) rfl rfl ?aP (fun _ hk => hk.elim) ?aF ?aO ?aB ?aS ?aL ?_; (case aP => exact rfl); (case aB => exact (el HB)); (case aF => exact (fun k_ hk => Kd.fresh' (Kd.R_lt (ea HO629)) k_ hk)); (case aO => exact spec_l01Read.Z2); (case aS => exact (below_size (el HB))); (case aL => have := LMc28.out; omega); intro v631 w34 ho hb hg hat; rw [← Ny630.out] at ho; replace BK617 := A_ (blk_grown (g := gb617) (o := .cells #[.slice none 0 0] 26 (0, 0)) (eb BK617) hg (Kd.R_ne HO_4.out BK617.out (by decide))); replace HO629 := A_ (Kd.R_after (ok := (fun _ => True)) (by (with_reducible repeat (first | apply Kd.R_alloc | apply Kd.R_drewN | apply Kd.R_drew)); exact Kd.R_mono HO629.out (fun _ hk => ⟨trivial, hk⟩)) hg hat); replace HB := A_ hb; have HO632 := A_ ho; clear HO_4; clear ho hb hg hat))
         go_roundg kj10
         case measure => have := HK1.out; have := HJ10.out; omega
         case rel => exact ⟨(y630), (y627), (wrap64 (x6_1 + 1)), spec_l01Read.Z4, H', ⟨by have := HK1.out; have := HJ10.out; omega⟩, ⟨es HO632⟩, ⟨by (with_reducible repeat (first | apply Kd.R_alloc | apply Kd.R_drewN | apply Kd.R_drew)); exact Kd.R_mono HO629.out (fun _ hk => hk.2)⟩, ⟨eb BK617⟩, ⟨el HB⟩⟩
        ·rw [if_neg c20] at H
         have c20b0 := decide_eq_false c20
         have c20b1 : decide (0 < x5_1.length) = false := decide_eq_false (by omega)
         clear c20
         by_cases c35 : x5_1.length < 17592186044416
         rotate_left
         ·rw [if_neg c35] at H
          exact absurd H (by simp)
         rw [if_pos c35] at H
         have LMc35 := A_ c35
         clear c35
         obtain ⟨y633, hy633⟩ : ∃ y_ : List Int, y_ = (x5_1 ++ [(x4_1.length : Int)]) := ⟨_, rfl⟩
         replace H : (if x4_1.length < 17592186044416 then (spec_l01Read.l0 kj10 a0 (x4_1 ++ [0]) y633 (wrap64 (x6_1 + 1))) else (none)) = some (r1, r2) := eH hy633 H
         have Ny633 := A_ hy633
         clear hy633
         by_cases c36 : x4_1.length < 17592186044416
         rotate_left
         ·rw [if_neg c36] at H
          exact absurd H (by simp)
         rw [if_pos c36] at H
         have LMc36 := A_ c36
         clear c36
         obtain ⟨y636, hy636⟩ : ∃ y_ : List Int, y_ = (x4_1 ++ [0]) := ⟨_, rfl⟩
         replace H : (spec_l01Read.l0 kj10 a0 y636 y633 (wrap64 (x6_1 + 1))) = some (r1, r2) := eH hy636 H
         have Ny636 := A_ hy636
         clear hy636
         have H' := A_ H
         clear H
         obtain ⟨Ao37, co37, eo37⟩ := Kd.R_slice HO_5.out
         subst eo37
         obtain ⟨Ao38, co38, eo38⟩ := Kd.R_slice HO_4.out
         subst eo38
         go_wp2_with (first | ((with_reducible refine gate_builtin (b := .append) (xs := #[.tmp 49, .tmp 52]) rfl ?_); (try (refine gate_guard (by rfl) ?_; dsimp only)); at_builtin; refine Kd.R_append (Kd.int .i64) (w0 := w) w.heap.size rfl (.tmp 49) (.tmp 52) 24 2 (.int .i64 0) 8 rfl Try.underlying24 info2 rfl (by decide) (by omega) (.slice Ao37 x5_1.length co37) x5_1 (x4_1.length : Int) [.int .i64 (x4_1.length : Int)] (fun k_ => some k_ ≠ (.slice Ao38 x4_1.length co38 : Value).ownBlock) (fun _ => False) rfl rfl ?aP (fun _ hk => hk.elim) ?aF ?aO ?aB ?aS ?aL ?_; (case aP => exact rfl); (case aB => exact (el HB)); (case aF => exact (fun k_ hk => Kd.fresh' (Kd.R_lt (ea HO_4)) k_ hk)); (case aO => exact (ea HO_5)); (case aS => exact (below_size (el HB))); (case aL => have := LMc35.out; omega); intro v634 w39 ho hb hg hat; rw [← Ny633.out] at ho; replace HO_4 := A_ (Kd.R_after (ok := (fun _ => True)) spec_l01Read.Z1 hg hat); replace BK617 := A_ (blk_grown (g := gb617) (o := .cells #[.slice none 0 0] 26 (0, 0)) (eb BK617) hg (Kd.R_ne HO_5.out BK617.out (by decide))); replace HB := A_ hb; have HO635 := A_ ho; clear HO_5; clear ho hb hg hat) | ((with_reducible refine gate_builtin (b := .append) (xs := #[.tmp 54, .tmp 55]) rfl ?_); (try (refine gate_guard (by rfl) ?_; dsimp only)); at_builtin; refine Kd.R_append (Kd.int .i64) (w0 := w) w.heap.size rfl (.tmp 54) (.tmp 55) 24 2 (.int .i64 0) 8 rfl Try.underlying24 info2 rfl (by decide) (by omega) (.slice Ao38 x4_1.length co38) x4_1 0 [.int .i64 0] (fun k_ => some k_ ≠ (v634 : Value).ownBlock) (fun _ => False) rfl rfl ?aP (fun _ hk => hk.elim) ?aF ?aO ?aB ?aS ?aL ?_; (case aP => exact rfl); (case aB => exact (el HB)); (case aF => exact (fun k_ hk => Kd.fresh' (Kd.R_lt (ea HO635)) k_ hk)); (case aO => exact spec_l01Read.Z2); (case aS => exact (below_size (el HB))); (case aL => have := LMc36.out; omega); intro v637 w40 ho hb hg hat; rw [← Ny636.out] at ho; replace BK617 := A_ (blk_grown (g := gb617) (o := .cells #[.slice none 0 0] 26 (0, 0)) (eb BK617) hg (Kd.R_ne HO_4.out BK617.out (by decide))); replace HO635 := A_ (Kd.R_after (ok := (fun _ => True)) (by (with_reducible repeat (first | apply Kd.R_alloc | apply Kd.R_drewN | apply Kd.R_drew)); exact Kd.R_mono HO635.out (fun _ hk => ⟨trivial, hk⟩)) hg hat); replace HB := A_ hb; have HO638 := A_ ho; clear HO_4; clear ho hb hg hat))
         go_roundg kj10
         case measure => have := HK1.out; have := HJ10.out; omega
         case rel => exact ⟨(y636), (y633), (wrap64 (x6_1 + 1)), spec_l01Read.Z4, H', ⟨by have := HK1.out; have := HJ10.out; omega⟩, ⟨es HO638⟩, ⟨by (with_reducible repeat (first | apply Kd.R_alloc | apply Kd.R_drewN | apply Kd.R_drew)); exact Kd.R_mono HO635.out (fun _ hk => hk.2)⟩, ⟨eb BK617⟩, ⟨el HB⟩⟩
       ·replace c19 := Bool.eq_false_iff.mpr c19
        subst c19
        have H1 : (if 0 ≤ x6_1 then (if x6_1 < (a0.size : Int) then (if (bt a0 x6_1) = 41 then (if (x5_1.length : Int) > 0 then (if 0 ≤ (wrap64 ((x5_1.length : Int) - 1)) then (if (wrap64 ((x5_1.length : Int) - 1)) ≤ (x5_1.length : Int) then (spec_l01Read.l0 kj10 a0 x4_1 (x5_1.take ((wrap64 ((x5_1.length : Int) - 1)) : Int).toNat) (wrap64 (x6_1 + 1))) else (none)) else (none)) else (some (([] : List Int), false))) else (some (([] : List Int), false))) else (none)) else (none)) = some (r1, r2) := by rw [if_neg (show ¬ (false = true) by decide)] at H; exact H
        clear H
        have H := H1
        clear H1
        by_cases c41 : 0 ≤ x6_1
        rotate_left
        ·rw [if_neg c41] at H
         exact absurd H (by simp)
        rw [if_pos c41] at H
        have c41b0 := decide_eq_true c41
        clear c41
        by_cases c42 : x6_1 < (a0.size : Int)
        rotate_left
        ·rw [if_neg c42] at H
         exact absurd H (by simp)
        rw [if_pos c42] at H
        have c42b0 := decide_eq_true c42
        clear c42
        by_cases c44 : (bt a0 x6_1) = 41
        ·rw [if_pos c44] at H
         have c44b0 : ((bt a0 x6_1) == 41) = true := beq_iff_eq.mpr c44
         have c44b1 : ((bt a0 x6_1) != 41) = false := bne_eq_false_iff_eq.mpr c44
         clear c44
         by_cases c45 : (x5_1.length : Int) > 0
         ·rw [if_pos c45] at H
          have c45b0 := decide_eq_true c45
          have c45b1 : decide (0 < x5_1.length) = true := decide_eq_true (by omega)
          clear c45
          obtain ⟨ji46, hji46⟩ : ∃ j_ : Int, (wrap64 ((x5_1.length : Int) - 1)) = j_ := ⟨_, rfl⟩
          replace H : (if 0 ≤ (ji46) then (if (ji46) ≤ (x5_1.length : Int) then (spec_l01Read.l0 kj10 a0 x4_1 (x5_1.take ((ji46) : Int).toNat) (wrap64 (x6_1 + 1))) else (none)) else (none)) = some (r1, r2) := by first | (rw [hji46] at H; exact H) | (simp only [hji46] at H ⊢; exact H)
          have hji46w : (IntKind.i64.wrap ((x5_1.length : Int) - 1)) = ji46 := (i64_w _).trans hji46
          by_cases c47 : 0 ≤ (ji46)
          rotate_left
          ·rw [if_neg c47] at H
           exact absurd H (by simp)
          rw [if_pos c47] at H
          have c47b0 := eq_true c47
          have c47b1 := decide_eq_true c47
          clear c47
          by_cases c48 : (ji46) ≤ (x5_1.length : Int)
          rotate_left
          ·rw [if_neg c48] at H
           exact absurd H (by simp)
          rw [if_pos c48] at H
          have c48b0 := eq_true c48
          have c48b1 := decide_eq_true c48
          clear c48
          obtain ⟨y639, hy639⟩ : ∃ y_ : List Int, y_ = (x5_1.take ((ji46) : Int).toNat) := ⟨_, rfl⟩
          replace H : (spec_l01Read.l0 kj10 a0 x4_1 y639 (wrap64 (x6_1 + 1))) = some (r1, r2) := eH hy639 H
          have Ny639 := A_ hy639
          clear hy639
          have H' := A_ H
          clear H
          have p43 : 0 ≤ (x6_1 : Int) := of_decide_eq_true spec_l01Read.Z3
          have q43 : x6_1 < (a0.size : Int) := of_decide_eq_true spec_l01Read.Z3
          have hx43 := bt_at a0 x6_1
          replace p43 := eq_true p43
          replace q43 := eq_true q43
          obtain ⟨Ao49, co49, eo49⟩ := Kd.R_slice HO_5.out
          subst eo49
          have q50 : ((ji46) : Int) ≤ ((x5_1.length : Int) : Int) := of_decide_eq_true spec_l01Read.Z3
          obtain ⟨i050, hi050, _, hsz50, _⟩ := info_parts info2
          have hcut50 := cut_to (P := Try.prog) 24 2 .i64 Try.underlying24 hi050 Ao49 x5_1.length co49 (ji46) (of_decide_eq_true spec_l01Read.Z3) q50 (Kd.R_reads' HO_5.out).2.1
          have hr50 := Kd.R_take (m := ((ji46) : Int).toNat) HO_5.out (by omega)
          have hy50 : y639.length = ((ji46) : Int).toNat := (by rw [Ny639.out, List.length_take]; omega)
          rw [← Ny639.out] at hr50
          rw [← hy50] at hr50 hcut50
          clear hy50 hi050 hsz50 HO_5
          have HO641 := A_ hr50
          clear hr50
          replace q50 := eq_true q50
          go_wp2
          go_roundg kj10
          case measure => have := HK1.out; have := HJ10.out; omega
          case rel => exact ⟨(x4_1), (y639), (wrap64 (x6_1 + 1)), spec_l01Read.Z4, H', ⟨by have := HK1.out; have := HJ10.out; omega⟩, ⟨es HO_4⟩, ⟨es HO641⟩, ⟨eb BK617⟩, ⟨el HB⟩⟩
         ·rw [if_neg c45] at H
          have c45b0 := decide_eq_false c45
          have c45b1 : decide (0 < x5_1.length) = false := decide_eq_false (by omega)
          clear c45
          simp only [Option.some.injEq, Prod.mk.injEq] at H
          obtain ⟨rfl, rfl⟩ := H
          have p43 : 0 ≤ (x6_1 : Int) := of_decide_eq_true spec_l01Read.Z3
          have q43 : x6_1 < (a0.size : Int) := of_decide_eq_true spec_l01Read.Z3
          have hx43 := bt_at a0 x6_1
          replace p43 := eq_true p43
          replace q43 := eq_true q43
          obtain ⟨Ao51, co51, eo51⟩ := Kd.R_slice HO_5.out
          subst eo51
          have hcz52_0 : wc.cell? ⟨gb617, 0, none⟩ = some (.slice none 0 0) := (blk_cell BK617.out 0).trans rfl
          have hfz52_0 := blk_frozen BK617.out 0
          go_wp2
          refine bodyPost_ret (results_ct rfl _ _ gb617 26 #[.slice none 0 0] (0, 0) _ rfl spec_l01Read.Z0 Try.underlying26 rfl (by kernel_rfl)) rfl ?_
          exact ⟨_, er, by first | exact Kd.R_nil _ _ _ _ _ | exact Kd.N_nil _ _ _ _ _ | exact Kd.V_nil _ _ _ _ _ | exact Kd.Q_nil _ _ _ _ _ | exact Kd.S_nil _ _ _ _ _, el HB⟩
        ·rw [if_neg c44] at H
         have c44b0 : ((bt a0 x6_1) == 41) = false := beq_eq_false_iff_ne.mpr c44
         have c44b1 : ((bt a0 x6_1) != 41) = true := bne_iff_ne.mpr c44
         simp only [Option.some.injEq, Prod.mk.injEq] at H
         obtain ⟨rfl, rfl⟩ := H
         have p43 : 0 ≤ (x6_1 : Int) := of_decide_eq_true spec_l01Read.Z3
         have q43 : x6_1 < (a0.size : Int) := of_decide_eq_true spec_l01Read.Z3
         have hx43 := bt_at a0 x6_1
         replace p43 := eq_true p43
         replace q43 := eq_true q43
         have hcz53_0 : wc.cell? ⟨gb617, 0, none⟩ = some (.slice none 0 0) := (blk_cell BK617.out 0).trans rfl
         have hfz53_0 := blk_frozen BK617.out 0
         go_wp2
         refine bodyPost_ret (results_ct rfl _ _ gb617 26 #[.slice none 0 0] (0, 0) _ rfl spec_l01Read.Z0 Try.underlying26 rfl (by kernel_rfl)) rfl ?_
         exact ⟨_, er, by first | exact Kd.R_nil _ _ _ _ _ | exact Kd.N_nil _ _ _ _ _ | exact Kd.V_nil _ _ _ _ _ | exact Kd.Q_nil _ _ _ _ _ | exact Kd.S_nil _ _ _ _ _, el HB⟩
    ·rw [if_neg c10] at H
     have c10b0 := decide_eq_false c10
     clear c10
     by_cases c54 : (x5_1.length : Int) > 0
     ·rw [if_pos c54] at H
      have c54b0 := decide_eq_true c54
      have c54b1 : decide (0 < x5_1.length) = true := decide_eq_true (by omega)
      clear c54
      simp only [Option.some.injEq, Prod.mk.injEq] at H
      obtain ⟨rfl, rfl⟩ := H
      obtain ⟨Ao55, co55, eo55⟩ := Kd.R_slice HO_5.out
      subst eo55
      have hcz56_0 : wr.cell? ⟨gb617, 0, none⟩ = some (.slice none 0 0) := (blk_cell BK617.out 0).trans rfl
      have hfz56_0 := blk_frozen BK617.out 0
      go_wp2
      refine bodyPost_ret (results_ct rfl _ _ gb617 26 #[.slice none 0 0] (0, 0) _ rfl spec_l01Read.Z0 Try.underlying26 rfl (by kernel_rfl)) rfl ?_
      exact ⟨_, er, by first | exact Kd.R_nil _ _ _ _ _ | exact Kd.N_nil _ _ _ _ _ | exact Kd.V_nil _ _ _ _ _ | exact Kd.Q_nil _ _ _ _ _ | exact Kd.S_nil _ _ _ _ _, el HB⟩
     ·rw [if_neg c54] at H
      have c54b0 := decide_eq_false c54
      have c54b1 : decide (0 < x5_1.length) = false := decide_eq_false (by omega)
      clear c54
      by_cases c57 : (x4_1.length : Int) = 0
      ·rw [if_pos c57] at H
       have c57b0 : ((x4_1.length : Int) == 0) = true := beq_iff_eq.mpr c57
       have c57b1 : ((x4_1.length : Int) != 0) = false := bne_eq_false_iff_eq.mpr c57
       clear c57
       simp only [Option.some.injEq, Prod.mk.injEq] at H
       obtain ⟨rfl, rfl⟩ := H
       obtain ⟨Ao58, co58, eo58⟩ := Kd.R_slice HO_5.out
       subst eo58
       obtain ⟨Ao59, co59, eo59⟩ := Kd.R_slice HO_4.out
       subst eo59
       have hcz60_0 : wr.cell? ⟨gb617, 0, none⟩ = some (.slice none 0 0) := (blk_cell BK617.out 0).trans rfl
       have hfz60_0 := blk_frozen BK617.out 0
       go_wp2
       refine bodyPost_ret (results_ct rfl _ _ gb617 26 #[.slice none 0 0] (0, 0) _ rfl spec_l01Read.Z0 Try.underlying26 rfl (by kernel_rfl)) rfl ?_
       exact ⟨_, er, by first | exact Kd.R_nil _ _ _ _ _ | exact Kd.N_nil _ _ _ _ _ | exact Kd.V_nil _ _ _ _ _ | exact Kd.Q_nil _ _ _ _ _ | exact Kd.S_nil _ _ _ _ _, el HB⟩
      ·rw [if_neg c57] at H
       have c57b0 : ((x4_1.length : Int) == 0) = false := beq_eq_false_iff_ne.mpr c57
       have c57b1 : ((x4_1.length : Int) != 0) = true := bne_iff_ne.mpr c57
       have c57b2 : ¬ (x4_1 = []) := fun h_ => c57 (by rw [h_]; rfl)
       simp only [Option.some.injEq, Prod.mk.injEq] at H
       obtain ⟨rfl, rfl⟩ := H
       obtain ⟨Ao61, co61, eo61⟩ := Kd.R_slice HO_5.out
       subst eo61
       obtain ⟨Ao62, co62, eo62⟩ := Kd.R_slice HO_4.out
       subst eo62
       have hcz63_0 : wr.cell? ⟨gb617, 0, none⟩ = some (.slice none 0 0) := (blk_cell BK617.out 0).trans rfl
       have hfz63_0 := blk_frozen BK617.out 0
       go_wp2
       refine bodyPost_ret (results_ct rfl _ _ gb617 26 #[.slice Ao62 x4_1.length co62] (0, 0) _ rfl spec_l01Read.Z0 Try.underlying26 rfl (by kernel_rfl)) rfl ?_
       exact ⟨_, er, by (with_reducible repeat (first | apply Kd.R_alloc | apply Kd.R_drewN | apply Kd.R_drew)); exact Kd.R_mono (Kd.R_far (p := ⟨gb617, 0, none⟩) (Kd.R_types HO_4.out BK617.out (by decide)) (fun _ hk => hk.2) (.slice Ao62 x4_1.length co62)) (fun _ hk => trivial), el HB⟩

/-! ### spec_ParseTree: function 35 -/
def spec_ParseTree.f (k : Nat) (a0 : ByteArray) : Option (List Int × Int) := (spec_l01Read.f k a0).bind fun bt643 => (if bt643.2 = true then (some (bt643.1, 0)) else (some (([] : List Int), 6)))
theorem spec_ParseTree.mono : ∀ a0 k, LeO (spec_ParseTree.f k a0) (spec_ParseTree.f (k + 1) a0) := by
  intro a0 k
  unfold spec_ParseTree.f
  repeat' first | (with_reducible first | exact spec_l01Read.mono _ _ | exact LeO.refl _ | exact LeO.none _ | refine LeO.ite ?_ ?_ | refine LeO.bind ?_ (fun _ => ?_)) | exact spec_l01Read.mono _ _ | exact LeO.none _ | refine LeO.ite ?_ ?_ | refine LeO.bind ?_ (fun _ => ?_)
theorem spec_ParseTree.Z0 {p : Prop} (h : p := by (with_reducible repeat (first | refine blk_drewN ?_ _ | refine blk_drew ?_ | refine blk_alloc ?_ _)); refine blk_put (cs := #[.slice none 0 0]) ?_ 0 _ rfl; (with_reducible repeat (first | refine blk_drewN ?_ _ | refine blk_drew ?_ | refine blk_alloc ?_ _)); refine blk_far ?_ NB642_647.out _; (with_reducible repeat (first | refine blk_drewN ?_ _ | refine blk_drew ?_ | refine blk_alloc ?_ _)); exact BK642.out) : p := h
theorem spec_ParseTree.calls (k : Nat) (a0 : ByteArray) (r1 : List Int) (r2 : Int) (w : World) (h : spec_ParseTree.f k a0 = some (r1, r2)) :
  Calls Try.prog 35 #[.string a0] w fun e w' => ∃ v0_ : Value, e = .returned (.tuple #[.agg #[v0_], .int .i64 r2]) ∧ Kd.R (Kd.int .i64) 2 w' w.heap.size (fun _ => True) v0_ r1 ∧ Below w.heap.size w w' := by
 have hu26 := Try.underlying26
 have HB := A_ (Below.refl w.heap.size w)
 have H : ((spec_l01Read.f k a0).bind fun bt643 => (if bt643.2 = true then (some (bt643.1, 0)) else (some (([] : List Int), 6)))) = some (r1, r2) := h
 clear h
 replace H := Option.bind_eq_some_iff.mp H
 obtain ⟨⟨t643, t646⟩, A20, H⟩ := H
 replace H : (if t646 = true then (some (t643, 0)) else (some (([] : List Int), 6))) = some (r1, r2) := H
 have A2 := A_ A20
 clear A20
 by_cases c3 : t646 = true
 ·subst c3
  have H1 : (some (t643, 0)) = some (r1, r2) := by rw [if_pos rfl] at H; exact H
  clear H
  have H := H1
  clear H1
  simp only [Option.some.injEq, Prod.mk.injEq] at H
  obtain ⟨rfl, rfl⟩ := H
  go_enter Try.func35, Try.ntmps35
  go_wp2_with (first | ((with_reducible refine gate_dst (N := 2) rfl ?_); refine bx 2 #[.slice none 0 0] 26 ?_; intro gb642 hg w4 hbox hb; have BK642 := A_ hbox; have GW642 := A_ (eG hg (below_size (el HB)) : w.heap.size ≤ gb642); have GE642 := A_ (eG hg (below_size (el HB)) : w.heap.size ≤ gb642); replace HB := A_ (below_step (el HB) hb); clear hb hbox hg) | ((with_reducible refine gate_callee (f := 125) rfl ?_); refine goesL_ (some 8) rfl rfl Try.func125 (by kernel_rfl) rfl #[.string a0] rfl eg ?_; (with_reducible refine (spec_l01Read.calls k a0 t643 true _ A2.out).mono ?_); rintro e w5 ⟨v644, rfl, ho0, hb⟩; refine ⟨_, rfl, ?_⟩; have HO645 := A_ (Kd.R_lower ho0 (below_size (el HB))); replace BK642 := A_ (eB BK642 hb); replace HB := A_ (below_step (el HB) hb); (try clear hb); (try clear hb2); (try clear hk); (try clear hi); (try clear ho0)) | ((with_reducible refine gate_dst (N := 4) rfl ?_); refine bx 4 #[.slice none 0 0] 26 ?_; intro gb647 hg w6 hbox hb; replace HO645 := A_ (Kd.R_below (ea HO645) hb); have BK647 := A_ hbox; have GW647 := A_ (eG hg (below_size (el HB)) : w.heap.size ≤ gb647); have GE647 := A_ (eG hg (below_size (el HB)) : w.heap.size ≤ gb647); replace HB := A_ (below_step (el HB) hb); have NB642_647 := A_ ((by rw [hg]; exact Nat.ne_of_lt (eL BK642) : gb642 ≠ gb647)); have NB647_642 := A_ ((by rw [hg]; exact Nat.ne_of_gt (eL BK642) : gb647 ≠ gb642)); replace BK642 := A_ (eB BK642 hb); clear hb hbox hg; obtain ⟨Ao7, co7, eo7⟩ := Kd.R_slice HO645.out; subst eo7; have hnb8 := NB647_642.out; have hnc8 := NB642_647.out; have hcz9_0 : w6.cell? ⟨gb647, 0, none⟩ = some (.slice none 0 0) := (blk_cell BK647.out 0).trans rfl; have hfz9_0 := blk_frozen BK647.out 0; have hcz10_0 : w6.cell? ⟨gb642, 0, none⟩ = some (.slice none 0 0) := (blk_cell BK642.out 0).trans rfl; have hfz10_0 := blk_frozen BK642.out 0))
  refine bodyPost_ret (results_ct rfl _ _ gb642 26 #[.slice Ao7 t643.length co7] (0, 0) _ rfl spec_ParseTree.Z0 Try.underlying26 rfl (by kernel_rfl)) rfl ?_
  exact ⟨_, er, by (with_reducible repeat (first | apply Kd.R_alloc | apply Kd.R_drewN | apply Kd.R_drew)); exact Kd.R_mono (Kd.R_far (p := ⟨gb642, 0, none⟩) (Kd.R_far (p := ⟨gb647, 0, none⟩) (Kd.R_types (Kd.R_types HO645.out BK647.out (by decide)) BK642.out (by decide)) (fun _ hk => hk.1.2) (.slice Ao7 t643.length co7)) (fun _ hk => hk.2) (.slice Ao7 t643.length co7)) (fun _ hk => trivial), el HB⟩
 ·replace c3 := Bool.eq_false_iff.mpr c3
  subst c3
  have H1 : (some (([] : List Int), 6)) = some (r1, r2) := by rw [if_neg (show ¬ (false = true) by decide)] at H; exact H
  clear H
  have H := H1
  clear H1
  simp only [Option.some.injEq, Prod.mk.injEq] at H
  obtain ⟨rfl, rfl⟩ := H
  go_enter Try.func35, Try.ntmps35
  go_wp2_with (first | ((with_reducible refine gate_dst (N := 2) rfl ?_); refine bx 2 #[.slice none 0 0] 26 ?_; intro gb642 hg w11 hbox hb; have BK642 := A_ hbox; have GW642 := A_ (eG hg (below_size (el HB)) : w.heap.size ≤ gb642); have GE642 := A_ (eG hg (below_size (el HB)) : w.heap.size ≤ gb642); replace HB := A_ (below_step (el HB) hb); clear hb hbox hg) | ((with_reducible refine gate_callee (f := 125) rfl ?_); refine goesL_ (some 8) rfl rfl Try.func125 (by kernel_rfl) rfl #[.string a0] rfl eg ?_; (with_reducible refine (spec_l01Read.calls k a0 t643 false _ A2.out).mono ?_); rintro e w12 ⟨v644, rfl, ho0, hb⟩; refine ⟨_, rfl, ?_⟩; have HO645 := A_ (Kd.R_lower ho0 (below_size (el HB))); replace BK642 := A_ (eB BK642 hb); replace HB := A_ (below_step (el HB) hb); (try clear hb); (try clear hb2); (try clear hk); (try clear hi); (try clear ho0)) | ((with_reducible refine gate_dst (N := 4) rfl ?_); refine bx 4 #[.slice none 0 0] 26 ?_; intro gb647 hg w13 hbox hb; replace HO645 := A_ (Kd.R_below (ea HO645) hb); have BK647 := A_ hbox; have GW647 := A_ (eG hg (below_size (el HB)) : w.heap.size ≤ gb647); have GE647 := A_ (eG hg (below_size (el HB)) : w.heap.size ≤ gb647); replace HB := A_ (below_step (el HB) hb); have NB642_647 := A_ ((by rw [hg]; exact Nat.ne_of_lt (eL BK642) : gb642 ≠ gb647)); have NB647_642 := A_ ((by rw [hg]; exact Nat.ne_of_gt (eL BK642) : gb647 ≠ gb642)); replace BK642 := A_ (eB BK642 hb); clear hb hbox hg; obtain ⟨Ao14, co14, eo14⟩ := Kd.R_slice HO645.out; subst eo14; have hnb15 := NB647_642.out; have hnc15 := NB642_647.out; have hcz16_0 : w13.cell? ⟨gb647, 0, none⟩ = some (.slice none 0 0) := (blk_cell BK647.out 0).trans rfl; have hfz16_0 := blk_frozen BK647.out 0; have hcz17_0 : w13.cell? ⟨gb642, 0, none⟩ = some (.slice none 0 0) := (blk_cell BK642.out 0).trans rfl; have hfz17_0 := blk_frozen BK642.out 0))
  refine bodyPost_ret (results_ct rfl _ _ gb642 26 #[.slice none 0 0] (0, 0) _ rfl spec_ParseTree.Z0 Try.underlying26 rfl (by kernel_rfl)) rfl ?_
  exact ⟨_, er, by first | exact Kd.R_nil _ _ _ _ _ | exact Kd.N_nil _ _ _ _ _ | exact Kd.V_nil _ _ _ _ _ | exact Kd.Q_nil _ _ _ _ _ | exact Kd.S_nil _ _ _ _ _, el HB⟩

/-! ### spec_TreeText: function 36 -/
def spec_TreeText.f (k : Nat) (l0_0 : List Int) : Option (ByteArray × Int) := (spec_l01Is.f k l0_0).bind fun t649 => (if t649 = true then ((spec_l01Text.f k l0_0).bind fun t650 => (some (t650, 0))) else (some ((⟨#[]⟩ : ByteArray), 1)))
theorem spec_TreeText.mono : ∀ a0 k, LeO (spec_TreeText.f k a0) (spec_TreeText.f (k + 1) a0) := by
  intro a0 k
  unfold spec_TreeText.f
  repeat' first | (with_reducible first | exact spec_l01Is.mono _ _ | exact spec_l01Text.mono _ _ | exact LeO.refl _ | exact LeO.none _ | refine LeO.ite ?_ ?_ | refine LeO.bind ?_ (fun _ => ?_)) | exact spec_l01Is.mono _ _ | exact spec_l01Text.mono _ _ | exact LeO.none _ | refine LeO.ite ?_ ?_ | refine LeO.bind ?_ (fun _ => ?_)
theorem spec_TreeText.calls (k : Nat) (A0_0 : Option Addr) (c0_0 : Nat) (l0_0 : List Int) (r1 : ByteArray) (r2 : Int) (w : World) (hr0_0 : Kd.C (Kd.int .i64) w A0_0 l0_0.length l0_0) (hc0_0 : l0_0.length ≤ c0_0) (h : spec_TreeText.f k l0_0 = some (r1, r2)) :
  Calls Try.prog 36 #[.agg #[.slice A0_0 l0_0.length c0_0]] w fun e w' => e = .returned (.tuple #[.string r1, .int .i64 r2]) ∧ Below w.heap.size w w' := by
 have hu26 := Try.underlying26
 have HR0_0 := A_ hr0_0
 have HC0_0 := A_ hc0_0
 clear hr0_0 hc0_0
 have HB := A_ (Below.refl w.heap.size w)
 have H : ((spec_l01Is.f k l0_0).bind fun t649 => (if t649 = true then ((spec_l01Text.f k l0_0).bind fun t650 => (some (t650, 0))) else (some ((⟨#[]⟩ : ByteArray), 1)))) = some (r1, r2) := h
 clear h
 replace H := Option.bind_eq_some_iff.mp H
 obtain ⟨t649, A20, H⟩ := H
 replace H : (if t649 = true then ((spec_l01Text.f k l0_0).bind fun t650 => (some (t650, 0))) else (some ((⟨#[]⟩ : ByteArray), 1))) = some (r1, r2) := H
 have A2 := A_ A20
 clear A20
 by_cases c3 : t649 = true
 ·subst c3
  have H1 : ((spec_l01Text.f k l0_0).bind fun t650 => (some (t650, 0))) = some (r1, r2) := by rw [if_pos rfl] at H; exact H
  clear H
  have H := H1
  clear H1
  replace H := Option.bind_eq_some_iff.mp H
  obtain ⟨t650, A40, H⟩ := H
  replace H : (some (t650, 0)) = some (r1, r2) := H
  have A4 := A_ A40
  clear A40
  simp only [Option.some.injEq, Prod.mk.injEq] at H
  obtain ⟨rfl, rfl⟩ := H
  go_enter Try.func36, Try.ntmps36
  go_wp2_with (first | ((with_reducible refine gate_dst (N := 1) rfl ?_); refine bx 1 #[.slice A0_0 l0_0.length c0_0] 26 ?_; intro gb648 hg w5 hbox hb; have BK648 := A_ hbox; have GW648 := A_ (eG hg (below_size (el HB)) : w.heap.size ≤ gb648); have GE648 := A_ (eG hg (below_size (el HB)) : w.heap.size ≤ gb648); replace HB := A_ (below_step (el HB) hb); clear hb hbox hg; have hcz6_0 : w5.cell? ⟨gb648, 0, none⟩ = some (.slice A0_0 l0_0.length c0_0) := (blk_cell BK648.out 0).trans rfl; have hfz6_0 := blk_frozen BK648.out 0) | ((with_reducible refine gate_callee (f := 101) rfl ?_); refine goesL_ (some 5) rfl rfl Try.func101 (by kernel_rfl) rfl #[.agg #[.slice A0_0 l0_0.length c0_0]] rfl eg ?_; (with_reducible refine (spec_l01Is.calls k _ _ l0_0 true _ ?side1 ?side2 A2.out).mono ?_); (case side1 => exact cS (Kd.C_below HR0_0.out HB.out)); (case side2 => exact HC0_0.out); rintro e w7 ⟨rfl, hb⟩; refine ⟨_, rfl, ?_⟩; replace BK648 := A_ (eB BK648 hb); replace HB := A_ (below_step (el HB) hb); (try clear hb); (try clear hb2); (try clear hk); (try clear hi); have hcz8_0 : w7.cell? ⟨gb648, 0, none⟩ = some (.slice A0_0 l0_0.length c0_0) := (blk_cell BK648.out 0).trans rfl; have hfz8_0 := blk_frozen BK648.out 0) | ((with_reducible refine gate_callee (f := 121) rfl ?_); refine goesL_ (some 8) rfl rfl Try.func121 (by kernel_rfl) rfl #[.agg #[.slice A0_0 l0_0.length c0_0]] rfl eg ?_; (with_reducible refine (spec_l01Text.calls k _ _ l0_0 t650 _ ?side1 ?side2 A4.out).mono ?_); (case side1 => exact cS (Kd.C_below HR0_0.out HB.out)); (case side2 => exact HC0_0.out); rintro e w9 ⟨rfl, hb⟩; refine ⟨_, rfl, ?_⟩; replace BK648 := A_ (eB BK648 hb); replace HB := A_ (below_step (el HB) hb); (try clear hb); (try clear hb2); (try clear hk); (try clear hi)))
  go_ret2
  exact ⟨er, el HB⟩
 ·replace c3 := Bool.eq_false_iff.mpr c3
  subst c3
  have H1 : (some ((⟨#[]⟩ : ByteArray), 1)) = some (r1, r2) := by rw [if_neg (show ¬ (false = true) by decide)] at H; exact H
  clear H
  have H := H1
  clear H1
  simp only [Option.some.injEq, Prod.mk.injEq] at H
  obtain ⟨rfl, rfl⟩ := H
  go_enter Try.func36, Try.ntmps36
  go_wp2_with (first | ((with_reducible refine gate_dst (N := 1) rfl ?_); refine bx 1 #[.slice A0_0 l0_0.length c0_0] 26 ?_; intro gb648 hg w10 hbox hb; have BK648 := A_ hbox; have GW648 := A_ (eG hg (below_size (el HB)) : w.heap.size ≤ gb648); have GE648 := A_ (eG hg (below_size (el HB)) : w.heap.size ≤ gb648); replace HB := A_ (below_step (el HB) hb); clear hb hbox hg; have hcz11_0 : w10.cell? ⟨gb648, 0, none⟩ = some (.slice A0_0 l0_0.length c0_0) := (blk_cell BK648.out 0).trans rfl; have hfz11_0 := blk_frozen BK648.out 0) | ((with_reducible refine gate_callee (f := 101) rfl ?_); refine goesL_ (some 5) rfl rfl Try.func101 (by kernel_rfl) rfl #[.agg #[.slice A0_0 l0_0.length c0_0]] rfl eg ?_; (with_reducible refine (spec_l01Is.calls k _ _ l0_0 false _ ?side1 ?side2 A2.out).mono ?_); (case side1 => exact cS (Kd.C_below HR0_0.out HB.out)); (case side2 => exact HC0_0.out); rintro e w12 ⟨rfl, hb⟩; refine ⟨_, rfl, ?_⟩; replace BK648 := A_ (eB BK648 hb); replace HB := A_ (below_step (el HB) hb); (try clear hb); (try clear hb2); (try clear hk); (try clear hi)))
  go_ret2
  exact ⟨er, el HB⟩

end Go.Proofs.Ytocachknmgefaaa.QFnTrees
