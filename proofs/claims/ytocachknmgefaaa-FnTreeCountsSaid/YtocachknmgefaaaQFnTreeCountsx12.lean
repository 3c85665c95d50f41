/- Functions of the program as plain Lean functions, each with a proof that the machine's call answers what it answers. Conditions: none. -/
import Derived.Test.YtocachknmgefaaaQFnTreeCountsx0
import Derived.Test.YtocachknmgefaaaQFnTreeCountsx2
import Derived.Test.YtocachknmgefaaaQFnTreeCountsx10
namespace Go.Proofs.Ytocachknmgefaaa.QFnTreeCounts
open Go.RowKit Go.Proofs.YtocachknmgefaaaW.PrintWords Go.Proofs.YtocachknmgefaaaW.PrintLast Go.Proofs.YtocachknmgefaaaW.PrintMore
attribute [local go_sem] max2_int min2_int max_two min_two max_three min_three max_four min_four   -- for this text's walks alone
set_option linter.unusedVariables false
set_option linter.unusedSimpArgs false

/-! ### impl_isTree: function 114 -/
mutual
def impl_isTree.j0 : Nat → List Int → Bool → Option (Bool)
  | 0, _, _ => none
  | k + 1, x0, x13 => if x13 = true then (some false) else (impl_isTree.l0 k 1 x0 (x0.length : Int) 0)
def impl_isTree.l0 : Nat → Int → List Int → Int → Int → Option (Bool)
  | 0, _, _, _, _ => none
  | k + 1, x3, x14, x15, x16 => if x16 < x15 then (if 0 ≤ x16 then (if x16 < (x14.length : Int) then (if x3 = 0 then (some false) else (if (rd x14 x16) < 0 then (some false) else (if (rd x14 x16) ≥ 24 then (some false) else (impl_isTree.l0 k (wrap64 (x3 + (wrap64 ((rd x14 x16) - 1)))) x14 x15 (wrap64 (x16 + 1)))))) else (none)) else (none)) else (some (x3 == 0))
end
def impl_isTree.f (k : Nat) (l0 : List Int) : Option (Bool) := if (l0.length : Int) < 1 then (impl_isTree.j0 k l0 true) else (impl_isTree.j0 k l0 (decide ((l0.length : Int) > 24)))
theorem impl_isTree.mono_l : ∀ k, (∀ y0 y1, LeO (impl_isTree.j0 k y0 y1) (impl_isTree.j0 (k + 1) y0 y1)) ∧ (∀ y0 y1 y2 y3, LeO (impl_isTree.l0 k y0 y1 y2 y3) (impl_isTree.l0 (k + 1) y0 y1 y2 y3))
  | 0 => ⟨fun _ _ r h => by simp [impl_isTree.j0] at h, fun _ _ _ _ r h => by simp [impl_isTree.l0] at h⟩
  | k + 1 => by
    obtain ⟨ih0, ih1⟩ := impl_isTree.mono_l k
    refine ⟨?_, ?_⟩
    · intro y0 y1
      unfold impl_isTree.j0
      repeat' first
      | (with_reducible exact ih0 _ _)
      | (with_reducible exact ih1 _ _ _ _)
      | (with_reducible exact LeO.refl _)
      | (with_reducible exact LeO.none _)
      | (with_reducible refine LeO.ite ?_ ?_)
      | (with_reducible refine LeO.bind ?_ (fun _ => ?_))
      | exact ih0 _ _
      | exact ih1 _ _ _ _
      | exact LeO.none _
      | refine LeO.ite ?_ ?_
      | refine LeO.bind ?_ (fun _ => ?_)
    · intro y0 y1 y2 y3
      unfold impl_isTree.l0
      repeat' first
      | (with_reducible exact ih0 _ _)
      | (with_reducible exact ih1 _ _ _ _)
      | (with_reducible exact LeO.refl _)
      | (with_reducible exact LeO.none _)
      | (with_reducible refine LeO.ite ?_ ?_)
      | (with_reducible refine LeO.bind ?_ (fun _ => ?_))
      | exact ih0 _ _
      | exact ih1 _ _ _ _
      | exact LeO.none _
      | refine LeO.ite ?_ ?_
      | refine LeO.bind ?_ (fun _ => ?_)
theorem impl_isTree.mono : ∀ a0 k, LeO (impl_isTree.f k a0) (impl_isTree.f (k + 1) a0) := by
  intro a0 k
  obtain ⟨ih0, ih1⟩ := impl_isTree.mono_l k
  unfold impl_isTree.f
  repeat' first
      | (with_reducible exact ih0 _ _)
      | (with_reducible exact ih1 _ _ _ _)
      | (with_reducible exact LeO.refl _)
      | (with_reducible exact LeO.none _)
      | (with_reducible refine LeO.ite ?_ ?_)
      | (with_reducible refine LeO.bind ?_ (fun _ => ?_))
      | exact ih0 _ _
      | exact ih1 _ _ _ _
      | exact LeO.none _
      | refine LeO.ite ?_ ?_
      | refine LeO.bind ?_ (fun _ => ?_)
theorem impl_isTree.Z0 {p : Prop} (h : p := by first | (with_reducible assumption) | assumption) : p := h
theorem impl_isTree.Z1 {p : Prop} (h : p := by first | rfl | (simp; done) | (simp [*]; done)) : p := h
set_option maxHeartbeats 8000000 in
set_option maxRecDepth 100000 in
theorem impl_isTree.calls (k : Nat) (A0 : Option Addr) (c0 : Nat) (l0 : List Int) (r : Bool) (w : World) (hr0 : Kd.C (Kd.int .i64) w A0 l0.length l0) (hc0 : l0.length ≤ c0) (h : impl_isTree.f k l0 = some r) :
  Calls Try.prog 114 #[.slice A0 l0.length c0] w fun e w' => e = .returned (.bool r) ∧ Drawn0 w w' := by
 have HR0 := A_ hr0
 have HC0 := A_ hc0
 clear hr0 hc0
 have H : (if (l0.length : Int) < 1 then (impl_isTree.j0 k l0 true) else (impl_isTree.j0 k l0 (decide ((l0.length : Int) > 24)))) = some r := h
 clear h
 have HC2 := A_ H
 clear H
 go_enter Try.func114, Try.ntmps114
 go_upto_region 1 with (fail)
 go_cut [13] (fun v13 wc => ∃ (kq : Nat) (x13_1 : Bool), v13 = .bool x13_1 ∧ Aside0 (impl_isTree.j0 kq l0 x13_1 = some r) ∧ Aside0 (kq ≤ k) ∧ Drawn0 w wc)
 case first =>
  have H := HC2.out
  clear HC2
  by_cases c3 : (l0.length : Int) < 1
  ·rw [if_pos c3] at H
   have c3b0 : decide ((l0.length : Int) < 1) = true := decide_eq_true c3
   have c3b1 : decide (l0.length < 1) = true := decide_eq_true (by omega)
   clear c3
   (first | rw [c3b0] | (simp only [i64_w, i32_w]; rw [c3b0]) | skip)
   have H' := A_ H
   clear H
   go_wp2
   go_meet
   case rel => exact ⟨_, (true), impl_isTree.Z1, H', ⟨by first | omega | exact Nat.le_refl _⟩, by repeat (first | exact Drawn0.refl _ | apply Drawn0.step)⟩
  ·rw [if_neg c3] at H
   have c3b0 : decide ((l0.length : Int) < 1) = false := decide_eq_false c3
   have c3b1 : decide (l0.length < 1) = false := decide_eq_false (by omega)
   clear c3
   (first | rw [c3b0] | (simp only [i64_w, i32_w]; rw [c3b0]) | skip)
   have H' := A_ H
   clear H
   go_wp2
   go_meet
   case rel => exact ⟨_, (decide ((l0.length : Int) > 24)), impl_isTree.Z1, H', ⟨by first | omega | exact Nat.le_refl _⟩, by repeat (first | exact Drawn0.refl _ | apply Drawn0.step)⟩
 case rest =>
  clear HC2
  try clear c1
  try clear p2
  try clear c3
  try clear c3b0
  try clear c3b1
  obtain ⟨kq, x13_1, rfl, HA, HJ1, ⟨mc1, rfl⟩⟩ := hcut
  cases kq with
  | zero => exact absurd HA.out (by simp [impl_isTree.j0])
  | succ kj1 =>
   have H := HA.out
   clear HA
   simp only [impl_isTree.j0] at H
   by_cases c4 : x13_1 = true
   ·subst c4
    have H1 : (some false) = some r := by rw [if_pos rfl] at H; exact H
    clear H
    have H := H1
    clear H1
    obtain rfl := Option.some.inj H
    go_wp2
    go_ret
    exact ⟨by first | rfl | (simp; done) | (simp [*]; done), by repeat (first | exact Drawn0.refl _ | apply Drawn0.step)⟩
   ·replace c4 := Bool.eq_false_iff.mpr c4
    subst c4
    have H1 : (impl_isTree.l0 kj1 1 l0 (l0.length : Int) 0) = some r := by rw [if_neg (show ¬ (false = true) by decide)] at H; exact H
    clear H
    have H := H1
    clear H1
    have H' := A_ H
    clear H
    go_wp2
    go_loopg [3, 16] kj1 (fun kq v3 v16 w' => ∃ (x3_2 : Int) (x16_2 : Int), v3 = .int .i64 x3_2 ∧ v16 = .int .i64 x16_2 ∧ Aside0 (impl_isTree.l0 kq x3_2 l0 (l0.length : Int) x16_2 = some r) ∧ Aside0 (kq ≤ kj1) ∧ Drawn0 w w')
    case atStart => exact ⟨(1), (0), impl_isTree.Z1, impl_isTree.Z1, H', ⟨Nat.le_refl _⟩, by repeat (first | exact Drawn0.refl _ | apply Drawn0.step)⟩
    case round =>
     clear H'
     try clear c1
     try clear p2
     try clear c3
     try clear c3b0
     try clear c3b1
     try clear c4
     try clear p2
     obtain ⟨x3_2, x16_2, rfl, rfl, HA, HK2, ⟨m2, rfl⟩⟩ := hrel
     cases gk with
     | zero => exact absurd HA.out (by simp [impl_isTree.l0])
     | succ k2 =>
      have H := HA.out
      clear HA
      simp only [impl_isTree.l0] at H
      by_cases c5 : x16_2 < (l0.length : Int)
      ·rw [if_pos c5] at H
       have c5b0 : decide (x16_2 < (l0.length : Int)) = true := decide_eq_true c5
       clear c5
       by_cases c6 : 0 ≤ x16_2
       rotate_left
       ·rw [if_neg c6] at H
        exact absurd H (by simp)
       rw [if_pos c6] at H
       have c6b0 : decide (0 ≤ x16_2) = true := decide_eq_true c6
       clear c6
       by_cases c7 : x16_2 < (l0.length : Int)
       rotate_left
       ·rw [if_neg c7] at H
        exact absurd H (by simp)
       rw [if_pos c7] at H
       have c7b0 : decide (x16_2 < (l0.length : Int)) = true := decide_eq_true c7
       clear c7
       by_cases c8 : x3_2 = 0
       ·rw [if_pos c8] at H
        have c8b0 : (x3_2 == 0) = true := beq_iff_eq.mpr c8
        have c8b1 : (x3_2 != 0) = false := bne_eq_false_iff_eq.mpr c8
        clear c8
        obtain rfl := Option.some.inj H
        have p432 : 0 ≤ (x16_2 : Int) := of_decide_eq_true impl_isTree.Z0
        have q432 : x16_2 < (l0.length : Int) := of_decide_eq_true impl_isTree.Z0
        obtain ⟨ad432, e432, hx432_0⟩ := Kd.at_int HR0.out x16_2 p432 q432
        cases e432
        replace p432 := eq_true p432
        replace q432 := eq_true q432
        go_wp2
        go_ret
        exact ⟨by first | rfl | (simp; done) | (simp [*]; done), by repeat (first | exact Drawn0.refl _ | apply Drawn0.step)⟩
       ·rw [if_neg c8] at H
        have c8b0 : (x3_2 == 0) = false := beq_eq_false_iff_ne.mpr c8
        have c8b1 : (x3_2 != 0) = true := bne_iff_ne.mpr c8
        by_cases c9 : (rd l0 x16_2) < 0
        ·rw [if_pos c9] at H
         have c9b0 : decide ((rd l0 x16_2) < 0) = true := decide_eq_true c9
         clear c9
         obtain rfl := Option.some.inj H
         have p432 : 0 ≤ (x16_2 : Int) := of_decide_eq_true impl_isTree.Z0
         have q432 : x16_2 < (l0.length : Int) := of_decide_eq_true impl_isTree.Z0
         obtain ⟨ad432, e432, hx432_0⟩ := Kd.at_int HR0.out x16_2 p432 q432
         cases e432
         replace p432 := eq_true p432
         replace q432 := eq_true q432
         go_wp2
         go_ret
         exact ⟨by first | rfl | (simp; done) | (simp [*]; done), by repeat (first | exact Drawn0.refl _ | apply Drawn0.step)⟩
        ·rw [if_neg c9] at H
         have c9b0 : decide ((rd l0 x16_2) < 0) = false := decide_eq_false c9
         clear c9
         by_cases c10 : (rd l0 x16_2) ≥ 24
         ·rw [if_pos c10] at H
          have c10b0 : decide (24 ≤ (rd l0 x16_2)) = true := decide_eq_true c10
          clear c10
          obtain rfl := Option.some.inj H
          have p432 : 0 ≤ (x16_2 : Int) := of_decide_eq_true impl_isTree.Z0
          have q432 : x16_2 < (l0.length : Int) := of_decide_eq_true impl_isTree.Z0
          obtain ⟨ad432, e432, hx432_0⟩ := Kd.at_int HR0.out x16_2 p432 q432
          cases e432
          replace p432 := eq_true p432
          replace q432 := eq_true q432
          go_wp2
          go_ret
          exact ⟨by first | rfl | (simp; done) | (simp [*]; done), by repeat (first | exact Drawn0.refl _ | apply Drawn0.step)⟩
         ·rw [if_neg c10] at H
          have c10b0 : decide (24 ≤ (rd l0 x16_2)) = false := decide_eq_false c10
          clear c10
          have H' := A_ H
          clear H
          have p432 : 0 ≤ (x16_2 : Int) := of_decide_eq_true impl_isTree.Z0
          have q432 : x16_2 < (l0.length : Int) := of_decide_eq_true impl_isTree.Z0
          obtain ⟨ad432, e432, hx432_0⟩ := Kd.at_int HR0.out x16_2 p432 q432
          cases e432
          replace p432 := eq_true p432
          replace q432 := eq_true q432
          go_wp2
          go_roundg k2
          case measure => have := HJ1.out; have := HK2.out; omega
          case rel => exact ⟨(wrap64 (x3_2 + (wrap64 ((rd l0 x16_2) - 1)))), (wrap64 (x16_2 + 1)), impl_isTree.Z1, impl_isTree.Z1, H', ⟨by have := HJ1.out; have := HK2.out; omega⟩, by repeat (first | exact Drawn0.refl _ | apply Drawn0.step)⟩
      ·rw [if_neg c5] at H
       have c5b0 : decide (x16_2 < (l0.length : Int)) = false := decide_eq_false c5
       clear c5
       obtain rfl := Option.some.inj H
       go_wp2
       go_ret
       exact ⟨by first | rfl | (simp; done) | (simp [*]; done), by repeat (first | exact Drawn0.refl _ | apply Drawn0.step)⟩

/-! ### impl_IsTree: function 24 -/
def impl_IsTree.f (k : Nat) (l0_0 : List Int) : Option (Bool) := (impl_isTree.f k l0_0).bind fun t434 => (some t434)
theorem impl_IsTree.mono : ∀ a0 k, LeO (impl_IsTree.f k a0) (impl_IsTree.f (k + 1) a0) := by
  intro a0 k
  unfold impl_IsTree.f
  repeat' first
      | (with_reducible exact impl_isTree.mono _ _)
      | (with_reducible exact LeO.refl _)
      | (with_reducible exact LeO.none _)
      | (with_reducible refine LeO.ite ?_ ?_)
      | (with_reducible refine LeO.bind ?_ (fun _ => ?_))
      | exact impl_isTree.mono _ _
      | exact LeO.none _
      | refine LeO.ite ?_ ?_
      | refine LeO.bind ?_ (fun _ => ?_)
set_option maxHeartbeats 8000000 in
set_option maxRecDepth 100000 in
theorem impl_IsTree.calls (k : Nat) (A0_0 : Option Addr) (c0_0 : Nat) (l0_0 : List Int) (r : Bool) (w : World) (hr0_0 : Kd.C (Kd.int .i64) w A0_0 l0_0.length l0_0) (hc0_0 : l0_0.length ≤ c0_0) (h : impl_IsTree.f k l0_0 = some r) :
  Calls Try.prog 24 #[.agg #[.slice A0_0 l0_0.length c0_0]] w fun e w' => e = .returned (.bool r) ∧ Below w.heap.size w w' := by
 have hu26 := Try.underlying26
 have HR0_0 := A_ hr0_0
 have HC0_0 := A_ hc0_0
 clear hr0_0 hc0_0
 have HB := A_ (Below.refl w.heap.size w)
 have H : ((impl_isTree.f k l0_0).bind fun t434 => (some t434)) = some r := h
 clear h
 replace H := Option.bind_eq_some_iff.mp H
 obtain ⟨t434, A20, H⟩ := H
 replace H : (some t434) = some r := H
 have A2 := A_ A20
 clear A20
 obtain rfl := Option.some.inj H
 go_enter Try.func24, Try.ntmps24
 go_wp2_with (first | ((with_reducible refine gate_dst (N := 1) rfl ?_); refine box_event ?hg (N := 1) ?hd (cs := #[.slice A0_0 l0_0.length c0_0]) (t := 26) ?hr ?_; (case hd => rfl); (case hg => rfl); (case hr => first | (go_simp; done) | (go_simp; rfl)); intro gb433 hg w3 hbox hb; have n0_ := A_ (below_step (el HB) hb); have n1_ := A_ (hbox); have n2_ := A_ ((by rw [hg]; exact (below_size (el HB)) : w.heap.size ≤ gb433)); have n3_ := A_ ((by rw [hg]; exact (below_size (el HB)) : w.heap.size ≤ gb433)); clear HB; have HB := n0_; have BK433 := n1_; have GW433 := n2_; have GE433 := n3_; clear n0_ n1_ n2_ n3_; clear hb hbox hg; have hcz4_0 : w3.cell? ⟨gb433, 0, none⟩ = some (.slice A0_0 l0_0.length c0_0) := (blk_cell BK433.out 0).trans rfl; have hfz4_0 := blk_frozen BK433.out 0) | ((with_reducible refine gate_callee (f := 114) rfl ?_); refine goesL_ (some 5) rfl rfl Try.func114 (by kernel_rfl) rfl #[.slice A0_0 l0_0.length c0_0] rfl eg ?_; (with_reducible refine (impl_isTree.calls k _ _ l0_0 t434 _ ?side1 ?side2 A2.out).mono ?_); (case side1 => repeat (first | exact (Kd.C_below HR0_0.out HB.out) | (with_reducible refine Kd.C_alloc ?_ _) | (with_reducible refine Kd.C_drewN ?_ _) | (with_reducible refine Kd.C_drew ?_))); (case side2 => exact HC0_0.out); rintro e w' ⟨rfl, ⟨nd, rfl⟩⟩; refine ⟨_, rfl, ?_⟩))
 go_ret
 exact ⟨er, el HB⟩

/-! ### slices_Max_int64_int64: function 112 -/
def slices_Max_int64_int64.l0 : Nat → List Int → Int → Int → Option (Int)
  | 0, _, _, _ => none
  | k + 1, x0, x3, x4 => if x4 < (x0.length : Int) then (if 0 ≤ x4 then (slices_Max_int64_int64.l0 k x0 (mx x3 (rd x0 x4)) (wrap64 (x4 + 1))) else (none)) else (some x3)
def slices_Max_int64_int64.f (k : Nat) (l0 : List Int) : Option (Int) := if (l0.length : Int) < 1 then (none) else (if 0 < (l0.length : Int) then (slices_Max_int64_int64.l0 k l0 (rd l0 0) 1) else (none))
theorem slices_Max_int64_int64.mono_l : ∀ k, (∀ y0 y1 y2, LeO (slices_Max_int64_int64.l0 k y0 y1 y2) (slices_Max_int64_int64.l0 (k + 1) y0 y1 y2))
  | 0 => fun _ _ _ r h => by simp [slices_Max_int64_int64.l0] at h
  | k + 1 => by
    have ih0 := slices_Max_int64_int64.mono_l k
    · intro y0 y1 y2
      unfold slices_Max_int64_int64.l0
      repeat' first
      | (with_reducible exact ih0 _ _ _)
      | (with_reducible exact LeO.refl _)
      | (with_reducible exact LeO.none _)
      | (with_reducible refine LeO.ite ?_ ?_)
      | (with_reducible refine LeO.bind ?_ (fun _ => ?_))
      | exact ih0 _ _ _
      | exact LeO.none _
      | refine LeO.ite ?_ ?_
      | refine LeO.bind ?_ (fun _ => ?_)
theorem slices_Max_int64_int64.mono : ∀ a0 k, LeO (slices_Max_int64_int64.f k a0) (slices_Max_int64_int64.f (k + 1) a0) := by
  intro a0 k
  have ih0 := slices_Max_int64_int64.mono_l k
  unfold slices_Max_int64_int64.f
  repeat' first
      | (with_reducible exact ih0 _ _ _)
      | (with_reducible exact LeO.refl _)
      | (with_reducible exact LeO.none _)
      | (with_reducible refine LeO.ite ?_ ?_)
      | (with_reducible refine LeO.bind ?_ (fun _ => ?_))
      | exact ih0 _ _ _
      | exact LeO.none _
      | refine LeO.ite ?_ ?_
      | refine LeO.bind ?_ (fun _ => ?_)
theorem slices_Max_int64_int64.Z0 {p : Prop} (h : p := by first | (with_reducible assumption) | assumption) : p := h
theorem slices_Max_int64_int64.Z1 {p : Prop} (h : p := by first | rfl | (simp; done) | (simp [*]; done)) : p := h
set_option maxHeartbeats 8000000 in
set_option maxRecDepth 100000 in
theorem slices_Max_int64_int64.calls (k : Nat) (A0 : Option Addr) (c0 : Nat) (l0 : List Int) (r : Int) (w : World) (hr0 : Kd.C (Kd.int .i64) w A0 l0.length l0) (hc0 : l0.length ≤ c0) (h : slices_Max_int64_int64.f k l0 = some r) :
  Calls Try.prog 112 #[.slice A0 l0.length c0] w fun e w' => e = .returned (.int .i64 r) ∧ Below w.heap.size w w' := by
 have HR0 := A_ hr0
 have HC0 := A_ hc0
 clear hr0 hc0
 have HB := A_ (Below.refl w.heap.size w)
 have H : (if (l0.length : Int) < 1 then (none) else (if 0 < (l0.length : Int) then (slices_Max_int64_int64.l0 k l0 (rd l0 0) 1) else (none))) = some r := h
 clear h
 by_cases c2 : (l0.length : Int) < 1
 ·rw [if_pos c2] at H
  exact absurd H (by simp)
 rw [if_neg c2] at H
 have c2b0 : decide ((l0.length : Int) < 1) = false := decide_eq_false c2
 have c2b1 : decide (l0.length < 1) = false := decide_eq_false (by omega)
 clear c2
 by_cases c3 : 0 < (l0.length : Int)
 ·rw [if_pos c3] at H
  have c3b0 : decide (0 < (l0.length : Int)) = true := decide_eq_true c3
  have c3b1 : decide (0 < l0.length) = true := decide_eq_true (by omega)
  clear c3
  have H' := A_ H
  clear H
  have p435 : 0 ≤ (0 : Int) := (by omega)
  have q435 : 0 < (l0.length : Int) := of_decide_eq_true slices_Max_int64_int64.Z0
  obtain ⟨ad435, e435, hx435_0⟩ := Kd.at_int HR0.out 0 p435 q435
  cases e435
  have qi435 : (0 < l0.length) = True := eq_true (by omega)
  (try rw [show ((0 : Int)).toNat = 0 from rfl] at hx435_0)
  (try rw [Addr.add_zero'] at hx435_0)
  replace p435 := eq_true p435
  replace q435 := eq_true q435
  go_enter Try.func112, Try.ntmps112
  go_wp2
  go_loopg [3, 4] k (fun kq v3 v4 w' => ∃ (x3_1 : Int) (x4_1 : Int), v3 = .int .i64 x3_1 ∧ v4 = .int .i64 x4_1 ∧ Aside0 (slices_Max_int64_int64.l0 kq l0 x3_1 x4_1 = some r) ∧ Aside0 (kq ≤ k) ∧ Aside0 (Below w.heap.size w w'))
  case atStart => exact ⟨(rd l0 0), (1), slices_Max_int64_int64.Z1, slices_Max_int64_int64.Z1, H', ⟨Nat.le_refl _⟩, ⟨el HB⟩⟩
  case round =>
   clear H'
   try clear c1
   try clear c2
   try clear c2b0
   try clear c2b1
   try clear p2
   try clear c3
   try clear c3b0
   try clear c3b1
   try clear hx435_0
   try clear p435
   try clear q435
   obtain ⟨x3_1, x4_1, rfl, rfl, HA, HK1, HB⟩ := hrel
   cases gk with
   | zero => exact absurd HA.out (by simp [slices_Max_int64_int64.l0])
   | succ k1 =>
    have H := HA.out
    clear HA
    simp only [slices_Max_int64_int64.l0] at H
    by_cases c4 : x4_1 < (l0.length : Int)
    ·rw [if_pos c4] at H
     have c4b0 : decide (x4_1 < (l0.length : Int)) = true := decide_eq_true c4
     clear c4
     by_cases c5 : 0 ≤ x4_1
     rotate_left
     ·rw [if_neg c5] at H
      exact absurd H (by simp)
     rw [if_pos c5] at H
     have c5b0 : decide (0 ≤ x4_1) = true := decide_eq_true c5
     clear c5
     obtain ⟨ji6, hji6⟩ : ∃ j_ : Int, (mx x3_1 (rd l0 x4_1)) = j_ := ⟨_, rfl⟩
     replace H : (slices_Max_int64_int64.l0 k1 l0 ji6 (wrap64 (x4_1 + 1))) = some r := by first | (rw [hji6] at H; exact H) | (simp only [hji6] at H ⊢; exact H)
     have hji6_ : (if x3_1 < (rd l0 x4_1) then (rd l0 x4_1) else x3_1) = ji6 := hji6
     have H' := A_ H
     clear H
     have p436 : 0 ≤ (x4_1 : Int) := of_decide_eq_true slices_Max_int64_int64.Z0
     have q436 : x4_1 < (l0.length : Int) := of_decide_eq_true slices_Max_int64_int64.Z0
     obtain ⟨ad436, e436, hx436_0⟩ := Kd.at_int HR0.out x4_1 p436 q436
     obtain rfl : ad435 = ad436 := (by injection e436)
     replace hx436_0 := (HB.out.cell (World.block_lt_of_cell? w _ hx436_0)).trans hx436_0
     replace p436 := eq_true p436
     replace q436 := eq_true q436
     go_wp2
     go_roundg k1
     case measure => have := HK1.out; omega
     case rel => exact ⟨(ji6), (wrap64 (x4_1 + 1)), (by first | rfl | (simp; done) | (simp only [← hji6] <;> (first | rfl | simp)) | (simp [*]; done)), slices_Max_int64_int64.Z1, H', ⟨by have := HK1.out; omega⟩, ⟨el HB⟩⟩
    ·rw [if_neg c4] at H
     have c4b0 : decide (x4_1 < (l0.length : Int)) = false := decide_eq_false c4
     clear c4
     obtain rfl := Option.some.inj H
     go_wp2
     go_ret
     exact ⟨er, el HB⟩
 ·rw [if_neg c3] at H
  exact absurd H (by simp)

/-! ### impl_CountsOfTree: function 78 -/
def impl_CountsOfTree.l0 : Nat → List Int → List Int → Int → Int → Option (List Int × Int)
  | 0, _, _, _, _ => none
  | k + 1, x4, x16, x17, x18 => if x18 < x17 then (if 0 ≤ x18 then (if x18 < (x16.length : Int) then (if 0 ≤ (rd x16 x18) then (if (rd x16 x18) < (x4.length : Int) then (impl_CountsOfTree.l0 k (x4.set ((rd x16 x18) : Int).toNat (wrap64 ((rd x4 (rd x16 x18)) + 1))) x16 x17 (wrap64 (x18 + 1))) else (none)) else (none)) else (none)) else (none)) else (some (x4, 0))
def impl_CountsOfTree.f (k : Nat) (l0_0 : List Int) : Option (List Int × Int) := (impl_IsTree.f k l0_0).bind fun t438 => (if t438 = true then ((slices_Max_int64_int64.f k l0_0).bind fun t439 => (if 0 ≤ (wrap64 (t439 + 1)) then (if (wrap64 (t439 + 1) : Int).toNat ≤ 35184372088832 then (impl_CountsOfTree.l0 k (List.replicate (wrap64 (t439 + 1) : Int).toNat 0) l0_0 (l0_0.length : Int) 0) else (none)) else (none))) else (some (([] : List Int), 1)))
theorem impl_CountsOfTree.mono_l : ∀ k, (∀ y0 y1 y2 y3, LeO (impl_CountsOfTree.l0 k y0 y1 y2 y3) (impl_CountsOfTree.l0 (k + 1) y0 y1 y2 y3))
  | 0 => fun _ _ _ _ r h => by simp [impl_CountsOfTree.l0] at h
  | k + 1 => by
    have ih0 := impl_CountsOfTree.mono_l k
    · intro y0 y1 y2 y3
      unfold impl_CountsOfTree.l0
      repeat' first
      | (with_reducible exact ih0 _ _ _ _)
      | (with_reducible exact impl_IsTree.mono _ _)
      | (with_reducible exact slices_Max_int64_int64.mono _ _)
      | (with_reducible exact LeO.refl _)
      | (with_reducible exact LeO.none _)
      | (with_reducible refine LeO.ite ?_ ?_)
      | (with_reducible refine LeO.bind ?_ (fun _ => ?_))
      | exact ih0 _ _ _ _
      | exact impl_IsTree.mono _ _
      | exact slices_Max_int64_int64.mono _ _
      | exact LeO.none _
      | refine LeO.ite ?_ ?_
      | refine LeO.bind ?_ (fun _ => ?_)
theorem impl_CountsOfTree.mono : ∀ a0 k, LeO (impl_CountsOfTree.f k a0) (impl_CountsOfTree.f (k + 1) a0) := by
  intro a0 k
  have ih0 := impl_CountsOfTree.mono_l k
  unfold impl_CountsOfTree.f
  repeat' first
      | (with_reducible exact ih0 _ _ _ _)
      | (with_reducible exact impl_IsTree.mono _ _)
      | (with_reducible exact slices_Max_int64_int64.mono _ _)
      | (with_reducible exact LeO.refl _)
      | (with_reducible exact LeO.none _)
      | (with_reducible refine LeO.ite ?_ ?_)
      | (with_reducible refine LeO.bind ?_ (fun _ => ?_))
      | exact ih0 _ _ _ _
      | exact impl_IsTree.mono _ _
      | exact slices_Max_int64_int64.mono _ _
      | exact LeO.none _
      | refine LeO.ite ?_ ?_
      | refine LeO.bind ?_ (fun _ => ?_)
theorem impl_CountsOfTree.Z0 {p : Prop} (h : p := by first | (with_reducible assumption) | assumption) : p := h
theorem impl_CountsOfTree.Z1 {p : Prop} (h : p := by first | rfl | (simp; done) | (simp [*]; done)) : p := h
set_option maxHeartbeats 8000000 in
set_option maxRecDepth 100000 in
theorem impl_CountsOfTree.calls (k : Nat) (A0_0 : Option Addr) (c0_0 : Nat) (l0_0 : List Int) (r1 : List Int) (r2 : Int) (w : World) (hr0_0 : Kd.C (Kd.int .i64) w A0_0 l0_0.length l0_0) (hc0_0 : l0_0.length ≤ c0_0) (h : impl_CountsOfTree.f k l0_0 = some (r1, r2)) :
  Calls Try.prog 78 #[.agg #[.slice A0_0 l0_0.length c0_0]] w fun e w' => ∃ v0_ : Value, e = .returned (.tuple #[v0_, .int .i64 r2]) ∧ Kd.R (Kd.int .i64) 2 w' w.heap.size (fun _ => True) v0_ r1 ∧ Below w.heap.size w w' := by
 have hu26 := Try.underlying26
 have HR0_0 := A_ hr0_0
 have HC0_0 := A_ hc0_0
 clear hr0_0 hc0_0
 have HB := A_ (Below.refl w.heap.size w)
 have H : ((impl_IsTree.f k l0_0).bind fun t438 => (if t438 = true then ((slices_Max_int64_int64.f k l0_0).bind fun t439 => (if 0 ≤ (wrap64 (t439 + 1)) then (if (wrap64 (t439 + 1) : Int).toNat ≤ 35184372088832 then (impl_CountsOfTree.l0 k (List.replicate (wrap64 (t439 + 1) : Int).toNat 0) l0_0 (l0_0.length : Int) 0) else (none)) else (none))) else (some (([] : List Int), 1)))) = some (r1, r2) := h
 clear h
 replace H := Option.bind_eq_some_iff.mp H
 obtain ⟨t438, A20, H⟩ := H
 replace H : (if t438 = true then ((slices_Max_int64_int64.f k l0_0).bind fun t439 => (if 0 ≤ (wrap64 (t439 + 1)) then (if (wrap64 (t439 + 1) : Int).toNat ≤ 35184372088832 then (impl_CountsOfTree.l0 k (List.replicate (wrap64 (t439 + 1) : Int).toNat 0) l0_0 (l0_0.length : Int) 0) else (none)) else (none))) else (some (([] : List Int), 1))) = some (r1, r2) := H
 have A2 := A_ A20
 clear A20
 by_cases c3 : t438 = true
 ·subst c3
  have H1 : ((slices_Max_int64_int64.f k l0_0).bind fun t439 => (if 0 ≤ (wrap64 (t439 + 1)) then (if (wrap64 (t439 + 1) : Int).toNat ≤ 35184372088832 then (impl_CountsOfTree.l0 k (List.replicate (wrap64 (t439 + 1) : Int).toNat 0) l0_0 (l0_0.length : Int) 0) else (none)) else (none))) = some (r1, r2) := by rw [if_pos rfl] at H; exact H
  clear H
  have H := H1
  clear H1
  replace H := Option.bind_eq_some_iff.mp H
  obtain ⟨t439, A40, H⟩ := H
  replace H : (if 0 ≤ (wrap64 (t439 + 1)) then (if (wrap64 (t439 + 1) : Int).toNat ≤ 35184372088832 then (impl_CountsOfTree.l0 k (List.replicate (wrap64 (t439 + 1) : Int).toNat 0) l0_0 (l0_0.length : Int) 0) else (none)) else (none)) = some (r1, r2) := H
  have A4 := A_ A40
  clear A40
  obtain ⟨ji5, hji5⟩ : ∃ j_ : Int, (wrap64 (t439 + 1)) = j_ := ⟨_, rfl⟩
  replace H : (if 0 ≤ (ji5) then (if (ji5 : Int).toNat ≤ 35184372088832 then (impl_CountsOfTree.l0 k (List.replicate (ji5 : Int).toNat 0) l0_0 (l0_0.length : Int) 0) else (none)) else (none)) = some (r1, r2) := by first | (rw [hji5] at H; exact H) | (simp only [hji5] at H ⊢; exact H)
  (try rw [hji5] at A2)
  (try rw [hji5] at A4)
  have hji5w : (IntKind.i64.wrap (t439 + 1)) = ji5 := (i64_w _).trans hji5
  by_cases c6 : 0 ≤ (ji5)
  rotate_left
  ·rw [if_neg c6] at H
   exact absurd H (by simp)
  rw [if_pos c6] at H
  have c6b0 := eq_true c6
  have c6b1 : decide (0 ≤ (ji5)) = true := decide_eq_true c6
  clear c6
  by_cases c7 : (ji5 : Int).toNat ≤ 35184372088832
  rotate_left
  ·rw [if_neg c7] at H
   exact absurd H (by simp)
  rw [if_pos c7] at H
  have c7b0 := eq_true c7
  have c7b1 : decide ((ji5 : Int).toNat ≤ 35184372088832) = true := decide_eq_true c7
  clear c7
  obtain ⟨y440, hy440⟩ : ∃ y_ : List Int, y_ = (List.replicate (ji5 : Int).toNat 0) := ⟨_, rfl⟩
  replace H : (impl_CountsOfTree.l0 k y440 l0_0 (l0_0.length : Int) 0) = some (r1, r2) := by first | (rw [hy440]; with_reducible exact H) | (have H2_ := (Option.bind_some _ _).symm.trans H; rw [hy440]; with_reducible exact H2_) | (have H2_ := (Option.bind_some _ _).symm.trans H; with_reducible exact H2_) | with_reducible exact H | (rw [hy440]; exact H) | exact H
  have Ny440 := A_ hy440
  clear hy440
  have H' := A_ H
  clear H
  go_enter Try.func78, Try.ntmps78
  go_wp2_with (first | ((with_reducible refine gate_dst (N := 1) rfl ?_); refine box_event ?hg (N := 1) ?hd (cs := #[.slice A0_0 l0_0.length c0_0]) (t := 26) ?hr ?_; (case hd => rfl); (case hg => rfl); (case hr => first | (go_simp; done) | (go_simp; rfl)); intro gb437 hg w8 hbox hb; have n0_ := A_ (below_step (el HB) hb); have n1_ := A_ (hbox); have n2_ := A_ ((by rw [hg]; exact (below_size (el HB)) : w.heap.size ≤ gb437)); have n3_ := A_ ((by rw [hg]; exact (below_size (el HB)) : w.heap.size ≤ gb437)); clear HB; have HB := n0_; have BK437 := n1_; have GW437 := n2_; have GE437 := n3_; clear n0_ n1_ n2_ n3_; clear hb hbox hg; have hcz9_0 : w8.cell? ⟨gb437, 0, none⟩ = some (.slice A0_0 l0_0.length c0_0) := (blk_cell BK437.out 0).trans rfl; have hfz9_0 := blk_frozen BK437.out 0) | ((with_reducible refine gate_callee (f := 24) rfl ?_); refine goesL_ (some 8) rfl rfl Try.func24 (by kernel_rfl) rfl #[.agg #[.slice A0_0 l0_0.length c0_0]] rfl eg ?_; (with_reducible refine (impl_IsTree.calls k _ _ l0_0 true _ ?side1 ?side2 A2.out).mono ?_); (case side1 => repeat (first | exact (Kd.C_below HR0_0.out HB.out) | (with_reducible refine Kd.C_alloc ?_ _) | (with_reducible refine Kd.C_drewN ?_ _) | (with_reducible refine Kd.C_drew ?_))); (case side2 => exact HC0_0.out); rintro e w10 ⟨rfl, hb⟩; refine ⟨_, rfl, ?_⟩; have n0_ := A_ (eB BK437 hb); have n1_ := A_ (below_step (el HB) hb); clear BK437; clear HB; have BK437 := n0_; have HB := n1_; clear n0_ n1_; (try clear hb); (try clear hb2); (try clear hk); (try clear hi); have hcz11_0 : w10.cell? ⟨gb437, 0, none⟩ = some (.slice A0_0 l0_0.length c0_0) := (blk_cell BK437.out 0).trans rfl; have hfz11_0 := blk_frozen BK437.out 0) | ((with_reducible refine gate_callee (f := 112) rfl ?_); refine goesL_ (some 12) rfl rfl Try.func112 (by kernel_rfl) rfl #[.slice A0_0 l0_0.length c0_0] rfl eg ?_; (with_reducible refine (slices_Max_int64_int64.calls k _ _ l0_0 t439 _ ?side1 ?side2 A4.out).mono ?_); (case side1 => repeat (first | exact (Kd.C_below HR0_0.out HB.out) | (with_reducible refine Kd.C_alloc ?_ _) | (with_reducible refine Kd.C_drewN ?_ _) | (with_reducible refine Kd.C_drew ?_))); (case side2 => exact HC0_0.out); rintro e w12 ⟨rfl, hb⟩; refine ⟨_, rfl, ?_⟩; have n0_ := A_ (eB BK437 hb); have n1_ := A_ (below_step (el HB) hb); clear BK437; clear HB; have BK437 := n0_; have HB := n1_; clear n0_ n1_; (try clear hb); (try clear hb2); (try clear hk); (try clear hi)) | ((with_reducible refine gate_dst (N := 14) rfl ?_); refine Kd.R_make (Kd.int .i64) _ 2 rfl (N := 14) rfl 24 _ _ rfl ji5 rfl rfl Try.underlying24 (.int .i64 0) 8 info2 rfl (by decide) (by omega) 0 (ok := fun _ => True) (okp := fun _ => True) rfl (fun _ hk => hk) trivial (of_decide_eq_true impl_CountsOfTree.Z0) (Nat.le_trans (Nat.mul_le_mul_right _ (of_decide_eq_true impl_CountsOfTree.Z0 : ji5.toNat ≤ 35184372088832)) (by omega)) (Below.refl _ _) (Nat.le_refl _) ?_; intro v441 w13 ho14 hb hg_ hnew_; clear hg_ hnew_; (first | rw [← Ny440.out] at ho14 | (simp only [Int.reduceToNat] at ho14; rw [← Ny440.out] at ho14)); have n0_ := A_ (Kd.R_lower ho14 (below_size (el HB))); have n1_ := A_ (eB BK437 hb); have n2_ := A_ (below_step (el HB) hb); clear BK437; clear HB; have HO442 := n0_; have BK437 := n1_; have HB := n2_; clear n0_ n1_ n2_; clear hb ho14; have hcz15_0 : w13.cell? ⟨gb437, 0, none⟩ = some (.slice A0_0 l0_0.length c0_0) := (blk_cell BK437.out 0).trans rfl; have hfz15_0 := blk_frozen BK437.out 0))
  go_loopg [18] k (fun kq v18 w' => ∃ (x4_1 : List Int) (x18_1 : Int), v18 = .int .i64 x18_1 ∧ Aside0 (impl_CountsOfTree.l0 kq x4_1 l0_0 (l0_0.length : Int) x18_1 = some (r1, r2)) ∧ Aside0 (kq ≤ k) ∧ Aside0 (Kd.R (Kd.int .i64) 2 w' w.heap.size (fun _ => True) v441 x4_1) ∧ Aside0 (w'.heap[gb437]? = some (.cells #[(.slice A0_0 l0_0.length c0_0)] 26 (0, 0))) ∧ Aside0 (Below w.heap.size w w'))
  case atStart => exact ⟨(y440), (0), impl_CountsOfTree.Z1, H', ⟨Nat.le_refl _⟩, ⟨ea HO442⟩, ⟨eb BK437⟩, ⟨el HB⟩⟩
  case round =>
   clear H'
   try clear c1
   try clear c2
   try clear p2
   try clear c3
   try clear c6
   try clear c6b0
   try clear c6b1
   try clear p6
   try clear c7
   try clear c7b0
   try clear c7b1
   try clear c11
   try clear hcz11_0
   try clear hcz15_0
   try clear hcz9_0
   try clear hfz11_0
   try clear hfz15_0
   try clear hfz9_0
   obtain ⟨x4_1, x18_1, rfl, HA, HK1, HO_4, BK437, HB⟩ := hrel
   cases gk with
   | zero => exact absurd HA.out (by simp [impl_CountsOfTree.l0])
   | succ k1 =>
    have H := HA.out
    clear HA
    simp only [impl_CountsOfTree.l0] at H
    by_cases c16 : x18_1 < (l0_0.length : Int)
    ·rw [if_pos c16] at H
     have c16b0 : decide (x18_1 < (l0_0.length : Int)) = true := decide_eq_true c16
     clear c16
     by_cases c17 : 0 ≤ x18_1
     rotate_left
     ·rw [if_neg c17] at H
      exact absurd H (by simp)
     rw [if_pos c17] at H
     have c17b0 : decide (0 ≤ x18_1) = true := decide_eq_true c17
     clear c17
     by_cases c18 : x18_1 < (l0_0.length : Int)
     rotate_left
     ·rw [if_neg c18] at H
      exact absurd H (by simp)
     rw [if_pos c18] at H
     have c18b0 : decide (x18_1 < (l0_0.length : Int)) = true := decide_eq_true c18
     clear c18
     by_cases c19 : 0 ≤ (rd l0_0 x18_1)
     rotate_left
     ·rw [if_neg c19] at H
      exact absurd H (by simp)
     rw [if_pos c19] at H
     have c19b0 : decide (0 ≤ (rd l0_0 x18_1)) = true := decide_eq_true c19
     clear c19
     by_cases c20 : (rd l0_0 x18_1) < (x4_1.length : Int)
     rotate_left
     ·rw [if_neg c20] at H
      exact absurd H (by simp)
     rw [if_pos c20] at H
     have c20b0 : decide ((rd l0_0 x18_1) < (x4_1.length : Int)) = true := decide_eq_true c20
     clear c20
     obtain ⟨y445, hy445⟩ : ∃ y_ : List Int, y_ = (x4_1.set ((rd l0_0 x18_1) : Int).toNat (wrap64 ((rd x4_1 (rd l0_0 x18_1)) + 1))) := ⟨_, rfl⟩
     replace H : (impl_CountsOfTree.l0 k1 y445 l0_0 (l0_0.length : Int) (wrap64 (x18_1 + 1))) = some (r1, r2) := by first | (rw [hy445]; with_reducible exact H) | (have H2_ := (Option.bind_some _ _).symm.trans H; rw [hy445]; with_reducible exact H2_) | (have H2_ := (Option.bind_some _ _).symm.trans H; with_reducible exact H2_) | with_reducible exact H | (rw [hy445]; exact H) | exact H
     have Ny445 := A_ hy445
     clear hy445
     have H' := A_ H
     clear H
     have p443 : 0 ≤ (x18_1 : Int) := of_decide_eq_true impl_CountsOfTree.Z0
     have q443 : x18_1 < (l0_0.length : Int) := of_decide_eq_true impl_CountsOfTree.Z0
     obtain ⟨ad443, e443, hx443_0⟩ := Kd.at_int HR0_0.out x18_1 p443 q443
     cases e443
     replace hx443_0 := (HB.out.cell (World.block_lt_of_cell? w _ hx443_0)).trans hx443_0
     replace p443 := eq_true p443
     replace q443 := eq_true q443
     obtain ⟨Ao22, co22, eo22⟩ := Kd.R_slice HO_4.out
     subst eo22
     have p444 : 0 ≤ ((rd l0_0 x18_1) : Int) := of_decide_eq_true impl_CountsOfTree.Z0
     have q444 : (rd l0_0 x18_1) < (x4_1.length : Int) := of_decide_eq_true impl_CountsOfTree.Z0
     obtain ⟨ad444, e444, hx444_0⟩ := Kd.at_int (Kd.R_reads' HO_4.out).2.2 (rd l0_0 x18_1) p444 q444
     cases e444
     replace p444 := eq_true p444
     replace q444 := eq_true q444
     have p21 : 0 ≤ ((rd l0_0 x18_1) : Int) := of_decide_eq_true impl_CountsOfTree.Z0
     have q21 : ((rd l0_0 x18_1) : Int) < ((x4_1.length : Int) : Int) := of_decide_eq_true impl_CountsOfTree.Z0
     obtain ⟨go21, co21, eo21, gb21, gl21, cl21, HG21⟩ := Kd.R_form HO_4.out (by omega)
     (first | cases eo21 | (injection eo21 with ea_ en_ ec_; (first | subst ea_ | (injection ea_ with ea_; subst ea_)); subst ec_; clear en_))
     have GB21 := A_ gb21
     have GG21 := A_ HG21
     clear gb21 gl21 HG21
     (first | simp only [add_plain] at hx444_0 | skip)
     obtain ⟨hx21_0, hf21_0⟩ := Kd.R_celln 0 HO_4.out ((rd l0_0 x18_1) : Int) p21 q21
     replace p21 := eq_true p21
     replace q21 := eq_true q21
     have HP23 := Kd.R_putg HO_4.out ((rd l0_0 x18_1) : Int) (wrap64 ((rd x4_1 (rd l0_0 x18_1)) + 1))
     go_wp2_with (first | ((with_reducible refine gate_store (t := 2) (p := 27) rfl ?_); refine store_event (t := 2) (p := 27) (v := ?vo_w24) (w1 := (wr.setCell ⟨go21, ((rd l0_0 x18_1) : Int).toNat, none⟩ (.int .i64 (wrap64 ((rd x4_1 (rd l0_0 x18_1)) + 1))))) ?hg ?ho ?hn ?hr ?_; (case ho => rfl); (case hg => rfl); (case hn => rfl); (case hr => first | (go_simp; done) | (go_simp; rfl)); intro w24 hw; have hg : wr.grownBy w24 (some go21) := (by rw [hw]; exact HP23.2); have hp_ : Kd.R (Kd.int .i64) 2 w24 w.heap.size (fun _ => True) (.slice (some ⟨go21, 0, none⟩) x4_1.length co22) y445 := (by rw [hw, Ny445.out]; exact HP23.1); clear HP23; have n0_ := A_ (hp_); have n1_ := A_ (blk_grown (g := gb437) (o := .cells #[.slice (some ad443) l0_0.length c0_0] 26 (0, 0)) (eb BK437) hg (Kd.R_ne HO_4.out BK437.out (by decide))); have n2_ := A_ ((by rw [hw]; exact below_set (HB.out) GB21.out : Below w.heap.size w w24)); clear HO_4; clear BK437; clear HB; have HO_4 := n0_; have BK437 := n1_; have HB := n2_; clear n0_ n1_ n2_; clear hg hw hp_))
     go_roundg k1
     case measure => have := HK1.out; omega
     case rel => exact ⟨(y445), (wrap64 (x18_1 + 1)), impl_CountsOfTree.Z1, H', ⟨by have := HK1.out; omega⟩, ⟨es HO_4⟩, ⟨eb BK437⟩, ⟨el HB⟩⟩
    ·rw [if_neg c16] at H
     have c16b0 : decide (x18_1 < (l0_0.length : Int)) = false := decide_eq_false c16
     clear c16
     simp only [Option.some.injEq, Prod.mk.injEq] at H
     obtain ⟨rfl, rfl⟩ := H
     go_wp2
     go_ret2
     exact ⟨_, by first | rfl | (simp [errW_none, errW_some] <;> rfl) | (simp only [← hji5]; first | rfl | (simp [errW_none, errW_some] <;> rfl)) | (simp [*, errW_none, errW_some] <;> rfl), by (with_reducible repeat (first | apply Kd.R_alloc | apply Kd.R_drewN | apply Kd.R_drew)); exact HO_4.out, el HB⟩
 ·replace c3 := Bool.eq_false_iff.mpr c3
  subst c3
  have H1 : (some (([] : List Int), 1)) = some (r1, r2) := by rw [if_neg (show ¬ (false = true) by decide)] at H; exact H
  clear H
  have H := H1
  clear H1
  simp only [Option.some.injEq, Prod.mk.injEq] at H
  obtain ⟨rfl, rfl⟩ := H
  go_enter Try.func78, Try.ntmps78
  go_wp2_with (first | ((with_reducible refine gate_dst (N := 1) rfl ?_); refine box_event ?hg (N := 1) ?hd (cs := #[.slice A0_0 l0_0.length c0_0]) (t := 26) ?hr ?_; (case hd => rfl); (case hg => rfl); (case hr => first | (go_simp; done) | (go_simp; rfl)); intro gb437 hg w25 hbox hb; have n0_ := A_ (below_step (el HB) hb); have n1_ := A_ (hbox); have n2_ := A_ ((by rw [hg]; exact (below_size (el HB)) : w.heap.size ≤ gb437)); have n3_ := A_ ((by rw [hg]; exact (below_size (el HB)) : w.heap.size ≤ gb437)); clear HB; have HB := n0_; have BK437 := n1_; have GW437 := n2_; have GE437 := n3_; clear n0_ n1_ n2_ n3_; clear hb hbox hg; have hcz26_0 : w25.cell? ⟨gb437, 0, none⟩ = some (.slice A0_0 l0_0.length c0_0) := (blk_cell BK437.out 0).trans rfl; have hfz26_0 := blk_frozen BK437.out 0) | ((with_reducible refine gate_callee (f := 24) rfl ?_); refine goesL_ (some 8) rfl rfl Try.func24 (by kernel_rfl) rfl #[.agg #[.slice A0_0 l0_0.length c0_0]] rfl eg ?_; (with_reducible refine (impl_IsTree.calls k _ _ l0_0 false _ ?side1 ?side2 A2.out).mono ?_); (case side1 => repeat (first | exact (Kd.C_below HR0_0.out HB.out) | (with_reducible refine Kd.C_alloc ?_ _) | (with_reducible refine Kd.C_drewN ?_ _) | (with_reducible refine Kd.C_drew ?_))); (case side2 => exact HC0_0.out); rintro e w27 ⟨rfl, hb⟩; refine ⟨_, rfl, ?_⟩; have n0_ := A_ (eB BK437 hb); have n1_ := A_ (below_step (el HB) hb); clear BK437; clear HB; have BK437 := n0_; have HB := n1_; clear n0_ n1_; (try clear hb); (try clear hb2); (try clear hk); (try clear hi)))
  go_ret2
  exact ⟨_, er, by first | exact Kd.R_nil _ _ _ _ _ | exact Kd.N_nil _ _ _ _ _ | exact Kd.V_nil _ _ _ _ _ | exact Kd.Q_nil _ _ _ _ _ | exact Kd.S_nil _ _ _ _ _, el HB⟩

/-! ### spec_l01Is: function 101 -/
def spec_l01Is.l0 : Nat → Int → Int → List Int → Option (Bool)
  | 0, _, _, _ => none
  | k + 1, x3, x4, x447000 => if x4 < (x447000.length : Int) then (if x3 = 0 then (some false) else (if 0 ≤ x4 then ((spec_l01In.f (rd x447000 x4) 0 24).bind fun t450 => (if t450 = true then (spec_l01Is.l0 k (wrap64 ((wrap64 (x3 - 1)) + (rd x447000 x4))) (wrap64 (x4 + 1)) x447000) else (some false))) else (none))) else (some (x3 == 0))
def spec_l01Is.f (k : Nat) (l0_0 : List Int) : Option (Bool) := (spec_l01N.f l0_0).bind fun t447 => ((spec_l01In.f t447 1 24).bind fun t448 => (if t448 = true then (spec_l01Is.l0 k 1 0 l0_0) else (some false)))
theorem spec_l01Is.mono_l : ∀ k, (∀ y0 y1 y2, LeO (spec_l01Is.l0 k y0 y1 y2) (spec_l01Is.l0 (k + 1) y0 y1 y2))
  | 0 => fun _ _ _ r h => by simp [spec_l01Is.l0] at h
  | k + 1 => by
    have ih0 := spec_l01Is.mono_l k
    · intro y0 y1 y2
      unfold spec_l01Is.l0
      repeat' first
      | (with_reducible exact ih0 _ _ _)
      | (with_reducible exact LeO.refl _)
      | (with_reducible exact LeO.none _)
      | (with_reducible refine LeO.ite ?_ ?_)
      | (with_reducible refine LeO.bind ?_ (fun _ => ?_))
      | exact ih0 _ _ _
      | exact LeO.none _
      | refine LeO.ite ?_ ?_
      | refine LeO.bind ?_ (fun _ => ?_)
theorem spec_l01Is.mono : ∀ a0 k, LeO (spec_l01Is.f k a0) (spec_l01Is.f (k + 1) a0) := by
  intro a0 k
  have ih0 := spec_l01Is.mono_l k
  unfold spec_l01Is.f
  repeat' first
      | (with_reducible exact ih0 _ _ _)
      | (with_reducible exact LeO.refl _)
      | (with_reducible exact LeO.none _)
      | (with_reducible refine LeO.ite ?_ ?_)
      | (with_reducible refine LeO.bind ?_ (fun _ => ?_))
      | exact ih0 _ _ _
      | exact LeO.none _
      | refine LeO.ite ?_ ?_
      | refine LeO.bind ?_ (fun _ => ?_)
theorem spec_l01Is.Z0 {p : Prop} (h : p := by first | (with_reducible assumption) | assumption) : p := h
theorem spec_l01Is.Z1 {p : Prop} (h : p := by first | rfl | (simp; done) | (simp [*]; done)) : p := h
set_option maxHeartbeats 8000000 in
set_option maxRecDepth 100000 in
theorem spec_l01Is.calls (k : Nat) (A0_0 : Option Addr) (c0_0 : Nat) (l0_0 : List Int) (r : Bool) (w : World) (hr0_0 : Kd.C (Kd.int .i64) w A0_0 l0_0.length l0_0) (hc0_0 : l0_0.length ≤ c0_0) (h : spec_l01Is.f k l0_0 = some r) :
  Calls Try.prog 101 #[.agg #[.slice A0_0 l0_0.length c0_0]] w fun e w' => e = .returned (.bool r) ∧ Below w.heap.size w w' := by
 have hu26 := Try.underlying26
 have HR0_0 := A_ hr0_0
 have HC0_0 := A_ hc0_0
 clear hr0_0 hc0_0
 have HB := A_ (Below.refl w.heap.size w)
 have H : ((spec_l01N.f l0_0).bind fun t447 => ((spec_l01In.f t447 1 24).bind fun t448 => (if t448 = true then (spec_l01Is.l0 k 1 0 l0_0) else (some false)))) = some r := h
 clear h
 replace H := Option.bind_eq_some_iff.mp H
 obtain ⟨t447, A20, H⟩ := H
 replace H : ((spec_l01In.f t447 1 24).bind fun t448 => (if t448 = true then (spec_l01Is.l0 k 1 0 l0_0) else (some false))) = some r := H
 have A2 := A_ A20
 clear A20
 replace H := Option.bind_eq_some_iff.mp H
 obtain ⟨t448, A30, H⟩ := H
 replace H : (if t448 = true then (spec_l01Is.l0 k 1 0 l0_0) else (some false)) = some r := H
 have A3 := A_ A30
 clear A30
 by_cases c4 : t448 = true
 ·subst c4
  have H1 : (spec_l01Is.l0 k 1 0 l0_0) = some r := by rw [if_pos rfl] at H; exact H
  clear H
  have H := H1
  clear H1
  have H' := A_ H
  clear H
  go_enter Try.func101, Try.ntmps101
  go_wp2_with (first | ((with_reducible refine gate_dst (N := 1) rfl ?_); refine box_event ?hg (N := 1) ?hd (cs := #[.slice A0_0 l0_0.length c0_0]) (t := 26) ?hr ?_; (case hd => rfl); (case hg => rfl); (case hr => first | (go_simp; done) | (go_simp; rfl)); intro gb446 hg w5 hbox hb; have n0_ := A_ (below_step (el HB) hb); have n1_ := A_ (hbox); have n2_ := A_ ((by rw [hg]; exact (below_size (el HB)) : w.heap.size ≤ gb446)); have n3_ := A_ ((by rw [hg]; exact (below_size (el HB)) : w.heap.size ≤ gb446)); clear HB; have HB := n0_; have BK446 := n1_; have GW446 := n2_; have GE446 := n3_; clear n0_ n1_ n2_ n3_; clear hb hbox hg; have hcz6_0 : w5.cell? ⟨gb446, 0, none⟩ = some (.slice A0_0 l0_0.length c0_0) := (blk_cell BK446.out 0).trans rfl; have hfz6_0 := blk_frozen BK446.out 0) | ((with_reducible refine gate_callee (f := 102) rfl ?_); refine goesL_ (some 6) rfl rfl Try.func102 (by kernel_rfl) rfl #[.agg #[.slice A0_0 l0_0.length c0_0]] rfl eg ?_; (with_reducible refine (spec_l01N.calls _ _ l0_0 t447 _ ?side1 ?side2 A2.out).mono ?_); (case side1 => repeat (first | exact (Kd.C_below HR0_0.out HB.out) | (with_reducible refine Kd.C_alloc ?_ _) | (with_reducible refine Kd.C_drewN ?_ _) | (with_reducible refine Kd.C_drew ?_))); (case side2 => exact HC0_0.out); rintro e w7 ⟨rfl, hb⟩; refine ⟨_, rfl, ?_⟩; have n0_ := A_ (eB BK446 hb); have n1_ := A_ (below_step (el HB) hb); clear BK446; clear HB; have BK446 := n0_; have HB := n1_; clear n0_ n1_; (try clear hb); (try clear hb2); (try clear hk); (try clear hi)) | ((with_reducible refine gate_callee (f := 162) rfl ?_); refine goesL_ (some 7) rfl rfl Try.func162 (by kernel_rfl) rfl #[.int .i64 t447, .int .i64 1, .int .i64 24] rfl eg ?_; (with_reducible refine (spec_l01In.calls t447 1 24 true _ A3.out).mono ?_); rintro e w' ⟨rfl, ⟨nd, rfl⟩⟩; refine ⟨_, rfl, ?_⟩))
  go_loopg [3, 4] k (fun kq v3 v4 w' => ∃ (x3_1 : Int) (x4_1 : Int), v3 = .int .i64 x3_1 ∧ v4 = .int .i64 x4_1 ∧ Aside0 (spec_l01Is.l0 kq x3_1 x4_1 l0_0 = some r) ∧ Aside0 (kq ≤ k) ∧ Aside0 (w'.heap[gb446]? = some (.cells #[(.slice A0_0 l0_0.length c0_0)] 26 (0, 0))) ∧ Aside0 (Below w.heap.size w w'))
  case atStart => exact ⟨(1), (0), spec_l01Is.Z1, spec_l01Is.Z1, H', ⟨Nat.le_refl _⟩, ⟨eb BK446⟩, ⟨el HB⟩⟩
  case round =>
   clear H'
   try clear c1
   try clear p2
   try clear c4
   try clear hcz6_0
   try clear hfz6_0
   obtain ⟨x3_1, x4_1, rfl, rfl, HA, HK1, BK446, HB⟩ := hrel
   cases gk with
   | zero => exact absurd HA.out (by simp [spec_l01Is.l0])
   | succ k1 =>
    have H := HA.out
    clear HA
    simp only [spec_l01Is.l0] at H
    by_cases c8 : x4_1 < (l0_0.length : Int)
    ·rw [if_pos c8] at H
     have c8b0 : decide (x4_1 < (l0_0.length : Int)) = true := decide_eq_true c8
     clear c8
     by_cases c9 : x3_1 = 0
     ·rw [if_pos c9] at H
      have c9b0 : (x3_1 == 0) = true := beq_iff_eq.mpr c9
      have c9b1 : (x3_1 != 0) = false := bne_eq_false_iff_eq.mpr c9
      clear c9
      obtain rfl := Option.some.inj H
      have hcz10_0 : wr.cell? ⟨gb446, 0, none⟩ = some (.slice A0_0 l0_0.length c0_0) := (blk_cell BK446.out 0).trans rfl
      have hfz10_0 := blk_frozen BK446.out 0
      go_wp2
      go_ret
      exact ⟨er, el HB⟩
     ·rw [if_neg c9] at H
      have c9b0 : (x3_1 == 0) = false := beq_eq_false_iff_ne.mpr c9
      have c9b1 : (x3_1 != 0) = true := bne_iff_ne.mpr c9
      by_cases c11 : 0 ≤ x4_1
      rotate_left
      ·rw [if_neg c11] at H
       exact absurd H (by simp)
      rw [if_pos c11] at H
      have c11b0 : decide (0 ≤ x4_1) = true := decide_eq_true c11
      clear c11
      replace H := Option.bind_eq_some_iff.mp H
      obtain ⟨t450, A120, H⟩ := H
      replace H : (if t450 = true then (spec_l01Is.l0 k1 (wrap64 ((wrap64 (x3_1 - 1)) + (rd l0_0 x4_1))) (wrap64 (x4_1 + 1)) l0_0) else (some false)) = some r := H
      have A12 := A_ A120
      clear A120
      by_cases c13 : t450 = true
      ·subst c13
       have H1 : (spec_l01Is.l0 k1 (wrap64 ((wrap64 (x3_1 - 1)) + (rd l0_0 x4_1))) (wrap64 (x4_1 + 1)) l0_0) = some r := by rw [if_pos rfl] at H; exact H
       clear H
       have H := H1
       clear H1
       have H' := A_ H
       clear H
       have hcz14_0 : wr.cell? ⟨gb446, 0, none⟩ = some (.slice A0_0 l0_0.length c0_0) := (blk_cell BK446.out 0).trans rfl
       have hfz14_0 := blk_frozen BK446.out 0
       have p449 : 0 ≤ (x4_1 : Int) := of_decide_eq_true spec_l01Is.Z0
       have q449 : x4_1 < (l0_0.length : Int) := of_decide_eq_true spec_l01Is.Z0
       obtain ⟨ad449, e449, hx449_0⟩ := Kd.at_int HR0_0.out x4_1 p449 q449
       cases e449
       replace hx449_0 := (HB.out.cell (World.block_lt_of_cell? w _ hx449_0)).trans hx449_0
       replace p449 := eq_true p449
       replace q449 := eq_true q449
       go_wp2_with (first | (go_at_call 162; (with_reducible refine (spec_l01In.calls (rd l0_0 x4_1) 0 24 true _ A12.out).mono ?_); rintro e w' ⟨rfl, ⟨nd, rfl⟩⟩; have p451 : 0 ≤ (x4_1 : Int) := of_decide_eq_true spec_l01Is.Z0; have q451 : x4_1 < (l0_0.length : Int) := of_decide_eq_true spec_l01Is.Z0; obtain ⟨ad451, e451, hx451_0⟩ := Kd.at_int HR0_0.out x4_1 p451 q451; obtain rfl : ad449 = ad451 := (by injection e451); replace hx451_0 := (HB.out.cell (World.block_lt_of_cell? w _ hx451_0)).trans hx451_0; replace p451 := eq_true p451; replace q451 := eq_true q451))
       go_roundg k1
       case measure => have := HK1.out; omega
       case rel => exact ⟨(wrap64 ((wrap64 (x3_1 - 1)) + (rd l0_0 x4_1))), (wrap64 (x4_1 + 1)), spec_l01Is.Z1, spec_l01Is.Z1, H', ⟨by have := HK1.out; omega⟩, ⟨eb BK446⟩, ⟨el HB⟩⟩
      ·replace c13 := Bool.eq_false_iff.mpr c13
       subst c13
       have H1 : (some false) = some r := by rw [if_neg (show ¬ (false = true) by decide)] at H; exact H
       clear H
       have H := H1
       clear H1
       obtain rfl := Option.some.inj H
       have hcz15_0 : wr.cell? ⟨gb446, 0, none⟩ = some (.slice A0_0 l0_0.length c0_0) := (blk_cell BK446.out 0).trans rfl
       have hfz15_0 := blk_frozen BK446.out 0
       have p449 : 0 ≤ (x4_1 : Int) := of_decide_eq_true spec_l01Is.Z0
       have q449 : x4_1 < (l0_0.length : Int) := of_decide_eq_true spec_l01Is.Z0
       obtain ⟨ad449, e449, hx449_0⟩ := Kd.at_int HR0_0.out x4_1 p449 q449
       cases e449
       replace hx449_0 := (HB.out.cell (World.block_lt_of_cell? w _ hx449_0)).trans hx449_0
       replace p449 := eq_true p449
       replace q449 := eq_true q449
       go_wp2_with (first | (go_at_call 162; (with_reducible refine (spec_l01In.calls (rd l0_0 x4_1) 0 24 false _ A12.out).mono ?_); rintro e w' ⟨rfl, ⟨nd, rfl⟩⟩))
       go_ret
       exact ⟨er, el HB⟩
    ·rw [if_neg c8] at H
     have c8b0 : decide (x4_1 < (l0_0.length : Int)) = false := decide_eq_false c8
     clear c8
     obtain rfl := Option.some.inj H
     have hcz16_0 : wr.cell? ⟨gb446, 0, none⟩ = some (.slice A0_0 l0_0.length c0_0) := (blk_cell BK446.out 0).trans rfl
     have hfz16_0 := blk_frozen BK446.out 0
     go_wp2
     go_ret
     exact ⟨er, el HB⟩
 ·replace c4 := Bool.eq_false_iff.mpr c4
  subst c4
  have H1 : (some false) = some r := by rw [if_neg (show ¬ (false = true) by decide)] at H; exact H
  clear H
  have H := H1
  clear H1
  obtain rfl := Option.some.inj H
  go_enter Try.func101, Try.ntmps101
  go_wp2_with (first | ((with_reducible refine gate_dst (N := 1) rfl ?_); refine box_event ?hg (N := 1) ?hd (cs := #[.slice A0_0 l0_0.length c0_0]) (t := 26) ?hr ?_; (case hd => rfl); (case hg => rfl); (case hr => first | (go_simp; done) | (go_simp; rfl)); intro gb446 hg w17 hbox hb; have n0_ := A_ (below_step (el HB) hb); have n1_ := A_ (hbox); have n2_ := A_ ((by rw [hg]; exact (below_size (el HB)) : w.heap.size ≤ gb446)); have n3_ := A_ ((by rw [hg]; exact (below_size (el HB)) : w.heap.size ≤ gb446)); clear HB; have HB := n0_; have BK446 := n1_; have GW446 := n2_; have GE446 := n3_; clear n0_ n1_ n2_ n3_; clear hb hbox hg; have hcz18_0 : w17.cell? ⟨gb446, 0, none⟩ = some (.slice A0_0 l0_0.length c0_0) := (blk_cell BK446.out 0).trans rfl; have hfz18_0 := blk_frozen BK446.out 0) | ((with_reducible refine gate_callee (f := 102) rfl ?_); refine goesL_ (some 6) rfl rfl Try.func102 (by kernel_rfl) rfl #[.agg #[.slice A0_0 l0_0.length c0_0]] rfl eg ?_; (with_reducible refine (spec_l01N.calls _ _ l0_0 t447 _ ?side1 ?side2 A2.out).mono ?_); (case side1 => repeat (first | exact (Kd.C_below HR0_0.out HB.out) | (with_reducible refine Kd.C_alloc ?_ _) | (with_reducible refine Kd.C_drewN ?_ _) | (with_reducible refine Kd.C_drew ?_))); (case side2 => exact HC0_0.out); rintro e w19 ⟨rfl, hb⟩; refine ⟨_, rfl, ?_⟩; have n0_ := A_ (eB BK446 hb); have n1_ := A_ (below_step (el HB) hb); clear BK446; clear HB; have BK446 := n0_; have HB := n1_; clear n0_ n1_; (try clear hb); (try clear hb2); (try clear hk); (try clear hi)) | ((with_reducible refine gate_callee (f := 162) rfl ?_); refine goesL_ (some 7) rfl rfl Try.func162 (by kernel_rfl) rfl #[.int .i64 t447, .int .i64 1, .int .i64 24] rfl eg ?_; (with_reducible refine (spec_l01In.calls t447 1 24 false _ A3.out).mono ?_); rintro e w' ⟨rfl, ⟨nd, rfl⟩⟩; refine ⟨_, rfl, ?_⟩))
  go_ret
  exact ⟨er, el HB⟩

end Go.Proofs.Ytocachknmgefaaa.QFnTreeCounts
