/- Functions of the program as plain Lean functions, each with a proof that the machine's call answers what it answers. Conditions: none. -/
import Derived.Test.YtocachknmgefaaaQFnTreesx0
import Derived.Test.YtocachknmgefaaaQFnTreesx2
import Derived.Test.YtocachknmgefaaaQFnTreesx4
namespace Go.Proofs.Ytocachknmgefaaa.QFnTrees
open Go.RowKit Go.Proofs.YtocachknmgefaaaW.PrintWords Go.Proofs.YtocachknmgefaaaW.PrintLast Go.Proofs.YtocachknmgefaaaW.PrintMore
attribute [local go_sem] max2_int min2_int max_two min_two max_three min_three max_four min_four   -- for this text's walks alone
set_option linter.unusedVariables false
set_option maxHeartbeats 8000000
set_option maxRecDepth 100000
set_option linter.unusedSimpArgs false

/-! ### spec_l01Is: function 101 -/
def spec_l01Is.l0 : Nat → Int → Int → List Int → Option (Bool)
  | 0, _, _, _ => none
  | k + 1, x3, x4, x250000 => if x4 < (x250000.length : Int) then (if x3 = 0 then (some false) else (if 0 ≤ x4 then ((spec_l01In.f (rd x250000 x4) 0 24).bind fun t253 => (if t253 = true then (spec_l01Is.l0 k (wrap64 ((wrap64 (x3 - 1)) + (rd x250000 x4))) (wrap64 (x4 + 1)) x250000) else (some false))) else (none))) else (some (x3 == 0))
def spec_l01Is.f (k : Nat) (l0_0 : List Int) : Option (Bool) := (spec_l01N.f l0_0).bind fun t250 => ((spec_l01In.f t250 1 24).bind fun t251 => (if t251 = true then (spec_l01Is.l0 k 1 0 l0_0) else (some false)))
theorem spec_l01Is.mono_l : ∀ k, (∀ y0 y1 y2, LeO (spec_l01Is.l0 k y0 y1 y2) (spec_l01Is.l0 (k + 1) y0 y1 y2))
  | 0 => fun _ _ _ r h => by simp [spec_l01Is.l0] at h
  | k + 1 => by
    have ih0 := spec_l01Is.mono_l k
    · intro y0 y1 y2
      unfold spec_l01Is.l0
      repeat' first | (with_reducible first | exact ih0 _ _ _ | exact LeO.refl _ | exact LeO.none _ | refine LeO.ite ?_ ?_ | refine LeO.bind ?_ (fun _ => ?_)) | exact ih0 _ _ _ | exact LeO.none _ | refine LeO.ite ?_ ?_ | refine LeO.bind ?_ (fun _ => ?_)
theorem spec_l01Is.mono : ∀ a0 k, LeO (spec_l01Is.f k a0) (spec_l01Is.f (k + 1) a0) := by
  intro a0 k
  have ih0 := spec_l01Is.mono_l k
  unfold spec_l01Is.f
  repeat' first | (with_reducible first | exact ih0 _ _ _ | exact LeO.refl _ | exact LeO.none _ | refine LeO.ite ?_ ?_ | refine LeO.bind ?_ (fun _ => ?_)) | exact ih0 _ _ _ | exact LeO.none _ | refine LeO.ite ?_ ?_ | refine LeO.bind ?_ (fun _ => ?_)
theorem spec_l01Is.Z0 {p : Prop} (h : p := by first | (with_reducible assumption) | assumption) : p := h
theorem spec_l01Is.Z1 {p : Prop} (h : p := by first | rfl | (simp; done) | (simp [*]; done)) : p := h
theorem spec_l01Is.calls (k : Nat) (A0_0 : Option Addr) (c0_0 : Nat) (l0_0 : List Int) (r : Bool) (w : World) (hr0_0 : Kd.C (Kd.int .i64) w A0_0 l0_0.length l0_0) (hc0_0 : l0_0.length ≤ c0_0) (h : spec_l01Is.f k l0_0 = some r) :
  Calls Try.prog 101 #[.agg #[.slice A0_0 l0_0.length c0_0]] w fun e w' => e = .returned (.bool r) ∧ Below w.heap.size w w' := by
 have hu26 := Try.underlying26
 have HR0_0 := A_ hr0_0
 have HC0_0 := A_ hc0_0
 clear hr0_0 hc0_0
 have HB := A_ (Below.refl w.heap.size w)
 have H : ((spec_l01N.f l0_0).bind fun t250 => ((spec_l01In.f t250 1 24).bind fun t251 => (if t251 = true then (spec_l01Is.l0 k 1 0 l0_0) else (some false)))) = some r := h
 clear h
 replace H := Option.bind_eq_some_iff.mp H
 obtain ⟨t250, A20, H⟩ := H
 replace H : ((spec_l01In.f t250 1 24).bind fun t251 => (if t251 = true then (spec_l01Is.l0 k 1 0 l0_0) else (some false))) = some r := H
 have A2 := A_ A20
 clear A20
 replace H := Option.bind_eq_some_iff.mp H
 obtain ⟨t251, A30, H⟩ := H
 replace H : (if t251 = true then (spec_l01Is.l0 k 1 0 l0_0) else (some false)) = some r := H
 have A3 := A_ A30
 clear A30
 by_cases c4 : t251 = true
 ·subst c4
  have H1 : (spec_l01Is.l0 k 1 0 l0_0) = some r := by rw [if_pos rfl] at H; exact H
  clear H
  have H := H1
  clear H1
  have H' := A_ H
  clear H
  go_enter Try.func101, Try.ntmps101
  go_wp2_with (first | ((with_reducible refine gate_dst (N := 1) rfl ?_); refine bx 1 #[.slice A0_0 l0_0.length c0_0] 26 ?_; intro gb249 hg w5 hbox hb; have BK249 := A_ hbox; have GW249 := A_ (eG hg (below_size (el HB)) : w.heap.size ≤ gb249); have GE249 := A_ (eG hg (below_size (el HB)) : w.heap.size ≤ gb249); replace HB := A_ (below_step (el HB) hb); clear hb hbox hg; have hcz6_0 : w5.cell? ⟨gb249, 0, none⟩ = some (.slice A0_0 l0_0.length c0_0) := (blk_cell BK249.out 0).trans rfl; have hfz6_0 := blk_frozen BK249.out 0) | ((with_reducible refine gate_callee (f := 102) rfl ?_); refine goesL_ (some 6) rfl rfl Try.func102 (by kernel_rfl) rfl #[.agg #[.slice A0_0 l0_0.length c0_0]] rfl eg ?_; (with_reducible refine (spec_l01N.calls _ _ l0_0 t250 _ ?side1 ?side2 A2.out).mono ?_); (case side1 => exact cS (Kd.C_below HR0_0.out HB.out)); (case side2 => exact HC0_0.out); rintro e w7 ⟨rfl, hb⟩; refine ⟨_, rfl, ?_⟩; replace BK249 := A_ (eB BK249 hb); replace HB := A_ (below_step (el HB) hb); (try clear hb); (try clear hb2); (try clear hk); (try clear hi)) | ((with_reducible refine gate_callee (f := 162) rfl ?_); refine goesL_ (some 7) rfl rfl Try.func162 (by kernel_rfl) rfl #[.int .i64 t250, .int .i64 1, .int .i64 24] rfl eg ?_; (with_reducible refine (spec_l01In.calls t250 1 24 true _ A3.out).mono ?_); rintro e w' ⟨rfl, ⟨nd, rfl⟩⟩; refine ⟨_, rfl, ?_⟩))
  go_loopg [3, 4] k (fun kq v3 v4 w' => ∃ (x3_1 : Int) (x4_1 : Int), v3 = .int .i64 x3_1 ∧ v4 = .int .i64 x4_1 ∧ Aside0 (spec_l01Is.l0 kq x3_1 x4_1 l0_0 = some r) ∧ Aside0 (kq ≤ k) ∧ Aside0 (w'.heap[gb249]? = some (.cells #[(.slice A0_0 l0_0.length c0_0)] 26 (0, 0))) ∧ Aside0 (Below w.heap.size w w'))
  case atStart => exact ⟨(1), (0), spec_l01Is.Z1, spec_l01Is.Z1, H', ⟨Nat.le_refl _⟩, ⟨eb BK249⟩, ⟨el HB⟩⟩
  case round =>
   clear H'
   try clear c1
   try clear p2
   try clear c4
   try clear hcz6_0
   try clear hfz6_0
   obtain ⟨x3_1, x4_1, rfl, rfl, HA, HK1, BK249, HB⟩ := hrel
   cases gk with
   | zero => exact absurd HA.out (by simp [spec_l01Is.l0])
   | succ k1 =>
    have H := HA.out
    clear HA
    simp only [spec_l01Is.l0] at H
    by_cases c8 : x4_1 < (l0_0.length : Int)
    ·rw [if_pos c8] at H
     have c8b0 := decide_eq_true c8
     clear c8
     by_cases c9 : x3_1 = 0
     ·rw [if_pos c9] at H
      have c9b0 : (x3_1 == 0) = true := beq_iff_eq.mpr c9
      have c9b1 : (x3_1 != 0) = false := bne_eq_false_iff_eq.mpr c9
      clear c9
      obtain rfl := Option.some.inj H
      have hcz10_0 : wr.cell? ⟨gb249, 0, none⟩ = some (.slice A0_0 l0_0.length c0_0) := (blk_cell BK249.out 0).trans rfl
      have hfz10_0 := blk_frozen BK249.out 0
      go_wp2
      go_ret
      exact ⟨er, el HB⟩
     ·rw [if_neg c9] at H
      have c9b0 : (x3_1 == 0) = false := beq_eq_false_iff_ne.mpr c9
      have c9b1 : (x3_1 != 0) = true := bne_iff_ne.mpr c9
      by_cases c11 : 0 ≤ x4_1
      rotate_left
      ·rw [if_neg c11] at H
       exact absurd H (by simp)
      rw [if_pos c11] at H
      have c11b0 := decide_eq_true c11
      clear c11
      replace H := Option.bind_eq_some_iff.mp H
      obtain ⟨t253, A120, H⟩ := H
      replace H : (if t253 = true then (spec_l01Is.l0 k1 (wrap64 ((wrap64 (x3_1 - 1)) + (rd l0_0 x4_1))) (wrap64 (x4_1 + 1)) l0_0) else (some false)) = some r := H
      have A12 := A_ A120
      clear A120
      by_cases c13 : t253 = true
      ·subst c13
       have H1 : (spec_l01Is.l0 k1 (wrap64 ((wrap64 (x3_1 - 1)) + (rd l0_0 x4_1))) (wrap64 (x4_1 + 1)) l0_0) = some r := by rw [if_pos rfl] at H; exact H
       clear H
       have H := H1
       clear H1
       have H' := A_ H
       clear H
       have hcz14_0 : wr.cell? ⟨gb249, 0, none⟩ = some (.slice A0_0 l0_0.length c0_0) := (blk_cell BK249.out 0).trans rfl
       have hfz14_0 := blk_frozen BK249.out 0
       have p252 : 0 ≤ (x4_1 : Int) := of_decide_eq_true spec_l01Is.Z0
       have q252 : x4_1 < (l0_0.length : Int) := of_decide_eq_true spec_l01Is.Z0
       obtain ⟨ad252, e252, hx252_0⟩ := Kd.at_int HR0_0.out x4_1 p252 q252
       cases e252
       replace hx252_0 := (HB.out.cell (World.block_lt_of_cell? w _ hx252_0)).trans hx252_0
       replace p252 := eq_true p252
       replace q252 := eq_true q252
       go_wp2_with (first | (go_at_call 162; (with_reducible refine (spec_l01In.calls (rd l0_0 x4_1) 0 24 true _ A12.out).mono ?_); rintro e w' ⟨rfl, ⟨nd, rfl⟩⟩; have p254 : 0 ≤ (x4_1 : Int) := of_decide_eq_true spec_l01Is.Z0; have q254 : x4_1 < (l0_0.length : Int) := of_decide_eq_true spec_l01Is.Z0; obtain ⟨ad254, e254, hx254_0⟩ := Kd.at_int HR0_0.out x4_1 p254 q254; obtain rfl : ad252 = ad254 := (by injection e254); replace hx254_0 := (HB.out.cell (World.block_lt_of_cell? w _ hx254_0)).trans hx254_0; replace p254 := eq_true p254; replace q254 := eq_true q254))
       go_roundg k1
       case measure => have := HK1.out; omega
       case rel => exact ⟨(wrap64 ((wrap64 (x3_1 - 1)) + (rd l0_0 x4_1))), (wrap64 (x4_1 + 1)), spec_l01Is.Z1, spec_l01Is.Z1, H', ⟨by have := HK1.out; omega⟩, ⟨eb BK249⟩, ⟨el HB⟩⟩
      ·replace c13 := Bool.eq_false_iff.mpr c13
       subst c13
       have H1 : (some false) = some r := by rw [if_neg (show ¬ (false = true) by decide)] at H; exact H
       clear H
       have H := H1
       clear H1
       obtain rfl := Option.some.inj H
       have hcz15_0 : wr.cell? ⟨gb249, 0, none⟩ = some (.slice A0_0 l0_0.length c0_0) := (blk_cell BK249.out 0).trans rfl
       have hfz15_0 := blk_frozen BK249.out 0
       have p252 : 0 ≤ (x4_1 : Int) := of_decide_eq_true spec_l01Is.Z0
       have q252 : x4_1 < (l0_0.length : Int) := of_decide_eq_true spec_l01Is.Z0
       obtain ⟨ad252, e252, hx252_0⟩ := Kd.at_int HR0_0.out x4_1 p252 q252
       cases e252
       replace hx252_0 := (HB.out.cell (World.block_lt_of_cell? w _ hx252_0)).trans hx252_0
       replace p252 := eq_true p252
       replace q252 := eq_true q252
       go_wp2_with (first | (go_at_call 162; (with_reducible refine (spec_l01In.calls (rd l0_0 x4_1) 0 24 false _ A12.out).mono ?_); rintro e w' ⟨rfl, ⟨nd, rfl⟩⟩))
       go_ret
       exact ⟨er, el HB⟩
    ·rw [if_neg c8] at H
     have c8b0 := decide_eq_false c8
     clear c8
     obtain rfl := Option.some.inj H
     have hcz16_0 : wr.cell? ⟨gb249, 0, none⟩ = some (.slice A0_0 l0_0.length c0_0) := (blk_cell BK249.out 0).trans rfl
     have hfz16_0 := blk_frozen BK249.out 0
     go_wp2
     go_ret
     exact ⟨er, el HB⟩
 ·replace c4 := Bool.eq_false_iff.mpr c4
  subst c4
  have H1 : (some false) = some r := by rw [if_neg (show ¬ (false = true) by decide)] at H; exact H
  clear H
  have H := H1
  clear H1
  obtain rfl := Option.some.inj H
  go_enter Try.func101, Try.ntmps101
  go_wp2_with (first | ((with_reducible refine gate_dst (N := 1) rfl ?_); refine bx 1 #[.slice A0_0 l0_0.length c0_0] 26 ?_; intro gb249 hg w17 hbox hb; have BK249 := A_ hbox; have GW249 := A_ (eG hg (below_size (el HB)) : w.heap.size ≤ gb249); have GE249 := A_ (eG hg (below_size (el HB)) : w.heap.size ≤ gb249); replace HB := A_ (below_step (el HB) hb); clear hb hbox hg; have hcz18_0 : w17.cell? ⟨gb249, 0, none⟩ = some (.slice A0_0 l0_0.length c0_0) := (blk_cell BK249.out 0).trans rfl; have hfz18_0 := blk_frozen BK249.out 0) | ((with_reducible refine gate_callee (f := 102) rfl ?_); refine goesL_ (some 6) rfl rfl Try.func102 (by kernel_rfl) rfl #[.agg #[.slice A0_0 l0_0.length c0_0]] rfl eg ?_; (with_reducible refine (spec_l01N.calls _ _ l0_0 t250 _ ?side1 ?side2 A2.out).mono ?_); (case side1 => exact cS (Kd.C_below HR0_0.out HB.out)); (case side2 => exact HC0_0.out); rintro e w19 ⟨rfl, hb⟩; refine ⟨_, rfl, ?_⟩; replace BK249 := A_ (eB BK249 hb); replace HB := A_ (below_step (el HB) hb); (try clear hb); (try clear hb2); (try clear hk); (try clear hi)) | ((with_reducible refine gate_callee (f := 162) rfl ?_); refine goesL_ (some 7) rfl rfl Try.func162 (by kernel_rfl) rfl #[.int .i64 t250, .int .i64 1, .int .i64 24] rfl eg ?_; (with_reducible refine (spec_l01In.calls t250 1 24 false _ A3.out).mono ?_); rintro e w' ⟨rfl, ⟨nd, rfl⟩⟩; refine ⟨_, rfl, ?_⟩))
  go_ret
  exact ⟨er, el HB⟩

/-! ### spec_l01End: function 103 -/
def spec_l01End.l0 : Nat → Int → Int → List Int → Option (Int)
  | 0, _, _, _ => none
  | k + 1, x1, x5, x256000 => if x5 > 0 then (if 0 ≤ x1 then (if x1 < (x256000.length : Int) then (spec_l01End.l0 k (wrap64 (x1 + 1)) (wrap64 ((wrap64 (x5 - 1)) + (rd x256000 x1))) x256000) else (none)) else (none)) else (some x1)
def spec_l01End.f (k : Nat) (l0_0 : List Int) (a1 : Int) : Option (Int) := spec_l01End.l0 k a1 1 l0_0
theorem spec_l01End.mono_l : ∀ k, (∀ y0 y1 y2, LeO (spec_l01End.l0 k y0 y1 y2) (spec_l01End.l0 (k + 1) y0 y1 y2))
  | 0 => fun _ _ _ r h => by simp [spec_l01End.l0] at h
  | k + 1 => by
    have ih0 := spec_l01End.mono_l k
    · intro y0 y1 y2
      unfold spec_l01End.l0
      repeat' first | (with_reducible first | exact ih0 _ _ _ | exact LeO.refl _ | exact LeO.none _ | refine LeO.ite ?_ ?_ | refine LeO.bind ?_ (fun _ => ?_)) | exact ih0 _ _ _ | exact LeO.none _ | refine LeO.ite ?_ ?_ | refine LeO.bind ?_ (fun _ => ?_)
theorem spec_l01End.mono : ∀ a0 a1 k, LeO (spec_l01End.f k a0 a1) (spec_l01End.f (k + 1) a0 a1) := by
  intro a0 a1 k
  have ih0 := spec_l01End.mono_l k
  unfold spec_l01End.f
  repeat' first | (with_reducible first | exact ih0 _ _ _ | exact LeO.refl _ | exact LeO.none _ | refine LeO.ite ?_ ?_ | refine LeO.bind ?_ (fun _ => ?_)) | exact ih0 _ _ _ | exact LeO.none _ | refine LeO.ite ?_ ?_ | refine LeO.bind ?_ (fun _ => ?_)
theorem spec_l01End.Z0 {p : Prop} (h : p := by first | (with_reducible assumption) | assumption) : p := h
theorem spec_l01End.Z1 {p : Prop} (h : p := by first | rfl | (simp; done) | (simp [*]; done)) : p := h
theorem spec_l01End.calls (k : Nat) (A0_0 : Option Addr) (c0_0 : Nat) (l0_0 : List Int) (a1 : Int) (r : Int) (w : World) (hr0_0 : Kd.C (Kd.int .i64) w A0_0 l0_0.length l0_0) (hc0_0 : l0_0.length ≤ c0_0) (h : spec_l01End.f k l0_0 a1 = some r) :
  Calls Try.prog 103 #[.agg #[.slice A0_0 l0_0.length c0_0], .int .i64 a1] w fun e w' => e = .returned (.int .i64 r) ∧ Below w.heap.size w w' := by
 have hu26 := Try.underlying26
 have HR0_0 := A_ hr0_0
 have HC0_0 := A_ hc0_0
 clear hr0_0 hc0_0
 have HB := A_ (Below.refl w.heap.size w)
 have H : (spec_l01End.l0 k a1 1 l0_0) = some r := h
 clear h
 have H' := A_ H
 clear H
 go_enter Try.func103, Try.ntmps103
 go_wp2_with (first | ((with_reducible refine gate_dst (N := 2) rfl ?_); refine bx 2 #[.slice A0_0 l0_0.length c0_0] 26 ?_; intro gb255 hg w3 hbox hb; have BK255 := A_ hbox; have GW255 := A_ (eG hg (below_size (el HB)) : w.heap.size ≤ gb255); have GE255 := A_ (eG hg (below_size (el HB)) : w.heap.size ≤ gb255); replace HB := A_ (below_step (el HB) hb); clear hb hbox hg))
 go_loopg [1, 5] k (fun kq v1 v5 w' => ∃ (x1_1 : Int) (x5_1 : Int), v1 = .int .i64 x1_1 ∧ v5 = .int .i64 x5_1 ∧ Aside0 (spec_l01End.l0 kq x1_1 x5_1 l0_0 = some r) ∧ Aside0 (kq ≤ k) ∧ Aside0 (w'.heap[gb255]? = some (.cells #[(.slice A0_0 l0_0.length c0_0)] 26 (0, 0))) ∧ Aside0 (Below w.heap.size w w'))
 case atStart => exact ⟨(a1), (1), spec_l01End.Z1, spec_l01End.Z1, H', ⟨Nat.le_refl _⟩, ⟨eb BK255⟩, ⟨el HB⟩⟩
 case round =>
  clear H'
  try clear c1
  try clear p2
  obtain ⟨x1_1, x5_1, rfl, rfl, HA, HK1, BK255, HB⟩ := hrel
  cases gk with
  | zero => exact absurd HA.out (by simp [spec_l01End.l0])
  | succ k1 =>
   have H := HA.out
   clear HA
   simp only [spec_l01End.l0] at H
   by_cases c4 : x5_1 > 0
   ·rw [if_pos c4] at H
    have c4b0 := decide_eq_true c4
    clear c4
    by_cases c5 : 0 ≤ x1_1
    rotate_left
    ·rw [if_neg c5] at H
     exact absurd H (by simp)
    rw [if_pos c5] at H
    have c5b0 := decide_eq_true c5
    clear c5
    by_cases c6 : x1_1 < (l0_0.length : Int)
    rotate_left
    ·rw [if_neg c6] at H
     exact absurd H (by simp)
    rw [if_pos c6] at H
    have c6b0 := decide_eq_true c6
    clear c6
    have H' := A_ H
    clear H
    have hcz7_0 : wr.cell? ⟨gb255, 0, none⟩ = some (.slice A0_0 l0_0.length c0_0) := (blk_cell BK255.out 0).trans rfl
    have hfz7_0 := blk_frozen BK255.out 0
    have p256 : 0 ≤ (x1_1 : Int) := of_decide_eq_true spec_l01End.Z0
    have q256 : x1_1 < (l0_0.length : Int) := of_decide_eq_true spec_l01End.Z0
    obtain ⟨ad256, e256, hx256_0⟩ := Kd.at_int HR0_0.out x1_1 p256 q256
    cases e256
    replace hx256_0 := (HB.out.cell (World.block_lt_of_cell? w _ hx256_0)).trans hx256_0
    replace p256 := eq_true p256
    replace q256 := eq_true q256
    go_wp2
    go_roundg k1
    case measure => have := HK1.out; omega
    case rel => exact ⟨(wrap64 (x1_1 + 1)), (wrap64 ((wrap64 (x5_1 - 1)) + (rd l0_0 x1_1))), spec_l01End.Z1, spec_l01End.Z1, H', ⟨by have := HK1.out; omega⟩, ⟨eb BK255⟩, ⟨el HB⟩⟩
   ·rw [if_neg c4] at H
    have c4b0 := decide_eq_false c4
    clear c4
    obtain rfl := Option.some.inj H
    go_wp2
    go_ret
    exact ⟨er, el HB⟩

/-! ### spec_SizesOf: function 10 -/
def spec_SizesOf.l0 : Nat → List Int → Int → List Int → Option (List Int × Int)
  | 0, _, _, _ => none
  | k + 1, x4, x5, x258000 => (spec_l01N.f x258000).bind fun t262 => (if x5 < t262 then ((spec_l01End.f k x258000 x5).bind fun t263 => (if x4.length < 17592186044416 then (spec_SizesOf.l0 k (x4 ++ [wrap64 (t263 - x5)]) (wrap64 (x5 + 1)) x258000) else (none))) else (some (x4, 0)))
def spec_SizesOf.f (k : Nat) (l0_0 : List Int) : Option (List Int × Int) := (spec_l01Is.f k l0_0).bind fun t258 => (if t258 = true then (spec_SizesOf.l0 k (([] : List Int)) 0 l0_0) else (some (([] : List Int), 1)))
theorem spec_SizesOf.mono_l : ∀ k, (∀ y0 y1 y2, LeO (spec_SizesOf.l0 k y0 y1 y2) (spec_SizesOf.l0 (k + 1) y0 y1 y2))
  | 0 => fun _ _ _ r h => by simp [spec_SizesOf.l0] at h
  | k + 1 => by
    have ih0 := spec_SizesOf.mono_l k
    · intro y0 y1 y2
      unfold spec_SizesOf.l0
      repeat' first | (with_reducible first | exact ih0 _ _ _ | exact spec_l01End.mono _ _ _ | exact spec_l01Is.mono _ _ | exact LeO.refl _ | exact LeO.none _ | refine LeO.ite ?_ ?_ | refine LeO.bind ?_ (fun _ => ?_)) | exact ih0 _ _ _ | exact spec_l01End.mono _ _ _ | exact spec_l01Is.mono _ _ | exact LeO.none _ | refine LeO.ite ?_ ?_ | refine LeO.bind ?_ (fun _ => ?_)
theorem spec_SizesOf.mono : ∀ a0 k, LeO (spec_SizesOf.f k a0) (spec_SizesOf.f (k + 1) a0) := by
  intro a0 k
  have ih0 := spec_SizesOf.mono_l k
  unfold spec_SizesOf.f
  repeat' first | (with_reducible first | exact ih0 _ _ _ | exact spec_l01End.mono _ _ _ | exact spec_l01Is.mono _ _ | exact LeO.refl _ | exact LeO.none _ | refine LeO.ite ?_ ?_ | refine LeO.bind ?_ (fun _ => ?_)) | exact ih0 _ _ _ | exact spec_l01End.mono _ _ _ | exact spec_l01Is.mono _ _ | exact LeO.none _ | refine LeO.ite ?_ ?_ | refine LeO.bind ?_ (fun _ => ?_)
theorem spec_SizesOf.Z0 {p : Prop} (h : p := by first | rfl | (simp; done) | (simp [*]; done)) : p := h
theorem spec_SizesOf.calls (k : Nat) (A0_0 : Option Addr) (c0_0 : Nat) (l0_0 : List Int) (r1 : List Int) (r2 : Int) (w : World) (hr0_0 : Kd.C (Kd.int .i64) w A0_0 l0_0.length l0_0) (hc0_0 : l0_0.length ≤ c0_0) (h : spec_SizesOf.f k l0_0 = some (r1, r2)) :
  Calls Try.prog 10 #[.agg #[.slice A0_0 l0_0.length c0_0]] w fun e w' => ∃ v0_ : Value, e = .returned (.tuple #[v0_, .int .i64 r2]) ∧ Kd.R (Kd.int .i64) 2 w' w.heap.size (fun _ => True) v0_ r1 ∧ Below w.heap.size w w' := by
 have hu26 := Try.underlying26
 have HR0_0 := A_ hr0_0
 have HC0_0 := A_ hc0_0
 clear hr0_0 hc0_0
 have HB := A_ (Below.refl w.heap.size w)
 have H : ((spec_l01Is.f k l0_0).bind fun t258 => (if t258 = true then (spec_SizesOf.l0 k (([] : List Int)) 0 l0_0) else (some (([] : List Int), 1)))) = some (r1, r2) := h
 clear h
 replace H := Option.bind_eq_some_iff.mp H
 obtain ⟨t258, A20, H⟩ := H
 replace H : (if t258 = true then (spec_SizesOf.l0 k (([] : List Int)) 0 l0_0) else (some (([] : List Int), 1))) = some (r1, r2) := H
 have A2 := A_ A20
 clear A20
 by_cases c3 : t258 = true
 ·subst c3
  have H1 : (spec_SizesOf.l0 k (([] : List Int)) 0 l0_0) = some (r1, r2) := by rw [if_pos rfl] at H; exact H
  clear H
  have H := H1
  clear H1
  obtain ⟨y259, hy259⟩ : ∃ y_ : List Int, y_ = (([] : List Int)) := ⟨_, rfl⟩
  replace H : (spec_SizesOf.l0 k y259 0 l0_0) = some (r1, r2) := eH hy259 H
  have Ny259 := A_ hy259
  clear hy259
  have H' := A_ H
  clear H
  go_enter Try.func10, Try.ntmps10
  go_wp2_with (first | ((with_reducible refine gate_dst (N := 1) rfl ?_); refine bx 1 #[.slice A0_0 l0_0.length c0_0] 26 ?_; intro gb257 hg w4 hbox hb; have BK257 := A_ hbox; have GW257 := A_ (eG hg (below_size (el HB)) : w.heap.size ≤ gb257); have GE257 := A_ (eG hg (below_size (el HB)) : w.heap.size ≤ gb257); replace HB := A_ (below_step (el HB) hb); clear hb hbox hg; have hcz5_0 : w4.cell? ⟨gb257, 0, none⟩ = some (.slice A0_0 l0_0.length c0_0) := (blk_cell BK257.out 0).trans rfl; have hfz5_0 := blk_frozen BK257.out 0) | ((with_reducible refine gate_callee (f := 101) rfl ?_); refine goesL_ (some 7) rfl rfl Try.func101 (by kernel_rfl) rfl #[.agg #[.slice A0_0 l0_0.length c0_0]] rfl eg ?_; (with_reducible refine (spec_l01Is.calls k _ _ l0_0 true _ ?side1 ?side2 A2.out).mono ?_); (case side1 => exact cS (Kd.C_below HR0_0.out HB.out)); (case side2 => exact HC0_0.out); rintro e w6 ⟨rfl, hb⟩; refine ⟨_, rfl, ?_⟩; replace BK257 := A_ (eB BK257 hb); replace HB := A_ (below_step (el HB) hb); (try clear hb); (try clear hb2); (try clear hk); (try clear hi)) | ((with_reducible refine gate_dst (N := 9) rfl ?_); refine Kd.R_lit (Kd.int .i64) _ 2 ?hg (N := 9) ?hd (xs := ([] : List Int)) (inner := []) (ok := fun _ => True) (okp := fun _ => True) ?hr ?hp (fun _ hk => hk) trivial (Below.refl _ _) (Nat.le_refl _) (by simp) ?_; (case hd => rfl); (case hg => rfl); (case hr => first | (go_simp; done) | (go_simp; rfl)); (case hp => exact (Reps.none _ _)); intro v260 w7 ho8 hb hg_ hnew_; clear hg_ hnew_; (first | rw [← Ny259.out] at ho8 | (simp only [Int.reduceToNat] at ho8; rw [← Ny259.out] at ho8)); have HO261 := A_ (Kd.R_lower ho8 (below_size (el HB))); replace BK257 := A_ (eB BK257 hb); replace HB := A_ (below_step (el HB) hb); clear hb ho8))
  go_loopg [4, 5] k (fun kq v4 v5 w' => ∃ (x4_1 : List Int) (x5_1 : Int), v5 = .int .i64 x5_1 ∧ Aside0 (spec_SizesOf.l0 kq x4_1 x5_1 l0_0 = some (r1, r2)) ∧ Aside0 (kq ≤ k) ∧ Aside0 (Kd.R (Kd.int .i64) 2 w' w.heap.size (fun _ => True) v4 x4_1) ∧ Aside0 (w'.heap[gb257]? = some (.cells #[(.slice A0_0 l0_0.length c0_0)] 26 (0, 0))) ∧ Aside0 (Below w.heap.size w w'))
  case atStart => exact ⟨(y259), (0), spec_SizesOf.Z0, H', ⟨Nat.le_refl _⟩, ⟨ea HO261⟩, ⟨eb BK257⟩, ⟨el HB⟩⟩
  case round =>
   clear H'
   try clear c1
   try clear p2
   try clear c3
   try clear hcz5_0
   try clear hfz5_0
   obtain ⟨x4_1, x5_1, rfl, HA, HK1, HO_4, BK257, HB⟩ := hrel
   cases gk with
   | zero => exact absurd HA.out (by simp [spec_SizesOf.l0])
   | succ k1 =>
    have H := HA.out
    clear HA
    simp only [spec_SizesOf.l0] at H
    replace H := Option.bind_eq_some_iff.mp H
    obtain ⟨t262, A90, H⟩ := H
    replace H : (if x5_1 < t262 then ((spec_l01End.f k1 l0_0 x5_1).bind fun t263 => (if x4_1.length < 17592186044416 then (spec_SizesOf.l0 k1 (x4_1 ++ [wrap64 (t263 - x5_1)]) (wrap64 (x5_1 + 1)) l0_0) else (none))) else (some (x4_1, 0))) = some (r1, r2) := H
    have A9 := A_ A90
    clear A90
    by_cases c10 : x5_1 < t262
    ·rw [if_pos c10] at H
     have c10b0 := decide_eq_true c10
     clear c10
     replace H := Option.bind_eq_some_iff.mp H
     obtain ⟨t263, A110, H⟩ := H
     replace H : (if x4_1.length < 17592186044416 then (spec_SizesOf.l0 k1 (x4_1 ++ [wrap64 (t263 - x5_1)]) (wrap64 (x5_1 + 1)) l0_0) else (none)) = some (r1, r2) := H
     have A11 := A_ A110
     clear A110
     by_cases c12 : x4_1.length < 17592186044416
     rotate_left
     ·rw [if_neg c12] at H
      exact absurd H (by simp)
     rw [if_pos c12] at H
     have LMc12 := A_ c12
     clear c12
     obtain ⟨y264, hy264⟩ : ∃ y_ : List Int, y_ = (x4_1 ++ [wrap64 (t263 - x5_1)]) := ⟨_, rfl⟩
     replace H : (spec_SizesOf.l0 k1 y264 (wrap64 (x5_1 + 1)) l0_0) = some (r1, r2) := eH hy264 H
     have Ny264 := A_ hy264
     clear hy264
     have H' := A_ H
     clear H
     have hcz13_0 : wr.cell? ⟨gb257, 0, none⟩ = some (.slice A0_0 l0_0.length c0_0) := (blk_cell BK257.out 0).trans rfl
     have hfz13_0 := blk_frozen BK257.out 0
     go_wp2_with (first | ((with_reducible refine gate_callee (f := 102) rfl ?_); refine goesL_ (some 12) rfl rfl Try.func102 (by kernel_rfl) rfl #[.agg #[.slice A0_0 l0_0.length c0_0]] rfl eg ?_; (with_reducible refine (spec_l01N.calls _ _ l0_0 t262 _ ?side1 ?side2 A9.out).mono ?_); (case side1 => exact cS (Kd.C_below HR0_0.out HB.out)); (case side2 => exact HC0_0.out); rintro e w14 ⟨rfl, hb⟩; refine ⟨_, rfl, ?_⟩; replace HO_4 := A_ (Kd.R_below (ea HO_4) hb); replace BK257 := A_ (eB BK257 hb); replace HB := A_ (below_step (el HB) hb); (try clear hb); (try clear hb2); (try clear hk); (try clear hi); have hcz15_0 : w14.cell? ⟨gb257, 0, none⟩ = some (.slice A0_0 l0_0.length c0_0) := (blk_cell BK257.out 0).trans rfl; have hfz15_0 := blk_frozen BK257.out 0) | ((with_reducible refine gate_callee (f := 103) rfl ?_); refine goesL_ (some 19) rfl rfl Try.func103 (by kernel_rfl) rfl #[.agg #[.slice A0_0 l0_0.length c0_0], .int .i64 x5_1] rfl eg ?_; (with_reducible refine (spec_l01End.calls k1 _ _ l0_0 x5_1 t263 _ ?side1 ?side2 A11.out).mono ?_); (case side1 => exact cS (Kd.C_below HR0_0.out HB.out)); (case side2 => exact HC0_0.out); rintro e w16 ⟨rfl, hb⟩; refine ⟨_, rfl, ?_⟩; replace HO_4 := A_ (Kd.R_below (ea HO_4) hb); replace BK257 := A_ (eB BK257 hb); replace HB := A_ (below_step (el HB) hb); (try clear hb); (try clear hb2); (try clear hk); (try clear hi)) | ((with_reducible refine gate_builtin (b := .append) (xs := #[.tmp 16, .tmp 22]) rfl ?_); at_builtin; refine Kd.R_append (Kd.int .i64) (w0 := w) w.heap.size rfl (.tmp 16) (.tmp 22) 24 2 (.int .i64 0) 8 rfl Try.underlying24 info2 rfl (by decide) (by omega) u4 x4_1 (wrap64 (t263 - x5_1)) [.int .i64 (wrap64 (t263 - x5_1))] (fun _ => True) (fun _ => False) rfl rfl ?aP (fun _ hk => hk.elim) ?aF ?aO ?aB ?aS ?aL ?_; (case aP => exact rfl); (case aB => exact (el HB)); (case aF => exact (fun _ _ => trivial)); (case aO => exact (ea HO_4)); (case aS => exact (below_size (el HB))); (case aL => have := LMc12.out; omega); intro v265 w17 ho hb hg hat; rw [← Ny264.out] at ho; replace BK257 := A_ (blk_grown (g := gb257) (o := .cells #[.slice A0_0 l0_0.length c0_0] 26 (0, 0)) (eb BK257) hg (Kd.R_ne HO_4.out BK257.out (by decide))); replace HB := A_ hb; have HO266 := A_ ho; clear HO_4; clear ho hb hg hat))
     go_roundg k1
     case measure => have := HK1.out; omega
     case rel => exact ⟨(y264), (wrap64 (x5_1 + 1)), spec_SizesOf.Z0, H', ⟨by have := HK1.out; omega⟩, ⟨es HO266⟩, ⟨eb BK257⟩, ⟨el HB⟩⟩
    ·rw [if_neg c10] at H
     have c10b0 := decide_eq_false c10
     clear c10
     simp only [Option.some.injEq, Prod.mk.injEq] at H
     obtain ⟨rfl, rfl⟩ := H
     have hcz18_0 : wr.cell? ⟨gb257, 0, none⟩ = some (.slice A0_0 l0_0.length c0_0) := (blk_cell BK257.out 0).trans rfl
     have hfz18_0 := blk_frozen BK257.out 0
     go_wp2_with (first | ((with_reducible refine gate_callee (f := 102) rfl ?_); refine goesL_ (some 12) rfl rfl Try.func102 (by kernel_rfl) rfl #[.agg #[.slice A0_0 l0_0.length c0_0]] rfl eg ?_; (with_reducible refine (spec_l01N.calls _ _ l0_0 t262 _ ?side1 ?side2 A9.out).mono ?_); (case side1 => exact cS (Kd.C_below HR0_0.out HB.out)); (case side2 => exact HC0_0.out); rintro e w19 ⟨rfl, hb⟩; refine ⟨_, rfl, ?_⟩; replace HO_4 := A_ (Kd.R_below (ea HO_4) hb); replace BK257 := A_ (eB BK257 hb); replace HB := A_ (below_step (el HB) hb); (try clear hb); (try clear hb2); (try clear hk); (try clear hi)))
     go_ret2
     exact ⟨_, er, by (with_reducible repeat (first | apply Kd.R_alloc | apply Kd.R_drewN | apply Kd.R_drew)); exact HO_4.out, el HB⟩
 ·replace c3 := Bool.eq_false_iff.mpr c3
  subst c3
  have H1 : (some (([] : List Int), 1)) = some (r1, r2) := by rw [if_neg (show ¬ (false = true) by decide)] at H; exact H
  clear H
  have H := H1
  clear H1
  simp only [Option.some.injEq, Prod.mk.injEq] at H
  obtain ⟨rfl, rfl⟩ := H
  go_enter Try.func10, Try.ntmps10
  go_wp2_with (first | ((with_reducible refine gate_dst (N := 1) rfl ?_); refine bx 1 #[.slice A0_0 l0_0.length c0_0] 26 ?_; intro gb257 hg w20 hbox hb; have BK257 := A_ hbox; have GW257 := A_ (eG hg (below_size (el HB)) : w.heap.size ≤ gb257); have GE257 := A_ (eG hg (below_size (el HB)) : w.heap.size ≤ gb257); replace HB := A_ (below_step (el HB) hb); clear hb hbox hg; have hcz21_0 : w20.cell? ⟨gb257, 0, none⟩ = some (.slice A0_0 l0_0.length c0_0) := (blk_cell BK257.out 0).trans rfl; have hfz21_0 := blk_frozen BK257.out 0) | ((with_reducible refine gate_callee (f := 101) rfl ?_); refine goesL_ (some 7) rfl rfl Try.func101 (by kernel_rfl) rfl #[.agg #[.slice A0_0 l0_0.length c0_0]] rfl eg ?_; (with_reducible refine (spec_l01Is.calls k _ _ l0_0 false _ ?side1 ?side2 A2.out).mono ?_); (case side1 => exact cS (Kd.C_below HR0_0.out HB.out)); (case side2 => exact HC0_0.out); rintro e w22 ⟨rfl, hb⟩; refine ⟨_, rfl, ?_⟩; replace BK257 := A_ (eB BK257 hb); replace HB := A_ (below_step (el HB) hb); (try clear hb); (try clear hb2); (try clear hk); (try clear hi)))
  go_ret2
  exact ⟨_, er, by first | exact Kd.R_nil _ _ _ _ _ | exact Kd.N_nil _ _ _ _ _ | exact Kd.V_nil _ _ _ _ _ | exact Kd.Q_nil _ _ _ _ _ | exact Kd.S_nil _ _ _ _ _, el HB⟩

/-! ### impl_kidsOf: function 118 -/
def impl_kidsOf.l0 : Nat → List Int → List Int → Int → Int → Int → Option (List Int)
  | 0, _, _, _, _, _ => none
  | k + 1, x0, x5, x6, x13, x14 => if x14 < x13 then (if x5.length < 17592186044416 then ((impl_endOf.f k x0 x6).bind fun t274 => (impl_kidsOf.l0 k x0 (x5 ++ [x6]) t274 x13 (wrap64 (x14 + 1)))) else (none)) else (some x5)
def impl_kidsOf.f (k : Nat) (l0 : List Int) (a1 : Int) : Option (List Int) := if 0 ≤ a1 then (if a1 < (l0.length : Int) then (impl_kidsOf.l0 k l0 (([] : List Int)) (wrap64 (a1 + 1)) (rd l0 a1) 0) else (none)) else (none)
theorem impl_kidsOf.mono_l : ∀ k, (∀ y0 y1 y2 y3 y4, LeO (impl_kidsOf.l0 k y0 y1 y2 y3 y4) (impl_kidsOf.l0 (k + 1) y0 y1 y2 y3 y4))
  | 0 => fun _ _ _ _ _ r h => by simp [impl_kidsOf.l0] at h
  | k + 1 => by
    have ih0 := impl_kidsOf.mono_l k
    · intro y0 y1 y2 y3 y4
      unfold impl_kidsOf.l0
      repeat' first | (with_reducible first | exact ih0 _ _ _ _ _ | exact impl_endOf.mono _ _ _ | exact LeO.refl _ | exact LeO.none _ | refine LeO.ite ?_ ?_ | refine LeO.bind ?_ (fun _ => ?_)) | exact ih0 _ _ _ _ _ | exact impl_endOf.mono _ _ _ | exact LeO.none _ | refine LeO.ite ?_ ?_ | refine LeO.bind ?_ (fun _ => ?_)
theorem impl_kidsOf.mono : ∀ a0 a1 k, LeO (impl_kidsOf.f k a0 a1) (impl_kidsOf.f (k + 1) a0 a1) := by
  intro a0 a1 k
  have ih0 := impl_kidsOf.mono_l k
  unfold impl_kidsOf.f
  repeat' first | (with_reducible first | exact ih0 _ _ _ _ _ | exact impl_endOf.mono _ _ _ | exact LeO.refl _ | exact LeO.none _ | refine LeO.ite ?_ ?_ | refine LeO.bind ?_ (fun _ => ?_)) | exact ih0 _ _ _ _ _ | exact impl_endOf.mono _ _ _ | exact LeO.none _ | refine LeO.ite ?_ ?_ | refine LeO.bind ?_ (fun _ => ?_)
theorem impl_kidsOf.Z0 {p : Prop} (h : p := by first | (with_reducible assumption) | assumption) : p := h
theorem impl_kidsOf.Z1 {p : Prop} (h : p := by first | rfl | (simp; done) | (simp [*]; done)) : p := h
theorem impl_kidsOf.calls (k : Nat) (A0 : Option Addr) (c0 : Nat) (l0 : List Int) (a1 : Int) (r : List Int) (w : World) (hr0 : Kd.C (Kd.int .i64) w A0 l0.length l0) (hc0 : l0.length ≤ c0) (h : impl_kidsOf.f k l0 a1 = some r) :
  Calls Try.prog 118 #[.slice A0 l0.length c0, .int .i64 a1] w fun e w' => ∃ v0_ : Value, e = .returned (v0_) ∧ Kd.R (Kd.int .i64) 2 w' w.heap.size (fun _ => True) v0_ r ∧ Below w.heap.size w w' := by
 have HR0 := A_ hr0
 have HC0 := A_ hc0
 clear hr0 hc0
 have HB := A_ (Below.refl w.heap.size w)
 have H : (if 0 ≤ a1 then (if a1 < (l0.length : Int) then (impl_kidsOf.l0 k l0 (([] : List Int)) (wrap64 (a1 + 1)) (rd l0 a1) 0) else (none)) else (none)) = some r := h
 clear h
 obtain ⟨y267, hy267⟩ : ∃ y_ : List Int, y_ = (([] : List Int)) := ⟨_, rfl⟩
 replace H : (if 0 ≤ a1 then (if a1 < (l0.length : Int) then (impl_kidsOf.l0 k l0 y267 (wrap64 (a1 + 1)) (rd l0 a1) 0) else (none)) else (none)) = some r := eH hy267 H
 have Ny267 := A_ hy267
 clear hy267
 by_cases c3 : 0 ≤ a1
 ·rw [if_pos c3] at H
  have c3b0 := decide_eq_true c3
  clear c3
  by_cases c4 : a1 < (l0.length : Int)
  rotate_left
  ·rw [if_neg c4] at H
   exact absurd H (by simp)
  rw [if_pos c4] at H
  have c4b0 := decide_eq_true c4
  clear c4
  have H' := A_ H
  clear H
  go_enter Try.func118, Try.ntmps118
  go_wp2_with (first | ((with_reducible refine gate_dst (N := 7) rfl ?_); refine Kd.R_lit (Kd.int .i64) _ 2 ?hg (N := 7) ?hd (xs := ([] : List Int)) (inner := []) (ok := fun _ => True) (okp := fun _ => True) ?hr ?hp (fun _ hk => hk) trivial (Below.refl _ _) (Nat.le_refl _) (by simp) ?_; (case hd => rfl); (case hg => rfl); (case hr => first | (go_simp; done) | (go_simp; rfl)); (case hp => exact (Reps.none _ _)); intro v268 w5 ho6 hb hg_ hnew_; clear hg_ hnew_; (first | rw [← Ny267.out] at ho6 | (simp only [Int.reduceToNat] at ho6; rw [← Ny267.out] at ho6)); have HO269 := A_ (Kd.R_lower ho6 (below_size (el HB))); replace HB := A_ (below_step (el HB) hb); clear hb ho6; have p270 : 0 ≤ (a1 : Int) := of_decide_eq_true impl_kidsOf.Z0; have q270 : a1 < (l0.length : Int) := of_decide_eq_true impl_kidsOf.Z0; obtain ⟨ad270, e270, hx270_0⟩ := Kd.at_int HR0.out a1 p270 q270; cases e270; replace hx270_0 := (HB.out.cell (World.block_lt_of_cell? w _ hx270_0)).trans hx270_0; replace p270 := eq_true p270; replace q270 := eq_true q270))
  go_loopg [5, 6, 14] k (fun kq v5 v6 v14 w' => ∃ (x5_1 : List Int) (x6_1 : Int) (x14_1 : Int), v6 = .int .i64 x6_1 ∧ v14 = .int .i64 x14_1 ∧ Aside0 (impl_kidsOf.l0 kq l0 x5_1 x6_1 (rd l0 a1) x14_1 = some r) ∧ Aside0 (kq ≤ k) ∧ Aside0 (Kd.R (Kd.int .i64) 2 w' w.heap.size (fun _ => True) v5 x5_1) ∧ Aside0 (Below w.heap.size w w'))
  case atStart => exact ⟨(y267), (wrap64 (a1 + 1)), (0), impl_kidsOf.Z1, impl_kidsOf.Z1, H', ⟨Nat.le_refl _⟩, ⟨ea HO269⟩, ⟨el HB⟩⟩
  case round =>
   clear H'
   try clear c1
   try clear p2
   try clear q2
   try clear hx2
   try clear c3
   try clear c3b0
   try clear c4
   try clear c4b0
   try clear p6
   try clear hx270_0
   try clear p270
   try clear q270
   obtain ⟨x5_1, x6_1, x14_1, rfl, rfl, HA, HK1, HO_5, HB⟩ := hrel
   cases gk with
   | zero => exact absurd HA.out (by simp [impl_kidsOf.l0])
   | succ k1 =>
    have H := HA.out
    clear HA
    simp only [impl_kidsOf.l0] at H
    by_cases c7 : x14_1 < (rd l0 a1)
    ·rw [if_pos c7] at H
     have c7b0 := decide_eq_true c7
     clear c7
     by_cases c8 : x5_1.length < 17592186044416
     rotate_left
     ·rw [if_neg c8] at H
      exact absurd H (by simp)
     rw [if_pos c8] at H
     have LMc8 := A_ c8
     clear c8
     obtain ⟨y271, hy271⟩ : ∃ y_ : List Int, y_ = (x5_1 ++ [x6_1]) := ⟨_, rfl⟩
     replace H : ((impl_endOf.f k1 l0 x6_1).bind fun t274 => (impl_kidsOf.l0 k1 l0 y271 t274 (rd l0 a1) (wrap64 (x14_1 + 1)))) = some r := eH hy271 H
     have Ny271 := A_ hy271
     clear hy271
     replace H := Option.bind_eq_some_iff.mp H
     obtain ⟨t274, A90, H⟩ := H
     replace H : (impl_kidsOf.l0 k1 l0 y271 t274 (rd l0 a1) (wrap64 (x14_1 + 1))) = some r := H
     have A9 := A_ A90
     clear A90
     have H' := A_ H
     clear H
     go_wp2_with (first | ((with_reducible refine gate_builtin (b := .append) (xs := #[.tmp 16, .tmp 18]) rfl ?_); at_builtin; refine Kd.R_append (Kd.int .i64) (w0 := w) w.heap.size rfl (.tmp 16) (.tmp 18) 24 2 (.int .i64 0) 8 rfl Try.underlying24 info2 rfl (by decide) (by omega) u5 x5_1 x6_1 [.int .i64 x6_1] (fun _ => True) (fun _ => False) rfl rfl ?aP (fun _ hk => hk.elim) ?aF ?aO ?aB ?aS ?aL ?_; (case aP => exact rfl); (case aB => exact (el HB)); (case aF => exact (fun _ _ => trivial)); (case aO => exact (ea HO_5)); (case aS => exact (below_size (el HB))); (case aL => have := LMc8.out; omega); intro v272 w10 ho hb hg hat; rw [← Ny271.out] at ho; replace HB := A_ hb; have HO273 := A_ ho; clear HO_5; clear ho hb hg hat) | ((with_reducible refine gate_callee (f := 132) rfl ?_); refine goesL_ (some 22) rfl rfl Try.func132 (by kernel_rfl) rfl #[.slice (some ad270) l0.length c0, .int .i64 x6_1] rfl eg ?_; (with_reducible refine (impl_endOf.calls k1 _ _ l0 x6_1 t274 _ ?side1 ?side2 A9.out).mono ?_); (case side1 => exact cS (Kd.C_below HR0.out HB.out)); (case side2 => exact HC0.out); rintro e w' ⟨rfl, ⟨nd, rfl⟩⟩; refine ⟨_, rfl, ?_⟩))
     go_roundg k1
     case measure => have := HK1.out; omega
     case rel => exact ⟨(y271), (t274), (wrap64 (x14_1 + 1)), impl_kidsOf.Z1, impl_kidsOf.Z1, H', ⟨by have := HK1.out; omega⟩, ⟨es HO273⟩, ⟨el HB⟩⟩
    ·rw [if_neg c7] at H
     have c7b0 := decide_eq_false c7
     clear c7
     obtain rfl := Option.some.inj H
     go_wp2
     go_ret
     exact ⟨_, er, by (with_reducible repeat (first | apply Kd.R_alloc | apply Kd.R_drewN | apply Kd.R_drew)); exact HO_5.out, el HB⟩
 ·rw [if_neg c3] at H
  exact absurd H (by simp)

/-! ### bits_Mul32: function 177 -/
def bits_Mul32.f (a0 : Int) (a1 : Int) : Option (Int × Int) := some (((IntKind.u64.wrap ((IntKind.u64.wrap (a0)) * (IntKind.u64.wrap (a1)))) / 4294967296) % 4294967296, (IntKind.u64.wrap ((IntKind.u64.wrap (a0)) * (IntKind.u64.wrap (a1)))) % 4294967296)
theorem bits_Mul32.calls (a0 : Int) (a1 : Int) (r1 : Int) (r2 : Int) (w : World) (h : bits_Mul32.f a0 a1 = some (r1, r2)) :
  Calls Try.prog 177 #[.int .u32 a0, .int .u32 a1] w fun e w' => e = .returned (.tuple #[.int .u32 r1, .int .u32 r2]) ∧ Drawn0 w w' := by
 have H : (some (((IntKind.u64.wrap ((IntKind.u64.wrap (a0)) * (IntKind.u64.wrap (a1)))) / 4294967296) % 4294967296, (IntKind.u64.wrap ((IntKind.u64.wrap (a0)) * (IntKind.u64.wrap (a1)))) % 4294967296)) = some (r1, r2) := h
 clear h
 simp only [Option.some.injEq, Prod.mk.injEq] at H
 obtain ⟨rfl, rfl⟩ := H
 go_enter Try.func177, Try.ntmps177
 go_wp2
 go_ret2
 exact ⟨by first | rfl | (simp; done) | (simp [*]; done), by repeat (first | exact Drawn0.refl _ | apply Drawn0.step)⟩

/-! ### bits_Mul64: function 178 -/
def bits_Mul64.f (a0 : Int) (a1 : Int) : Option (Int × Int) := some (IntKind.u64.wrap ((IntKind.u64.wrap ((IntKind.u64.wrap ((a0 / 4294967296) * (a1 / 4294967296))) + ((IntKind.u64.wrap ((IntKind.u64.wrap ((a0 / 4294967296) * (Go.bits .and .u64 a1 4294967295))) + ((IntKind.u64.wrap ((Go.bits .and .u64 a0 4294967295) * (Go.bits .and .u64 a1 4294967295))) / 4294967296))) / 4294967296))) + ((IntKind.u64.wrap ((Go.bits .and .u64 (IntKind.u64.wrap ((IntKind.u64.wrap ((a0 / 4294967296) * (Go.bits .and .u64 a1 4294967295))) + ((IntKind.u64.wrap ((Go.bits .and .u64 a0 4294967295) * (Go.bits .and .u64 a1 4294967295))) / 4294967296))) 4294967295) + (IntKind.u64.wrap ((Go.bits .and .u64 a0 4294967295) * (a1 / 4294967296))))) / 4294967296)), IntKind.u64.wrap (a0 * a1))
theorem bits_Mul64.calls (a0 : Int) (a1 : Int) (r1 : Int) (r2 : Int) (w : World) (h : bits_Mul64.f a0 a1 = some (r1, r2)) :
  Calls Try.prog 178 #[.int .u64 a0, .int .u64 a1] w fun e w' => e = .returned (.tuple #[.int .u64 r1, .int .u64 r2]) ∧ Drawn0 w w' := by
 have H : (some (IntKind.u64.wrap ((IntKind.u64.wrap ((IntKind.u64.wrap ((a0 / 4294967296) * (a1 / 4294967296))) + ((IntKind.u64.wrap ((IntKind.u64.wrap ((a0 / 4294967296) * (Go.bits .and .u64 a1 4294967295))) + ((IntKind.u64.wrap ((Go.bits .and .u64 a0 4294967295) * (Go.bits .and .u64 a1 4294967295))) / 4294967296))) / 4294967296))) + ((IntKind.u64.wrap ((Go.bits .and .u64 (IntKind.u64.wrap ((IntKind.u64.wrap ((a0 / 4294967296) * (Go.bits .and .u64 a1 4294967295))) + ((IntKind.u64.wrap ((Go.bits .and .u64 a0 4294967295) * (Go.bits .and .u64 a1 4294967295))) / 4294967296))) 4294967295) + (IntKind.u64.wrap ((Go.bits .and .u64 a0 4294967295) * (a1 / 4294967296))))) / 4294967296)), IntKind.u64.wrap (a0 * a1))) = some (r1, r2) := h
 clear h
 simp only [Option.some.injEq, Prod.mk.injEq] at H
 obtain ⟨rfl, rfl⟩ := H
 go_enter Try.func178, Try.ntmps178
 go_wp2
 go_ret2
 exact ⟨by first | rfl | (simp; done) | (simp [*]; done), by repeat (first | exact Drawn0.refl _ | apply Drawn0.step)⟩

/-! ### bits_Mul: function 175 -/
def bits_Mul.f (a0 : Int) (a1 : Int) : Option (Int × Int) := (bits_Mul64.f a0 a1).bind fun bt275 => (some (bt275.1, bt275.2))
theorem bits_Mul.calls (a0 : Int) (a1 : Int) (r1 : Int) (r2 : Int) (w : World) (h : bits_Mul.f a0 a1 = some (r1, r2)) :
  Calls Try.prog 175 #[.int .u64 a0, .int .u64 a1] w fun e w' => e = .returned (.tuple #[.int .u64 r1, .int .u64 r2]) ∧ Drawn0 w w' := by
 have H : ((bits_Mul64.f a0 a1).bind fun bt275 => (some (bt275.1, bt275.2))) = some (r1, r2) := h
 clear h
 replace H := Option.bind_eq_some_iff.mp H
 obtain ⟨⟨t275, t276⟩, A30, H⟩ := H
 replace H : (some (t275, t276)) = some (r1, r2) := H
 have A3 := A_ A30
 clear A30
 simp only [Option.some.injEq, Prod.mk.injEq] at H
 obtain ⟨rfl, rfl⟩ := H
 go_enter Try.func175, Try.ntmps175
 go_wp2_with (first | ((with_reducible refine gate_callee (f := 178) rfl ?_); refine goesL_ (some 25) rfl rfl Try.func178 (by kernel_rfl) rfl #[.int .u64 a0, .int .u64 a1] rfl eg ?_; (with_reducible refine (bits_Mul64.calls a0 a1 t275 t276 _ A3.out).mono ?_); rintro e w' ⟨rfl, ⟨nd, rfl⟩⟩; refine ⟨_, rfl, ?_⟩))
 go_ret2
 exact ⟨by first | rfl | (simp; done) | (simp [*]; done), by repeat (first | exact Drawn0.refl _ | apply Drawn0.step)⟩

/-! ### slices_Repeat_int64_int64: function 167 -/
def slices_Repeat_int64_int64.f (l0 : List Int) (a1 : Int) : Option (List Int) := if l0.length = 1 then (if 1 ≤ a1 then (if a1 ≤ 24 then some (List.replicate a1.toNat (rd l0 0)) else none) else none) else none
theorem slices_Repeat_int64_int64.mul : ((List.range 25).all fun n => decide (bits_Mul.f 1 (n : Int) = some (0, (n : Int)))) = true := by decide +kernel
theorem slices_Repeat_int64_int64.calls (A0 : Option Addr) (c0 : Nat) (l0 : List Int) (a1 : Int) (r : List Int) (w : World) (hr0 : Kd.C (Kd.int .i64) w A0 l0.length l0) (hc0 : l0.length ≤ c0) (h : slices_Repeat_int64_int64.f l0 a1 = some r) :
  Calls Try.prog 167 #[.slice A0 l0.length c0, .int .i64 a1] w fun e w' => ∃ v0_ : Value, e = .returned (v0_) ∧ Kd.R (Kd.int .i64) 2 w' w.heap.size (fun _ => True) v0_ r ∧ Below w.heap.size w w' := by
 unfold slices_Repeat_int64_int64.f at h
 by_cases c1 : l0.length = 1
 ·rw [if_pos c1] at h
  by_cases c2 : 1 ≤ a1
  ·rw [if_pos c2] at h
   by_cases c3 : a1 ≤ 24
   ·rw [if_pos c3] at h
    obtain rfl := Option.some.inj h
    clear h
    obtain ⟨n, rfl⟩ : ∃ n : Nat, a1 = n := ⟨a1.toNat, by omega⟩
    obtain ⟨x0, rfl⟩ : ∃ x0, l0 = [x0] := by
     match l0, c1 with
     | [x], _ => exact ⟨x, rfl⟩
    obtain ⟨ad, e0, hx⟩ := Kd.at_int hr0 0 (by omega) (by simp)
    subst e0
    have hmul : bits_Mul.f 1 (n : Int) = some (0, (n : Int)) := of_decide_eq_true (List.all_eq_true.1 slices_Repeat_int64_int64.mul n (List.mem_range.2 (by omega)))
    have HM := A_ hmul
    have HX := A_ hx
    have HC := A_ hc0
    clear hmul hx hr0 hc0 c1
    have hn1 : decide ((n : Int) < 0) = false := decide_eq_false (by omega)
    have hn2 : decide ((9223372036854775807 : Int) < (n : Int)) = false := decide_eq_false (by omega)
    obtain ⟨i0, hi, hz0, hz1, hz2⟩ := info_parts (show (Try.prog.info? 2).map (fun i => (i.zero, i.size, i.bytes)) = some (some (.int .i64 0), 1, 8) by kernel_rfl)
    have hsz1 : (Try.prog.info? 2).map (·.size) = some 1 := by kernel_rfl
    go_enter Try.func167, Try.ntmps167
    go_wp2_with (first | (go_at_call 175; (with_reducible refine (bits_Mul.calls 1 n 0 n _ HM.out).mono ?_); rintro e w' ⟨rfl, ⟨nd, rfl⟩⟩) | ((with_reducible refine gate_dst (N := 30) rfl ?_); refine wpList_make_full _ rfl (.tmp 29) (.tmp 29) 24 rfl w.heap.size 2 i0 (.int .i64 0) 1 Try.underlying24 hi hz0 hz1 _ _ _ _ n rfl rfl rfl rfl ?m1 ?m2 ?m3 ?_))
    case m1 => rw [hz2]; omega
    case m2 => unfold maxLen; omega
    case m3 => simp
    intro w1 hown hgr
    obtain ⟨_, ⟨hv, _⟩ | ⟨g, cap, cur, hv, hg0, hcells, _, _, hsz, _⟩⟩ := hown
    ·cases hv
    obtain ⟨eg, ecap⟩ : w.heap.size = g ∧ n = cap := by
     simp only [Value.slice.injEq, Option.some.injEq, Addr.mk.injEq, true_and, and_true] at hv
     simpa using hv
    subst ecap
    have HV := A_ eg
    have HW1 := A_ hgr
    have HB : Aside0 (Below w.heap.size w w1) := ⟨(((Below.refl w.heap.size w).trans (show Below w.heap.size w (w.drewN nd) from ⟨rfl, rfl, rfl, Nat.le_refl _, fun _ _ => rfl⟩)).grown hgr (Nat.le_refl _) (fun k hk => by cases hk))⟩
    have HX1 : Aside0 (w1.cell? (ad.add 0) = some (Value.int IntKind.i64 x0)) := ⟨hgr.cell (show (w.drewN nd).cell? (ad.add 0) = _ from HX.out) (by simp)⟩
    have HG : Hid (w1.heap[w.heap.size]? = some (.cells cur.toList.toArray 2 (0, 0))) := by
     rw [eg]
     simpa [Hid] using hcells
    have HL : Aside0 (cur.toList.length = n) := ⟨by simpa using hsz⟩
    clear hcells hv hsz hgr hg0
    generalize cur.toList = C0 at HG HL
    go_wp2_with (first | ((with_reducible refine gate_dst (N := 33) rfl ?_); refine wpList_copy_splice rfl (.tmp 31) (.tmp 32) 24 24 rfl 2 Try.underlying24 hsz1 (some ⟨w.heap.size, 0, none⟩) (some ad) n n 1 c0 rfl rfl w.heap.size 0 C0 2 HG [.int .i64 x0] ?s1 ?s2 ?s3 ?s4 w.heap.size w HB.out (Nat.le_refl _) ?_))
    case s1 => simp [Nat.min_def]; omega
    case s2 =>
     intro j v hj
     match j, hj with
     | 0, hj =>
      obtain rfl := Option.some.inj hj
      exact HX1.out
    case s3 => have := HL.out; simp; omega
    case s4 => simp [Value.oneCell']
    intro w2 HG2 HB2
    go_wp2
    obtain ⟨HB3⟩ : Aside0 (Below g w w2) := ⟨HB2⟩
    have HC1 : ∃ C : List Value, Hid (w2.heap[g]? = some (.cells C.toArray 2 (0, 0))) ∧ C.length = n ∧ C.take 1 = List.replicate 1 (Value.int .i64 x0) := by
     refine ⟨_, HG2, ?_, ?_⟩
     ·rw [length_splice _ _ _ (by have := HL.out; simp; omega)]
      exact HL.out
     ·simp [splice]
    have HGB : Aside0 (w.heap.size = g) := ⟨eg⟩
    clear HG HG2 HL HX1 HB HB2 eg
    go_loopw [8] (fun v8 wq => ∃ (m : Nat) (C : List Value), v8 = .int .i64 (m : Int) ∧ 1 ≤ m ∧ m ≤ n ∧ Hid (wq.heap[g]? = some (.cells C.toArray 2 (0, 0))) ∧ C.length = n ∧ C.take m = List.replicate m (Value.int .i64 x0) ∧ Hid (Below g w wq)) (fun v8 _ => n - (intOf v8).toNat)
    case atStart =>
     obtain ⟨C, h1, h2, h3⟩ := HC1
     exact ⟨1, C, rfl, by omega, by omega, h1, h2, h3, HB3⟩
    case round =>
     clear HC1 HB3
     obtain ⟨m, C, rfl, hm1, hmn, HG, hCl, hCt, HB⟩ := hrel
     by_cases hlt : m < n
     ·have hcut1 : ∀ W : World, (Instr.slice 24 (.slice (some ⟨g, 0, none⟩) n n) (some (.int .i64 (m : Int))) none none).run Try.prog W = .ok (.slice (some ⟨g, m, none⟩) (n - m) (n - m)) W := by
       intro W
       have := cut_from 24 2 .i64 Try.underlying24 hi 1 hz1 (some ⟨g, 0, none⟩) n n (m : Int) (by omega) (by omega) W
       rw [this]
       rw [if_neg (by simp; omega)]
       simp [Addr.add]
       omega
      have hcut2 : ∀ W : World, (Instr.slice 24 (.slice (some ⟨g, 0, none⟩) n n) none (some (.int .i64 (m : Int))) none).run Try.prog W = .ok (.slice (some ⟨g, 0, none⟩) m n) W := by
       intro W
       have := cut_to 24 2 .i64 Try.underlying24 hi (some ⟨g, 0, none⟩) n n (m : Int) (by omega) (by omega) (by omega) W
       rw [this]
       simp
      have hdm : decide ((m : Int) < (n : Int)) = true := decide_eq_true (by omega)
      obtain ⟨L, hL⟩ : ∃ L, L = Nat.min m (n - m) := ⟨_, rfl⟩
      have hL1 : 1 ≤ L ∧ m + L ≤ n ∧ L ≤ m := by rw [hL]; simp only [Nat.min_def]; split <;> omega
      have hlen : (C.take L).length = L := by rw [List.length_take]; omega
      have HCt := A_ hCt
      have HCl := A_ hCl
      have HL := A_ hL
      have hLr : (m : Int) + (L : Int) ≤ 9223372036854775807 := by omega
      clear hCt hCl hL
      go_wp2
      have T1 : ∀ j v, (C.take L)[j]? = some v → wr.drew.cell? ((⟨g, 0, none⟩ : Addr).add j) = some v := by
       intro j v hj
       have hjL : j < (C.take L).length := (List.getElem?_eq_some_iff.1 hj).1
       have hjC : C[j]? = some v := by
        rw [List.getElem?_take] at hj
        split at hj
        ·exact hj
        ·cases hj
       have hb : ((⟨g, 0, none⟩ : Addr).add j) = ⟨g, j, none⟩ := by
        unfold Addr.add
        split
        ·rename_i h0
         have : j = 0 := by simpa using h0
         rw [this]
        ·simp
       rw [hb]
       have e1 : wr.drew.heap[g]? = some (.cells C.toArray 2 (0, 0)) := HG.out
       unfold World.cell?
       simp only [e1]
       simpa using hjC
      have T2 : ∀ v ∈ C.take L, v.oneCell' = true := by
       intro v hv
       have h2 : C.take L = List.replicate L (Value.int .i64 x0) := by
        have := congrArg (List.take L) HCt.out
        rw [List.take_take, List.take_replicate, Nat.min_eq_left (by omega)] at this
        exact this
       rw [h2] at hv
       rw [List.eq_of_mem_replicate hv]
       rfl
      have HBd : Below g w wr.drew := HB.out.drew
      have HGd : wr.drew.heap[g]? = some (.cells C.toArray 2 (0, 0)) := HG.out
      refine wp_region_any (by kernel_rfl) ?_
      try (change wpAny _ _ _ _ _ _ _ (World.drew _))
      refine wpAny_take (i := 0) (v := ?_) rfl (by kernel_rfl) (by kernel_rfl) (by kernel_rfl) (fun _ _ _ h => h) (Or.inl ⟨by rfl, ?hy0⟩) ?rest0
      case hy0 =>
       intro W
       go_simp
       try with_reducible rfl
      refine wpAny_take (i := 1) (v := ?_) rfl (by kernel_rfl) (by kernel_rfl) (by kernel_rfl) (fun _ _ _ h => h) (Or.inl ⟨by rfl, ?hy1⟩) ?rest1
      case hy1 =>
       intro W
       go_simp
       try with_reducible rfl
      refine wpAny_take (i := 2) (v := ?_) rfl (by kernel_rfl) (by kernel_rfl) (by kernel_rfl) (fun _ _ _ h => h) (Or.inl ⟨by rfl, ?hy2⟩) ?rest2
      case hy2 =>
       intro W
       go_simp
       try with_reducible rfl
      refine wpAny_take (i := 3) (v := ?_) rfl (by kernel_rfl) (by kernel_rfl) (by kernel_rfl) (fun _ _ _ h => h) (Or.inl ⟨by rfl, ?hy3⟩) ?rest3
      case hy3 =>
       intro W
       go_simp
       try with_reducible rfl
      refine wpAny_take (i := 4) (v := ?_) rfl (by kernel_rfl) (by kernel_rfl) (by kernel_rfl) (fun _ _ _ h => h) (Or.inl ⟨by rfl, ?hy4⟩) ?rest4
      case hy4 =>
       intro W
       go_simp
       try with_reducible rfl
      refine wpAny_take (i := 5) (v := ?_) rfl (by kernel_rfl) (by kernel_rfl) (by kernel_rfl) (fun _ _ _ h => h) (Or.inl ⟨by rfl, ?hy5⟩) ?rest5
      case hy5 =>
       intro W
       go_simp
       try with_reducible rfl
      refine wpAny_take (i := 6) (v := ?_) rfl (by kernel_rfl) (by kernel_rfl) (by kernel_rfl) (fun _ _ _ h => h) (Or.inl ⟨by rfl, ?hy6⟩) ?rest6
      case hy6 =>
       intro W
       go_simp
       try with_reducible rfl
      refine wpAny_ready (rs := [7]) (by kernel_rfl) (by simp) ?_
      refine AllReady.cons (o := { dst := some 45, op := Op.call { callee := .builtin .copy, args := #[.tmp 41, .tmp 44], argTypes := #[24, 24] }, type := 3, pos := "slices.go:528", after := #[{ on := 3, ground := .data }, { on := 6, ground := .data }], guard := none }) rfl (fun K hK => ?_) AllReady.nil
      refine step_copy_splice rfl (.tmp 41) (.tmp 44) 24 24 rfl 2 Try.underlying24 hsz1 (some ⟨g, m, none⟩) (some ⟨g, 0, none⟩) (n - m) (n - m) m n ?hd ?hs g m C 2 HGd (C.take L) (by rw [hlen]; exact HL.out) (fun _ => ⟨rfl, _, rfl, T1⟩) (by rw [hlen, HCl.out]; omega) T2 g w HBd (Nat.le_refl _) ?_
      case hd => go_simp
      case hs => go_simp
      intro w4 HG4 HB4
      rw [hlen]
      refine hK _ _ ?_
      clear hK K
      refine wpAny_take (i := 8) (v := ?_) rfl (by kernel_rfl) (by kernel_rfl) (by kernel_rfl) (fun _ _ _ h => h) (Or.inl ⟨by rfl, ?hy8⟩) ?rest8
      case hy8 =>
       intro W
       go_simp
       try with_reducible rfl
      refine wpAny_take (i := 9) (v := ?_) rfl (by kernel_rfl) (by kernel_rfl) (by kernel_rfl) (fun _ _ _ h => h) (Or.inl ⟨by rfl, ?hy9⟩) ?rest9
      case hy9 =>
       intro W
       go_simp
       try with_reducible rfl
      refine wpAny_done (by kernel_rfl) ?_ _
      go_simp
      have hw8 : IntKind.i64.wrap ((m : Int) + (L : Int)) = ((m + L : Nat) : Int) := by
       rw [Go.IntWalk.i64_in _ ⟨by omega, hLr⟩]
       omega
      have HW8 := A_ hw8
      clear hw8
      have HK := A_ (show 1 ≤ m + L ∧ m + L ≤ n ∧ n - (m + L) < n - m by omega)
      have hsp : (splice C m (C.take L)).length = n := by
       rw [length_splice _ _ _ (by rw [hlen, HCl.out]; omega)]
       exact HCl.out
      have hst : (splice C m (C.take L)).take (m + L) = List.replicate (m + L) (Value.int .i64 x0) := by
       have h2 : C.take L = List.replicate L (Value.int .i64 x0) := by
        have := congrArg (List.take L) HCt.out
        rw [List.take_take, List.take_replicate, Nat.min_eq_left (by omega)] at this
        exact this
       have hcm : (C.take m ++ C.take L).length = m + L := by
        rw [List.length_append, hlen, List.length_take, HCl.out]
        omega
       unfold splice
       rw [← List.append_assoc, List.take_append_of_le_length (Nat.le_of_eq hcm.symm), List.take_of_length_le (Nat.le_of_eq hcm), HCt.out, h2, List.replicate_append_replicate]
      go_wp2
      go_roundw
      case rel =>
       exact ⟨m + L, _, congrArg (Value.int .i64) HW8.out, HK.out.1, HK.out.2.1, HG4, hsp, hst, HB4⟩
      case measure =>
       have hk := HK.out
       rw [HW8.out]
       show n - (((m + L : Nat) : Int)).toNat < n - ((m : Int)).toNat
       rw [Int.toNat_natCast, Int.toNat_natCast]
       exact hk.2.2
     ·obtain rfl : m = n := by omega
      have hdm : decide ((m : Int) < (m : Int)) = false := decide_eq_false (by omega)
      have HGB' := HGB
      have HCt := A_ hCt
      have HCl := A_ hCl
      clear hCt hCl
      go_wp2
      go_ret
      have hCe : C = List.replicate m (Value.int .i64 x0) := by
       have := HCt.out
       rw [List.take_of_length_le (by rw [HCl.out]; omega)] at this
       exact this
      have hrep : List.replicate (m : Int).toNat (rd [x0] 0) = List.replicate m x0 := by simp [rd]
      have hR : Kd.R (Kd.int .i64) 2 wr w.heap.size (fun _ => True) (.slice (some ⟨g, 0, none⟩) m m) (List.replicate m x0) := by
       refine ⟨fun _ _ => trivial, C, ?_, ?_⟩
       ·rw [List.length_replicate]
        refine ⟨by rw [HCl.out]; exact (Nat.mul_one m).symm, .inr ⟨g, m, C.toArray, rfl, by rw [HGB.out]; exact Nat.le_refl _, HG.out, Nat.le_refl _, by unfold maxLen; omega, ?_, ?_⟩⟩
        ·show C.toArray.size = m * 1
         rw [List.size_toArray, HCl.out, Nat.mul_one]
        ·show C.take (m * 1) = C
         rw [List.take_of_length_le (by rw [HCl.out, Nat.mul_one]; exact Nat.le_refl _)]
       ·subst hCe
        refine ⟨by rw [List.length_replicate, List.length_replicate]; exact (Nat.mul_one m).symm, ?_⟩
        intro j p hj
        have hjm : j < m := by
         have := (List.getElem?_eq_some_iff.1 hj).1
         simpa using this
        obtain rfl : x0 = p := by
         rw [List.getElem?_replicate, if_pos hjm] at hj
         exact Option.some.inj hj
        show ((List.replicate m (Value.int .i64 x0)).drop (j * 1)).take 1 = [Value.int .i64 x0]
        rw [List.drop_replicate, List.take_replicate, Nat.mul_one, Nat.min_eq_left (by omega)]
        rfl
      rw [hrep, HGB.out]
      rw [HGB.out] at hR
      exact ⟨_, rfl, hR, HB.out⟩
   ·rw [if_neg c3] at h
    cases h
  ·rw [if_neg c2] at h
   cases h
 ·rw [if_neg c1] at h
  cases h


end Go.Proofs.Ytocachknmgefaaa.QFnTrees
