/- Functions of the program as plain Lean functions, each with a proof that the machine's call answers what it answers. Conditions: none. -/
import Derived.Test.YtocachknmgefaaaQFnRanksx0
import Derived.Test.YtocachknmgefaaaQFnRanksx2
import Derived.Test.YtocachknmgefaaaQFnRanksx5
import Derived.Test.YtocachknmgefaaaQFnRanksx6
namespace Go.Proofs.Ytocachknmgefaaa.QFnRanks
open Go.RowKit Go.Proofs.YtocachknmgefaaaW.PrintWords Go.Proofs.YtocachknmgefaaaW.PrintLast Go.Proofs.YtocachknmgefaaaW.PrintMore
attribute [local go_sem] max2_int min2_int max_two min_two max_three min_three max_four min_four   -- for this text's walks alone
set_option linter.unusedVariables false
set_option linter.unusedSimpArgs false

/-! ### laws_likeInts: function 23 -/
def laws_likeInts.l0 : Nat → List Int → List Int → Int → Option (Bool)
  | 0, _, _, _ => none
  | k + 1, x0, x1, x5 => if x5 < (x0.length : Int) then (if 0 ≤ x5 then (if x5 < (x1.length : Int) then (if (rd x0 x5) = (rd x1 x5) then (laws_likeInts.l0 k x0 x1 (wrap64 (x5 + 1))) else (some false)) else (none)) else (none)) else (some true)
def laws_likeInts.f (k : Nat) (l0 : List Int) (l1 : List Int) : Option (Bool) := if (l0.length : Int) = (l1.length : Int) then (laws_likeInts.l0 k l0 l1 0) else (some false)
theorem laws_likeInts.mono_l : ∀ k, (∀ y0 y1 y2, LeO (laws_likeInts.l0 k y0 y1 y2) (laws_likeInts.l0 (k + 1) y0 y1 y2))
  | 0 => fun _ _ _ r h => by simp [laws_likeInts.l0] at h
  | k + 1 => by
    have ih0 := laws_likeInts.mono_l k
    · intro y0 y1 y2
      unfold laws_likeInts.l0
      repeat' first
      | (with_reducible exact ih0 _ _ _)
      | (with_reducible exact LeO.refl _)
      | (with_reducible exact LeO.none _)
      | (with_reducible refine LeO.ite ?_ ?_)
      | (with_reducible refine LeO.bind ?_ (fun _ => ?_))
      | exact ih0 _ _ _
      | exact LeO.none _
      | refine LeO.ite ?_ ?_
      | refine LeO.bind ?_ (fun _ => ?_)
theorem laws_likeInts.mono : ∀ a0 a1 k, LeO (laws_likeInts.f k a0 a1) (laws_likeInts.f (k + 1) a0 a1) := by
  intro a0 a1 k
  have ih0 := laws_likeInts.mono_l k
  unfold laws_likeInts.f
  repeat' first
      | (with_reducible exact ih0 _ _ _)
      | (with_reducible exact LeO.refl _)
      | (with_reducible exact LeO.none _)
      | (with_reducible refine LeO.ite ?_ ?_)
      | (with_reducible refine LeO.bind ?_ (fun _ => ?_))
      | exact ih0 _ _ _
      | exact LeO.none _
      | refine LeO.ite ?_ ?_
      | refine LeO.bind ?_ (fun _ => ?_)
theorem laws_likeInts.Z0 {p : Prop} (h : p := by first | (with_reducible assumption) | assumption) : p := h
theorem laws_likeInts.Z1 {p : Prop} (h : p := by first | rfl | (simp; done) | (simp [*]; done)) : p := h
set_option maxHeartbeats 8000000 in
set_option maxRecDepth 100000 in
theorem laws_likeInts.calls (k : Nat) (A0 : Option Addr) (c0 : Nat) (l0 : List Int) (A1 : Option Addr) (c1 : Nat) (l1 : List Int) (r : Bool) (w : World) (hr0 : Kd.C (Kd.int .i64) w A0 l0.length l0) (hc0 : l0.length ≤ c0) (hr1 : Kd.C (Kd.int .i64) w A1 l1.length l1) (hc1 : l1.length ≤ c1) (h : laws_likeInts.f k l0 l1 = some r) :
  Calls Try.prog 23 #[.slice A0 l0.length c0, .slice A1 l1.length c1] w fun e w' => e = .returned (.bool r) ∧ Drawn0 w w' := by
 have HR0 := A_ hr0
 have HC0 := A_ hc0
 clear hr0 hc0
 have HR1 := A_ hr1
 have HC1 := A_ hc1
 clear hr1 hc1
 have H : (if (l0.length : Int) = (l1.length : Int) then (laws_likeInts.l0 k l0 l1 0) else (some false)) = some r := h
 clear h
 by_cases c3 : (l0.length : Int) = (l1.length : Int)
 ·rw [if_pos c3] at H
  have c3b0 : ((l0.length : Int) == (l1.length : Int)) = true := beq_iff_eq.mpr c3
  have c3b1 : ((l0.length : Int) != (l1.length : Int)) = false := bne_eq_false_iff_eq.mpr c3
  have c3b2 : (l0.length == l1.length) = true := by first | simpa using c3 | (simp at c3 ⊢; omega)
  clear c3
  have H' := A_ H
  clear H
  go_enter Try.func23, Try.ntmps23
  go_wp2
  repeat (go_quiet (fail); try go_wp2)
  go_loopg [5] k (fun kq v5 w' => ∃ (x5_1 : Int), v5 = .int .i64 x5_1 ∧ Aside0 (laws_likeInts.l0 kq l0 l1 x5_1 = some r) ∧ Aside0 (kq ≤ k) ∧ Drawn0 w w')
  case atStart => exact ⟨(0), laws_likeInts.Z1, H', ⟨Nat.le_refl _⟩, by repeat (first | exact Drawn0.refl _ | apply Drawn0.step)⟩
  case round =>
   clear H'
   try clear c1
   try clear c2
   try clear p2
   try clear c3
   try clear c3b0
   try clear c3b1
   try clear c3b2
   obtain ⟨x5_1, rfl, HA, HK1, ⟨m1, rfl⟩⟩ := hrel
   cases gk with
   | zero => exact absurd HA.out (by simp [laws_likeInts.l0])
   | succ k1 =>
    have H := HA.out
    clear HA
    simp only [laws_likeInts.l0] at H
    by_cases c4 : x5_1 < (l0.length : Int)
    ·rw [if_pos c4] at H
     have c4b0 : decide (x5_1 < (l0.length : Int)) = true := decide_eq_true c4
     clear c4
     by_cases c5 : 0 ≤ x5_1
     rotate_left
     ·rw [if_neg c5] at H
      exact absurd H (by simp)
     rw [if_pos c5] at H
     have c5b0 : decide (0 ≤ x5_1) = true := decide_eq_true c5
     clear c5
     by_cases c6 : x5_1 < (l1.length : Int)
     rotate_left
     ·rw [if_neg c6] at H
      exact absurd H (by simp)
     rw [if_pos c6] at H
     have c6b0 : decide (x5_1 < (l1.length : Int)) = true := decide_eq_true c6
     clear c6
     by_cases c7 : (rd l0 x5_1) = (rd l1 x5_1)
     ·rw [if_pos c7] at H
      have c7b0 : ((rd l0 x5_1) == (rd l1 x5_1)) = true := beq_iff_eq.mpr c7
      have c7b1 : ((rd l0 x5_1) != (rd l1 x5_1)) = false := bne_eq_false_iff_eq.mpr c7
      clear c7
      have H' := A_ H
      clear H
      have p326 : 0 ≤ (x5_1 : Int) := of_decide_eq_true laws_likeInts.Z0
      have q326 : x5_1 < (l0.length : Int) := of_decide_eq_true laws_likeInts.Z0
      obtain ⟨ad326, e326, hx326_0⟩ := Kd.at_int HR0.out x5_1 p326 q326
      cases e326
      replace p326 := eq_true p326
      replace q326 := eq_true q326
      have p327 : 0 ≤ (x5_1 : Int) := of_decide_eq_true laws_likeInts.Z0
      have q327 : x5_1 < (l1.length : Int) := of_decide_eq_true laws_likeInts.Z0
      obtain ⟨ad327, e327, hx327_0⟩ := Kd.at_int HR1.out x5_1 p327 q327
      cases e327
      replace p327 := eq_true p327
      replace q327 := eq_true q327
      go_wp2
      repeat (go_quiet (fail); try go_wp2)
      go_roundg k1
      case measure => have := HK1.out; omega
      case rel => exact ⟨(wrap64 (x5_1 + 1)), laws_likeInts.Z1, H', ⟨by have := HK1.out; omega⟩, by repeat (first | exact Drawn0.refl _ | apply Drawn0.step)⟩
     ·rw [if_neg c7] at H
      have c7b0 : ((rd l0 x5_1) == (rd l1 x5_1)) = false := beq_eq_false_iff_ne.mpr c7
      have c7b1 : ((rd l0 x5_1) != (rd l1 x5_1)) = true := bne_iff_ne.mpr c7
      obtain rfl := Option.some.inj H
      have p326 : 0 ≤ (x5_1 : Int) := of_decide_eq_true laws_likeInts.Z0
      have q326 : x5_1 < (l0.length : Int) := of_decide_eq_true laws_likeInts.Z0
      obtain ⟨ad326, e326, hx326_0⟩ := Kd.at_int HR0.out x5_1 p326 q326
      cases e326
      replace p326 := eq_true p326
      replace q326 := eq_true q326
      have p327 : 0 ≤ (x5_1 : Int) := of_decide_eq_true laws_likeInts.Z0
      have q327 : x5_1 < (l1.length : Int) := of_decide_eq_true laws_likeInts.Z0
      obtain ⟨ad327, e327, hx327_0⟩ := Kd.at_int HR1.out x5_1 p327 q327
      cases e327
      replace p327 := eq_true p327
      replace q327 := eq_true q327
      go_wp2
      repeat (go_quiet (fail); try go_wp2)
      go_ret
      exact ⟨by first | rfl | (simp; done) | (simp [*]; done), by repeat (first | exact Drawn0.refl _ | apply Drawn0.step)⟩
    ·rw [if_neg c4] at H
     have c4b0 : decide (x5_1 < (l0.length : Int)) = false := decide_eq_false c4
     clear c4
     obtain rfl := Option.some.inj H
     go_wp2
     repeat (go_quiet (fail); try go_wp2)
     go_ret
     exact ⟨by first | rfl | (simp; done) | (simp [*]; done), by repeat (first | exact Drawn0.refl _ | apply Drawn0.step)⟩
 ·rw [if_neg c3] at H
  have c3b0 : ((l0.length : Int) == (l1.length : Int)) = false := beq_eq_false_iff_ne.mpr c3
  have c3b1 : ((l0.length : Int) != (l1.length : Int)) = true := bne_iff_ne.mpr c3
  have c3b2 : (l0.length == l1.length) = false := by first | simpa using c3 | (simp at c3 ⊢; omega)
  obtain rfl := Option.some.inj H
  go_enter Try.func23, Try.ntmps23
  go_wp2
  repeat (go_quiet (fail); try go_wp2)
  go_ret
  exact ⟨by first | rfl | (simp; done) | (simp [*]; done), by repeat (first | exact Drawn0.refl _ | apply Drawn0.step)⟩

/-! ### laws_tree9: function 89 -/
def laws_tree9.f (k : Nat) (l0_0 : List Int) (l1_0 : List Int) : Option (Bool) := (laws_likeInts.f k l0_0 l1_0).bind fun t330 => (some t330)
theorem laws_tree9.mono : ∀ a0 a1 k, LeO (laws_tree9.f k a0 a1) (laws_tree9.f (k + 1) a0 a1) := by
  intro a0 a1 k
  unfold laws_tree9.f
  repeat' first
      | (with_reducible exact laws_likeInts.mono _ _ _)
      | (with_reducible exact LeO.refl _)
      | (with_reducible exact LeO.none _)
      | (with_reducible refine LeO.ite ?_ ?_)
      | (with_reducible refine LeO.bind ?_ (fun _ => ?_))
      | exact laws_likeInts.mono _ _ _
      | exact LeO.none _
      | refine LeO.ite ?_ ?_
      | refine LeO.bind ?_ (fun _ => ?_)
set_option maxHeartbeats 8000000 in
set_option maxRecDepth 100000 in
theorem laws_tree9.calls (k : Nat) (A0_0 : Option Addr) (c0_0 : Nat) (l0_0 : List Int) (A1_0 : Option Addr) (c1_0 : Nat) (l1_0 : List Int) (r : Bool) (w : World) (hr0_0 : Kd.C (Kd.int .i64) w A0_0 l0_0.length l0_0) (hc0_0 : l0_0.length ≤ c0_0) (hr1_0 : Kd.C (Kd.int .i64) w A1_0 l1_0.length l1_0) (hc1_0 : l1_0.length ≤ c1_0) (h : laws_tree9.f k l0_0 l1_0 = some r) :
  Calls Try.prog 89 #[.agg #[.slice A0_0 l0_0.length c0_0], .agg #[.slice A1_0 l1_0.length c1_0]] w fun e w' => e = .returned (.bool r) ∧ Below w.heap.size w w' := by
 have hu26 := Try.underlying26
 have HR0_0 := A_ hr0_0
 have HC0_0 := A_ hc0_0
 clear hr0_0 hc0_0
 have HR1_0 := A_ hr1_0
 have HC1_0 := A_ hc1_0
 clear hr1_0 hc1_0
 have HB := A_ (Below.refl w.heap.size w)
 have H : ((laws_likeInts.f k l0_0 l1_0).bind fun t330 => (some t330)) = some r := h
 clear h
 replace H := Option.bind_eq_some_iff.mp H
 obtain ⟨t330, A30, H⟩ := H
 replace H : (some t330) = some r := H
 have A3 := A_ A30
 clear A30
 obtain rfl := Option.some.inj H
 go_enter Try.func89, Try.ntmps89
 go_wp2_with (first | ((with_reducible refine gate_dst (N := 2) rfl ?_); refine box_event ?hg (N := 2) ?hd (cs := #[.slice A0_0 l0_0.length c0_0]) (t := 26) ?hr ?_; (case hd => rfl); (case hg => rfl); (case hr => first | (go_simp; done) | (go_simp; rfl)); intro gb328 hg w4 hbox hb; have n0_ := A_ (below_step (el HB) hb); have n1_ := A_ (hbox); have n2_ := A_ ((by rw [hg]; exact (below_size (el HB)) : w.heap.size ≤ gb328)); have n3_ := A_ ((by rw [hg]; exact (below_size (el HB)) : w.heap.size ≤ gb328)); clear HB; have HB := n0_; have BK328 := n1_; have GW328 := n2_; have GE328 := n3_; clear n0_ n1_ n2_ n3_; clear hb hbox hg) | ((with_reducible refine gate_dst (N := 3) rfl ?_); refine box_event ?hg (N := 3) ?hd (cs := #[.slice A1_0 l1_0.length c1_0]) (t := 26) ?hr ?_; (case hd => rfl); (case hg => rfl); (case hr => first | (go_simp; done) | (go_simp; rfl)); intro gb329 hg w5 hbox hb; have n0_ := A_ (eB BK328 hb); have n1_ := A_ (below_step (el HB) hb); have n2_ := A_ (hbox); have n3_ := A_ ((by rw [hg]; exact (below_size (el HB)) : w.heap.size ≤ gb329)); have n4_ := A_ ((by rw [hg]; exact (below_size (el HB)) : w.heap.size ≤ gb329)); have n5_ := A_ ((by rw [hg]; exact Nat.ne_of_lt (eL BK328) : gb328 ≠ gb329)); have n6_ := A_ ((by rw [hg]; exact Nat.ne_of_gt (eL BK328) : gb329 ≠ gb328)); clear BK328; clear HB; have BK328 := n0_; have HB := n1_; have BK329 := n2_; have GW329 := n3_; have GE329 := n4_; have NB328_329 := n5_; have NB329_328 := n6_; clear n0_ n1_ n2_ n3_ n4_ n5_ n6_; clear hb hbox hg; have hnb6 := NB328_329.out; have hnc6 := NB329_328.out; have hcz7_0 : w5.cell? ⟨gb328, 0, none⟩ = some (.slice A0_0 l0_0.length c0_0) := (blk_cell BK328.out 0).trans rfl; have hfz7_0 := blk_frozen BK328.out 0; have hcz8_0 : w5.cell? ⟨gb329, 0, none⟩ = some (.slice A1_0 l1_0.length c1_0) := (blk_cell BK329.out 0).trans rfl; have hfz8_0 := blk_frozen BK329.out 0) | ((with_reducible refine gate_callee (f := 23) rfl ?_); refine goesL_ (some 9) rfl rfl Try.func23 (by kernel_rfl) rfl #[.slice A0_0 l0_0.length c0_0, .slice A1_0 l1_0.length c1_0] rfl eg ?_; (with_reducible refine (laws_likeInts.calls k _ _ l0_0 _ _ l1_0 t330 _ ?side1 ?side2 ?side3 ?side4 A3.out).mono ?_); (case side1 => repeat (first | exact (Kd.C_below HR0_0.out HB.out) | (with_reducible refine Kd.C_alloc ?_ _) | (with_reducible refine Kd.C_drewN ?_ _) | (with_reducible refine Kd.C_drew ?_))); (case side2 => exact HC0_0.out); (case side3 => repeat (first | exact (Kd.C_below HR1_0.out HB.out) | (with_reducible refine Kd.C_alloc ?_ _) | (with_reducible refine Kd.C_drewN ?_ _) | (with_reducible refine Kd.C_drew ?_))); (case side4 => exact HC1_0.out); rintro e w' ⟨rfl, ⟨nd, rfl⟩⟩; refine ⟨_, rfl, ?_⟩))
 go_ret
 exact ⟨er, el HB⟩

/-! ### spec_l01Near: function 127 -/
def spec_l01Near.f (s0_0 : List Int) (s0_1 : Int) (s0_2 : Int) (a1 : Int) : Option (Int × Int × Int) := (spec_l01Next.f s0_0 s0_1 s0_2 14).bind fun bt331 => (if bt331.1 = 0 then ((spec_l01Pick.f s0_0 bt331.2.1 bt331.2.2 (([(-1), wrap64 (a1 + 1), 1099511627776, (-4611686018427387904)] : List Int))).bind fun bt337 => (some (bt337.1, bt337.2.1, bt337.2.2))) else ((spec_l01Next.f s0_0 bt331.2.1 bt331.2.2 (wrap64 (a1 + 1))).bind fun bt340 => (some (bt340.1, bt340.2.1, bt340.2.2))))
set_option maxHeartbeats 8000000 in
set_option maxRecDepth 100000 in
theorem spec_l01Near.calls (g : Nat) (s0_0 : List Int) (s0_1 : Int) (s0_2 : Int) (a1 : Int) (r1 : Int) (r2 : Int) (r3 : Int) (w0 w : World) (hI : IsS121 w0 w g s0_0 s0_1 s0_2) (hB : Below w0.heap.size w0 w) (h : spec_l01Near.f s0_0 s0_1 s0_2 a1 = some (r1, r2, r3)) :
  Calls Try.prog 127 #[.pointer (some ⟨g, 0, none⟩), .int .i64 a1] w fun e w' => e = .returned (.int .i64 r1) ∧ IsS121 w0 w' g s0_0 r2 r3 ∧ Below w0.heap.size w0 w' ∧ KeepBut w w' g none := by
 have HI0 := A_ hI
 have HK := A_ (KeepBut.refl w g none)
 have HL := A_ hB.size
 clear hI
 have HW0 := A_ hB.size
 have HB := A_ hB
 clear hB
 have H : ((spec_l01Next.f s0_0 s0_1 s0_2 14).bind fun bt331 => (if bt331.1 = 0 then ((spec_l01Pick.f s0_0 bt331.2.1 bt331.2.2 (([(-1), wrap64 (a1 + 1), 1099511627776, (-4611686018427387904)] : List Int))).bind fun bt337 => (some (bt337.1, bt337.2.1, bt337.2.2))) else ((spec_l01Next.f s0_0 bt331.2.1 bt331.2.2 (wrap64 (a1 + 1))).bind fun bt340 => (some (bt340.1, bt340.2.1, bt340.2.2))))) = some (r1, r2, r3) := h
 clear h
 replace H := Option.bind_eq_some_iff.mp H
 obtain ⟨⟨t331, t332, t333⟩, A30, H⟩ := H
 replace H : (if t331 = 0 then ((spec_l01Pick.f s0_0 t332 t333 (([(-1), wrap64 (a1 + 1), 1099511627776, (-4611686018427387904)] : List Int))).bind fun bt337 => (some (bt337.1, bt337.2.1, bt337.2.2))) else ((spec_l01Next.f s0_0 t332 t333 (wrap64 (a1 + 1))).bind fun bt340 => (some (bt340.1, bt340.2.1, bt340.2.2)))) = some (r1, r2, r3) := H
 have A3 := A_ A30
 clear A30
 by_cases c4 : t331 = 0
 ·rw [if_pos c4] at H
  have c4b0 : (t331 == 0) = true := beq_iff_eq.mpr c4
  have c4b1 : (t331 != 0) = false := bne_eq_false_iff_eq.mpr c4
  clear c4
  obtain ⟨y334, hy334⟩ : ∃ y_ : List Int, y_ = (([(-1), wrap64 (a1 + 1), 1099511627776, (-4611686018427387904)] : List Int)) := ⟨_, rfl⟩
  replace H : ((spec_l01Pick.f s0_0 t332 t333 y334).bind fun bt337 => (some (bt337.1, bt337.2.1, bt337.2.2))) = some (r1, r2, r3) := by first | (rw [hy334]; with_reducible exact H) | (have H2_ := (Option.bind_some _ _).symm.trans H; rw [hy334]; with_reducible exact H2_) | (have H2_ := (Option.bind_some _ _).symm.trans H; with_reducible exact H2_) | with_reducible exact H | (rw [hy334]; exact H) | exact H
  have Ny334 := A_ hy334
  clear hy334
  replace H := Option.bind_eq_some_iff.mp H
  obtain ⟨⟨t337, t338, t339⟩, A50, H⟩ := H
  replace H : (some (t337, t338, t339)) = some (r1, r2, r3) := H
  have A5 := A_ A50
  clear A50
  simp only [Option.some.injEq, Prod.mk.injEq] at H
  obtain ⟨rfl, rfl, rfl⟩ := H
  go_enter Try.func127, Try.ntmps127
  go_wp2_with (first | ((with_reducible refine gate_callee (f := 123) rfl ?_); refine goesL_ (some 6) rfl rfl Try.func123 (by kernel_rfl) rfl #[.pointer (some ⟨g, 0, none⟩), .int .i64 14] rfl eg ?_; (with_reducible refine (spec_l01Next.calls g s0_0 s0_1 s0_2 14 t331 t332 t333 w0 _ ?side1 ?side2 A3.out).mono ?_); (case side1 => exact ei121 HI0); (case side2 => exact em121 HB); rintro e w6 ⟨rfl, hi, hb, hk⟩; refine ⟨_, rfl, ?_⟩; have n0_ := A_ (KeepBut.trans (ek HK) hk (.inl rfl)); have n1_ := A_ (hb); have n2_ := A_ (hi); clear HK; clear HB; clear HI0; have HK := n0_; have HB := n1_; have HI0 := n2_; clear n0_ n1_ n2_; (try clear hb); (try clear hb2); (try clear hk); (try clear hi)) | ((with_reducible refine gate_dst (N := 11) rfl ?_); refine Kd.R_lit (Kd.int .i64) _ 2 ?hg (N := 11) ?hd (xs := ([(-1), wrap64 (a1 + 1), 1099511627776, (-4611686018427387904)] : List Int)) (inner := [.int .i64 (-1), .int .i64 (wrap64 (a1 + 1)), .int .i64 1099511627776, .int .i64 (-4611686018427387904)]) (ok := fun _ => True) (okp := fun _ => True) ?hr ?hp (fun _ hk => hk) trivial (Below.refl _ _) (Nat.le_refl _) (by simp) ?_; (case hd => rfl); (case hg => rfl); (case hr => first | (go_simp; done) | (go_simp; rfl)); (case hp => exact (Reps.one (show Kd.M (Kd.int .i64) _ _ _ (-1) [.int .i64 (-1)] from rfl) (Reps.one (show Kd.M (Kd.int .i64) _ _ _ (wrap64 (a1 + 1)) [.int .i64 (wrap64 (a1 + 1))] from rfl) (Reps.one (show Kd.M (Kd.int .i64) _ _ _ 1099511627776 [.int .i64 1099511627776] from rfl) (Reps.one (show Kd.M (Kd.int .i64) _ _ _ (-4611686018427387904) [.int .i64 (-4611686018427387904)] from rfl) (Reps.none _ _)))))); intro v335 w7 ho8 hb hg_ hnew_; clear hg_ hnew_; (first | rw [← Ny334.out] at ho8 | (simp only [Int.reduceToNat] at ho8; rw [← Ny334.out] at ho8)); have n0_ := A_ (Kd.R_lower ho8 (keep_size (w := w) (g := g) (row := none) (ek HK))); have n1_ := A_ (IsS121.below (ei121 HI0) hb); have n2_ := A_ (KeepBut.trans (ek HK) (KeepBut.of_below hb g none) (.inl rfl)); have n3_ := A_ (below_step (em121 HB) hb); clear HI0; clear HK; clear HB; have HO336 := n0_; have HI0 := n1_; have HK := n2_; have HB := n3_; clear n0_ n1_ n2_ n3_; clear hb ho8; obtain ⟨Ao9, co9, eo9⟩ := Kd.R_slice HO336.out; subst eo9) | ((with_reducible refine gate_callee (f := 147) rfl ?_); refine goesL_ (some 12) rfl rfl Try.func147 (by kernel_rfl) rfl #[.pointer (some ⟨g, 0, none⟩), .slice Ao9 y334.length co9] rfl eg ?_; (with_reducible refine (spec_l01Pick.calls g s0_0 t332 t333 _ _ y334 t337 t338 t339 w0 _ ?side1 ?side2 ?side3 ?side4 ?side5 A5.out).mono ?_); (case side1 => exact ei121 HI0); (case side2 => exact em121 HB); (case side3 => repeat (first | exact (Kd.R_reads' HO336.out).2.2 | (with_reducible refine Kd.C_alloc ?_ _) | (with_reducible refine Kd.C_drewN ?_ _) | (with_reducible refine Kd.C_drew ?_))); (case side4 => exact (Kd.R_reads' HO336.out).2.1); (case side5 => exact far_slice (IsS121.own_ne HI0.out HO336.out (by decide))); rintro e w10 ⟨rfl, hi, hb, hk⟩; refine ⟨_, rfl, ?_⟩; have n0_ := A_ (Kd.R_mono (Kd.R_keep (IsS121.apart (show IsS121 w0 _ g s0_0 t332 t333 from ei121 HI0) (ea HO336) (by decide)) hk (fun _ h => h.2)) (fun _ h => h.1)); have n1_ := A_ (KeepBut.trans (ek HK) hk (.inl rfl)); have n2_ := A_ (hb); have n3_ := A_ (hi); clear HO336; clear HK; clear HB; clear HI0; have HO336 := n0_; have HK := n1_; have HB := n2_; have HI0 := n3_; clear n0_ n1_ n2_ n3_; (try clear hb); (try clear hb2); (try clear hk); (try clear hi)))
  go_ret
  exact ⟨er, ei121 HI0, em121 HB, ek HK⟩
 ·rw [if_neg c4] at H
  have c4b0 : (t331 == 0) = false := beq_eq_false_iff_ne.mpr c4
  have c4b1 : (t331 != 0) = true := bne_iff_ne.mpr c4
  replace H := Option.bind_eq_some_iff.mp H
  obtain ⟨⟨t340, t341, t342⟩, A110, H⟩ := H
  replace H : (some (t340, t341, t342)) = some (r1, r2, r3) := H
  have A11 := A_ A110
  clear A110
  simp only [Option.some.injEq, Prod.mk.injEq] at H
  obtain ⟨rfl, rfl, rfl⟩ := H
  go_enter Try.func127, Try.ntmps127
  go_wp2_with (first | ((with_reducible refine gate_callee (f := 123) rfl ?_); refine goesL_ (some 6) rfl rfl Try.func123 (by kernel_rfl) rfl #[.pointer (some ⟨g, 0, none⟩), .int .i64 14] rfl eg ?_; (with_reducible refine (spec_l01Next.calls g s0_0 s0_1 s0_2 14 t331 t332 t333 w0 _ ?side1 ?side2 A3.out).mono ?_); (case side1 => exact ei121 HI0); (case side2 => exact em121 HB); rintro e w12 ⟨rfl, hi, hb, hk⟩; refine ⟨_, rfl, ?_⟩; have n0_ := A_ (KeepBut.trans (ek HK) hk (.inl rfl)); have n1_ := A_ (hb); have n2_ := A_ (hi); clear HK; clear HB; clear HI0; have HK := n0_; have HB := n1_; have HI0 := n2_; clear n0_ n1_ n2_; (try clear hb); (try clear hb2); (try clear hk); (try clear hi)) | ((with_reducible refine gate_callee (f := 123) rfl ?_); refine goesL_ (some 16) rfl rfl Try.func123 (by kernel_rfl) rfl #[.pointer (some ⟨g, 0, none⟩), .int .i64 (wrap64 (a1 + 1))] rfl eg ?_; (with_reducible refine (spec_l01Next.calls g s0_0 t332 t333 (wrap64 (a1 + 1)) t340 t341 t342 w0 _ ?side1 ?side2 A11.out).mono ?_); (case side1 => exact ei121 HI0); (case side2 => exact em121 HB); rintro e w13 ⟨rfl, hi, hb, hk⟩; refine ⟨_, rfl, ?_⟩; have n0_ := A_ (KeepBut.trans (ek HK) hk (.inl rfl)); have n1_ := A_ (hb); have n2_ := A_ (hi); clear HK; clear HB; clear HI0; have HK := n0_; have HB := n1_; have HI0 := n2_; clear n0_ n1_ n2_; (try clear hb); (try clear hb2); (try clear hk); (try clear hi)))
  go_ret
  exact ⟨er, ei121 HI0, em121 HB, ek HK⟩

/-! ### spec_l02Catalan: function 157 -/
mutual
def spec_l02Catalan.l0 : Nat → Int → List Int → Int → Option (List Int)
  | 0, _, _, _ => none
  | k + 1, x0, x3, x4 => if x4 ≤ x0 then (spec_l02Catalan.l1 k x0 x3 x4 0 1) else (some x3)
def spec_l02Catalan.l1 : Nat → Int → List Int → Int → Int → Int → Option (List Int)
  | 0, _, _, _, _, _ => none
  | k + 1, x0, x3, x4, x5, x6 => if x6 < x4 then (if 0 ≤ x6 then (if x6 < (x3.length : Int) then (if 0 ≤ (wrap64 (x4 - x6)) then (if (wrap64 (x4 - x6)) < (x3.length : Int) then (spec_l02Catalan.l1 k x0 x3 x4 (wrap64 (x5 + (wrap64 ((rd x3 x6) * (rd x3 (wrap64 (x4 - x6))))))) (wrap64 (x6 + 1))) else (none)) else (none)) else (none)) else (none)) else (if x3.length < 17592186044416 then (spec_l02Catalan.l0 k x0 (x3 ++ [x5]) (wrap64 (x4 + 1))) else (none))
end
def spec_l02Catalan.f (k : Nat) (a0 : Int) : Option (List Int) := spec_l02Catalan.l0 k a0 (([0, 1] : List Int)) 2
theorem spec_l02Catalan.mono_l : ∀ k, (∀ y0 y1 y2, LeO (spec_l02Catalan.l0 k y0 y1 y2) (spec_l02Catalan.l0 (k + 1) y0 y1 y2)) ∧ (∀ y0 y1 y2 y3 y4, LeO (spec_l02Catalan.l1 k y0 y1 y2 y3 y4) (spec_l02Catalan.l1 (k + 1) y0 y1 y2 y3 y4))
  | 0 => ⟨fun _ _ _ r h => by simp [spec_l02Catalan.l0] at h, fun _ _ _ _ _ r h => by simp [spec_l02Catalan.l1] at h⟩
  | k + 1 => by
    obtain ⟨ih0, ih1⟩ := spec_l02Catalan.mono_l k
    refine ⟨?_, ?_⟩
    · intro y0 y1 y2
      unfold spec_l02Catalan.l0
      repeat' first
      | (with_reducible exact ih0 _ _ _)
      | (with_reducible exact ih1 _ _ _ _ _)
      | (with_reducible exact LeO.refl _)
      | (with_reducible exact LeO.none _)
      | (with_reducible refine LeO.ite ?_ ?_)
      | (with_reducible refine LeO.bind ?_ (fun _ => ?_))
      | exact ih0 _ _ _
      | exact ih1 _ _ _ _ _
      | exact LeO.none _
      | refine LeO.ite ?_ ?_
      | refine LeO.bind ?_ (fun _ => ?_)
    · intro y0 y1 y2 y3 y4
      unfold spec_l02Catalan.l1
      repeat' first
      | (with_reducible exact ih0 _ _ _)
      | (with_reducible exact ih1 _ _ _ _ _)
      | (with_reducible exact LeO.refl _)
      | (with_reducible exact LeO.none _)
      | (with_reducible refine LeO.ite ?_ ?_)
      | (with_reducible refine LeO.bind ?_ (fun _ => ?_))
      | exact ih0 _ _ _
      | exact ih1 _ _ _ _ _
      | exact LeO.none _
      | refine LeO.ite ?_ ?_
      | refine LeO.bind ?_ (fun _ => ?_)
theorem spec_l02Catalan.mono : ∀ a0 k, LeO (spec_l02Catalan.f k a0) (spec_l02Catalan.f (k + 1) a0) := by
  intro a0 k
  obtain ⟨ih0, ih1⟩ := spec_l02Catalan.mono_l k
  unfold spec_l02Catalan.f
  repeat' first
      | (with_reducible exact ih0 _ _ _)
      | (with_reducible exact ih1 _ _ _ _ _)
      | (with_reducible exact LeO.refl _)
      | (with_reducible exact LeO.none _)
      | (with_reducible refine LeO.ite ?_ ?_)
      | (with_reducible refine LeO.bind ?_ (fun _ => ?_))
      | exact ih0 _ _ _
      | exact ih1 _ _ _ _ _
      | exact LeO.none _
      | refine LeO.ite ?_ ?_
      | refine LeO.bind ?_ (fun _ => ?_)
theorem spec_l02Catalan.Z0 {p : Prop} (h : p := by first | (with_reducible assumption) | assumption) : p := h
theorem spec_l02Catalan.Z1 {p : Prop} (h : p := by first | rfl | (simp; done) | (simp [*]; done)) : p := h
set_option maxHeartbeats 8000000 in
set_option maxRecDepth 100000 in
theorem spec_l02Catalan.calls (k : Nat) (a0 : Int) (r : List Int) (w : World) (h : spec_l02Catalan.f k a0 = some r) :
  Calls Try.prog 157 #[.int .i64 a0] w fun e w' => ∃ v0_ : Value, e = .returned (v0_) ∧ Kd.R (Kd.int .i64) 2 w' w.heap.size (fun _ => True) v0_ r ∧ Below w.heap.size w w' := by
 have HB := A_ (Below.refl w.heap.size w)
 have H : (spec_l02Catalan.l0 k a0 (([0, 1] : List Int)) 2) = some r := h
 clear h
 obtain ⟨y343, hy343⟩ : ∃ y_ : List Int, y_ = (([0, 1] : List Int)) := ⟨_, rfl⟩
 replace H : (spec_l02Catalan.l0 k a0 y343 2) = some r := by first | (rw [hy343]; with_reducible exact H) | (have H2_ := (Option.bind_some _ _).symm.trans H; rw [hy343]; with_reducible exact H2_) | (have H2_ := (Option.bind_some _ _).symm.trans H; with_reducible exact H2_) | with_reducible exact H | (rw [hy343]; exact H) | exact H
 have Ny343 := A_ hy343
 clear hy343
 have H' := A_ H
 clear H
 go_enter Try.func157, Try.ntmps157
 go_wp2_with (first | ((with_reducible refine gate_dst (N := 7) rfl ?_); refine Kd.R_lit (Kd.int .i64) _ 2 ?hg (N := 7) ?hd (xs := ([0, 1] : List Int)) (inner := [.int .i64 0, .int .i64 1]) (ok := fun _ => True) (okp := fun _ => True) ?hr ?hp (fun _ hk => hk) trivial (Below.refl _ _) (Nat.le_refl _) (by simp) ?_; (case hd => rfl); (case hg => rfl); (case hr => first | (go_simp; done) | (go_simp; rfl)); (case hp => exact (Reps.one (show Kd.M (Kd.int .i64) _ _ _ 0 [.int .i64 0] from rfl) (Reps.one (show Kd.M (Kd.int .i64) _ _ _ 1 [.int .i64 1] from rfl) (Reps.none _ _)))); intro v344 w2 ho3 hb hg_ hnew_; clear hg_ hnew_; (first | rw [← Ny343.out] at ho3 | (simp only [Int.reduceToNat] at ho3; rw [← Ny343.out] at ho3)); have n0_ := A_ (Kd.R_lower ho3 (below_size (el HB))); have n1_ := A_ (below_step (el HB) hb); clear HB; have HO345 := n0_; have HB := n1_; clear n0_ n1_; clear hb ho3))
 repeat (go_quiet (first | ((with_reducible refine gate_dst (N := 7) rfl ?_); refine Kd.R_lit (Kd.int .i64) _ 2 ?hg (N := 7) ?hd (xs := ([0, 1] : List Int)) (inner := [.int .i64 0, .int .i64 1]) (ok := fun _ => True) (okp := fun _ => True) ?hr ?hp (fun _ hk => hk) trivial (Below.refl _ _) (Nat.le_refl _) (by simp) ?_; (case hd => rfl); (case hg => rfl); (case hr => first | (go_simp; done) | (go_simp; rfl)); (case hp => exact (Reps.one (show Kd.M (Kd.int .i64) _ _ _ 0 [.int .i64 0] from rfl) (Reps.one (show Kd.M (Kd.int .i64) _ _ _ 1 [.int .i64 1] from rfl) (Reps.none _ _)))); intro v344 w2 ho3 hb hg_ hnew_; clear hg_ hnew_; (first | rw [← Ny343.out] at ho3 | (simp only [Int.reduceToNat] at ho3; rw [← Ny343.out] at ho3)); have n0_ := A_ (Kd.R_lower ho3 (below_size (el HB))); have n1_ := A_ (below_step (el HB) hb); clear HB; have HO345 := n0_; have HB := n1_; clear n0_ n1_; clear hb ho3)); try go_wp2_with (first | ((with_reducible refine gate_dst (N := 7) rfl ?_); refine Kd.R_lit (Kd.int .i64) _ 2 ?hg (N := 7) ?hd (xs := ([0, 1] : List Int)) (inner := [.int .i64 0, .int .i64 1]) (ok := fun _ => True) (okp := fun _ => True) ?hr ?hp (fun _ hk => hk) trivial (Below.refl _ _) (Nat.le_refl _) (by simp) ?_; (case hd => rfl); (case hg => rfl); (case hr => first | (go_simp; done) | (go_simp; rfl)); (case hp => exact (Reps.one (show Kd.M (Kd.int .i64) _ _ _ 0 [.int .i64 0] from rfl) (Reps.one (show Kd.M (Kd.int .i64) _ _ _ 1 [.int .i64 1] from rfl) (Reps.none _ _)))); intro v344 w2 ho3 hb hg_ hnew_; clear hg_ hnew_; (first | rw [← Ny343.out] at ho3 | (simp only [Int.reduceToNat] at ho3; rw [← Ny343.out] at ho3)); have n0_ := A_ (Kd.R_lower ho3 (below_size (el HB))); have n1_ := A_ (below_step (el HB) hb); clear HB; have HO345 := n0_; have HB := n1_; clear n0_ n1_; clear hb ho3)))
 go_loopg [3, 4] k (fun kq v3 v4 w' => ∃ (x3_1 : List Int) (x4_1 : Int), v4 = .int .i64 x4_1 ∧ Aside0 (spec_l02Catalan.l0 kq a0 x3_1 x4_1 = some r) ∧ Aside0 (kq ≤ k) ∧ Aside0 (Kd.R (Kd.int .i64) 2 w' w.heap.size (fun _ => True) v3 x3_1) ∧ Aside0 (Below w.heap.size w w'))
 case atStart => exact ⟨(y343), (2), spec_l02Catalan.Z1, H', ⟨Nat.le_refl _⟩, ⟨ea HO345⟩, ⟨el HB⟩⟩
 case round =>
  clear H'
  try clear c1
  try clear p2
  obtain ⟨x3_1, x4_1, rfl, HA, HK1, HO_3, HB⟩ := hrel
  cases gk with
  | zero => exact absurd HA.out (by simp [spec_l02Catalan.l0])
  | succ k1 =>
   have H := HA.out
   clear HA
   simp only [spec_l02Catalan.l0] at H
   by_cases c4 : x4_1 ≤ a0
   ·rw [if_pos c4] at H
    have c4b0 : decide (x4_1 ≤ a0) = true := decide_eq_true c4
    clear c4
    have H' := A_ H
    clear H
    go_wp2
    repeat (go_quiet (fail); try go_wp2)
    go_loopg [5, 6] k1 (fun kq v5 v6 w' => ∃ (x5_2 : Int) (x6_2 : Int), v5 = .int .i64 x5_2 ∧ v6 = .int .i64 x6_2 ∧ Aside0 (spec_l02Catalan.l1 kq a0 x3_1 x4_1 x5_2 x6_2 = some r) ∧ Aside0 (kq ≤ k1) ∧ Aside0 (Kd.R (Kd.int .i64) 2 w' w.heap.size (fun _ => True) u3 x3_1) ∧ Aside0 (Below w.heap.size w w'))
    case atStart => exact ⟨(0), (1), spec_l02Catalan.Z1, spec_l02Catalan.Z1, H', ⟨Nat.le_refl _⟩, ⟨ea HO_3⟩, ⟨el HB⟩⟩
    case round =>
     clear H'
     try clear c1
     try clear p2
     try clear c4
     try clear c4b0
     try clear p2
     obtain ⟨x5_2, x6_2, rfl, rfl, HA, HK2, HO_3, HB⟩ := hrel
     cases gk with
     | zero => exact absurd HA.out (by simp [spec_l02Catalan.l1])
     | succ k2 =>
      have H := HA.out
      clear HA
      simp only [spec_l02Catalan.l1] at H
      by_cases c5 : x6_2 < x4_1
      ·rw [if_pos c5] at H
       have c5b0 : decide (x6_2 < x4_1) = true := decide_eq_true c5
       clear c5
       by_cases c6 : 0 ≤ x6_2
       rotate_left
       ·rw [if_neg c6] at H
        exact absurd H (by simp)
       rw [if_pos c6] at H
       have c6b0 : decide (0 ≤ x6_2) = true := decide_eq_true c6
       clear c6
       by_cases c7 : x6_2 < (x3_1.length : Int)
       rotate_left
       ·rw [if_neg c7] at H
        exact absurd H (by simp)
       rw [if_pos c7] at H
       have c7b0 : decide (x6_2 < (x3_1.length : Int)) = true := decide_eq_true c7
       clear c7
       obtain ⟨ji8, hji8⟩ : ∃ j_ : Int, (wrap64 (x4_1 - x6_2)) = j_ := ⟨_, rfl⟩
       replace H : (if 0 ≤ (ji8) then (if (ji8) < (x3_1.length : Int) then (spec_l02Catalan.l1 k2 a0 x3_1 x4_1 (wrap64 (x5_2 + (wrap64 ((rd x3_1 x6_2) * (rd x3_1 (ji8)))))) (wrap64 (x6_2 + 1))) else (none)) else (none)) = some r := by first | (rw [hji8] at H; exact H) | (simp only [hji8] at H ⊢; exact H)
       have hji8w : (IntKind.i64.wrap (x4_1 - x6_2)) = ji8 := (i64_w _).trans hji8
       by_cases c9 : 0 ≤ (ji8)
       rotate_left
       ·rw [if_neg c9] at H
        exact absurd H (by simp)
       rw [if_pos c9] at H
       have c9b0 : decide (0 ≤ (ji8)) = true := decide_eq_true c9
       clear c9
       by_cases c10 : (ji8) < (x3_1.length : Int)
       rotate_left
       ·rw [if_neg c10] at H
        exact absurd H (by simp)
       rw [if_pos c10] at H
       have c10b0 : decide ((ji8) < (x3_1.length : Int)) = true := decide_eq_true c10
       clear c10
       have H' := A_ H
       clear H
       obtain ⟨Ao11, co11, eo11⟩ := Kd.R_slice HO_3.out
       subst eo11
       have p346 : 0 ≤ (x6_2 : Int) := of_decide_eq_true spec_l02Catalan.Z0
       have q346 : x6_2 < (x3_1.length : Int) := of_decide_eq_true spec_l02Catalan.Z0
       obtain ⟨ad346, e346, hx346_0⟩ := Kd.at_int (Kd.R_reads' HO_3.out).2.2 x6_2 p346 q346
       cases e346
       replace p346 := eq_true p346
       replace q346 := eq_true q346
       have p347 : 0 ≤ ((ji8) : Int) := of_decide_eq_true spec_l02Catalan.Z0
       have q347 : (ji8) < (x3_1.length : Int) := of_decide_eq_true spec_l02Catalan.Z0
       obtain ⟨ad347, e347, hx347_0⟩ := Kd.at_int (Kd.R_reads' HO_3.out).2.2 (ji8) p347 q347
       obtain rfl : ad346 = ad347 := (by injection e347)
       replace p347 := eq_true p347
       replace q347 := eq_true q347
       go_wp2
       repeat (go_quiet (fail); try go_wp2)
       go_roundg k2
       case measure => have := HK1.out; have := HK2.out; omega
       case rel => exact ⟨(wrap64 (x5_2 + (wrap64 ((rd x3_1 x6_2) * (rd x3_1 (ji8)))))), (wrap64 (x6_2 + 1)), (by first | rfl | (simp; done) | (simp only [← hji8] <;> (first | rfl | simp)) | (simp [*]; done)), spec_l02Catalan.Z1, H', ⟨by have := HK1.out; have := HK2.out; omega⟩, ⟨es HO_3⟩, ⟨el HB⟩⟩
      ·rw [if_neg c5] at H
       have c5b0 : decide (x6_2 < x4_1) = false := decide_eq_false c5
       clear c5
       by_cases c12 : x3_1.length < 17592186044416
       rotate_left
       ·rw [if_neg c12] at H
        exact absurd H (by simp)
       rw [if_pos c12] at H
       have LMc12 := A_ c12
       clear c12
       obtain ⟨y348, hy348⟩ : ∃ y_ : List Int, y_ = (x3_1 ++ [x5_2]) := ⟨_, rfl⟩
       replace H : (spec_l02Catalan.l0 k2 a0 y348 (wrap64 (x4_1 + 1))) = some r := by first | (rw [hy348]; with_reducible exact H) | (have H2_ := (Option.bind_some _ _).symm.trans H; rw [hy348]; with_reducible exact H2_) | (have H2_ := (Option.bind_some _ _).symm.trans H; with_reducible exact H2_) | with_reducible exact H | (rw [hy348]; exact H) | exact H
       have Ny348 := A_ hy348
       clear hy348
       have H' := A_ H
       clear H
       go_wp2_with (first | ((with_reducible refine gate_builtin (b := .append) (xs := #[.tmp 31, .tmp 33]) rfl ?_); at_builtin; refine Kd.R_append (Kd.int .i64) (w0 := w) w.heap.size rfl (.tmp 31) (.tmp 33) 24 2 (.int .i64 0) 8 rfl Try.underlying24 info2 rfl (by decide) (by omega) u3 x3_1 x5_2 [.int .i64 x5_2] (fun _ => True) (fun _ => False) rfl rfl ?aP (fun _ hk => hk.elim) ?aF ?aO ?aB ?aS ?aL ?_; (case aP => exact rfl); (case aB => exact (el HB)); (case aF => exact (fun _ _ => trivial)); (case aO => exact (ea HO_3)); (case aS => exact (below_size (el HB))); (case aL => have := LMc12.out; omega); intro v349 w13 ho hb hg hat; rw [← Ny348.out] at ho; have n0_ := A_ (hb); have n1_ := A_ (ho); clear HB; clear HO_3; have HB := n0_; have HO350 := n1_; clear n0_ n1_; clear ho hb hg hat))
       repeat (go_quiet (first | ((with_reducible refine gate_builtin (b := .append) (xs := #[.tmp 31, .tmp 33]) rfl ?_); at_builtin; refine Kd.R_append (Kd.int .i64) (w0 := w) w.heap.size rfl (.tmp 31) (.tmp 33) 24 2 (.int .i64 0) 8 rfl Try.underlying24 info2 rfl (by decide) (by omega) u3 x3_1 x5_2 [.int .i64 x5_2] (fun _ => True) (fun _ => False) rfl rfl ?aP (fun _ hk => hk.elim) ?aF ?aO ?aB ?aS ?aL ?_; (case aP => exact rfl); (case aB => exact (el HB)); (case aF => exact (fun _ _ => trivial)); (case aO => exact (ea HO_3)); (case aS => exact (below_size (el HB))); (case aL => have := LMc12.out; omega); intro v349 w13 ho hb hg hat; rw [← Ny348.out] at ho; have n0_ := A_ (hb); have n1_ := A_ (ho); clear HB; clear HO_3; have HB := n0_; have HO350 := n1_; clear n0_ n1_; clear ho hb hg hat)); try go_wp2_with (first | ((with_reducible refine gate_builtin (b := .append) (xs := #[.tmp 31, .tmp 33]) rfl ?_); at_builtin; refine Kd.R_append (Kd.int .i64) (w0 := w) w.heap.size rfl (.tmp 31) (.tmp 33) 24 2 (.int .i64 0) 8 rfl Try.underlying24 info2 rfl (by decide) (by omega) u3 x3_1 x5_2 [.int .i64 x5_2] (fun _ => True) (fun _ => False) rfl rfl ?aP (fun _ hk => hk.elim) ?aF ?aO ?aB ?aS ?aL ?_; (case aP => exact rfl); (case aB => exact (el HB)); (case aF => exact (fun _ _ => trivial)); (case aO => exact (ea HO_3)); (case aS => exact (below_size (el HB))); (case aL => have := LMc12.out; omega); intro v349 w13 ho hb hg hat; rw [← Ny348.out] at ho; have n0_ := A_ (hb); have n1_ := A_ (ho); clear HB; clear HO_3; have HB := n0_; have HO350 := n1_; clear n0_ n1_; clear ho hb hg hat)))
       go_roundg k2
       case measure => have := HK1.out; have := HK2.out; omega
       case rel => exact ⟨(y348), (wrap64 (x4_1 + 1)), spec_l02Catalan.Z1, H', ⟨by have := HK1.out; have := HK2.out; omega⟩, ⟨es HO350⟩, ⟨el HB⟩⟩
   ·rw [if_neg c4] at H
    have c4b0 : decide (x4_1 ≤ a0) = false := decide_eq_false c4
    clear c4
    obtain rfl := Option.some.inj H
    go_wp2
    repeat (go_quiet (fail); try go_wp2)
    go_ret
    exact ⟨_, er, by (with_reducible repeat (first | apply Kd.R_alloc | apply Kd.R_drewN | apply Kd.R_drew)); exact HO_3.out, el HB⟩

/-! ### spec_CountTrees: function 166 -/
def spec_CountTrees.f (k : Nat) (a0 : Int) : Option (Int × Int) := (spec_l01In.f a0 1 30).bind fun t351 => (if t351 = true then ((spec_l02Catalan.f k a0).bind fun t352 => (if 0 ≤ a0 then (if a0 < (t352.length : Int) then (some (rd t352 a0, 0)) else (none)) else (none))) else (some (0, 2)))
theorem spec_CountTrees.mono : ∀ a0 k, LeO (spec_CountTrees.f k a0) (spec_CountTrees.f (k + 1) a0) := by
  intro a0 k
  unfold spec_CountTrees.f
  repeat' first
      | (with_reducible exact spec_l02Catalan.mono _ _)
      | (with_reducible exact LeO.refl _)
      | (with_reducible exact LeO.none _)
      | (with_reducible refine LeO.ite ?_ ?_)
      | (with_reducible refine LeO.bind ?_ (fun _ => ?_))
      | exact spec_l02Catalan.mono _ _
      | exact LeO.none _
      | refine LeO.ite ?_ ?_
      | refine LeO.bind ?_ (fun _ => ?_)
theorem spec_CountTrees.Z0 {p : Prop} (h : p := by first | (with_reducible assumption) | assumption) : p := h
set_option maxHeartbeats 8000000 in
set_option maxRecDepth 100000 in
theorem spec_CountTrees.calls (k : Nat) (a0 : Int) (r1 : Int) (r2 : Int) (w : World) (h : spec_CountTrees.f k a0 = some (r1, r2)) :
  Calls Try.prog 166 #[.int .i64 a0] w fun e w' => e = .returned (.tuple #[.int .i64 r1, .int .i64 r2]) ∧ Below w.heap.size w w' := by
 have HB := A_ (Below.refl w.heap.size w)
 have H : ((spec_l01In.f a0 1 30).bind fun t351 => (if t351 = true then ((spec_l02Catalan.f k a0).bind fun t352 => (if 0 ≤ a0 then (if a0 < (t352.length : Int) then (some (rd t352 a0, 0)) else (none)) else (none))) else (some (0, 2)))) = some (r1, r2) := h
 clear h
 replace H := Option.bind_eq_some_iff.mp H
 obtain ⟨t351, A20, H⟩ := H
 replace H : (if t351 = true then ((spec_l02Catalan.f k a0).bind fun t352 => (if 0 ≤ a0 then (if a0 < (t352.length : Int) then (some (rd t352 a0, 0)) else (none)) else (none))) else (some (0, 2))) = some (r1, r2) := H
 have A2 := A_ A20
 clear A20
 by_cases c3 : t351 = true
 ·subst c3
  have H1 : ((spec_l02Catalan.f k a0).bind fun t352 => (if 0 ≤ a0 then (if a0 < (t352.length : Int) then (some (rd t352 a0, 0)) else (none)) else (none))) = some (r1, r2) := by rw [if_pos rfl] at H; exact H
  clear H
  have H := H1
  clear H1
  replace H := Option.bind_eq_some_iff.mp H
  obtain ⟨t352, A40, H⟩ := H
  replace H : (if 0 ≤ a0 then (if a0 < (t352.length : Int) then (some (rd t352 a0, 0)) else (none)) else (none)) = some (r1, r2) := H
  have A4 := A_ A40
  clear A40
  by_cases c5 : 0 ≤ a0
  rotate_left
  ·rw [if_neg c5] at H
   exact absurd H (by simp)
  rw [if_pos c5] at H
  have c5b0 : decide (0 ≤ a0) = true := decide_eq_true c5
  clear c5
  by_cases c6 : a0 < (t352.length : Int)
  rotate_left
  ·rw [if_neg c6] at H
   exact absurd H (by simp)
  rw [if_pos c6] at H
  have c6b0 : decide (a0 < (t352.length : Int)) = true := decide_eq_true c6
  clear c6
  simp only [Option.some.injEq, Prod.mk.injEq] at H
  obtain ⟨rfl, rfl⟩ := H
  go_enter Try.func166, Try.ntmps166
  go_wp2_with (first | ((with_reducible refine gate_callee (f := 162) rfl ?_); refine goesL_ (some 5) rfl rfl Try.func162 (by kernel_rfl) rfl #[.int .i64 a0, .int .i64 1, .int .i64 30] rfl eg ?_; (with_reducible refine (spec_l01In.calls a0 1 30 true _ A2.out).mono ?_); rintro e w' ⟨rfl, ⟨nd, rfl⟩⟩; refine ⟨_, rfl, ?_⟩) | ((with_reducible refine gate_callee (f := 157) rfl ?_); refine goesL_ (some 8) rfl rfl Try.func157 (by kernel_rfl) rfl #[.int .i64 a0] rfl eg ?_; (with_reducible refine (spec_l02Catalan.calls k a0 t352 _ A4.out).mono ?_); rintro e w7 ⟨v353, rfl, ho0, hb⟩; refine ⟨_, rfl, ?_⟩; have n0_ := A_ (Kd.R_lower ho0 (below_size (el HB))); have n1_ := A_ (below_step (el HB) hb); clear HB; have HO354 := n0_; have HB := n1_; clear n0_ n1_; (try clear hb); (try clear hb2); (try clear hk); (try clear hi); (try clear ho0); obtain ⟨Ao8, co8, eo8⟩ := Kd.R_slice HO354.out; subst eo8; have p355 : 0 ≤ (a0 : Int) := of_decide_eq_true spec_CountTrees.Z0; have q355 : a0 < (t352.length : Int) := of_decide_eq_true spec_CountTrees.Z0; obtain ⟨ad355, e355, hx355_0⟩ := Kd.at_int (Kd.R_reads' HO354.out).2.2 a0 p355 q355; cases e355; replace p355 := eq_true p355; replace q355 := eq_true q355))
  go_ret2
  exact ⟨er, el HB⟩
 ·replace c3 := Bool.eq_false_iff.mpr c3
  subst c3
  have H1 : (some (0, 2)) = some (r1, r2) := by rw [if_neg (show ¬ (false = true) by decide)] at H; exact H
  clear H
  have H := H1
  clear H1
  simp only [Option.some.injEq, Prod.mk.injEq] at H
  obtain ⟨rfl, rfl⟩ := H
  go_enter Try.func166, Try.ntmps166
  go_wp2_with (first | ((with_reducible refine gate_callee (f := 162) rfl ?_); refine goesL_ (some 5) rfl rfl Try.func162 (by kernel_rfl) rfl #[.int .i64 a0, .int .i64 1, .int .i64 30] rfl eg ?_; (with_reducible refine (spec_l01In.calls a0 1 30 false _ A2.out).mono ?_); rintro e w' ⟨rfl, ⟨nd, rfl⟩⟩; refine ⟨_, rfl, ?_⟩))
  go_ret2
  exact ⟨er, el HB⟩

/-! ### spec_DrawTreeOfRank: function 90 -/
def spec_DrawTreeOfRank.f (k : Nat) (l0 : List Int) : Option (Int × Int) := (spec_l01From.f k l0).bind fun bt356 => ((spec_l01Near.f bt356.1 bt356.2.1 bt356.2.2 24).bind fun bt360 => ((spec_l01Pick.f bt356.1 bt360.2.1 bt360.2.2 (([1, 2, 3, 4, 5, 8, 12, 20, bt360.1] : List Int))).bind fun bt366 => ((spec_l01Pick.f bt356.1 bt366.2.1 bt366.2.2 (([3, 20, 1000, 100000000] : List Int))).bind fun bt372 => ((spec_l01Near.f bt356.1 bt372.2.1 bt372.2.2 bt372.1).bind fun bt375 => ((spec_CountTrees.f k bt366.1).bind fun bt378 => (if bt378.2 = 0 then ((spec_l01Next.f bt356.1 bt375.2.1 bt375.2.2 3).bind fun bt380 => (if bt380.1 = 0 then ((spec_l01Next.f bt356.1 bt380.2.1 bt380.2.2 2).bind fun bt383 => (some (bt366.1, wrap64 ((wrap64 (bt378.1 - 1)) + bt383.1)))) else (some (bt366.1, bt375.1)))) else (some (bt366.1, bt375.1))))))))
theorem spec_DrawTreeOfRank.mono : ∀ a0 k, LeO (spec_DrawTreeOfRank.f k a0) (spec_DrawTreeOfRank.f (k + 1) a0) := by
  intro a0 k
  unfold spec_DrawTreeOfRank.f
  repeat' first
      | (with_reducible exact spec_CountTrees.mono _ _)
      | (with_reducible exact spec_l01From.mono _ _)
      | (with_reducible exact LeO.refl _)
      | (with_reducible exact LeO.none _)
      | (with_reducible refine LeO.ite ?_ ?_)
      | (with_reducible refine LeO.bind ?_ (fun _ => ?_))
      | exact spec_CountTrees.mono _ _
      | exact spec_l01From.mono _ _
      | exact LeO.none _
      | refine LeO.ite ?_ ?_
      | refine LeO.bind ?_ (fun _ => ?_)
set_option maxHeartbeats 8000000 in
set_option maxRecDepth 100000 in
theorem spec_DrawTreeOfRank.calls (k : Nat) (A0 : Option Addr) (c0 : Nat) (l0 : List Int) (r1 : Int) (r2 : Int) (w : World) (hr0 : Kd.C (Kd.int .u8) w A0 l0.length l0) (hc0 : l0.length ≤ c0) (h : spec_DrawTreeOfRank.f k l0 = some (r1, r2)) :
  Calls Try.prog 90 #[.slice A0 l0.length c0] w fun e w' => e = .returned (.tuple #[.int .i64 r1, .int .i64 r2]) ∧ Below w.heap.size w w' := by
 have HR0 := A_ hr0
 have HC0 := A_ hc0
 clear hr0 hc0
 have HB := A_ (Below.refl w.heap.size w)
 have H : ((spec_l01From.f k l0).bind fun bt356 => ((spec_l01Near.f bt356.1 bt356.2.1 bt356.2.2 24).bind fun bt360 => ((spec_l01Pick.f bt356.1 bt360.2.1 bt360.2.2 (([1, 2, 3, 4, 5, 8, 12, 20, bt360.1] : List Int))).bind fun bt366 => ((spec_l01Pick.f bt356.1 bt366.2.1 bt366.2.2 (([3, 20, 1000, 100000000] : List Int))).bind fun bt372 => ((spec_l01Near.f bt356.1 bt372.2.1 bt372.2.2 bt372.1).bind fun bt375 => ((spec_CountTrees.f k bt366.1).bind fun bt378 => (if bt378.2 = 0 then ((spec_l01Next.f bt356.1 bt375.2.1 bt375.2.2 3).bind fun bt380 => (if bt380.1 = 0 then ((spec_l01Next.f bt356.1 bt380.2.1 bt380.2.2 2).bind fun bt383 => (some (bt366.1, wrap64 ((wrap64 (bt378.1 - 1)) + bt383.1)))) else (some (bt366.1, bt375.1)))) else (some (bt366.1, bt375.1))))))))) = some (r1, r2) := h
 clear h
 replace H := Option.bind_eq_some_iff.mp H
 obtain ⟨⟨t356, t357, t358⟩, A20, H⟩ := H
 replace H : ((spec_l01Near.f t356 t357 t358 24).bind fun bt360 => ((spec_l01Pick.f t356 bt360.2.1 bt360.2.2 (([1, 2, 3, 4, 5, 8, 12, 20, bt360.1] : List Int))).bind fun bt366 => ((spec_l01Pick.f t356 bt366.2.1 bt366.2.2 (([3, 20, 1000, 100000000] : List Int))).bind fun bt372 => ((spec_l01Near.f t356 bt372.2.1 bt372.2.2 bt372.1).bind fun bt375 => ((spec_CountTrees.f k bt366.1).bind fun bt378 => (if bt378.2 = 0 then ((spec_l01Next.f t356 bt375.2.1 bt375.2.2 3).bind fun bt380 => (if bt380.1 = 0 then ((spec_l01Next.f t356 bt380.2.1 bt380.2.2 2).bind fun bt383 => (some (bt366.1, wrap64 ((wrap64 (bt378.1 - 1)) + bt383.1)))) else (some (bt366.1, bt375.1)))) else (some (bt366.1, bt375.1)))))))) = some (r1, r2) := H
 have A2 := A_ A20
 clear A20
 replace H := Option.bind_eq_some_iff.mp H
 obtain ⟨⟨t360, t361, t362⟩, A30, H⟩ := H
 replace H : ((spec_l01Pick.f t356 t361 t362 (([1, 2, 3, 4, 5, 8, 12, 20, t360] : List Int))).bind fun bt366 => ((spec_l01Pick.f t356 bt366.2.1 bt366.2.2 (([3, 20, 1000, 100000000] : List Int))).bind fun bt372 => ((spec_l01Near.f t356 bt372.2.1 bt372.2.2 bt372.1).bind fun bt375 => ((spec_CountTrees.f k bt366.1).bind fun bt378 => (if bt378.2 = 0 then ((spec_l01Next.f t356 bt375.2.1 bt375.2.2 3).bind fun bt380 => (if bt380.1 = 0 then ((spec_l01Next.f t356 bt380.2.1 bt380.2.2 2).bind fun bt383 => (some (bt366.1, wrap64 ((wrap64 (bt378.1 - 1)) + bt383.1)))) else (some (bt366.1, bt375.1)))) else (some (bt366.1, bt375.1))))))) = some (r1, r2) := H
 have A3 := A_ A30
 clear A30
 obtain ⟨y363, hy363⟩ : ∃ y_ : List Int, y_ = (([1, 2, 3, 4, 5, 8, 12, 20, t360] : List Int)) := ⟨_, rfl⟩
 replace H : ((spec_l01Pick.f t356 t361 t362 y363).bind fun bt366 => ((spec_l01Pick.f t356 bt366.2.1 bt366.2.2 (([3, 20, 1000, 100000000] : List Int))).bind fun bt372 => ((spec_l01Near.f t356 bt372.2.1 bt372.2.2 bt372.1).bind fun bt375 => ((spec_CountTrees.f k bt366.1).bind fun bt378 => (if bt378.2 = 0 then ((spec_l01Next.f t356 bt375.2.1 bt375.2.2 3).bind fun bt380 => (if bt380.1 = 0 then ((spec_l01Next.f t356 bt380.2.1 bt380.2.2 2).bind fun bt383 => (some (bt366.1, wrap64 ((wrap64 (bt378.1 - 1)) + bt383.1)))) else (some (bt366.1, bt375.1)))) else (some (bt366.1, bt375.1))))))) = some (r1, r2) := by first | (rw [hy363]; with_reducible exact H) | (have H2_ := (Option.bind_some _ _).symm.trans H; rw [hy363]; with_reducible exact H2_) | (have H2_ := (Option.bind_some _ _).symm.trans H; with_reducible exact H2_) | with_reducible exact H | (rw [hy363]; exact H) | exact H
 have Ny363 := A_ hy363
 clear hy363
 replace H := Option.bind_eq_some_iff.mp H
 obtain ⟨⟨t366, t367, t368⟩, A40, H⟩ := H
 replace H : ((spec_l01Pick.f t356 t367 t368 (([3, 20, 1000, 100000000] : List Int))).bind fun bt372 => ((spec_l01Near.f t356 bt372.2.1 bt372.2.2 bt372.1).bind fun bt375 => ((spec_CountTrees.f k t366).bind fun bt378 => (if bt378.2 = 0 then ((spec_l01Next.f t356 bt375.2.1 bt375.2.2 3).bind fun bt380 => (if bt380.1 = 0 then ((spec_l01Next.f t356 bt380.2.1 bt380.2.2 2).bind fun bt383 => (some (t366, wrap64 ((wrap64 (bt378.1 - 1)) + bt383.1)))) else (some (t366, bt375.1)))) else (some (t366, bt375.1)))))) = some (r1, r2) := H
 have A4 := A_ A40
 clear A40
 obtain ⟨y369, hy369⟩ : ∃ y_ : List Int, y_ = (([3, 20, 1000, 100000000] : List Int)) := ⟨_, rfl⟩
 replace H : ((spec_l01Pick.f t356 t367 t368 y369).bind fun bt372 => ((spec_l01Near.f t356 bt372.2.1 bt372.2.2 bt372.1).bind fun bt375 => ((spec_CountTrees.f k t366).bind fun bt378 => (if bt378.2 = 0 then ((spec_l01Next.f t356 bt375.2.1 bt375.2.2 3).bind fun bt380 => (if bt380.1 = 0 then ((spec_l01Next.f t356 bt380.2.1 bt380.2.2 2).bind fun bt383 => (some (t366, wrap64 ((wrap64 (bt378.1 - 1)) + bt383.1)))) else (some (t366, bt375.1)))) else (some (t366, bt375.1)))))) = some (r1, r2) := by first | (rw [hy369]; with_reducible exact H) | (have H2_ := (Option.bind_some _ _).symm.trans H; rw [hy369]; with_reducible exact H2_) | (have H2_ := (Option.bind_some _ _).symm.trans H; with_reducible exact H2_) | with_reducible exact H | (rw [hy369]; exact H) | exact H
 have Ny369 := A_ hy369
 clear hy369
 replace H := Option.bind_eq_some_iff.mp H
 obtain ⟨⟨t372, t373, t374⟩, A50, H⟩ := H
 replace H : ((spec_l01Near.f t356 t373 t374 t372).bind fun bt375 => ((spec_CountTrees.f k t366).bind fun bt378 => (if bt378.2 = 0 then ((spec_l01Next.f t356 bt375.2.1 bt375.2.2 3).bind fun bt380 => (if bt380.1 = 0 then ((spec_l01Next.f t356 bt380.2.1 bt380.2.2 2).bind fun bt383 => (some (t366, wrap64 ((wrap64 (bt378.1 - 1)) + bt383.1)))) else (some (t366, bt375.1)))) else (some (t366, bt375.1))))) = some (r1, r2) := H
 have A5 := A_ A50
 clear A50
 replace H := Option.bind_eq_some_iff.mp H
 obtain ⟨⟨t375, t376, t377⟩, A60, H⟩ := H
 replace H : ((spec_CountTrees.f k t366).bind fun bt378 => (if bt378.2 = 0 then ((spec_l01Next.f t356 t376 t377 3).bind fun bt380 => (if bt380.1 = 0 then ((spec_l01Next.f t356 bt380.2.1 bt380.2.2 2).bind fun bt383 => (some (t366, wrap64 ((wrap64 (bt378.1 - 1)) + bt383.1)))) else (some (t366, t375)))) else (some (t366, t375)))) = some (r1, r2) := H
 have A6 := A_ A60
 clear A60
 replace H := Option.bind_eq_some_iff.mp H
 obtain ⟨⟨t378, t379⟩, A70, H⟩ := H
 replace H : (if t379 = 0 then ((spec_l01Next.f t356 t376 t377 3).bind fun bt380 => (if bt380.1 = 0 then ((spec_l01Next.f t356 bt380.2.1 bt380.2.2 2).bind fun bt383 => (some (t366, wrap64 ((wrap64 (t378 - 1)) + bt383.1)))) else (some (t366, t375)))) else (some (t366, t375))) = some (r1, r2) := H
 have A7 := A_ A70
 clear A70
 by_cases c8 : t379 = 0
 ·rw [if_pos c8] at H
  have c8b0 : (t379 == 0) = true := beq_iff_eq.mpr c8
  have c8b1 : (t379 != 0) = false := bne_eq_false_iff_eq.mpr c8
  clear c8
  replace H := Option.bind_eq_some_iff.mp H
  obtain ⟨⟨t380, t381, t382⟩, A90, H⟩ := H
  replace H : (if t380 = 0 then ((spec_l01Next.f t356 t381 t382 2).bind fun bt383 => (some (t366, wrap64 ((wrap64 (t378 - 1)) + bt383.1)))) else (some (t366, t375))) = some (r1, r2) := H
  have A9 := A_ A90
  clear A90
  by_cases c10 : t380 = 0
  ·rw [if_pos c10] at H
   have c10b0 : (t380 == 0) = true := beq_iff_eq.mpr c10
   have c10b1 : (t380 != 0) = false := bne_eq_false_iff_eq.mpr c10
   clear c10
   replace H := Option.bind_eq_some_iff.mp H
   obtain ⟨⟨t383, t384, t385⟩, A110, H⟩ := H
   replace H : (some (t366, wrap64 ((wrap64 (t378 - 1)) + t383))) = some (r1, r2) := H
   have A11 := A_ A110
   clear A110
   simp only [Option.some.injEq, Prod.mk.injEq] at H
   obtain ⟨rfl, rfl⟩ := H
   go_enter Try.func90, Try.ntmps90
   go_wp2_with (first | ((with_reducible refine gate_callee (f := 99) rfl ?_); refine goesL_ (some 10) rfl rfl Try.func99 (by kernel_rfl) rfl #[.slice A0 l0.length c0] rfl eg ?_; (with_reducible refine (spec_l01From.calls k _ _ l0 t356 t357 t358 w _ ?side1 ?side2 ?side3 A2.out).mono ?_); (case side1 => exact el HB); (case side2 => exact HR0.out); (case side3 => exact HC0.out); rintro e w12 ⟨g359, rfl, hi, hb, hb2⟩; refine ⟨_, rfl, ?_⟩; have n0_ := A_ (hb); have n1_ := A_ (hi); clear HB; have HB := n0_; have HI359 := n1_; clear n0_ n1_; (try clear hb); (try clear hb2); (try clear hk); (try clear hi)) | ((with_reducible refine gate_callee (f := 127) rfl ?_); refine goesL_ (some 13) rfl rfl Try.func127 (by kernel_rfl) rfl #[.pointer (some ⟨g359, 0, none⟩), .int .i64 24] rfl eg ?_; (with_reducible refine (spec_l01Near.calls g359 t356 t357 t358 24 t360 t361 t362 w _ ?side1 ?side2 A3.out).mono ?_); (case side1 => exact ei121 HI359); (case side2 => exact em121 HB); rintro e w13 ⟨rfl, hi, hb, hk⟩; refine ⟨_, rfl, ?_⟩; have n0_ := A_ (hb); have n1_ := A_ (hi); clear HB; clear HI359; have HB := n0_; have HI359 := n1_; clear n0_ n1_; (try clear hb); (try clear hb2); (try clear hk); (try clear hi)) | ((with_reducible refine gate_dst (N := 14) rfl ?_); refine Kd.R_lit (Kd.int .i64) _ 2 ?hg (N := 14) ?hd (xs := ([1, 2, 3, 4, 5, 8, 12, 20, t360] : List Int)) (inner := [.int .i64 1, .int .i64 2, .int .i64 3, .int .i64 4, .int .i64 5, .int .i64 8, .int .i64 12, .int .i64 20, .int .i64 t360]) (ok := fun _ => True) (okp := fun _ => True) ?hr ?hp (fun _ hk => hk) trivial (Below.refl _ _) (Nat.le_refl _) (by simp) ?_; (case hd => rfl); (case hg => rfl); (case hr => first | (go_simp; done) | (go_simp; rfl)); (case hp => exact (Reps.one (show Kd.M (Kd.int .i64) _ _ _ 1 [.int .i64 1] from rfl) (Reps.one (show Kd.M (Kd.int .i64) _ _ _ 2 [.int .i64 2] from rfl) (Reps.one (show Kd.M (Kd.int .i64) _ _ _ 3 [.int .i64 3] from rfl) (Reps.one (show Kd.M (Kd.int .i64) _ _ _ 4 [.int .i64 4] from rfl) (Reps.one (show Kd.M (Kd.int .i64) _ _ _ 5 [.int .i64 5] from rfl) (Reps.one (show Kd.M (Kd.int .i64) _ _ _ 8 [.int .i64 8] from rfl) (Reps.one (show Kd.M (Kd.int .i64) _ _ _ 12 [.int .i64 12] from rfl) (Reps.one (show Kd.M (Kd.int .i64) _ _ _ 20 [.int .i64 20] from rfl) (Reps.one (show Kd.M (Kd.int .i64) _ _ _ t360 [.int .i64 t360] from rfl) (Reps.none _ _))))))))))); intro v364 w14 ho15 hb hg_ hnew_; clear hg_ hnew_; (first | rw [← Ny363.out] at ho15 | (simp only [Int.reduceToNat] at ho15; rw [← Ny363.out] at ho15)); have n0_ := A_ (Kd.R_lower ho15 (below_size (em121 HB))); have n1_ := A_ (IsS121.below (ei121 HI359) hb); have n2_ := A_ (below_step (em121 HB) hb); clear HI359; clear HB; have HO365 := n0_; have HI359 := n1_; have HB := n2_; clear n0_ n1_ n2_; clear hb ho15; obtain ⟨Ao16, co16, eo16⟩ := Kd.R_slice HO365.out; subst eo16) | ((with_reducible refine gate_callee (f := 147) rfl ?_); refine goesL_ (some 15) rfl rfl Try.func147 (by kernel_rfl) rfl #[.pointer (some ⟨g359, 0, none⟩), .slice Ao16 y363.length co16] rfl eg ?_; (with_reducible refine (spec_l01Pick.calls g359 t356 t361 t362 _ _ y363 t366 t367 t368 w _ ?side1 ?side2 ?side3 ?side4 ?side5 A4.out).mono ?_); (case side1 => exact ei121 HI359); (case side2 => exact em121 HB); (case side3 => repeat (first | exact (Kd.R_reads' HO365.out).2.2 | (with_reducible refine Kd.C_alloc ?_ _) | (with_reducible refine Kd.C_drewN ?_ _) | (with_reducible refine Kd.C_drew ?_))); (case side4 => exact (Kd.R_reads' HO365.out).2.1); (case side5 => exact far_slice (IsS121.own_ne HI359.out HO365.out (by decide))); rintro e w17 ⟨rfl, hi, hb, hk⟩; refine ⟨_, rfl, ?_⟩; have n0_ := A_ (Kd.R_mono (Kd.R_keep (IsS121.apart (show IsS121 w _ g359 t356 t361 t362 from ei121 HI359) (ea HO365) (by decide)) hk (fun _ h => h.2)) (fun _ h => h.1)); have n1_ := A_ (hb); have n2_ := A_ (hi); clear HO365; clear HB; clear HI359; have HO365 := n0_; have HB := n1_; have HI359 := n2_; clear n0_ n1_ n2_; (try clear hb); (try clear hb2); (try clear hk); (try clear hi)) | ((with_reducible refine gate_dst (N := 18) rfl ?_); refine Kd.R_lit (Kd.int .i64) _ 2 ?hg (N := 18) ?hd (xs := ([3, 20, 1000, 100000000] : List Int)) (inner := [.int .i64 3, .int .i64 20, .int .i64 1000, .int .i64 100000000]) (ok := fun _ => True) (okp := fun _ => True) ?hr ?hp (fun _ hk => hk) trivial (Below.refl _ _) (Nat.le_refl _) (by simp) ?_; (case hd => rfl); (case hg => rfl); (case hr => first | (go_simp; done) | (go_simp; rfl)); (case hp => exact (Reps.one (show Kd.M (Kd.int .i64) _ _ _ 3 [.int .i64 3] from rfl) (Reps.one (show Kd.M (Kd.int .i64) _ _ _ 20 [.int .i64 20] from rfl) (Reps.one (show Kd.M (Kd.int .i64) _ _ _ 1000 [.int .i64 1000] from rfl) (Reps.one (show Kd.M (Kd.int .i64) _ _ _ 100000000 [.int .i64 100000000] from rfl) (Reps.none _ _)))))); intro v370 w18 ho19 hb hg_ hnew_; clear hg_ hnew_; (first | rw [← Ny369.out] at ho19 | (simp only [Int.reduceToNat] at ho19; rw [← Ny369.out] at ho19)); have n0_ := A_ (Kd.R_elder' (ea HO365) (Kd.R_base ho19) hb); have n1_ := A_ (Kd.R_lower (Kd.R_new' ho19 (Kd.R_lt (ea HO365))) (below_size (em121 HB))); have n2_ := A_ (IsS121.below (ei121 HI359) hb); have n3_ := A_ (below_step (em121 HB) hb); clear HO365; clear HI359; clear HB; have HO365 := n0_; have HO371 := n1_; have HI359 := n2_; have HB := n3_; clear n0_ n1_ n2_ n3_; clear hb ho19; obtain ⟨Ao20, co20, eo20⟩ := Kd.R_slice HO371.out; subst eo20) | ((with_reducible refine gate_callee (f := 147) rfl ?_); refine goesL_ (some 19) rfl rfl Try.func147 (by kernel_rfl) rfl #[.pointer (some ⟨g359, 0, none⟩), .slice Ao20 y369.length co20] rfl eg ?_; (with_reducible refine (spec_l01Pick.calls g359 t356 t367 t368 _ _ y369 t372 t373 t374 w _ ?side1 ?side2 ?side3 ?side4 ?side5 A5.out).mono ?_); (case side1 => exact ei121 HI359); (case side2 => exact em121 HB); (case side3 => repeat (first | exact (Kd.R_reads' HO371.out).2.2 | (with_reducible refine Kd.C_alloc ?_ _) | (with_reducible refine Kd.C_drewN ?_ _) | (with_reducible refine Kd.C_drew ?_))); (case side4 => exact (Kd.R_reads' HO371.out).2.1); (case side5 => exact far_slice (IsS121.own_ne HI359.out HO371.out (by decide))); rintro e w21 ⟨rfl, hi, hb, hk⟩; refine ⟨_, rfl, ?_⟩; have n0_ := A_ (Kd.R_mono (Kd.R_keep (IsS121.apart (show IsS121 w _ g359 t356 t367 t368 from ei121 HI359) (ea HO365) (by decide)) hk (fun _ h => h.2)) (fun _ h => h.1)); have n1_ := A_ (Kd.R_mono (Kd.R_keep (IsS121.apart (show IsS121 w _ g359 t356 t367 t368 from ei121 HI359) (ea HO371) (by decide)) hk (fun _ h => h.2)) (fun _ h => h.1)); have n2_ := A_ (hb); have n3_ := A_ (hi); clear HO365; clear HO371; clear HB; clear HI359; have HO365 := n0_; have HO371 := n1_; have HB := n2_; have HI359 := n3_; clear n0_ n1_ n2_ n3_; (try clear hb); (try clear hb2); (try clear hk); (try clear hi)) | ((with_reducible refine gate_callee (f := 127) rfl ?_); refine goesL_ (some 20) rfl rfl Try.func127 (by kernel_rfl) rfl #[.pointer (some ⟨g359, 0, none⟩), .int .i64 t372] rfl eg ?_; (with_reducible refine (spec_l01Near.calls g359 t356 t373 t374 t372 t375 t376 t377 w _ ?side1 ?side2 A6.out).mono ?_); (case side1 => exact ei121 HI359); (case side2 => exact em121 HB); rintro e w22 ⟨rfl, hi, hb, hk⟩; refine ⟨_, rfl, ?_⟩; have n0_ := A_ (Kd.R_mono (Kd.R_keep (IsS121.apart (show IsS121 w _ g359 t356 t373 t374 from ei121 HI359) (ea HO365) (by decide)) hk (fun _ h => h.2)) (fun _ h => h.1)); have n1_ := A_ (Kd.R_mono (Kd.R_keep (IsS121.apart (show IsS121 w _ g359 t356 t373 t374 from ei121 HI359) (ea HO371) (by decide)) hk (fun _ h => h.2)) (fun _ h => h.1)); have n2_ := A_ (hb); have n3_ := A_ (hi); clear HO365; clear HO371; clear HB; clear HI359; have HO365 := n0_; have HO371 := n1_; have HB := n2_; have HI359 := n3_; clear n0_ n1_ n2_ n3_; (try clear hb); (try clear hb2); (try clear hk); (try clear hi)) | ((with_reducible refine gate_callee (f := 166) rfl ?_); refine goesL_ (some 23) rfl rfl Try.func166 (by kernel_rfl) rfl #[.int .i64 t366] rfl eg ?_; (with_reducible refine (spec_CountTrees.calls k t366 t378 t379 _ A7.out).mono ?_); rintro e w23 ⟨rfl, hb⟩; refine ⟨_, rfl, ?_⟩; have n0_ := A_ (Kd.R_below (ea HO365) hb); have n1_ := A_ (Kd.R_below (ea HO371) hb); have n2_ := A_ (IsS121.below (ei121 HI359) hb); have n3_ := A_ (below_step (em121 HB) hb); clear HO365; clear HO371; clear HI359; clear HB; have HO365 := n0_; have HO371 := n1_; have HI359 := n2_; have HB := n3_; clear n0_ n1_ n2_ n3_; (try clear hb); (try clear hb2); (try clear hk); (try clear hi)) | (go_at_call 123; (with_reducible refine (spec_l01Next.calls g359 t356 t376 t377 3 t380 t381 t382 w _ ?side1 ?side2 A9.out).mono ?_); (case side1 => exact ei121 HI359); (case side2 => exact em121 HB); rintro e w24 ⟨rfl, hi, hb, hk⟩; have n0_ := A_ (Kd.R_mono (Kd.R_keep (IsS121.apart (show IsS121 w _ g359 t356 t376 t377 from ei121 HI359) (ea HO365) (by decide)) hk (fun _ h => h.2)) (fun _ h => h.1)); have n1_ := A_ (Kd.R_mono (Kd.R_keep (IsS121.apart (show IsS121 w _ g359 t356 t376 t377 from ei121 HI359) (ea HO371) (by decide)) hk (fun _ h => h.2)) (fun _ h => h.1)); have n2_ := A_ (hb); have n3_ := A_ (hi); clear HO365; clear HO371; clear HB; clear HI359; have HO365 := n0_; have HO371 := n1_; have HB := n2_; have HI359 := n3_; clear n0_ n1_ n2_ n3_; (try clear hb); (try clear hb2); (try clear hk); (try clear hi)) | ((with_reducible refine gate_callee (f := 123) rfl ?_); refine goesL_ (some 36) rfl rfl Try.func123 (by kernel_rfl) rfl #[.pointer (some ⟨g359, 0, none⟩), .int .i64 2] rfl eg ?_; (with_reducible refine (spec_l01Next.calls g359 t356 t381 t382 2 t383 t384 t385 w _ ?side1 ?side2 A11.out).mono ?_); (case side1 => exact ei121 HI359); (case side2 => exact em121 HB); rintro e w25 ⟨rfl, hi, hb, hk⟩; refine ⟨_, rfl, ?_⟩; have n0_ := A_ (Kd.R_mono (Kd.R_keep (IsS121.apart (show IsS121 w _ g359 t356 t381 t382 from ei121 HI359) (ea HO365) (by decide)) hk (fun _ h => h.2)) (fun _ h => h.1)); have n1_ := A_ (Kd.R_mono (Kd.R_keep (IsS121.apart (show IsS121 w _ g359 t356 t381 t382 from ei121 HI359) (ea HO371) (by decide)) hk (fun _ h => h.2)) (fun _ h => h.1)); have n2_ := A_ (hb); have n3_ := A_ (hi); clear HO365; clear HO371; clear HB; clear HI359; have HO365 := n0_; have HO371 := n1_; have HB := n2_; have HI359 := n3_; clear n0_ n1_ n2_ n3_; (try clear hb); (try clear hb2); (try clear hk); (try clear hi)))
   go_ret2
   exact ⟨er, em121 HB⟩
  ·rw [if_neg c10] at H
   have c10b0 : (t380 == 0) = false := beq_eq_false_iff_ne.mpr c10
   have c10b1 : (t380 != 0) = true := bne_iff_ne.mpr c10
   simp only [Option.some.injEq, Prod.mk.injEq] at H
   obtain ⟨rfl, rfl⟩ := H
   go_enter Try.func90, Try.ntmps90
   go_wp2_with (first | ((with_reducible refine gate_callee (f := 99) rfl ?_); refine goesL_ (some 10) rfl rfl Try.func99 (by kernel_rfl) rfl #[.slice A0 l0.length c0] rfl eg ?_; (with_reducible refine (spec_l01From.calls k _ _ l0 t356 t357 t358 w _ ?side1 ?side2 ?side3 A2.out).mono ?_); (case side1 => exact el HB); (case side2 => exact HR0.out); (case side3 => exact HC0.out); rintro e w26 ⟨g359, rfl, hi, hb, hb2⟩; refine ⟨_, rfl, ?_⟩; have n0_ := A_ (hb); have n1_ := A_ (hi); clear HB; have HB := n0_; have HI359 := n1_; clear n0_ n1_; (try clear hb); (try clear hb2); (try clear hk); (try clear hi)) | ((with_reducible refine gate_callee (f := 127) rfl ?_); refine goesL_ (some 13) rfl rfl Try.func127 (by kernel_rfl) rfl #[.pointer (some ⟨g359, 0, none⟩), .int .i64 24] rfl eg ?_; (with_reducible refine (spec_l01Near.calls g359 t356 t357 t358 24 t360 t361 t362 w _ ?side1 ?side2 A3.out).mono ?_); (case side1 => exact ei121 HI359); (case side2 => exact em121 HB); rintro e w27 ⟨rfl, hi, hb, hk⟩; refine ⟨_, rfl, ?_⟩; have n0_ := A_ (hb); have n1_ := A_ (hi); clear HB; clear HI359; have HB := n0_; have HI359 := n1_; clear n0_ n1_; (try clear hb); (try clear hb2); (try clear hk); (try clear hi)) | ((with_reducible refine gate_dst (N := 14) rfl ?_); refine Kd.R_lit (Kd.int .i64) _ 2 ?hg (N := 14) ?hd (xs := ([1, 2, 3, 4, 5, 8, 12, 20, t360] : List Int)) (inner := [.int .i64 1, .int .i64 2, .int .i64 3, .int .i64 4, .int .i64 5, .int .i64 8, .int .i64 12, .int .i64 20, .int .i64 t360]) (ok := fun _ => True) (okp := fun _ => True) ?hr ?hp (fun _ hk => hk) trivial (Below.refl _ _) (Nat.le_refl _) (by simp) ?_; (case hd => rfl); (case hg => rfl); (case hr => first | (go_simp; done) | (go_simp; rfl)); (case hp => exact (Reps.one (show Kd.M (Kd.int .i64) _ _ _ 1 [.int .i64 1] from rfl) (Reps.one (show Kd.M (Kd.int .i64) _ _ _ 2 [.int .i64 2] from rfl) (Reps.one (show Kd.M (Kd.int .i64) _ _ _ 3 [.int .i64 3] from rfl) (Reps.one (show Kd.M (Kd.int .i64) _ _ _ 4 [.int .i64 4] from rfl) (Reps.one (show Kd.M (Kd.int .i64) _ _ _ 5 [.int .i64 5] from rfl) (Reps.one (show Kd.M (Kd.int .i64) _ _ _ 8 [.int .i64 8] from rfl) (Reps.one (show Kd.M (Kd.int .i64) _ _ _ 12 [.int .i64 12] from rfl) (Reps.one (show Kd.M (Kd.int .i64) _ _ _ 20 [.int .i64 20] from rfl) (Reps.one (show Kd.M (Kd.int .i64) _ _ _ t360 [.int .i64 t360] from rfl) (Reps.none _ _))))))))))); intro v364 w28 ho29 hb hg_ hnew_; clear hg_ hnew_; (first | rw [← Ny363.out] at ho29 | (simp only [Int.reduceToNat] at ho29; rw [← Ny363.out] at ho29)); have n0_ := A_ (Kd.R_lower ho29 (below_size (em121 HB))); have n1_ := A_ (IsS121.below (ei121 HI359) hb); have n2_ := A_ (below_step (em121 HB) hb); clear HI359; clear HB; have HO365 := n0_; have HI359 := n1_; have HB := n2_; clear n0_ n1_ n2_; clear hb ho29; obtain ⟨Ao30, co30, eo30⟩ := Kd.R_slice HO365.out; subst eo30) | ((with_reducible refine gate_callee (f := 147) rfl ?_); refine goesL_ (some 15) rfl rfl Try.func147 (by kernel_rfl) rfl #[.pointer (some ⟨g359, 0, none⟩), .slice Ao30 y363.length co30] rfl eg ?_; (with_reducible refine (spec_l01Pick.calls g359 t356 t361 t362 _ _ y363 t366 t367 t368 w _ ?side1 ?side2 ?side3 ?side4 ?side5 A4.out).mono ?_); (case side1 => exact ei121 HI359); (case side2 => exact em121 HB); (case side3 => repeat (first | exact (Kd.R_reads' HO365.out).2.2 | (with_reducible refine Kd.C_alloc ?_ _) | (with_reducible refine Kd.C_drewN ?_ _) | (with_reducible refine Kd.C_drew ?_))); (case side4 => exact (Kd.R_reads' HO365.out).2.1); (case side5 => exact far_slice (IsS121.own_ne HI359.out HO365.out (by decide))); rintro e w31 ⟨rfl, hi, hb, hk⟩; refine ⟨_, rfl, ?_⟩; have n0_ := A_ (Kd.R_mono (Kd.R_keep (IsS121.apart (show IsS121 w _ g359 t356 t361 t362 from ei121 HI359) (ea HO365) (by decide)) hk (fun _ h => h.2)) (fun _ h => h.1)); have n1_ := A_ (hb); have n2_ := A_ (hi); clear HO365; clear HB; clear HI359; have HO365 := n0_; have HB := n1_; have HI359 := n2_; clear n0_ n1_ n2_; (try clear hb); (try clear hb2); (try clear hk); (try clear hi)) | ((with_reducible refine gate_dst (N := 18) rfl ?_); refine Kd.R_lit (Kd.int .i64) _ 2 ?hg (N := 18) ?hd (xs := ([3, 20, 1000, 100000000] : List Int)) (inner := [.int .i64 3, .int .i64 20, .int .i64 1000, .int .i64 100000000]) (ok := fun _ => True) (okp := fun _ => True) ?hr ?hp (fun _ hk => hk) trivial (Below.refl _ _) (Nat.le_refl _) (by simp) ?_; (case hd => rfl); (case hg => rfl); (case hr => first | (go_simp; done) | (go_simp; rfl)); (case hp => exact (Reps.one (show Kd.M (Kd.int .i64) _ _ _ 3 [.int .i64 3] from rfl) (Reps.one (show Kd.M (Kd.int .i64) _ _ _ 20 [.int .i64 20] from rfl) (Reps.one (show Kd.M (Kd.int .i64) _ _ _ 1000 [.int .i64 1000] from rfl) (Reps.one (show Kd.M (Kd.int .i64) _ _ _ 100000000 [.int .i64 100000000] from rfl) (Reps.none _ _)))))); intro v370 w32 ho33 hb hg_ hnew_; clear hg_ hnew_; (first | rw [← Ny369.out] at ho33 | (simp only [Int.reduceToNat] at ho33; rw [← Ny369.out] at ho33)); have n0_ := A_ (Kd.R_elder' (ea HO365) (Kd.R_base ho33) hb); have n1_ := A_ (Kd.R_lower (Kd.R_new' ho33 (Kd.R_lt (ea HO365))) (below_size (em121 HB))); have n2_ := A_ (IsS121.below (ei121 HI359) hb); have n3_ := A_ (below_step (em121 HB) hb); clear HO365; clear HI359; clear HB; have HO365 := n0_; have HO371 := n1_; have HI359 := n2_; have HB := n3_; clear n0_ n1_ n2_ n3_; clear hb ho33; obtain ⟨Ao34, co34, eo34⟩ := Kd.R_slice HO371.out; subst eo34) | ((with_reducible refine gate_callee (f := 147) rfl ?_); refine goesL_ (some 19) rfl rfl Try.func147 (by kernel_rfl) rfl #[.pointer (some ⟨g359, 0, none⟩), .slice Ao34 y369.length co34] rfl eg ?_; (with_reducible refine (spec_l01Pick.calls g359 t356 t367 t368 _ _ y369 t372 t373 t374 w _ ?side1 ?side2 ?side3 ?side4 ?side5 A5.out).mono ?_); (case side1 => exact ei121 HI359); (case side2 => exact em121 HB); (case side3 => repeat (first | exact (Kd.R_reads' HO371.out).2.2 | (with_reducible refine Kd.C_alloc ?_ _) | (with_reducible refine Kd.C_drewN ?_ _) | (with_reducible refine Kd.C_drew ?_))); (case side4 => exact (Kd.R_reads' HO371.out).2.1); (case side5 => exact far_slice (IsS121.own_ne HI359.out HO371.out (by decide))); rintro e w35 ⟨rfl, hi, hb, hk⟩; refine ⟨_, rfl, ?_⟩; have n0_ := A_ (Kd.R_mono (Kd.R_keep (IsS121.apart (show IsS121 w _ g359 t356 t367 t368 from ei121 HI359) (ea HO365) (by decide)) hk (fun _ h => h.2)) (fun _ h => h.1)); have n1_ := A_ (Kd.R_mono (Kd.R_keep (IsS121.apart (show IsS121 w _ g359 t356 t367 t368 from ei121 HI359) (ea HO371) (by decide)) hk (fun _ h => h.2)) (fun _ h => h.1)); have n2_ := A_ (hb); have n3_ := A_ (hi); clear HO365; clear HO371; clear HB; clear HI359; have HO365 := n0_; have HO371 := n1_; have HB := n2_; have HI359 := n3_; clear n0_ n1_ n2_ n3_; (try clear hb); (try clear hb2); (try clear hk); (try clear hi)) | ((with_reducible refine gate_callee (f := 127) rfl ?_); refine goesL_ (some 20) rfl rfl Try.func127 (by kernel_rfl) rfl #[.pointer (some ⟨g359, 0, none⟩), .int .i64 t372] rfl eg ?_; (with_reducible refine (spec_l01Near.calls g359 t356 t373 t374 t372 t375 t376 t377 w _ ?side1 ?side2 A6.out).mono ?_); (case side1 => exact ei121 HI359); (case side2 => exact em121 HB); rintro e w36 ⟨rfl, hi, hb, hk⟩; refine ⟨_, rfl, ?_⟩; have n0_ := A_ (Kd.R_mono (Kd.R_keep (IsS121.apart (show IsS121 w _ g359 t356 t373 t374 from ei121 HI359) (ea HO365) (by decide)) hk (fun _ h => h.2)) (fun _ h => h.1)); have n1_ := A_ (Kd.R_mono (Kd.R_keep (IsS121.apart (show IsS121 w _ g359 t356 t373 t374 from ei121 HI359) (ea HO371) (by decide)) hk (fun _ h => h.2)) (fun _ h => h.1)); have n2_ := A_ (hb); have n3_ := A_ (hi); clear HO365; clear HO371; clear HB; clear HI359; have HO365 := n0_; have HO371 := n1_; have HB := n2_; have HI359 := n3_; clear n0_ n1_ n2_ n3_; (try clear hb); (try clear hb2); (try clear hk); (try clear hi)) | ((with_reducible refine gate_callee (f := 166) rfl ?_); refine goesL_ (some 23) rfl rfl Try.func166 (by kernel_rfl) rfl #[.int .i64 t366] rfl eg ?_; (with_reducible refine (spec_CountTrees.calls k t366 t378 t379 _ A7.out).mono ?_); rintro e w37 ⟨rfl, hb⟩; refine ⟨_, rfl, ?_⟩; have n0_ := A_ (Kd.R_below (ea HO365) hb); have n1_ := A_ (Kd.R_below (ea HO371) hb); have n2_ := A_ (IsS121.below (ei121 HI359) hb); have n3_ := A_ (below_step (em121 HB) hb); clear HO365; clear HO371; clear HI359; clear HB; have HO365 := n0_; have HO371 := n1_; have HI359 := n2_; have HB := n3_; clear n0_ n1_ n2_ n3_; (try clear hb); (try clear hb2); (try clear hk); (try clear hi)) | (go_at_call 123; (with_reducible refine (spec_l01Next.calls g359 t356 t376 t377 3 t380 t381 t382 w _ ?side1 ?side2 A9.out).mono ?_); (case side1 => exact ei121 HI359); (case side2 => exact em121 HB); rintro e w38 ⟨rfl, hi, hb, hk⟩; have n0_ := A_ (Kd.R_mono (Kd.R_keep (IsS121.apart (show IsS121 w _ g359 t356 t376 t377 from ei121 HI359) (ea HO365) (by decide)) hk (fun _ h => h.2)) (fun _ h => h.1)); have n1_ := A_ (Kd.R_mono (Kd.R_keep (IsS121.apart (show IsS121 w _ g359 t356 t376 t377 from ei121 HI359) (ea HO371) (by decide)) hk (fun _ h => h.2)) (fun _ h => h.1)); have n2_ := A_ (hb); have n3_ := A_ (hi); clear HO365; clear HO371; clear HB; clear HI359; have HO365 := n0_; have HO371 := n1_; have HB := n2_; have HI359 := n3_; clear n0_ n1_ n2_ n3_; (try clear hb); (try clear hb2); (try clear hk); (try clear hi)))
   go_ret2
   exact ⟨er, em121 HB⟩
 ·rw [if_neg c8] at H
  have c8b0 : (t379 == 0) = false := beq_eq_false_iff_ne.mpr c8
  have c8b1 : (t379 != 0) = true := bne_iff_ne.mpr c8
  simp only [Option.some.injEq, Prod.mk.injEq] at H
  obtain ⟨rfl, rfl⟩ := H
  go_enter Try.func90, Try.ntmps90
  go_wp2_with (first | ((with_reducible refine gate_callee (f := 99) rfl ?_); refine goesL_ (some 10) rfl rfl Try.func99 (by kernel_rfl) rfl #[.slice A0 l0.length c0] rfl eg ?_; (with_reducible refine (spec_l01From.calls k _ _ l0 t356 t357 t358 w _ ?side1 ?side2 ?side3 A2.out).mono ?_); (case side1 => exact el HB); (case side2 => exact HR0.out); (case side3 => exact HC0.out); rintro e w39 ⟨g359, rfl, hi, hb, hb2⟩; refine ⟨_, rfl, ?_⟩; have n0_ := A_ (hb); have n1_ := A_ (hi); clear HB; have HB := n0_; have HI359 := n1_; clear n0_ n1_; (try clear hb); (try clear hb2); (try clear hk); (try clear hi)) | ((with_reducible refine gate_callee (f := 127) rfl ?_); refine goesL_ (some 13) rfl rfl Try.func127 (by kernel_rfl) rfl #[.pointer (some ⟨g359, 0, none⟩), .int .i64 24] rfl eg ?_; (with_reducible refine (spec_l01Near.calls g359 t356 t357 t358 24 t360 t361 t362 w _ ?side1 ?side2 A3.out).mono ?_); (case side1 => exact ei121 HI359); (case side2 => exact em121 HB); rintro e w40 ⟨rfl, hi, hb, hk⟩; refine ⟨_, rfl, ?_⟩; have n0_ := A_ (hb); have n1_ := A_ (hi); clear HB; clear HI359; have HB := n0_; have HI359 := n1_; clear n0_ n1_; (try clear hb); (try clear hb2); (try clear hk); (try clear hi)) | ((with_reducible refine gate_dst (N := 14) rfl ?_); refine Kd.R_lit (Kd.int .i64) _ 2 ?hg (N := 14) ?hd (xs := ([1, 2, 3, 4, 5, 8, 12, 20, t360] : List Int)) (inner := [.int .i64 1, .int .i64 2, .int .i64 3, .int .i64 4, .int .i64 5, .int .i64 8, .int .i64 12, .int .i64 20, .int .i64 t360]) (ok := fun _ => True) (okp := fun _ => True) ?hr ?hp (fun _ hk => hk) trivial (Below.refl _ _) (Nat.le_refl _) (by simp) ?_; (case hd => rfl); (case hg => rfl); (case hr => first | (go_simp; done) | (go_simp; rfl)); (case hp => exact (Reps.one (show Kd.M (Kd.int .i64) _ _ _ 1 [.int .i64 1] from rfl) (Reps.one (show Kd.M (Kd.int .i64) _ _ _ 2 [.int .i64 2] from rfl) (Reps.one (show Kd.M (Kd.int .i64) _ _ _ 3 [.int .i64 3] from rfl) (Reps.one (show Kd.M (Kd.int .i64) _ _ _ 4 [.int .i64 4] from rfl) (Reps.one (show Kd.M (Kd.int .i64) _ _ _ 5 [.int .i64 5] from rfl) (Reps.one (show Kd.M (Kd.int .i64) _ _ _ 8 [.int .i64 8] from rfl) (Reps.one (show Kd.M (Kd.int .i64) _ _ _ 12 [.int .i64 12] from rfl) (Reps.one (show Kd.M (Kd.int .i64) _ _ _ 20 [.int .i64 20] from rfl) (Reps.one (show Kd.M (Kd.int .i64) _ _ _ t360 [.int .i64 t360] from rfl) (Reps.none _ _))))))))))); intro v364 w41 ho42 hb hg_ hnew_; clear hg_ hnew_; (first | rw [← Ny363.out] at ho42 | (simp only [Int.reduceToNat] at ho42; rw [← Ny363.out] at ho42)); have n0_ := A_ (Kd.R_lower ho42 (below_size (em121 HB))); have n1_ := A_ (IsS121.below (ei121 HI359) hb); have n2_ := A_ (below_step (em121 HB) hb); clear HI359; clear HB; have HO365 := n0_; have HI359 := n1_; have HB := n2_; clear n0_ n1_ n2_; clear hb ho42; obtain ⟨Ao43, co43, eo43⟩ := Kd.R_slice HO365.out; subst eo43) | ((with_reducible refine gate_callee (f := 147) rfl ?_); refine goesL_ (some 15) rfl rfl Try.func147 (by kernel_rfl) rfl #[.pointer (some ⟨g359, 0, none⟩), .slice Ao43 y363.length co43] rfl eg ?_; (with_reducible refine (spec_l01Pick.calls g359 t356 t361 t362 _ _ y363 t366 t367 t368 w _ ?side1 ?side2 ?side3 ?side4 ?side5 A4.out).mono ?_); (case side1 => exact ei121 HI359); (case side2 => exact em121 HB); (case side3 => repeat (first | exact (Kd.R_reads' HO365.out).2.2 | (with_reducible refine Kd.C_alloc ?_ _) | (with_reducible refine Kd.C_drewN ?_ _) | (with_reducible refine Kd.C_drew ?_))); (case side4 => exact (Kd.R_reads' HO365.out).2.1); (case side5 => exact far_slice (IsS121.own_ne HI359.out HO365.out (by decide))); rintro e w44 ⟨rfl, hi, hb, hk⟩; refine ⟨_, rfl, ?_⟩; have n0_ := A_ (Kd.R_mono (Kd.R_keep (IsS121.apart (show IsS121 w _ g359 t356 t361 t362 from ei121 HI359) (ea HO365) (by decide)) hk (fun _ h => h.2)) (fun _ h => h.1)); have n1_ := A_ (hb); have n2_ := A_ (hi); clear HO365; clear HB; clear HI359; have HO365 := n0_; have HB := n1_; have HI359 := n2_; clear n0_ n1_ n2_; (try clear hb); (try clear hb2); (try clear hk); (try clear hi)) | ((with_reducible refine gate_dst (N := 18) rfl ?_); refine Kd.R_lit (Kd.int .i64) _ 2 ?hg (N := 18) ?hd (xs := ([3, 20, 1000, 100000000] : List Int)) (inner := [.int .i64 3, .int .i64 20, .int .i64 1000, .int .i64 100000000]) (ok := fun _ => True) (okp := fun _ => True) ?hr ?hp (fun _ hk => hk) trivial (Below.refl _ _) (Nat.le_refl _) (by simp) ?_; (case hd => rfl); (case hg => rfl); (case hr => first | (go_simp; done) | (go_simp; rfl)); (case hp => exact (Reps.one (show Kd.M (Kd.int .i64) _ _ _ 3 [.int .i64 3] from rfl) (Reps.one (show Kd.M (Kd.int .i64) _ _ _ 20 [.int .i64 20] from rfl) (Reps.one (show Kd.M (Kd.int .i64) _ _ _ 1000 [.int .i64 1000] from rfl) (Reps.one (show Kd.M (Kd.int .i64) _ _ _ 100000000 [.int .i64 100000000] from rfl) (Reps.none _ _)))))); intro v370 w45 ho46 hb hg_ hnew_; clear hg_ hnew_; (first | rw [← Ny369.out] at ho46 | (simp only [Int.reduceToNat] at ho46; rw [← Ny369.out] at ho46)); have n0_ := A_ (Kd.R_elder' (ea HO365) (Kd.R_base ho46) hb); have n1_ := A_ (Kd.R_lower (Kd.R_new' ho46 (Kd.R_lt (ea HO365))) (below_size (em121 HB))); have n2_ := A_ (IsS121.below (ei121 HI359) hb); have n3_ := A_ (below_step (em121 HB) hb); clear HO365; clear HI359; clear HB; have HO365 := n0_; have HO371 := n1_; have HI359 := n2_; have HB := n3_; clear n0_ n1_ n2_ n3_; clear hb ho46; obtain ⟨Ao47, co47, eo47⟩ := Kd.R_slice HO371.out; subst eo47) | ((with_reducible refine gate_callee (f := 147) rfl ?_); refine goesL_ (some 19) rfl rfl Try.func147 (by kernel_rfl) rfl #[.pointer (some ⟨g359, 0, none⟩), .slice Ao47 y369.length co47] rfl eg ?_; (with_reducible refine (spec_l01Pick.calls g359 t356 t367 t368 _ _ y369 t372 t373 t374 w _ ?side1 ?side2 ?side3 ?side4 ?side5 A5.out).mono ?_); (case side1 => exact ei121 HI359); (case side2 => exact em121 HB); (case side3 => repeat (first | exact (Kd.R_reads' HO371.out).2.2 | (with_reducible refine Kd.C_alloc ?_ _) | (with_reducible refine Kd.C_drewN ?_ _) | (with_reducible refine Kd.C_drew ?_))); (case side4 => exact (Kd.R_reads' HO371.out).2.1); (case side5 => exact far_slice (IsS121.own_ne HI359.out HO371.out (by decide))); rintro e w48 ⟨rfl, hi, hb, hk⟩; refine ⟨_, rfl, ?_⟩; have n0_ := A_ (Kd.R_mono (Kd.R_keep (IsS121.apart (show IsS121 w _ g359 t356 t367 t368 from ei121 HI359) (ea HO365) (by decide)) hk (fun _ h => h.2)) (fun _ h => h.1)); have n1_ := A_ (Kd.R_mono (Kd.R_keep (IsS121.apart (show IsS121 w _ g359 t356 t367 t368 from ei121 HI359) (ea HO371) (by decide)) hk (fun _ h => h.2)) (fun _ h => h.1)); have n2_ := A_ (hb); have n3_ := A_ (hi); clear HO365; clear HO371; clear HB; clear HI359; have HO365 := n0_; have HO371 := n1_; have HB := n2_; have HI359 := n3_; clear n0_ n1_ n2_ n3_; (try clear hb); (try clear hb2); (try clear hk); (try clear hi)) | ((with_reducible refine gate_callee (f := 127) rfl ?_); refine goesL_ (some 20) rfl rfl Try.func127 (by kernel_rfl) rfl #[.pointer (some ⟨g359, 0, none⟩), .int .i64 t372] rfl eg ?_; (with_reducible refine (spec_l01Near.calls g359 t356 t373 t374 t372 t375 t376 t377 w _ ?side1 ?side2 A6.out).mono ?_); (case side1 => exact ei121 HI359); (case side2 => exact em121 HB); rintro e w49 ⟨rfl, hi, hb, hk⟩; refine ⟨_, rfl, ?_⟩; have n0_ := A_ (Kd.R_mono (Kd.R_keep (IsS121.apart (show IsS121 w _ g359 t356 t373 t374 from ei121 HI359) (ea HO365) (by decide)) hk (fun _ h => h.2)) (fun _ h => h.1)); have n1_ := A_ (Kd.R_mono (Kd.R_keep (IsS121.apart (show IsS121 w _ g359 t356 t373 t374 from ei121 HI359) (ea HO371) (by decide)) hk (fun _ h => h.2)) (fun _ h => h.1)); have n2_ := A_ (hb); have n3_ := A_ (hi); clear HO365; clear HO371; clear HB; clear HI359; have HO365 := n0_; have HO371 := n1_; have HB := n2_; have HI359 := n3_; clear n0_ n1_ n2_ n3_; (try clear hb); (try clear hb2); (try clear hk); (try clear hi)) | ((with_reducible refine gate_callee (f := 166) rfl ?_); refine goesL_ (some 23) rfl rfl Try.func166 (by kernel_rfl) rfl #[.int .i64 t366] rfl eg ?_; (with_reducible refine (spec_CountTrees.calls k t366 t378 t379 _ A7.out).mono ?_); rintro e w50 ⟨rfl, hb⟩; refine ⟨_, rfl, ?_⟩; have n0_ := A_ (Kd.R_below (ea HO365) hb); have n1_ := A_ (Kd.R_below (ea HO371) hb); have n2_ := A_ (IsS121.below (ei121 HI359) hb); have n3_ := A_ (below_step (em121 HB) hb); clear HO365; clear HO371; clear HI359; clear HB; have HO365 := n0_; have HO371 := n1_; have HI359 := n2_; have HB := n3_; clear n0_ n1_ n2_ n3_; (try clear hb); (try clear hb2); (try clear hk); (try clear hi)))
  go_ret2
  exact ⟨er, em121 HB⟩

/-! ### impl_isNodes: function 158 -/
def impl_isNodes.f (a0 : Int) : Option (Bool) := if a0 ≥ 1 then (some (decide (a0 ≤ 24))) else (some false)
set_option maxHeartbeats 8000000 in
set_option maxRecDepth 100000 in
theorem impl_isNodes.calls (a0 : Int) (r : Bool) (w : World) (h : impl_isNodes.f a0 = some r) :
  Calls Try.prog 158 #[.int .i64 a0] w fun e w' => e = .returned (.bool r) ∧ Drawn0 w w' := by
 have H : (if a0 ≥ 1 then (some (decide (a0 ≤ 24))) else (some false)) = some r := h
 clear h
 by_cases c2 : a0 ≥ 1
 ·rw [if_pos c2] at H
  have c2b0 : decide (1 ≤ a0) = true := decide_eq_true c2
  clear c2
  obtain rfl := Option.some.inj H
  go_enter Try.func158, Try.ntmps158
  go_wp2
  go_ret
  exact ⟨by first | rfl | (simp; done) | (simp [*]; done), by repeat (first | exact Drawn0.refl _ | apply Drawn0.step)⟩
 ·rw [if_neg c2] at H
  have c2b0 : decide (1 ≤ a0) = false := decide_eq_false c2
  clear c2
  obtain rfl := Option.some.inj H
  go_enter Try.func158, Try.ntmps158
  go_wp2
  go_ret
  exact ⟨by first | rfl | (simp; done) | (simp [*]; done), by repeat (first | exact Drawn0.refl _ | apply Drawn0.step)⟩

/-! ### impl_TreeOfRank: function 91 -/
def impl_TreeOfRank.j0 : Nat → Int → Int → Bool → Option (List Int × Int)
  | 0, _, _, _ => none
  | k + 1, x0, x1, x14 => if x14 = true then (some (([] : List Int), 2)) else ((impl_treeOfRank.f x0 x1).bind fun bt388 => (if bt388.2 = true then (some (bt388.1, 0)) else (some (([] : List Int), 4))))
def impl_TreeOfRank.f (k : Nat) (a0 : Int) (a1 : Int) : Option (List Int × Int) := (impl_isNodes.f a0).bind fun t387 => (if t387 = true then (impl_TreeOfRank.j0 k a0 a1 (decide (a1 < 0))) else (impl_TreeOfRank.j0 k a0 a1 true))
theorem impl_TreeOfRank.mono_l : ∀ k, (∀ y0 y1 y2, LeO (impl_TreeOfRank.j0 k y0 y1 y2) (impl_TreeOfRank.j0 (k + 1) y0 y1 y2))
  | 0 => fun _ _ _ r h => by simp [impl_TreeOfRank.j0] at h
  | k + 1 => by
    have ih0 := impl_TreeOfRank.mono_l k
    · intro y0 y1 y2
      unfold impl_TreeOfRank.j0
      repeat' first
      | (with_reducible exact ih0 _ _ _)
      | (with_reducible exact LeO.refl _)
      | (with_reducible exact LeO.none _)
      | (with_reducible refine LeO.ite ?_ ?_)
      | (with_reducible refine LeO.bind ?_ (fun _ => ?_))
      | exact ih0 _ _ _
      | exact LeO.none _
      | refine LeO.ite ?_ ?_
      | refine LeO.bind ?_ (fun _ => ?_)
theorem impl_TreeOfRank.mono : ∀ a0 a1 k, LeO (impl_TreeOfRank.f k a0 a1) (impl_TreeOfRank.f (k + 1) a0 a1) := by
  intro a0 a1 k
  have ih0 := impl_TreeOfRank.mono_l k
  unfold impl_TreeOfRank.f
  repeat' first
      | (with_reducible exact ih0 _ _ _)
      | (with_reducible exact LeO.refl _)
      | (with_reducible exact LeO.none _)
      | (with_reducible refine LeO.ite ?_ ?_)
      | (with_reducible refine LeO.bind ?_ (fun _ => ?_))
      | exact ih0 _ _ _
      | exact LeO.none _
      | refine LeO.ite ?_ ?_
      | refine LeO.bind ?_ (fun _ => ?_)
theorem impl_TreeOfRank.Z0 {p : Prop} (h : p := by (with_reducible repeat (first | refine blk_drewN ?_ _ | refine blk_drew ?_ | refine blk_alloc ?_ _)); refine blk_put (cs := #[.slice none 0 0]) ?_ 0 _ rfl; (with_reducible repeat (first | refine blk_drewN ?_ _ | refine blk_drew ?_ | refine blk_alloc ?_ _)); refine blk_far ?_ NB386_392.out _; (with_reducible repeat (first | refine blk_drewN ?_ _ | refine blk_drew ?_ | refine blk_alloc ?_ _)); exact BK386.out) : p := h
theorem impl_TreeOfRank.Z1 {p : Prop} (h : p := by first | rfl | (simp; done) | (simp [*]; done)) : p := h
set_option maxHeartbeats 8000000 in
set_option maxRecDepth 100000 in
theorem impl_TreeOfRank.calls (k : Nat) (a0 : Int) (a1 : Int) (r1 : List Int) (r2 : Int) (w : World) (h : impl_TreeOfRank.f k a0 a1 = some (r1, r2)) :
  Calls Try.prog 91 #[.int .i64 a0, .int .i64 a1] w fun e w' => ∃ v0_ : Value, e = .returned (.tuple #[.agg #[v0_], .int .i64 r2]) ∧ Kd.R (Kd.int .i64) 2 w' w.heap.size (fun _ => True) v0_ r1 ∧ Below w.heap.size w w' := by
 have hu26 := Try.underlying26
 have HB := A_ (Below.refl w.heap.size w)
 have H : ((impl_isNodes.f a0).bind fun t387 => (if t387 = true then (impl_TreeOfRank.j0 k a0 a1 (decide (a1 < 0))) else (impl_TreeOfRank.j0 k a0 a1 true))) = some (r1, r2) := h
 clear h
 have HC3 := A_ H
 clear H
 go_enter Try.func91, Try.ntmps91
 go_upto_region 1 with (first | ((with_reducible refine gate_dst (N := 4) rfl ?_); refine box_event ?hg (N := 4) ?hd (cs := #[.slice none 0 0]) (t := 26) ?hr ?_; (case hd => rfl); (case hg => rfl); (case hr => first | (go_simp; done) | (go_simp; rfl)); intro gb386 hg w4 hbox hb; have n0_ := A_ (below_step (el HB) hb); have n1_ := A_ (hbox); have n2_ := A_ ((by rw [hg]; exact (below_size (el HB)) : w.heap.size ≤ gb386)); have n3_ := A_ ((by rw [hg]; exact (below_size (el HB)) : w.heap.size ≤ gb386)); clear HB; have HB := n0_; have BK386 := n1_; have GW386 := n2_; have GE386 := n3_; clear n0_ n1_ n2_ n3_; clear hb hbox hg))
 (try simp only [Act.put, List.setIfInBounds_toArray, List.set_cons_zero, List.set_cons_succ])
 go_cut [14] (fun v14 wc => ∃ (kq : Nat) (x14_2 : Bool), v14 = .bool x14_2 ∧ Aside0 (impl_TreeOfRank.j0 kq a0 a1 x14_2 = some (r1, r2)) ∧ Aside0 (kq ≤ k) ∧ Aside0 (wc.heap[gb386]? = some (.cells #[(.slice none 0 0)] 26 (0, 0))) ∧ Aside0 (Below w.heap.size w wc))
 case first =>
  have H := HC3.out
  clear HC3
  replace H := Option.bind_eq_some_iff.mp H
  obtain ⟨t387, A50, H⟩ := H
  replace H : (if t387 = true then (impl_TreeOfRank.j0 k a0 a1 (decide (a1 < 0))) else (impl_TreeOfRank.j0 k a0 a1 true)) = some (r1, r2) := H
  have A5 := A_ A50
  clear A50
  by_cases c6 : t387 = true
  ·subst c6
   have H1 : (impl_TreeOfRank.j0 k a0 a1 (decide (a1 < 0))) = some (r1, r2) := by rw [if_pos rfl] at H; exact H
   clear H
   have H := H1
   clear H1
   have H' := A_ H
   clear H
   go_wp2_with (first | ((with_reducible refine gate_callee (f := 158) rfl ?_); refine goesL_ (some 9) rfl rfl Try.func158 (by kernel_rfl) rfl #[.int .i64 a0] rfl eg ?_; (with_reducible refine (impl_isNodes.calls a0 true _ A5.out).mono ?_); rintro e w' ⟨rfl, ⟨nd, rfl⟩⟩; refine ⟨_, rfl, ?_⟩))
   go_meet
   case rel => exact ⟨_, (decide (a1 < 0)), impl_TreeOfRank.Z1, H', ⟨by first | omega | exact Nat.le_refl _⟩, ⟨eb BK386⟩, ⟨el HB⟩⟩
  ·replace c6 := Bool.eq_false_iff.mpr c6
   subst c6
   have H1 : (impl_TreeOfRank.j0 k a0 a1 true) = some (r1, r2) := by rw [if_neg (show ¬ (false = true) by decide)] at H; exact H
   clear H
   have H := H1
   clear H1
   have H' := A_ H
   clear H
   go_wp2_with (first | ((with_reducible refine gate_callee (f := 158) rfl ?_); refine goesL_ (some 9) rfl rfl Try.func158 (by kernel_rfl) rfl #[.int .i64 a0] rfl eg ?_; (with_reducible refine (impl_isNodes.calls a0 false _ A5.out).mono ?_); rintro e w' ⟨rfl, ⟨nd, rfl⟩⟩; refine ⟨_, rfl, ?_⟩))
   go_meet
   case rel => exact ⟨_, (true), impl_TreeOfRank.Z1, H', ⟨by first | omega | exact Nat.le_refl _⟩, ⟨eb BK386⟩, ⟨el HB⟩⟩
 case rest =>
  clear HC3
  try clear c1
  try clear p2
  try clear c6
  obtain ⟨kq, x14_2, rfl, HA, HJ2, BK386, HB⟩ := hcut
  cases kq with
  | zero => exact absurd HA.out (by simp [impl_TreeOfRank.j0])
  | succ kj2 =>
   have H := HA.out
   clear HA
   simp only [impl_TreeOfRank.j0] at H
   by_cases c7 : x14_2 = true
   ·subst c7
    have H1 : (some (([] : List Int), 2)) = some (r1, r2) := by rw [if_pos rfl] at H; exact H
    clear H
    have H := H1
    clear H1
    simp only [Option.some.injEq, Prod.mk.injEq] at H
    obtain ⟨rfl, rfl⟩ := H
    have hcz8_0 : wc.cell? ⟨gb386, 0, none⟩ = some (.slice none 0 0) := (blk_cell BK386.out 0).trans rfl
    have hfz8_0 := blk_frozen BK386.out 0
    go_wp2
    refine bodyPost_ret (results_ct rfl _ _ gb386 26 #[.slice none 0 0] (0, 0) _ rfl (by (with_reducible repeat (first | refine blk_drewN ?_ _ | refine blk_drew ?_ | refine blk_alloc ?_ _)); refine blk_put (cs := #[.slice none 0 0]) ?_ 0 _ rfl; (with_reducible repeat (first | refine blk_drewN ?_ _ | refine blk_drew ?_ | refine blk_alloc ?_ _)); exact BK386.out) Try.underlying26 rfl (by kernel_rfl)) rfl ?_
    exact ⟨_, er, by first | exact Kd.R_nil _ _ _ _ _ | exact Kd.N_nil _ _ _ _ _ | exact Kd.V_nil _ _ _ _ _ | exact Kd.Q_nil _ _ _ _ _ | exact Kd.S_nil _ _ _ _ _, el HB⟩
   ·replace c7 := Bool.eq_false_iff.mpr c7
    subst c7
    have H1 : ((impl_treeOfRank.f a0 a1).bind fun bt388 => (if bt388.2 = true then (some (bt388.1, 0)) else (some (([] : List Int), 4)))) = some (r1, r2) := by rw [if_neg (show ¬ (false = true) by decide)] at H; exact H
    clear H
    have H := H1
    clear H1
    replace H := Option.bind_eq_some_iff.mp H
    obtain ⟨⟨t388, t391⟩, A90, H⟩ := H
    replace H : (if t391 = true then (some (t388, 0)) else (some (([] : List Int), 4))) = some (r1, r2) := H
    have A9 := A_ A90
    clear A90
    by_cases c10 : t391 = true
    ·subst c10
     have H1 : (some (t388, 0)) = some (r1, r2) := by rw [if_pos rfl] at H; exact H
     clear H
     have H := H1
     clear H1
     simp only [Option.some.injEq, Prod.mk.injEq] at H
     obtain ⟨rfl, rfl⟩ := H
     go_wp2_with (first | ((with_reducible refine gate_callee (f := 165) rfl ?_); refine goesL_ (some 19) rfl rfl Try.func165 (by kernel_rfl) rfl #[.int .i64 a0, .int .i64 a1] rfl eg ?_; (with_reducible refine (impl_treeOfRank.calls a0 a1 t388 true _ A9.out).mono ?_); rintro e w11 ⟨v389, rfl, ho0, hb⟩; refine ⟨_, rfl, ?_⟩; have n0_ := A_ (Kd.R_lower ho0 (below_size (el HB))); have n1_ := A_ (eB BK386 hb); have n2_ := A_ (below_step (el HB) hb); clear BK386; clear HB; have HO390 := n0_; have BK386 := n1_; have HB := n2_; clear n0_ n1_ n2_; (try clear hb); (try clear hb2); (try clear hk); (try clear hi); (try clear ho0)) | ((with_reducible refine gate_dst (N := 6) rfl ?_); refine box_event ?hg (N := 6) ?hd (cs := #[.slice none 0 0]) (t := 26) ?hr ?_; (case hd => rfl); (case hg => rfl); (case hr => first | (go_simp; done) | (go_simp; rfl)); intro gb392 hg w12 hbox hb; have n0_ := A_ (Kd.R_below (ea HO390) hb); have n1_ := A_ (eB BK386 hb); have n2_ := A_ (below_step (el HB) hb); have n3_ := A_ (hbox); have n4_ := A_ ((by rw [hg]; exact (below_size (el HB)) : w.heap.size ≤ gb392)); have n5_ := A_ ((by rw [hg]; exact (below_size (el HB)) : w.heap.size ≤ gb392)); have n6_ := A_ ((by rw [hg]; exact Nat.ne_of_lt (eL BK386) : gb386 ≠ gb392)); have n7_ := A_ ((by rw [hg]; exact Nat.ne_of_gt (eL BK386) : gb392 ≠ gb386)); clear HO390; clear BK386; clear HB; have HO390 := n0_; have BK386 := n1_; have HB := n2_; have BK392 := n3_; have GW392 := n4_; have GE392 := n5_; have NB386_392 := n6_; have NB392_386 := n7_; clear n0_ n1_ n2_ n3_ n4_ n5_ n6_ n7_; clear hb hbox hg; obtain ⟨Ao13, co13, eo13⟩ := Kd.R_slice HO390.out; subst eo13; have hnb14 := NB392_386.out; have hnc14 := NB386_392.out; have hcz15_0 : w12.cell? ⟨gb392, 0, none⟩ = some (.slice none 0 0) := (blk_cell BK392.out 0).trans rfl; have hfz15_0 := blk_frozen BK392.out 0; have hcz16_0 : w12.cell? ⟨gb386, 0, none⟩ = some (.slice none 0 0) := (blk_cell BK386.out 0).trans rfl; have hfz16_0 := blk_frozen BK386.out 0))
     refine bodyPost_ret (results_ct rfl _ _ gb386 26 #[.slice Ao13 t388.length co13] (0, 0) _ rfl impl_TreeOfRank.Z0 Try.underlying26 rfl (by kernel_rfl)) rfl ?_
     exact ⟨_, er, by (with_reducible repeat (first | apply Kd.R_alloc | apply Kd.R_drewN | apply Kd.R_drew)); exact Kd.R_mono (Kd.R_far (p := ⟨gb386, 0, none⟩) (Kd.R_far (p := ⟨gb392, 0, none⟩) (Kd.R_types (Kd.R_types HO390.out BK392.out (by decide)) BK386.out (by decide)) (fun _ hk => hk.1.2) (.slice Ao13 t388.length co13)) (fun _ hk => hk.2) (.slice Ao13 t388.length co13)) (fun _ hk => trivial), el HB⟩
    ·replace c10 := Bool.eq_false_iff.mpr c10
     subst c10
     have H1 : (some (([] : List Int), 4)) = some (r1, r2) := by rw [if_neg (show ¬ (false = true) by decide)] at H; exact H
     clear H
     have H := H1
     clear H1
     simp only [Option.some.injEq, Prod.mk.injEq] at H
     obtain ⟨rfl, rfl⟩ := H
     go_wp2_with (first | ((with_reducible refine gate_callee (f := 165) rfl ?_); refine goesL_ (some 19) rfl rfl Try.func165 (by kernel_rfl) rfl #[.int .i64 a0, .int .i64 a1] rfl eg ?_; (with_reducible refine (impl_treeOfRank.calls a0 a1 t388 false _ A9.out).mono ?_); rintro e w17 ⟨v389, rfl, ho0, hb⟩; refine ⟨_, rfl, ?_⟩; have n0_ := A_ (Kd.R_lower ho0 (below_size (el HB))); have n1_ := A_ (eB BK386 hb); have n2_ := A_ (below_step (el HB) hb); clear BK386; clear HB; have HO390 := n0_; have BK386 := n1_; have HB := n2_; clear n0_ n1_ n2_; (try clear hb); (try clear hb2); (try clear hk); (try clear hi); (try clear ho0)) | ((with_reducible refine gate_dst (N := 6) rfl ?_); refine box_event ?hg (N := 6) ?hd (cs := #[.slice none 0 0]) (t := 26) ?hr ?_; (case hd => rfl); (case hg => rfl); (case hr => first | (go_simp; done) | (go_simp; rfl)); intro gb392 hg w18 hbox hb; have n0_ := A_ (Kd.R_below (ea HO390) hb); have n1_ := A_ (eB BK386 hb); have n2_ := A_ (below_step (el HB) hb); have n3_ := A_ (hbox); have n4_ := A_ ((by rw [hg]; exact (below_size (el HB)) : w.heap.size ≤ gb392)); have n5_ := A_ ((by rw [hg]; exact (below_size (el HB)) : w.heap.size ≤ gb392)); have n6_ := A_ ((by rw [hg]; exact Nat.ne_of_lt (eL BK386) : gb386 ≠ gb392)); have n7_ := A_ ((by rw [hg]; exact Nat.ne_of_gt (eL BK386) : gb392 ≠ gb386)); clear HO390; clear BK386; clear HB; have HO390 := n0_; have BK386 := n1_; have HB := n2_; have BK392 := n3_; have GW392 := n4_; have GE392 := n5_; have NB386_392 := n6_; have NB392_386 := n7_; clear n0_ n1_ n2_ n3_ n4_ n5_ n6_ n7_; clear hb hbox hg; obtain ⟨Ao19, co19, eo19⟩ := Kd.R_slice HO390.out; subst eo19; have hnb20 := NB392_386.out; have hnc20 := NB386_392.out; have hcz21_0 : w18.cell? ⟨gb392, 0, none⟩ = some (.slice none 0 0) := (blk_cell BK392.out 0).trans rfl; have hfz21_0 := blk_frozen BK392.out 0; have hcz22_0 : w18.cell? ⟨gb386, 0, none⟩ = some (.slice none 0 0) := (blk_cell BK386.out 0).trans rfl; have hfz22_0 := blk_frozen BK386.out 0))
     refine bodyPost_ret (results_ct rfl _ _ gb386 26 #[.slice none 0 0] (0, 0) _ rfl impl_TreeOfRank.Z0 Try.underlying26 rfl (by kernel_rfl)) rfl ?_
     exact ⟨_, er, by first | exact Kd.R_nil _ _ _ _ _ | exact Kd.N_nil _ _ _ _ _ | exact Kd.V_nil _ _ _ _ _ | exact Kd.Q_nil _ _ _ _ _ | exact Kd.S_nil _ _ _ _ _, el HB⟩

/-! ### spec_l02Whole: function 160 -/
def spec_l02Whole.f (a0 : Int) : Option (Bool) := (spec_l01In.f a0 1 24).bind fun t393 => (some t393)
set_option maxHeartbeats 8000000 in
set_option maxRecDepth 100000 in
theorem spec_l02Whole.calls (a0 : Int) (r : Bool) (w : World) (h : spec_l02Whole.f a0 = some r) :
  Calls Try.prog 160 #[.int .i64 a0] w fun e w' => e = .returned (.bool r) ∧ Drawn0 w w' := by
 have H : ((spec_l01In.f a0 1 24).bind fun t393 => (some t393)) = some r := h
 clear h
 replace H := Option.bind_eq_some_iff.mp H
 obtain ⟨t393, A20, H⟩ := H
 replace H : (some t393) = some r := H
 have A2 := A_ A20
 clear A20
 obtain rfl := Option.some.inj H
 go_enter Try.func160, Try.ntmps160
 go_wp2_with (first | ((with_reducible refine gate_callee (f := 162) rfl ?_); refine goesL_ (some 4) rfl rfl Try.func162 (by kernel_rfl) rfl #[.int .i64 a0, .int .i64 1, .int .i64 24] rfl eg ?_; (with_reducible refine (spec_l01In.calls a0 1 24 t393 _ A2.out).mono ?_); rintro e w' ⟨rfl, ⟨nd, rfl⟩⟩; refine ⟨_, rfl, ?_⟩))
 go_ret
 exact ⟨by first | rfl | (simp; done) | (simp [*]; done), by repeat (first | exact Drawn0.refl _ | apply Drawn0.step)⟩

end Go.Proofs.Ytocachknmgefaaa.QFnRanks
