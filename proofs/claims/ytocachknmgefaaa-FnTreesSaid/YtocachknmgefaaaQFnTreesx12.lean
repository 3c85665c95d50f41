/- Functions of the program as plain Lean functions, each with a proof that the machine's call answers what it answers. Conditions: none. -/
import Derived.Test.YtocachknmgefaaaQFnTreesx0
import Derived.Test.YtocachknmgefaaaQFnTreesx2
import Derived.Test.YtocachknmgefaaaQFnTreesx4
import Derived.Test.YtocachknmgefaaaQFnTreesx5
import Derived.Test.YtocachknmgefaaaQFnTreesx6
namespace Go.Proofs.Ytocachknmgefaaa.QFnTrees
open Go.RowKit Go.Proofs.YtocachknmgefaaaW.PrintWords Go.Proofs.YtocachknmgefaaaW.PrintLast Go.Proofs.YtocachknmgefaaaW.PrintMore
attribute [local go_sem] max2_int min2_int max_two min_two max_three min_three max_four min_four   -- for this text's walks alone
set_option linter.unusedVariables false
set_option maxHeartbeats 8000000
set_option maxRecDepth 100000
set_option linter.unusedSimpArgs false

/-! ### spec_l01Nodes: function 120 -/
def spec_l01Nodes.l0 : Nat → List Int → Int → List Int → Option (Int)
  | 0, _, _, _ => none
  | k + 1, x1, x5, x560000 => if x5 < (x1.length : Int) then (if 0 ≤ x5 then ((spec_l01N.f x560000).bind fun t562 => ((spec_l01In.f (rd x1 x5) 0 (wrap64 (t562 - 1))).bind fun t563 => (if t563 = true then (spec_l01Nodes.l0 k x1 (wrap64 (x5 + 1)) x560000) else (some 2)))) else (none)) else (some 0)
def spec_l01Nodes.f (k : Nat) (l0_0 : List Int) (l1 : List Int) : Option (Int) := (spec_l01Is.f k l0_0).bind fun t560 => (if t560 = true then (spec_l01Nodes.l0 k l1 0 l0_0) else (some 1))
theorem spec_l01Nodes.mono_l : ∀ k, (∀ y0 y1 y2, LeO (spec_l01Nodes.l0 k y0 y1 y2) (spec_l01Nodes.l0 (k + 1) y0 y1 y2))
  | 0 => fun _ _ _ r h => by simp [spec_l01Nodes.l0] at h
  | k + 1 => by
    have ih0 := spec_l01Nodes.mono_l k
    · intro y0 y1 y2
      unfold spec_l01Nodes.l0
      repeat' first | (with_reducible first | exact ih0 _ _ _ | exact spec_l01Is.mono _ _ | exact LeO.refl _ | exact LeO.none _ | refine LeO.ite ?_ ?_ | refine LeO.bind ?_ (fun _ => ?_)) | exact ih0 _ _ _ | exact spec_l01Is.mono _ _ | exact LeO.none _ | refine LeO.ite ?_ ?_ | refine LeO.bind ?_ (fun _ => ?_)
theorem spec_l01Nodes.mono : ∀ a0 a1 k, LeO (spec_l01Nodes.f k a0 a1) (spec_l01Nodes.f (k + 1) a0 a1) := by
  intro a0 a1 k
  have ih0 := spec_l01Nodes.mono_l k
  unfold spec_l01Nodes.f
  repeat' first | (with_reducible first | exact ih0 _ _ _ | exact spec_l01Is.mono _ _ | exact LeO.refl _ | exact LeO.none _ | refine LeO.ite ?_ ?_ | refine LeO.bind ?_ (fun _ => ?_)) | exact ih0 _ _ _ | exact spec_l01Is.mono _ _ | exact LeO.none _ | refine LeO.ite ?_ ?_ | refine LeO.bind ?_ (fun _ => ?_)
def spec_l01Nodes.T6 : Bool × List (List Nat × List Nat) := (true, [([], []), ([], []), ([0, 1], [0, 1]), ([2], [2]), ([], []), ([4], [4]), ([5], [5]), ([3, 6, 5], [3, 6]), ([7], [7])])
def spec_l01Nodes.B6 : List Nat := [0, 0, 3, 7, 0, 16, 48, 127, 255]
theorem spec_l01Nodes.tab6 : rtab .any (opsOf Try.f120 6) = spec_l01Nodes.T6 := by kernel_rfl
theorem spec_l01Nodes.bits6 : waitsOk spec_l01Nodes.T6.2 spec_l01Nodes.B6 = true := by kernel_rfl
theorem spec_l01Nodes.Z0 {p : Prop} (h : p := by first | (with_reducible assumption) | assumption) : p := h
theorem spec_l01Nodes.Z1 {p : Prop} (h : p := by first | rfl | (simp; done) | (simp [*]; done)) : p := h
theorem spec_l01Nodes.calls (k : Nat) (A0_0 : Option Addr) (c0_0 : Nat) (l0_0 : List Int) (A1 : Option Addr) (c1 : Nat) (l1 : List Int) (r : Int) (w : World) (hr0_0 : Kd.C (Kd.int .i64) w A0_0 l0_0.length l0_0) (hc0_0 : l0_0.length ≤ c0_0) (hr1 : Kd.C (Kd.int .i64) w A1 l1.length l1) (hc1 : l1.length ≤ c1) (h : spec_l01Nodes.f k l0_0 l1 = some r) :
  Calls Try.prog 120 #[.agg #[.slice A0_0 l0_0.length c0_0], .slice A1 l1.length c1] w fun e w' => e = .returned (.int .i64 r) ∧ Below w.heap.size w w' := by
 have hu26 := Try.underlying26
 have HR0_0 := A_ hr0_0
 have HC0_0 := A_ hc0_0
 clear hr0_0 hc0_0
 have HR1 := A_ hr1
 have HC1 := A_ hc1
 clear hr1 hc1
 have HB := A_ (Below.refl w.heap.size w)
 have H : ((spec_l01Is.f k l0_0).bind fun t560 => (if t560 = true then (spec_l01Nodes.l0 k l1 0 l0_0) else (some 1))) = some r := h
 clear h
 replace H := Option.bind_eq_some_iff.mp H
 obtain ⟨t560, A30, H⟩ := H
 replace H : (if t560 = true then (spec_l01Nodes.l0 k l1 0 l0_0) else (some 1)) = some r := H
 have A3 := A_ A30
 clear A30
 by_cases c4 : t560 = true
 ·subst c4
  have H1 : (spec_l01Nodes.l0 k l1 0 l0_0) = some r := by rw [if_pos rfl] at H; exact H
  clear H
  have H := H1
  clear H1
  have H' := A_ H
  clear H
  go_enter Try.func120, Try.ntmps120
  go_wp2_with (first | ((with_reducible refine gate_dst (N := 2) rfl ?_); refine bx 2 #[.slice A0_0 l0_0.length c0_0] 26 ?_; intro gb559 hg w5 hbox hb; have BK559 := A_ hbox; have GW559 := A_ (eG hg (below_size (el HB)) : w.heap.size ≤ gb559); have GE559 := A_ (eG hg (below_size (el HB)) : w.heap.size ≤ gb559); replace HB := A_ (below_step (el HB) hb); clear hb hbox hg; have hcz6_0 : w5.cell? ⟨gb559, 0, none⟩ = some (.slice A0_0 l0_0.length c0_0) := (blk_cell BK559.out 0).trans rfl; have hfz6_0 := blk_frozen BK559.out 0) | ((with_reducible refine gate_callee (f := 101) rfl ?_); refine goesL_ (some 7) rfl rfl Try.func101 (by kernel_rfl) rfl #[.agg #[.slice A0_0 l0_0.length c0_0]] rfl eg ?_; (with_reducible refine (spec_l01Is.calls k _ _ l0_0 true _ ?side1 ?side2 A3.out).mono ?_); (case side1 => exact cS (Kd.C_below HR0_0.out HB.out)); (case side2 => exact HC0_0.out); rintro e w7 ⟨rfl, hb⟩; refine ⟨_, rfl, ?_⟩; replace BK559 := A_ (eB BK559 hb); replace HB := A_ (below_step (el HB) hb); (try clear hb); (try clear hb2); (try clear hk); (try clear hi)))
  go_loopg [5] k (fun kq v5 w' => ∃ (x5_1 : Int), v5 = .int .i64 x5_1 ∧ Aside0 (spec_l01Nodes.l0 kq l1 x5_1 l0_0 = some r) ∧ Aside0 (kq ≤ k) ∧ Aside0 (w'.heap[gb559]? = some (.cells #[(.slice A0_0 l0_0.length c0_0)] 26 (0, 0))) ∧ Aside0 (Below w.heap.size w w'))
  case atStart => exact ⟨(0), spec_l01Nodes.Z1, H', ⟨Nat.le_refl _⟩, ⟨eb BK559⟩, ⟨el HB⟩⟩
  case round =>
   clear H'
   try clear c1
   try clear p2
   try clear c4
   try clear hcz6_0
   try clear hfz6_0
   obtain ⟨x5_1, rfl, HA, HK1, BK559, HB⟩ := hrel
   cases gk with
   | zero => exact absurd HA.out (by simp [spec_l01Nodes.l0])
   | succ k1 =>
    have H := HA.out
    clear HA
    simp only [spec_l01Nodes.l0] at H
    by_cases c8 : x5_1 < (l1.length : Int)
    ·rw [if_pos c8] at H
     have c8b0 := decide_eq_true c8
     clear c8
     by_cases c9 : 0 ≤ x5_1
     rotate_left
     ·rw [if_neg c9] at H
      exact absurd H (by simp)
     rw [if_pos c9] at H
     have c9b0 := decide_eq_true c9
     clear c9
     replace H := Option.bind_eq_some_iff.mp H
     obtain ⟨t562, A100, H⟩ := H
     replace H : ((spec_l01In.f (rd l1 x5_1) 0 (wrap64 (t562 - 1))).bind fun t563 => (if t563 = true then (spec_l01Nodes.l0 k1 l1 (wrap64 (x5_1 + 1)) l0_0) else (some 2))) = some r := H
     have A10 := A_ A100
     clear A100
     replace H := Option.bind_eq_some_iff.mp H
     obtain ⟨t563, A110, H⟩ := H
     replace H : (if t563 = true then (spec_l01Nodes.l0 k1 l1 (wrap64 (x5_1 + 1)) l0_0) else (some 2)) = some r := H
     have A11 := A_ A110
     clear A110
     by_cases c12 : t563 = true
     ·subst c12
      have H1 : (spec_l01Nodes.l0 k1 l1 (wrap64 (x5_1 + 1)) l0_0) = some r := by rw [if_pos rfl] at H; exact H
      clear H
      have H := H1
      clear H1
      have H' := A_ H
      clear H
      try go_wp2
      replace BK559 := A_ (blk_drew BK559.out)
      replace HB := A_ (below_drew1 HB.out)
      have p561 : 0 ≤ (x5_1 : Int) := of_decide_eq_true spec_l01Nodes.Z0
      have q561 : x5_1 < (l1.length : Int) := of_decide_eq_true spec_l01Nodes.Z0
      obtain ⟨ad561, e561, hx561_0⟩ := Kd.at_int HR1.out x5_1 p561 q561
      have hw561_0 := hx561_0
      cases e561
      replace hx561_0 := (HB.out.cell (World.block_lt_of_cell? w _ hx561_0)).trans hx561_0
      replace p561 := eq_true p561
      replace q561 := eq_true q561
      refine start_ (n := 9) (S := fun w' => w'.cell? ⟨gb559, 0, none⟩ = some (.slice A0_0 l0_0.length c0_0) ∧ w'.cell? (ad561.add (x5_1).toNat) = some (.int .i64 (rd l1 x5_1))) (ds := []) (bM 9 0) (by kernel_rfl) rfl rfl ⟨(blk_cell BK559.out 0).trans rfl, ((HB.out.cell (World.block_lt_of_cell? w _ hw561_0)).trans hw561_0)⟩ (fun hHeld => ?_); refine with_tabW spec_l01Nodes.tab6 spec_l01Nodes.bits6 (fun HT_ HW_ => ?_)
      generalize wr.drew = w13 at BK559 HB hx561_0 hHeld ⊢
      refine pA 0 15 (bM 9 1) HT_ ?_
      refine pA 1 16 (bM 9 3) HT_ ?_
      refine pA 2 17 (bM 9 7) HT_ ?_
      refine take_ (i := 3) (N := some 18) (v := ?_) (a' := ?_) (bM 9 15) rfl rfl (take_ofW HT_.out HW_.out (by kernel_rfl)) (fun _ _ _ h => h) (Or.inl ⟨by rfl, ?_⟩) hHeld ?_ ?_
      rotate_left
      ·rintro w' ⟨s0, s1⟩
       go_simp
       with_reducible rfl
      rotate_left
      ·simp only [Act.put, List.setIfInBounds_toArray, List.set_cons_zero, List.set_cons_succ, i64_w, i32_w]
       rfl
      refine take_ (i := 4) (N := some 19) (v := ?_) (a' := ?_) (bM 9 31) rfl rfl (take_ofW HT_.out HW_.out (by kernel_rfl)) (fun _ _ _ h => h) (Or.inl ⟨by rfl, ?_⟩) hHeld ?_ ?_
      rotate_left
      ·rintro w' ⟨s0, s1⟩
       go_simp
       with_reducible rfl
      rotate_left
      ·simp only [Act.put, List.setIfInBounds_toArray, List.set_cons_zero, List.set_cons_succ, i64_w, i32_w]
       rfl
      refine one_ (i := 5) (N := some 20) (bM 9 63) rfl rfl (one_of HT_.out (by kernel_rfl)) (by decide) (fun K hK => ?_)
      refine goes_ Try.func102 (by kernel_rfl) rfl #[.agg #[.slice A0_0 l0_0.length c0_0]] (by rfl) rfl rfl eg ?_
      with_reducible refine (spec_l01N.calls _ _ l0_0 t562 _ ?side1 ?side2 A10.out).mono ?_
      (case side1 => exact cS (Kd.C_below HR0_0.out HB.out))
      (case side2 => exact HC0_0.out)
      rintro e w14 ⟨rfl, hb⟩
      refine ⟨_, rfl, ?_⟩
      replace BK559 := A_ (eB BK559 hb)
      replace HB := A_ (below_step (el HB) hb)
      (try clear hb)
      (try clear hb2)
      (try clear hk)
      (try clear hi)
      refine hK.out _ _ ⟨(blk_cell BK559.out 0).trans rfl, ((HB.out.cell (World.block_lt_of_cell? w _ hw561_0)).trans hw561_0)⟩ (fun hHeld => ?_)
      clear hK K
      refine norm_ (a' := ?_) ?_ ?_
      rotate_left
      ·show Act.put _ (some 20) _ = _
       simp only [Act.put, List.setIfInBounds_toArray, List.set_cons_zero, List.set_cons_succ, i64_w, i32_w]
       rfl
      refine pA 6 21 (bM 9 127) HT_ ?_
      refine one_ (i := 7) (N := some 22) (bM 9 255) rfl rfl (one_of HT_.out (by kernel_rfl)) (by decide) (fun K hK => ?_)
      refine goes_ Try.func162 (by kernel_rfl) rfl #[.int .i64 (rd l1 x5_1), .int .i64 0, .int .i64 (wrap64 (t562 - 1))] (by rfl) rfl rfl eg ?_
      with_reducible refine (spec_l01In.calls (rd l1 x5_1) 0 (wrap64 (t562 - 1)) true _ A11.out).mono ?_
      rintro e w' ⟨rfl, ⟨nd, rfl⟩⟩
      refine ⟨_, rfl, ?_⟩
      refine hK.out _ _ ⟨(blk_cell BK559.out 0).trans rfl, ((HB.out.cell (World.block_lt_of_cell? w _ hw561_0)).trans hw561_0)⟩ (fun hHeld => ?_)
      clear hK K
      refine norm_ (a' := ?_) ?_ ?_
      rotate_left
      ·show Act.put _ (some 22) _ = _
       simp only [Act.put, List.setIfInBounds_toArray, List.set_cons_zero, List.set_cons_succ, i64_w, i32_w]
       rfl
      refine pA 8 23 (bM 9 511) HT_ ?_
      refine done_ (done_of HT_.out (by kernel_rfl)) ?_
      try go_wp2
      go_roundg k1
      case measure => have := HK1.out; omega
      case rel => exact ⟨(wrap64 (x5_1 + 1)), spec_l01Nodes.Z1, H', ⟨by have := HK1.out; omega⟩, ⟨eb BK559⟩, ⟨el HB⟩⟩
     ·replace c12 := Bool.eq_false_iff.mpr c12
      subst c12
      have H1 : (some 2) = some r := by rw [if_neg (show ¬ (false = true) by decide)] at H; exact H
      clear H
      have H := H1
      clear H1
      obtain rfl := Option.some.inj H
      try go_wp2
      replace BK559 := A_ (blk_drew BK559.out)
      replace HB := A_ (below_drew1 HB.out)
      have p561 : 0 ≤ (x5_1 : Int) := of_decide_eq_true spec_l01Nodes.Z0
      have q561 : x5_1 < (l1.length : Int) := of_decide_eq_true spec_l01Nodes.Z0
      obtain ⟨ad561, e561, hx561_0⟩ := Kd.at_int HR1.out x5_1 p561 q561
      have hw561_0 := hx561_0
      cases e561
      replace hx561_0 := (HB.out.cell (World.block_lt_of_cell? w _ hx561_0)).trans hx561_0
      replace p561 := eq_true p561
      replace q561 := eq_true q561
      refine start_ (n := 9) (S := fun w' => w'.cell? ⟨gb559, 0, none⟩ = some (.slice A0_0 l0_0.length c0_0) ∧ w'.cell? (ad561.add (x5_1).toNat) = some (.int .i64 (rd l1 x5_1))) (ds := []) (bM 9 0) (by kernel_rfl) rfl rfl ⟨(blk_cell BK559.out 0).trans rfl, ((HB.out.cell (World.block_lt_of_cell? w _ hw561_0)).trans hw561_0)⟩ (fun hHeld => ?_); refine with_tabW spec_l01Nodes.tab6 spec_l01Nodes.bits6 (fun HT_ HW_ => ?_)
      generalize wr.drew = w15 at BK559 HB hx561_0 hHeld ⊢
      refine pA 0 15 (bM 9 1) HT_ ?_
      refine pA 1 16 (bM 9 3) HT_ ?_
      refine pA 2 17 (bM 9 7) HT_ ?_
      refine take_ (i := 3) (N := some 18) (v := ?_) (a' := ?_) (bM 9 15) rfl rfl (take_ofW HT_.out HW_.out (by kernel_rfl)) (fun _ _ _ h => h) (Or.inl ⟨by rfl, ?_⟩) hHeld ?_ ?_
      rotate_left
      ·rintro w' ⟨s0, s1⟩
       go_simp
       with_reducible rfl
      rotate_left
      ·simp only [Act.put, List.setIfInBounds_toArray, List.set_cons_zero, List.set_cons_succ, i64_w, i32_w]
       rfl
      refine take_ (i := 4) (N := some 19) (v := ?_) (a' := ?_) (bM 9 31) rfl rfl (take_ofW HT_.out HW_.out (by kernel_rfl)) (fun _ _ _ h => h) (Or.inl ⟨by rfl, ?_⟩) hHeld ?_ ?_
      rotate_left
      ·rintro w' ⟨s0, s1⟩
       go_simp
       with_reducible rfl
      rotate_left
      ·simp only [Act.put, List.setIfInBounds_toArray, List.set_cons_zero, List.set_cons_succ, i64_w, i32_w]
       rfl
      refine one_ (i := 5) (N := some 20) (bM 9 63) rfl rfl (one_of HT_.out (by kernel_rfl)) (by decide) (fun K hK => ?_)
      refine goes_ Try.func102 (by kernel_rfl) rfl #[.agg #[.slice A0_0 l0_0.length c0_0]] (by rfl) rfl rfl eg ?_
      with_reducible refine (spec_l01N.calls _ _ l0_0 t562 _ ?side1 ?side2 A10.out).mono ?_
      (case side1 => exact cS (Kd.C_below HR0_0.out HB.out))
      (case side2 => exact HC0_0.out)
      rintro e w16 ⟨rfl, hb⟩
      refine ⟨_, rfl, ?_⟩
      replace BK559 := A_ (eB BK559 hb)
      replace HB := A_ (below_step (el HB) hb)
      (try clear hb)
      (try clear hb2)
      (try clear hk)
      (try clear hi)
      refine hK.out _ _ ⟨(blk_cell BK559.out 0).trans rfl, ((HB.out.cell (World.block_lt_of_cell? w _ hw561_0)).trans hw561_0)⟩ (fun hHeld => ?_)
      clear hK K
      refine norm_ (a' := ?_) ?_ ?_
      rotate_left
      ·show Act.put _ (some 20) _ = _
       simp only [Act.put, List.setIfInBounds_toArray, List.set_cons_zero, List.set_cons_succ, i64_w, i32_w]
       rfl
      refine pA 6 21 (bM 9 127) HT_ ?_
      refine one_ (i := 7) (N := some 22) (bM 9 255) rfl rfl (one_of HT_.out (by kernel_rfl)) (by decide) (fun K hK => ?_)
      refine goes_ Try.func162 (by kernel_rfl) rfl #[.int .i64 (rd l1 x5_1), .int .i64 0, .int .i64 (wrap64 (t562 - 1))] (by rfl) rfl rfl eg ?_
      with_reducible refine (spec_l01In.calls (rd l1 x5_1) 0 (wrap64 (t562 - 1)) false _ A11.out).mono ?_
      rintro e w' ⟨rfl, ⟨nd, rfl⟩⟩
      refine ⟨_, rfl, ?_⟩
      refine hK.out _ _ ⟨(blk_cell BK559.out 0).trans rfl, ((HB.out.cell (World.block_lt_of_cell? w _ hw561_0)).trans hw561_0)⟩ (fun hHeld => ?_)
      clear hK K
      refine norm_ (a' := ?_) ?_ ?_
      rotate_left
      ·show Act.put _ (some 22) _ = _
       simp only [Act.put, List.setIfInBounds_toArray, List.set_cons_zero, List.set_cons_succ, i64_w, i32_w]
       rfl
      refine pA 8 23 (bM 9 511) HT_ ?_
      refine done_ (done_of HT_.out (by kernel_rfl)) ?_
      try go_wp2
      go_ret
      exact ⟨er, el HB⟩
    ·rw [if_neg c8] at H
     have c8b0 := decide_eq_false c8
     clear c8
     obtain rfl := Option.some.inj H
     go_wp2
     go_ret
     exact ⟨er, el HB⟩
 ·replace c4 := Bool.eq_false_iff.mpr c4
  subst c4
  have H1 : (some 1) = some r := by rw [if_neg (show ¬ (false = true) by decide)] at H; exact H
  clear H
  have H := H1
  clear H1
  obtain rfl := Option.some.inj H
  go_enter Try.func120, Try.ntmps120
  go_wp2_with (first | ((with_reducible refine gate_dst (N := 2) rfl ?_); refine bx 2 #[.slice A0_0 l0_0.length c0_0] 26 ?_; intro gb559 hg w17 hbox hb; have BK559 := A_ hbox; have GW559 := A_ (eG hg (below_size (el HB)) : w.heap.size ≤ gb559); have GE559 := A_ (eG hg (below_size (el HB)) : w.heap.size ≤ gb559); replace HB := A_ (below_step (el HB) hb); clear hb hbox hg; have hcz18_0 : w17.cell? ⟨gb559, 0, none⟩ = some (.slice A0_0 l0_0.length c0_0) := (blk_cell BK559.out 0).trans rfl; have hfz18_0 := blk_frozen BK559.out 0) | ((with_reducible refine gate_callee (f := 101) rfl ?_); refine goesL_ (some 7) rfl rfl Try.func101 (by kernel_rfl) rfl #[.agg #[.slice A0_0 l0_0.length c0_0]] rfl eg ?_; (with_reducible refine (spec_l01Is.calls k _ _ l0_0 false _ ?side1 ?side2 A3.out).mono ?_); (case side1 => exact cS (Kd.C_below HR0_0.out HB.out)); (case side2 => exact HC0_0.out); rintro e w19 ⟨rfl, hb⟩; refine ⟨_, rfl, ?_⟩; replace BK559 := A_ (eB BK559 hb); replace HB := A_ (below_step (el HB) hb); (try clear hb); (try clear hb2); (try clear hk); (try clear hi)))
  go_ret
  exact ⟨er, el HB⟩

/-! ### spec_ChildrenOf: function 33 -/
def spec_ChildrenOf.f (k : Nat) (l0_0 : List Int) (a1 : Int) : Option (List Int × Int) := (spec_l01Nodes.f k l0_0 (([a1] : List Int))).bind fun t568 => (if t568 = 0 then ((spec_l01Children.f k l0_0 a1).bind fun t569 => (some (t569, 0))) else (some (([] : List Int), t568)))
theorem spec_ChildrenOf.mono : ∀ a0 a1 k, LeO (spec_ChildrenOf.f k a0 a1) (spec_ChildrenOf.f (k + 1) a0 a1) := by
  intro a0 a1 k
  unfold spec_ChildrenOf.f
  repeat' first | (with_reducible first | exact spec_l01Children.mono _ _ _ | exact spec_l01Nodes.mono _ _ _ | exact LeO.refl _ | exact LeO.none _ | refine LeO.ite ?_ ?_ | refine LeO.bind ?_ (fun _ => ?_)) | exact spec_l01Children.mono _ _ _ | exact spec_l01Nodes.mono _ _ _ | exact LeO.none _ | refine LeO.ite ?_ ?_ | refine LeO.bind ?_ (fun _ => ?_)
theorem spec_ChildrenOf.calls (k : Nat) (A0_0 : Option Addr) (c0_0 : Nat) (l0_0 : List Int) (a1 : Int) (r1 : List Int) (r2 : Int) (w : World) (hr0_0 : Kd.C (Kd.int .i64) w A0_0 l0_0.length l0_0) (hc0_0 : l0_0.length ≤ c0_0) (h : spec_ChildrenOf.f k l0_0 a1 = some (r1, r2)) :
  Calls Try.prog 33 #[.agg #[.slice A0_0 l0_0.length c0_0], .int .i64 a1] w fun e w' => ∃ v0_ : Value, e = .returned (.tuple #[v0_, .int .i64 r2]) ∧ Kd.R (Kd.int .i64) 2 w' w.heap.size (fun _ => True) v0_ r1 ∧ Below w.heap.size w w' := by
 have hu26 := Try.underlying26
 have HR0_0 := A_ hr0_0
 have HC0_0 := A_ hc0_0
 clear hr0_0 hc0_0
 have HB := A_ (Below.refl w.heap.size w)
 have H : ((spec_l01Nodes.f k l0_0 (([a1] : List Int))).bind fun t568 => (if t568 = 0 then ((spec_l01Children.f k l0_0 a1).bind fun t569 => (some (t569, 0))) else (some (([] : List Int), t568)))) = some (r1, r2) := h
 clear h
 obtain ⟨y565, hy565⟩ : ∃ y_ : List Int, y_ = (([a1] : List Int)) := ⟨_, rfl⟩
 replace H : ((spec_l01Nodes.f k l0_0 y565).bind fun t568 => (if t568 = 0 then ((spec_l01Children.f k l0_0 a1).bind fun t569 => (some (t569, 0))) else (some (([] : List Int), t568)))) = some (r1, r2) := eH hy565 H
 have Ny565 := A_ hy565
 clear hy565
 replace H := Option.bind_eq_some_iff.mp H
 obtain ⟨t568, A30, H⟩ := H
 replace H : (if t568 = 0 then ((spec_l01Children.f k l0_0 a1).bind fun t569 => (some (t569, 0))) else (some (([] : List Int), t568))) = some (r1, r2) := H
 have A3 := A_ A30
 clear A30
 by_cases c4 : t568 = 0
 ·rw [if_pos c4] at H
  have c4b0 : (t568 == 0) = true := beq_iff_eq.mpr c4
  have c4b1 : (t568 != 0) = false := bne_eq_false_iff_eq.mpr c4
  clear c4
  replace H := Option.bind_eq_some_iff.mp H
  obtain ⟨t569, A50, H⟩ := H
  replace H : (some (t569, 0)) = some (r1, r2) := H
  have A5 := A_ A50
  clear A50
  simp only [Option.some.injEq, Prod.mk.injEq] at H
  obtain ⟨rfl, rfl⟩ := H
  go_enter Try.func33, Try.ntmps33
  go_wp2_with (first | ((with_reducible refine gate_dst (N := 2) rfl ?_); refine bx 2 #[.slice A0_0 l0_0.length c0_0] 26 ?_; intro gb564 hg w6 hbox hb; have BK564 := A_ hbox; have GW564 := A_ (eG hg (below_size (el HB)) : w.heap.size ≤ gb564); have GE564 := A_ (eG hg (below_size (el HB)) : w.heap.size ≤ gb564); replace HB := A_ (below_step (el HB) hb); clear hb hbox hg; have hcz7_0 : w6.cell? ⟨gb564, 0, none⟩ = some (.slice A0_0 l0_0.length c0_0) := (blk_cell BK564.out 0).trans rfl; have hfz7_0 := blk_frozen BK564.out 0) | ((with_reducible refine gate_dst (N := 9) rfl ?_); refine Kd.R_lit (Kd.int .i64) _ 2 ?hg (N := 9) ?hd (xs := ([a1] : List Int)) (inner := [.int .i64 a1]) (ok := fun _ => True) (okp := fun _ => True) ?hr ?hp (fun _ hk => hk) trivial (Below.refl _ _) (Nat.le_refl _) (by simp) ?_; (case hd => rfl); (case hg => rfl); (case hr => first | (go_simp; done) | (go_simp; rfl)); (case hp => exact (Reps.one (show Kd.M (Kd.int .i64) _ _ _ a1 [.int .i64 a1] from rfl) (Reps.none _ _))); intro v566 w8 ho9 hb hg_ hnew_; clear hg_ hnew_; (first | rw [← Ny565.out] at ho9 | (simp only [Int.reduceToNat] at ho9; rw [← Ny565.out] at ho9)); have HO567 := A_ (Kd.R_lower ho9 (below_size (el HB))); replace BK564 := A_ (eB BK564 hb); replace HB := A_ (below_step (el HB) hb); clear hb ho9; obtain ⟨Ao10, co10, eo10⟩ := Kd.R_slice HO567.out; subst eo10) | ((with_reducible refine gate_callee (f := 120) rfl ?_); refine goesL_ (some 10) rfl rfl Try.func120 (by kernel_rfl) rfl #[.agg #[.slice A0_0 l0_0.length c0_0], .slice Ao10 y565.length co10] rfl eg ?_; (with_reducible refine (spec_l01Nodes.calls k _ _ l0_0 _ _ y565 t568 _ ?side1 ?side2 ?side3 ?side4 A3.out).mono ?_); (case side1 => exact cS (Kd.C_below HR0_0.out HB.out)); (case side2 => exact HC0_0.out); (case side3 => exact cS ((Kd.R_reads' HO567.out).2.2)); (case side4 => exact (Kd.R_reads' HO567.out).2.1); rintro e w11 ⟨rfl, hb⟩; refine ⟨_, rfl, ?_⟩; replace HO567 := A_ (Kd.R_below (ea HO567) hb); replace BK564 := A_ (eB BK564 hb); replace HB := A_ (below_step (el HB) hb); (try clear hb); (try clear hb2); (try clear hk); (try clear hi); have hcz12_0 : w11.cell? ⟨gb564, 0, none⟩ = some (.slice A0_0 l0_0.length c0_0) := (blk_cell BK564.out 0).trans rfl; have hfz12_0 := blk_frozen BK564.out 0) | ((with_reducible refine gate_callee (f := 111) rfl ?_); refine goesL_ (some 16) rfl rfl Try.func111 (by kernel_rfl) rfl #[.agg #[.slice A0_0 l0_0.length c0_0], .int .i64 a1] rfl eg ?_; (with_reducible refine (spec_l01Children.calls k _ _ l0_0 a1 t569 _ ?side1 ?side2 A5.out).mono ?_); (case side1 => exact cS (Kd.C_below HR0_0.out HB.out)); (case side2 => exact HC0_0.out); rintro e w13 ⟨v570, rfl, ho0, hb⟩; refine ⟨_, rfl, ?_⟩; have HO571 := A_ (Kd.R_lower (Kd.R_new' ho0 (Kd.R_lt (ea HO567))) (below_size (el HB))); replace HO567 := A_ (Kd.R_elder' (ea HO567) (Kd.R_base ho0) hb); replace BK564 := A_ (eB BK564 hb); replace HB := A_ (below_step (el HB) hb); (try clear hb); (try clear hb2); (try clear hk); (try clear hi); (try clear ho0)))
  go_ret2
  exact ⟨_, er, by (with_reducible repeat (first | apply Kd.R_alloc | apply Kd.R_drewN | apply Kd.R_drew)); exact Kd.R_mono HO571.out (fun _ hk => trivial), el HB⟩
 ·rw [if_neg c4] at H
  have c4b0 : (t568 == 0) = false := beq_eq_false_iff_ne.mpr c4
  have c4b1 : (t568 != 0) = true := bne_iff_ne.mpr c4
  simp only [Option.some.injEq, Prod.mk.injEq] at H
  obtain ⟨rfl, rfl⟩ := H
  go_enter Try.func33, Try.ntmps33
  go_wp2_with (first | ((with_reducible refine gate_dst (N := 2) rfl ?_); refine bx 2 #[.slice A0_0 l0_0.length c0_0] 26 ?_; intro gb564 hg w14 hbox hb; have BK564 := A_ hbox; have GW564 := A_ (eG hg (below_size (el HB)) : w.heap.size ≤ gb564); have GE564 := A_ (eG hg (below_size (el HB)) : w.heap.size ≤ gb564); replace HB := A_ (below_step (el HB) hb); clear hb hbox hg; have hcz15_0 : w14.cell? ⟨gb564, 0, none⟩ = some (.slice A0_0 l0_0.length c0_0) := (blk_cell BK564.out 0).trans rfl; have hfz15_0 := blk_frozen BK564.out 0) | ((with_reducible refine gate_dst (N := 9) rfl ?_); refine Kd.R_lit (Kd.int .i64) _ 2 ?hg (N := 9) ?hd (xs := ([a1] : List Int)) (inner := [.int .i64 a1]) (ok := fun _ => True) (okp := fun _ => True) ?hr ?hp (fun _ hk => hk) trivial (Below.refl _ _) (Nat.le_refl _) (by simp) ?_; (case hd => rfl); (case hg => rfl); (case hr => first | (go_simp; done) | (go_simp; rfl)); (case hp => exact (Reps.one (show Kd.M (Kd.int .i64) _ _ _ a1 [.int .i64 a1] from rfl) (Reps.none _ _))); intro v566 w16 ho17 hb hg_ hnew_; clear hg_ hnew_; (first | rw [← Ny565.out] at ho17 | (simp only [Int.reduceToNat] at ho17; rw [← Ny565.out] at ho17)); have HO567 := A_ (Kd.R_lower ho17 (below_size (el HB))); replace BK564 := A_ (eB BK564 hb); replace HB := A_ (below_step (el HB) hb); clear hb ho17; obtain ⟨Ao18, co18, eo18⟩ := Kd.R_slice HO567.out; subst eo18) | ((with_reducible refine gate_callee (f := 120) rfl ?_); refine goesL_ (some 10) rfl rfl Try.func120 (by kernel_rfl) rfl #[.agg #[.slice A0_0 l0_0.length c0_0], .slice Ao18 y565.length co18] rfl eg ?_; (with_reducible refine (spec_l01Nodes.calls k _ _ l0_0 _ _ y565 t568 _ ?side1 ?side2 ?side3 ?side4 A3.out).mono ?_); (case side1 => exact cS (Kd.C_below HR0_0.out HB.out)); (case side2 => exact HC0_0.out); (case side3 => exact cS ((Kd.R_reads' HO567.out).2.2)); (case side4 => exact (Kd.R_reads' HO567.out).2.1); rintro e w19 ⟨rfl, hb⟩; refine ⟨_, rfl, ?_⟩; replace HO567 := A_ (Kd.R_below (ea HO567) hb); replace BK564 := A_ (eB BK564 hb); replace HB := A_ (below_step (el HB) hb); (try clear hb); (try clear hb2); (try clear hk); (try clear hi)))
  go_ret2
  exact ⟨_, er, by first | exact Kd.R_nil _ _ _ _ _ | exact Kd.N_nil _ _ _ _ _ | exact Kd.V_nil _ _ _ _ _ | exact Kd.Q_nil _ _ _ _ _ | exact Kd.S_nil _ _ _ _ _, el HB⟩

/-! ### spec_l01Subtree: function 148 -/
def spec_l01Subtree.f (k : Nat) (l0_0 : List Int) (a1 : Int) : Option (List Int) := (spec_l01End.f k l0_0 a1).bind fun t574 => (if 0 ≤ a1 then (if a1 ≤ t574 then (if t574 ≤ (l0_0.length : Int) then ((spec_l01Make.f ((l0_0.take (t574 : Int).toNat).drop (a1 : Int).toNat)).bind fun t576 => (some t576)) else (none)) else (none)) else (none))
theorem spec_l01Subtree.mono : ∀ a0 a1 k, LeO (spec_l01Subtree.f k a0 a1) (spec_l01Subtree.f (k + 1) a0 a1) := by
  intro a0 a1 k
  unfold spec_l01Subtree.f
  repeat' first | (with_reducible first | exact spec_l01End.mono _ _ _ | exact LeO.refl _ | exact LeO.none _ | refine LeO.ite ?_ ?_ | refine LeO.bind ?_ (fun _ => ?_)) | exact spec_l01End.mono _ _ _ | exact LeO.none _ | refine LeO.ite ?_ ?_ | refine LeO.bind ?_ (fun _ => ?_)
def spec_l01Subtree.T1 : Bool × List (List Nat × List Nat) := (true, [([], []), ([0], [0]), ([], []), ([], []), ([], []), ([3, 4], [3, 4]), ([1, 2, 5], [1, 2, 5]), ([6, 5], [6]), ([7, 7, 0, 1, 2, 3, 4, 5, 6, 7], [7])])
def spec_l01Subtree.B1 : List Nat := [0, 1, 0, 0, 0, 24, 63, 127, 255]
theorem spec_l01Subtree.tab1 : rtab .any (opsOf Try.f148 1) = spec_l01Subtree.T1 := by kernel_rfl
theorem spec_l01Subtree.bits1 : waitsOk spec_l01Subtree.T1.2 spec_l01Subtree.B1 = true := by kernel_rfl
theorem spec_l01Subtree.Z0 {p : Prop} (h : p := by first | (with_reducible assumption) | assumption) : p := h
theorem spec_l01Subtree.calls (k : Nat) (A0_0 : Option Addr) (c0_0 : Nat) (l0_0 : List Int) (a1 : Int) (r : List Int) (w : World) (hr0_0 : Kd.C (Kd.int .i64) w A0_0 l0_0.length l0_0) (hc0_0 : l0_0.length ≤ c0_0) (h : spec_l01Subtree.f k l0_0 a1 = some r) :
  Calls Try.prog 148 #[.agg #[.slice A0_0 l0_0.length c0_0], .int .i64 a1] w fun e w' => ∃ v0_ : Value, e = .returned (.agg #[v0_]) ∧ Kd.R (Kd.int .i64) 2 w' w.heap.size (fun _ => True) v0_ r ∧ Below w.heap.size w w' := by
 have hu26 := Try.underlying26
 have HR0_0 := A_ hr0_0
 have HC0_0 := A_ hc0_0
 clear hr0_0 hc0_0
 have HB := A_ (Below.refl w.heap.size w)
 have H : ((spec_l01End.f k l0_0 a1).bind fun t574 => (if 0 ≤ a1 then (if a1 ≤ t574 then (if t574 ≤ (l0_0.length : Int) then ((spec_l01Make.f ((l0_0.take (t574 : Int).toNat).drop (a1 : Int).toNat)).bind fun t576 => (some t576)) else (none)) else (none)) else (none))) = some r := h
 clear h
 replace H := Option.bind_eq_some_iff.mp H
 obtain ⟨t574, A30, H⟩ := H
 replace H : (if 0 ≤ a1 then (if a1 ≤ t574 then (if t574 ≤ (l0_0.length : Int) then ((spec_l01Make.f ((l0_0.take (t574 : Int).toNat).drop (a1 : Int).toNat)).bind fun t576 => (some t576)) else (none)) else (none)) else (none)) = some r := H
 have A3 := A_ A30
 clear A30
 by_cases c4 : 0 ≤ a1
 ·rw [if_pos c4] at H
  have c4b0 := eq_true c4
  have c4b1 := decide_eq_true c4
  clear c4
  by_cases c5 : a1 ≤ t574
  rotate_left
  ·rw [if_neg c5] at H
   exact absurd H (by simp)
  rw [if_pos c5] at H
  have c5b0 := eq_true c5
  have c5b1 := decide_eq_true c5
  clear c5
  by_cases c6 : t574 ≤ (l0_0.length : Int)
  rotate_left
  ·rw [if_neg c6] at H
   exact absurd H (by simp)
  rw [if_pos c6] at H
  have c6b0 := eq_true c6
  have c6b1 := decide_eq_true c6
  clear c6
  replace H := Option.bind_eq_some_iff.mp H
  obtain ⟨t576, A70, H⟩ := H
  replace H : (some t576) = some r := H
  have A7 := A_ A70
  clear A70
  obtain rfl := Option.some.inj H
  go_enter Try.func148, Try.ntmps148
  try go_wp2_with (first | ((with_reducible refine gate_dst (N := 2) rfl ?_); refine bx 2 #[.slice A0_0 l0_0.length c0_0] 26 ?_; intro gb572 hg w8 hbox hb; have BK572 := A_ hbox; have GW572 := A_ (eG hg (below_size (el HB)) : w.heap.size ≤ gb572); have GE572 := A_ (eG hg (below_size (el HB)) : w.heap.size ≤ gb572); replace HB := A_ (below_step (el HB) hb); clear hb hbox hg) | ((with_reducible refine gate_dst (N := 4) rfl ?_); refine bx 4 #[.slice none 0 0] 26 ?_; intro gb573 hg w9 hbox hb; have BK573 := A_ hbox; have GW573 := A_ (eG hg (below_size (el HB)) : w.heap.size ≤ gb573); have GE573 := A_ (eG hg (below_size (el HB)) : w.heap.size ≤ gb573); replace HB := A_ (below_step (el HB) hb); have NB572_573 := A_ ((by rw [hg]; exact Nat.ne_of_lt (eL BK572) : gb572 ≠ gb573)); have NB573_572 := A_ ((by rw [hg]; exact Nat.ne_of_gt (eL BK572) : gb573 ≠ gb572)); replace BK572 := A_ (eB BK572 hb); clear hb hbox hg))
  replace BK572 := A_ (blk_drew BK572.out)
  replace BK573 := A_ (blk_drew BK573.out)
  replace HB := A_ (below_drew1 HB.out)
  refine start_ (n := 9) (S := fun w' => w'.cell? ⟨gb572, 0, none⟩ = some (.slice A0_0 l0_0.length c0_0)) (ds := []) (bM 9 0) (by kernel_rfl) rfl rfl ((blk_cell BK572.out 0).trans rfl) (fun hHeld => ?_); refine with_tabW spec_l01Subtree.tab1 spec_l01Subtree.bits1 (fun HT_ HW_ => ?_)
  generalize w9.drew = w10 at BK572 BK573 HB hHeld ⊢
  refine pA 0 5 (bM 9 1) HT_ ?_
  refine pA 2 7 (bM 9 5) HT_ ?_
  refine pA 4 9 (bM 9 21) HT_ ?_
  refine take_ (i := 1) (N := some 6) (v := ?_) (a' := ?_) (bM 9 23) rfl rfl (take_ofW HT_.out HW_.out (by kernel_rfl)) (fun _ _ _ h => h) (Or.inl ⟨by rfl, ?_⟩) hHeld ?_ ?_
  rotate_left
  ·intro w' s0
   go_simp
   with_reducible rfl
  rotate_left
  ·simp only [Act.put, List.setIfInBounds_toArray, List.set_cons_zero, List.set_cons_succ, i64_w, i32_w]
   rfl
  refine take_ (i := 3) (N := some 8) (v := ?_) (a' := ?_) (bM 9 31) rfl rfl (take_ofW HT_.out HW_.out (by kernel_rfl)) (fun _ _ _ h => h) (Or.inl ⟨by rfl, ?_⟩) hHeld ?_ ?_
  rotate_left
  ·intro w' s0
   go_simp
   with_reducible rfl
  rotate_left
  ·simp only [Act.put, List.setIfInBounds_toArray, List.set_cons_zero, List.set_cons_succ, i64_w, i32_w]
   rfl
  refine one_ (i := 5) (N := some 10) (bM 9 63) rfl rfl (one_of HT_.out (by kernel_rfl)) (by decide) (fun K hK => ?_)
  refine goes_ Try.func103 (by kernel_rfl) rfl #[.agg #[.slice A0_0 l0_0.length c0_0], .int .i64 a1] (by rfl) rfl rfl eg ?_
  with_reducible refine (spec_l01End.calls k _ _ l0_0 a1 t574 _ ?side1 ?side2 A3.out).mono ?_
  (case side1 => exact cS (Kd.C_below HR0_0.out HB.out))
  (case side2 => exact HC0_0.out)
  rintro e w11 ⟨rfl, hb⟩
  refine ⟨_, rfl, ?_⟩
  replace BK572 := A_ (eB BK572 hb)
  replace BK573 := A_ (eB BK573 hb)
  replace HB := A_ (below_step (el HB) hb)
  (try clear hb)
  (try clear hb2)
  (try clear hk)
  (try clear hi)
  obtain ⟨i012, hi012, _, hsz12, _⟩ := info_parts info2
  obtain ⟨A12, hcut12, hA12, hC12⟩ := print_mid_of (P := Try.prog) (Value.int .i64) 0 24 2 .i64 .i64 Try.underlying24 hi012 hsz12 A0_0 c0_0 l0_0 a1 t574 (of_decide_eq_true spec_l01Subtree.Z0) (by first | omega | exact of_decide_eq_true spec_l01Subtree.Z0) (of_decide_eq_true spec_l01Subtree.Z0) HC0_0.out
  have HR575 := A_ (Kd.C_of_reads (h1 := fun _ => rfl) (hA12 _ (Kd.reads_of_C HR0_0.out)))
  have HC575 := A_ hC12
  clear hA12 hC12 hi012 hsz12
  refine hK.out _ _ ((blk_cell BK572.out 0).trans rfl) (fun hHeld => ?_)
  clear hK K
  refine norm_ (a' := ?_) ?_ ?_
  rotate_left
  ·show Act.put _ (some 10) _ = _
   simp only [Act.put, List.setIfInBounds_toArray, List.set_cons_zero, List.set_cons_succ, i64_w, i32_w]
   rfl
  refine pA 6 11 (bM 9 127) HT_ ?_
  refine one_ (i := 7) (N := some 12) (bM 9 255) rfl rfl (one_of HT_.out (by kernel_rfl)) (by decide) (fun K hK => ?_)
  refine goes_ Try.func173 (by kernel_rfl) rfl #[.slice A12 ((l0_0.take (t574 : Int).toNat).drop (a1 : Int).toNat).length (c0_0 - a1.toNat)] (by rfl) rfl rfl (by (try simp only [List.map_toArray, List.map_cons, List.map_nil]); first | done | (rw [show ((l0_0.take (t574 : Int).toNat).drop (a1 : Int).toNat).length = (t574.toNat - a1.toNat) from (by rw [List.length_drop, List.length_take]; have h_ : (t574 : Int) ≤ (l0_0.length : Int) := of_decide_eq_true spec_l01Subtree.Z0; omega)] <;> rfl) | rfl | (simp only [List.length_drop, List.length_take]; rfl)) ?_
  with_reducible refine (spec_l01Make.calls _ _ ((l0_0.take (t574 : Int).toNat).drop (a1 : Int).toNat) t576 _ ?side1 ?side2 A7.out).mono ?_
  (case side1 => exact cS (Kd.C_below HR575.out HB.out))
  (case side2 => exact HC575.out)
  rintro e w13 ⟨v577, rfl, ho0, hb⟩
  refine ⟨_, rfl, ?_⟩
  have HO578 := A_ (Kd.R_lower ho0 (below_size (el HB)))
  replace BK572 := A_ (eB BK572 hb)
  replace BK573 := A_ (eB BK573 hb)
  replace HB := A_ (below_step (el HB) hb)
  (try clear hb)
  (try clear hb2)
  (try clear hk)
  (try clear hi)
  (try clear ho0)
  obtain ⟨Ao14, co14, eo14⟩ := Kd.R_slice HO578.out
  (first | subst eo14 | (injection eo14 with f1_ f2_ f3_; have f4_ := f1_.symm; have f5_ := f3_.symm; clear f1_ f2_ f3_; subst f4_; subst f5_))
  refine hK.out _ _ ((blk_cell BK572.out 0).trans rfl) (fun hHeld => ?_)
  clear hK K
  refine norm_ (a' := ?_) ?_ ?_
  rotate_left
  ·show Act.put _ (some 12) _ = _
   simp only [Act.put, List.setIfInBounds_toArray, List.set_cons_zero, List.set_cons_succ, i64_w, i32_w]
   rfl
  refine one_ (i := 8) (N := none) (bM 9 511) rfl rfl (one_of HT_.out (by kernel_rfl)) (by decide) (fun K hK => ?_)
  have hs15 : w13.cell? ⟨gb573, 0, none⟩ = some (.slice none 0 0) := (blk_cell BK573.out 0).trans rfl
  have hfs15 := blk_frozen BK573.out 0
  have hns15_0 := NB572_573.out
  have hms15_0 := NB573_572.out
  refine skip_ (w1 := ?_) (by rfl) rfl ?_ ?_
  rotate_left
  ·go_simp
   rfl
  refine hK.out _ _ (((cell_far (p := ⟨gb573, _, none⟩) NB572_573.out _).trans (hHeld))) (fun hHeld => ?_)
  clear hK K
  refine done_ (done_of HT_.out (by kernel_rfl)) ?_
  try go_wp2
  refine bodyPost_ret (results_cell_row rfl _ _ gb573 26 #[.slice Ao14 t576.length co14] (0, 0) _ rfl (by (with_reducible repeat (first | refine blk_drewN ?_ _ | refine blk_drew ?_ | refine blk_alloc ?_ _)); refine blk_put (cs := #[.slice none 0 0]) ?_ 0 _ rfl; (with_reducible repeat (first | refine blk_drewN ?_ _ | refine blk_drew ?_ | refine blk_alloc ?_ _)); exact BK573.out) Try.underlying26 rfl (by kernel_rfl)) rfl ?_
  exact ⟨_, er, by (with_reducible repeat (first | apply Kd.R_alloc | apply Kd.R_drewN | apply Kd.R_drew)); exact Kd.R_mono (Kd.R_far (p := ⟨gb573, 0, none⟩) (Kd.R_types HO578.out BK573.out (by decide)) (fun _ hk => hk.2) (.slice Ao14 t576.length co14)) (fun _ hk => trivial), el HB⟩
 ·rw [if_neg c4] at H
  exact absurd H (by simp)

end Go.Proofs.Ytocachknmgefaaa.QFnTrees
