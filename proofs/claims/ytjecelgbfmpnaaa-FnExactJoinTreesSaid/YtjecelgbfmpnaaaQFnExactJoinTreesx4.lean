/- Functions of the program as plain Lean functions, each with a proof that the machine's call answers what it answers. Conditions: none. -/
import Derived.Test.YtjecelgbfmpnaaaQFnExactJoinTreesx0
import Derived.Test.YtjecelgbfmpnaaaQFnExactJoinTreesx1
import Derived.Test.YtjecelgbfmpnaaaQFnExactJoinTreesx2
import Derived.Test.YtjecelgbfmpnaaaQFnExactJoinTreesx3
namespace Go.Proofs.Ytjecelgbfmpnaaa.QFnExactJoinTrees
open Go.RowKit Go.Proofs.YtjecelgbfmpnaaaW.PrintWords Go.Proofs.YtjecelgbfmpnaaaW.PrintLast Go.Proofs.YtjecelgbfmpnaaaW.PrintMore
attribute [local go_sem] max2_int min2_int max_two min_two max_three min_three max_four min_four   -- for this text's walks alone
set_option linter.unusedVariables false
set_option linter.unusedSimpArgs false

/-! ### laws_eqTreeS: function 23 -/
def laws_eqTreeS.l0 : Nat → List (S26) → List (S26) → Int → Option (Bool)
  | 0, _, _, _ => none
  | k + 1, x0, x1, x5 => if x5 < (x0.length : Int) then (if 0 ≤ x5 then (if x5 < (x1.length : Int) then ((laws_eqTree.f k ((rd_T26 x0 x5).f0) ((rd_T26 x1 x5).f0)).bind fun t182 => (if t182 = true then (laws_eqTreeS.l0 k x0 x1 (wrap64 (x5 + 1))) else (some false))) else (none)) else (none)) else (some true)
def laws_eqTreeS.f (k : Nat) (l0 : List (S26)) (l1 : List (S26)) : Option (Bool) := if (l0.length : Int) = (l1.length : Int) then (laws_eqTreeS.l0 k l0 l1 0) else (some false)
theorem laws_eqTreeS.mono_l : ∀ k, (∀ y0 y1 y2, LeO (laws_eqTreeS.l0 k y0 y1 y2) (laws_eqTreeS.l0 (k + 1) y0 y1 y2))
  | 0 => fun _ _ _ r h => by simp [laws_eqTreeS.l0] at h
  | k + 1 => by
    have ih0 := laws_eqTreeS.mono_l k
    · intro y0 y1 y2
      unfold laws_eqTreeS.l0
      repeat' first
      | (with_reducible exact ih0 _ _ _)
      | (with_reducible exact laws_eqTree.mono _ _ _)
      | (with_reducible exact LeO.refl _)
      | (with_reducible exact LeO.none _)
      | (with_reducible refine LeO.ite ?_ ?_)
      | (with_reducible refine LeO.bind ?_ (fun _ => ?_))
      | exact ih0 _ _ _
      | exact laws_eqTree.mono _ _ _
      | exact LeO.none _
      | refine LeO.ite ?_ ?_
      | refine LeO.bind ?_ (fun _ => ?_)
theorem laws_eqTreeS.mono : ∀ a0 a1 k, LeO (laws_eqTreeS.f k a0 a1) (laws_eqTreeS.f (k + 1) a0 a1) := by
  intro a0 a1 k
  have ih0 := laws_eqTreeS.mono_l k
  unfold laws_eqTreeS.f
  repeat' first
      | (with_reducible exact ih0 _ _ _)
      | (with_reducible exact laws_eqTree.mono _ _ _)
      | (with_reducible exact LeO.refl _)
      | (with_reducible exact LeO.none _)
      | (with_reducible refine LeO.ite ?_ ?_)
      | (with_reducible refine LeO.bind ?_ (fun _ => ?_))
      | exact ih0 _ _ _
      | exact laws_eqTree.mono _ _ _
      | exact LeO.none _
      | refine LeO.ite ?_ ?_
      | refine LeO.bind ?_ (fun _ => ?_)
def laws_eqTreeS.T6 : Bool × List (List Nat × List Nat) := (true, [([], []), ([], []), ([0, 1], [0, 1]), ([2], [2]), ([], []), ([], []), ([4, 5], [4, 5]), ([6], [6]), ([3, 7], [3, 7]), ([8], [8])])
def laws_eqTreeS.B6 : List Nat := [0, 0, 3, 7, 0, 0, 48, 112, 255, 511]
theorem laws_eqTreeS.tab6 : rtab .any (opsOf Try.f23 6) = laws_eqTreeS.T6 := by kernel_rfl
theorem laws_eqTreeS.bits6 : waitsOk laws_eqTreeS.T6.2 laws_eqTreeS.B6 = true := by kernel_rfl
set_option maxHeartbeats 8000000 in
set_option maxRecDepth 100000 in
theorem laws_eqTreeS.calls (k : Nat) (A0 : Option Addr) (c0 : Nat) (l0 : List (S26)) (A1 : Option Addr) (c1 : Nat) (l1 : List (S26)) (r : Bool) (w : World) (hr0 : Kd.C k26 w A0 l0.length l0) (hc0 : l0.length ≤ c0) (hr1 : Kd.C k26 w A1 l1.length l1) (hc1 : l1.length ≤ c1) (h : laws_eqTreeS.f k l0 l1 = some r) :
    Calls Try.prog 23 #[.slice A0 l0.length c0, .slice A1 l1.length c1] w fun e w' => e = .returned (.bool r) ∧ Below w.heap.size w w' := by
  have hu26 := Try.underlying26
  have HR0 := Aside0.mk hr0
  have HC0 := Aside0.mk hc0
  clear hr0 hc0
  have HR1 := Aside0.mk hr1
  have HC1 := Aside0.mk hc1
  clear hr1 hc1
  have HB := Aside0.mk (Below.refl w.heap.size w)
  have H : (if (l0.length : Int) = (l1.length : Int) then (laws_eqTreeS.l0 k l0 l1 0) else (some false)) = some r := h
  clear h
  by_cases c3 : (l0.length : Int) = (l1.length : Int)
  · rw [if_pos c3] at H
    have c3b0 : ((l0.length : Int) == (l1.length : Int)) = true := beq_iff_eq.mpr c3
    have c3b1 : ((l0.length : Int) != (l1.length : Int)) = false := bne_eq_false_iff_eq.mpr c3
    have c3b2 : (l0.length == l1.length) = true := by first | simpa using c3 | (simp at c3 ⊢; omega)
    clear c3
    have H' := Aside0.mk H
    clear H
    go_enter Try.func23, Try.ntmps23
    go_wp2
    go_loopg [5] k (fun kq v5 w' => ∃ (x5_1 : Int), v5 = .int .i64 x5_1 ∧ Aside0 (laws_eqTreeS.l0 kq l0 l1 x5_1 = some r) ∧ Aside0 (kq ≤ k) ∧ Aside0 (Below w.heap.size w w'))
    case atStart => exact ⟨(0), (by first | rfl | (simp; done) | (simp [*]; done)), H', ⟨Nat.le_refl _⟩, ⟨by repeat (first | (with_reducible first | exact HB.out | apply below_alloc | apply pw_below_drewN | apply below_drew1) | exact HB.out)⟩⟩
    case round =>
      clear H'
      try clear c1
      try clear c2
      try clear p2
      try clear c3
      try clear c3b0
      try clear c3b1
      try clear c3b2
      obtain ⟨x5_1, rfl, HA, HK1, HB⟩ := hrel
      cases gk with
      | zero => exact absurd HA.out (by simp [laws_eqTreeS.l0])
      | succ k1 =>
        have H := HA.out
        clear HA
        simp only [laws_eqTreeS.l0] at H
        by_cases c4 : x5_1 < (l0.length : Int)
        · rw [if_pos c4] at H
          have c4b0 : decide (x5_1 < (l0.length : Int)) = true := decide_eq_true c4
          clear c4
          by_cases c5 : 0 ≤ x5_1
          · rw [if_pos c5] at H
            have c5b0 : decide (0 ≤ x5_1) = true := decide_eq_true c5
            clear c5
            by_cases c6 : x5_1 < (l1.length : Int)
            · rw [if_pos c6] at H
              have c6b0 : decide (x5_1 < (l1.length : Int)) = true := decide_eq_true c6
              clear c6
              replace H := Option.bind_eq_some_iff.mp H
              obtain ⟨t182, A70, H⟩ := H
              replace H : (if t182 = true then (laws_eqTreeS.l0 k1 l0 l1 (wrap64 (x5_1 + 1))) else (some false)) = some r := H
              have A7 := Aside0.mk A70
              clear A70
              by_cases c8 : t182 = true
              · subst c8
                have H1 : (laws_eqTreeS.l0 k1 l0 l1 (wrap64 (x5_1 + 1))) = some r := by rw [if_pos rfl] at H; exact H
                clear H
                have H := H1
                clear H1
                have H' := Aside0.mk H
                clear H
                try go_wp2
                have n0_ := Aside0.mk (below_drew1 HB.out)
                clear HB
                have HB := n0_
                clear n0_
                have p180 : 0 ≤ (x5_1 : Int) := of_decide_eq_true (by first | (with_reducible assumption) | assumption)
                have q180 : x5_1 < (l0.length : Int) := of_decide_eq_true (by first | (with_reducible assumption) | assumption)
                obtain ⟨ad180, A180_0, c180_0, e180, hx180_0, hl180_0, hi180_0⟩ := at_T26 HR0.out x5_1 p180 q180
                have hw180_0 := hx180_0
                cases e180
                replace hx180_0 := (HB.out.cell (World.block_lt_of_cell? w _ hx180_0)).trans hx180_0
                have HR180_0 := Aside0.mk hi180_0
                have HC180_0 := Aside0.mk hl180_0
                clear hi180_0 hl180_0
                replace p180 := eq_true p180
                replace q180 := eq_true q180
                have p181 : 0 ≤ (x5_1 : Int) := of_decide_eq_true (by first | (with_reducible assumption) | assumption)
                have q181 : x5_1 < (l1.length : Int) := of_decide_eq_true (by first | (with_reducible assumption) | assumption)
                obtain ⟨ad181, A181_0, c181_0, e181, hx181_0, hl181_0, hi181_0⟩ := at_T26 HR1.out x5_1 p181 q181
                have hw181_0 := hx181_0
                cases e181
                replace hx181_0 := (HB.out.cell (World.block_lt_of_cell? w _ hx181_0)).trans hx181_0
                have HR181_0 := Aside0.mk hi181_0
                have HC181_0 := Aside0.mk hl181_0
                clear hi181_0 hl181_0
                replace p181 := eq_true p181
                replace q181 := eq_true q181
                refine start_ (n := 10) (S := fun w' => w'.cell? (ad180.add (x5_1).toNat) = some (.slice A180_0 ((rd_T26 l0 x5_1).f0).length c180_0) ∧ w'.cell? (ad181.add (x5_1).toNat) = some (.slice A181_0 ((rd_T26 l1 x5_1).f0).length c181_0)) (ds := []) #[false, false, false, false, false, false, false, false, false, false] (by kernel_rfl) rfl rfl ⟨((HB.out.cell (World.block_lt_of_cell? w _ hw180_0)).trans hw180_0), ((HB.out.cell (World.block_lt_of_cell? w _ hw181_0)).trans hw181_0)⟩ (fun hHeld => ?_); refine with_tabW laws_eqTreeS.tab6 laws_eqTreeS.bits6 (fun HT_ HW_ => ?_)
                generalize wr.drew = w9 at HB HR180_0 HR181_0 hx180_0 hx181_0 hHeld ⊢
                refine pure_ (i := 0) (N := some 17) (v := ?_) (a' := ?_) #[true, false, false, false, false, false, false, false, false, false] rfl rfl (any_of HT_.out (by kernel_rfl)) (fun _ _ _ h => h) (Or.inl ⟨by rfl, ?_⟩) ?_ ?_
                rotate_left
                · intro w'
                  go_simp
                  with_reducible rfl
                rotate_left
                · simp only [Act.put, List.setIfInBounds_toArray, List.set_cons_zero, List.set_cons_succ, i64_w, i32_w]
                  rfl
                refine pure_ (i := 1) (N := some 18) (v := ?_) (a' := ?_) #[true, true, false, false, false, false, false, false, false, false] rfl rfl (any_of HT_.out (by kernel_rfl)) (fun _ _ _ h => h) (Or.inl ⟨by rfl, ?_⟩) ?_ ?_
                rotate_left
                · intro w'
                  go_simp
                  with_reducible rfl
                rotate_left
                · simp only [Act.put, List.setIfInBounds_toArray, List.set_cons_zero, List.set_cons_succ, i64_w, i32_w]
                  rfl
                refine pure_ (i := 2) (N := some 19) (v := ?_) (a' := ?_) #[true, true, true, false, false, false, false, false, false, false] rfl rfl (any_of HT_.out (by kernel_rfl)) (fun _ _ _ h => h) (Or.inl ⟨by rfl, ?_⟩) ?_ ?_
                rotate_left
                · intro w'
                  go_simp
                  with_reducible rfl
                rotate_left
                · simp only [Act.put, List.setIfInBounds_toArray, List.set_cons_zero, List.set_cons_succ, i64_w, i32_w]
                  rfl
                refine pure_ (i := 4) (N := some 21) (v := ?_) (a' := ?_) #[true, true, true, false, true, false, false, false, false, false] rfl rfl (any_of HT_.out (by kernel_rfl)) (fun _ _ _ h => h) (Or.inl ⟨by rfl, ?_⟩) ?_ ?_
                rotate_left
                · intro w'
                  go_simp
                  with_reducible rfl
                rotate_left
                · simp only [Act.put, List.setIfInBounds_toArray, List.set_cons_zero, List.set_cons_succ, i64_w, i32_w]
                  rfl
                refine pure_ (i := 5) (N := some 22) (v := ?_) (a' := ?_) #[true, true, true, false, true, true, false, false, false, false] rfl rfl (any_of HT_.out (by kernel_rfl)) (fun _ _ _ h => h) (Or.inl ⟨by rfl, ?_⟩) ?_ ?_
                rotate_left
                · intro w'
                  go_simp
                  with_reducible rfl
                rotate_left
                · simp only [Act.put, List.setIfInBounds_toArray, List.set_cons_zero, List.set_cons_succ, i64_w, i32_w]
                  rfl
                refine pure_ (i := 6) (N := some 23) (v := ?_) (a' := ?_) #[true, true, true, false, true, true, true, false, false, false] rfl rfl (any_of HT_.out (by kernel_rfl)) (fun _ _ _ h => h) (Or.inl ⟨by rfl, ?_⟩) ?_ ?_
                rotate_left
                · intro w'
                  go_simp
                  with_reducible rfl
                rotate_left
                · simp only [Act.put, List.setIfInBounds_toArray, List.set_cons_zero, List.set_cons_succ, i64_w, i32_w]
                  rfl
                refine take_ (i := 3) (N := some 20) (v := ?_) (a' := ?_) #[true, true, true, true, true, true, true, false, false, false] rfl rfl (take_ofW HT_.out HW_.out (by kernel_rfl)) (fun _ _ _ h => h) (Or.inl ⟨by rfl, ?_⟩) hHeld ?_ ?_
                rotate_left
                · rintro w' ⟨s0, s1⟩
                  go_simp
                  with_reducible rfl
                rotate_left
                · simp only [Act.put, List.setIfInBounds_toArray, List.set_cons_zero, List.set_cons_succ, i64_w, i32_w]
                  rfl
                refine take_ (i := 7) (N := some 24) (v := ?_) (a' := ?_) #[true, true, true, true, true, true, true, true, false, false] rfl rfl (take_ofW HT_.out HW_.out (by kernel_rfl)) (fun _ _ _ h => h) (Or.inl ⟨by rfl, ?_⟩) hHeld ?_ ?_
                rotate_left
                · rintro w' ⟨s0, s1⟩
                  go_simp
                  with_reducible rfl
                rotate_left
                · simp only [Act.put, List.setIfInBounds_toArray, List.set_cons_zero, List.set_cons_succ, i64_w, i32_w]
                  rfl
                refine one_ (i := 8) (N := some 25) #[true, true, true, true, true, true, true, true, true, false] rfl rfl (one_of HT_.out (by kernel_rfl)) (by decide) (fun K hK => ?_)
                refine goes_ Try.func16 (by kernel_rfl) rfl #[.agg #[.slice A180_0 ((rd_T26 l0 x5_1).f0).length c180_0], .agg #[.slice A181_0 ((rd_T26 l1 x5_1).f0).length c181_0]] (by rfl) rfl rfl (by (try simp only [List.map_toArray, List.map_cons, List.map_nil]); first | done | rfl | (simp only [List.length_drop, List.length_take]; rfl)) ?_
                with_reducible refine (laws_eqTree.calls k1 _ _ ((rd_T26 l0 x5_1).f0) _ _ ((rd_T26 l1 x5_1).f0) true _ ?side1 ?side2 ?side3 ?side4 A7.out).mono ?_
                (case side1 => repeat (first | exact (Kd.C_below HR180_0.out HB.out) | (with_reducible refine Kd.C_alloc ?_ _) | (with_reducible refine Kd.C_drewN ?_ _) | (with_reducible refine Kd.C_drew ?_)))
                (case side2 => exact HC180_0.out)
                (case side3 => repeat (first | exact (Kd.C_below HR181_0.out HB.out) | (with_reducible refine Kd.C_alloc ?_ _) | (with_reducible refine Kd.C_drewN ?_ _) | (with_reducible refine Kd.C_drew ?_)))
                (case side4 => exact HC181_0.out)
                rintro e w10 ⟨rfl, hb⟩
                refine ⟨_, rfl, ?_⟩
                have n0_ := Aside0.mk (below_step (by repeat (first | (with_reducible first | exact HB.out | apply below_alloc | apply pw_below_drewN | apply below_drew1) | exact HB.out)) hb)
                clear HB
                have HB := n0_
                clear n0_
                (try clear hb)
                (try clear hb2)
                (try clear hk)
                (try clear hi)
                refine hK.out _ _ ⟨((HB.out.cell (World.block_lt_of_cell? w _ hw180_0)).trans hw180_0), ((HB.out.cell (World.block_lt_of_cell? w _ hw181_0)).trans hw181_0)⟩ (fun hHeld => ?_)
                clear hK K
                refine norm_ (a' := ?_) ?_ ?_
                rotate_left
                · show Act.put _ (some 25) _ = _
                  simp only [Act.put, List.setIfInBounds_toArray, List.set_cons_zero, List.set_cons_succ, i64_w, i32_w]
                  rfl
                refine pure_ (i := 9) (N := some 26) (v := ?_) (a' := ?_) #[true, true, true, true, true, true, true, true, true, true] rfl rfl (any_of HT_.out (by kernel_rfl)) (fun _ _ _ h => h) (Or.inl ⟨by rfl, ?_⟩) ?_ ?_
                rotate_left
                · intro w'
                  go_simp
                  with_reducible rfl
                rotate_left
                · simp only [Act.put, List.setIfInBounds_toArray, List.set_cons_zero, List.set_cons_succ, i64_w, i32_w]
                  rfl
                refine done_ (done_of HT_.out (by kernel_rfl)) ?_
                try go_wp2
                go_roundg k1
                case measure => have := HK1.out; omega
                case rel => exact ⟨(wrap64 (x5_1 + 1)), (by first | rfl | (simp; done) | (simp [*]; done)), H', ⟨by have := HK1.out; omega⟩, ⟨by repeat (first | (with_reducible first | exact HB.out | apply below_alloc | apply pw_below_drewN | apply below_drew1) | exact HB.out)⟩⟩
              · replace c8 := Bool.eq_false_iff.mpr c8
                subst c8
                have H1 : (some false) = some r := by rw [if_neg (show ¬ (false = true) by decide)] at H; exact H
                clear H
                have H := H1
                clear H1
                obtain rfl := Option.some.inj H
                try go_wp2
                have n0_ := Aside0.mk (below_drew1 HB.out)
                clear HB
                have HB := n0_
                clear n0_
                have p180 : 0 ≤ (x5_1 : Int) := of_decide_eq_true (by first | (with_reducible assumption) | assumption)
                have q180 : x5_1 < (l0.length : Int) := of_decide_eq_true (by first | (with_reducible assumption) | assumption)
                obtain ⟨ad180, A180_0, c180_0, e180, hx180_0, hl180_0, hi180_0⟩ := at_T26 HR0.out x5_1 p180 q180
                have hw180_0 := hx180_0
                cases e180
                replace hx180_0 := (HB.out.cell (World.block_lt_of_cell? w _ hx180_0)).trans hx180_0
                have HR180_0 := Aside0.mk hi180_0
                have HC180_0 := Aside0.mk hl180_0
                clear hi180_0 hl180_0
                replace p180 := eq_true p180
                replace q180 := eq_true q180
                have p181 : 0 ≤ (x5_1 : Int) := of_decide_eq_true (by first | (with_reducible assumption) | assumption)
                have q181 : x5_1 < (l1.length : Int) := of_decide_eq_true (by first | (with_reducible assumption) | assumption)
                obtain ⟨ad181, A181_0, c181_0, e181, hx181_0, hl181_0, hi181_0⟩ := at_T26 HR1.out x5_1 p181 q181
                have hw181_0 := hx181_0
                cases e181
                replace hx181_0 := (HB.out.cell (World.block_lt_of_cell? w _ hx181_0)).trans hx181_0
                have HR181_0 := Aside0.mk hi181_0
                have HC181_0 := Aside0.mk hl181_0
                clear hi181_0 hl181_0
                replace p181 := eq_true p181
                replace q181 := eq_true q181
                refine start_ (n := 10) (S := fun w' => w'.cell? (ad180.add (x5_1).toNat) = some (.slice A180_0 ((rd_T26 l0 x5_1).f0).length c180_0) ∧ w'.cell? (ad181.add (x5_1).toNat) = some (.slice A181_0 ((rd_T26 l1 x5_1).f0).length c181_0)) (ds := []) #[false, false, false, false, false, false, false, false, false, false] (by kernel_rfl) rfl rfl ⟨((HB.out.cell (World.block_lt_of_cell? w _ hw180_0)).trans hw180_0), ((HB.out.cell (World.block_lt_of_cell? w _ hw181_0)).trans hw181_0)⟩ (fun hHeld => ?_); refine with_tabW laws_eqTreeS.tab6 laws_eqTreeS.bits6 (fun HT_ HW_ => ?_)
                generalize wr.drew = w11 at HB HR180_0 HR181_0 hx180_0 hx181_0 hHeld ⊢
                refine pure_ (i := 0) (N := some 17) (v := ?_) (a' := ?_) #[true, false, false, false, false, false, false, false, false, false] rfl rfl (any_of HT_.out (by kernel_rfl)) (fun _ _ _ h => h) (Or.inl ⟨by rfl, ?_⟩) ?_ ?_
                rotate_left
                · intro w'
                  go_simp
                  with_reducible rfl
                rotate_left
                · simp only [Act.put, List.setIfInBounds_toArray, List.set_cons_zero, List.set_cons_succ, i64_w, i32_w]
                  rfl
                refine pure_ (i := 1) (N := some 18) (v := ?_) (a' := ?_) #[true, true, false, false, false, false, false, false, false, false] rfl rfl (any_of HT_.out (by kernel_rfl)) (fun _ _ _ h => h) (Or.inl ⟨by rfl, ?_⟩) ?_ ?_
                rotate_left
                · intro w'
                  go_simp
                  with_reducible rfl
                rotate_left
                · simp only [Act.put, List.setIfInBounds_toArray, List.set_cons_zero, List.set_cons_succ, i64_w, i32_w]
                  rfl
                refine pure_ (i := 2) (N := some 19) (v := ?_) (a' := ?_) #[true, true, true, false, false, false, false, false, false, false] rfl rfl (any_of HT_.out (by kernel_rfl)) (fun _ _ _ h => h) (Or.inl ⟨by rfl, ?_⟩) ?_ ?_
                rotate_left
                · intro w'
                  go_simp
                  with_reducible rfl
                rotate_left
                · simp only [Act.put, List.setIfInBounds_toArray, List.set_cons_zero, List.set_cons_succ, i64_w, i32_w]
                  rfl
                refine pure_ (i := 4) (N := some 21) (v := ?_) (a' := ?_) #[true, true, true, false, true, false, false, false, false, false] rfl rfl (any_of HT_.out (by kernel_rfl)) (fun _ _ _ h => h) (Or.inl ⟨by rfl, ?_⟩) ?_ ?_
                rotate_left
                · intro w'
                  go_simp
                  with_reducible rfl
                rotate_left
                · simp only [Act.put, List.setIfInBounds_toArray, List.set_cons_zero, List.set_cons_succ, i64_w, i32_w]
                  rfl
                refine pure_ (i := 5) (N := some 22) (v := ?_) (a' := ?_) #[true, true, true, false, true, true, false, false, false, false] rfl rfl (any_of HT_.out (by kernel_rfl)) (fun _ _ _ h => h) (Or.inl ⟨by rfl, ?_⟩) ?_ ?_
                rotate_left
                · intro w'
                  go_simp
                  with_reducible rfl
                rotate_left
                · simp only [Act.put, List.setIfInBounds_toArray, List.set_cons_zero, List.set_cons_succ, i64_w, i32_w]
                  rfl
                refine pure_ (i := 6) (N := some 23) (v := ?_) (a' := ?_) #[true, true, true, false, true, true, true, false, false, false] rfl rfl (any_of HT_.out (by kernel_rfl)) (fun _ _ _ h => h) (Or.inl ⟨by rfl, ?_⟩) ?_ ?_
                rotate_left
                · intro w'
                  go_simp
                  with_reducible rfl
                rotate_left
                · simp only [Act.put, List.setIfInBounds_toArray, List.set_cons_zero, List.set_cons_succ, i64_w, i32_w]
                  rfl
                refine take_ (i := 3) (N := some 20) (v := ?_) (a' := ?_) #[true, true, true, true, true, true, true, false, false, false] rfl rfl (take_ofW HT_.out HW_.out (by kernel_rfl)) (fun _ _ _ h => h) (Or.inl ⟨by rfl, ?_⟩) hHeld ?_ ?_
                rotate_left
                · rintro w' ⟨s0, s1⟩
                  go_simp
                  with_reducible rfl
                rotate_left
                · simp only [Act.put, List.setIfInBounds_toArray, List.set_cons_zero, List.set_cons_succ, i64_w, i32_w]
                  rfl
                refine take_ (i := 7) (N := some 24) (v := ?_) (a' := ?_) #[true, true, true, true, true, true, true, true, false, false] rfl rfl (take_ofW HT_.out HW_.out (by kernel_rfl)) (fun _ _ _ h => h) (Or.inl ⟨by rfl, ?_⟩) hHeld ?_ ?_
                rotate_left
                · rintro w' ⟨s0, s1⟩
                  go_simp
                  with_reducible rfl
                rotate_left
                · simp only [Act.put, List.setIfInBounds_toArray, List.set_cons_zero, List.set_cons_succ, i64_w, i32_w]
                  rfl
                refine one_ (i := 8) (N := some 25) #[true, true, true, true, true, true, true, true, true, false] rfl rfl (one_of HT_.out (by kernel_rfl)) (by decide) (fun K hK => ?_)
                refine goes_ Try.func16 (by kernel_rfl) rfl #[.agg #[.slice A180_0 ((rd_T26 l0 x5_1).f0).length c180_0], .agg #[.slice A181_0 ((rd_T26 l1 x5_1).f0).length c181_0]] (by rfl) rfl rfl (by (try simp only [List.map_toArray, List.map_cons, List.map_nil]); first | done | rfl | (simp only [List.length_drop, List.length_take]; rfl)) ?_
                with_reducible refine (laws_eqTree.calls k1 _ _ ((rd_T26 l0 x5_1).f0) _ _ ((rd_T26 l1 x5_1).f0) false _ ?side1 ?side2 ?side3 ?side4 A7.out).mono ?_
                (case side1 => repeat (first | exact (Kd.C_below HR180_0.out HB.out) | (with_reducible refine Kd.C_alloc ?_ _) | (with_reducible refine Kd.C_drewN ?_ _) | (with_reducible refine Kd.C_drew ?_)))
                (case side2 => exact HC180_0.out)
                (case side3 => repeat (first | exact (Kd.C_below HR181_0.out HB.out) | (with_reducible refine Kd.C_alloc ?_ _) | (with_reducible refine Kd.C_drewN ?_ _) | (with_reducible refine Kd.C_drew ?_)))
                (case side4 => exact HC181_0.out)
                rintro e w12 ⟨rfl, hb⟩
                refine ⟨_, rfl, ?_⟩
                have n0_ := Aside0.mk (below_step (by repeat (first | (with_reducible first | exact HB.out | apply below_alloc | apply pw_below_drewN | apply below_drew1) | exact HB.out)) hb)
                clear HB
                have HB := n0_
                clear n0_
                (try clear hb)
                (try clear hb2)
                (try clear hk)
                (try clear hi)
                refine hK.out _ _ ⟨((HB.out.cell (World.block_lt_of_cell? w _ hw180_0)).trans hw180_0), ((HB.out.cell (World.block_lt_of_cell? w _ hw181_0)).trans hw181_0)⟩ (fun hHeld => ?_)
                clear hK K
                refine norm_ (a' := ?_) ?_ ?_
                rotate_left
                · show Act.put _ (some 25) _ = _
                  simp only [Act.put, List.setIfInBounds_toArray, List.set_cons_zero, List.set_cons_succ, i64_w, i32_w]
                  rfl
                refine pure_ (i := 9) (N := some 26) (v := ?_) (a' := ?_) #[true, true, true, true, true, true, true, true, true, true] rfl rfl (any_of HT_.out (by kernel_rfl)) (fun _ _ _ h => h) (Or.inl ⟨by rfl, ?_⟩) ?_ ?_
                rotate_left
                · intro w'
                  go_simp
                  with_reducible rfl
                rotate_left
                · simp only [Act.put, List.setIfInBounds_toArray, List.set_cons_zero, List.set_cons_succ, i64_w, i32_w]
                  rfl
                refine done_ (done_of HT_.out (by kernel_rfl)) ?_
                try go_wp2
                go_ret
                exact ⟨by first | rfl | (simp [errW_none, errW_some] <;> rfl) | (simp [*, errW_none, errW_some] <;> rfl), by repeat (first | (with_reducible first | exact HB.out | apply below_alloc | apply pw_below_drewN | apply below_drew1) | exact HB.out)⟩
            · rw [if_neg c6] at H
              exact absurd H (by simp)
          · rw [if_neg c5] at H
            exact absurd H (by simp)
        · rw [if_neg c4] at H
          have c4b0 : decide (x5_1 < (l0.length : Int)) = false := decide_eq_false c4
          clear c4
          obtain rfl := Option.some.inj H
          go_wp2
          go_ret
          exact ⟨by first | rfl | (simp [errW_none, errW_some] <;> rfl) | (simp [*, errW_none, errW_some] <;> rfl), by repeat (first | (with_reducible first | exact HB.out | apply below_alloc | apply pw_below_drewN | apply below_drew1) | exact HB.out)⟩
  · rw [if_neg c3] at H
    have c3b0 : ((l0.length : Int) == (l1.length : Int)) = false := beq_eq_false_iff_ne.mpr c3
    have c3b1 : ((l0.length : Int) != (l1.length : Int)) = true := bne_iff_ne.mpr c3
    have c3b2 : (l0.length == l1.length) = false := by first | simpa using c3 | (simp at c3 ⊢; omega)
    obtain rfl := Option.some.inj H
    go_enter Try.func23, Try.ntmps23
    go_wp2
    go_ret
    exact ⟨by first | rfl | (simp [errW_none, errW_some] <;> rfl) | (simp [*, errW_none, errW_some] <;> rfl), by repeat (first | (with_reducible first | exact HB.out | apply below_alloc | apply pw_below_drewN | apply below_drew1) | exact HB.out)⟩

/-! ### laws_markTreeS: function 24 -/
/-- the degrees of each tree are marked, one behind the other -/
def laws_markTreeS.g (k : Nat) : List S26 → Int → Option (Int × List S26)
  | [], a => some (a, [])
  | x :: xs, a => (laws_markInt64S.f k x.f0 a).bind fun p => (laws_markTreeS.g k xs p.1).bind fun q => some (q.1, ⟨p.2⟩ :: q.2)
def laws_markTreeS.f (k : Nat) (l0 : List S26) (a1 : Int) : Option (Int × List S26) := if l0.length ≤ 1000000000 then laws_markTreeS.g k l0 a1 else none
theorem lendA {α : Type} {d : Kd α} {e : Nat} {W : World} {base : Nat} {ok : Nat → Prop} {ad : Addr} {n cap : Nat} {xs : List α} (h : Kd.S d e W base ok (.slice (some ad) n cap) xs) (z : α) (i : Int) (h0 : 0 ≤ i) (h1 : i < n) :
    ∃ (oki : Nat → Prop) (c : List Value), d.M W base oki (xs.getD i.toNat z) c ∧ (∀ j u, c[j]? = some u → W.cell? (ad.add (i.toNat * d.sz + j)) = some u) ∧ (∀ k, oki k → ok k) ∧ Kd.H d e W base ok (.slice (some ad) n cap) xs i oki c := by
  obtain ⟨g, rfl⟩ := Kd.R_head (Kd.S_R h)
  obtain ⟨oki, c, hcl, hM, hcc, hoki, hH⟩ := Kd.S_lend h z i h0 h1
  refine ⟨oki, c, hM, fun j u hu => ?_, fun k hk => (hoki k hk).1, hH⟩
  rw [add_at, Nat.zero_add]
  exact hcc j u hu
theorem some_addr {α : Type} {d : Kd α} {e : Nat} {W : World} {base : Nat} {ok : Nat → Prop} {A : Option Addr} {n cap : Nat} {xs : List α} (h : Kd.S d e W base ok (.slice A n cap) xs) (hn : 0 < xs.length) : ∃ ad, A = some ad := by
  obtain ⟨g, c, e0, _⟩ := Kd.S_form h hn
  injection e0 with ha _ _
  exact ⟨_, ha⟩
set_option maxHeartbeats 8000000 in
set_option maxRecDepth 100000 in
theorem laws_markTreeS.calls (k : Nat) (P0 : Nat → Prop) (u : Value) (l0 : List S26) (a1 : Int) (r1 : Int) (r2 : List S26) (w0 w : World) (hB : Below w0.heap.size w0 w) (ho : Kd.S k26 26 w w0.heap.size P0 u l0) (h : laws_markTreeS.f k l0 a1 = some (r1, r2)) :
    Calls Try.prog 24 #[u, .int .i64 a1] w fun e w' => e = .returned (.int .i64 r1) ∧ Kd.S k26 26 w' w0.heap.size P0 u r2 ∧ Below w0.heap.size w0 w' ∧ Kept w w' P0 := by
  unfold laws_markTreeS.f at h
  by_cases c0 : l0.length ≤ 1000000000
  · rw [if_pos c0] at h
    obtain ⟨A, c, rfl⟩ := Kd.S_slice ho
    obtain ⟨n, hn⟩ : ∃ n, n = l0.length := ⟨_, rfl⟩
    rw [← hn] at c0 ho ⊢
    have HN := Aside0.mk hn
    have HO := Aside0.mk ho
    have HB := Aside0.mk hB
    have HT := Aside0.mk h
    have HK := Aside0.mk (Kept.refl w P0)
    clear hn ho hB h
    go_enter Try.func24, Try.ntmps24
    go_wp2_with fail
    go_loopw [1, 5] (fun v1 v5 wq => ∃ (i : Nat) (x1 : Int) (dn rest rr : List S26), v1 = .int .i64 x1 ∧ v5 = .int .i64 (i : Int) ∧ i ≤ n ∧ Aside0 (dn.length = i ∧ dn.length + rest.length = n ∧ dn ++ rr = r2) ∧ Aside0 (laws_markTreeS.g k rest x1 = some (r1, rr)) ∧ Aside0 (Kd.S k26 26 wq w0.heap.size P0 (.slice A n c) (dn ++ rest)) ∧ Aside0 (Below w0.heap.size w0 wq) ∧ Aside0 (Kept w wq P0)) (fun _ v5 _ => n - (intOf v5).toNat)
    case atStart => exact ⟨0, a1, [], l0, r2, rfl, rfl, by omega, ⟨by simp [HN.out]⟩, HT, HO, HB, HK⟩
    case round =>
      clear HT HO HB HK
      obtain ⟨i, x1, dn, rest, rr, rfl, rfl, hi, HL, HT, HO, HB, HK⟩ := hrel
      by_cases hlt : i < n
      · cases rest with
        | nil =>
          have := HL.out
          simp only [List.length_nil] at this
          omega
        | cons x rest =>
          obtain ⟨ad, rfl⟩ := some_addr HO.out (by simp; omega)
          obtain ⟨oki, cc, hM, hcc, hoki, hH⟩ := lendA HO.out z26 (i : Int) (by omega) (by omega)
          have hg : (dn ++ x :: rest).getD (i : Int).toNat z26 = x := by
            rw [Int.toNat_natCast, List.getD_eq_getElem?_getD, List.getElem?_append_right (by have := HL.out; omega), show i - dn.length = 0 by have := HL.out; omega]
            rfl
          rw [hg] at hM
          obtain ⟨v0, rfl, hR⟩ := k26_openM hM
          have hx := hcc 0 v0 rfl
          rw [Int.toNat_natCast, show k26.sz = 1 from rfl, Nat.mul_one, Nat.add_zero] at hx
          have h1 := HT.out
          simp only [laws_markTreeS.g] at h1
          obtain ⟨⟨p1, p2⟩, hI, h1⟩ := Option.bind_eq_some_iff.mp h1
          obtain ⟨⟨q1, q2⟩, hJ, h1⟩ := Option.bind_eq_some_iff.mp h1
          simp only [Option.some.injEq, Prod.mk.injEq] at h1
          obtain ⟨rfl, rfl⟩ := h1
          have HI := Aside0.mk hI
          have HJ := Aside0.mk hJ
          have HR := Aside0.mk hR
          have HH := Aside0.mk hH
          have HP := Aside0.mk hoki
          clear hI hJ hR hH hoki hM hcc hg HT
          go_wp2_with (go_at_call 28; (with_reducible refine (laws_markInt64S.calls k oki v0 x.f0 x1 p1 p2 w0 _ ?side1 ?side2 HI.out).mono ?_); (case side1 => exact HB.out); (case side2 => exact HR.out); rintro e w2 ⟨rfl, hR2, hB2, hK2⟩; have n0_ := Aside0.mk (Kd.H_back (x' := ⟨p2⟩) (Kd.H_step HH.out (fun k hk hn hlt => hK2.2 k hlt hn)) (k26_mkM w2 w0.heap.size oki ⟨p2⟩ (Kd.R_reok rfl hR2 (fun k hk => HR.out.1 k hk))) (fun _ h => h)); have n1_ := Aside0.mk hB2; have n2_ := Aside0.mk (HK.out.then_ hK2 (fun k hk => .inl (HP.out k hk))); clear HB HK HO; have HO := n0_; have HB := n1_; have HK := n2_; clear n0_ n1_ n2_ hR2 hB2 hK2 hx)
          refine ⟨⟨i + 1, p1, dn ++ [⟨p2⟩], rest, q2, rfl, by go_num, by omega, ?_, HJ, ?_, HB, HK⟩, by simp [intOf]; omega⟩
          · have h_ := HL.out
            simp only [List.length_cons] at h_
            refine ⟨?_, ?_, ?_⟩
            · simp; omega
            · simp; omega
            · rw [List.append_assoc]; exact h_.2.2
          · have h_ := HO.out
            have e : (dn ++ x :: rest).set (i : Int).toNat ⟨p2⟩ = (dn ++ [⟨p2⟩]) ++ rest := by
              rw [Int.toNat_natCast, List.set_append_right _ _ (by have := HL.out; omega), show i - dn.length = 0 by have := HL.out; omega]
              simp
            rw [e] at h_
            exact ⟨h_⟩
      · obtain rfl : i = n := by omega
        cases rest with
        | cons x rest =>
          have := HL.out
          simp only [List.length_cons] at this
          omega
        | nil =>
          have h1 := HT.out
          simp only [laws_markTreeS.g, Option.some.injEq, Prod.mk.injEq] at h1
          obtain ⟨rfl, rfl⟩ := h1
          have e := HL.out.2.2
          have h_ := HO.out
          rw [e] at h_
          have HO2 := Aside0.mk h_
          clear e h_ HT HO HL
          go_wp2_with fail
          go_ret
          exact ⟨rfl, HO2.out, HB.out, HK.out⟩
  · rw [if_neg c0] at h
    cases h


/-! ### laws_FnExactJoinTrees: function 4 -/
/-- The law's way: every test answers as it should. -/
def laws_FnExactJoinTrees.f (k : Nat) (l0 : List S24) : Option Bool := (laws_szTreeS.f k l0 1048576).bind fun s => if s < 0 then some true else (laws_toTreeS.f k l0).bind fun X => (spec_JoinTrees.f k X).bind fun v => (impl_JoinTrees.f k X).bind fun g => if g.2 = v.2 then ((laws_eqTree.f k g.1 v.1).bind fun t => if t = true then ((laws_eqTreeS.f k X X).bind fun t2 => if t2 = true then ((laws_markTreeS.f k X 1).bind fun m => if 0 ≤ m.1 then ((laws_markTree.f k g.1 1).bind fun p => (laws_heldTree.f k p.2 1).bind fun q => if q = p.1 then (if 0 ≤ q then some true else none) else none) else none) else none) else none) else none
set_option maxHeartbeats 8000000 in
set_option maxRecDepth 100000 in
theorem laws_FnExactJoinTrees.calls (k : Nat) (A0 : Option Addr) (c0 : Nat) (l0 : List S24) (r : Bool) (w : World) (hr0 : Kd.C k24 w A0 l0.length l0) (hc0 : l0.length ≤ c0) (h : laws_FnExactJoinTrees.f k l0 = some r) :
    Calls Try.prog 4 #[.slice A0 l0.length c0] w fun e w' => e = .returned (.bool r) ∧ Below w.heap.size w w' := by
  have hu := Try.underlying26
  have HR0 := Aside0.mk hr0
  have HC0 := Aside0.mk hc0
  have HB_ := Aside0.mk (Below.refl w.heap.size w)
  clear hr0 hc0
  unfold laws_FnExactJoinTrees.f at h
  replace h := Option.bind_eq_some_iff.mp h
  obtain ⟨s, hz, h⟩ := h
  have AZ := Aside0.mk hz
  clear hz
  by_cases g0 : s < 0
  · rw [if_pos g0] at h
    obtain rfl := Option.some.inj h
    have g0b : decide (s < 0) = true := decide_eq_true g0
    clear h g0
    have tok1_ : True := trivial
    go_enter Try.func4, Try.ntmps4
    go_wp2_with (first | (go_at_call 19; have t_ := tok1_; clear t_; (with_reducible refine (laws_szTreeS.calls k A0 c0 l0 1048576 s _ ?s1 ?s2 AZ.out).mono ?_); (case s1 => exact (Kd.C_below HR0.out HB_.out)); (case s2 => exact HC0.out); rintro e w1_ ⟨rfl, hb⟩; have n0_ := Aside0.mk (show Below w.heap.size w w1_ from below_step HB_.out hb); clear HB_; have HB_ := n0_; clear n0_; have Z0_ := Aside0.mk (show w.heap.size ≤ w1_.heap.size from hb.size); clear hb; clear tok1_))
    go_ret
    exact ⟨rfl, HB_.out⟩
  · rw [if_neg g0] at h
    have g0b : decide (s < 0) = false := decide_eq_false g0
    clear g0
    replace h := Option.bind_eq_some_iff.mp h
    obtain ⟨X, ht, h⟩ := h
    replace h := Option.bind_eq_some_iff.mp h
    obtain ⟨⟨L0, cc⟩, hs, h⟩ := h
    replace h := Option.bind_eq_some_iff.mp h
    obtain ⟨⟨L1, cd⟩, hi, h⟩ := h
    dsimp only at h
    by_cases g1 : cd = cc
    · rw [if_pos g1] at h
      subst g1
      replace h := Option.bind_eq_some_iff.mp h
      obtain ⟨t, he, h⟩ := h
      by_cases g2 : t = true
      · rw [if_pos g2] at h
        subst g2
        replace h := Option.bind_eq_some_iff.mp h
        obtain ⟨t2, hq, h⟩ := h
        by_cases g3 : t2 = true
        · rw [if_pos g3] at h
          subst g3
          replace h := Option.bind_eq_some_iff.mp h
          obtain ⟨⟨m, X2⟩, hm, h⟩ := h
          dsimp only at h
          by_cases g4 : 0 ≤ m
          · rw [if_pos g4] at h
            have g4b : decide (m < 0) = false := decide_eq_false (by omega)
            replace h := Option.bind_eq_some_iff.mp h
            obtain ⟨⟨p, L2⟩, hp, h⟩ := h
            replace h := Option.bind_eq_some_iff.mp h
            obtain ⟨q, hh, h⟩ := h
            dsimp only at h hh
            by_cases g5 : q = p
            · rw [if_pos g5] at h
              subst g5
              by_cases g6 : 0 ≤ q
              · rw [if_pos g6] at h
                obtain rfl := Option.some.inj h
                have g6b : decide (q < 0) = false := decide_eq_false (by omega)
                obtain ⟨p, hpq⟩ : ∃ p, p = q := ⟨_, rfl⟩
                rw [← hpq] at hp hh g6b
                have AT := Aside0.mk ht
                have AS := Aside0.mk hs
                have AI := Aside0.mk hi
                have AE := Aside0.mk he
                have AQ := Aside0.mk hq
                have AM := Aside0.mk hm
                have AP := Aside0.mk hp
                have AH := Aside0.mk hh
                clear h ht hs hi he hq hm hp hh g4 g6 hpq
                have tok1_ : True := trivial
                have tok2_ : True := trivial
                have tok3_ : True := trivial
                have tok4_ : True := trivial
                have tok5_ : True := trivial
                have tok6_ : True := trivial
                have tok7_ : True := trivial
                have tok8_ : True := trivial
                have tok9_ : True := trivial
                have tok10_ : True := trivial
                have tok11_ : True := trivial
                have tok12_ : True := trivial
                have tok13_ : True := trivial
                have tok14_ : True := trivial
                have tok15_ : True := trivial
                have tok16_ : True := trivial
                have tok17_ : True := trivial
                have tok18_ : True := trivial
                have tok19_ : True := trivial
                have tok20_ : True := trivial
                have tok21_ : True := trivial
                have tok22_ : True := trivial
                go_enter Try.func4, Try.ntmps4
                go_wp2_with (first | (go_at_call 19; have t_ := tok1_; clear t_; (with_reducible refine (laws_szTreeS.calls k A0 c0 l0 1048576 s _ ?s1 ?s2 AZ.out).mono ?_); (case s1 => exact (Kd.C_below HR0.out HB_.out)); (case s2 => exact HC0.out); rintro e w1_ ⟨rfl, hb⟩; have n0_ := Aside0.mk (show Below w.heap.size w w1_ from below_step HB_.out hb); clear HB_; have HB_ := n0_; clear n0_; have Z0_ := Aside0.mk (show w.heap.size ≤ w1_.heap.size from hb.size); clear hb; clear tok1_) | (go_at_call 21; have t_ := tok2_; clear t_; (with_reducible refine (laws_toTreeS.calls k A0 c0 l0 X _ ?s1 ?s2 AT.out).mono ?_); (case s1 => exact (Kd.C_below HR0.out HB_.out)); (case s2 => exact HC0.out); rintro e w2_ ⟨vt_, rfl, ho_, hb⟩; have nn_ := Aside0.mk (show Kd.S k26 26 w2_ w.heap.size (fun k_ => w1_.heap.size ≤ k_ ∧ k_ < w2_.heap.size) (vt_) X from Kd.S_mono (Kd.S_lower (Kd.S_bound ho_) (below_size HB_.out)) (fun k_ hk_ => ⟨hk_.2.1, hk_.2.2.1⟩)); clear ho_; have n0_ := Aside0.mk (show Below w.heap.size w w2_ from below_step HB_.out hb); clear HB_; have HB_ := n0_; clear n0_; have Z1_ := Aside0.mk (show w1_.heap.size ≤ w2_.heap.size from hb.size); have Ht_ := nn_; clear nn_ hb; obtain ⟨At_, ct_, eo_⟩ := Kd.S_slice Ht_.out; subst eo_; clear tok2_) | (go_at_call 20; have t_ := tok3_; clear t_; (with_reducible refine (spec_JoinTrees.calls k At_ ct_ X L0 cd _ ?s1 ?s2 AS.out).mono ?_); (case s1 => exact (Kd.S_reads' Ht_.out).2.2); (case s2 => exact (by have h1_ := (Kd.S_reads' Ht_.out).1; have h2_ := (Kd.S_reads' Ht_.out).2.1; omega)); rintro e w3_ ⟨vv_, rfl, ho_, hb⟩; have nn_ := Aside0.mk (show Kd.R (Kd.int .i64) 2 w3_ w.heap.size (fun k_ => w2_.heap.size ≤ k_ ∧ k_ < w3_.heap.size) (vv_) L0 from Kd.R_mono (Kd.R_lower (Kd.R_bound ho_) (below_size HB_.out)) (fun k_ hk_ => ⟨hk_.2.1, hk_.2.2.1⟩)); clear ho_; have n0_ := Aside0.mk (show Below w.heap.size w w3_ from below_step HB_.out hb); have n1_ := Aside0.mk (show Kd.S k26 26 w3_ w.heap.size (fun k_ => w1_.heap.size ≤ k_ ∧ k_ < w2_.heap.size) (.slice At_ X.length ct_) X from Kd.S_below Ht_.out hb); clear HB_ Ht_; have HB_ := n0_; have Ht_ := n1_; clear n0_ n1_; have Z2_ := Aside0.mk (show w2_.heap.size ≤ w3_.heap.size from hb.size); have Hv_ := nn_; clear nn_ hb; obtain ⟨Av_, cv_, eo_⟩ := Kd.R_slice Hv_.out; subst eo_; clear tok3_) | ((with_reducible refine gate_dst (N := 4) rfl ?_); have t_ := tok4_; clear t_; refine box_event ?hg (N := 4) ?hd (cs := #[.slice none 0 0]) (t := 26) ?hr ?_; (case hd => rfl); (case hg => rfl); (case hr => first | (go_simp; done) | (go_simp; rfl)); intro gb_ hg w4_ hbox hb; have Kb_ := Aside0.mk hbox; have Z3_ := Aside0.mk (show w.heap.size ≤ gb_ from by rw [hg]; exact below_size HB_.out); have n0_ := Aside0.mk (show Below w.heap.size w w4_ from below_step HB_.out hb); have n1_ := Aside0.mk (show Kd.R (Kd.int .i64) 2 w4_ w.heap.size (fun k_ => w2_.heap.size ≤ k_ ∧ k_ < w3_.heap.size) (.slice Av_ L0.length cv_) L0 from Kd.R_below Hv_.out hb); clear HB_ Hv_; have HB_ := n0_; have Hv_ := n1_; clear n0_ n1_; have Z4_ := Aside0.mk (show w3_.heap.size ≤ w4_.heap.size from hb.size); have Z5_ := Aside0.mk (show gb_ < w4_.heap.size from blk_lt hbox); have Z6_ := Aside0.mk (show gb_ = w3_.heap.size from hg); clear hbox hb hg; have hcz_ : w4_.cell? ⟨gb_, 0, none⟩ = some (.slice none 0 0) := (blk_cell Kb_.out 0).trans rfl; have hfz_ := blk_frozen Kb_.out 0; clear tok4_) | ((with_reducible refine gate_store (t := 26) (p := 4) rfl ?_); have t_ := tok5_; clear t_; refine store_event (t := 26) (p := 4) (v := ?vow5_) (w1 := w4_.setCell ⟨gb_, 0, none⟩ (.slice Av_ L0.length cv_)) ?hg ?ho ?hn ?hr ?_; (case ho => rfl); (case hg => rfl); (case hn => rfl); (case hr => first | (go_simp; done) | (go_simp; rfl)); intro w5_ hw; clear hcz_ hfz_; have n0_ := Aside0.mk (show Below w.heap.size w w5_ from (by rw [hw]; exact below_set HB_.out (by have z0_ := Z0_.out; have z1_ := Z1_.out; have z2_ := Z2_.out; have z3_ := Z3_.out; have z4_ := Z4_.out; have z5_ := Z5_.out; have z6_ := Z6_.out; omega))); have n1_ := Aside0.mk (show Kd.R (Kd.int .i64) 2 w5_ w.heap.size (fun k_ => w2_.heap.size ≤ k_ ∧ k_ < w3_.heap.size) (.slice Av_ L0.length cv_) L0 from (by rw [hw]; exact Kd.R_far (p := ⟨gb_, 0, none⟩) Hv_.out (fun k_ hk_ => by have h1_ := hk_.1; have h2_ := hk_.2; show k_ ≠ gb_; have z0_ := Z0_.out; have z1_ := Z1_.out; have z2_ := Z2_.out; have z3_ := Z3_.out; have z4_ := Z4_.out; have z5_ := Z5_.out; have z6_ := Z6_.out; omega) _)); have n2_ := Aside0.mk (show w5_.heap[gb_]? = some (.cells #[.slice Av_ L0.length cv_] 26 (0, 0)) from (by rw [hw]; exact blk_put (cs := #[.slice none 0 0]) Kb_.out 0 _ rfl)); clear HB_ Hv_ Kb_; have HB_ := n0_; have Hv_ := n1_; have Kb_ := n2_; clear n0_ n1_ n2_; have Z7_ := Aside0.mk (show w5_.heap.size = w4_.heap.size from (by rw [hw]; simp [World.setCell])); clear hw; clear tok5_) | (go_at_call 21; have t_ := tok6_; clear t_; (with_reducible refine (laws_toTreeS.calls k A0 c0 l0 X _ ?s1 ?s2 AT.out).mono ?_); (case s1 => exact (Kd.C_below HR0.out HB_.out)); (case s2 => exact HC0.out); rintro e w6_ ⟨vx_, rfl, ho_, hb⟩; have nn_ := Aside0.mk (show Kd.S k26 26 w6_ w.heap.size (fun k_ => w5_.heap.size ≤ k_ ∧ k_ < w6_.heap.size) (vx_) X from Kd.S_mono (Kd.S_lower (Kd.S_bound ho_) (below_size HB_.out)) (fun k_ hk_ => ⟨hk_.2.1, hk_.2.2.1⟩)); clear ho_; have n0_ := Aside0.mk (show Below w.heap.size w w6_ from below_step HB_.out hb); have n1_ := Aside0.mk (show Kd.R (Kd.int .i64) 2 w6_ w.heap.size (fun k_ => w2_.heap.size ≤ k_ ∧ k_ < w3_.heap.size) (.slice Av_ L0.length cv_) L0 from Kd.R_below Hv_.out hb); have n2_ := Aside0.mk (show w6_.heap[gb_]? = some (.cells #[.slice Av_ L0.length cv_] 26 (0, 0)) from blk_below Kb_.out hb); clear HB_ Hv_ Kb_; have HB_ := n0_; have Hv_ := n1_; have Kb_ := n2_; clear n0_ n1_ n2_; have Z8_ := Aside0.mk (show w5_.heap.size ≤ w6_.heap.size from hb.size); have Hx_ := nn_; clear nn_ hb; obtain ⟨Ax_, cx_, eo_⟩ := Kd.S_slice Hx_.out; subst eo_; clear tok6_) | (go_at_call 22; have t_ := tok7_; clear t_; (with_reducible refine (impl_JoinTrees.calls k Ax_ cx_ X L1 cd _ ?s1 ?s2 AI.out).mono ?_); (case s1 => exact (Kd.S_reads' Hx_.out).2.2); (case s2 => exact (by have h1_ := (Kd.S_reads' Hx_.out).1; have h2_ := (Kd.S_reads' Hx_.out).2.1; omega)); rintro e w7_ ⟨vg_, rfl, ho_, hb⟩; have nn_ := Aside0.mk (show Kd.R (Kd.int .i64) 2 w7_ w.heap.size (fun k_ => w6_.heap.size ≤ k_ ∧ k_ < w7_.heap.size) (vg_) L1 from Kd.R_mono (Kd.R_lower (Kd.R_bound ho_) (below_size HB_.out)) (fun k_ hk_ => ⟨hk_.2.1, hk_.2.2.1⟩)); clear ho_; have n0_ := Aside0.mk (show Below w.heap.size w w7_ from below_step HB_.out hb); have n1_ := Aside0.mk (show Kd.R (Kd.int .i64) 2 w7_ w.heap.size (fun k_ => w2_.heap.size ≤ k_ ∧ k_ < w3_.heap.size) (.slice Av_ L0.length cv_) L0 from Kd.R_below Hv_.out hb); have n2_ := Aside0.mk (show w7_.heap[gb_]? = some (.cells #[.slice Av_ L0.length cv_] 26 (0, 0)) from blk_below Kb_.out hb); have n3_ := Aside0.mk (show Kd.S k26 26 w7_ w.heap.size (fun k_ => w5_.heap.size ≤ k_ ∧ k_ < w6_.heap.size) (.slice Ax_ X.length cx_) X from Kd.S_below Hx_.out hb); clear HB_ Hv_ Kb_ Hx_; have HB_ := n0_; have Hv_ := n1_; have Kb_ := n2_; have Hx_ := n3_; clear n0_ n1_ n2_ n3_; have Z9_ := Aside0.mk (show w6_.heap.size ≤ w7_.heap.size from hb.size); have Hg_ := nn_; clear nn_ hb; obtain ⟨Ag_, cg_, eo_⟩ := Kd.R_slice Hg_.out; subst eo_; clear tok7_) | ((with_reducible refine gate_dst (N := 7) rfl ?_); have t_ := tok8_; clear t_; refine box_event ?hg (N := 7) ?hd (cs := #[.slice none 0 0]) (t := 26) ?hr ?_; (case hd => rfl); (case hg => rfl); (case hr => first | (go_simp; done) | (go_simp; rfl)); intro gd_ hg w8_ hbox hb; have Kd_ := Aside0.mk hbox; have Z10_ := Aside0.mk (show w.heap.size ≤ gd_ from by rw [hg]; exact below_size HB_.out); have n0_ := Aside0.mk (show Below w.heap.size w w8_ from below_step HB_.out hb); have n1_ := Aside0.mk (show Kd.R (Kd.int .i64) 2 w8_ w.heap.size (fun k_ => w2_.heap.size ≤ k_ ∧ k_ < w3_.heap.size) (.slice Av_ L0.length cv_) L0 from Kd.R_below Hv_.out hb); have n2_ := Aside0.mk (show w8_.heap[gb_]? = some (.cells #[.slice Av_ L0.length cv_] 26 (0, 0)) from blk_below Kb_.out hb); have n3_ := Aside0.mk (show Kd.S k26 26 w8_ w.heap.size (fun k_ => w5_.heap.size ≤ k_ ∧ k_ < w6_.heap.size) (.slice Ax_ X.length cx_) X from Kd.S_below Hx_.out hb); have n4_ := Aside0.mk (show Kd.R (Kd.int .i64) 2 w8_ w.heap.size (fun k_ => w6_.heap.size ≤ k_ ∧ k_ < w7_.heap.size) (.slice Ag_ L1.length cg_) L1 from Kd.R_below Hg_.out hb); clear HB_ Hv_ Kb_ Hx_ Hg_; have HB_ := n0_; have Hv_ := n1_; have Kb_ := n2_; have Hx_ := n3_; have Hg_ := n4_; clear n0_ n1_ n2_ n3_ n4_; have Z11_ := Aside0.mk (show w7_.heap.size ≤ w8_.heap.size from hb.size); have Z12_ := Aside0.mk (show gd_ < w8_.heap.size from blk_lt hbox); have Z13_ := Aside0.mk (show gd_ = w7_.heap.size from hg); clear hbox hb hg; have hcz_ : w8_.cell? ⟨gd_, 0, none⟩ = some (.slice none 0 0) := (blk_cell Kd_.out 0).trans rfl; have hfz_ := blk_frozen Kd_.out 0; clear tok8_) | ((with_reducible refine gate_store (t := 26) (p := 7) rfl ?_); have t_ := tok9_; clear t_; refine store_event (t := 26) (p := 7) (v := ?vow9_) (w1 := w8_.setCell ⟨gd_, 0, none⟩ (.slice Ag_ L1.length cg_)) ?hg ?ho ?hn ?hr ?_; (case ho => rfl); (case hg => rfl); (case hn => rfl); (case hr => first | (go_simp; done) | (go_simp; rfl)); intro w9_ hw; clear hcz_ hfz_; have n0_ := Aside0.mk (show Below w.heap.size w w9_ from (by rw [hw]; exact below_set HB_.out (by have z0_ := Z0_.out; have z1_ := Z1_.out; have z2_ := Z2_.out; have z3_ := Z3_.out; have z4_ := Z4_.out; have z5_ := Z5_.out; have z6_ := Z6_.out; have z7_ := Z7_.out; have z8_ := Z8_.out; have z9_ := Z9_.out; have z10_ := Z10_.out; have z11_ := Z11_.out; have z12_ := Z12_.out; have z13_ := Z13_.out; omega))); have n1_ := Aside0.mk (show Kd.R (Kd.int .i64) 2 w9_ w.heap.size (fun k_ => w2_.heap.size ≤ k_ ∧ k_ < w3_.heap.size) (.slice Av_ L0.length cv_) L0 from (by rw [hw]; exact Kd.R_far (p := ⟨gd_, 0, none⟩) Hv_.out (fun k_ hk_ => by have h1_ := hk_.1; have h2_ := hk_.2; show k_ ≠ gd_; have z0_ := Z0_.out; have z1_ := Z1_.out; have z2_ := Z2_.out; have z3_ := Z3_.out; have z4_ := Z4_.out; have z5_ := Z5_.out; have z6_ := Z6_.out; have z7_ := Z7_.out; have z8_ := Z8_.out; have z9_ := Z9_.out; have z10_ := Z10_.out; have z11_ := Z11_.out; have z12_ := Z12_.out; have z13_ := Z13_.out; omega) _)); have n2_ := Aside0.mk (show w9_.heap[gb_]? = some (.cells #[.slice Av_ L0.length cv_] 26 (0, 0)) from (by rw [hw]; exact blk_far Kb_.out (show gb_ ≠ gd_ from by have z0_ := Z0_.out; have z1_ := Z1_.out; have z2_ := Z2_.out; have z3_ := Z3_.out; have z4_ := Z4_.out; have z5_ := Z5_.out; have z6_ := Z6_.out; have z7_ := Z7_.out; have z8_ := Z8_.out; have z9_ := Z9_.out; have z10_ := Z10_.out; have z11_ := Z11_.out; have z12_ := Z12_.out; have z13_ := Z13_.out; omega) _)); have n3_ := Aside0.mk (show Kd.S k26 26 w9_ w.heap.size (fun k_ => w5_.heap.size ≤ k_ ∧ k_ < w6_.heap.size) (.slice Ax_ X.length cx_) X from (by rw [hw]; exact Kd.S_far (p := ⟨gd_, 0, none⟩) Hx_.out (fun k_ hk_ => by have h1_ := hk_.1; have h2_ := hk_.2; show k_ ≠ gd_; have z0_ := Z0_.out; have z1_ := Z1_.out; have z2_ := Z2_.out; have z3_ := Z3_.out; have z4_ := Z4_.out; have z5_ := Z5_.out; have z6_ := Z6_.out; have z7_ := Z7_.out; have z8_ := Z8_.out; have z9_ := Z9_.out; have z10_ := Z10_.out; have z11_ := Z11_.out; have z12_ := Z12_.out; have z13_ := Z13_.out; omega) _)); have n4_ := Aside0.mk (show Kd.R (Kd.int .i64) 2 w9_ w.heap.size (fun k_ => w6_.heap.size ≤ k_ ∧ k_ < w7_.heap.size) (.slice Ag_ L1.length cg_) L1 from (by rw [hw]; exact Kd.R_far (p := ⟨gd_, 0, none⟩) Hg_.out (fun k_ hk_ => by have h1_ := hk_.1; have h2_ := hk_.2; show k_ ≠ gd_; have z0_ := Z0_.out; have z1_ := Z1_.out; have z2_ := Z2_.out; have z3_ := Z3_.out; have z4_ := Z4_.out; have z5_ := Z5_.out; have z6_ := Z6_.out; have z7_ := Z7_.out; have z8_ := Z8_.out; have z9_ := Z9_.out; have z10_ := Z10_.out; have z11_ := Z11_.out; have z12_ := Z12_.out; have z13_ := Z13_.out; omega) _)); have n5_ := Aside0.mk (show w9_.heap[gd_]? = some (.cells #[.slice Ag_ L1.length cg_] 26 (0, 0)) from (by rw [hw]; exact blk_put (cs := #[.slice none 0 0]) Kd_.out 0 _ rfl)); clear HB_ Hv_ Kb_ Hx_ Hg_ Kd_; have HB_ := n0_; have Hv_ := n1_; have Kb_ := n2_; have Hx_ := n3_; have Hg_ := n4_; have Kd_ := n5_; clear n0_ n1_ n2_ n3_ n4_ n5_; have Z14_ := Aside0.mk (show w9_.heap.size = w8_.heap.size from (by rw [hw]; simp [World.setCell])); clear hw; have hlb_ : w9_.cell? ⟨gb_, 0, none⟩ = some (.slice Av_ L0.length cv_) := (blk_cell Kb_.out 0).trans rfl; have hld_ : w9_.cell? ⟨gd_, 0, none⟩ = some (.slice Ag_ L1.length cg_) := (blk_cell Kd_.out 0).trans rfl; clear tok9_) | (go_at_call 16; have t_ := tok10_; clear t_; (with_reducible refine (laws_eqTree.calls k Ag_ cg_ L1 Av_ cv_ L0 true _ ?s1 ?s2 ?s3 ?s4 AE.out).mono ?_); (case s1 => exact (Kd.R_reads' Hg_.out).2.2); (case s2 => exact (by have h1_ := (Kd.R_reads' Hg_.out).1; have h2_ := (Kd.R_reads' Hg_.out).2.1; omega)); (case s3 => exact (Kd.R_reads' Hv_.out).2.2); (case s4 => exact (by have h1_ := (Kd.R_reads' Hv_.out).1; have h2_ := (Kd.R_reads' Hv_.out).2.1; omega)); rintro e w10_ ⟨rfl, hb⟩; have n0_ := Aside0.mk (show Below w.heap.size w w10_ from below_step HB_.out hb); have n1_ := Aside0.mk (show Kd.R (Kd.int .i64) 2 w10_ w.heap.size (fun k_ => w2_.heap.size ≤ k_ ∧ k_ < w3_.heap.size) (.slice Av_ L0.length cv_) L0 from Kd.R_below Hv_.out hb); have n2_ := Aside0.mk (show w10_.heap[gb_]? = some (.cells #[.slice Av_ L0.length cv_] 26 (0, 0)) from blk_below Kb_.out hb); have n3_ := Aside0.mk (show Kd.S k26 26 w10_ w.heap.size (fun k_ => w5_.heap.size ≤ k_ ∧ k_ < w6_.heap.size) (.slice Ax_ X.length cx_) X from Kd.S_below Hx_.out hb); have n4_ := Aside0.mk (show Kd.R (Kd.int .i64) 2 w10_ w.heap.size (fun k_ => w6_.heap.size ≤ k_ ∧ k_ < w7_.heap.size) (.slice Ag_ L1.length cg_) L1 from Kd.R_below Hg_.out hb); have n5_ := Aside0.mk (show w10_.heap[gd_]? = some (.cells #[.slice Ag_ L1.length cg_] 26 (0, 0)) from blk_below Kd_.out hb); clear HB_ Hv_ Kb_ Hx_ Hg_ Kd_; have HB_ := n0_; have Hv_ := n1_; have Kb_ := n2_; have Hx_ := n3_; have Hg_ := n4_; have Kd_ := n5_; clear n0_ n1_ n2_ n3_ n4_ n5_; have Z15_ := Aside0.mk (show w9_.heap.size ≤ w10_.heap.size from hb.size); clear hb; clear tok10_) | (go_at_call 21; have t_ := tok11_; clear t_; (with_reducible refine (laws_toTreeS.calls k A0 c0 l0 X _ ?s1 ?s2 AT.out).mono ?_); (case s1 => exact (Kd.C_below HR0.out HB_.out)); (case s2 => exact HC0.out); rintro e w11_ ⟨vy_, rfl, ho_, hb⟩; have nn_ := Aside0.mk (show Kd.S k26 26 w11_ w.heap.size (fun k_ => w10_.heap.size ≤ k_ ∧ k_ < w11_.heap.size) (vy_) X from Kd.S_mono (Kd.S_lower (Kd.S_bound ho_) (below_size HB_.out)) (fun k_ hk_ => ⟨hk_.2.1, hk_.2.2.1⟩)); clear ho_; have n0_ := Aside0.mk (show Below w.heap.size w w11_ from below_step HB_.out hb); have n1_ := Aside0.mk (show Kd.R (Kd.int .i64) 2 w11_ w.heap.size (fun k_ => w2_.heap.size ≤ k_ ∧ k_ < w3_.heap.size) (.slice Av_ L0.length cv_) L0 from Kd.R_below Hv_.out hb); have n2_ := Aside0.mk (show w11_.heap[gb_]? = some (.cells #[.slice Av_ L0.length cv_] 26 (0, 0)) from blk_below Kb_.out hb); have n3_ := Aside0.mk (show Kd.S k26 26 w11_ w.heap.size (fun k_ => w5_.heap.size ≤ k_ ∧ k_ < w6_.heap.size) (.slice Ax_ X.length cx_) X from Kd.S_below Hx_.out hb); have n4_ := Aside0.mk (show Kd.R (Kd.int .i64) 2 w11_ w.heap.size (fun k_ => w6_.heap.size ≤ k_ ∧ k_ < w7_.heap.size) (.slice Ag_ L1.length cg_) L1 from Kd.R_below Hg_.out hb); have n5_ := Aside0.mk (show w11_.heap[gd_]? = some (.cells #[.slice Ag_ L1.length cg_] 26 (0, 0)) from blk_below Kd_.out hb); clear HB_ Hv_ Kb_ Hx_ Hg_ Kd_; have HB_ := n0_; have Hv_ := n1_; have Kb_ := n2_; have Hx_ := n3_; have Hg_ := n4_; have Kd_ := n5_; clear n0_ n1_ n2_ n3_ n4_ n5_; have Z16_ := Aside0.mk (show w10_.heap.size ≤ w11_.heap.size from hb.size); have Hy_ := nn_; clear nn_ hb; obtain ⟨Ay_, cy_, eo_⟩ := Kd.S_slice Hy_.out; subst eo_; clear tok11_) | (go_at_call 23; have t_ := tok12_; clear t_; (with_reducible refine (laws_eqTreeS.calls k Ax_ cx_ X Ay_ cy_ X true _ ?s1 ?s2 ?s3 ?s4 AQ.out).mono ?_); (case s1 => exact (Kd.S_reads' Hx_.out).2.2); (case s2 => exact (by have h1_ := (Kd.S_reads' Hx_.out).1; have h2_ := (Kd.S_reads' Hx_.out).2.1; omega)); (case s3 => exact (Kd.S_reads' Hy_.out).2.2); (case s4 => exact (by have h1_ := (Kd.S_reads' Hy_.out).1; have h2_ := (Kd.S_reads' Hy_.out).2.1; omega)); rintro e w12_ ⟨rfl, hb⟩; have n0_ := Aside0.mk (show Below w.heap.size w w12_ from below_step HB_.out hb); have n1_ := Aside0.mk (show Kd.R (Kd.int .i64) 2 w12_ w.heap.size (fun k_ => w2_.heap.size ≤ k_ ∧ k_ < w3_.heap.size) (.slice Av_ L0.length cv_) L0 from Kd.R_below Hv_.out hb); have n2_ := Aside0.mk (show w12_.heap[gb_]? = some (.cells #[.slice Av_ L0.length cv_] 26 (0, 0)) from blk_below Kb_.out hb); have n3_ := Aside0.mk (show Kd.S k26 26 w12_ w.heap.size (fun k_ => w5_.heap.size ≤ k_ ∧ k_ < w6_.heap.size) (.slice Ax_ X.length cx_) X from Kd.S_below Hx_.out hb); have n4_ := Aside0.mk (show Kd.R (Kd.int .i64) 2 w12_ w.heap.size (fun k_ => w6_.heap.size ≤ k_ ∧ k_ < w7_.heap.size) (.slice Ag_ L1.length cg_) L1 from Kd.R_below Hg_.out hb); have n5_ := Aside0.mk (show w12_.heap[gd_]? = some (.cells #[.slice Ag_ L1.length cg_] 26 (0, 0)) from blk_below Kd_.out hb); have n6_ := Aside0.mk (show Kd.S k26 26 w12_ w.heap.size (fun k_ => w10_.heap.size ≤ k_ ∧ k_ < w11_.heap.size) (.slice Ay_ X.length cy_) X from Kd.S_below Hy_.out hb); clear HB_ Hv_ Kb_ Hx_ Hg_ Kd_ Hy_; have HB_ := n0_; have Hv_ := n1_; have Kb_ := n2_; have Hx_ := n3_; have Hg_ := n4_; have Kd_ := n5_; have Hy_ := n6_; clear n0_ n1_ n2_ n3_ n4_ n5_ n6_; have Z17_ := Aside0.mk (show w11_.heap.size ≤ w12_.heap.size from hb.size); clear hb; clear tok12_) | (go_at_call 24; have t_ := tok13_; clear t_; (with_reducible refine (laws_markTreeS.calls k (fun k_ => w5_.heap.size ≤ k_ ∧ k_ < w6_.heap.size) (.slice Ax_ X.length cx_) X 1 m X2 w _ ?s1 ?s2 AM.out).mono ?_); (case s1 => exact HB_.out); (case s2 => exact Hx_.out); rintro e w13_ ⟨rfl, ho_, hb, hk_⟩; have hn_ : Kd.S k26 26 w13_ w.heap.size (fun k_ => w5_.heap.size ≤ k_ ∧ k_ < w6_.heap.size) (.slice Ax_ X.length cx_) X2 := ho_; have n0_ := Aside0.mk (show Below w.heap.size w w13_ from hb); have n1_ := Aside0.mk (show Kd.R (Kd.int .i64) 2 w13_ w.heap.size (fun k_ => w2_.heap.size ≤ k_ ∧ k_ < w3_.heap.size) (.slice Av_ L0.length cv_) L0 from Kd.R_kept Hv_.out hk_ (fun k_ hk_ hs_ => by have h1_ := hk_.1; have h2_ := hk_.2; have h3_ := hs_.1; have h4_ := hs_.2; have z0_ := Z0_.out; have z1_ := Z1_.out; have z2_ := Z2_.out; have z3_ := Z3_.out; have z4_ := Z4_.out; have z5_ := Z5_.out; have z6_ := Z6_.out; have z7_ := Z7_.out; have z8_ := Z8_.out; have z9_ := Z9_.out; have z10_ := Z10_.out; have z11_ := Z11_.out; have z12_ := Z12_.out; have z13_ := Z13_.out; have z14_ := Z14_.out; have z15_ := Z15_.out; have z16_ := Z16_.out; have z17_ := Z17_.out; omega)); have n2_ := Aside0.mk (show w13_.heap[gb_]? = some (.cells #[.slice Av_ L0.length cv_] 26 (0, 0)) from blk_kept Kb_.out hk_ (fun hs_ => by have h3_ := hs_.1; have h4_ := hs_.2; have z0_ := Z0_.out; have z1_ := Z1_.out; have z2_ := Z2_.out; have z3_ := Z3_.out; have z4_ := Z4_.out; have z5_ := Z5_.out; have z6_ := Z6_.out; have z7_ := Z7_.out; have z8_ := Z8_.out; have z9_ := Z9_.out; have z10_ := Z10_.out; have z11_ := Z11_.out; have z12_ := Z12_.out; have z13_ := Z13_.out; have z14_ := Z14_.out; have z15_ := Z15_.out; have z16_ := Z16_.out; have z17_ := Z17_.out; omega)); have n3_ := Aside0.mk (show Kd.S k26 26 w13_ w.heap.size (fun k_ => w5_.heap.size ≤ k_ ∧ k_ < w6_.heap.size) (.slice Ax_ X.length cx_) X2 from hn_); have n4_ := Aside0.mk (show Kd.R (Kd.int .i64) 2 w13_ w.heap.size (fun k_ => w6_.heap.size ≤ k_ ∧ k_ < w7_.heap.size) (.slice Ag_ L1.length cg_) L1 from Kd.R_kept Hg_.out hk_ (fun k_ hk_ hs_ => by have h1_ := hk_.1; have h2_ := hk_.2; have h3_ := hs_.1; have h4_ := hs_.2; have z0_ := Z0_.out; have z1_ := Z1_.out; have z2_ := Z2_.out; have z3_ := Z3_.out; have z4_ := Z4_.out; have z5_ := Z5_.out; have z6_ := Z6_.out; have z7_ := Z7_.out; have z8_ := Z8_.out; have z9_ := Z9_.out; have z10_ := Z10_.out; have z11_ := Z11_.out; have z12_ := Z12_.out; have z13_ := Z13_.out; have z14_ := Z14_.out; have z15_ := Z15_.out; have z16_ := Z16_.out; have z17_ := Z17_.out; omega)); have n5_ := Aside0.mk (show w13_.heap[gd_]? = some (.cells #[.slice Ag_ L1.length cg_] 26 (0, 0)) from blk_kept Kd_.out hk_ (fun hs_ => by have h3_ := hs_.1; have h4_ := hs_.2; have z0_ := Z0_.out; have z1_ := Z1_.out; have z2_ := Z2_.out; have z3_ := Z3_.out; have z4_ := Z4_.out; have z5_ := Z5_.out; have z6_ := Z6_.out; have z7_ := Z7_.out; have z8_ := Z8_.out; have z9_ := Z9_.out; have z10_ := Z10_.out; have z11_ := Z11_.out; have z12_ := Z12_.out; have z13_ := Z13_.out; have z14_ := Z14_.out; have z15_ := Z15_.out; have z16_ := Z16_.out; have z17_ := Z17_.out; omega)); clear HB_ Hv_ Kb_ Hx_ Hg_ Kd_; have HB_ := n0_; have Hv_ := n1_; have Kb_ := n2_; have Hx_ := n3_; have Hg_ := n4_; have Kd_ := n5_; clear n0_ n1_ n2_ n3_ n4_ n5_; have Z18_ := Aside0.mk (show w12_.heap.size ≤ w13_.heap.size from hk_.1); clear hn_ ho_ hb hk_; have hlb_ : w13_.cell? ⟨gb_, 0, none⟩ = some (.slice Av_ L0.length cv_) := (blk_cell Kb_.out 0).trans rfl; have hld_ : w13_.cell? ⟨gd_, 0, none⟩ = some (.slice Ag_ L1.length cg_) := (blk_cell Kd_.out 0).trans rfl; clear tok13_) | (go_at_call 16; have t_ := tok14_; clear t_; (with_reducible refine (laws_eqTree.calls k Ag_ cg_ L1 Av_ cv_ L0 true _ ?s1 ?s2 ?s3 ?s4 AE.out).mono ?_); (case s1 => exact (Kd.R_reads' Hg_.out).2.2); (case s2 => exact (by have h1_ := (Kd.R_reads' Hg_.out).1; have h2_ := (Kd.R_reads' Hg_.out).2.1; omega)); (case s3 => exact (Kd.R_reads' Hv_.out).2.2); (case s4 => exact (by have h1_ := (Kd.R_reads' Hv_.out).1; have h2_ := (Kd.R_reads' Hv_.out).2.1; omega)); rintro e w14_ ⟨rfl, hb⟩; have n0_ := Aside0.mk (show Below w.heap.size w w14_ from below_step HB_.out hb); have n1_ := Aside0.mk (show Kd.R (Kd.int .i64) 2 w14_ w.heap.size (fun k_ => w2_.heap.size ≤ k_ ∧ k_ < w3_.heap.size) (.slice Av_ L0.length cv_) L0 from Kd.R_below Hv_.out hb); have n2_ := Aside0.mk (show w14_.heap[gb_]? = some (.cells #[.slice Av_ L0.length cv_] 26 (0, 0)) from blk_below Kb_.out hb); have n3_ := Aside0.mk (show Kd.R (Kd.int .i64) 2 w14_ w.heap.size (fun k_ => w6_.heap.size ≤ k_ ∧ k_ < w7_.heap.size) (.slice Ag_ L1.length cg_) L1 from Kd.R_below Hg_.out hb); have n4_ := Aside0.mk (show w14_.heap[gd_]? = some (.cells #[.slice Ag_ L1.length cg_] 26 (0, 0)) from blk_below Kd_.out hb); clear HB_ Hv_ Kb_ Hg_ Kd_; have HB_ := n0_; have Hv_ := n1_; have Kb_ := n2_; have Hg_ := n3_; have Kd_ := n4_; clear n0_ n1_ n2_ n3_ n4_; have Z19_ := Aside0.mk (show w13_.heap.size ≤ w14_.heap.size from hb.size); clear hb; have hld_ : w14_.cell? ⟨gd_, 0, none⟩ = some (.slice Ag_ L1.length cg_) := (blk_cell Kd_.out 0).trans rfl; clear tok14_) | (go_at_call 17; have t_ := tok15_; clear t_; (with_reducible refine (laws_markTree.calls k (fun k_ => w6_.heap.size ≤ k_ ∧ k_ < w7_.heap.size) (.slice Ag_ L1.length cg_) L1 1 p L2 w _ ?s1 ?s2 AP.out).mono ?_); (case s1 => exact HB_.out); (case s2 => exact Hg_.out); rintro e w15_ ⟨rfl, ho_, hb, hk_⟩; have hn_ : Kd.R (Kd.int .i64) 2 w15_ w.heap.size (fun k_ => w6_.heap.size ≤ k_ ∧ k_ < w7_.heap.size) (.slice Ag_ L1.length cg_) L2 := Kd.R_reok rfl ho_ (fun k_ e_ => Hg_.out.1 k_ e_); have n0_ := Aside0.mk (show Below w.heap.size w w15_ from hb); have n1_ := Aside0.mk (show Kd.R (Kd.int .i64) 2 w15_ w.heap.size (fun k_ => w2_.heap.size ≤ k_ ∧ k_ < w3_.heap.size) (.slice Av_ L0.length cv_) L0 from Kd.R_kept Hv_.out hk_ (fun k_ hk_ hs_ => by have h1_ := hk_.1; have h2_ := hk_.2; have h3_ := hs_.1; have h4_ := hs_.2; have z0_ := Z0_.out; have z1_ := Z1_.out; have z2_ := Z2_.out; have z3_ := Z3_.out; have z4_ := Z4_.out; have z5_ := Z5_.out; have z6_ := Z6_.out; have z7_ := Z7_.out; have z8_ := Z8_.out; have z9_ := Z9_.out; have z10_ := Z10_.out; have z11_ := Z11_.out; have z12_ := Z12_.out; have z13_ := Z13_.out; have z14_ := Z14_.out; have z15_ := Z15_.out; have z16_ := Z16_.out; have z17_ := Z17_.out; have z18_ := Z18_.out; have z19_ := Z19_.out; omega)); have n2_ := Aside0.mk (show w15_.heap[gb_]? = some (.cells #[.slice Av_ L0.length cv_] 26 (0, 0)) from blk_kept Kb_.out hk_ (fun hs_ => by have h3_ := hs_.1; have h4_ := hs_.2; have z0_ := Z0_.out; have z1_ := Z1_.out; have z2_ := Z2_.out; have z3_ := Z3_.out; have z4_ := Z4_.out; have z5_ := Z5_.out; have z6_ := Z6_.out; have z7_ := Z7_.out; have z8_ := Z8_.out; have z9_ := Z9_.out; have z10_ := Z10_.out; have z11_ := Z11_.out; have z12_ := Z12_.out; have z13_ := Z13_.out; have z14_ := Z14_.out; have z15_ := Z15_.out; have z16_ := Z16_.out; have z17_ := Z17_.out; have z18_ := Z18_.out; have z19_ := Z19_.out; omega)); have n3_ := Aside0.mk (show Kd.R (Kd.int .i64) 2 w15_ w.heap.size (fun k_ => w6_.heap.size ≤ k_ ∧ k_ < w7_.heap.size) (.slice Ag_ L1.length cg_) L2 from hn_); have n4_ := Aside0.mk (show w15_.heap[gd_]? = some (.cells #[.slice Ag_ L1.length cg_] 26 (0, 0)) from blk_kept Kd_.out hk_ (fun hs_ => by have h3_ := hs_.1; have h4_ := hs_.2; have z0_ := Z0_.out; have z1_ := Z1_.out; have z2_ := Z2_.out; have z3_ := Z3_.out; have z4_ := Z4_.out; have z5_ := Z5_.out; have z6_ := Z6_.out; have z7_ := Z7_.out; have z8_ := Z8_.out; have z9_ := Z9_.out; have z10_ := Z10_.out; have z11_ := Z11_.out; have z12_ := Z12_.out; have z13_ := Z13_.out; have z14_ := Z14_.out; have z15_ := Z15_.out; have z16_ := Z16_.out; have z17_ := Z17_.out; have z18_ := Z18_.out; have z19_ := Z19_.out; omega)); clear HB_ Hv_ Kb_ Hg_ Kd_; have HB_ := n0_; have Hv_ := n1_; have Kb_ := n2_; have Hg_ := n3_; have Kd_ := n4_; clear n0_ n1_ n2_ n3_ n4_; have Z20_ := Aside0.mk (show w14_.heap.size ≤ w15_.heap.size from hk_.1); clear hn_ ho_ hb hk_; have hld_ : w15_.cell? ⟨gd_, 0, none⟩ = some (.slice Ag_ L1.length cg_) := (blk_cell Kd_.out 0).trans rfl; clear tok15_) | (go_at_call 18; have t_ := tok16_; clear t_; (with_reducible refine ((show Calls Try.prog 18 #[.agg #[.slice Ag_ L1.length cg_], .int .i64 1] w15_ _ from by rw [(Kd.R_reads' Hg_.out).1]; exact laws_heldTree.calls k Ag_ cg_ L2 1 p w15_ ((Kd.R_reads' Hg_.out).2.2) (by have h1_ := (Kd.R_reads' Hg_.out).1; have h2_ := (Kd.R_reads' Hg_.out).2.1; omega) AH.out)).mono ?_); rintro e w16_ ⟨rfl, hb⟩; have n0_ := Aside0.mk (show Below w.heap.size w w16_ from below_step HB_.out hb); have n1_ := Aside0.mk (show Kd.R (Kd.int .i64) 2 w16_ w.heap.size (fun k_ => w2_.heap.size ≤ k_ ∧ k_ < w3_.heap.size) (.slice Av_ L0.length cv_) L0 from Kd.R_below Hv_.out hb); have n2_ := Aside0.mk (show w16_.heap[gb_]? = some (.cells #[.slice Av_ L0.length cv_] 26 (0, 0)) from blk_below Kb_.out hb); have n3_ := Aside0.mk (show Kd.R (Kd.int .i64) 2 w16_ w.heap.size (fun k_ => w6_.heap.size ≤ k_ ∧ k_ < w7_.heap.size) (.slice Ag_ L1.length cg_) L2 from Kd.R_below Hg_.out hb); have n4_ := Aside0.mk (show w16_.heap[gd_]? = some (.cells #[.slice Ag_ L1.length cg_] 26 (0, 0)) from blk_below Kd_.out hb); clear HB_ Hv_ Kb_ Hg_ Kd_; have HB_ := n0_; have Hv_ := n1_; have Kb_ := n2_; have Hg_ := n3_; have Kd_ := n4_; clear n0_ n1_ n2_ n3_ n4_; have Z21_ := Aside0.mk (show w15_.heap.size ≤ w16_.heap.size from hb.size); clear hb; clear tok16_) | (go_at_call 21; have t_ := tok17_; clear t_; (with_reducible refine (laws_toTreeS.calls k A0 c0 l0 X _ ?s1 ?s2 AT.out).mono ?_); (case s1 => exact (Kd.C_below HR0.out HB_.out)); (case s2 => exact HC0.out); rintro e w17_ ⟨vu_, rfl, ho_, hb⟩; have nn_ := Aside0.mk (show Kd.S k26 26 w17_ w.heap.size (fun k_ => w16_.heap.size ≤ k_ ∧ k_ < w17_.heap.size) (vu_) X from Kd.S_mono (Kd.S_lower (Kd.S_bound ho_) (below_size HB_.out)) (fun k_ hk_ => ⟨hk_.2.1, hk_.2.2.1⟩)); clear ho_; have n0_ := Aside0.mk (show Below w.heap.size w w17_ from below_step HB_.out hb); have n1_ := Aside0.mk (show Kd.R (Kd.int .i64) 2 w17_ w.heap.size (fun k_ => w2_.heap.size ≤ k_ ∧ k_ < w3_.heap.size) (.slice Av_ L0.length cv_) L0 from Kd.R_below Hv_.out hb); have n2_ := Aside0.mk (show w17_.heap[gb_]? = some (.cells #[.slice Av_ L0.length cv_] 26 (0, 0)) from blk_below Kb_.out hb); have n3_ := Aside0.mk (show Kd.R (Kd.int .i64) 2 w17_ w.heap.size (fun k_ => w6_.heap.size ≤ k_ ∧ k_ < w7_.heap.size) (.slice Ag_ L1.length cg_) L2 from Kd.R_below Hg_.out hb); have n4_ := Aside0.mk (show w17_.heap[gd_]? = some (.cells #[.slice Ag_ L1.length cg_] 26 (0, 0)) from blk_below Kd_.out hb); clear HB_ Hv_ Kb_ Hg_ Kd_; have HB_ := n0_; have Hv_ := n1_; have Kb_ := n2_; have Hg_ := n3_; have Kd_ := n4_; clear n0_ n1_ n2_ n3_ n4_; have Z22_ := Aside0.mk (show w16_.heap.size ≤ w17_.heap.size from hb.size); have Hu_ := nn_; clear nn_ hb; obtain ⟨Au_, cu_, eo_⟩ := Kd.S_slice Hu_.out; subst eo_; clear tok17_) | (go_at_call 22; have t_ := tok18_; clear t_; (with_reducible refine (impl_JoinTrees.calls k Au_ cu_ X L1 cd _ ?s1 ?s2 AI.out).mono ?_); (case s1 => exact (Kd.S_reads' Hu_.out).2.2); (case s2 => exact (by have h1_ := (Kd.S_reads' Hu_.out).1; have h2_ := (Kd.S_reads' Hu_.out).2.1; omega)); rintro e w18_ ⟨vh_, rfl, ho_, hb⟩; have nn_ := Aside0.mk (show Kd.R (Kd.int .i64) 2 w18_ w.heap.size (fun k_ => w17_.heap.size ≤ k_ ∧ k_ < w18_.heap.size) (vh_) L1 from Kd.R_mono (Kd.R_lower (Kd.R_bound ho_) (below_size HB_.out)) (fun k_ hk_ => ⟨hk_.2.1, hk_.2.2.1⟩)); clear ho_; have n0_ := Aside0.mk (show Below w.heap.size w w18_ from below_step HB_.out hb); have n1_ := Aside0.mk (show Kd.R (Kd.int .i64) 2 w18_ w.heap.size (fun k_ => w2_.heap.size ≤ k_ ∧ k_ < w3_.heap.size) (.slice Av_ L0.length cv_) L0 from Kd.R_below Hv_.out hb); have n2_ := Aside0.mk (show w18_.heap[gb_]? = some (.cells #[.slice Av_ L0.length cv_] 26 (0, 0)) from blk_below Kb_.out hb); have n3_ := Aside0.mk (show Kd.R (Kd.int .i64) 2 w18_ w.heap.size (fun k_ => w6_.heap.size ≤ k_ ∧ k_ < w7_.heap.size) (.slice Ag_ L1.length cg_) L2 from Kd.R_below Hg_.out hb); have n4_ := Aside0.mk (show w18_.heap[gd_]? = some (.cells #[.slice Ag_ L1.length cg_] 26 (0, 0)) from blk_below Kd_.out hb); have n5_ := Aside0.mk (show Kd.S k26 26 w18_ w.heap.size (fun k_ => w16_.heap.size ≤ k_ ∧ k_ < w17_.heap.size) (.slice Au_ X.length cu_) X from Kd.S_below Hu_.out hb); clear HB_ Hv_ Kb_ Hg_ Kd_ Hu_; have HB_ := n0_; have Hv_ := n1_; have Kb_ := n2_; have Hg_ := n3_; have Kd_ := n4_; have Hu_ := n5_; clear n0_ n1_ n2_ n3_ n4_ n5_; have Z23_ := Aside0.mk (show w17_.heap.size ≤ w18_.heap.size from hb.size); have Hh_ := nn_; clear nn_ hb; obtain ⟨Ah_, ch_, eo_⟩ := Kd.R_slice Hh_.out; subst eo_; clear tok18_) | ((with_reducible refine gate_dst (N := 12) rfl ?_); have t_ := tok19_; clear t_; refine box_event ?hg (N := 12) ?hd (cs := #[.slice none 0 0]) (t := 26) ?hr ?_; (case hd => rfl); (case hg => rfl); (case hr => first | (go_simp; done) | (go_simp; rfl)); intro gf_ hg w19_ hbox hb; have Kf_ := Aside0.mk hbox; have Z24_ := Aside0.mk (show w.heap.size ≤ gf_ from by rw [hg]; exact below_size HB_.out); have n0_ := Aside0.mk (show Below w.heap.size w w19_ from below_step HB_.out hb); have n1_ := Aside0.mk (show Kd.R (Kd.int .i64) 2 w19_ w.heap.size (fun k_ => w2_.heap.size ≤ k_ ∧ k_ < w3_.heap.size) (.slice Av_ L0.length cv_) L0 from Kd.R_below Hv_.out hb); have n2_ := Aside0.mk (show w19_.heap[gb_]? = some (.cells #[.slice Av_ L0.length cv_] 26 (0, 0)) from blk_below Kb_.out hb); have n3_ := Aside0.mk (show Kd.R (Kd.int .i64) 2 w19_ w.heap.size (fun k_ => w6_.heap.size ≤ k_ ∧ k_ < w7_.heap.size) (.slice Ag_ L1.length cg_) L2 from Kd.R_below Hg_.out hb); have n4_ := Aside0.mk (show w19_.heap[gd_]? = some (.cells #[.slice Ag_ L1.length cg_] 26 (0, 0)) from blk_below Kd_.out hb); have n5_ := Aside0.mk (show Kd.R (Kd.int .i64) 2 w19_ w.heap.size (fun k_ => w17_.heap.size ≤ k_ ∧ k_ < w18_.heap.size) (.slice Ah_ L1.length ch_) L1 from Kd.R_below Hh_.out hb); clear HB_ Hv_ Kb_ Hg_ Kd_ Hh_; have HB_ := n0_; have Hv_ := n1_; have Kb_ := n2_; have Hg_ := n3_; have Kd_ := n4_; have Hh_ := n5_; clear n0_ n1_ n2_ n3_ n4_ n5_; have Z25_ := Aside0.mk (show w18_.heap.size ≤ w19_.heap.size from hb.size); have Z26_ := Aside0.mk (show gf_ < w19_.heap.size from blk_lt hbox); have Z27_ := Aside0.mk (show gf_ = w18_.heap.size from hg); clear hbox hb hg; have hcz_ : w19_.cell? ⟨gf_, 0, none⟩ = some (.slice none 0 0) := (blk_cell Kf_.out 0).trans rfl; have hfz_ := blk_frozen Kf_.out 0; clear tok19_) | ((with_reducible refine gate_store (t := 26) (p := 12) rfl ?_); have t_ := tok20_; clear t_; refine store_event (t := 26) (p := 12) (v := ?vow20_) (w1 := w19_.setCell ⟨gf_, 0, none⟩ (.slice Ah_ L1.length ch_)) ?hg ?ho ?hn ?hr ?_; (case ho => rfl); (case hg => rfl); (case hn => rfl); (case hr => first | (go_simp; done) | (go_simp; rfl)); intro w20_ hw; clear hcz_ hfz_; have n0_ := Aside0.mk (show Below w.heap.size w w20_ from (by rw [hw]; exact below_set HB_.out (by have z0_ := Z0_.out; have z1_ := Z1_.out; have z2_ := Z2_.out; have z3_ := Z3_.out; have z4_ := Z4_.out; have z5_ := Z5_.out; have z6_ := Z6_.out; have z7_ := Z7_.out; have z8_ := Z8_.out; have z9_ := Z9_.out; have z10_ := Z10_.out; have z11_ := Z11_.out; have z12_ := Z12_.out; have z13_ := Z13_.out; have z14_ := Z14_.out; have z15_ := Z15_.out; have z16_ := Z16_.out; have z17_ := Z17_.out; have z18_ := Z18_.out; have z19_ := Z19_.out; have z20_ := Z20_.out; have z21_ := Z21_.out; have z22_ := Z22_.out; have z23_ := Z23_.out; have z24_ := Z24_.out; have z25_ := Z25_.out; have z26_ := Z26_.out; have z27_ := Z27_.out; omega))); have n1_ := Aside0.mk (show Kd.R (Kd.int .i64) 2 w20_ w.heap.size (fun k_ => w2_.heap.size ≤ k_ ∧ k_ < w3_.heap.size) (.slice Av_ L0.length cv_) L0 from (by rw [hw]; exact Kd.R_far (p := ⟨gf_, 0, none⟩) Hv_.out (fun k_ hk_ => by have h1_ := hk_.1; have h2_ := hk_.2; show k_ ≠ gf_; have z0_ := Z0_.out; have z1_ := Z1_.out; have z2_ := Z2_.out; have z3_ := Z3_.out; have z4_ := Z4_.out; have z5_ := Z5_.out; have z6_ := Z6_.out; have z7_ := Z7_.out; have z8_ := Z8_.out; have z9_ := Z9_.out; have z10_ := Z10_.out; have z11_ := Z11_.out; have z12_ := Z12_.out; have z13_ := Z13_.out; have z14_ := Z14_.out; have z15_ := Z15_.out; have z16_ := Z16_.out; have z17_ := Z17_.out; have z18_ := Z18_.out; have z19_ := Z19_.out; have z20_ := Z20_.out; have z21_ := Z21_.out; have z22_ := Z22_.out; have z23_ := Z23_.out; have z24_ := Z24_.out; have z25_ := Z25_.out; have z26_ := Z26_.out; have z27_ := Z27_.out; omega) _)); have n2_ := Aside0.mk (show w20_.heap[gb_]? = some (.cells #[.slice Av_ L0.length cv_] 26 (0, 0)) from (by rw [hw]; exact blk_far Kb_.out (show gb_ ≠ gf_ from by have z0_ := Z0_.out; have z1_ := Z1_.out; have z2_ := Z2_.out; have z3_ := Z3_.out; have z4_ := Z4_.out; have z5_ := Z5_.out; have z6_ := Z6_.out; have z7_ := Z7_.out; have z8_ := Z8_.out; have z9_ := Z9_.out; have z10_ := Z10_.out; have z11_ := Z11_.out; have z12_ := Z12_.out; have z13_ := Z13_.out; have z14_ := Z14_.out; have z15_ := Z15_.out; have z16_ := Z16_.out; have z17_ := Z17_.out; have z18_ := Z18_.out; have z19_ := Z19_.out; have z20_ := Z20_.out; have z21_ := Z21_.out; have z22_ := Z22_.out; have z23_ := Z23_.out; have z24_ := Z24_.out; have z25_ := Z25_.out; have z26_ := Z26_.out; have z27_ := Z27_.out; omega) _)); have n3_ := Aside0.mk (show Kd.R (Kd.int .i64) 2 w20_ w.heap.size (fun k_ => w6_.heap.size ≤ k_ ∧ k_ < w7_.heap.size) (.slice Ag_ L1.length cg_) L2 from (by rw [hw]; exact Kd.R_far (p := ⟨gf_, 0, none⟩) Hg_.out (fun k_ hk_ => by have h1_ := hk_.1; have h2_ := hk_.2; show k_ ≠ gf_; have z0_ := Z0_.out; have z1_ := Z1_.out; have z2_ := Z2_.out; have z3_ := Z3_.out; have z4_ := Z4_.out; have z5_ := Z5_.out; have z6_ := Z6_.out; have z7_ := Z7_.out; have z8_ := Z8_.out; have z9_ := Z9_.out; have z10_ := Z10_.out; have z11_ := Z11_.out; have z12_ := Z12_.out; have z13_ := Z13_.out; have z14_ := Z14_.out; have z15_ := Z15_.out; have z16_ := Z16_.out; have z17_ := Z17_.out; have z18_ := Z18_.out; have z19_ := Z19_.out; have z20_ := Z20_.out; have z21_ := Z21_.out; have z22_ := Z22_.out; have z23_ := Z23_.out; have z24_ := Z24_.out; have z25_ := Z25_.out; have z26_ := Z26_.out; have z27_ := Z27_.out; omega) _)); have n4_ := Aside0.mk (show w20_.heap[gd_]? = some (.cells #[.slice Ag_ L1.length cg_] 26 (0, 0)) from (by rw [hw]; exact blk_far Kd_.out (show gd_ ≠ gf_ from by have z0_ := Z0_.out; have z1_ := Z1_.out; have z2_ := Z2_.out; have z3_ := Z3_.out; have z4_ := Z4_.out; have z5_ := Z5_.out; have z6_ := Z6_.out; have z7_ := Z7_.out; have z8_ := Z8_.out; have z9_ := Z9_.out; have z10_ := Z10_.out; have z11_ := Z11_.out; have z12_ := Z12_.out; have z13_ := Z13_.out; have z14_ := Z14_.out; have z15_ := Z15_.out; have z16_ := Z16_.out; have z17_ := Z17_.out; have z18_ := Z18_.out; have z19_ := Z19_.out; have z20_ := Z20_.out; have z21_ := Z21_.out; have z22_ := Z22_.out; have z23_ := Z23_.out; have z24_ := Z24_.out; have z25_ := Z25_.out; have z26_ := Z26_.out; have z27_ := Z27_.out; omega) _)); have n5_ := Aside0.mk (show Kd.R (Kd.int .i64) 2 w20_ w.heap.size (fun k_ => w17_.heap.size ≤ k_ ∧ k_ < w18_.heap.size) (.slice Ah_ L1.length ch_) L1 from (by rw [hw]; exact Kd.R_far (p := ⟨gf_, 0, none⟩) Hh_.out (fun k_ hk_ => by have h1_ := hk_.1; have h2_ := hk_.2; show k_ ≠ gf_; have z0_ := Z0_.out; have z1_ := Z1_.out; have z2_ := Z2_.out; have z3_ := Z3_.out; have z4_ := Z4_.out; have z5_ := Z5_.out; have z6_ := Z6_.out; have z7_ := Z7_.out; have z8_ := Z8_.out; have z9_ := Z9_.out; have z10_ := Z10_.out; have z11_ := Z11_.out; have z12_ := Z12_.out; have z13_ := Z13_.out; have z14_ := Z14_.out; have z15_ := Z15_.out; have z16_ := Z16_.out; have z17_ := Z17_.out; have z18_ := Z18_.out; have z19_ := Z19_.out; have z20_ := Z20_.out; have z21_ := Z21_.out; have z22_ := Z22_.out; have z23_ := Z23_.out; have z24_ := Z24_.out; have z25_ := Z25_.out; have z26_ := Z26_.out; have z27_ := Z27_.out; omega) _)); have n6_ := Aside0.mk (show w20_.heap[gf_]? = some (.cells #[.slice Ah_ L1.length ch_] 26 (0, 0)) from (by rw [hw]; exact blk_put (cs := #[.slice none 0 0]) Kf_.out 0 _ rfl)); clear HB_ Hv_ Kb_ Hg_ Kd_ Hh_ Kf_; have HB_ := n0_; have Hv_ := n1_; have Kb_ := n2_; have Hg_ := n3_; have Kd_ := n4_; have Hh_ := n5_; have Kf_ := n6_; clear n0_ n1_ n2_ n3_ n4_ n5_ n6_; have Z28_ := Aside0.mk (show w20_.heap.size = w19_.heap.size from (by rw [hw]; simp [World.setCell])); clear hw; have hlb_ : w20_.cell? ⟨gb_, 0, none⟩ = some (.slice Av_ L0.length cv_) := (blk_cell Kb_.out 0).trans rfl; have hld_ : w20_.cell? ⟨gd_, 0, none⟩ = some (.slice Ag_ L1.length cg_) := (blk_cell Kd_.out 0).trans rfl; have hlf_ : w20_.cell? ⟨gf_, 0, none⟩ = some (.slice Ah_ L1.length ch_) := (blk_cell Kf_.out 0).trans rfl; clear tok20_) | (go_at_call 16; have t_ := tok21_; clear t_; (with_reducible refine (laws_eqTree.calls k Ah_ ch_ L1 Av_ cv_ L0 true _ ?s1 ?s2 ?s3 ?s4 AE.out).mono ?_); (case s1 => exact (Kd.R_reads' Hh_.out).2.2); (case s2 => exact (by have h1_ := (Kd.R_reads' Hh_.out).1; have h2_ := (Kd.R_reads' Hh_.out).2.1; omega)); (case s3 => exact (Kd.R_reads' Hv_.out).2.2); (case s4 => exact (by have h1_ := (Kd.R_reads' Hv_.out).1; have h2_ := (Kd.R_reads' Hv_.out).2.1; omega)); rintro e w21_ ⟨rfl, hb⟩; have n0_ := Aside0.mk (show Below w.heap.size w w21_ from below_step HB_.out hb); have n1_ := Aside0.mk (show Kd.R (Kd.int .i64) 2 w21_ w.heap.size (fun k_ => w2_.heap.size ≤ k_ ∧ k_ < w3_.heap.size) (.slice Av_ L0.length cv_) L0 from Kd.R_below Hv_.out hb); have n2_ := Aside0.mk (show w21_.heap[gb_]? = some (.cells #[.slice Av_ L0.length cv_] 26 (0, 0)) from blk_below Kb_.out hb); have n3_ := Aside0.mk (show Kd.R (Kd.int .i64) 2 w21_ w.heap.size (fun k_ => w6_.heap.size ≤ k_ ∧ k_ < w7_.heap.size) (.slice Ag_ L1.length cg_) L2 from Kd.R_below Hg_.out hb); have n4_ := Aside0.mk (show w21_.heap[gd_]? = some (.cells #[.slice Ag_ L1.length cg_] 26 (0, 0)) from blk_below Kd_.out hb); have n5_ := Aside0.mk (show Kd.R (Kd.int .i64) 2 w21_ w.heap.size (fun k_ => w17_.heap.size ≤ k_ ∧ k_ < w18_.heap.size) (.slice Ah_ L1.length ch_) L1 from Kd.R_below Hh_.out hb); have n6_ := Aside0.mk (show w21_.heap[gf_]? = some (.cells #[.slice Ah_ L1.length ch_] 26 (0, 0)) from blk_below Kf_.out hb); clear HB_ Hv_ Kb_ Hg_ Kd_ Hh_ Kf_; have HB_ := n0_; have Hv_ := n1_; have Kb_ := n2_; have Hg_ := n3_; have Kd_ := n4_; have Hh_ := n5_; have Kf_ := n6_; clear n0_ n1_ n2_ n3_ n4_ n5_ n6_; have Z29_ := Aside0.mk (show w20_.heap.size ≤ w21_.heap.size from hb.size); clear hb; have hld_ : w21_.cell? ⟨gd_, 0, none⟩ = some (.slice Ag_ L1.length cg_) := (blk_cell Kd_.out 0).trans rfl; clear tok21_) | (go_at_call 18; have t_ := tok22_; clear t_; (with_reducible refine ((show Calls Try.prog 18 #[.agg #[.slice Ag_ L1.length cg_], .int .i64 1] w21_ _ from by rw [(Kd.R_reads' Hg_.out).1]; exact laws_heldTree.calls k Ag_ cg_ L2 1 p w21_ ((Kd.R_reads' Hg_.out).2.2) (by have h1_ := (Kd.R_reads' Hg_.out).1; have h2_ := (Kd.R_reads' Hg_.out).2.1; omega) AH.out)).mono ?_); rintro e w22_ ⟨rfl, hb⟩; have n0_ := Aside0.mk (show Below w.heap.size w w22_ from below_step HB_.out hb); have n1_ := Aside0.mk (show Kd.R (Kd.int .i64) 2 w22_ w.heap.size (fun k_ => w2_.heap.size ≤ k_ ∧ k_ < w3_.heap.size) (.slice Av_ L0.length cv_) L0 from Kd.R_below Hv_.out hb); have n2_ := Aside0.mk (show w22_.heap[gb_]? = some (.cells #[.slice Av_ L0.length cv_] 26 (0, 0)) from blk_below Kb_.out hb); have n3_ := Aside0.mk (show Kd.R (Kd.int .i64) 2 w22_ w.heap.size (fun k_ => w6_.heap.size ≤ k_ ∧ k_ < w7_.heap.size) (.slice Ag_ L1.length cg_) L2 from Kd.R_below Hg_.out hb); have n4_ := Aside0.mk (show w22_.heap[gd_]? = some (.cells #[.slice Ag_ L1.length cg_] 26 (0, 0)) from blk_below Kd_.out hb); have n5_ := Aside0.mk (show w22_.heap[gf_]? = some (.cells #[.slice Ah_ L1.length ch_] 26 (0, 0)) from blk_below Kf_.out hb); clear HB_ Hv_ Kb_ Hg_ Kd_ Kf_; have HB_ := n0_; have Hv_ := n1_; have Kb_ := n2_; have Hg_ := n3_; have Kd_ := n4_; have Kf_ := n5_; clear n0_ n1_ n2_ n3_ n4_ n5_; have Z30_ := Aside0.mk (show w21_.heap.size ≤ w22_.heap.size from hb.size); clear hb; clear tok22_))
                go_ret
                exact ⟨rfl, HB_.out⟩
              · rw [if_neg g6] at h
                cases h
            · rw [if_neg g5] at h
              cases h
          · rw [if_neg g4] at h
            cases h
        · rw [if_neg g3] at h
          cases h
      · rw [if_neg g2] at h
        cases h
    · rw [if_neg g1] at h
      cases h


end Go.Proofs.Ytjecelgbfmpnaaa.QFnExactJoinTrees
