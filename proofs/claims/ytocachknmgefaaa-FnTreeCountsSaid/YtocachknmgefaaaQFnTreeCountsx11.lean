/- Functions of the program as plain Lean functions, each with a proof that the machine's call answers what it answers. Conditions: none. -/
import Derived.Test.YtocachknmgefaaaQFnTreeCountsx0
import Derived.Test.YtocachknmgefaaaQFnTreeCountsx1
import Derived.Test.YtocachknmgefaaaQFnTreeCountsx10
namespace Go.Proofs.Ytocachknmgefaaa.QFnTreeCounts
open Go.RowKit Go.Proofs.YtocachknmgefaaaW.PrintWords Go.Proofs.YtocachknmgefaaaW.PrintLast Go.Proofs.YtocachknmgefaaaW.PrintMore
attribute [local go_sem] max2_int min2_int max_two min_two max_three min_three max_four min_four   -- for this text's walks alone
set_option linter.unusedVariables false
set_option linter.unusedSimpArgs false

/-! ### spec_l01Bad: function 128 -/
def spec_l01Bad.f (s0_0 : List Int) (s0_1 : Int) (s0_2 : Int) (l1_0 : List Int) : Option (List Int × Int × Int) := (spec_l01Copy.f l1_0).bind fun t390 => ((spec_l01Next.f s0_0 s0_1 s0_2 50).bind fun bt394 => (if bt394.1 = 0 then (some (([] : List Int), bt394.2.1, bt394.2.2)) else (if bt394.1 = 1 then ((spec_l01N.f l1_0).bind fun t397 => ((spec_l01Next.f s0_0 bt394.2.1 bt394.2.2 t397).bind fun bt398 => ((spec_l01Pick.f s0_0 bt398.2.1 bt398.2.2 (([(-1), 0, 1, 2, 25] : List Int))).bind fun bt404 => (if 0 ≤ bt398.1 then (if bt398.1 < (t390.length : Int) then (some ((t390.set (bt398.1 : Int).toNat bt404.1), bt404.2.1, bt404.2.2)) else (none)) else (none))))) else (if bt394.1 = 2 then (if t390.length < 17592186044416 then (some ((t390 ++ [0]), bt394.2.1, bt394.2.2)) else (none)) else (some (l1_0, bt394.2.1, bt394.2.2))))))
def spec_l01Bad.T6 : Bool × List (List Nat × List Nat) := (true, [([], []), ([0], [0]), ([], []), ([], []), ([3], [3]), ([2, 4, 4], [2, 4]), ([], []), ([], []), ([6, 7, 5], [6, 7]), ([1, 5, 0, 1, 2, 3, 4, 5, 6, 7, 8], [1, 5]), ([9, 8, 8, 0, 1, 2, 3, 4, 5, 6, 7, 8], [8, 9])])
def spec_l01Bad.B6 : List Nat := [0, 1, 0, 0, 8, 28, 0, 0, 252, 511, 1023]
theorem spec_l01Bad.tab6 : rtab .any (opsOf Try.f128 6) = spec_l01Bad.T6 := by kernel_rfl
theorem spec_l01Bad.bits6 : waitsOk spec_l01Bad.T6.2 spec_l01Bad.B6 = true := by kernel_rfl
theorem spec_l01Bad.Z0 {p : Prop} (h : p := by first | exact HK.out.1 | exact (show Kept w _ (fun k_ => (P1_0_ k_) ∨ k_ = g) from by repeat (first | (with_reducible first | exact HK.out | apply Kept.alloc | apply Kept.drewN | apply Kept.drew | refine Kept.setCell ?_ (.inl (.inr rfl)) _ | refine Kept.setCell ?_ (.inr GW388.out) _ | refine Kept.setCell ?_ (.inr GW389.out) _ | refine Kept.setCell ?_ (.inr GW393.out) _) | exact HK.out)).1) : p := h
theorem spec_l01Bad.Z1 {p : Prop} (h : p := by first | exact HK.out.1 | exact (show Kept w _ (fun k_ => (P1_0_ k_) ∨ k_ = g) from by repeat (first | (with_reducible first | exact HK.out | apply Kept.alloc | apply Kept.drewN | apply Kept.drew | refine Kept.setCell ?_ (.inl (.inr rfl)) _ | refine Kept.setCell ?_ (.inr GW388.out) _ | refine Kept.setCell ?_ (.inr GW389.out) _) | exact HK.out)).1) : p := h
theorem spec_l01Bad.Z2 {p : Prop} (h : p := by first | exact HK.out.1 | exact (show Kept w _ (fun k_ => (P1_0_ k_) ∨ k_ = g) from by repeat (first | (with_reducible first | exact HK.out | apply Kept.alloc | apply Kept.drewN | apply Kept.drew | refine Kept.setCell ?_ (.inl (.inr rfl)) _ | refine Kept.setCell ?_ (.inr GW388.out) _) | exact HK.out)).1) : p := h
theorem spec_l01Bad.Z3 {p : Prop} (h : p := by repeat (first | (with_reducible first | exact HK.out | apply Kept.alloc | apply Kept.drewN | apply Kept.drew | refine Kept.setCell ?_ (.inl (.inr rfl)) _ | refine Kept.setCell ?_ (.inr GW388.out) _ | refine Kept.setCell ?_ (.inr GW389.out) _ | refine Kept.setCell ?_ (.inr GW393.out) _) | exact HK.out)) : p := h
theorem spec_l01Bad.Z4 {p : Prop} (h : p := by (with_reducible repeat (first | refine blk_drewN ?_ _ | refine blk_drew ?_ | refine blk_alloc ?_ _)); refine blk_put (cs := #[.slice none 0 0]) ?_ 0 _ rfl; (with_reducible repeat (first | refine blk_drewN ?_ _ | refine blk_drew ?_ | refine blk_alloc ?_ _)); exact BK389.out) : p := h
theorem spec_l01Bad.Z5 {p : Prop} (h : p := by (with_reducible repeat (first | refine blk_drewN ?_ _ | refine blk_drew ?_ | refine blk_alloc ?_ _)); refine blk_put (cs := #[.slice none 0 0]) ?_ 0 _ rfl; (with_reducible repeat (first | refine blk_drewN ?_ _ | refine blk_drew ?_ | refine blk_alloc ?_ _)); exact BK393.out) : p := h
theorem spec_l01Bad.Z6 {p : Prop} (h : p := by first | exact HK.out.1 | exact (show Kept w _ (fun k_ => (P1_0_ k_) ∨ k_ = g) from by repeat (first | (with_reducible first | exact HK.out | apply Kept.alloc | apply Kept.drewN | apply Kept.drew | refine Kept.setCell ?_ (.inl (.inr rfl)) _) | exact HK.out)).1) : p := h
theorem spec_l01Bad.Z7 {p : Prop} (h : p := by repeat (first | (with_reducible first | exact HK.out | apply Kept.alloc | apply Kept.drewN | apply Kept.drew | refine Kept.setCell ?_ (.inl (.inr rfl)) _ | refine Kept.setCell ?_ (.inr GW388.out) _ | refine Kept.setCell ?_ (.inr GW389.out) _) | exact HK.out)) : p := h
theorem spec_l01Bad.Z8 {p : Prop} (h : p := by repeat (first | (with_reducible first | exact HK.out | apply Kept.alloc | apply Kept.drewN | apply Kept.drew | refine Kept.setCell ?_ (.inl (.inr rfl)) _ | refine Kept.setCell ?_ (.inr GW388.out) _) | exact HK.out)) : p := h
theorem spec_l01Bad.Z9 {p : Prop} (h : p := by repeat (first | (with_reducible first | exact HK.out | apply Kept.alloc | apply Kept.drewN | apply Kept.drew | refine Kept.setCell ?_ (.inl (.inr rfl)) _) | exact HK.out)) : p := h
theorem spec_l01Bad.Z10 {p : Prop} (h : p := by (with_reducible repeat (first | apply Kd.R_alloc | apply Kd.R_drewN | apply Kd.R_drew)); exact Kd.R_mono HO392.out (fun _ hk => ⟨hk.1.1.1, ⟨hk.1.2, hk.2⟩⟩)) : p := h
theorem spec_l01Bad.Z11 {p : Prop} (h : p := by (with_reducible repeat (first | apply Kd.R_alloc | apply Kd.R_drewN | apply Kd.R_drew)); exact Kd.R_mono HO403.out (fun _ hk => ⟨hk.1.1.1, ⟨hk.1.2, hk.2⟩⟩)) : p := h
theorem spec_l01Bad.Z12 {p : Prop} (h : p := by (with_reducible repeat (first | apply Kd.R_alloc | apply Kd.R_drewN | apply Kd.R_drew)); exact Kd.R_mono HO1_0.out (fun _ hk => ⟨hk.1.1, ⟨hk.1.2, hk.2⟩⟩)) : p := h
theorem spec_l01Bad.Z13 {p : Prop} (h : p := by simp only [putAll, Act.put, List.setIfInBounds_toArray, List.set_cons_zero, List.set_cons_succ]) : p := h
theorem spec_l01Bad.Z14 {p : Prop} (h : p := by first | (with_reducible assumption) | assumption) : p := h
set_option maxHeartbeats 8000000 in
set_option maxRecDepth 100000 in
theorem spec_l01Bad.calls (g : Nat) (s0_0 : List Int) (s0_1 : Int) (s0_2 : Int) (P1_0_ : Nat → Prop) (u9000_ : Value) (l1_0 : List Int) (r1 : List Int) (r2 : Int) (r3 : Int) (w0 w : World) (hI : IsS121 w0 w g s0_0 s0_1 s0_2) (hB : Below w0.heap.size w0 w) (ho1_0 : Kd.R (Kd.int .i64) 2 w w0.heap.size P1_0_ u9000_ l1_0) (h : spec_l01Bad.f s0_0 s0_1 s0_2 l1_0 = some (r1, r2, r3)) :
  Calls Try.prog 128 #[.pointer (some ⟨g, 0, none⟩), .agg #[u9000_]] w fun e w' => ∃ v0_ : Value, e = .returned (.agg #[v0_]) ∧ Kd.R (Kd.int .i64) 2 w' w0.heap.size (fun k_ => (P1_0_ k_ ∨ w.heap.size ≤ k_)) v0_ r1 ∧ IsS121 w0 w' g s0_0 r2 r3 ∧ Below w0.heap.size w0 w' ∧ Kept w w' (fun k_ => (P1_0_ k_) ∨ k_ = g) := by
 have hu26 := Try.underlying26
 have HO1_0 := A_ (show Kd.R (Kd.int .i64) 2 w w0.heap.size (fun k_ => (P1_0_ k_ ∨ w.heap.size ≤ k_)) u9000_ l1_0 from Kd.R_mono ho1_0 (fun k_ hk => (.inl hk)))
 have HI0 := A_ hI
 have HL := A_ hB.size
 clear hI
 have HK := A_ (Kept.refl w (fun k_ => (P1_0_ k_) ∨ k_ = g))
 have HW0 := A_ hB.size
 have HB := A_ hB
 clear hB
 have H : ((spec_l01Copy.f l1_0).bind fun t390 => ((spec_l01Next.f s0_0 s0_1 s0_2 50).bind fun bt394 => (if bt394.1 = 0 then (some (([] : List Int), bt394.2.1, bt394.2.2)) else (if bt394.1 = 1 then ((spec_l01N.f l1_0).bind fun t397 => ((spec_l01Next.f s0_0 bt394.2.1 bt394.2.2 t397).bind fun bt398 => ((spec_l01Pick.f s0_0 bt398.2.1 bt398.2.2 (([(-1), 0, 1, 2, 25] : List Int))).bind fun bt404 => (if 0 ≤ bt398.1 then (if bt398.1 < (t390.length : Int) then (some ((t390.set (bt398.1 : Int).toNat bt404.1), bt404.2.1, bt404.2.2)) else (none)) else (none))))) else (if bt394.1 = 2 then (if t390.length < 17592186044416 then (some ((t390 ++ [0]), bt394.2.1, bt394.2.2)) else (none)) else (some (l1_0, bt394.2.1, bt394.2.2))))))) = some (r1, r2, r3) := h
 clear h
 replace H := Option.bind_eq_some_iff.mp H
 obtain ⟨t390, A30, H⟩ := H
 replace H : ((spec_l01Next.f s0_0 s0_1 s0_2 50).bind fun bt394 => (if bt394.1 = 0 then (some (([] : List Int), bt394.2.1, bt394.2.2)) else (if bt394.1 = 1 then ((spec_l01N.f l1_0).bind fun t397 => ((spec_l01Next.f s0_0 bt394.2.1 bt394.2.2 t397).bind fun bt398 => ((spec_l01Pick.f s0_0 bt398.2.1 bt398.2.2 (([(-1), 0, 1, 2, 25] : List Int))).bind fun bt404 => (if 0 ≤ bt398.1 then (if bt398.1 < (t390.length : Int) then (some ((t390.set (bt398.1 : Int).toNat bt404.1), bt404.2.1, bt404.2.2)) else (none)) else (none))))) else (if bt394.1 = 2 then (if t390.length < 17592186044416 then (some ((t390 ++ [0]), bt394.2.1, bt394.2.2)) else (none)) else (some (l1_0, bt394.2.1, bt394.2.2)))))) = some (r1, r2, r3) := H
 have A3 := A_ A30
 clear A30
 replace H := Option.bind_eq_some_iff.mp H
 obtain ⟨⟨t394, t395, t396⟩, A40, H⟩ := H
 replace H : (if t394 = 0 then (some (([] : List Int), t395, t396)) else (if t394 = 1 then ((spec_l01N.f l1_0).bind fun t397 => ((spec_l01Next.f s0_0 t395 t396 t397).bind fun bt398 => ((spec_l01Pick.f s0_0 bt398.2.1 bt398.2.2 (([(-1), 0, 1, 2, 25] : List Int))).bind fun bt404 => (if 0 ≤ bt398.1 then (if bt398.1 < (t390.length : Int) then (some ((t390.set (bt398.1 : Int).toNat bt404.1), bt404.2.1, bt404.2.2)) else (none)) else (none))))) else (if t394 = 2 then (if t390.length < 17592186044416 then (some ((t390 ++ [0]), t395, t396)) else (none)) else (some (l1_0, t395, t396))))) = some (r1, r2, r3) := H
 have A4 := A_ A40
 clear A40
 by_cases c5 : t394 = 0
 ·rw [if_pos c5] at H
  have c5b0 : (t394 == 0) = true := beq_iff_eq.mpr c5
  have c5b1 : (t394 != 0) = false := bne_eq_false_iff_eq.mpr c5
  clear c5
  simp only [Option.some.injEq, Prod.mk.injEq] at H
  obtain ⟨rfl, rfl, rfl⟩ := H
  obtain ⟨Ao6, co6, eo6⟩ := Kd.R_slice HO1_0.out
  subst eo6
  go_enter Try.func128, Try.ntmps128
  go_wp2_with (first | ((with_reducible refine gate_dst (N := 3) rfl ?_); refine box_event ?hg (N := 3) ?hd (cs := #[.slice Ao6 l1_0.length co6]) (t := 26) ?hr ?_; (case hd => rfl); (case hg => rfl); (case hr => first | (go_simp; done) | (go_simp; rfl)); intro gb388 hg w7 hbox hb; have n0_ := A_ (Kd.R_below (ea HO1_0) hb); have n1_ := A_ (IsS121.below (ei121 HI0) hb); have n2_ := A_ (Kept.below (S := (fun k_ => (P1_0_ k_) ∨ k_ = g)) spec_l01Bad.Z9 hb); have n3_ := A_ (below_step (em121 HB) hb); have n4_ := A_ (hbox); have n5_ := A_ ((by rw [hg]; exact spec_l01Bad.Z6 : w.heap.size ≤ gb388)); have n6_ := A_ ((by rw [hg]; exact (below_size (em121 HB)) : w0.heap.size ≤ gb388)); have n7_ := A_ ((by rw [hg]; exact Nat.ne_of_lt (IsS121.lt (show IsS121 w0 _ g s0_0 s0_1 s0_2 from ei121 HI0)) : g ≠ gb388)); have n8_ := A_ ((by rw [hg]; exact Nat.ne_of_gt (IsS121.lt (show IsS121 w0 _ g s0_0 s0_1 s0_2 from ei121 HI0)) : gb388 ≠ g)); clear HO1_0; clear HI0; clear HK; clear HB; have HO1_0 := n0_; have HI0 := n1_; have HK := n2_; have HB := n3_; have BK388 := n4_; have GW388 := n5_; have GE388 := n6_; have NB0_388 := n7_; have NB388_0 := n8_; clear n0_ n1_ n2_ n3_ n4_ n5_ n6_ n7_ n8_; clear hb hbox hg) | ((with_reducible refine gate_dst (N := 4) rfl ?_); refine box_event ?hg (N := 4) ?hd (cs := #[.slice none 0 0]) (t := 26) ?hr ?_; (case hd => rfl); (case hg => rfl); (case hr => first | (go_simp; done) | (go_simp; rfl)); intro gb389 hg w8 hbox hb; have n0_ := A_ (Kd.R_below (ea HO1_0) hb); have n1_ := A_ (IsS121.below (ei121 HI0) hb); have n2_ := A_ (eB BK388 hb); have n3_ := A_ (Kept.below (S := (fun k_ => (P1_0_ k_) ∨ k_ = g)) spec_l01Bad.Z8 hb); have n4_ := A_ (below_step (em121 HB) hb); have n5_ := A_ (hbox); have n6_ := A_ ((by rw [hg]; exact spec_l01Bad.Z2 : w.heap.size ≤ gb389)); have n7_ := A_ ((by rw [hg]; exact (below_size (em121 HB)) : w0.heap.size ≤ gb389)); have n8_ := A_ ((by rw [hg]; exact Nat.ne_of_lt (eL BK388) : gb388 ≠ gb389)); have n9_ := A_ ((by rw [hg]; exact Nat.ne_of_gt (eL BK388) : gb389 ≠ gb388)); have n10_ := A_ ((by rw [hg]; exact Nat.ne_of_lt (IsS121.lt (show IsS121 w0 _ g s0_0 s0_1 s0_2 from ei121 HI0)) : g ≠ gb389)); have n11_ := A_ ((by rw [hg]; exact Nat.ne_of_gt (IsS121.lt (show IsS121 w0 _ g s0_0 s0_1 s0_2 from ei121 HI0)) : gb389 ≠ g)); clear HO1_0; clear HI0; clear BK388; clear HK; clear HB; have HO1_0 := n0_; have HI0 := n1_; have BK388 := n2_; have HK := n3_; have HB := n4_; have BK389 := n5_; have GW389 := n6_; have GE389 := n7_; have NB388_389 := n8_; have NB389_388 := n9_; have NB0_389 := n10_; have NB389_0 := n11_; clear n0_ n1_ n2_ n3_ n4_ n5_ n6_ n7_ n8_ n9_ n10_ n11_; clear hb hbox hg; have hnb9 := NB388_389.out; have hnc9 := NB389_388.out; have hnb10 := NB388_0.out; have hnc10 := NB0_388.out; have hcz11_0 : w8.cell? ⟨gb388, 0, none⟩ = some (.slice Ao6 l1_0.length co6) := (blk_cell BK388.out 0).trans rfl; have hfz11_0 := blk_frozen BK388.out 0) | ((with_reducible refine gate_callee (f := 169) rfl ?_); refine goesL_ (some 7) rfl rfl Try.func169 (by kernel_rfl) rfl #[.agg #[.slice Ao6 l1_0.length co6]] rfl eg ?_; (with_reducible refine (spec_l01Copy.calls _ _ l1_0 t390 _ ?side1 ?side2 A3.out).mono ?_); (case side1 => repeat (first | exact (Kd.R_reads' HO1_0.out).2.2 | (with_reducible refine Kd.C_alloc ?_ _) | (with_reducible refine Kd.C_drewN ?_ _) | (with_reducible refine Kd.C_drew ?_))); (case side2 => exact (Kd.R_reads' HO1_0.out).2.1); rintro e w12 ⟨v391, rfl, ho0, hb⟩; refine ⟨_, rfl, ?_⟩; have n0_ := A_ (Kd.R_elder' (ea HO1_0) (Kd.R_base ho0) hb); have n1_ := A_ (Kd.R_lower (Kd.R_new' (Kd.R_newM (M := fun k_ => (P1_0_ k_ ∨ w.heap.size ≤ k_)) ho0 spec_l01Bad.Z1 (fun k_ h_ => .inr h_)) (Kd.R_lt (ea HO1_0))) (below_size (em121 HB))); have n2_ := A_ (IsS121.below (ei121 HI0) hb); have n3_ := A_ (eB BK388 hb); have n4_ := A_ (eB BK389 hb); have n5_ := A_ (Kept.below (S := (fun k_ => (P1_0_ k_) ∨ k_ = g)) spec_l01Bad.Z7 hb); have n6_ := A_ (below_step (em121 HB) hb); clear HO1_0; clear HI0; clear BK388; clear BK389; clear HK; clear HB; have HO1_0 := n0_; have HO392 := n1_; have HI0 := n2_; have BK388 := n3_; have BK389 := n4_; have HK := n5_; have HB := n6_; clear n0_ n1_ n2_ n3_ n4_ n5_ n6_; (try clear hb); (try clear hb2); (try clear hk); (try clear hi); (try clear ho0)) | ((with_reducible refine gate_dst (N := 5) rfl ?_); refine box_event ?hg (N := 5) ?hd (cs := #[.slice none 0 0]) (t := 26) ?hr ?_; (case hd => rfl); (case hg => rfl); (case hr => first | (go_simp; done) | (go_simp; rfl)); intro gb393 hg w13 hbox hb; have n0_ := A_ (Kd.R_below (ea HO1_0) hb); have n1_ := A_ (Kd.R_below (ea HO392) hb); have n2_ := A_ (IsS121.below (ei121 HI0) hb); have n3_ := A_ (eB BK388 hb); have n4_ := A_ (eB BK389 hb); have n5_ := A_ (Kept.below (S := (fun k_ => (P1_0_ k_) ∨ k_ = g)) spec_l01Bad.Z7 hb); have n6_ := A_ (below_step (em121 HB) hb); have n7_ := A_ (hbox); have n8_ := A_ ((by rw [hg]; exact spec_l01Bad.Z1 : w.heap.size ≤ gb393)); have n9_ := A_ ((by rw [hg]; exact (below_size (em121 HB)) : w0.heap.size ≤ gb393)); have n10_ := A_ ((by rw [hg]; exact Nat.ne_of_lt (eL BK388) : gb388 ≠ gb393)); have n11_ := A_ ((by rw [hg]; exact Nat.ne_of_gt (eL BK388) : gb393 ≠ gb388)); have n12_ := A_ ((by rw [hg]; exact Nat.ne_of_lt (eL BK389) : gb389 ≠ gb393)); have n13_ := A_ ((by rw [hg]; exact Nat.ne_of_gt (eL BK389) : gb393 ≠ gb389)); have n14_ := A_ ((by rw [hg]; exact Nat.ne_of_lt (IsS121.lt (show IsS121 w0 _ g s0_0 s0_1 s0_2 from ei121 HI0)) : g ≠ gb393)); have n15_ := A_ ((by rw [hg]; exact Nat.ne_of_gt (IsS121.lt (show IsS121 w0 _ g s0_0 s0_1 s0_2 from ei121 HI0)) : gb393 ≠ g)); clear HO1_0; clear HO392; clear HI0; clear BK388; clear BK389; clear HK; clear HB; have HO1_0 := n0_; have HO392 := n1_; have HI0 := n2_; have BK388 := n3_; have BK389 := n4_; have HK := n5_; have HB := n6_; have BK393 := n7_; have GW393 := n8_; have GE393 := n9_; have NB388_393 := n10_; have NB393_388 := n11_; have NB389_393 := n12_; have NB393_389 := n13_; have NB0_393 := n14_; have NB393_0 := n15_; clear n0_ n1_ n2_ n3_ n4_ n5_ n6_ n7_ n8_ n9_ n10_ n11_ n12_ n13_ n14_ n15_; clear hb hbox hg; obtain ⟨Ao14, co14, eo14⟩ := Kd.R_slice HO392.out; subst eo14; have hnb15 := NB393_388.out; have hnc15 := NB388_393.out; have hnb16 := NB393_389.out; have hnc16 := NB389_393.out; have hnb17 := NB393_0.out; have hnc17 := NB0_393.out; have hcz18_0 : w13.cell? ⟨gb393, 0, none⟩ = some (.slice none 0 0) := (blk_cell BK393.out 0).trans rfl; have hfz18_0 := blk_frozen BK393.out 0) | ((with_reducible refine gate_callee (f := 123) rfl ?_); refine goesL_ (some 9) rfl rfl Try.func123 (by kernel_rfl) rfl #[.pointer (some ⟨g, 0, none⟩), .int .i64 50] rfl eg ?_; (with_reducible refine (spec_l01Next.calls g s0_0 s0_1 s0_2 50 t394 t395 t396 w0 _ ?side1 ?side2 A4.out).mono ?_); (case side1 => exact ei121 HI0); (case side2 => exact em121 HB); rintro e w19 ⟨rfl, hi, hb, hk⟩; refine ⟨_, rfl, ?_⟩; have n0_ := A_ (Kd.R_mono (Kd.R_keep (IsS121.apart (show IsS121 w0 _ g s0_0 s0_1 s0_2 from ei121 HI0) (by (with_reducible repeat (first | apply Kd.R_alloc | apply Kd.R_drewN | apply Kd.R_drew)); exact (Kd.R_mono (Kd.R_far (p := ⟨gb393, 0, none⟩) (Kd.R_types HO1_0.out BK393.out (by decide)) (fun _ hk => hk.2) (.slice Ao14 t390.length co14)) (fun _ h_ => h_.1))) (by decide)) hk (fun _ h => h.2)) (fun _ h => h.1)); have n1_ := A_ (KeepBut.blk hk (g' := gb388) (o := .cells #[.slice Ao6 l1_0.length co6] 26 (0, 0)) (eb BK388) NB388_0.out (by simp)); have n2_ := A_ (KeepBut.blk hk (g' := gb389) (o := .cells #[.slice none 0 0] 26 (0, 0)) (eb BK389) NB389_0.out (by simp)); have n3_ := A_ (Kd.R_mono (Kd.R_keep (IsS121.apart (show IsS121 w0 _ g s0_0 s0_1 s0_2 from ei121 HI0) (by (with_reducible repeat (first | apply Kd.R_alloc | apply Kd.R_drewN | apply Kd.R_drew)); exact (Kd.R_mono (Kd.R_far (p := ⟨gb393, 0, none⟩) (Kd.R_types HO392.out BK393.out (by decide)) (fun _ hk => hk.2) (.slice Ao14 t390.length co14)) (fun _ h_ => h_.1))) (by decide)) hk (fun _ h => h.2)) (fun _ h => h.1)); have n4_ := A_ (KeepBut.blk hk (g' := gb393) (o := .cells #[.slice Ao14 t390.length co14] 26 (0, 0)) spec_l01Bad.Z5 NB393_0.out (by simp)); have n5_ := A_ (Kept.of_keep (S := (fun k_ => (P1_0_ k_) ∨ k_ = g)) spec_l01Bad.Z3 hk (.inl (.inr rfl))); have n6_ := A_ (hb); have n7_ := A_ (hi); clear HO1_0; clear BK388; clear BK389; clear HO392; clear BK393; clear HK; clear HB; clear HI0; have HO1_0 := n0_; have BK388 := n1_; have BK389 := n2_; have HO392 := n3_; have BK393 := n4_; have HK := n5_; have HB := n6_; have HI0 := n7_; clear n0_ n1_ n2_ n3_ n4_ n5_ n6_ n7_; (try clear hb); (try clear hb2); (try clear hk); (try clear hi); have hnb20 := NB389_0.out; have hnc20 := NB0_389.out; have hcz21_0 : w19.cell? ⟨gb389, 0, none⟩ = some (.slice none 0 0) := (blk_cell BK389.out 0).trans rfl; have hfz21_0 := blk_frozen BK389.out 0))
  refine bodyPost_ret (results_cell_row rfl _ _ gb389 26 #[.slice none 0 0] (0, 0) _ rfl spec_l01Bad.Z4 Try.underlying26 rfl (by kernel_rfl)) rfl ?_
  exact ⟨_, er, by first | exact Kd.R_nil _ _ _ _ _ | exact Kd.N_nil _ _ _ _ _ | exact Kd.V_nil _ _ _ _ _ | exact Kd.Q_nil _ _ _ _ _ | exact Kd.S_nil _ _ _ _ _, ei121 HI0, em121 HB, by repeat (first | (with_reducible first | exact HK.out | apply Kept.alloc | apply Kept.drewN | apply Kept.drew | refine Kept.setCell ?_ (.inl (.inr rfl)) _ | refine Kept.setCell ?_ (.inr GW388.out) _ | refine Kept.setCell ?_ (.inr GW389.out) _ | refine Kept.setCell ?_ (.inr GW393.out) _) | exact HK.out)⟩
 ·rw [if_neg c5] at H
  have c5b0 : (t394 == 0) = false := beq_eq_false_iff_ne.mpr c5
  have c5b1 : (t394 != 0) = true := bne_iff_ne.mpr c5
  by_cases c22 : t394 = 1
  ·rw [if_pos c22] at H
   have c22b0 : (t394 == 1) = true := beq_iff_eq.mpr c22
   have c22b1 : (t394 != 1) = false := bne_eq_false_iff_eq.mpr c22
   clear c22
   replace H := Option.bind_eq_some_iff.mp H
   obtain ⟨t397, A230, H⟩ := H
   replace H : ((spec_l01Next.f s0_0 t395 t396 t397).bind fun bt398 => ((spec_l01Pick.f s0_0 bt398.2.1 bt398.2.2 (([(-1), 0, 1, 2, 25] : List Int))).bind fun bt404 => (if 0 ≤ bt398.1 then (if bt398.1 < (t390.length : Int) then (some ((t390.set (bt398.1 : Int).toNat bt404.1), bt404.2.1, bt404.2.2)) else (none)) else (none)))) = some (r1, r2, r3) := H
   have A23 := A_ A230
   clear A230
   replace H := Option.bind_eq_some_iff.mp H
   obtain ⟨⟨t398, t399, t400⟩, A240, H⟩ := H
   replace H : ((spec_l01Pick.f s0_0 t399 t400 (([(-1), 0, 1, 2, 25] : List Int))).bind fun bt404 => (if 0 ≤ t398 then (if t398 < (t390.length : Int) then (some ((t390.set (t398 : Int).toNat bt404.1), bt404.2.1, bt404.2.2)) else (none)) else (none))) = some (r1, r2, r3) := H
   have A24 := A_ A240
   clear A240
   obtain ⟨y401, hy401⟩ : ∃ y_ : List Int, y_ = (([(-1), 0, 1, 2, 25] : List Int)) := ⟨_, rfl⟩
   replace H : ((spec_l01Pick.f s0_0 t399 t400 y401).bind fun bt404 => (if 0 ≤ t398 then (if t398 < (t390.length : Int) then (some ((t390.set (t398 : Int).toNat bt404.1), bt404.2.1, bt404.2.2)) else (none)) else (none))) = some (r1, r2, r3) := by first | (rw [hy401]; with_reducible exact H) | (have H2_ := (Option.bind_some _ _).symm.trans H; rw [hy401]; with_reducible exact H2_) | (have H2_ := (Option.bind_some _ _).symm.trans H; with_reducible exact H2_) | with_reducible exact H | (rw [hy401]; exact H) | exact H
   have Ny401 := A_ hy401
   clear hy401
   replace H := Option.bind_eq_some_iff.mp H
   obtain ⟨⟨t404, t405, t406⟩, A250, H⟩ := H
   replace H : (if 0 ≤ t398 then (if t398 < (t390.length : Int) then (some ((t390.set (t398 : Int).toNat t404), t405, t406)) else (none)) else (none)) = some (r1, r2, r3) := H
   have A25 := A_ A250
   clear A250
   by_cases c26 : 0 ≤ t398
   rotate_left
   ·rw [if_neg c26] at H
    exact absurd H (by simp)
   rw [if_pos c26] at H
   have c26b0 : decide (0 ≤ t398) = true := decide_eq_true c26
   clear c26
   by_cases c27 : t398 < (t390.length : Int)
   rotate_left
   ·rw [if_neg c27] at H
    exact absurd H (by simp)
   rw [if_pos c27] at H
   have c27b0 : decide (t398 < (t390.length : Int)) = true := decide_eq_true c27
   clear c27
   obtain ⟨y407, hy407⟩ : ∃ y_ : List Int, y_ = (t390.set (t398 : Int).toNat t404) := ⟨_, rfl⟩
   replace H : (some (y407, t405, t406)) = some (r1, r2, r3) := by first | (rw [hy407]; with_reducible exact H) | (have H2_ := (Option.bind_some _ _).symm.trans H; rw [hy407]; with_reducible exact H2_) | (have H2_ := (Option.bind_some _ _).symm.trans H; with_reducible exact H2_) | with_reducible exact H | (rw [hy407]; exact H) | exact H
   have Ny407 := A_ hy407
   clear hy407
   simp only [Option.some.injEq, Prod.mk.injEq] at H
   obtain ⟨rfl, rfl, rfl⟩ := H
   obtain ⟨Ao29, co29, eo29⟩ := Kd.R_slice HO1_0.out
   subst eo29
   go_enter Try.func128, Try.ntmps128
   try go_wp2_with (first | ((with_reducible refine gate_dst (N := 3) rfl ?_); refine box_event ?hg (N := 3) ?hd (cs := #[.slice Ao29 l1_0.length co29]) (t := 26) ?hr ?_; (case hd => rfl); (case hg => rfl); (case hr => first | (go_simp; done) | (go_simp; rfl)); intro gb388 hg w30 hbox hb; have n0_ := A_ (Kd.R_below (ea HO1_0) hb); have n1_ := A_ (IsS121.below (ei121 HI0) hb); have n2_ := A_ (Kept.below (S := (fun k_ => (P1_0_ k_) ∨ k_ = g)) spec_l01Bad.Z9 hb); have n3_ := A_ (below_step (em121 HB) hb); have n4_ := A_ (hbox); have n5_ := A_ ((by rw [hg]; exact spec_l01Bad.Z6 : w.heap.size ≤ gb388)); have n6_ := A_ ((by rw [hg]; exact (below_size (em121 HB)) : w0.heap.size ≤ gb388)); have n7_ := A_ ((by rw [hg]; exact Nat.ne_of_lt (IsS121.lt (show IsS121 w0 _ g s0_0 s0_1 s0_2 from ei121 HI0)) : g ≠ gb388)); have n8_ := A_ ((by rw [hg]; exact Nat.ne_of_gt (IsS121.lt (show IsS121 w0 _ g s0_0 s0_1 s0_2 from ei121 HI0)) : gb388 ≠ g)); clear HO1_0; clear HI0; clear HK; clear HB; have HO1_0 := n0_; have HI0 := n1_; have HK := n2_; have HB := n3_; have BK388 := n4_; have GW388 := n5_; have GE388 := n6_; have NB0_388 := n7_; have NB388_0 := n8_; clear n0_ n1_ n2_ n3_ n4_ n5_ n6_ n7_ n8_; clear hb hbox hg) | ((with_reducible refine gate_dst (N := 4) rfl ?_); refine box_event ?hg (N := 4) ?hd (cs := #[.slice none 0 0]) (t := 26) ?hr ?_; (case hd => rfl); (case hg => rfl); (case hr => first | (go_simp; done) | (go_simp; rfl)); intro gb389 hg w31 hbox hb; have n0_ := A_ (Kd.R_below (ea HO1_0) hb); have n1_ := A_ (IsS121.below (ei121 HI0) hb); have n2_ := A_ (eB BK388 hb); have n3_ := A_ (Kept.below (S := (fun k_ => (P1_0_ k_) ∨ k_ = g)) spec_l01Bad.Z8 hb); have n4_ := A_ (below_step (em121 HB) hb); have n5_ := A_ (hbox); have n6_ := A_ ((by rw [hg]; exact spec_l01Bad.Z2 : w.heap.size ≤ gb389)); have n7_ := A_ ((by rw [hg]; exact (below_size (em121 HB)) : w0.heap.size ≤ gb389)); have n8_ := A_ ((by rw [hg]; exact Nat.ne_of_lt (eL BK388) : gb388 ≠ gb389)); have n9_ := A_ ((by rw [hg]; exact Nat.ne_of_gt (eL BK388) : gb389 ≠ gb388)); have n10_ := A_ ((by rw [hg]; exact Nat.ne_of_lt (IsS121.lt (show IsS121 w0 _ g s0_0 s0_1 s0_2 from ei121 HI0)) : g ≠ gb389)); have n11_ := A_ ((by rw [hg]; exact Nat.ne_of_gt (IsS121.lt (show IsS121 w0 _ g s0_0 s0_1 s0_2 from ei121 HI0)) : gb389 ≠ g)); clear HO1_0; clear HI0; clear BK388; clear HK; clear HB; have HO1_0 := n0_; have HI0 := n1_; have BK388 := n2_; have HK := n3_; have HB := n4_; have BK389 := n5_; have GW389 := n6_; have GE389 := n7_; have NB388_389 := n8_; have NB389_388 := n9_; have NB0_389 := n10_; have NB389_0 := n11_; clear n0_ n1_ n2_ n3_ n4_ n5_ n6_ n7_ n8_ n9_ n10_ n11_; clear hb hbox hg; have hnb32 := NB388_389.out; have hnc32 := NB389_388.out; have hnb33 := NB388_0.out; have hnc33 := NB0_388.out; have hcz34_0 : w31.cell? ⟨gb388, 0, none⟩ = some (.slice Ao29 l1_0.length co29) := (blk_cell BK388.out 0).trans rfl; have hfz34_0 := blk_frozen BK388.out 0) | ((with_reducible refine gate_callee (f := 169) rfl ?_); refine goesL_ (some 7) rfl rfl Try.func169 (by kernel_rfl) rfl #[.agg #[.slice Ao29 l1_0.length co29]] rfl eg ?_; (with_reducible refine (spec_l01Copy.calls _ _ l1_0 t390 _ ?side1 ?side2 A3.out).mono ?_); (case side1 => repeat (first | exact (Kd.R_reads' HO1_0.out).2.2 | (with_reducible refine Kd.C_alloc ?_ _) | (with_reducible refine Kd.C_drewN ?_ _) | (with_reducible refine Kd.C_drew ?_))); (case side2 => exact (Kd.R_reads' HO1_0.out).2.1); rintro e w35 ⟨v391, rfl, ho0, hb⟩; refine ⟨_, rfl, ?_⟩; have n0_ := A_ (Kd.R_elder' (ea HO1_0) (Kd.R_base ho0) hb); have n1_ := A_ (Kd.R_lower (Kd.R_new' (Kd.R_newM (M := fun k_ => (P1_0_ k_ ∨ w.heap.size ≤ k_)) ho0 spec_l01Bad.Z1 (fun k_ h_ => .inr h_)) (Kd.R_lt (ea HO1_0))) (below_size (em121 HB))); have n2_ := A_ (IsS121.below (ei121 HI0) hb); have n3_ := A_ (eB BK388 hb); have n4_ := A_ (eB BK389 hb); have n5_ := A_ (Kept.below (S := (fun k_ => (P1_0_ k_) ∨ k_ = g)) spec_l01Bad.Z7 hb); have n6_ := A_ (below_step (em121 HB) hb); clear HO1_0; clear HI0; clear BK388; clear BK389; clear HK; clear HB; have HO1_0 := n0_; have HO392 := n1_; have HI0 := n2_; have BK388 := n3_; have BK389 := n4_; have HK := n5_; have HB := n6_; clear n0_ n1_ n2_ n3_ n4_ n5_ n6_; (try clear hb); (try clear hb2); (try clear hk); (try clear hi); (try clear ho0)) | ((with_reducible refine gate_dst (N := 5) rfl ?_); refine box_event ?hg (N := 5) ?hd (cs := #[.slice none 0 0]) (t := 26) ?hr ?_; (case hd => rfl); (case hg => rfl); (case hr => first | (go_simp; done) | (go_simp; rfl)); intro gb393 hg w36 hbox hb; have n0_ := A_ (Kd.R_below (ea HO1_0) hb); have n1_ := A_ (Kd.R_below (ea HO392) hb); have n2_ := A_ (IsS121.below (ei121 HI0) hb); have n3_ := A_ (eB BK388 hb); have n4_ := A_ (eB BK389 hb); have n5_ := A_ (Kept.below (S := (fun k_ => (P1_0_ k_) ∨ k_ = g)) spec_l01Bad.Z7 hb); have n6_ := A_ (below_step (em121 HB) hb); have n7_ := A_ (hbox); have n8_ := A_ ((by rw [hg]; exact spec_l01Bad.Z1 : w.heap.size ≤ gb393)); have n9_ := A_ ((by rw [hg]; exact (below_size (em121 HB)) : w0.heap.size ≤ gb393)); have n10_ := A_ ((by rw [hg]; exact Nat.ne_of_lt (eL BK388) : gb388 ≠ gb393)); have n11_ := A_ ((by rw [hg]; exact Nat.ne_of_gt (eL BK388) : gb393 ≠ gb388)); have n12_ := A_ ((by rw [hg]; exact Nat.ne_of_lt (eL BK389) : gb389 ≠ gb393)); have n13_ := A_ ((by rw [hg]; exact Nat.ne_of_gt (eL BK389) : gb393 ≠ gb389)); have n14_ := A_ ((by rw [hg]; exact Nat.ne_of_lt (IsS121.lt (show IsS121 w0 _ g s0_0 s0_1 s0_2 from ei121 HI0)) : g ≠ gb393)); have n15_ := A_ ((by rw [hg]; exact Nat.ne_of_gt (IsS121.lt (show IsS121 w0 _ g s0_0 s0_1 s0_2 from ei121 HI0)) : gb393 ≠ g)); clear HO1_0; clear HO392; clear HI0; clear BK388; clear BK389; clear HK; clear HB; have HO1_0 := n0_; have HO392 := n1_; have HI0 := n2_; have BK388 := n3_; have BK389 := n4_; have HK := n5_; have HB := n6_; have BK393 := n7_; have GW393 := n8_; have GE393 := n9_; have NB388_393 := n10_; have NB393_388 := n11_; have NB389_393 := n12_; have NB393_389 := n13_; have NB0_393 := n14_; have NB393_0 := n15_; clear n0_ n1_ n2_ n3_ n4_ n5_ n6_ n7_ n8_ n9_ n10_ n11_ n12_ n13_ n14_ n15_; clear hb hbox hg; obtain ⟨Ao37, co37, eo37⟩ := Kd.R_slice HO392.out; subst eo37; have hnb38 := NB393_388.out; have hnc38 := NB388_393.out; have hnb39 := NB393_389.out; have hnc39 := NB389_393.out; have hnb40 := NB393_0.out; have hnc40 := NB0_393.out; have hcz41_0 : w36.cell? ⟨gb393, 0, none⟩ = some (.slice none 0 0) := (blk_cell BK393.out 0).trans rfl; have hfz41_0 := blk_frozen BK393.out 0) | ((with_reducible refine gate_callee (f := 123) rfl ?_); refine goesL_ (some 9) rfl rfl Try.func123 (by kernel_rfl) rfl #[.pointer (some ⟨g, 0, none⟩), .int .i64 50] rfl eg ?_; (with_reducible refine (spec_l01Next.calls g s0_0 s0_1 s0_2 50 t394 t395 t396 w0 _ ?side1 ?side2 A4.out).mono ?_); (case side1 => exact ei121 HI0); (case side2 => exact em121 HB); rintro e w42 ⟨rfl, hi, hb, hk⟩; refine ⟨_, rfl, ?_⟩; have n0_ := A_ (Kd.R_mono (Kd.R_keep (IsS121.apart (show IsS121 w0 _ g s0_0 s0_1 s0_2 from ei121 HI0) (by (with_reducible repeat (first | apply Kd.R_alloc | apply Kd.R_drewN | apply Kd.R_drew)); exact (Kd.R_mono (Kd.R_far (p := ⟨gb393, 0, none⟩) (Kd.R_types HO1_0.out BK393.out (by decide)) (fun _ hk => hk.2) (.slice Ao37 t390.length co37)) (fun _ h_ => h_.1))) (by decide)) hk (fun _ h => h.2)) (fun _ h => h.1)); have n1_ := A_ (KeepBut.blk hk (g' := gb388) (o := .cells #[.slice Ao29 l1_0.length co29] 26 (0, 0)) (eb BK388) NB388_0.out (by simp)); have n2_ := A_ (KeepBut.blk hk (g' := gb389) (o := .cells #[.slice none 0 0] 26 (0, 0)) (eb BK389) NB389_0.out (by simp)); have n3_ := A_ (Kd.R_mono (Kd.R_keep (IsS121.apart (show IsS121 w0 _ g s0_0 s0_1 s0_2 from ei121 HI0) (by (with_reducible repeat (first | apply Kd.R_alloc | apply Kd.R_drewN | apply Kd.R_drew)); exact (Kd.R_mono (Kd.R_far (p := ⟨gb393, 0, none⟩) (Kd.R_types HO392.out BK393.out (by decide)) (fun _ hk => hk.2) (.slice Ao37 t390.length co37)) (fun _ h_ => h_.1))) (by decide)) hk (fun _ h => h.2)) (fun _ h => h.1)); have n4_ := A_ (KeepBut.blk hk (g' := gb393) (o := .cells #[.slice Ao37 t390.length co37] 26 (0, 0)) spec_l01Bad.Z5 NB393_0.out (by simp)); have n5_ := A_ (Kept.of_keep (S := (fun k_ => (P1_0_ k_) ∨ k_ = g)) spec_l01Bad.Z3 hk (.inl (.inr rfl))); have n6_ := A_ (hb); have n7_ := A_ (hi); clear HO1_0; clear BK388; clear BK389; clear HO392; clear BK393; clear HK; clear HB; clear HI0; have HO1_0 := n0_; have BK388 := n1_; have BK389 := n2_; have HO392 := n3_; have BK393 := n4_; have HK := n5_; have HB := n6_; have HI0 := n7_; clear n0_ n1_ n2_ n3_ n4_ n5_ n6_ n7_; (try clear hb); (try clear hb2); (try clear hk); (try clear hi)))
   have n0_ := A_ (Kd.R_drew HO1_0.out)
   have n1_ := A_ (Kd.R_drew HO392.out)
   have n2_ := A_ (blk_drew BK388.out)
   have n3_ := A_ (blk_drew BK389.out)
   have n4_ := A_ (blk_drew BK393.out)
   have n5_ := A_ (IsS121.drew HI0.out)
   have n6_ := A_ (Kept.drew HK.out)
   have n7_ := A_ (below_drew1 HB.out)
   clear HO1_0
   clear HO392
   clear BK388
   clear BK389
   clear BK393
   clear HI0
   clear HK
   clear HB
   have HO1_0 := n0_
   have HO392 := n1_
   have BK388 := n2_
   have BK389 := n3_
   have BK393 := n4_
   have HI0 := n5_
   have HK := n6_
   have HB := n7_
   clear n0_ n1_ n2_ n3_ n4_ n5_ n6_ n7_
   refine start_ (n := 11) (S := fun w' => w'.cell? ⟨gb393, 0, none⟩ = some (.slice Ao37 t390.length co37) ∧ w'.cell? ⟨gb388, 0, none⟩ = some (.slice Ao29 l1_0.length co29)) (ds := [10]) #[false, false, false, false, false, false, false, false, false, false, false] (by kernel_rfl) rfl rfl ⟨(blk_cell BK393.out 0).trans rfl, (blk_cell BK388.out 0).trans rfl⟩ (fun hHeld => ?_); refine with_tabW spec_l01Bad.tab6 spec_l01Bad.bits6 (fun HT_ HW_ => ?_)
   generalize w42.drew = w43 at HO1_0 HO392 BK388 BK389 BK393 HI0 HK HB hHeld ⊢
   refine pure_ (i := 0) (N := some 15) (v := ?_) (a' := ?_) #[true, false, false, false, false, false, false, false, false, false, false] rfl rfl (any_of HT_.out (by kernel_rfl)) (fun _ _ _ h => h) (Or.inl ⟨by rfl, ?_⟩) ?_ ?_
   rotate_left
   ·intro w'
    go_simp
    with_reducible rfl
   rotate_left
   ·simp only [Act.put, List.setIfInBounds_toArray, List.set_cons_zero, List.set_cons_succ, i64_w, i32_w]
    rfl
   refine pure_ (i := 2) (N := some 17) (v := ?_) (a' := ?_) #[true, false, true, false, false, false, false, false, false, false, false] rfl rfl (any_of HT_.out (by kernel_rfl)) (fun _ _ _ h => h) (Or.inl ⟨by rfl, ?_⟩) ?_ ?_
   rotate_left
   ·intro w'
    go_simp
    with_reducible rfl
   rotate_left
   ·simp only [Act.put, List.setIfInBounds_toArray, List.set_cons_zero, List.set_cons_succ, i64_w, i32_w]
    rfl
   refine pure_ (i := 6) (N := some 21) (v := ?_) (a' := ?_) #[true, false, true, false, false, false, true, false, false, false, false] rfl rfl (any_of HT_.out (by kernel_rfl)) (fun _ _ _ h => h) (Or.inl ⟨by rfl, ?_⟩) ?_ ?_
   rotate_left
   ·intro w'
    go_simp
    with_reducible rfl
   rotate_left
   ·simp only [Act.put, List.setIfInBounds_toArray, List.set_cons_zero, List.set_cons_succ, i64_w, i32_w]
    rfl
   refine take_ (i := 1) (N := some 16) (v := ?_) (a' := ?_) #[true, true, true, false, false, false, true, false, false, false, false] rfl rfl (take_ofW HT_.out HW_.out (by kernel_rfl)) (fun _ _ _ h => h) (Or.inl ⟨by rfl, ?_⟩) hHeld ?_ ?_
   rotate_left
   ·rintro w' ⟨s0, s1⟩
    go_simp
    with_reducible rfl
   rotate_left
   ·simp only [Act.put, List.setIfInBounds_toArray, List.set_cons_zero, List.set_cons_succ, i64_w, i32_w]
    rfl
   refine take_ (i := 3) (N := some 18) (v := ?_) (a' := ?_) #[true, true, true, true, false, false, true, false, false, false, false] rfl rfl (take_ofW HT_.out HW_.out (by kernel_rfl)) (fun _ _ _ h => h) (Or.inl ⟨by rfl, ?_⟩) hHeld ?_ ?_
   rotate_left
   ·rintro w' ⟨s0, s1⟩
    go_simp
    with_reducible rfl
   rotate_left
   ·simp only [Act.put, List.setIfInBounds_toArray, List.set_cons_zero, List.set_cons_succ, i64_w, i32_w]
    rfl
   refine join_ (σ := Value) 3 #[true, true, true, true, true, true, true, true, false, false, false] (fun s_ => [(19, .int .i64 t397), (20, .int .i64 t398), (22, s_)]) (fun s_ w' => (w'.cell? ⟨gb393, 0, none⟩ = some (.slice Ao37 t390.length co37) ∧ w'.cell? ⟨gb388, 0, none⟩ = some (.slice Ao29 l1_0.length co29)) ∧ (Kd.R (Kd.int .i64) 2 w' w0.heap.size (fun k_ => (P1_0_ k_ ∨ w.heap.size ≤ k_) ∧ some k_ ≠ (.slice Ao37 t390.length co37 : Value).ownBlock ∧ some k_ ≠ (s_ : Value).ownBlock) (.slice Ao29 l1_0.length co29) l1_0) ∧ (Kd.R (Kd.int .i64) 2 w' w0.heap.size (fun k_ => (P1_0_ k_ ∨ w.heap.size ≤ k_) ∧ some k_ ≠ (.slice Ao29 l1_0.length co29 : Value).ownBlock ∧ some k_ ≠ (s_ : Value).ownBlock) (.slice Ao37 t390.length co37) t390) ∧ (Kd.R (Kd.int .i64) 2 w' w0.heap.size (fun k_ => (P1_0_ k_ ∨ w.heap.size ≤ k_) ∧ some k_ ≠ (.slice Ao29 l1_0.length co29 : Value).ownBlock ∧ some k_ ≠ (.slice Ao37 t390.length co37 : Value).ownBlock) s_ y401) ∧ (w'.heap[gb388]? = some (.cells #[.slice Ao29 l1_0.length co29] 26 (0, 0))) ∧ (w'.heap[gb389]? = some (.cells #[.slice none 0 0] 26 (0, 0))) ∧ (w'.heap[gb393]? = some (.cells #[.slice Ao37 t390.length co37] 26 (0, 0))) ∧ (IsS121 w0 w' g s0_0 t399 t400) ∧ (Kept w w' (fun k_ => (P1_0_ k_) ∨ k_ = g)) ∧ (Below w0.heap.size w0 w')) ?_ ?_
   rotate_left
   ·intro hCont
    refine two_ (i := 4) (j := 7) (Ni := some 19) (Nj := some 22) #[true, true, true, true, true, false, true, false, false, false, false] #[true, true, true, true, false, false, true, true, false, false, false] rfl rfl rfl rfl (two_of HT_.out (by kernel_rfl)) (by decide) (by decide) (fun K hK => ?_) (fun K hK => ?_)
    ·skip
     refine goes_ Try.func102 (by kernel_rfl) rfl #[.agg #[.slice Ao29 l1_0.length co29]] (by rfl) rfl rfl eg ?_
     with_reducible refine (spec_l01N.calls _ _ l1_0 t397 _ ?side1 ?side2 A23.out).mono ?_
     (case side1 => repeat (first | exact (Kd.R_reads' HO1_0.out).2.2 | (with_reducible refine Kd.C_alloc ?_ _) | (with_reducible refine Kd.C_drewN ?_ _) | (with_reducible refine Kd.C_drew ?_)))
     (case side2 => exact (Kd.R_reads' HO1_0.out).2.1)
     rintro e w44 ⟨rfl, hb⟩
     refine ⟨_, rfl, ?_⟩
     have n0_ := A_ (Kd.R_below (ea HO1_0) hb)
     have n1_ := A_ (Kd.R_below (ea HO392) hb)
     have n2_ := A_ (IsS121.below (ei121 HI0) hb)
     have n3_ := A_ (eB BK388 hb)
     have n4_ := A_ (eB BK389 hb)
     have n5_ := A_ (eB BK393 hb)
     have n6_ := A_ (Kept.below (S := (fun k_ => (P1_0_ k_) ∨ k_ = g)) spec_l01Bad.Z3 hb)
     have n7_ := A_ (below_step (em121 HB) hb)
     clear HO1_0
     clear HO392
     clear HI0
     clear BK388
     clear BK389
     clear BK393
     clear HK
     clear HB
     have HO1_0 := n0_
     have HO392 := n1_
     have HI0 := n2_
     have BK388 := n3_
     have BK389 := n4_
     have BK393 := n5_
     have HK := n6_
     have HB := n7_
     clear n0_ n1_ n2_ n3_ n4_ n5_ n6_ n7_
     (try clear hb)
     (try clear hb2)
     (try clear hk)
     (try clear hi)
     refine hK.out _ _ ⟨(blk_cell BK393.out 0).trans rfl, (blk_cell BK388.out 0).trans rfl⟩ (fun hHeld => ?_)
     clear hK K
     refine norm_ (a' := ?_) ?_ ?_
     rotate_left
     ·show Act.put _ (some 19) _ = _
      simp only [Act.put, List.setIfInBounds_toArray, List.set_cons_zero, List.set_cons_succ, i64_w, i32_w]
      rfl
     refine two_ (i := 5) (j := 7) (Ni := some 20) (Nj := some 22) #[true, true, true, true, true, true, true, false, false, false, false] #[true, true, true, true, true, false, true, true, false, false, false] rfl rfl rfl rfl (two_of HT_.out (by kernel_rfl)) (by decide) (by decide) (fun K hK => ?_) (fun K hK => ?_)
     ·skip
      refine goes_ Try.func123 (by kernel_rfl) rfl #[.pointer (some ⟨g, 0, none⟩), .int .i64 t397] (by rfl) rfl rfl eg ?_
      with_reducible refine (spec_l01Next.calls g s0_0 t395 t396 t397 t398 t399 t400 w0 _ ?side1 ?side2 A24.out).mono ?_
      (case side1 => exact ei121 HI0)
      (case side2 => exact em121 HB)
      rintro e w45 ⟨rfl, hi, hb, hk⟩
      refine ⟨_, rfl, ?_⟩
      have n0_ := A_ (Kd.R_mono (Kd.R_keep (IsS121.apart (show IsS121 w0 _ g s0_0 t395 t396 from ei121 HI0) (ea HO1_0) (by decide)) hk (fun _ h => h.2)) (fun _ h => h.1))
      have n1_ := A_ (KeepBut.blk hk (g' := gb388) (o := .cells #[.slice Ao29 l1_0.length co29] 26 (0, 0)) (eb BK388) NB388_0.out (by simp))
      have n2_ := A_ (KeepBut.blk hk (g' := gb389) (o := .cells #[.slice none 0 0] 26 (0, 0)) (eb BK389) NB389_0.out (by simp))
      have n3_ := A_ (Kd.R_mono (Kd.R_keep (IsS121.apart (show IsS121 w0 _ g s0_0 t395 t396 from ei121 HI0) (ea HO392) (by decide)) hk (fun _ h => h.2)) (fun _ h => h.1))
      have n4_ := A_ (KeepBut.blk hk (g' := gb393) (o := .cells #[.slice Ao37 t390.length co37] 26 (0, 0)) (eb BK393) NB393_0.out (by simp))
      have n5_ := A_ (Kept.of_keep (S := (fun k_ => (P1_0_ k_) ∨ k_ = g)) spec_l01Bad.Z3 hk (.inl (.inr rfl)))
      have n6_ := A_ (hb)
      have n7_ := A_ (hi)
      clear HO1_0
      clear BK388
      clear BK389
      clear HO392
      clear BK393
      clear HK
      clear HB
      clear HI0
      have HO1_0 := n0_
      have BK388 := n1_
      have BK389 := n2_
      have HO392 := n3_
      have BK393 := n4_
      have HK := n5_
      have HB := n6_
      have HI0 := n7_
      clear n0_ n1_ n2_ n3_ n4_ n5_ n6_ n7_
      (try clear hb)
      (try clear hb2)
      (try clear hk)
      (try clear hi)
      refine hK.out _ _ ⟨(blk_cell BK393.out 0).trans rfl, (blk_cell BK388.out 0).trans rfl⟩ (fun hHeld => ?_)
      clear hK K
      refine norm_ (a' := ?_) ?_ ?_
      rotate_left
      ·show Act.put _ (some 20) _ = _
       simp only [Act.put, List.setIfInBounds_toArray, List.set_cons_zero, List.set_cons_succ, i64_w, i32_w]
       rfl
      refine one_ (i := 7) (N := some 22) #[true, true, true, true, true, true, true, true, false, false, false] rfl rfl (one_of HT_.out (by kernel_rfl)) (by decide) (fun K hK => ?_)
      refine Kd.R_lit_step (Kd.int .i64) _ 2 ?hg (N := 22) ?hd (xs := ([(-1), 0, 1, 2, 25] : List Int)) (inner := [.int .i64 (-1), .int .i64 0, .int .i64 1, .int .i64 2, .int .i64 25]) (ok := fun _ => True) (okp := fun _ => True) ?hr ?hp (fun _ hk => hk) trivial (Below.refl _ _) (Nat.le_refl _) (by simp) ?_; (case hd => rfl); (case hg => rfl); (case hr => first | (go_simp; done) | (go_simp; rfl)); (case hp => exact (Reps.one (show Kd.M (Kd.int .i64) _ _ _ (-1) [.int .i64 (-1)] from rfl) (Reps.one (show Kd.M (Kd.int .i64) _ _ _ 0 [.int .i64 0] from rfl) (Reps.one (show Kd.M (Kd.int .i64) _ _ _ 1 [.int .i64 1] from rfl) (Reps.one (show Kd.M (Kd.int .i64) _ _ _ 2 [.int .i64 2] from rfl) (Reps.one (show Kd.M (Kd.int .i64) _ _ _ 25 [.int .i64 25] from rfl) (Reps.none _ _)))))))
      intro v402 w46 ho47 hb hg_ hnew_
      clear hg_ hnew_
      (first | rw [← Ny401.out] at ho47 | (simp only [Int.reduceToNat] at ho47; rw [← Ny401.out] at ho47))
      have n0_ := A_ (Kd.R_elder' (ea HO1_0) (Kd.R_base ho47) hb)
      have n1_ := A_ (Kd.R_elder' (ea HO392) (Kd.R_base ho47) hb)
      have n2_ := A_ (Kd.R_lower (Kd.R_new' (Kd.R_new' (Kd.R_newM (M := fun k_ => (P1_0_ k_ ∨ w.heap.size ≤ k_)) ho47 spec_l01Bad.Z0 (fun k_ h_ => .inr h_)) (Kd.R_lt (ea HO1_0))) (Kd.R_lt (ea HO392))) (below_size (em121 HB)))
      have n3_ := A_ (IsS121.below (ei121 HI0) hb)
      have n4_ := A_ (eB BK388 hb)
      have n5_ := A_ (eB BK389 hb)
      have n6_ := A_ (eB BK393 hb)
      have n7_ := A_ (Kept.below (S := (fun k_ => (P1_0_ k_) ∨ k_ = g)) spec_l01Bad.Z3 hb)
      have n8_ := A_ (below_step (em121 HB) hb)
      clear HO1_0
      clear HO392
      clear HI0
      clear BK388
      clear BK389
      clear BK393
      clear HK
      clear HB
      have HO1_0 := n0_
      have HO392 := n1_
      have HO403 := n2_
      have HI0 := n3_
      have BK388 := n4_
      have BK389 := n5_
      have BK393 := n6_
      have HK := n7_
      have HB := n8_
      clear n0_ n1_ n2_ n3_ n4_ n5_ n6_ n7_ n8_
      clear hb ho47
      refine hK.out _ _ ⟨(blk_cell BK393.out 0).trans rfl, (blk_cell BK388.out 0).trans rfl⟩ (fun hHeld => ?_)
      clear hK K
      refine norm_ (a' := ?_) ?_ ?_
      rotate_left
      ·show Act.put _ (some 22) _ = _
       simp only [Act.put, List.setIfInBounds_toArray, List.set_cons_zero, List.set_cons_succ, i64_w, i32_w]
       rfl
      exact norm_ spec_l01Bad.Z13 (hCont (v402) _ ⟨hHeld, spec_l01Bad.Z12, spec_l01Bad.Z10, spec_l01Bad.Z11, (eb BK388), (eb BK389), (eb BK393), (ei121 HI0), spec_l01Bad.Z3, (em121 HB)⟩)
     ·skip
      refine Kd.R_lit_step (Kd.int .i64) _ 2 ?hg (N := 22) ?hd (xs := ([(-1), 0, 1, 2, 25] : List Int)) (inner := [.int .i64 (-1), .int .i64 0, .int .i64 1, .int .i64 2, .int .i64 25]) (ok := fun _ => True) (okp := fun _ => True) ?hr ?hp (fun _ hk => hk) trivial (Below.refl _ _) (Nat.le_refl _) (by simp) ?_; (case hd => rfl); (case hg => rfl); (case hr => first | (go_simp; done) | (go_simp; rfl)); (case hp => exact (Reps.one (show Kd.M (Kd.int .i64) _ _ _ (-1) [.int .i64 (-1)] from rfl) (Reps.one (show Kd.M (Kd.int .i64) _ _ _ 0 [.int .i64 0] from rfl) (Reps.one (show Kd.M (Kd.int .i64) _ _ _ 1 [.int .i64 1] from rfl) (Reps.one (show Kd.M (Kd.int .i64) _ _ _ 2 [.int .i64 2] from rfl) (Reps.one (show Kd.M (Kd.int .i64) _ _ _ 25 [.int .i64 25] from rfl) (Reps.none _ _)))))))
      intro v402 w45 ho46 hb hg_ hnew_
      clear hg_ hnew_
      (first | rw [← Ny401.out] at ho46 | (simp only [Int.reduceToNat] at ho46; rw [← Ny401.out] at ho46))
      have n0_ := A_ (Kd.R_elder' (ea HO1_0) (Kd.R_base ho46) hb)
      have n1_ := A_ (Kd.R_elder' (ea HO392) (Kd.R_base ho46) hb)
      have n2_ := A_ (Kd.R_lower (Kd.R_new' (Kd.R_new' (Kd.R_newM (M := fun k_ => (P1_0_ k_ ∨ w.heap.size ≤ k_)) ho46 spec_l01Bad.Z0 (fun k_ h_ => .inr h_)) (Kd.R_lt (ea HO1_0))) (Kd.R_lt (ea HO392))) (below_size (em121 HB)))
      have n3_ := A_ (IsS121.below (ei121 HI0) hb)
      have n4_ := A_ (eB BK388 hb)
      have n5_ := A_ (eB BK389 hb)
      have n6_ := A_ (eB BK393 hb)
      have n7_ := A_ (Kept.below (S := (fun k_ => (P1_0_ k_) ∨ k_ = g)) spec_l01Bad.Z3 hb)
      have n8_ := A_ (below_step (em121 HB) hb)
      clear HO1_0
      clear HO392
      clear HI0
      clear BK388
      clear BK389
      clear BK393
      clear HK
      clear HB
      have HO1_0 := n0_
      have HO392 := n1_
      have HO403 := n2_
      have HI0 := n3_
      have BK388 := n4_
      have BK389 := n5_
      have BK393 := n6_
      have HK := n7_
      have HB := n8_
      clear n0_ n1_ n2_ n3_ n4_ n5_ n6_ n7_ n8_
      clear hb ho46
      refine hK.out _ _ ⟨(blk_cell BK393.out 0).trans rfl, (blk_cell BK388.out 0).trans rfl⟩ (fun hHeld => ?_)
      clear hK K
      refine norm_ (a' := ?_) ?_ ?_
      rotate_left
      ·show Act.put _ (some 22) _ = _
       simp only [Act.put, List.setIfInBounds_toArray, List.set_cons_zero, List.set_cons_succ, i64_w, i32_w]
       rfl
      refine one_ (i := 5) (N := some 20) #[true, true, true, true, true, true, true, true, false, false, false] rfl rfl (one_of HT_.out (by kernel_rfl)) (by decide) (fun K hK => ?_)
      refine goes_ Try.func123 (by kernel_rfl) rfl #[.pointer (some ⟨g, 0, none⟩), .int .i64 t397] (by rfl) rfl rfl eg ?_
      with_reducible refine (spec_l01Next.calls g s0_0 t395 t396 t397 t398 t399 t400 w0 _ ?side1 ?side2 A24.out).mono ?_
      (case side1 => exact ei121 HI0)
      (case side2 => exact em121 HB)
      rintro e w47 ⟨rfl, hi, hb, hk⟩
      refine ⟨_, rfl, ?_⟩
      have n0_ := A_ (Kd.R_mono (Kd.R_keep (IsS121.apart (show IsS121 w0 _ g s0_0 t395 t396 from ei121 HI0) (ea HO1_0) (by decide)) hk (fun _ h => h.2)) (fun _ h => h.1))
      have n1_ := A_ (KeepBut.blk hk (g' := gb388) (o := .cells #[.slice Ao29 l1_0.length co29] 26 (0, 0)) (eb BK388) NB388_0.out (by simp))
      have n2_ := A_ (KeepBut.blk hk (g' := gb389) (o := .cells #[.slice none 0 0] 26 (0, 0)) (eb BK389) NB389_0.out (by simp))
      have n3_ := A_ (Kd.R_mono (Kd.R_keep (IsS121.apart (show IsS121 w0 _ g s0_0 t395 t396 from ei121 HI0) (ea HO392) (by decide)) hk (fun _ h => h.2)) (fun _ h => h.1))
      have n4_ := A_ (KeepBut.blk hk (g' := gb393) (o := .cells #[.slice Ao37 t390.length co37] 26 (0, 0)) (eb BK393) NB393_0.out (by simp))
      have n5_ := A_ (Kd.R_mono (Kd.R_keep (IsS121.apart (show IsS121 w0 _ g s0_0 t395 t396 from ei121 HI0) (ea HO403) (by decide)) hk (fun _ h => h.2)) (fun _ h => h.1))
      have n6_ := A_ (Kept.of_keep (S := (fun k_ => (P1_0_ k_) ∨ k_ = g)) spec_l01Bad.Z3 hk (.inl (.inr rfl)))
      have n7_ := A_ (hb)
      have n8_ := A_ (hi)
      clear HO1_0
      clear BK388
      clear BK389
      clear HO392
      clear BK393
      clear HO403
      clear HK
      clear HB
      clear HI0
      have HO1_0 := n0_
      have BK388 := n1_
      have BK389 := n2_
      have HO392 := n3_
      have BK393 := n4_
      have HO403 := n5_
      have HK := n6_
      have HB := n7_
      have HI0 := n8_
      clear n0_ n1_ n2_ n3_ n4_ n5_ n6_ n7_ n8_
      (try clear hb)
      (try clear hb2)
      (try clear hk)
      (try clear hi)
      refine hK.out _ _ ⟨(blk_cell BK393.out 0).trans rfl, (blk_cell BK388.out 0).trans rfl⟩ (fun hHeld => ?_)
      clear hK K
      refine norm_ (a' := ?_) ?_ ?_
      rotate_left
      ·show Act.put _ (some 20) _ = _
       simp only [Act.put, List.setIfInBounds_toArray, List.set_cons_zero, List.set_cons_succ, i64_w, i32_w]
       rfl
      exact norm_ spec_l01Bad.Z13 (hCont (v402) _ ⟨hHeld, spec_l01Bad.Z12, spec_l01Bad.Z10, spec_l01Bad.Z11, (eb BK388), (eb BK389), (eb BK393), (ei121 HI0), spec_l01Bad.Z3, (em121 HB)⟩)
    ·skip
     refine Kd.R_lit_step (Kd.int .i64) _ 2 ?hg (N := 22) ?hd (xs := ([(-1), 0, 1, 2, 25] : List Int)) (inner := [.int .i64 (-1), .int .i64 0, .int .i64 1, .int .i64 2, .int .i64 25]) (ok := fun _ => True) (okp := fun _ => True) ?hr ?hp (fun _ hk => hk) trivial (Below.refl _ _) (Nat.le_refl _) (by simp) ?_; (case hd => rfl); (case hg => rfl); (case hr => first | (go_simp; done) | (go_simp; rfl)); (case hp => exact (Reps.one (show Kd.M (Kd.int .i64) _ _ _ (-1) [.int .i64 (-1)] from rfl) (Reps.one (show Kd.M (Kd.int .i64) _ _ _ 0 [.int .i64 0] from rfl) (Reps.one (show Kd.M (Kd.int .i64) _ _ _ 1 [.int .i64 1] from rfl) (Reps.one (show Kd.M (Kd.int .i64) _ _ _ 2 [.int .i64 2] from rfl) (Reps.one (show Kd.M (Kd.int .i64) _ _ _ 25 [.int .i64 25] from rfl) (Reps.none _ _)))))))
     intro v402 w44 ho45 hb hg_ hnew_
     clear hg_ hnew_
     (first | rw [← Ny401.out] at ho45 | (simp only [Int.reduceToNat] at ho45; rw [← Ny401.out] at ho45))
     have n0_ := A_ (Kd.R_elder' (ea HO1_0) (Kd.R_base ho45) hb)
     have n1_ := A_ (Kd.R_elder' (ea HO392) (Kd.R_base ho45) hb)
     have n2_ := A_ (Kd.R_lower (Kd.R_new' (Kd.R_new' (Kd.R_newM (M := fun k_ => (P1_0_ k_ ∨ w.heap.size ≤ k_)) ho45 spec_l01Bad.Z0 (fun k_ h_ => .inr h_)) (Kd.R_lt (ea HO1_0))) (Kd.R_lt (ea HO392))) (below_size (em121 HB)))
     have n3_ := A_ (IsS121.below (ei121 HI0) hb)
     have n4_ := A_ (eB BK388 hb)
     have n5_ := A_ (eB BK389 hb)
     have n6_ := A_ (eB BK393 hb)
     have n7_ := A_ (Kept.below (S := (fun k_ => (P1_0_ k_) ∨ k_ = g)) spec_l01Bad.Z3 hb)
     have n8_ := A_ (below_step (em121 HB) hb)
     clear HO1_0
     clear HO392
     clear HI0
     clear BK388
     clear BK389
     clear BK393
     clear HK
     clear HB
     have HO1_0 := n0_
     have HO392 := n1_
     have HO403 := n2_
     have HI0 := n3_
     have BK388 := n4_
     have BK389 := n5_
     have BK393 := n6_
     have HK := n7_
     have HB := n8_
     clear n0_ n1_ n2_ n3_ n4_ n5_ n6_ n7_ n8_
     clear hb ho45
     refine hK.out _ _ ⟨(blk_cell BK393.out 0).trans rfl, (blk_cell BK388.out 0).trans rfl⟩ (fun hHeld => ?_)
     clear hK K
     refine norm_ (a' := ?_) ?_ ?_
     rotate_left
     ·show Act.put _ (some 22) _ = _
      simp only [Act.put, List.setIfInBounds_toArray, List.set_cons_zero, List.set_cons_succ, i64_w, i32_w]
      rfl
     refine one_ (i := 4) (N := some 19) #[true, true, true, true, true, false, true, true, false, false, false] rfl rfl (one_of HT_.out (by kernel_rfl)) (by decide) (fun K hK => ?_)
     refine goes_ Try.func102 (by kernel_rfl) rfl #[.agg #[.slice Ao29 l1_0.length co29]] (by rfl) rfl rfl eg ?_
     with_reducible refine (spec_l01N.calls _ _ l1_0 t397 _ ?side1 ?side2 A23.out).mono ?_
     (case side1 => repeat (first | exact (Kd.R_reads' HO1_0.out).2.2 | (with_reducible refine Kd.C_alloc ?_ _) | (with_reducible refine Kd.C_drewN ?_ _) | (with_reducible refine Kd.C_drew ?_)))
     (case side2 => exact (Kd.R_reads' HO1_0.out).2.1)
     rintro e w46 ⟨rfl, hb⟩
     refine ⟨_, rfl, ?_⟩
     have n0_ := A_ (Kd.R_below (ea HO1_0) hb)
     have n1_ := A_ (Kd.R_below (ea HO392) hb)
     have n2_ := A_ (Kd.R_below (ea HO403) hb)
     have n3_ := A_ (IsS121.below (ei121 HI0) hb)
     have n4_ := A_ (eB BK388 hb)
     have n5_ := A_ (eB BK389 hb)
     have n6_ := A_ (eB BK393 hb)
     have n7_ := A_ (Kept.below (S := (fun k_ => (P1_0_ k_) ∨ k_ = g)) spec_l01Bad.Z3 hb)
     have n8_ := A_ (below_step (em121 HB) hb)
     clear HO1_0
     clear HO392
     clear HO403
     clear HI0
     clear BK388
     clear BK389
     clear BK393
     clear HK
     clear HB
     have HO1_0 := n0_
     have HO392 := n1_
     have HO403 := n2_
     have HI0 := n3_
     have BK388 := n4_
     have BK389 := n5_
     have BK393 := n6_
     have HK := n7_
     have HB := n8_
     clear n0_ n1_ n2_ n3_ n4_ n5_ n6_ n7_ n8_
     (try clear hb)
     (try clear hb2)
     (try clear hk)
     (try clear hi)
     refine hK.out _ _ ⟨(blk_cell BK393.out 0).trans rfl, (blk_cell BK388.out 0).trans rfl⟩ (fun hHeld => ?_)
     clear hK K
     refine norm_ (a' := ?_) ?_ ?_
     rotate_left
     ·show Act.put _ (some 19) _ = _
      simp only [Act.put, List.setIfInBounds_toArray, List.set_cons_zero, List.set_cons_succ, i64_w, i32_w]
      rfl
     refine one_ (i := 5) (N := some 20) #[true, true, true, true, true, true, true, true, false, false, false] rfl rfl (one_of HT_.out (by kernel_rfl)) (by decide) (fun K hK => ?_)
     refine goes_ Try.func123 (by kernel_rfl) rfl #[.pointer (some ⟨g, 0, none⟩), .int .i64 t397] (by rfl) rfl rfl eg ?_
     with_reducible refine (spec_l01Next.calls g s0_0 t395 t396 t397 t398 t399 t400 w0 _ ?side1 ?side2 A24.out).mono ?_
     (case side1 => exact ei121 HI0)
     (case side2 => exact em121 HB)
     rintro e w47 ⟨rfl, hi, hb, hk⟩
     refine ⟨_, rfl, ?_⟩
     have n0_ := A_ (Kd.R_mono (Kd.R_keep (IsS121.apart (show IsS121 w0 _ g s0_0 t395 t396 from ei121 HI0) (ea HO1_0) (by decide)) hk (fun _ h => h.2)) (fun _ h => h.1))
     have n1_ := A_ (KeepBut.blk hk (g' := gb388) (o := .cells #[.slice Ao29 l1_0.length co29] 26 (0, 0)) (eb BK388) NB388_0.out (by simp))
     have n2_ := A_ (KeepBut.blk hk (g' := gb389) (o := .cells #[.slice none 0 0] 26 (0, 0)) (eb BK389) NB389_0.out (by simp))
     have n3_ := A_ (Kd.R_mono (Kd.R_keep (IsS121.apart (show IsS121 w0 _ g s0_0 t395 t396 from ei121 HI0) (ea HO392) (by decide)) hk (fun _ h => h.2)) (fun _ h => h.1))
     have n4_ := A_ (KeepBut.blk hk (g' := gb393) (o := .cells #[.slice Ao37 t390.length co37] 26 (0, 0)) (eb BK393) NB393_0.out (by simp))
     have n5_ := A_ (Kd.R_mono (Kd.R_keep (IsS121.apart (show IsS121 w0 _ g s0_0 t395 t396 from ei121 HI0) (ea HO403) (by decide)) hk (fun _ h => h.2)) (fun _ h => h.1))
     have n6_ := A_ (Kept.of_keep (S := (fun k_ => (P1_0_ k_) ∨ k_ = g)) spec_l01Bad.Z3 hk (.inl (.inr rfl)))
     have n7_ := A_ (hb)
     have n8_ := A_ (hi)
     clear HO1_0
     clear BK388
     clear BK389
     clear HO392
     clear BK393
     clear HO403
     clear HK
     clear HB
     clear HI0
     have HO1_0 := n0_
     have BK388 := n1_
     have BK389 := n2_
     have HO392 := n3_
     have BK393 := n4_
     have HO403 := n5_
     have HK := n6_
     have HB := n7_
     have HI0 := n8_
     clear n0_ n1_ n2_ n3_ n4_ n5_ n6_ n7_ n8_
     (try clear hb)
     (try clear hb2)
     (try clear hk)
     (try clear hi)
     refine hK.out _ _ ⟨(blk_cell BK393.out 0).trans rfl, (blk_cell BK388.out 0).trans rfl⟩ (fun hHeld => ?_)
     clear hK K
     refine norm_ (a' := ?_) ?_ ?_
     rotate_left
     ·show Act.put _ (some 20) _ = _
      simp only [Act.put, List.setIfInBounds_toArray, List.set_cons_zero, List.set_cons_succ, i64_w, i32_w]
      rfl
     exact norm_ spec_l01Bad.Z13 (hCont (v402) _ ⟨hHeld, spec_l01Bad.Z12, spec_l01Bad.Z10, spec_l01Bad.Z11, (eb BK388), (eb BK389), (eb BK393), (ei121 HI0), spec_l01Bad.Z3, (em121 HB)⟩)
   rintro v402 w48 ⟨hS_, h0_, h1_, h2_, h3_, h4_, h5_, h6_, h7_, h8_⟩
   have n0_ : Aside0 (Kd.R (Kd.int .i64) 2 w48 w0.heap.size (fun k_ => (P1_0_ k_ ∨ w.heap.size ≤ k_) ∧ some k_ ≠ (.slice Ao37 t390.length co37 : Value).ownBlock ∧ some k_ ≠ (v402 : Value).ownBlock) (.slice Ao29 l1_0.length co29) l1_0) := ⟨h0_⟩
   have n1_ : Aside0 (Kd.R (Kd.int .i64) 2 w48 w0.heap.size (fun k_ => (P1_0_ k_ ∨ w.heap.size ≤ k_) ∧ some k_ ≠ (.slice Ao29 l1_0.length co29 : Value).ownBlock ∧ some k_ ≠ (v402 : Value).ownBlock) (.slice Ao37 t390.length co37) t390) := ⟨h1_⟩
   have n2_ : Aside0 (Kd.R (Kd.int .i64) 2 w48 w0.heap.size (fun k_ => (P1_0_ k_ ∨ w.heap.size ≤ k_) ∧ some k_ ≠ (.slice Ao29 l1_0.length co29 : Value).ownBlock ∧ some k_ ≠ (.slice Ao37 t390.length co37 : Value).ownBlock) v402 y401) := ⟨h2_⟩
   have n3_ : Aside0 (w48.heap[gb388]? = some (.cells #[.slice Ao29 l1_0.length co29] 26 (0, 0))) := ⟨h3_⟩
   have n4_ : Aside0 (w48.heap[gb389]? = some (.cells #[.slice none 0 0] 26 (0, 0))) := ⟨h4_⟩
   have n5_ : Aside0 (w48.heap[gb393]? = some (.cells #[.slice Ao37 t390.length co37] 26 (0, 0))) := ⟨h5_⟩
   have n6_ : Aside0 (IsS121 w0 w48 g s0_0 t399 t400) := ⟨h6_⟩
   have n7_ : Aside0 (Kept w w48 (fun k_ => (P1_0_ k_) ∨ k_ = g)) := ⟨h7_⟩
   have n8_ : Aside0 (Below w0.heap.size w0 w48) := ⟨h8_⟩
   clear HO1_0
   clear HO392
   clear BK388
   clear BK389
   clear BK393
   clear HI0
   clear HK
   clear HB
   clear h0_ h1_ h2_ h3_ h4_ h5_ h6_ h7_ h8_
   have HO1_0 := n0_
   have HO392 := n1_
   have HO403 := n2_
   have BK388 := n3_
   have BK389 := n4_
   have BK393 := n5_
   have HI0 := n6_
   have HK := n7_
   have HB := n8_
   clear n0_ n1_ n2_ n3_ n4_ n5_ n6_ n7_ n8_
   have hHeld : w48.cell? ⟨gb393, 0, none⟩ = some (.slice Ao37 t390.length co37) ∧ w48.cell? ⟨gb388, 0, none⟩ = some (.slice Ao29 l1_0.length co29) := hS_
   obtain ⟨Ao49, co49, eo49⟩ := Kd.R_slice HO403.out
   (first | subst eo49 | (injection eo49 with f1_ f2_ f3_; have f4_ := f1_.symm; have f5_ := f3_.symm; clear f1_ f2_ f3_; subst f4_; subst f5_))
   refine norm_ (a' := ?_) ?_ ?_
   rotate_left
   ·simp only [putAll, Act.put, List.setIfInBounds_toArray, List.set_cons_zero, List.set_cons_succ]
    rfl
   refine one_ (i := 8) (N := some 23) #[true, true, true, true, true, true, true, true, true, false, false] rfl rfl (one_of HT_.out (by kernel_rfl)) (by decide) (fun K hK => ?_)
   refine goes_ Try.func147 (by kernel_rfl) rfl #[.pointer (some ⟨g, 0, none⟩), .slice Ao49 y401.length co49] (by rfl) rfl rfl eg ?_
   with_reducible refine (spec_l01Pick.calls g s0_0 t399 t400 _ _ y401 t404 t405 t406 w0 _ ?side1 ?side2 ?side3 ?side4 ?side5 A25.out).mono ?_
   (case side1 => exact ei121 HI0)
   (case side2 => exact em121 HB)
   (case side3 => repeat (first | exact (Kd.R_reads' HO403.out).2.2 | (with_reducible refine Kd.C_alloc ?_ _) | (with_reducible refine Kd.C_drewN ?_ _) | (with_reducible refine Kd.C_drew ?_)))
   (case side4 => exact (Kd.R_reads' HO403.out).2.1)
   (case side5 => exact far_slice (IsS121.own_ne HI0.out HO403.out (by decide)))
   rintro e w50 ⟨rfl, hi, hb, hk⟩
   refine ⟨_, rfl, ?_⟩
   have n0_ := A_ (Kd.R_mono (Kd.R_keep (IsS121.apart (show IsS121 w0 _ g s0_0 t399 t400 from ei121 HI0) (ea HO1_0) (by decide)) hk (fun _ h => h.2)) (fun _ h => h.1))
   have n1_ := A_ (KeepBut.blk hk (g' := gb388) (o := .cells #[.slice Ao29 l1_0.length co29] 26 (0, 0)) (eb BK388) NB388_0.out (by simp))
   have n2_ := A_ (KeepBut.blk hk (g' := gb389) (o := .cells #[.slice none 0 0] 26 (0, 0)) (eb BK389) NB389_0.out (by simp))
   have n3_ := A_ (Kd.R_mono (Kd.R_keep (IsS121.apart (show IsS121 w0 _ g s0_0 t399 t400 from ei121 HI0) (ea HO392) (by decide)) hk (fun _ h => h.2)) (fun _ h => h.1))
   have n4_ := A_ (KeepBut.blk hk (g' := gb393) (o := .cells #[.slice Ao37 t390.length co37] 26 (0, 0)) (eb BK393) NB393_0.out (by simp))
   have n5_ := A_ (Kd.R_mono (Kd.R_keep (IsS121.apart (show IsS121 w0 _ g s0_0 t399 t400 from ei121 HI0) (ea HO403) (by decide)) hk (fun _ h => h.2)) (fun _ h => h.1))
   have n6_ := A_ (Kept.of_keep (S := (fun k_ => (P1_0_ k_) ∨ k_ = g)) spec_l01Bad.Z3 hk (.inl (.inr rfl)))
   have n7_ := A_ (hb)
   have n8_ := A_ (hi)
   clear HO1_0
   clear BK388
   clear BK389
   clear HO392
   clear BK393
   clear HO403
   clear HK
   clear HB
   clear HI0
   have HO1_0 := n0_
   have BK388 := n1_
   have BK389 := n2_
   have HO392 := n3_
   have BK393 := n4_
   have HO403 := n5_
   have HK := n6_
   have HB := n7_
   have HI0 := n8_
   clear n0_ n1_ n2_ n3_ n4_ n5_ n6_ n7_ n8_
   (try clear hb)
   (try clear hb2)
   (try clear hk)
   (try clear hi)
   have p28 : 0 ≤ (t398 : Int) := of_decide_eq_true spec_l01Bad.Z14
   have q28 : (t398 : Int) < ((t390.length : Int) : Int) := of_decide_eq_true spec_l01Bad.Z14
   obtain ⟨go28, co28, eo28, gb28, gl28, cl28, HG28⟩ := Kd.R_form HO392.out (by omega)
   (first | cases eo28 | (injection eo28 with ea_ en_ ec_; (first | subst ea_ | (injection ea_ with ea_; subst ea_)); subst ec_; clear en_))
   have GB28 := A_ gb28
   have GG28 := A_ HG28
   clear gb28 gl28 HG28
   have HMgo28 := A_ (show (P1_0_ go28 ∨ w.heap.size ≤ go28) from (HO392.out.1 _ rfl).1)
   obtain ⟨hx28_0, hf28_0⟩ := Kd.R_celln 0 HO392.out (t398 : Int) p28 q28
   replace p28 := eq_true p28
   replace q28 := eq_true q28
   have HN0_go28 := A_ (show g ≠ go28 from by have h_ := IsS121.own_ne HI0.out HO392.out (by decide); intro e_; exact h_ (by rw [e_]; rfl))
   have HP51 := Kd.R_putn HO392.out (t398 : Int) t404
   rw [← Ny407.out] at HP51
   have HQ51 := A_ HP51
   clear HP51
   refine hK.out _ _ ⟨(blk_cell BK393.out 0).trans rfl, (blk_cell BK388.out 0).trans rfl⟩ (fun hHeld => ?_)
   clear hK K
   refine norm_ (a' := ?_) ?_ ?_
   rotate_left
   ·show Act.put _ (some 23) _ = _
    simp only [Act.put, List.setIfInBounds_toArray, List.set_cons_zero, List.set_cons_succ, i64_w, i32_w]
    rfl
   refine pure_ (i := 9) (N := some 24) (v := ?_) (a' := ?_) #[true, true, true, true, true, true, true, true, true, true, false] rfl rfl (any_of HT_.out (by kernel_rfl)) (fun _ _ _ h => h) (Or.inl ⟨by rfl, ?_⟩) ?_ ?_
   rotate_left
   ·intro w'
    go_simp
    with_reducible rfl
   rotate_left
   ·simp only [Act.put, List.setIfInBounds_toArray, List.set_cons_zero, List.set_cons_succ, i64_w, i32_w]
    rfl
   refine last_ (i := 10) (N := none) #[true, true, true, true, true, true, true, true, true, true, true] rfl rfl (one_of HT_.out (by kernel_rfl)) (by decide) (fun K hK => ?_)
   refine skip_ (w1 := ?_) (by rfl) rfl ?_ ?_
   rotate_left
   ·go_simp
    rfl
   refine hK.out _ _ ?_
   clear hK K
   refine done_ (done_of HT_.out (by kernel_rfl)) ?_
   have n0_ : Aside0 (Kd.R (Kd.int .i64) 2 (w50.setCell ⟨go28, (t398 : Int).toNat, none⟩ (.int .i64 t404)) w0.heap.size (fun k_ => (P1_0_ k_ ∨ w.heap.size ≤ k_) ∧ some k_ ≠ (.slice (some ⟨go28, 0, none⟩) t390.length co37 : Value).ownBlock ∧ some k_ ≠ (.slice Ao49 y401.length co49 : Value).ownBlock) (.slice Ao29 l1_0.length co29) l1_0) := ⟨by (with_reducible repeat (first | apply Kd.R_alloc | apply Kd.R_drewN | apply Kd.R_drew)); exact Kd.R_mono (Kd.R_far (p := ⟨go28, (t398 : Int).toNat, none⟩) (Kd.R_mono HO1_0.out (fun k_ hk => (⟨hk, fun e_ => hk.2.1 (by rw [e_]; rfl)⟩ : _ ∧ k_ ≠ go28))) (fun _ hk => hk.2) (.int .i64 t404)) (fun _ hk => ⟨hk.1.1, ⟨hk.1.2.1, hk.1.2.2⟩⟩)⟩
   have n1_ : Aside0 (Kd.R (Kd.int .i64) 2 (w50.setCell ⟨go28, (t398 : Int).toNat, none⟩ (.int .i64 t404)) w0.heap.size (fun k_ => (P1_0_ k_ ∨ w.heap.size ≤ k_) ∧ some k_ ≠ (.slice Ao29 l1_0.length co29 : Value).ownBlock ∧ some k_ ≠ (.slice Ao49 y401.length co49 : Value).ownBlock) (.slice (some ⟨go28, 0, none⟩) t390.length co37) y407) := ⟨ea HQ51⟩
   have n2_ : Aside0 (Kd.R (Kd.int .i64) 2 (w50.setCell ⟨go28, (t398 : Int).toNat, none⟩ (.int .i64 t404)) w0.heap.size (fun k_ => (P1_0_ k_ ∨ w.heap.size ≤ k_) ∧ some k_ ≠ (.slice Ao29 l1_0.length co29 : Value).ownBlock ∧ some k_ ≠ (.slice (some ⟨go28, 0, none⟩) t390.length co37 : Value).ownBlock) (.slice Ao49 y401.length co49) y401) := ⟨by (with_reducible repeat (first | apply Kd.R_alloc | apply Kd.R_drewN | apply Kd.R_drew)); exact Kd.R_mono (Kd.R_far (p := ⟨go28, (t398 : Int).toNat, none⟩) (Kd.R_mono HO403.out (fun k_ hk => (⟨hk, fun e_ => hk.2.2 (by rw [e_]; rfl)⟩ : _ ∧ k_ ≠ go28))) (fun _ hk => hk.2) (.int .i64 t404)) (fun _ hk => ⟨hk.1.1, ⟨hk.1.2.1, hk.1.2.2⟩⟩)⟩
   have n3_ : Aside0 ((w50.setCell ⟨go28, (t398 : Int).toNat, none⟩ (.int .i64 t404)).heap[gb388]? = some (.cells #[.slice Ao29 l1_0.length co29] 26 (0, 0))) := ⟨by (with_reducible repeat (first | refine blk_drewN ?_ _ | refine blk_drew ?_ | refine blk_alloc ?_ _)); refine blk_far ?_ (by have h_ := Kd.R_ne HO392.out BK388.out (by decide); intro e_; exact h_ (by rw [e_]; rfl)) _; (with_reducible repeat (first | refine blk_drewN ?_ _ | refine blk_drew ?_ | refine blk_alloc ?_ _)); exact BK388.out⟩
   have n4_ : Aside0 ((w50.setCell ⟨go28, (t398 : Int).toNat, none⟩ (.int .i64 t404)).heap[gb389]? = some (.cells #[.slice none 0 0] 26 (0, 0))) := ⟨by (with_reducible repeat (first | refine blk_drewN ?_ _ | refine blk_drew ?_ | refine blk_alloc ?_ _)); refine blk_far ?_ (by have h_ := Kd.R_ne HO392.out BK389.out (by decide); intro e_; exact h_ (by rw [e_]; rfl)) _; (with_reducible repeat (first | refine blk_drewN ?_ _ | refine blk_drew ?_ | refine blk_alloc ?_ _)); exact BK389.out⟩
   have n5_ : Aside0 ((w50.setCell ⟨go28, (t398 : Int).toNat, none⟩ (.int .i64 t404)).heap[gb393]? = some (.cells #[.slice (some ⟨go28, 0, none⟩) t390.length co37] 26 (0, 0))) := ⟨by (with_reducible repeat (first | refine blk_drewN ?_ _ | refine blk_drew ?_ | refine blk_alloc ?_ _)); refine blk_far ?_ (by have h_ := Kd.R_ne HO392.out BK393.out (by decide); intro e_; exact h_ (by rw [e_]; rfl)) _; (with_reducible repeat (first | refine blk_drewN ?_ _ | refine blk_drew ?_ | refine blk_alloc ?_ _)); exact BK393.out⟩
   have n6_ : Aside0 (IsS121 w0 (w50.setCell ⟨go28, (t398 : Int).toNat, none⟩ (.int .i64 t404)) g s0_0 t405 t406) := ⟨ei121 HI0⟩
   have n7_ : Aside0 (Kept w (w50.setCell ⟨go28, (t398 : Int).toNat, none⟩ (.int .i64 t404)) (fun k_ => (P1_0_ k_) ∨ k_ = g)) := ⟨by repeat (first | (with_reducible first | exact HK.out | apply Kept.alloc | apply Kept.drewN | apply Kept.drew | refine Kept.setCell ?_ (Or.imp_left Or.inl HMgo28.out) _ | refine Kept.setCell ?_ (.inl (.inr rfl)) _ | refine Kept.setCell ?_ (.inr GW388.out) _ | refine Kept.setCell ?_ (.inr GW389.out) _ | refine Kept.setCell ?_ (.inr GW393.out) _) | exact HK.out)⟩
   have n8_ : Aside0 (Below w0.heap.size w0 (w50.setCell ⟨go28, (t398 : Int).toNat, none⟩ (.int .i64 t404))) := ⟨em121 HB⟩
   (try clear HO1_0)
   (try clear HO392)
   (try clear HO403)
   (try clear BK388)
   (try clear BK389)
   (try clear BK393)
   (try clear HI0)
   (try clear HK)
   (try clear HB)
   generalize (w50.setCell ⟨go28, (t398 : Int).toNat, none⟩ (.int .i64 t404)) = w52 at n0_ n1_ n2_ n3_ n4_ n5_ n6_ n7_ n8_ ⊢
   have HO1_0 := n0_
   have HO392 := n1_
   have HO403 := n2_
   have BK388 := n3_
   have BK389 := n4_
   have BK393 := n5_
   have HI0 := n6_
   have HK := n7_
   have HB := n8_
   clear n0_ n1_ n2_ n3_ n4_ n5_ n6_ n7_ n8_
   have hcz53_0 : w52.cell? ⟨gb393, 0, none⟩ = some (.slice (some ⟨go28, 0, none⟩) t390.length co37) := (blk_cell BK393.out 0).trans rfl
   have hfz53_0 := blk_frozen BK393.out 0
   have hnb54 := NB389_0.out
   have hnc54 := NB0_389.out
   have hcz55_0 : w52.cell? ⟨gb389, 0, none⟩ = some (.slice none 0 0) := (blk_cell BK389.out 0).trans rfl
   have hfz55_0 := blk_frozen BK389.out 0
   try go_wp2
   refine bodyPost_ret (results_cell_row rfl _ _ gb389 26 #[.slice (some ⟨go28, 0, none⟩) t390.length co37] (0, 0) _ rfl spec_l01Bad.Z4 Try.underlying26 rfl (by kernel_rfl)) rfl ?_
   exact ⟨_, er, by (with_reducible repeat (first | apply Kd.R_alloc | apply Kd.R_drewN | apply Kd.R_drew)); exact Kd.R_mono (Kd.R_far (p := ⟨gb389, 0, none⟩) (Kd.R_types HO392.out BK389.out (by decide)) (fun _ hk => hk.2) (.slice (some ⟨go28, 0, none⟩) t390.length co37)) (fun _ hk => hk.1.1), ei121 HI0, em121 HB, by repeat (first | (with_reducible first | exact HK.out | apply Kept.alloc | apply Kept.drewN | apply Kept.drew | refine Kept.setCell ?_ (.inl (.inr rfl)) _ | refine Kept.setCell ?_ (.inr GW388.out) _ | refine Kept.setCell ?_ (.inr GW389.out) _ | refine Kept.setCell ?_ (.inr GW393.out) _) | exact HK.out)⟩
  ·rw [if_neg c22] at H
   have c22b0 : (t394 == 1) = false := beq_eq_false_iff_ne.mpr c22
   have c22b1 : (t394 != 1) = true := bne_iff_ne.mpr c22
   by_cases c56 : t394 = 2
   ·rw [if_pos c56] at H
    have c56b0 : (t394 == 2) = true := beq_iff_eq.mpr c56
    have c56b1 : (t394 != 2) = false := bne_eq_false_iff_eq.mpr c56
    clear c56
    by_cases c57 : t390.length < 17592186044416
    rotate_left
    ·rw [if_neg c57] at H
     exact absurd H (by simp)
    rw [if_pos c57] at H
    have LMc57 := A_ c57
    clear c57
    obtain ⟨y408, hy408⟩ : ∃ y_ : List Int, y_ = (t390 ++ [0]) := ⟨_, rfl⟩
    replace H : (some (y408, t395, t396)) = some (r1, r2, r3) := by first | (rw [hy408]; with_reducible exact H) | (have H2_ := (Option.bind_some _ _).symm.trans H; rw [hy408]; with_reducible exact H2_) | (have H2_ := (Option.bind_some _ _).symm.trans H; with_reducible exact H2_) | with_reducible exact H | (rw [hy408]; exact H) | exact H
    have Ny408 := A_ hy408
    clear hy408
    simp only [Option.some.injEq, Prod.mk.injEq] at H
    obtain ⟨rfl, rfl, rfl⟩ := H
    obtain ⟨Ao58, co58, eo58⟩ := Kd.R_slice HO1_0.out
    subst eo58
    go_enter Try.func128, Try.ntmps128
    go_wp2_with (first | ((with_reducible refine gate_dst (N := 3) rfl ?_); refine box_event ?hg (N := 3) ?hd (cs := #[.slice Ao58 l1_0.length co58]) (t := 26) ?hr ?_; (case hd => rfl); (case hg => rfl); (case hr => first | (go_simp; done) | (go_simp; rfl)); intro gb388 hg w59 hbox hb; have n0_ := A_ (Kd.R_below (ea HO1_0) hb); have n1_ := A_ (IsS121.below (ei121 HI0) hb); have n2_ := A_ (Kept.below (S := (fun k_ => (P1_0_ k_) ∨ k_ = g)) spec_l01Bad.Z9 hb); have n3_ := A_ (below_step (em121 HB) hb); have n4_ := A_ (hbox); have n5_ := A_ ((by rw [hg]; exact spec_l01Bad.Z6 : w.heap.size ≤ gb388)); have n6_ := A_ ((by rw [hg]; exact (below_size (em121 HB)) : w0.heap.size ≤ gb388)); have n7_ := A_ ((by rw [hg]; exact Nat.ne_of_lt (IsS121.lt (show IsS121 w0 _ g s0_0 s0_1 s0_2 from ei121 HI0)) : g ≠ gb388)); have n8_ := A_ ((by rw [hg]; exact Nat.ne_of_gt (IsS121.lt (show IsS121 w0 _ g s0_0 s0_1 s0_2 from ei121 HI0)) : gb388 ≠ g)); clear HO1_0; clear HI0; clear HK; clear HB; have HO1_0 := n0_; have HI0 := n1_; have HK := n2_; have HB := n3_; have BK388 := n4_; have GW388 := n5_; have GE388 := n6_; have NB0_388 := n7_; have NB388_0 := n8_; clear n0_ n1_ n2_ n3_ n4_ n5_ n6_ n7_ n8_; clear hb hbox hg) | ((with_reducible refine gate_dst (N := 4) rfl ?_); refine box_event ?hg (N := 4) ?hd (cs := #[.slice none 0 0]) (t := 26) ?hr ?_; (case hd => rfl); (case hg => rfl); (case hr => first | (go_simp; done) | (go_simp; rfl)); intro gb389 hg w60 hbox hb; have n0_ := A_ (Kd.R_below (ea HO1_0) hb); have n1_ := A_ (IsS121.below (ei121 HI0) hb); have n2_ := A_ (eB BK388 hb); have n3_ := A_ (Kept.below (S := (fun k_ => (P1_0_ k_) ∨ k_ = g)) spec_l01Bad.Z8 hb); have n4_ := A_ (below_step (em121 HB) hb); have n5_ := A_ (hbox); have n6_ := A_ ((by rw [hg]; exact spec_l01Bad.Z2 : w.heap.size ≤ gb389)); have n7_ := A_ ((by rw [hg]; exact (below_size (em121 HB)) : w0.heap.size ≤ gb389)); have n8_ := A_ ((by rw [hg]; exact Nat.ne_of_lt (eL BK388) : gb388 ≠ gb389)); have n9_ := A_ ((by rw [hg]; exact Nat.ne_of_gt (eL BK388) : gb389 ≠ gb388)); have n10_ := A_ ((by rw [hg]; exact Nat.ne_of_lt (IsS121.lt (show IsS121 w0 _ g s0_0 s0_1 s0_2 from ei121 HI0)) : g ≠ gb389)); have n11_ := A_ ((by rw [hg]; exact Nat.ne_of_gt (IsS121.lt (show IsS121 w0 _ g s0_0 s0_1 s0_2 from ei121 HI0)) : gb389 ≠ g)); clear HO1_0; clear HI0; clear BK388; clear HK; clear HB; have HO1_0 := n0_; have HI0 := n1_; have BK388 := n2_; have HK := n3_; have HB := n4_; have BK389 := n5_; have GW389 := n6_; have GE389 := n7_; have NB388_389 := n8_; have NB389_388 := n9_; have NB0_389 := n10_; have NB389_0 := n11_; clear n0_ n1_ n2_ n3_ n4_ n5_ n6_ n7_ n8_ n9_ n10_ n11_; clear hb hbox hg; have hnb61 := NB388_389.out; have hnc61 := NB389_388.out; have hnb62 := NB388_0.out; have hnc62 := NB0_388.out; have hcz63_0 : w60.cell? ⟨gb388, 0, none⟩ = some (.slice Ao58 l1_0.length co58) := (blk_cell BK388.out 0).trans rfl; have hfz63_0 := blk_frozen BK388.out 0) | ((with_reducible refine gate_callee (f := 169) rfl ?_); refine goesL_ (some 7) rfl rfl Try.func169 (by kernel_rfl) rfl #[.agg #[.slice Ao58 l1_0.length co58]] rfl eg ?_; (with_reducible refine (spec_l01Copy.calls _ _ l1_0 t390 _ ?side1 ?side2 A3.out).mono ?_); (case side1 => repeat (first | exact (Kd.R_reads' HO1_0.out).2.2 | (with_reducible refine Kd.C_alloc ?_ _) | (with_reducible refine Kd.C_drewN ?_ _) | (with_reducible refine Kd.C_drew ?_))); (case side2 => exact (Kd.R_reads' HO1_0.out).2.1); rintro e w64 ⟨v391, rfl, ho0, hb⟩; refine ⟨_, rfl, ?_⟩; have n0_ := A_ (Kd.R_elder' (ea HO1_0) (Kd.R_base ho0) hb); have n1_ := A_ (Kd.R_lower (Kd.R_new' (Kd.R_newM (M := fun k_ => (P1_0_ k_ ∨ w.heap.size ≤ k_)) ho0 spec_l01Bad.Z1 (fun k_ h_ => .inr h_)) (Kd.R_lt (ea HO1_0))) (below_size (em121 HB))); have n2_ := A_ (IsS121.below (ei121 HI0) hb); have n3_ := A_ (eB BK388 hb); have n4_ := A_ (eB BK389 hb); have n5_ := A_ (Kept.below (S := (fun k_ => (P1_0_ k_) ∨ k_ = g)) spec_l01Bad.Z7 hb); have n6_ := A_ (below_step (em121 HB) hb); clear HO1_0; clear HI0; clear BK388; clear BK389; clear HK; clear HB; have HO1_0 := n0_; have HO392 := n1_; have HI0 := n2_; have BK388 := n3_; have BK389 := n4_; have HK := n5_; have HB := n6_; clear n0_ n1_ n2_ n3_ n4_ n5_ n6_; (try clear hb); (try clear hb2); (try clear hk); (try clear hi); (try clear ho0)) | ((with_reducible refine gate_dst (N := 5) rfl ?_); refine box_event ?hg (N := 5) ?hd (cs := #[.slice none 0 0]) (t := 26) ?hr ?_; (case hd => rfl); (case hg => rfl); (case hr => first | (go_simp; done) | (go_simp; rfl)); intro gb393 hg w65 hbox hb; have n0_ := A_ (Kd.R_below (ea HO1_0) hb); have n1_ := A_ (Kd.R_below (ea HO392) hb); have n2_ := A_ (IsS121.below (ei121 HI0) hb); have n3_ := A_ (eB BK388 hb); have n4_ := A_ (eB BK389 hb); have n5_ := A_ (Kept.below (S := (fun k_ => (P1_0_ k_) ∨ k_ = g)) spec_l01Bad.Z7 hb); have n6_ := A_ (below_step (em121 HB) hb); have n7_ := A_ (hbox); have n8_ := A_ ((by rw [hg]; exact spec_l01Bad.Z1 : w.heap.size ≤ gb393)); have n9_ := A_ ((by rw [hg]; exact (below_size (em121 HB)) : w0.heap.size ≤ gb393)); have n10_ := A_ ((by rw [hg]; exact Nat.ne_of_lt (eL BK388) : gb388 ≠ gb393)); have n11_ := A_ ((by rw [hg]; exact Nat.ne_of_gt (eL BK388) : gb393 ≠ gb388)); have n12_ := A_ ((by rw [hg]; exact Nat.ne_of_lt (eL BK389) : gb389 ≠ gb393)); have n13_ := A_ ((by rw [hg]; exact Nat.ne_of_gt (eL BK389) : gb393 ≠ gb389)); have n14_ := A_ ((by rw [hg]; exact Nat.ne_of_lt (IsS121.lt (show IsS121 w0 _ g s0_0 s0_1 s0_2 from ei121 HI0)) : g ≠ gb393)); have n15_ := A_ ((by rw [hg]; exact Nat.ne_of_gt (IsS121.lt (show IsS121 w0 _ g s0_0 s0_1 s0_2 from ei121 HI0)) : gb393 ≠ g)); clear HO1_0; clear HO392; clear HI0; clear BK388; clear BK389; clear HK; clear HB; have HO1_0 := n0_; have HO392 := n1_; have HI0 := n2_; have BK388 := n3_; have BK389 := n4_; have HK := n5_; have HB := n6_; have BK393 := n7_; have GW393 := n8_; have GE393 := n9_; have NB388_393 := n10_; have NB393_388 := n11_; have NB389_393 := n12_; have NB393_389 := n13_; have NB0_393 := n14_; have NB393_0 := n15_; clear n0_ n1_ n2_ n3_ n4_ n5_ n6_ n7_ n8_ n9_ n10_ n11_ n12_ n13_ n14_ n15_; clear hb hbox hg; obtain ⟨Ao66, co66, eo66⟩ := Kd.R_slice HO392.out; subst eo66; have hnb67 := NB393_388.out; have hnc67 := NB388_393.out; have hnb68 := NB393_389.out; have hnc68 := NB389_393.out; have hnb69 := NB393_0.out; have hnc69 := NB0_393.out; have hcz70_0 : w65.cell? ⟨gb393, 0, none⟩ = some (.slice none 0 0) := (blk_cell BK393.out 0).trans rfl; have hfz70_0 := blk_frozen BK393.out 0) | ((with_reducible refine gate_callee (f := 123) rfl ?_); refine goesL_ (some 9) rfl rfl Try.func123 (by kernel_rfl) rfl #[.pointer (some ⟨g, 0, none⟩), .int .i64 50] rfl eg ?_; (with_reducible refine (spec_l01Next.calls g s0_0 s0_1 s0_2 50 t394 t395 t396 w0 _ ?side1 ?side2 A4.out).mono ?_); (case side1 => exact ei121 HI0); (case side2 => exact em121 HB); rintro e w71 ⟨rfl, hi, hb, hk⟩; refine ⟨_, rfl, ?_⟩; have n0_ := A_ (Kd.R_mono (Kd.R_keep (IsS121.apart (show IsS121 w0 _ g s0_0 s0_1 s0_2 from ei121 HI0) (by (with_reducible repeat (first | apply Kd.R_alloc | apply Kd.R_drewN | apply Kd.R_drew)); exact (Kd.R_mono (Kd.R_far (p := ⟨gb393, 0, none⟩) (Kd.R_types HO1_0.out BK393.out (by decide)) (fun _ hk => hk.2) (.slice Ao66 t390.length co66)) (fun _ h_ => h_.1))) (by decide)) hk (fun _ h => h.2)) (fun _ h => h.1)); have n1_ := A_ (KeepBut.blk hk (g' := gb388) (o := .cells #[.slice Ao58 l1_0.length co58] 26 (0, 0)) (eb BK388) NB388_0.out (by simp)); have n2_ := A_ (KeepBut.blk hk (g' := gb389) (o := .cells #[.slice none 0 0] 26 (0, 0)) (eb BK389) NB389_0.out (by simp)); have n3_ := A_ (Kd.R_mono (Kd.R_keep (IsS121.apart (show IsS121 w0 _ g s0_0 s0_1 s0_2 from ei121 HI0) (by (with_reducible repeat (first | apply Kd.R_alloc | apply Kd.R_drewN | apply Kd.R_drew)); exact (Kd.R_mono (Kd.R_far (p := ⟨gb393, 0, none⟩) (Kd.R_types HO392.out BK393.out (by decide)) (fun _ hk => hk.2) (.slice Ao66 t390.length co66)) (fun _ h_ => h_.1))) (by decide)) hk (fun _ h => h.2)) (fun _ h => h.1)); have n4_ := A_ (KeepBut.blk hk (g' := gb393) (o := .cells #[.slice Ao66 t390.length co66] 26 (0, 0)) spec_l01Bad.Z5 NB393_0.out (by simp)); have n5_ := A_ (Kept.of_keep (S := (fun k_ => (P1_0_ k_) ∨ k_ = g)) spec_l01Bad.Z3 hk (.inl (.inr rfl))); have n6_ := A_ (hb); have n7_ := A_ (hi); clear HO1_0; clear BK388; clear BK389; clear HO392; clear BK393; clear HK; clear HB; clear HI0; have HO1_0 := n0_; have BK388 := n1_; have BK389 := n2_; have HO392 := n3_; have BK393 := n4_; have HK := n5_; have HB := n6_; have HI0 := n7_; clear n0_ n1_ n2_ n3_ n4_ n5_ n6_ n7_; (try clear hb); (try clear hb2); (try clear hk); (try clear hi); have hcz72_0 : w71.cell? ⟨gb393, 0, none⟩ = some (.slice Ao66 t390.length co66) := (blk_cell BK393.out 0).trans rfl; have hfz72_0 := blk_frozen BK393.out 0) | ((with_reducible refine gate_builtin (b := .append) (xs := #[.tmp 29, .tmp 30]) rfl ?_); at_builtin; refine Kd.R_append (Kd.int .i64) (w0 := w0) w0.heap.size rfl (.tmp 29) (.tmp 30) 24 2 (.int .i64 0) 8 rfl Try.underlying24 info2 rfl (by decide) (by omega) (.slice Ao66 t390.length co66) t390 0 [.int .i64 0] (fun k_ => (P1_0_ k_ ∨ w.heap.size ≤ k_) ∧ some k_ ≠ (.slice Ao58 l1_0.length co58 : Value).ownBlock) (fun _ => False) rfl rfl ?aP (fun _ hk => hk.elim) ?aF ?aO ?aB ?aS ?aL ?_; (case aP => exact rfl); (case aB => exact (em121 HB)); (case aF => exact (fun k_ hk => ⟨(.inr (Nat.le_trans spec_l01Bad.Z0 hk)), Kd.fresh' (Kd.R_lt (ea HO1_0)) k_ hk⟩)); (case aO => exact (by (with_reducible repeat (first | apply Kd.R_alloc | apply Kd.R_drewN | apply Kd.R_drew)); exact Kd.R_mono HO392.out (fun _ hk => ⟨hk.1.1, hk.2⟩))); (case aS => exact (below_size (em121 HB))); (case aL => have := LMc57.out; omega); intro v409 w73 ho hb hg hat; rw [← Ny408.out] at ho; have n0_ := A_ (IsS121.grown (ei121 HI0) hg (IsS121.own_ne HI0.out HO392.out (by decide))); have n1_ := A_ (Kd.R_after (ok := (fun k_ => (P1_0_ k_ ∨ w.heap.size ≤ k_))) (ea HO1_0) hg hat); have n2_ := A_ (blk_grown (g := gb388) (o := .cells #[.slice Ao58 l1_0.length co58] 26 (0, 0)) (eb BK388) hg (Kd.R_ne HO392.out BK388.out (by decide))); have n3_ := A_ (blk_grown (g := gb389) (o := .cells #[.slice none 0 0] 26 (0, 0)) (eb BK389) hg (Kd.R_ne HO392.out BK389.out (by decide))); have n4_ := A_ (blk_grown (g := gb393) (o := .cells #[.slice Ao66 t390.length co66] 26 (0, 0)) (eb BK393) hg (Kd.R_ne HO392.out BK393.out (by decide))); have n5_ := A_ (hb); have n6_ := A_ (Kept.of_grown (S := (fun k_ => (P1_0_ k_) ∨ k_ = g)) hg spec_l01Bad.Z3 (fun k_ e_ => Or.imp_left Or.inl ((HO392.out.1 k_ e_).1.1))); have n7_ := A_ (ho); clear HI0; clear HO1_0; clear BK388; clear BK389; clear BK393; clear HB; clear HK; clear HO392; have HI0 := n0_; have HO1_0 := n1_; have BK388 := n2_; have BK389 := n3_; have BK393 := n4_; have HB := n5_; have HK := n6_; have HO410 := n7_; clear n0_ n1_ n2_ n3_ n4_ n5_ n6_ n7_; clear ho hb hg hat; obtain ⟨Ao74, co74, eo74⟩ := Kd.R_slice HO410.out; subst eo74; have hcz75_0 : w73.cell? ⟨gb393, 0, none⟩ = some (.slice Ao66 t390.length co66) := (blk_cell BK393.out 0).trans rfl; have hfz75_0 := blk_frozen BK393.out 0; have hnb76 := NB389_0.out; have hnc76 := NB0_389.out; have hcz77_0 : w73.cell? ⟨gb389, 0, none⟩ = some (.slice none 0 0) := (blk_cell BK389.out 0).trans rfl; have hfz77_0 := blk_frozen BK389.out 0))
    refine bodyPost_ret (results_cell_row rfl _ _ gb389 26 #[.slice Ao74 y408.length co74] (0, 0) _ rfl (by (with_reducible repeat (first | refine blk_drewN ?_ _ | refine blk_drew ?_ | refine blk_alloc ?_ _)); refine blk_put (cs := #[.slice none 0 0]) ?_ 0 _ rfl; (with_reducible repeat (first | refine blk_drewN ?_ _ | refine blk_drew ?_ | refine blk_alloc ?_ _)); refine blk_far ?_ NB389_393.out _; (with_reducible repeat (first | refine blk_drewN ?_ _ | refine blk_drew ?_ | refine blk_alloc ?_ _)); exact BK389.out) Try.underlying26 rfl (by kernel_rfl)) rfl ?_
    exact ⟨_, er, by (with_reducible repeat (first | apply Kd.R_alloc | apply Kd.R_drewN | apply Kd.R_drew)); exact Kd.R_mono (Kd.R_far (p := ⟨gb389, 0, none⟩) (Kd.R_far (p := ⟨gb393, 0, none⟩) (Kd.R_types (Kd.R_types HO410.out BK393.out (by decide)) BK389.out (by decide)) (fun _ hk => hk.1.2) (.slice Ao74 y408.length co74)) (fun _ hk => hk.2) (.slice Ao74 y408.length co74)) (fun _ hk => hk.1.1.1), ei121 HI0, em121 HB, by repeat (first | (with_reducible first | exact HK.out | apply Kept.alloc | apply Kept.drewN | apply Kept.drew | refine Kept.setCell ?_ (.inl (.inr rfl)) _ | refine Kept.setCell ?_ (.inr GW388.out) _ | refine Kept.setCell ?_ (.inr GW389.out) _ | refine Kept.setCell ?_ (.inr GW393.out) _) | exact HK.out)⟩
   ·rw [if_neg c56] at H
    have c56b0 : (t394 == 2) = false := beq_eq_false_iff_ne.mpr c56
    have c56b1 : (t394 != 2) = true := bne_iff_ne.mpr c56
    simp only [Option.some.injEq, Prod.mk.injEq] at H
    obtain ⟨rfl, rfl, rfl⟩ := H
    obtain ⟨Ao78, co78, eo78⟩ := Kd.R_slice HO1_0.out
    subst eo78
    go_enter Try.func128, Try.ntmps128
    go_wp2_with (first | ((with_reducible refine gate_dst (N := 3) rfl ?_); refine box_event ?hg (N := 3) ?hd (cs := #[.slice Ao78 l1_0.length co78]) (t := 26) ?hr ?_; (case hd => rfl); (case hg => rfl); (case hr => first | (go_simp; done) | (go_simp; rfl)); intro gb388 hg w79 hbox hb; have n0_ := A_ (Kd.R_below (ea HO1_0) hb); have n1_ := A_ (IsS121.below (ei121 HI0) hb); have n2_ := A_ (Kept.below (S := (fun k_ => (P1_0_ k_) ∨ k_ = g)) spec_l01Bad.Z9 hb); have n3_ := A_ (below_step (em121 HB) hb); have n4_ := A_ (hbox); have n5_ := A_ ((by rw [hg]; exact spec_l01Bad.Z6 : w.heap.size ≤ gb388)); have n6_ := A_ ((by rw [hg]; exact (below_size (em121 HB)) : w0.heap.size ≤ gb388)); have n7_ := A_ ((by rw [hg]; exact Nat.ne_of_lt (IsS121.lt (show IsS121 w0 _ g s0_0 s0_1 s0_2 from ei121 HI0)) : g ≠ gb388)); have n8_ := A_ ((by rw [hg]; exact Nat.ne_of_gt (IsS121.lt (show IsS121 w0 _ g s0_0 s0_1 s0_2 from ei121 HI0)) : gb388 ≠ g)); clear HO1_0; clear HI0; clear HK; clear HB; have HO1_0 := n0_; have HI0 := n1_; have HK := n2_; have HB := n3_; have BK388 := n4_; have GW388 := n5_; have GE388 := n6_; have NB0_388 := n7_; have NB388_0 := n8_; clear n0_ n1_ n2_ n3_ n4_ n5_ n6_ n7_ n8_; clear hb hbox hg) | ((with_reducible refine gate_dst (N := 4) rfl ?_); refine box_event ?hg (N := 4) ?hd (cs := #[.slice none 0 0]) (t := 26) ?hr ?_; (case hd => rfl); (case hg => rfl); (case hr => first | (go_simp; done) | (go_simp; rfl)); intro gb389 hg w80 hbox hb; have n0_ := A_ (Kd.R_below (ea HO1_0) hb); have n1_ := A_ (IsS121.below (ei121 HI0) hb); have n2_ := A_ (eB BK388 hb); have n3_ := A_ (Kept.below (S := (fun k_ => (P1_0_ k_) ∨ k_ = g)) spec_l01Bad.Z8 hb); have n4_ := A_ (below_step (em121 HB) hb); have n5_ := A_ (hbox); have n6_ := A_ ((by rw [hg]; exact spec_l01Bad.Z2 : w.heap.size ≤ gb389)); have n7_ := A_ ((by rw [hg]; exact (below_size (em121 HB)) : w0.heap.size ≤ gb389)); have n8_ := A_ ((by rw [hg]; exact Nat.ne_of_lt (eL BK388) : gb388 ≠ gb389)); have n9_ := A_ ((by rw [hg]; exact Nat.ne_of_gt (eL BK388) : gb389 ≠ gb388)); have n10_ := A_ ((by rw [hg]; exact Nat.ne_of_lt (IsS121.lt (show IsS121 w0 _ g s0_0 s0_1 s0_2 from ei121 HI0)) : g ≠ gb389)); have n11_ := A_ ((by rw [hg]; exact Nat.ne_of_gt (IsS121.lt (show IsS121 w0 _ g s0_0 s0_1 s0_2 from ei121 HI0)) : gb389 ≠ g)); clear HO1_0; clear HI0; clear BK388; clear HK; clear HB; have HO1_0 := n0_; have HI0 := n1_; have BK388 := n2_; have HK := n3_; have HB := n4_; have BK389 := n5_; have GW389 := n6_; have GE389 := n7_; have NB388_389 := n8_; have NB389_388 := n9_; have NB0_389 := n10_; have NB389_0 := n11_; clear n0_ n1_ n2_ n3_ n4_ n5_ n6_ n7_ n8_ n9_ n10_ n11_; clear hb hbox hg; have hnb81 := NB388_389.out; have hnc81 := NB389_388.out; have hnb82 := NB388_0.out; have hnc82 := NB0_388.out; have hcz83_0 : w80.cell? ⟨gb388, 0, none⟩ = some (.slice Ao78 l1_0.length co78) := (blk_cell BK388.out 0).trans rfl; have hfz83_0 := blk_frozen BK388.out 0) | ((with_reducible refine gate_callee (f := 169) rfl ?_); refine goesL_ (some 7) rfl rfl Try.func169 (by kernel_rfl) rfl #[.agg #[.slice Ao78 l1_0.length co78]] rfl eg ?_; (with_reducible refine (spec_l01Copy.calls _ _ l1_0 t390 _ ?side1 ?side2 A3.out).mono ?_); (case side1 => repeat (first | exact (Kd.R_reads' HO1_0.out).2.2 | (with_reducible refine Kd.C_alloc ?_ _) | (with_reducible refine Kd.C_drewN ?_ _) | (with_reducible refine Kd.C_drew ?_))); (case side2 => exact (Kd.R_reads' HO1_0.out).2.1); rintro e w84 ⟨v391, rfl, ho0, hb⟩; refine ⟨_, rfl, ?_⟩; have n0_ := A_ (Kd.R_elder' (ea HO1_0) (Kd.R_base ho0) hb); have n1_ := A_ (Kd.R_lower (Kd.R_new' (Kd.R_newM (M := fun k_ => (P1_0_ k_ ∨ w.heap.size ≤ k_)) ho0 spec_l01Bad.Z1 (fun k_ h_ => .inr h_)) (Kd.R_lt (ea HO1_0))) (below_size (em121 HB))); have n2_ := A_ (IsS121.below (ei121 HI0) hb); have n3_ := A_ (eB BK388 hb); have n4_ := A_ (eB BK389 hb); have n5_ := A_ (Kept.below (S := (fun k_ => (P1_0_ k_) ∨ k_ = g)) spec_l01Bad.Z7 hb); have n6_ := A_ (below_step (em121 HB) hb); clear HO1_0; clear HI0; clear BK388; clear BK389; clear HK; clear HB; have HO1_0 := n0_; have HO392 := n1_; have HI0 := n2_; have BK388 := n3_; have BK389 := n4_; have HK := n5_; have HB := n6_; clear n0_ n1_ n2_ n3_ n4_ n5_ n6_; (try clear hb); (try clear hb2); (try clear hk); (try clear hi); (try clear ho0)) | ((with_reducible refine gate_dst (N := 5) rfl ?_); refine box_event ?hg (N := 5) ?hd (cs := #[.slice none 0 0]) (t := 26) ?hr ?_; (case hd => rfl); (case hg => rfl); (case hr => first | (go_simp; done) | (go_simp; rfl)); intro gb393 hg w85 hbox hb; have n0_ := A_ (Kd.R_below (ea HO1_0) hb); have n1_ := A_ (Kd.R_below (ea HO392) hb); have n2_ := A_ (IsS121.below (ei121 HI0) hb); have n3_ := A_ (eB BK388 hb); have n4_ := A_ (eB BK389 hb); have n5_ := A_ (Kept.below (S := (fun k_ => (P1_0_ k_) ∨ k_ = g)) spec_l01Bad.Z7 hb); have n6_ := A_ (below_step (em121 HB) hb); have n7_ := A_ (hbox); have n8_ := A_ ((by rw [hg]; exact spec_l01Bad.Z1 : w.heap.size ≤ gb393)); have n9_ := A_ ((by rw [hg]; exact (below_size (em121 HB)) : w0.heap.size ≤ gb393)); have n10_ := A_ ((by rw [hg]; exact Nat.ne_of_lt (eL BK388) : gb388 ≠ gb393)); have n11_ := A_ ((by rw [hg]; exact Nat.ne_of_gt (eL BK388) : gb393 ≠ gb388)); have n12_ := A_ ((by rw [hg]; exact Nat.ne_of_lt (eL BK389) : gb389 ≠ gb393)); have n13_ := A_ ((by rw [hg]; exact Nat.ne_of_gt (eL BK389) : gb393 ≠ gb389)); have n14_ := A_ ((by rw [hg]; exact Nat.ne_of_lt (IsS121.lt (show IsS121 w0 _ g s0_0 s0_1 s0_2 from ei121 HI0)) : g ≠ gb393)); have n15_ := A_ ((by rw [hg]; exact Nat.ne_of_gt (IsS121.lt (show IsS121 w0 _ g s0_0 s0_1 s0_2 from ei121 HI0)) : gb393 ≠ g)); clear HO1_0; clear HO392; clear HI0; clear BK388; clear BK389; clear HK; clear HB; have HO1_0 := n0_; have HO392 := n1_; have HI0 := n2_; have BK388 := n3_; have BK389 := n4_; have HK := n5_; have HB := n6_; have BK393 := n7_; have GW393 := n8_; have GE393 := n9_; have NB388_393 := n10_; have NB393_388 := n11_; have NB389_393 := n12_; have NB393_389 := n13_; have NB0_393 := n14_; have NB393_0 := n15_; clear n0_ n1_ n2_ n3_ n4_ n5_ n6_ n7_ n8_ n9_ n10_ n11_ n12_ n13_ n14_ n15_; clear hb hbox hg; obtain ⟨Ao86, co86, eo86⟩ := Kd.R_slice HO392.out; subst eo86; have hnb87 := NB393_388.out; have hnc87 := NB388_393.out; have hnb88 := NB393_389.out; have hnc88 := NB389_393.out; have hnb89 := NB393_0.out; have hnc89 := NB0_393.out; have hcz90_0 : w85.cell? ⟨gb393, 0, none⟩ = some (.slice none 0 0) := (blk_cell BK393.out 0).trans rfl; have hfz90_0 := blk_frozen BK393.out 0) | ((with_reducible refine gate_callee (f := 123) rfl ?_); refine goesL_ (some 9) rfl rfl Try.func123 (by kernel_rfl) rfl #[.pointer (some ⟨g, 0, none⟩), .int .i64 50] rfl eg ?_; (with_reducible refine (spec_l01Next.calls g s0_0 s0_1 s0_2 50 t394 t395 t396 w0 _ ?side1 ?side2 A4.out).mono ?_); (case side1 => exact ei121 HI0); (case side2 => exact em121 HB); rintro e w91 ⟨rfl, hi, hb, hk⟩; refine ⟨_, rfl, ?_⟩; have n0_ := A_ (Kd.R_mono (Kd.R_keep (IsS121.apart (show IsS121 w0 _ g s0_0 s0_1 s0_2 from ei121 HI0) (by (with_reducible repeat (first | apply Kd.R_alloc | apply Kd.R_drewN | apply Kd.R_drew)); exact (Kd.R_mono (Kd.R_far (p := ⟨gb393, 0, none⟩) (Kd.R_types HO1_0.out BK393.out (by decide)) (fun _ hk => hk.2) (.slice Ao86 t390.length co86)) (fun _ h_ => h_.1))) (by decide)) hk (fun _ h => h.2)) (fun _ h => h.1)); have n1_ := A_ (KeepBut.blk hk (g' := gb388) (o := .cells #[.slice Ao78 l1_0.length co78] 26 (0, 0)) (eb BK388) NB388_0.out (by simp)); have n2_ := A_ (KeepBut.blk hk (g' := gb389) (o := .cells #[.slice none 0 0] 26 (0, 0)) (eb BK389) NB389_0.out (by simp)); have n3_ := A_ (Kd.R_mono (Kd.R_keep (IsS121.apart (show IsS121 w0 _ g s0_0 s0_1 s0_2 from ei121 HI0) (by (with_reducible repeat (first | apply Kd.R_alloc | apply Kd.R_drewN | apply Kd.R_drew)); exact (Kd.R_mono (Kd.R_far (p := ⟨gb393, 0, none⟩) (Kd.R_types HO392.out BK393.out (by decide)) (fun _ hk => hk.2) (.slice Ao86 t390.length co86)) (fun _ h_ => h_.1))) (by decide)) hk (fun _ h => h.2)) (fun _ h => h.1)); have n4_ := A_ (KeepBut.blk hk (g' := gb393) (o := .cells #[.slice Ao86 t390.length co86] 26 (0, 0)) spec_l01Bad.Z5 NB393_0.out (by simp)); have n5_ := A_ (Kept.of_keep (S := (fun k_ => (P1_0_ k_) ∨ k_ = g)) spec_l01Bad.Z3 hk (.inl (.inr rfl))); have n6_ := A_ (hb); have n7_ := A_ (hi); clear HO1_0; clear BK388; clear BK389; clear HO392; clear BK393; clear HK; clear HB; clear HI0; have HO1_0 := n0_; have BK388 := n1_; have BK389 := n2_; have HO392 := n3_; have BK393 := n4_; have HK := n5_; have HB := n6_; have HI0 := n7_; clear n0_ n1_ n2_ n3_ n4_ n5_ n6_ n7_; (try clear hb); (try clear hb2); (try clear hk); (try clear hi); have hcz92_0 : w91.cell? ⟨gb388, 0, none⟩ = some (.slice Ao78 l1_0.length co78) := (blk_cell BK388.out 0).trans rfl; have hfz92_0 := blk_frozen BK388.out 0; have hnb93 := NB389_0.out; have hnc93 := NB0_389.out; have hcz94_0 : w91.cell? ⟨gb389, 0, none⟩ = some (.slice none 0 0) := (blk_cell BK389.out 0).trans rfl; have hfz94_0 := blk_frozen BK389.out 0))
    refine bodyPost_ret (results_cell_row rfl _ _ gb389 26 #[.slice Ao78 l1_0.length co78] (0, 0) _ rfl spec_l01Bad.Z4 Try.underlying26 rfl (by kernel_rfl)) rfl ?_
    exact ⟨_, er, by (with_reducible repeat (first | apply Kd.R_alloc | apply Kd.R_drewN | apply Kd.R_drew)); exact Kd.R_mono (Kd.R_far (p := ⟨gb389, 0, none⟩) (Kd.R_types HO1_0.out BK389.out (by decide)) (fun _ hk => hk.2) (.slice Ao78 l1_0.length co78)) (fun _ hk => hk.1.1), ei121 HI0, em121 HB, by repeat (first | (with_reducible first | exact HK.out | apply Kept.alloc | apply Kept.drewN | apply Kept.drew | refine Kept.setCell ?_ (.inl (.inr rfl)) _ | refine Kept.setCell ?_ (.inr GW388.out) _ | refine Kept.setCell ?_ (.inr GW389.out) _ | refine Kept.setCell ?_ (.inr GW393.out) _) | exact HK.out)⟩

/-! ### spec_l01Spoil: function 98 -/
def spec_l01Spoil.f (k : Nat) (s0_0 : List Int) (s0_1 : Int) (s0_2 : Int) : Option (List Int × Int × Int) := (spec_l01Draw.f k s0_0 s0_1 s0_2).bind fun bt412 => ((spec_l01Bad.f s0_0 bt412.2.1 bt412.2.2 bt412.1).bind fun bt417 => (some (bt417.1, bt417.2.1, bt417.2.2)))
theorem spec_l01Spoil.mono : ∀ a0 a1 a2 k, LeO (spec_l01Spoil.f k a0 a1 a2) (spec_l01Spoil.f (k + 1) a0 a1 a2) := by
  intro a0 a1 a2 k
  unfold spec_l01Spoil.f
  repeat' first
      | (with_reducible exact spec_l01Draw.mono _ _ _ _)
      | (with_reducible exact LeO.refl _)
      | (with_reducible exact LeO.none _)
      | (with_reducible refine LeO.ite ?_ ?_)
      | (with_reducible refine LeO.bind ?_ (fun _ => ?_))
      | exact spec_l01Draw.mono _ _ _ _
      | exact LeO.none _
      | refine LeO.ite ?_ ?_
      | refine LeO.bind ?_ (fun _ => ?_)
set_option maxHeartbeats 8000000 in
set_option maxRecDepth 100000 in
theorem spec_l01Spoil.calls (k : Nat) (g : Nat) (s0_0 : List Int) (s0_1 : Int) (s0_2 : Int) (r1 : List Int) (r2 : Int) (r3 : Int) (w0 w : World) (hI : IsS121 w0 w g s0_0 s0_1 s0_2) (hB : Below w0.heap.size w0 w) (h : spec_l01Spoil.f k s0_0 s0_1 s0_2 = some (r1, r2, r3)) :
  Calls Try.prog 98 #[.pointer (some ⟨g, 0, none⟩)] w fun e w' => ∃ v0_ : Value, e = .returned (.agg #[v0_]) ∧ Kd.R (Kd.int .i64) 2 w' w.heap.size (fun _ => True) v0_ r1 ∧ IsS121 w0 w' g s0_0 r2 r3 ∧ Below w0.heap.size w0 w' ∧ KeepBut w w' g none := by
 have hu26 := Try.underlying26
 have HI0 := A_ hI
 have HK := A_ (KeepBut.refl w g none)
 have HL := A_ hB.size
 clear hI
 have HW0 := A_ hB.size
 have HB := A_ hB
 clear hB
 have H : ((spec_l01Draw.f k s0_0 s0_1 s0_2).bind fun bt412 => ((spec_l01Bad.f s0_0 bt412.2.1 bt412.2.2 bt412.1).bind fun bt417 => (some (bt417.1, bt417.2.1, bt417.2.2)))) = some (r1, r2, r3) := h
 clear h
 replace H := Option.bind_eq_some_iff.mp H
 obtain ⟨⟨t412, t415, t416⟩, A20, H⟩ := H
 replace H : ((spec_l01Bad.f s0_0 t415 t416 t412).bind fun bt417 => (some (bt417.1, bt417.2.1, bt417.2.2))) = some (r1, r2, r3) := H
 have A2 := A_ A20
 clear A20
 replace H := Option.bind_eq_some_iff.mp H
 obtain ⟨⟨t417, t420, t421⟩, A30, H⟩ := H
 replace H : (some (t417, t420, t421)) = some (r1, r2, r3) := H
 have A3 := A_ A30
 clear A30
 simp only [Option.some.injEq, Prod.mk.injEq] at H
 obtain ⟨rfl, rfl, rfl⟩ := H
 go_enter Try.func98, Try.ntmps98
 go_wp2_with (first | ((with_reducible refine gate_dst (N := 2) rfl ?_); refine box_event ?hg (N := 2) ?hd (cs := #[.slice none 0 0]) (t := 26) ?hr ?_; (case hd => rfl); (case hg => rfl); (case hr => first | (go_simp; done) | (go_simp; rfl)); intro gb411 hg w4 hbox hb; have n0_ := A_ (IsS121.below (ei121 HI0) hb); have n1_ := A_ (KeepBut.trans (ek HK) (KeepBut.of_below hb g none) (.inl rfl)); have n2_ := A_ (below_step (em121 HB) hb); have n3_ := A_ (hbox); have n4_ := A_ ((by rw [hg]; exact (keep_size (w := w) (g := g) (row := none) (ek HK)) : w.heap.size ≤ gb411)); have n5_ := A_ ((Nat.le_trans HW0.out (by rw [hg]; exact (keep_size (w := w) (g := g) (row := none) (ek HK)) : w.heap.size ≤ gb411) : w0.heap.size ≤ gb411)); have n6_ := A_ ((by rw [hg]; exact Nat.ne_of_lt (IsS121.lt (show IsS121 w0 _ g s0_0 s0_1 s0_2 from ei121 HI0)) : g ≠ gb411)); have n7_ := A_ ((by rw [hg]; exact Nat.ne_of_gt (IsS121.lt (show IsS121 w0 _ g s0_0 s0_1 s0_2 from ei121 HI0)) : gb411 ≠ g)); clear HI0; clear HK; clear HB; have HI0 := n0_; have HK := n1_; have HB := n2_; have BK411 := n3_; have GW411 := n4_; have GE411 := n5_; have NB0_411 := n6_; have NB411_0 := n7_; clear n0_ n1_ n2_ n3_ n4_ n5_ n6_ n7_; clear hb hbox hg) | ((with_reducible refine gate_callee (f := 122) rfl ?_); refine goesL_ (some 5) rfl rfl Try.func122 (by kernel_rfl) rfl #[.pointer (some ⟨g, 0, none⟩)] rfl eg ?_; (with_reducible refine (spec_l01Draw.calls k g s0_0 s0_1 s0_2 t412 t415 t416 w0 _ ?side1 ?side2 A2.out).mono ?_); (case side1 => exact ei121 HI0); (case side2 => exact em121 HB); rintro e w5 ⟨v413, rfl, ho0, hi, hb, hk⟩; refine ⟨_, rfl, ?_⟩; have n0_ := A_ (KeepBut.blk hk (g' := gb411) (o := .cells #[.slice none 0 0] 26 (0, 0)) (eb BK411) NB411_0.out (by simp)); have n1_ := A_ (Kd.R_lower ho0 (keep_size (w := w) (g := g) (row := none) (ek HK))); have n2_ := A_ (KeepBut.trans (ek HK) hk (.inl rfl)); have n3_ := A_ (hb); have n4_ := A_ (hi); clear BK411; clear HK; clear HB; clear HI0; have BK411 := n0_; have HO414 := n1_; have HK := n2_; have HB := n3_; have HI0 := n4_; clear n0_ n1_ n2_ n3_ n4_; (try clear hb); (try clear hb2); (try clear hk); (try clear hi); (try clear ho0); obtain ⟨Ao6, co6, eo6⟩ := Kd.R_slice HO414.out; subst eo6) | ((with_reducible refine gate_callee (f := 128) rfl ?_); refine goesL_ (some 6) rfl rfl Try.func128 (by kernel_rfl) rfl #[.pointer (some ⟨g, 0, none⟩), .agg #[.slice Ao6 t412.length co6]] rfl eg ?_; (with_reducible refine (spec_l01Bad.calls g s0_0 t415 t416 (fun k_ => some k_ = (.slice Ao6 t412.length co6 : Value).ownBlock) (.slice Ao6 t412.length co6) t412 t417 t420 t421 w0 _ ?side1 ?side2 ?side3 A3.out).mono ?_); (case side1 => exact ei121 HI0); (case side2 => exact em121 HB); (case side3 => exact Kd.R_lower (Kd.R_tight rfl HO414.out) HL.out); rintro e w7 ⟨v418, rfl, ho0, hi, hb, hkp⟩; refine ⟨_, rfl, ?_⟩; have n0_ := A_ (hi); have n1_ := A_ (blk_kept (eb BK411) hkp (fun hs_ => Or.elim hs_ (fun hs_ => (fun e_ => (Kd.R_ne HO414.out BK411.out (by decide)) e_) hs_) (fun e_ => NB411_0.out e_))); have n2_ := A_ (Kd.R_mono (ok' := fun k_ => True) (Kd.R_raise (d := (Kd.int .i64)) (b := w0.heap.size) (b' := w.heap.size) (fun _ _ _ _ h_ => h_) ho0 (fun k_ e_ => Or.elim (ho0.1 k_ e_) (fun hs_ => (fun e_ => Kd.R_base HO414.out k_ e_.symm) hs_) (fun hn_ => Nat.le_trans (keep_size (w := w) (g := g) (row := none) (ek HK)) hn_))) (fun k_ hk_ => trivial)); have n3_ := A_ (Kept.keepG (ek HK) hkp (fun k_ hs_ => Or.elim hs_ (fun hs_ => (fun e_ => .inr (Kd.R_base HO414.out k_ e_.symm)) hs_) (fun e_ => .inl e_))); have n4_ := A_ (hb); clear HI0; clear BK411; clear HK; clear HB; clear HO414; have HI0 := n0_; have BK411 := n1_; have HO419 := n2_; have HK := n3_; have HB := n4_; clear n0_ n1_ n2_ n3_ n4_; (try clear hb); (try clear hkp); (try clear ho0); obtain ⟨Ao8, co8, eo8⟩ := Kd.R_slice HO419.out; subst eo8; have hnb9 := NB411_0.out; have hnc9 := NB0_411.out; have hcz10_0 : w7.cell? ⟨gb411, 0, none⟩ = some (.slice none 0 0) := (blk_cell BK411.out 0).trans rfl; have hfz10_0 := blk_frozen BK411.out 0))
 refine bodyPost_ret (results_cell_row rfl _ _ gb411 26 #[.slice Ao8 t417.length co8] (0, 0) _ rfl (by (with_reducible repeat (first | refine blk_drewN ?_ _ | refine blk_drew ?_ | refine blk_alloc ?_ _)); refine blk_put (cs := #[.slice none 0 0]) ?_ 0 _ rfl; (with_reducible repeat (first | refine blk_drewN ?_ _ | refine blk_drew ?_ | refine blk_alloc ?_ _)); exact BK411.out) Try.underlying26 rfl (by kernel_rfl)) rfl ?_
 exact ⟨_, er, by (with_reducible repeat (first | apply Kd.R_alloc | apply Kd.R_drewN | apply Kd.R_drew)); exact Kd.R_mono (Kd.R_far (p := ⟨gb411, 0, none⟩) (Kd.R_types HO419.out BK411.out (by decide)) (fun _ hk => hk.2) (.slice Ao8 t417.length co8)) (fun _ hk => trivial), ei121 HI0, em121 HB, ek HK⟩

/-! ### spec_DrawCountsOfTree: function 77 -/
def spec_DrawCountsOfTree.f (k : Nat) (l0 : List Int) : Option (List Int) := (spec_l01From.f k l0).bind fun bt423 => ((spec_l01Spoil.f k bt423.1 bt423.2.1 bt423.2.2).bind fun bt427 => (some bt427.1))
theorem spec_DrawCountsOfTree.mono : ∀ a0 k, LeO (spec_DrawCountsOfTree.f k a0) (spec_DrawCountsOfTree.f (k + 1) a0) := by
  intro a0 k
  unfold spec_DrawCountsOfTree.f
  repeat' first
      | (with_reducible exact spec_l01From.mono _ _)
      | (with_reducible exact spec_l01Spoil.mono _ _ _ _)
      | (with_reducible exact LeO.refl _)
      | (with_reducible exact LeO.none _)
      | (with_reducible refine LeO.ite ?_ ?_)
      | (with_reducible refine LeO.bind ?_ (fun _ => ?_))
      | exact spec_l01From.mono _ _
      | exact spec_l01Spoil.mono _ _ _ _
      | exact LeO.none _
      | refine LeO.ite ?_ ?_
      | refine LeO.bind ?_ (fun _ => ?_)
set_option maxHeartbeats 8000000 in
set_option maxRecDepth 100000 in
theorem spec_DrawCountsOfTree.calls (k : Nat) (A0 : Option Addr) (c0 : Nat) (l0 : List Int) (r : List Int) (w : World) (hr0 : Kd.C (Kd.int .u8) w A0 l0.length l0) (hc0 : l0.length ≤ c0) (h : spec_DrawCountsOfTree.f k l0 = some r) :
  Calls Try.prog 77 #[.slice A0 l0.length c0] w fun e w' => ∃ v0_ : Value, e = .returned (.agg #[v0_]) ∧ Kd.R (Kd.int .i64) 2 w' w.heap.size (fun _ => True) v0_ r ∧ Below w.heap.size w w' := by
 have hu26 := Try.underlying26
 have HR0 := A_ hr0
 have HC0 := A_ hc0
 clear hr0 hc0
 have HB := A_ (Below.refl w.heap.size w)
 have H : ((spec_l01From.f k l0).bind fun bt423 => ((spec_l01Spoil.f k bt423.1 bt423.2.1 bt423.2.2).bind fun bt427 => (some bt427.1))) = some r := h
 clear h
 replace H := Option.bind_eq_some_iff.mp H
 obtain ⟨⟨t423, t424, t425⟩, A20, H⟩ := H
 replace H : ((spec_l01Spoil.f k t423 t424 t425).bind fun bt427 => (some bt427.1)) = some r := H
 have A2 := A_ A20
 clear A20
 replace H := Option.bind_eq_some_iff.mp H
 obtain ⟨⟨t427, t430, t431⟩, A30, H⟩ := H
 replace H : (some t427) = some r := H
 have A3 := A_ A30
 clear A30
 obtain rfl := Option.some.inj H
 go_enter Try.func77, Try.ntmps77
 go_wp2_with (first | ((with_reducible refine gate_dst (N := 2) rfl ?_); refine box_event ?hg (N := 2) ?hd (cs := #[.slice none 0 0]) (t := 26) ?hr ?_; (case hd => rfl); (case hg => rfl); (case hr => first | (go_simp; done) | (go_simp; rfl)); intro gb422 hg w4 hbox hb; have n0_ := A_ (below_step (el HB) hb); have n1_ := A_ (hbox); have n2_ := A_ ((by rw [hg]; exact (below_size (el HB)) : w.heap.size ≤ gb422)); have n3_ := A_ ((by rw [hg]; exact (below_size (el HB)) : w.heap.size ≤ gb422)); clear HB; have HB := n0_; have BK422 := n1_; have GW422 := n2_; have GE422 := n3_; clear n0_ n1_ n2_ n3_; clear hb hbox hg) | ((with_reducible refine gate_callee (f := 99) rfl ?_); refine goesL_ (some 4) rfl rfl Try.func99 (by kernel_rfl) rfl #[.slice A0 l0.length c0] rfl eg ?_; (with_reducible refine (spec_l01From.calls k _ _ l0 t423 t424 t425 w _ ?side1 ?side2 ?side3 A2.out).mono ?_); (case side1 => exact el HB); (case side2 => exact HR0.out); (case side3 => exact HC0.out); rintro e w5 ⟨g426, rfl, hi, hb, hb2⟩; refine ⟨_, rfl, ?_⟩; have n0_ := A_ (blk_below (g := gb422) (o := .cells #[.slice none 0 0] 26 (0, 0)) (eb BK422) hb2); have n1_ := A_ (hb); have n2_ := A_ (hi); have n3_ := A_ (IsS121.ne_blk hi (blk_below (g := gb422) (o := .cells #[.slice none 0 0] 26 (0, 0)) (eb BK422) hb2) (by decide)); have n4_ := A_ (Ne.symm (IsS121.ne_blk hi (blk_below (g := gb422) (o := .cells #[.slice none 0 0] 26 (0, 0)) (eb BK422) hb2) (by decide))); clear BK422; clear HB; have BK422 := n0_; have HB := n1_; have HI426 := n2_; have NB426_422 := n3_; have NB422_426 := n4_; clear n0_ n1_ n2_ n3_ n4_; (try clear hb); (try clear hb2); (try clear hk); (try clear hi)) | ((with_reducible refine gate_callee (f := 98) rfl ?_); refine goesL_ (some 5) rfl rfl Try.func98 (by kernel_rfl) rfl #[.pointer (some ⟨g426, 0, none⟩)] rfl eg ?_; (with_reducible refine (spec_l01Spoil.calls k g426 t423 t424 t425 t427 t430 t431 w _ ?side1 ?side2 A3.out).mono ?_); (case side1 => exact ei121 HI426); (case side2 => exact em121 HB); rintro e w6 ⟨v428, rfl, ho0, hi, hb, hk⟩; refine ⟨_, rfl, ?_⟩; have n0_ := A_ (KeepBut.blk hk (g' := gb422) (o := .cells #[.slice none 0 0] 26 (0, 0)) (eb BK422) NB422_426.out (by simp)); have n1_ := A_ (Kd.R_lower ho0 (below_size (em121 HB))); have n2_ := A_ (hb); have n3_ := A_ (hi); clear BK422; clear HB; clear HI426; have BK422 := n0_; have HO429 := n1_; have HB := n2_; have HI426 := n3_; clear n0_ n1_ n2_ n3_; (try clear hb); (try clear hb2); (try clear hk); (try clear hi); (try clear ho0); obtain ⟨Ao7, co7, eo7⟩ := Kd.R_slice HO429.out; subst eo7; have hnb8 := NB422_426.out; have hnc8 := NB426_422.out; have hcz9_0 : w6.cell? ⟨gb422, 0, none⟩ = some (.slice none 0 0) := (blk_cell BK422.out 0).trans rfl; have hfz9_0 := blk_frozen BK422.out 0))
 refine bodyPost_ret (results_cell_row rfl _ _ gb422 26 #[.slice Ao7 t427.length co7] (0, 0) _ rfl (by (with_reducible repeat (first | refine blk_drewN ?_ _ | refine blk_drew ?_ | refine blk_alloc ?_ _)); refine blk_put (cs := #[.slice none 0 0]) ?_ 0 _ rfl; (with_reducible repeat (first | refine blk_drewN ?_ _ | refine blk_drew ?_ | refine blk_alloc ?_ _)); exact BK422.out) Try.underlying26 rfl (by kernel_rfl)) rfl ?_
 exact ⟨_, er, by (with_reducible repeat (first | apply Kd.R_alloc | apply Kd.R_drewN | apply Kd.R_drew)); exact Kd.R_mono (Kd.R_far (p := ⟨gb422, 0, none⟩) (Kd.R_types HO429.out BK422.out (by decide)) (fun _ hk => hk.2) (.slice Ao7 t427.length co7)) (fun _ hk => trivial), em121 HB⟩

end Go.Proofs.Ytocachknmgefaaa.QFnTreeCounts
