/- Functions of the program as plain Lean functions, each with a proof that the machine's call answers what it answers. Conditions: none. -/
import Derived.Test.YtocachknmgefaaaQFnRanksx0
import Derived.Test.YtocachknmgefaaaQFnRanksx2
import Derived.Test.YtocachknmgefaaaQFnRanksx3
namespace Go.Proofs.Ytocachknmgefaaa.QFnRanks
open Go.RowKit Go.Proofs.YtocachknmgefaaaW.PrintWords Go.Proofs.YtocachknmgefaaaW.PrintLast Go.Proofs.YtocachknmgefaaaW.PrintMore
attribute [local go_sem] max2_int min2_int max_two min_two max_three min_three max_four min_four   -- for this text's walks alone
set_option linter.unusedVariables false
set_option linter.unusedSimpArgs false

/-! ### spec_l01Bad: function 128 -/
def spec_l01Bad.f (s0_0 : List Int) (s0_1 : Int) (s0_2 : Int) (l1_0 : List Int) : Option (List Int × Int × Int) := (spec_l01Copy.f l1_0).bind fun t210 => ((spec_l01Next.f s0_0 s0_1 s0_2 50).bind fun bt214 => (if bt214.1 = 0 then (some (([] : List Int), bt214.2.1, bt214.2.2)) else (if bt214.1 = 1 then ((spec_l01N.f l1_0).bind fun t217 => ((spec_l01Next.f s0_0 bt214.2.1 bt214.2.2 t217).bind fun bt218 => ((spec_l01Pick.f s0_0 bt218.2.1 bt218.2.2 (([(-1), 0, 1, 2, 25] : List Int))).bind fun bt224 => (if 0 ≤ bt218.1 then (if bt218.1 < (t210.length : Int) then (some ((t210.set (bt218.1 : Int).toNat bt224.1), bt224.2.1, bt224.2.2)) else (none)) else (none))))) else (if bt214.1 = 2 then (if t210.length < 17592186044416 then (some ((t210 ++ [0]), bt214.2.1, bt214.2.2)) else (none)) else (some (l1_0, bt214.2.1, bt214.2.2))))))
def spec_l01Bad.T6 : Bool × List (List Nat × List Nat) := (true, [([], []), ([0], [0]), ([], []), ([], []), ([3], [3]), ([2, 4, 4], [2, 4]), ([], []), ([], []), ([6, 7, 5], [6, 7]), ([1, 5, 0, 1, 2, 3, 4, 5, 6, 7, 8], [1, 5]), ([9, 8, 8, 0, 1, 2, 3, 4, 5, 6, 7, 8], [8, 9])])
def spec_l01Bad.B6 : List Nat := [0, 1, 0, 0, 8, 28, 0, 0, 252, 511, 1023]
theorem spec_l01Bad.tab6 : rtab .any (opsOf Try.f128 6) = spec_l01Bad.T6 := by kernel_rfl
theorem spec_l01Bad.bits6 : waitsOk spec_l01Bad.T6.2 spec_l01Bad.B6 = true := by kernel_rfl
theorem spec_l01Bad.Z0 {p : Prop} (h : p := by first | exact HK.out.1 | exact (show Kept w _ (fun k_ => (P1_0_ k_) ∨ k_ = g) from by repeat (first | (with_reducible first | exact HK.out | apply Kept.alloc | apply Kept.drewN | apply Kept.drew | refine Kept.setCell ?_ (.inl (.inr rfl)) _ | refine Kept.setCell ?_ (.inr GW208.out) _ | refine Kept.setCell ?_ (.inr GW209.out) _ | refine Kept.setCell ?_ (.inr GW213.out) _) | exact HK.out)).1) : p := h
theorem spec_l01Bad.Z1 {p : Prop} (h : p := by first | exact HK.out.1 | exact (show Kept w _ (fun k_ => (P1_0_ k_) ∨ k_ = g) from by repeat (first | (with_reducible first | exact HK.out | apply Kept.alloc | apply Kept.drewN | apply Kept.drew | refine Kept.setCell ?_ (.inl (.inr rfl)) _ | refine Kept.setCell ?_ (.inr GW208.out) _ | refine Kept.setCell ?_ (.inr GW209.out) _) | exact HK.out)).1) : p := h
theorem spec_l01Bad.Z2 {p : Prop} (h : p := by first | exact HK.out.1 | exact (show Kept w _ (fun k_ => (P1_0_ k_) ∨ k_ = g) from by repeat (first | (with_reducible first | exact HK.out | apply Kept.alloc | apply Kept.drewN | apply Kept.drew | refine Kept.setCell ?_ (.inl (.inr rfl)) _ | refine Kept.setCell ?_ (.inr GW208.out) _) | exact HK.out)).1) : p := h
theorem spec_l01Bad.Z3 {p : Prop} (h : p := by repeat (first | (with_reducible first | exact HK.out | apply Kept.alloc | apply Kept.drewN | apply Kept.drew | refine Kept.setCell ?_ (.inl (.inr rfl)) _ | refine Kept.setCell ?_ (.inr GW208.out) _ | refine Kept.setCell ?_ (.inr GW209.out) _ | refine Kept.setCell ?_ (.inr GW213.out) _) | exact HK.out)) : p := h
theorem spec_l01Bad.Z4 {p : Prop} (h : p := by (with_reducible repeat (first | refine blk_drewN ?_ _ | refine blk_drew ?_ | refine blk_alloc ?_ _)); refine blk_put (cs := #[.slice none 0 0]) ?_ 0 _ rfl; (with_reducible repeat (first | refine blk_drewN ?_ _ | refine blk_drew ?_ | refine blk_alloc ?_ _)); exact BK209.out) : p := h
theorem spec_l01Bad.Z5 {p : Prop} (h : p := by (with_reducible repeat (first | refine blk_drewN ?_ _ | refine blk_drew ?_ | refine blk_alloc ?_ _)); refine blk_put (cs := #[.slice none 0 0]) ?_ 0 _ rfl; (with_reducible repeat (first | refine blk_drewN ?_ _ | refine blk_drew ?_ | refine blk_alloc ?_ _)); exact BK213.out) : p := h
theorem spec_l01Bad.Z6 {p : Prop} (h : p := by first | exact HK.out.1 | exact (show Kept w _ (fun k_ => (P1_0_ k_) ∨ k_ = g) from by repeat (first | (with_reducible first | exact HK.out | apply Kept.alloc | apply Kept.drewN | apply Kept.drew | refine Kept.setCell ?_ (.inl (.inr rfl)) _) | exact HK.out)).1) : p := h
theorem spec_l01Bad.Z7 {p : Prop} (h : p := by repeat (first | (with_reducible first | exact HK.out | apply Kept.alloc | apply Kept.drewN | apply Kept.drew | refine Kept.setCell ?_ (.inl (.inr rfl)) _ | refine Kept.setCell ?_ (.inr GW208.out) _ | refine Kept.setCell ?_ (.inr GW209.out) _) | exact HK.out)) : p := h
theorem spec_l01Bad.Z8 {p : Prop} (h : p := by repeat (first | (with_reducible first | exact HK.out | apply Kept.alloc | apply Kept.drewN | apply Kept.drew | refine Kept.setCell ?_ (.inl (.inr rfl)) _ | refine Kept.setCell ?_ (.inr GW208.out) _) | exact HK.out)) : p := h
theorem spec_l01Bad.Z9 {p : Prop} (h : p := by repeat (first | (with_reducible first | exact HK.out | apply Kept.alloc | apply Kept.drewN | apply Kept.drew | refine Kept.setCell ?_ (.inl (.inr rfl)) _) | exact HK.out)) : p := h
theorem spec_l01Bad.Z10 {p : Prop} (h : p := by (with_reducible repeat (first | apply Kd.R_alloc | apply Kd.R_drewN | apply Kd.R_drew)); exact Kd.R_mono HO212.out (fun _ hk => ⟨hk.1.1.1, ⟨hk.1.2, hk.2⟩⟩)) : p := h
theorem spec_l01Bad.Z11 {p : Prop} (h : p := by (with_reducible repeat (first | apply Kd.R_alloc | apply Kd.R_drewN | apply Kd.R_drew)); exact Kd.R_mono HO223.out (fun _ hk => ⟨hk.1.1.1, ⟨hk.1.2, hk.2⟩⟩)) : p := h
theorem spec_l01Bad.Z12 {p : Prop} (h : p := by (with_reducible repeat (first | apply Kd.R_alloc | apply Kd.R_drewN | apply Kd.R_drew)); exact Kd.R_mono HO1_0.out (fun _ hk => ⟨hk.1.1, ⟨hk.1.2, hk.2⟩⟩)) : p := h
theorem spec_l01Bad.Z13 {p : Prop} (h : p := by simp only [putAll, Act.put, List.setIfInBounds_toArray, List.set_cons_zero, List.set_cons_succ]) : p := h
theorem spec_l01Bad.Z14 {p : Prop} (h : p := by first | (with_reducible assumption) | assumption) : p := h
set_option maxHeartbeats 8000000 in
set_option maxRecDepth 100000 in
theorem spec_l01Bad.calls (g : Nat) (s0_0 : List Int) (s0_1 : Int) (s0_2 : Int) (P1_0_ : Nat → Prop) (u9000_ : Value) (l1_0 : List Int) (r1 : List Int) (r2 : Int) (r3 : Int) (w0 w : World) (hI : IsS121 w0 w g s0_0 s0_1 s0_2) (hB : Below w0.heap.size w0 w) (ho1_0 : Kd.R (Kd.int .i64) 2 w w0.heap.size P1_0_ u9000_ l1_0) (h : spec_l01Bad.f s0_0 s0_1 s0_2 l1_0 = some (r1, r2, r3)) :
  Calls Try.prog 128 #[.pointer (some ⟨g, 0, none⟩), .agg #[u9000_]] w fun e w' => ∃ v0_ : Value, e = .returned (.agg #[v0_]) ∧ Kd.R (Kd.int .i64) 2 w' w0.heap.size (fun k_ => (P1_0_ k_ ∨ w.heap.size ≤ k_)) v0_ r1 ∧ IsS121 w0 w' g s0_0 r2 r3 ∧ Below w0.heap.size w0 w' ∧ Kept w w' (fun k_ => (P1_0_ k_) ∨ k_ = g) := by
 have hu26 := Try.underlying26
 have HO1_0 := A_ (show Kd.R (Kd.int .i64) 2 w w0.heap.size (fun k_ => (P1_0_ k_ ∨ w.heap.size ≤ k_)) u9000_ l1_0 from Kd.R_mono ho1_0 (fun k_ hk => (.inl hk)))
 have HI0 := A_ hI
 have HL := A_ hB.size
 clear hI
 have HK := A_ (Kept.refl w (fun k_ => (P1_0_ k_) ∨ k_ = g))
 have HW0 := A_ hB.size
 have HB := A_ hB
 clear hB
 have H : ((spec_l01Copy.f l1_0).bind fun t210 => ((spec_l01Next.f s0_0 s0_1 s0_2 50).bind fun bt214 => (if bt214.1 = 0 then (some (([] : List Int), bt214.2.1, bt214.2.2)) else (if bt214.1 = 1 then ((spec_l01N.f l1_0).bind fun t217 => ((spec_l01Next.f s0_0 bt214.2.1 bt214.2.2 t217).bind fun bt218 => ((spec_l01Pick.f s0_0 bt218.2.1 bt218.2.2 (([(-1), 0, 1, 2, 25] : List Int))).bind fun bt224 => (if 0 ≤ bt218.1 then (if bt218.1 < (t210.length : Int) then (some ((t210.set (bt218.1 : Int).toNat bt224.1), bt224.2.1, bt224.2.2)) else (none)) else (none))))) else (if bt214.1 = 2 then (if t210.length < 17592186044416 then (some ((t210 ++ [0]), bt214.2.1, bt214.2.2)) else (none)) else (some (l1_0, bt214.2.1, bt214.2.2))))))) = some (r1, r2, r3) := h
 clear h
 replace H := Option.bind_eq_some_iff.mp H
 obtain ⟨t210, A30, H⟩ := H
 replace H : ((spec_l01Next.f s0_0 s0_1 s0_2 50).bind fun bt214 => (if bt214.1 = 0 then (some (([] : List Int), bt214.2.1, bt214.2.2)) else (if bt214.1 = 1 then ((spec_l01N.f l1_0).bind fun t217 => ((spec_l01Next.f s0_0 bt214.2.1 bt214.2.2 t217).bind fun bt218 => ((spec_l01Pick.f s0_0 bt218.2.1 bt218.2.2 (([(-1), 0, 1, 2, 25] : List Int))).bind fun bt224 => (if 0 ≤ bt218.1 then (if bt218.1 < (t210.length : Int) then (some ((t210.set (bt218.1 : Int).toNat bt224.1), bt224.2.1, bt224.2.2)) else (none)) else (none))))) else (if bt214.1 = 2 then (if t210.length < 17592186044416 then (some ((t210 ++ [0]), bt214.2.1, bt214.2.2)) else (none)) else (some (l1_0, bt214.2.1, bt214.2.2)))))) = some (r1, r2, r3) := H
 have A3 := A_ A30
 clear A30
 replace H := Option.bind_eq_some_iff.mp H
 obtain ⟨⟨t214, t215, t216⟩, A40, H⟩ := H
 replace H : (if t214 = 0 then (some (([] : List Int), t215, t216)) else (if t214 = 1 then ((spec_l01N.f l1_0).bind fun t217 => ((spec_l01Next.f s0_0 t215 t216 t217).bind fun bt218 => ((spec_l01Pick.f s0_0 bt218.2.1 bt218.2.2 (([(-1), 0, 1, 2, 25] : List Int))).bind fun bt224 => (if 0 ≤ bt218.1 then (if bt218.1 < (t210.length : Int) then (some ((t210.set (bt218.1 : Int).toNat bt224.1), bt224.2.1, bt224.2.2)) else (none)) else (none))))) else (if t214 = 2 then (if t210.length < 17592186044416 then (some ((t210 ++ [0]), t215, t216)) else (none)) else (some (l1_0, t215, t216))))) = some (r1, r2, r3) := H
 have A4 := A_ A40
 clear A40
 by_cases c5 : t214 = 0
 ·rw [if_pos c5] at H
  have c5b0 : (t214 == 0) = true := beq_iff_eq.mpr c5
  have c5b1 : (t214 != 0) = false := bne_eq_false_iff_eq.mpr c5
  clear c5
  simp only [Option.some.injEq, Prod.mk.injEq] at H
  obtain ⟨rfl, rfl, rfl⟩ := H
  obtain ⟨Ao6, co6, eo6⟩ := Kd.R_slice HO1_0.out
  subst eo6
  go_enter Try.func128, Try.ntmps128
  go_wp2_with (first | ((with_reducible refine gate_dst (N := 3) rfl ?_); refine box_event ?hg (N := 3) ?hd (cs := #[.slice Ao6 l1_0.length co6]) (t := 26) ?hr ?_; (case hd => rfl); (case hg => rfl); (case hr => first | (go_simp; done) | (go_simp; rfl)); intro gb208 hg w7 hbox hb; have n0_ := A_ (Kd.R_below (ea HO1_0) hb); have n1_ := A_ (IsS121.below (ei121 HI0) hb); have n2_ := A_ (Kept.below (S := (fun k_ => (P1_0_ k_) ∨ k_ = g)) spec_l01Bad.Z9 hb); have n3_ := A_ (below_step (em121 HB) hb); have n4_ := A_ (hbox); have n5_ := A_ ((by rw [hg]; exact spec_l01Bad.Z6 : w.heap.size ≤ gb208)); have n6_ := A_ ((by rw [hg]; exact (below_size (em121 HB)) : w0.heap.size ≤ gb208)); have n7_ := A_ ((by rw [hg]; exact Nat.ne_of_lt (IsS121.lt (show IsS121 w0 _ g s0_0 s0_1 s0_2 from ei121 HI0)) : g ≠ gb208)); have n8_ := A_ ((by rw [hg]; exact Nat.ne_of_gt (IsS121.lt (show IsS121 w0 _ g s0_0 s0_1 s0_2 from ei121 HI0)) : gb208 ≠ g)); clear HO1_0; clear HI0; clear HK; clear HB; have HO1_0 := n0_; have HI0 := n1_; have HK := n2_; have HB := n3_; have BK208 := n4_; have GW208 := n5_; have GE208 := n6_; have NB0_208 := n7_; have NB208_0 := n8_; clear n0_ n1_ n2_ n3_ n4_ n5_ n6_ n7_ n8_; clear hb hbox hg) | ((with_reducible refine gate_dst (N := 4) rfl ?_); refine box_event ?hg (N := 4) ?hd (cs := #[.slice none 0 0]) (t := 26) ?hr ?_; (case hd => rfl); (case hg => rfl); (case hr => first | (go_simp; done) | (go_simp; rfl)); intro gb209 hg w8 hbox hb; have n0_ := A_ (Kd.R_below (ea HO1_0) hb); have n1_ := A_ (IsS121.below (ei121 HI0) hb); have n2_ := A_ (eB BK208 hb); have n3_ := A_ (Kept.below (S := (fun k_ => (P1_0_ k_) ∨ k_ = g)) spec_l01Bad.Z8 hb); have n4_ := A_ (below_step (em121 HB) hb); have n5_ := A_ (hbox); have n6_ := A_ ((by rw [hg]; exact spec_l01Bad.Z2 : w.heap.size ≤ gb209)); have n7_ := A_ ((by rw [hg]; exact (below_size (em121 HB)) : w0.heap.size ≤ gb209)); have n8_ := A_ ((by rw [hg]; exact Nat.ne_of_lt (eL BK208) : gb208 ≠ gb209)); have n9_ := A_ ((by rw [hg]; exact Nat.ne_of_gt (eL BK208) : gb209 ≠ gb208)); have n10_ := A_ ((by rw [hg]; exact Nat.ne_of_lt (IsS121.lt (show IsS121 w0 _ g s0_0 s0_1 s0_2 from ei121 HI0)) : g ≠ gb209)); have n11_ := A_ ((by rw [hg]; exact Nat.ne_of_gt (IsS121.lt (show IsS121 w0 _ g s0_0 s0_1 s0_2 from ei121 HI0)) : gb209 ≠ g)); clear HO1_0; clear HI0; clear BK208; clear HK; clear HB; have HO1_0 := n0_; have HI0 := n1_; have BK208 := n2_; have HK := n3_; have HB := n4_; have BK209 := n5_; have GW209 := n6_; have GE209 := n7_; have NB208_209 := n8_; have NB209_208 := n9_; have NB0_209 := n10_; have NB209_0 := n11_; clear n0_ n1_ n2_ n3_ n4_ n5_ n6_ n7_ n8_ n9_ n10_ n11_; clear hb hbox hg; have hnb9 := NB208_209.out; have hnc9 := NB209_208.out; have hnb10 := NB208_0.out; have hnc10 := NB0_208.out; have hcz11_0 : w8.cell? ⟨gb208, 0, none⟩ = some (.slice Ao6 l1_0.length co6) := (blk_cell BK208.out 0).trans rfl; have hfz11_0 := blk_frozen BK208.out 0) | ((with_reducible refine gate_callee (f := 169) rfl ?_); refine goesL_ (some 7) rfl rfl Try.func169 (by kernel_rfl) rfl #[.agg #[.slice Ao6 l1_0.length co6]] rfl eg ?_; (with_reducible refine (spec_l01Copy.calls _ _ l1_0 t210 _ ?side1 ?side2 A3.out).mono ?_); (case side1 => repeat (first | exact (Kd.R_reads' HO1_0.out).2.2 | (with_reducible refine Kd.C_alloc ?_ _) | (with_reducible refine Kd.C_drewN ?_ _) | (with_reducible refine Kd.C_drew ?_))); (case side2 => exact (Kd.R_reads' HO1_0.out).2.1); rintro e w12 ⟨v211, rfl, ho0, hb⟩; refine ⟨_, rfl, ?_⟩; have n0_ := A_ (Kd.R_elder' (ea HO1_0) (Kd.R_base ho0) hb); have n1_ := A_ (Kd.R_lower (Kd.R_new' (Kd.R_newM (M := fun k_ => (P1_0_ k_ ∨ w.heap.size ≤ k_)) ho0 spec_l01Bad.Z1 (fun k_ h_ => .inr h_)) (Kd.R_lt (ea HO1_0))) (below_size (em121 HB))); have n2_ := A_ (IsS121.below (ei121 HI0) hb); have n3_ := A_ (eB BK208 hb); have n4_ := A_ (eB BK209 hb); have n5_ := A_ (Kept.below (S := (fun k_ => (P1_0_ k_) ∨ k_ = g)) spec_l01Bad.Z7 hb); have n6_ := A_ (below_step (em121 HB) hb); clear HO1_0; clear HI0; clear BK208; clear BK209; clear HK; clear HB; have HO1_0 := n0_; have HO212 := n1_; have HI0 := n2_; have BK208 := n3_; have BK209 := n4_; have HK := n5_; have HB := n6_; clear n0_ n1_ n2_ n3_ n4_ n5_ n6_; (try clear hb); (try clear hb2); (try clear hk); (try clear hi); (try clear ho0)) | ((with_reducible refine gate_dst (N := 5) rfl ?_); refine box_event ?hg (N := 5) ?hd (cs := #[.slice none 0 0]) (t := 26) ?hr ?_; (case hd => rfl); (case hg => rfl); (case hr => first | (go_simp; done) | (go_simp; rfl)); intro gb213 hg w13 hbox hb; have n0_ := A_ (Kd.R_below (ea HO1_0) hb); have n1_ := A_ (Kd.R_below (ea HO212) hb); have n2_ := A_ (IsS121.below (ei121 HI0) hb); have n3_ := A_ (eB BK208 hb); have n4_ := A_ (eB BK209 hb); have n5_ := A_ (Kept.below (S := (fun k_ => (P1_0_ k_) ∨ k_ = g)) spec_l01Bad.Z7 hb); have n6_ := A_ (below_step (em121 HB) hb); have n7_ := A_ (hbox); have n8_ := A_ ((by rw [hg]; exact spec_l01Bad.Z1 : w.heap.size ≤ gb213)); have n9_ := A_ ((by rw [hg]; exact (below_size (em121 HB)) : w0.heap.size ≤ gb213)); have n10_ := A_ ((by rw [hg]; exact Nat.ne_of_lt (eL BK208) : gb208 ≠ gb213)); have n11_ := A_ ((by rw [hg]; exact Nat.ne_of_gt (eL BK208) : gb213 ≠ gb208)); have n12_ := A_ ((by rw [hg]; exact Nat.ne_of_lt (eL BK209) : gb209 ≠ gb213)); have n13_ := A_ ((by rw [hg]; exact Nat.ne_of_gt (eL BK209) : gb213 ≠ gb209)); have n14_ := A_ ((by rw [hg]; exact Nat.ne_of_lt (IsS121.lt (show IsS121 w0 _ g s0_0 s0_1 s0_2 from ei121 HI0)) : g ≠ gb213)); have n15_ := A_ ((by rw [hg]; exact Nat.ne_of_gt (IsS121.lt (show IsS121 w0 _ g s0_0 s0_1 s0_2 from ei121 HI0)) : gb213 ≠ g)); clear HO1_0; clear HO212; clear HI0; clear BK208; clear BK209; clear HK; clear HB; have HO1_0 := n0_; have HO212 := n1_; have HI0 := n2_; have BK208 := n3_; have BK209 := n4_; have HK := n5_; have HB := n6_; have BK213 := n7_; have GW213 := n8_; have GE213 := n9_; have NB208_213 := n10_; have NB213_208 := n11_; have NB209_213 := n12_; have NB213_209 := n13_; have NB0_213 := n14_; have NB213_0 := n15_; clear n0_ n1_ n2_ n3_ n4_ n5_ n6_ n7_ n8_ n9_ n10_ n11_ n12_ n13_ n14_ n15_; clear hb hbox hg; obtain ⟨Ao14, co14, eo14⟩ := Kd.R_slice HO212.out; subst eo14; have hnb15 := NB213_208.out; have hnc15 := NB208_213.out; have hnb16 := NB213_209.out; have hnc16 := NB209_213.out; have hnb17 := NB213_0.out; have hnc17 := NB0_213.out; have hcz18_0 : w13.cell? ⟨gb213, 0, none⟩ = some (.slice none 0 0) := (blk_cell BK213.out 0).trans rfl; have hfz18_0 := blk_frozen BK213.out 0) | ((with_reducible refine gate_callee (f := 123) rfl ?_); refine goesL_ (some 9) rfl rfl Try.func123 (by kernel_rfl) rfl #[.pointer (some ⟨g, 0, none⟩), .int .i64 50] rfl eg ?_; (with_reducible refine (spec_l01Next.calls g s0_0 s0_1 s0_2 50 t214 t215 t216 w0 _ ?side1 ?side2 A4.out).mono ?_); (case side1 => exact ei121 HI0); (case side2 => exact em121 HB); rintro e w19 ⟨rfl, hi, hb, hk⟩; refine ⟨_, rfl, ?_⟩; have n0_ := A_ (Kd.R_mono (Kd.R_keep (IsS121.apart (show IsS121 w0 _ g s0_0 s0_1 s0_2 from ei121 HI0) (by (with_reducible repeat (first | apply Kd.R_alloc | apply Kd.R_drewN | apply Kd.R_drew)); exact (Kd.R_mono (Kd.R_far (p := ⟨gb213, 0, none⟩) (Kd.R_types HO1_0.out BK213.out (by decide)) (fun _ hk => hk.2) (.slice Ao14 t210.length co14)) (fun _ h_ => h_.1))) (by decide)) hk (fun _ h => h.2)) (fun _ h => h.1)); have n1_ := A_ (KeepBut.blk hk (g' := gb208) (o := .cells #[.slice Ao6 l1_0.length co6] 26 (0, 0)) (eb BK208) NB208_0.out (by simp)); have n2_ := A_ (KeepBut.blk hk (g' := gb209) (o := .cells #[.slice none 0 0] 26 (0, 0)) (eb BK209) NB209_0.out (by simp)); have n3_ := A_ (Kd.R_mono (Kd.R_keep (IsS121.apart (show IsS121 w0 _ g s0_0 s0_1 s0_2 from ei121 HI0) (by (with_reducible repeat (first | apply Kd.R_alloc | apply Kd.R_drewN | apply Kd.R_drew)); exact (Kd.R_mono (Kd.R_far (p := ⟨gb213, 0, none⟩) (Kd.R_types HO212.out BK213.out (by decide)) (fun _ hk => hk.2) (.slice Ao14 t210.length co14)) (fun _ h_ => h_.1))) (by decide)) hk (fun _ h => h.2)) (fun _ h => h.1)); have n4_ := A_ (KeepBut.blk hk (g' := gb213) (o := .cells #[.slice Ao14 t210.length co14] 26 (0, 0)) spec_l01Bad.Z5 NB213_0.out (by simp)); have n5_ := A_ (Kept.of_keep (S := (fun k_ => (P1_0_ k_) ∨ k_ = g)) spec_l01Bad.Z3 hk (.inl (.inr rfl))); have n6_ := A_ (hb); have n7_ := A_ (hi); clear HO1_0; clear BK208; clear BK209; clear HO212; clear BK213; clear HK; clear HB; clear HI0; have HO1_0 := n0_; have BK208 := n1_; have BK209 := n2_; have HO212 := n3_; have BK213 := n4_; have HK := n5_; have HB := n6_; have HI0 := n7_; clear n0_ n1_ n2_ n3_ n4_ n5_ n6_ n7_; (try clear hb); (try clear hb2); (try clear hk); (try clear hi); have hnb20 := NB209_0.out; have hnc20 := NB0_209.out; have hcz21_0 : w19.cell? ⟨gb209, 0, none⟩ = some (.slice none 0 0) := (blk_cell BK209.out 0).trans rfl; have hfz21_0 := blk_frozen BK209.out 0))
  refine bodyPost_ret (results_cell_row rfl _ _ gb209 26 #[.slice none 0 0] (0, 0) _ rfl spec_l01Bad.Z4 Try.underlying26 rfl (by kernel_rfl)) rfl ?_
  exact ⟨_, er, by first | exact Kd.R_nil _ _ _ _ _ | exact Kd.N_nil _ _ _ _ _ | exact Kd.V_nil _ _ _ _ _ | exact Kd.Q_nil _ _ _ _ _ | exact Kd.S_nil _ _ _ _ _, ei121 HI0, em121 HB, by repeat (first | (with_reducible first | exact HK.out | apply Kept.alloc | apply Kept.drewN | apply Kept.drew | refine Kept.setCell ?_ (.inl (.inr rfl)) _ | refine Kept.setCell ?_ (.inr GW208.out) _ | refine Kept.setCell ?_ (.inr GW209.out) _ | refine Kept.setCell ?_ (.inr GW213.out) _) | exact HK.out)⟩
 ·rw [if_neg c5] at H
  have c5b0 : (t214 == 0) = false := beq_eq_false_iff_ne.mpr c5
  have c5b1 : (t214 != 0) = true := bne_iff_ne.mpr c5
  by_cases c22 : t214 = 1
  ·rw [if_pos c22] at H
   have c22b0 : (t214 == 1) = true := beq_iff_eq.mpr c22
   have c22b1 : (t214 != 1) = false := bne_eq_false_iff_eq.mpr c22
   clear c22
   replace H := Option.bind_eq_some_iff.mp H
   obtain ⟨t217, A230, H⟩ := H
   replace H : ((spec_l01Next.f s0_0 t215 t216 t217).bind fun bt218 => ((spec_l01Pick.f s0_0 bt218.2.1 bt218.2.2 (([(-1), 0, 1, 2, 25] : List Int))).bind fun bt224 => (if 0 ≤ bt218.1 then (if bt218.1 < (t210.length : Int) then (some ((t210.set (bt218.1 : Int).toNat bt224.1), bt224.2.1, bt224.2.2)) else (none)) else (none)))) = some (r1, r2, r3) := H
   have A23 := A_ A230
   clear A230
   replace H := Option.bind_eq_some_iff.mp H
   obtain ⟨⟨t218, t219, t220⟩, A240, H⟩ := H
   replace H : ((spec_l01Pick.f s0_0 t219 t220 (([(-1), 0, 1, 2, 25] : List Int))).bind fun bt224 => (if 0 ≤ t218 then (if t218 < (t210.length : Int) then (some ((t210.set (t218 : Int).toNat bt224.1), bt224.2.1, bt224.2.2)) else (none)) else (none))) = some (r1, r2, r3) := H
   have A24 := A_ A240
   clear A240
   obtain ⟨y221, hy221⟩ : ∃ y_ : List Int, y_ = (([(-1), 0, 1, 2, 25] : List Int)) := ⟨_, rfl⟩
   replace H : ((spec_l01Pick.f s0_0 t219 t220 y221).bind fun bt224 => (if 0 ≤ t218 then (if t218 < (t210.length : Int) then (some ((t210.set (t218 : Int).toNat bt224.1), bt224.2.1, bt224.2.2)) else (none)) else (none))) = some (r1, r2, r3) := by first | (rw [hy221]; with_reducible exact H) | (have H2_ := (Option.bind_some _ _).symm.trans H; rw [hy221]; with_reducible exact H2_) | (have H2_ := (Option.bind_some _ _).symm.trans H; with_reducible exact H2_) | with_reducible exact H | (rw [hy221]; exact H) | exact H
   have Ny221 := A_ hy221
   clear hy221
   replace H := Option.bind_eq_some_iff.mp H
   obtain ⟨⟨t224, t225, t226⟩, A250, H⟩ := H
   replace H : (if 0 ≤ t218 then (if t218 < (t210.length : Int) then (some ((t210.set (t218 : Int).toNat t224), t225, t226)) else (none)) else (none)) = some (r1, r2, r3) := H
   have A25 := A_ A250
   clear A250
   by_cases c26 : 0 ≤ t218
   rotate_left
   ·rw [if_neg c26] at H
    exact absurd H (by simp)
   rw [if_pos c26] at H
   have c26b0 : decide (0 ≤ t218) = true := decide_eq_true c26
   clear c26
   by_cases c27 : t218 < (t210.length : Int)
   rotate_left
   ·rw [if_neg c27] at H
    exact absurd H (by simp)
   rw [if_pos c27] at H
   have c27b0 : decide (t218 < (t210.length : Int)) = true := decide_eq_true c27
   clear c27
   obtain ⟨y227, hy227⟩ : ∃ y_ : List Int, y_ = (t210.set (t218 : Int).toNat t224) := ⟨_, rfl⟩
   replace H : (some (y227, t225, t226)) = some (r1, r2, r3) := by first | (rw [hy227]; with_reducible exact H) | (have H2_ := (Option.bind_some _ _).symm.trans H; rw [hy227]; with_reducible exact H2_) | (have H2_ := (Option.bind_some _ _).symm.trans H; with_reducible exact H2_) | with_reducible exact H | (rw [hy227]; exact H) | exact H
   have Ny227 := A_ hy227
   clear hy227
   simp only [Option.some.injEq, Prod.mk.injEq] at H
   obtain ⟨rfl, rfl, rfl⟩ := H
   obtain ⟨Ao29, co29, eo29⟩ := Kd.R_slice HO1_0.out
   subst eo29
   go_enter Try.func128, Try.ntmps128
   try go_wp2_with (first | ((with_reducible refine gate_dst (N := 3) rfl ?_); refine box_event ?hg (N := 3) ?hd (cs := #[.slice Ao29 l1_0.length co29]) (t := 26) ?hr ?_; (case hd => rfl); (case hg => rfl); (case hr => first | (go_simp; done) | (go_simp; rfl)); intro gb208 hg w30 hbox hb; have n0_ := A_ (Kd.R_below (ea HO1_0) hb); have n1_ := A_ (IsS121.below (ei121 HI0) hb); have n2_ := A_ (Kept.below (S := (fun k_ => (P1_0_ k_) ∨ k_ = g)) spec_l01Bad.Z9 hb); have n3_ := A_ (below_step (em121 HB) hb); have n4_ := A_ (hbox); have n5_ := A_ ((by rw [hg]; exact spec_l01Bad.Z6 : w.heap.size ≤ gb208)); have n6_ := A_ ((by rw [hg]; exact (below_size (em121 HB)) : w0.heap.size ≤ gb208)); have n7_ := A_ ((by rw [hg]; exact Nat.ne_of_lt (IsS121.lt (show IsS121 w0 _ g s0_0 s0_1 s0_2 from ei121 HI0)) : g ≠ gb208)); have n8_ := A_ ((by rw [hg]; exact Nat.ne_of_gt (IsS121.lt (show IsS121 w0 _ g s0_0 s0_1 s0_2 from ei121 HI0)) : gb208 ≠ g)); clear HO1_0; clear HI0; clear HK; clear HB; have HO1_0 := n0_; have HI0 := n1_; have HK := n2_; have HB := n3_; have BK208 := n4_; have GW208 := n5_; have GE208 := n6_; have NB0_208 := n7_; have NB208_0 := n8_; clear n0_ n1_ n2_ n3_ n4_ n5_ n6_ n7_ n8_; clear hb hbox hg) | ((with_reducible refine gate_dst (N := 4) rfl ?_); refine box_event ?hg (N := 4) ?hd (cs := #[.slice none 0 0]) (t := 26) ?hr ?_; (case hd => rfl); (case hg => rfl); (case hr => first | (go_simp; done) | (go_simp; rfl)); intro gb209 hg w31 hbox hb; have n0_ := A_ (Kd.R_below (ea HO1_0) hb); have n1_ := A_ (IsS121.below (ei121 HI0) hb); have n2_ := A_ (eB BK208 hb); have n3_ := A_ (Kept.below (S := (fun k_ => (P1_0_ k_) ∨ k_ = g)) spec_l01Bad.Z8 hb); have n4_ := A_ (below_step (em121 HB) hb); have n5_ := A_ (hbox); have n6_ := A_ ((by rw [hg]; exact spec_l01Bad.Z2 : w.heap.size ≤ gb209)); have n7_ := A_ ((by rw [hg]; exact (below_size (em121 HB)) : w0.heap.size ≤ gb209)); have n8_ := A_ ((by rw [hg]; exact Nat.ne_of_lt (eL BK208) : gb208 ≠ gb209)); have n9_ := A_ ((by rw [hg]; exact Nat.ne_of_gt (eL BK208) : gb209 ≠ gb208)); have n10_ := A_ ((by rw [hg]; exact Nat.ne_of_lt (IsS121.lt (show IsS121 w0 _ g s0_0 s0_1 s0_2 from ei121 HI0)) : g ≠ gb209)); have n11_ := A_ ((by rw [hg]; exact Nat.ne_of_gt (IsS121.lt (show IsS121 w0 _ g s0_0 s0_1 s0_2 from ei121 HI0)) : gb209 ≠ g)); clear HO1_0; clear HI0; clear BK208; clear HK; clear HB; have HO1_0 := n0_; have HI0 := n1_; have BK208 := n2_; have HK := n3_; have HB := n4_; have BK209 := n5_; have GW209 := n6_; have GE209 := n7_; have NB208_209 := n8_; have NB209_208 := n9_; have NB0_209 := n10_; have NB209_0 := n11_; clear n0_ n1_ n2_ n3_ n4_ n5_ n6_ n7_ n8_ n9_ n10_ n11_; clear hb hbox hg; have hnb32 := NB208_209.out; have hnc32 := NB209_208.out; have hnb33 := NB208_0.out; have hnc33 := NB0_208.out; have hcz34_0 : w31.cell? ⟨gb208, 0, none⟩ = some (.slice Ao29 l1_0.length co29) := (blk_cell BK208.out 0).trans rfl; have hfz34_0 := blk_frozen BK208.out 0) | ((with_reducible refine gate_callee (f := 169) rfl ?_); refine goesL_ (some 7) rfl rfl Try.func169 (by kernel_rfl) rfl #[.agg #[.slice Ao29 l1_0.length co29]] rfl eg ?_; (with_reducible refine (spec_l01Copy.calls _ _ l1_0 t210 _ ?side1 ?side2 A3.out).mono ?_); (case side1 => repeat (first | exact (Kd.R_reads' HO1_0.out).2.2 | (with_reducible refine Kd.C_alloc ?_ _) | (with_reducible refine Kd.C_drewN ?_ _) | (with_reducible refine Kd.C_drew ?_))); (case side2 => exact (Kd.R_reads' HO1_0.out).2.1); rintro e w35 ⟨v211, rfl, ho0, hb⟩; refine ⟨_, rfl, ?_⟩; have n0_ := A_ (Kd.R_elder' (ea HO1_0) (Kd.R_base ho0) hb); have n1_ := A_ (Kd.R_lower (Kd.R_new' (Kd.R_newM (M := fun k_ => (P1_0_ k_ ∨ w.heap.size ≤ k_)) ho0 spec_l01Bad.Z1 (fun k_ h_ => .inr h_)) (Kd.R_lt (ea HO1_0))) (below_size (em121 HB))); have n2_ := A_ (IsS121.below (ei121 HI0) hb); have n3_ := A_ (eB BK208 hb); have n4_ := A_ (eB BK209 hb); have n5_ := A_ (Kept.below (S := (fun k_ => (P1_0_ k_) ∨ k_ = g)) spec_l01Bad.Z7 hb); have n6_ := A_ (below_step (em121 HB) hb); clear HO1_0; clear HI0; clear BK208; clear BK209; clear HK; clear HB; have HO1_0 := n0_; have HO212 := n1_; have HI0 := n2_; have BK208 := n3_; have BK209 := n4_; have HK := n5_; have HB := n6_; clear n0_ n1_ n2_ n3_ n4_ n5_ n6_; (try clear hb); (try clear hb2); (try clear hk); (try clear hi); (try clear ho0)) | ((with_reducible refine gate_dst (N := 5) rfl ?_); refine box_event ?hg (N := 5) ?hd (cs := #[.slice none 0 0]) (t := 26) ?hr ?_; (case hd => rfl); (case hg => rfl); (case hr => first | (go_simp; done) | (go_simp; rfl)); intro gb213 hg w36 hbox hb; have n0_ := A_ (Kd.R_below (ea HO1_0) hb); have n1_ := A_ (Kd.R_below (ea HO212) hb); have n2_ := A_ (IsS121.below (ei121 HI0) hb); have n3_ := A_ (eB BK208 hb); have n4_ := A_ (eB BK209 hb); have n5_ := A_ (Kept.below (S := (fun k_ => (P1_0_ k_) ∨ k_ = g)) spec_l01Bad.Z7 hb); have n6_ := A_ (below_step (em121 HB) hb); have n7_ := A_ (hbox); have n8_ := A_ ((by rw [hg]; exact spec_l01Bad.Z1 : w.heap.size ≤ gb213)); have n9_ := A_ ((by rw [hg]; exact (below_size (em121 HB)) : w0.heap.size ≤ gb213)); have n10_ := A_ ((by rw [hg]; exact Nat.ne_of_lt (eL BK208) : gb208 ≠ gb213)); have n11_ := A_ ((by rw [hg]; exact Nat.ne_of_gt (eL BK208) : gb213 ≠ gb208)); have n12_ := A_ ((by rw [hg]; exact Nat.ne_of_lt (eL BK209) : gb209 ≠ gb213)); have n13_ := A_ ((by rw [hg]; exact Nat.ne_of_gt (eL BK209) : gb213 ≠ gb209)); have n14_ := A_ ((by rw [hg]; exact Nat.ne_of_lt (IsS121.lt (show IsS121 w0 _ g s0_0 s0_1 s0_2 from ei121 HI0)) : g ≠ gb213)); have n15_ := A_ ((by rw [hg]; exact Nat.ne_of_gt (IsS121.lt (show IsS121 w0 _ g s0_0 s0_1 s0_2 from ei121 HI0)) : gb213 ≠ g)); clear HO1_0; clear HO212; clear HI0; clear BK208; clear BK209; clear HK; clear HB; have HO1_0 := n0_; have HO212 := n1_; have HI0 := n2_; have BK208 := n3_; have BK209 := n4_; have HK := n5_; have HB := n6_; have BK213 := n7_; have GW213 := n8_; have GE213 := n9_; have NB208_213 := n10_; have NB213_208 := n11_; have NB209_213 := n12_; have NB213_209 := n13_; have NB0_213 := n14_; have NB213_0 := n15_; clear n0_ n1_ n2_ n3_ n4_ n5_ n6_ n7_ n8_ n9_ n10_ n11_ n12_ n13_ n14_ n15_; clear hb hbox hg; obtain ⟨Ao37, co37, eo37⟩ := Kd.R_slice HO212.out; subst eo37; have hnb38 := NB213_208.out; have hnc38 := NB208_213.out; have hnb39 := NB213_209.out; have hnc39 := NB209_213.out; have hnb40 := NB213_0.out; have hnc40 := NB0_213.out; have hcz41_0 : w36.cell? ⟨gb213, 0, none⟩ = some (.slice none 0 0) := (blk_cell BK213.out 0).trans rfl; have hfz41_0 := blk_frozen BK213.out 0) | ((with_reducible refine gate_callee (f := 123) rfl ?_); refine goesL_ (some 9) rfl rfl Try.func123 (by kernel_rfl) rfl #[.pointer (some ⟨g, 0, none⟩), .int .i64 50] rfl eg ?_; (with_reducible refine (spec_l01Next.calls g s0_0 s0_1 s0_2 50 t214 t215 t216 w0 _ ?side1 ?side2 A4.out).mono ?_); (case side1 => exact ei121 HI0); (case side2 => exact em121 HB); rintro e w42 ⟨rfl, hi, hb, hk⟩; refine ⟨_, rfl, ?_⟩; have n0_ := A_ (Kd.R_mono (Kd.R_keep (IsS121.apart (show IsS121 w0 _ g s0_0 s0_1 s0_2 from ei121 HI0) (by (with_reducible repeat (first | apply Kd.R_alloc | apply Kd.R_drewN | apply Kd.R_drew)); exact (Kd.R_mono (Kd.R_far (p := ⟨gb213, 0, none⟩) (Kd.R_types HO1_0.out BK213.out (by decide)) (fun _ hk => hk.2) (.slice Ao37 t210.length co37)) (fun _ h_ => h_.1))) (by decide)) hk (fun _ h => h.2)) (fun _ h => h.1)); have n1_ := A_ (KeepBut.blk hk (g' := gb208) (o := .cells #[.slice Ao29 l1_0.length co29] 26 (0, 0)) (eb BK208) NB208_0.out (by simp)); have n2_ := A_ (KeepBut.blk hk (g' := gb209) (o := .cells #[.slice none 0 0] 26 (0, 0)) (eb BK209) NB209_0.out (by simp)); have n3_ := A_ (Kd.R_mono (Kd.R_keep (IsS121.apart (show IsS121 w0 _ g s0_0 s0_1 s0_2 from ei121 HI0) (by (with_reducible repeat (first | apply Kd.R_alloc | apply Kd.R_drewN | apply Kd.R_drew)); exact (Kd.R_mono (Kd.R_far (p := ⟨gb213, 0, none⟩) (Kd.R_types HO212.out BK213.out (by decide)) (fun _ hk => hk.2) (.slice Ao37 t210.length co37)) (fun _ h_ => h_.1))) (by decide)) hk (fun _ h => h.2)) (fun _ h => h.1)); have n4_ := A_ (KeepBut.blk hk (g' := gb213) (o := .cells #[.slice Ao37 t210.length co37] 26 (0, 0)) spec_l01Bad.Z5 NB213_0.out (by simp)); have n5_ := A_ (Kept.of_keep (S := (fun k_ => (P1_0_ k_) ∨ k_ = g)) spec_l01Bad.Z3 hk (.inl (.inr rfl))); have n6_ := A_ (hb); have n7_ := A_ (hi); clear HO1_0; clear BK208; clear BK209; clear HO212; clear BK213; clear HK; clear HB; clear HI0; have HO1_0 := n0_; have BK208 := n1_; have BK209 := n2_; have HO212 := n3_; have BK213 := n4_; have HK := n5_; have HB := n6_; have HI0 := n7_; clear n0_ n1_ n2_ n3_ n4_ n5_ n6_ n7_; (try clear hb); (try clear hb2); (try clear hk); (try clear hi)))
   have n0_ := A_ (Kd.R_drew HO1_0.out)
   have n1_ := A_ (Kd.R_drew HO212.out)
   have n2_ := A_ (blk_drew BK208.out)
   have n3_ := A_ (blk_drew BK209.out)
   have n4_ := A_ (blk_drew BK213.out)
   have n5_ := A_ (IsS121.drew HI0.out)
   have n6_ := A_ (Kept.drew HK.out)
   have n7_ := A_ (below_drew1 HB.out)
   clear HO1_0
   clear HO212
   clear BK208
   clear BK209
   clear BK213
   clear HI0
   clear HK
   clear HB
   have HO1_0 := n0_
   have HO212 := n1_
   have BK208 := n2_
   have BK209 := n3_
   have BK213 := n4_
   have HI0 := n5_
   have HK := n6_
   have HB := n7_
   clear n0_ n1_ n2_ n3_ n4_ n5_ n6_ n7_
   refine start_ (n := 11) (S := fun w' => w'.cell? ⟨gb213, 0, none⟩ = some (.slice Ao37 t210.length co37) ∧ w'.cell? ⟨gb208, 0, none⟩ = some (.slice Ao29 l1_0.length co29)) (ds := [10]) #[false, false, false, false, false, false, false, false, false, false, false] (by kernel_rfl) rfl rfl ⟨(blk_cell BK213.out 0).trans rfl, (blk_cell BK208.out 0).trans rfl⟩ (fun hHeld => ?_); refine with_tabW spec_l01Bad.tab6 spec_l01Bad.bits6 (fun HT_ HW_ => ?_)
   generalize w42.drew = w43 at HO1_0 HO212 BK208 BK209 BK213 HI0 HK HB hHeld ⊢
   refine pure_ (i := 0) (N := some 15) (v := ?_) (a' := ?_) #[true, false, false, false, false, false, false, false, false, false, false] rfl rfl (any_of HT_.out (by kernel_rfl)) (fun _ _ _ h => h) (Or.inl ⟨by rfl, ?_⟩) ?_ ?_
   rotate_left
   ·intro w'
    go_simp
    with_reducible rfl
   rotate_left
   ·simp only [Act.put, List.setIfInBounds_toArray, List.set_cons_zero, List.set_cons_succ, i64_w, i32_w]
    rfl
   refine pure_ (i := 2) (N := some 17) (v := ?_) (a' := ?_) #[true, false, true, false, false, false, false, false, false, false, false] rfl rfl (any_of HT_.out (by kernel_rfl)) (fun _ _ _ h => h) (Or.inl ⟨by rfl, ?_⟩) ?_ ?_
   rotate_left
   ·intro w'
    go_simp
    with_reducible rfl
   rotate_left
   ·simp only [Act.put, List.setIfInBounds_toArray, List.set_cons_zero, List.set_cons_succ, i64_w, i32_w]
    rfl
   refine pure_ (i := 6) (N := some 21) (v := ?_) (a' := ?_) #[true, false, true, false, false, false, true, false, false, false, false] rfl rfl (any_of HT_.out (by kernel_rfl)) (fun _ _ _ h => h) (Or.inl ⟨by rfl, ?_⟩) ?_ ?_
   rotate_left
   ·intro w'
    go_simp
    with_reducible rfl
   rotate_left
   ·simp only [Act.put, List.setIfInBounds_toArray, List.set_cons_zero, List.set_cons_succ, i64_w, i32_w]
    rfl
   refine take_ (i := 1) (N := some 16) (v := ?_) (a' := ?_) #[true, true, true, false, false, false, true, false, false, false, false] rfl rfl (take_ofW HT_.out HW_.out (by kernel_rfl)) (fun _ _ _ h => h) (Or.inl ⟨by rfl, ?_⟩) hHeld ?_ ?_
   rotate_left
   ·rintro w' ⟨s0, s1⟩
    go_simp
    with_reducible rfl
   rotate_left
   ·simp only [Act.put, List.setIfInBounds_toArray, List.set_cons_zero, List.set_cons_succ, i64_w, i32_w]
    rfl
   refine take_ (i := 3) (N := some 18) (v := ?_) (a' := ?_) #[true, true, true, true, false, false, true, false, false, false, false] rfl rfl (take_ofW HT_.out HW_.out (by kernel_rfl)) (fun _ _ _ h => h) (Or.inl ⟨by rfl, ?_⟩) hHeld ?_ ?_
   rotate_left
   ·rintro w' ⟨s0, s1⟩
    go_simp
    with_reducible rfl
   rotate_left
   ·simp only [Act.put, List.setIfInBounds_toArray, List.set_cons_zero, List.set_cons_succ, i64_w, i32_w]
    rfl
   refine join_ (σ := Value) 3 #[true, true, true, true, true, true, true, true, false, false, false] (fun s_ => [(19, .int .i64 t217), (20, .int .i64 t218), (22, s_)]) (fun s_ w' => (w'.cell? ⟨gb213, 0, none⟩ = some (.slice Ao37 t210.length co37) ∧ w'.cell? ⟨gb208, 0, none⟩ = some (.slice Ao29 l1_0.length co29)) ∧ (Kd.R (Kd.int .i64) 2 w' w0.heap.size (fun k_ => (P1_0_ k_ ∨ w.heap.size ≤ k_) ∧ some k_ ≠ (.slice Ao37 t210.length co37 : Value).ownBlock ∧ some k_ ≠ (s_ : Value).ownBlock) (.slice Ao29 l1_0.length co29) l1_0) ∧ (Kd.R (Kd.int .i64) 2 w' w0.heap.size (fun k_ => (P1_0_ k_ ∨ w.heap.size ≤ k_) ∧ some k_ ≠ (.slice Ao29 l1_0.length co29 : Value).ownBlock ∧ some k_ ≠ (s_ : Value).ownBlock) (.slice Ao37 t210.length co37) t210) ∧ (Kd.R (Kd.int .i64) 2 w' w0.heap.size (fun k_ => (P1_0_ k_ ∨ w.heap.size ≤ k_) ∧ some k_ ≠ (.slice Ao29 l1_0.length co29 : Value).ownBlock ∧ some k_ ≠ (.slice Ao37 t210.length co37 : Value).ownBlock) s_ y221) ∧ (w'.heap[gb208]? = some (.cells #[.slice Ao29 l1_0.length co29] 26 (0, 0))) ∧ (w'.heap[gb209]? = some (.cells #[.slice none 0 0] 26 (0, 0))) ∧ (w'.heap[gb213]? = some (.cells #[.slice Ao37 t210.length co37] 26 (0, 0))) ∧ (IsS121 w0 w' g s0_0 t219 t220) ∧ (Kept w w' (fun k_ => (P1_0_ k_) ∨ k_ = g)) ∧ (Below w0.heap.size w0 w')) ?_ ?_
   rotate_left
   ·intro hCont
    refine two_ (i := 4) (j := 7) (Ni := some 19) (Nj := some 22) #[true, true, true, true, true, false, true, false, false, false, false] #[true, true, true, true, false, false, true, true, false, false, false] rfl rfl rfl rfl (two_of HT_.out (by kernel_rfl)) (by decide) (by decide) (fun K hK => ?_) (fun K hK => ?_)
    ·skip
     refine goes_ Try.func102 (by kernel_rfl) rfl #[.agg #[.slice Ao29 l1_0.length co29]] (by rfl) rfl rfl eg ?_
     with_reducible refine (spec_l01N.calls _ _ l1_0 t217 _ ?side1 ?side2 A23.out).mono ?_
     (case side1 => repeat (first | exact (Kd.R_reads' HO1_0.out).2.2 | (with_reducible refine Kd.C_alloc ?_ _) | (with_reducible refine Kd.C_drewN ?_ _) | (with_reducible refine Kd.C_drew ?_)))
     (case side2 => exact (Kd.R_reads' HO1_0.out).2.1)
     rintro e w44 ⟨rfl, hb⟩
     refine ⟨_, rfl, ?_⟩
     have n0_ := A_ (Kd.R_below (ea HO1_0) hb)
     have n1_ := A_ (Kd.R_below (ea HO212) hb)
     have n2_ := A_ (IsS121.below (ei121 HI0) hb)
     have n3_ := A_ (eB BK208 hb)
     have n4_ := A_ (eB BK209 hb)
     have n5_ := A_ (eB BK213 hb)
     have n6_ := A_ (Kept.below (S := (fun k_ => (P1_0_ k_) ∨ k_ = g)) spec_l01Bad.Z3 hb)
     have n7_ := A_ (below_step (em121 HB) hb)
     clear HO1_0
     clear HO212
     clear HI0
     clear BK208
     clear BK209
     clear BK213
     clear HK
     clear HB
     have HO1_0 := n0_
     have HO212 := n1_
     have HI0 := n2_
     have BK208 := n3_
     have BK209 := n4_
     have BK213 := n5_
     have HK := n6_
     have HB := n7_
     clear n0_ n1_ n2_ n3_ n4_ n5_ n6_ n7_
     (try clear hb)
     (try clear hb2)
     (try clear hk)
     (try clear hi)
     refine hK.out _ _ ⟨(blk_cell BK213.out 0).trans rfl, (blk_cell BK208.out 0).trans rfl⟩ (fun hHeld => ?_)
     clear hK K
     refine norm_ (a' := ?_) ?_ ?_
     rotate_left
     ·show Act.put _ (some 19) _ = _
      simp only [Act.put, List.setIfInBounds_toArray, List.set_cons_zero, List.set_cons_succ, i64_w, i32_w]
      rfl
     refine two_ (i := 5) (j := 7) (Ni := some 20) (Nj := some 22) #[true, true, true, true, true, true, true, false, false, false, false] #[true, true, true, true, true, false, true, true, false, false, false] rfl rfl rfl rfl (two_of HT_.out (by kernel_rfl)) (by decide) (by decide) (fun K hK => ?_) (fun K hK => ?_)
     ·skip
      refine goes_ Try.func123 (by kernel_rfl) rfl #[.pointer (some ⟨g, 0, none⟩), .int .i64 t217] (by rfl) rfl rfl eg ?_
      with_reducible refine (spec_l01Next.calls g s0_0 t215 t216 t217 t218 t219 t220 w0 _ ?side1 ?side2 A24.out).mono ?_
      (case side1 => exact ei121 HI0)
      (case side2 => exact em121 HB)
      rintro e w45 ⟨rfl, hi, hb, hk⟩
      refine ⟨_, rfl, ?_⟩
      have n0_ := A_ (Kd.R_mono (Kd.R_keep (IsS121.apart (show IsS121 w0 _ g s0_0 t215 t216 from ei121 HI0) (ea HO1_0) (by decide)) hk (fun _ h => h.2)) (fun _ h => h.1))
      have n1_ := A_ (KeepBut.blk hk (g' := gb208) (o := .cells #[.slice Ao29 l1_0.length co29] 26 (0, 0)) (eb BK208) NB208_0.out (by simp))
      have n2_ := A_ (KeepBut.blk hk (g' := gb209) (o := .cells #[.slice none 0 0] 26 (0, 0)) (eb BK209) NB209_0.out (by simp))
      have n3_ := A_ (Kd.R_mono (Kd.R_keep (IsS121.apart (show IsS121 w0 _ g s0_0 t215 t216 from ei121 HI0) (ea HO212) (by decide)) hk (fun _ h => h.2)) (fun _ h => h.1))
      have n4_ := A_ (KeepBut.blk hk (g' := gb213) (o := .cells #[.slice Ao37 t210.length co37] 26 (0, 0)) (eb BK213) NB213_0.out (by simp))
      have n5_ := A_ (Kept.of_keep (S := (fun k_ => (P1_0_ k_) ∨ k_ = g)) spec_l01Bad.Z3 hk (.inl (.inr rfl)))
      have n6_ := A_ (hb)
      have n7_ := A_ (hi)
      clear HO1_0
      clear BK208
      clear BK209
      clear HO212
      clear BK213
      clear HK
      clear HB
      clear HI0
      have HO1_0 := n0_
      have BK208 := n1_
      have BK209 := n2_
      have HO212 := n3_
      have BK213 := n4_
      have HK := n5_
      have HB := n6_
      have HI0 := n7_
      clear n0_ n1_ n2_ n3_ n4_ n5_ n6_ n7_
      (try clear hb)
      (try clear hb2)
      (try clear hk)
      (try clear hi)
      refine hK.out _ _ ⟨(blk_cell BK213.out 0).trans rfl, (blk_cell BK208.out 0).trans rfl⟩ (fun hHeld => ?_)
      clear hK K
      refine norm_ (a' := ?_) ?_ ?_
      rotate_left
      ·show Act.put _ (some 20) _ = _
       simp only [Act.put, List.setIfInBounds_toArray, List.set_cons_zero, List.set_cons_succ, i64_w, i32_w]
       rfl
      refine one_ (i := 7) (N := some 22) #[true, true, true, true, true, true, true, true, false, false, false] rfl rfl (one_of HT_.out (by kernel_rfl)) (by decide) (fun K hK => ?_)
      refine Kd.R_lit_step (Kd.int .i64) _ 2 ?hg (N := 22) ?hd (xs := ([(-1), 0, 1, 2, 25] : List Int)) (inner := [.int .i64 (-1), .int .i64 0, .int .i64 1, .int .i64 2, .int .i64 25]) (ok := fun _ => True) (okp := fun _ => True) ?hr ?hp (fun _ hk => hk) trivial (Below.refl _ _) (Nat.le_refl _) (by simp) ?_; (case hd => rfl); (case hg => rfl); (case hr => first | (go_simp; done) | (go_simp; rfl)); (case hp => exact (Reps.one (show Kd.M (Kd.int .i64) _ _ _ (-1) [.int .i64 (-1)] from rfl) (Reps.one (show Kd.M (Kd.int .i64) _ _ _ 0 [.int .i64 0] from rfl) (Reps.one (show Kd.M (Kd.int .i64) _ _ _ 1 [.int .i64 1] from rfl) (Reps.one (show Kd.M (Kd.int .i64) _ _ _ 2 [.int .i64 2] from rfl) (Reps.one (show Kd.M (Kd.int .i64) _ _ _ 25 [.int .i64 25] from rfl) (Reps.none _ _)))))))
      intro v222 w46 ho47 hb hg_ hnew_
      clear hg_ hnew_
      (first | rw [← Ny221.out] at ho47 | (simp only [Int.reduceToNat] at ho47; rw [← Ny221.out] at ho47))
      have n0_ := A_ (Kd.R_elder' (ea HO1_0) (Kd.R_base ho47) hb)
      have n1_ := A_ (Kd.R_elder' (ea HO212) (Kd.R_base ho47) hb)
      have n2_ := A_ (Kd.R_lower (Kd.R_new' (Kd.R_new' (Kd.R_newM (M := fun k_ => (P1_0_ k_ ∨ w.heap.size ≤ k_)) ho47 spec_l01Bad.Z0 (fun k_ h_ => .inr h_)) (Kd.R_lt (ea HO1_0))) (Kd.R_lt (ea HO212))) (below_size (em121 HB)))
      have n3_ := A_ (IsS121.below (ei121 HI0) hb)
      have n4_ := A_ (eB BK208 hb)
      have n5_ := A_ (eB BK209 hb)
      have n6_ := A_ (eB BK213 hb)
      have n7_ := A_ (Kept.below (S := (fun k_ => (P1_0_ k_) ∨ k_ = g)) spec_l01Bad.Z3 hb)
      have n8_ := A_ (below_step (em121 HB) hb)
      clear HO1_0
      clear HO212
      clear HI0
      clear BK208
      clear BK209
      clear BK213
      clear HK
      clear HB
      have HO1_0 := n0_
      have HO212 := n1_
      have HO223 := n2_
      have HI0 := n3_
      have BK208 := n4_
      have BK209 := n5_
      have BK213 := n6_
      have HK := n7_
      have HB := n8_
      clear n0_ n1_ n2_ n3_ n4_ n5_ n6_ n7_ n8_
      clear hb ho47
      refine hK.out _ _ ⟨(blk_cell BK213.out 0).trans rfl, (blk_cell BK208.out 0).trans rfl⟩ (fun hHeld => ?_)
      clear hK K
      refine norm_ (a' := ?_) ?_ ?_
      rotate_left
      ·show Act.put _ (some 22) _ = _
       simp only [Act.put, List.setIfInBounds_toArray, List.set_cons_zero, List.set_cons_succ, i64_w, i32_w]
       rfl
      exact norm_ spec_l01Bad.Z13 (hCont (v222) _ ⟨hHeld, spec_l01Bad.Z12, spec_l01Bad.Z10, spec_l01Bad.Z11, (eb BK208), (eb BK209), (eb BK213), (ei121 HI0), spec_l01Bad.Z3, (em121 HB)⟩)
     ·skip
      refine Kd.R_lit_step (Kd.int .i64) _ 2 ?hg (N := 22) ?hd (xs := ([(-1), 0, 1, 2, 25] : List Int)) (inner := [.int .i64 (-1), .int .i64 0, .int .i64 1, .int .i64 2, .int .i64 25]) (ok := fun _ => True) (okp := fun _ => True) ?hr ?hp (fun _ hk => hk) trivial (Below.refl _ _) (Nat.le_refl _) (by simp) ?_; (case hd => rfl); (case hg => rfl); (case hr => first | (go_simp; done) | (go_simp; rfl)); (case hp => exact (Reps.one (show Kd.M (Kd.int .i64) _ _ _ (-1) [.int .i64 (-1)] from rfl) (Reps.one (show Kd.M (Kd.int .i64) _ _ _ 0 [.int .i64 0] from rfl) (Reps.one (show Kd.M (Kd.int .i64) _ _ _ 1 [.int .i64 1] from rfl) (Reps.one (show Kd.M (Kd.int .i64) _ _ _ 2 [.int .i64 2] from rfl) (Reps.one (show Kd.M (Kd.int .i64) _ _ _ 25 [.int .i64 25] from rfl) (Reps.none _ _)))))))
      intro v222 w45 ho46 hb hg_ hnew_
      clear hg_ hnew_
      (first | rw [← Ny221.out] at ho46 | (simp only [Int.reduceToNat] at ho46; rw [← Ny221.out] at ho46))
      have n0_ := A_ (Kd.R_elder' (ea HO1_0) (Kd.R_base ho46) hb)
      have n1_ := A_ (Kd.R_elder' (ea HO212) (Kd.R_base ho46) hb)
      have n2_ := A_ (Kd.R_lower (Kd.R_new' (Kd.R_new' (Kd.R_newM (M := fun k_ => (P1_0_ k_ ∨ w.heap.size ≤ k_)) ho46 spec_l01Bad.Z0 (fun k_ h_ => .inr h_)) (Kd.R_lt (ea HO1_0))) (Kd.R_lt (ea HO212))) (below_size (em121 HB)))
      have n3_ := A_ (IsS121.below (ei121 HI0) hb)
      have n4_ := A_ (eB BK208 hb)
      have n5_ := A_ (eB BK209 hb)
      have n6_ := A_ (eB BK213 hb)
      have n7_ := A_ (Kept.below (S := (fun k_ => (P1_0_ k_) ∨ k_ = g)) spec_l01Bad.Z3 hb)
      have n8_ := A_ (below_step (em121 HB) hb)
      clear HO1_0
      clear HO212
      clear HI0
      clear BK208
      clear BK209
      clear BK213
      clear HK
      clear HB
      have HO1_0 := n0_
      have HO212 := n1_
      have HO223 := n2_
      have HI0 := n3_
      have BK208 := n4_
      have BK209 := n5_
      have BK213 := n6_
      have HK := n7_
      have HB := n8_
      clear n0_ n1_ n2_ n3_ n4_ n5_ n6_ n7_ n8_
      clear hb ho46
      refine hK.out _ _ ⟨(blk_cell BK213.out 0).trans rfl, (blk_cell BK208.out 0).trans rfl⟩ (fun hHeld => ?_)
      clear hK K
      refine norm_ (a' := ?_) ?_ ?_
      rotate_left
      ·show Act.put _ (some 22) _ = _
       simp only [Act.put, List.setIfInBounds_toArray, List.set_cons_zero, List.set_cons_succ, i64_w, i32_w]
       rfl
      refine one_ (i := 5) (N := some 20) #[true, true, true, true, true, true, true, true, false, false, false] rfl rfl (one_of HT_.out (by kernel_rfl)) (by decide) (fun K hK => ?_)
      refine goes_ Try.func123 (by kernel_rfl) rfl #[.pointer (some ⟨g, 0, none⟩), .int .i64 t217] (by rfl) rfl rfl eg ?_
      with_reducible refine (spec_l01Next.calls g s0_0 t215 t216 t217 t218 t219 t220 w0 _ ?side1 ?side2 A24.out).mono ?_
      (case side1 => exact ei121 HI0)
      (case side2 => exact em121 HB)
      rintro e w47 ⟨rfl, hi, hb, hk⟩
      refine ⟨_, rfl, ?_⟩
      have n0_ := A_ (Kd.R_mono (Kd.R_keep (IsS121.apart (show IsS121 w0 _ g s0_0 t215 t216 from ei121 HI0) (ea HO1_0) (by decide)) hk (fun _ h => h.2)) (fun _ h => h.1))
      have n1_ := A_ (KeepBut.blk hk (g' := gb208) (o := .cells #[.slice Ao29 l1_0.length co29] 26 (0, 0)) (eb BK208) NB208_0.out (by simp))
      have n2_ := A_ (KeepBut.blk hk (g' := gb209) (o := .cells #[.slice none 0 0] 26 (0, 0)) (eb BK209) NB209_0.out (by simp))
      have n3_ := A_ (Kd.R_mono (Kd.R_keep (IsS121.apart (show IsS121 w0 _ g s0_0 t215 t216 from ei121 HI0) (ea HO212) (by decide)) hk (fun _ h => h.2)) (fun _ h => h.1))
      have n4_ := A_ (KeepBut.blk hk (g' := gb213) (o := .cells #[.slice Ao37 t210.length co37] 26 (0, 0)) (eb BK213) NB213_0.out (by simp))
      have n5_ := A_ (Kd.R_mono (Kd.R_keep (IsS121.apart (show IsS121 w0 _ g s0_0 t215 t216 from ei121 HI0) (ea HO223) (by decide)) hk (fun _ h => h.2)) (fun _ h => h.1))
      have n6_ := A_ (Kept.of_keep (S := (fun k_ => (P1_0_ k_) ∨ k_ = g)) spec_l01Bad.Z3 hk (.inl (.inr rfl)))
      have n7_ := A_ (hb)
      have n8_ := A_ (hi)
      clear HO1_0
      clear BK208
      clear BK209
      clear HO212
      clear BK213
      clear HO223
      clear HK
      clear HB
      clear HI0
      have HO1_0 := n0_
      have BK208 := n1_
      have BK209 := n2_
      have HO212 := n3_
      have BK213 := n4_
      have HO223 := n5_
      have HK := n6_
      have HB := n7_
      have HI0 := n8_
      clear n0_ n1_ n2_ n3_ n4_ n5_ n6_ n7_ n8_
      (try clear hb)
      (try clear hb2)
      (try clear hk)
      (try clear hi)
      refine hK.out _ _ ⟨(blk_cell BK213.out 0).trans rfl, (blk_cell BK208.out 0).trans rfl⟩ (fun hHeld => ?_)
      clear hK K
      refine norm_ (a' := ?_) ?_ ?_
      rotate_left
      ·show Act.put _ (some 20) _ = _
       simp only [Act.put, List.setIfInBounds_toArray, List.set_cons_zero, List.set_cons_succ, i64_w, i32_w]
       rfl
      exact norm_ spec_l01Bad.Z13 (hCont (v222) _ ⟨hHeld, spec_l01Bad.Z12, spec_l01Bad.Z10, spec_l01Bad.Z11, (eb BK208), (eb BK209), (eb BK213), (ei121 HI0), spec_l01Bad.Z3, (em121 HB)⟩)
    ·skip
     refine Kd.R_lit_step (Kd.int .i64) _ 2 ?hg (N := 22) ?hd (xs := ([(-1), 0, 1, 2, 25] : List Int)) (inner := [.int .i64 (-1), .int .i64 0, .int .i64 1, .int .i64 2, .int .i64 25]) (ok := fun _ => True) (okp := fun _ => True) ?hr ?hp (fun _ hk => hk) trivial (Below.refl _ _) (Nat.le_refl _) (by simp) ?_; (case hd => rfl); (case hg => rfl); (case hr => first | (go_simp; done) | (go_simp; rfl)); (case hp => exact (Reps.one (show Kd.M (Kd.int .i64) _ _ _ (-1) [.int .i64 (-1)] from rfl) (Reps.one (show Kd.M (Kd.int .i64) _ _ _ 0 [.int .i64 0] from rfl) (Reps.one (show Kd.M (Kd.int .i64) _ _ _ 1 [.int .i64 1] from rfl) (Reps.one (show Kd.M (Kd.int .i64) _ _ _ 2 [.int .i64 2] from rfl) (Reps.one (show Kd.M (Kd.int .i64) _ _ _ 25 [.int .i64 25] from rfl) (Reps.none _ _)))))))
     intro v222 w44 ho45 hb hg_ hnew_
     clear hg_ hnew_
     (first | rw [← Ny221.out] at ho45 | (simp only [Int.reduceToNat] at ho45; rw [← Ny221.out] at ho45))
     have n0_ := A_ (Kd.R_elder' (ea HO1_0) (Kd.R_base ho45) hb)
     have n1_ := A_ (Kd.R_elder' (ea HO212) (Kd.R_base ho45) hb)
     have n2_ := A_ (Kd.R_lower (Kd.R_new' (Kd.R_new' (Kd.R_newM (M := fun k_ => (P1_0_ k_ ∨ w.heap.size ≤ k_)) ho45 spec_l01Bad.Z0 (fun k_ h_ => .inr h_)) (Kd.R_lt (ea HO1_0))) (Kd.R_lt (ea HO212))) (below_size (em121 HB)))
     have n3_ := A_ (IsS121.below (ei121 HI0) hb)
     have n4_ := A_ (eB BK208 hb)
     have n5_ := A_ (eB BK209 hb)
     have n6_ := A_ (eB BK213 hb)
     have n7_ := A_ (Kept.below (S := (fun k_ => (P1_0_ k_) ∨ k_ = g)) spec_l01Bad.Z3 hb)
     have n8_ := A_ (below_step (em121 HB) hb)
     clear HO1_0
     clear HO212
     clear HI0
     clear BK208
     clear BK209
     clear BK213
     clear HK
     clear HB
     have HO1_0 := n0_
     have HO212 := n1_
     have HO223 := n2_
     have HI0 := n3_
     have BK208 := n4_
     have BK209 := n5_
     have BK213 := n6_
     have HK := n7_
     have HB := n8_
     clear n0_ n1_ n2_ n3_ n4_ n5_ n6_ n7_ n8_
     clear hb ho45
     refine hK.out _ _ ⟨(blk_cell BK213.out 0).trans rfl, (blk_cell BK208.out 0).trans rfl⟩ (fun hHeld => ?_)
     clear hK K
     refine norm_ (a' := ?_) ?_ ?_
     rotate_left
     ·show Act.put _ (some 22) _ = _
      simp only [Act.put, List.setIfInBounds_toArray, List.set_cons_zero, List.set_cons_succ, i64_w, i32_w]
      rfl
     refine one_ (i := 4) (N := some 19) #[true, true, true, true, true, false, true, true, false, false, false] rfl rfl (one_of HT_.out (by kernel_rfl)) (by decide) (fun K hK => ?_)
     refine goes_ Try.func102 (by kernel_rfl) rfl #[.agg #[.slice Ao29 l1_0.length co29]] (by rfl) rfl rfl eg ?_
     with_reducible refine (spec_l01N.calls _ _ l1_0 t217 _ ?side1 ?side2 A23.out).mono ?_
     (case side1 => repeat (first | exact (Kd.R_reads' HO1_0.out).2.2 | (with_reducible refine Kd.C_alloc ?_ _) | (with_reducible refine Kd.C_drewN ?_ _) | (with_reducible refine Kd.C_drew ?_)))
     (case side2 => exact (Kd.R_reads' HO1_0.out).2.1)
     rintro e w46 ⟨rfl, hb⟩
     refine ⟨_, rfl, ?_⟩
     have n0_ := A_ (Kd.R_below (ea HO1_0) hb)
     have n1_ := A_ (Kd.R_below (ea HO212) hb)
     have n2_ := A_ (Kd.R_below (ea HO223) hb)
     have n3_ := A_ (IsS121.below (ei121 HI0) hb)
     have n4_ := A_ (eB BK208 hb)
     have n5_ := A_ (eB BK209 hb)
     have n6_ := A_ (eB BK213 hb)
     have n7_ := A_ (Kept.below (S := (fun k_ => (P1_0_ k_) ∨ k_ = g)) spec_l01Bad.Z3 hb)
     have n8_ := A_ (below_step (em121 HB) hb)
     clear HO1_0
     clear HO212
     clear HO223
     clear HI0
     clear BK208
     clear BK209
     clear BK213
     clear HK
     clear HB
     have HO1_0 := n0_
     have HO212 := n1_
     have HO223 := n2_
     have HI0 := n3_
     have BK208 := n4_
     have BK209 := n5_
     have BK213 := n6_
     have HK := n7_
     have HB := n8_
     clear n0_ n1_ n2_ n3_ n4_ n5_ n6_ n7_ n8_
     (try clear hb)
     (try clear hb2)
     (try clear hk)
     (try clear hi)
     refine hK.out _ _ ⟨(blk_cell BK213.out 0).trans rfl, (blk_cell BK208.out 0).trans rfl⟩ (fun hHeld => ?_)
     clear hK K
     refine norm_ (a' := ?_) ?_ ?_
     rotate_left
     ·show Act.put _ (some 19) _ = _
      simp only [Act.put, List.setIfInBounds_toArray, List.set_cons_zero, List.set_cons_succ, i64_w, i32_w]
      rfl
     refine one_ (i := 5) (N := some 20) #[true, true, true, true, true, true, true, true, false, false, false] rfl rfl (one_of HT_.out (by kernel_rfl)) (by decide) (fun K hK => ?_)
     refine goes_ Try.func123 (by kernel_rfl) rfl #[.pointer (some ⟨g, 0, none⟩), .int .i64 t217] (by rfl) rfl rfl eg ?_
     with_reducible refine (spec_l01Next.calls g s0_0 t215 t216 t217 t218 t219 t220 w0 _ ?side1 ?side2 A24.out).mono ?_
     (case side1 => exact ei121 HI0)
     (case side2 => exact em121 HB)
     rintro e w47 ⟨rfl, hi, hb, hk⟩
     refine ⟨_, rfl, ?_⟩
     have n0_ := A_ (Kd.R_mono (Kd.R_keep (IsS121.apart (show IsS121 w0 _ g s0_0 t215 t216 from ei121 HI0) (ea HO1_0) (by decide)) hk (fun _ h => h.2)) (fun _ h => h.1))
     have n1_ := A_ (KeepBut.blk hk (g' := gb208) (o := .cells #[.slice Ao29 l1_0.length co29] 26 (0, 0)) (eb BK208) NB208_0.out (by simp))
     have n2_ := A_ (KeepBut.blk hk (g' := gb209) (o := .cells #[.slice none 0 0] 26 (0, 0)) (eb BK209) NB209_0.out (by simp))
     have n3_ := A_ (Kd.R_mono (Kd.R_keep (IsS121.apart (show IsS121 w0 _ g s0_0 t215 t216 from ei121 HI0) (ea HO212) (by decide)) hk (fun _ h => h.2)) (fun _ h => h.1))
     have n4_ := A_ (KeepBut.blk hk (g' := gb213) (o := .cells #[.slice Ao37 t210.length co37] 26 (0, 0)) (eb BK213) NB213_0.out (by simp))
     have n5_ := A_ (Kd.R_mono (Kd.R_keep (IsS121.apart (show IsS121 w0 _ g s0_0 t215 t216 from ei121 HI0) (ea HO223) (by decide)) hk (fun _ h => h.2)) (fun _ h => h.1))
     have n6_ := A_ (Kept.of_keep (S := (fun k_ => (P1_0_ k_) ∨ k_ = g)) spec_l01Bad.Z3 hk (.inl (.inr rfl)))
     have n7_ := A_ (hb)
     have n8_ := A_ (hi)
     clear HO1_0
     clear BK208
     clear BK209
     clear HO212
     clear BK213
     clear HO223
     clear HK
     clear HB
     clear HI0
     have HO1_0 := n0_
     have BK208 := n1_
     have BK209 := n2_
     have HO212 := n3_
     have BK213 := n4_
     have HO223 := n5_
     have HK := n6_
     have HB := n7_
     have HI0 := n8_
     clear n0_ n1_ n2_ n3_ n4_ n5_ n6_ n7_ n8_
     (try clear hb)
     (try clear hb2)
     (try clear hk)
     (try clear hi)
     refine hK.out _ _ ⟨(blk_cell BK213.out 0).trans rfl, (blk_cell BK208.out 0).trans rfl⟩ (fun hHeld => ?_)
     clear hK K
     refine norm_ (a' := ?_) ?_ ?_
     rotate_left
     ·show Act.put _ (some 20) _ = _
      simp only [Act.put, List.setIfInBounds_toArray, List.set_cons_zero, List.set_cons_succ, i64_w, i32_w]
      rfl
     exact norm_ spec_l01Bad.Z13 (hCont (v222) _ ⟨hHeld, spec_l01Bad.Z12, spec_l01Bad.Z10, spec_l01Bad.Z11, (eb BK208), (eb BK209), (eb BK213), (ei121 HI0), spec_l01Bad.Z3, (em121 HB)⟩)
   rintro v222 w48 ⟨hS_, h0_, h1_, h2_, h3_, h4_, h5_, h6_, h7_, h8_⟩
   have n0_ : Aside0 (Kd.R (Kd.int .i64) 2 w48 w0.heap.size (fun k_ => (P1_0_ k_ ∨ w.heap.size ≤ k_) ∧ some k_ ≠ (.slice Ao37 t210.length co37 : Value).ownBlock ∧ some k_ ≠ (v222 : Value).ownBlock) (.slice Ao29 l1_0.length co29) l1_0) := ⟨h0_⟩
   have n1_ : Aside0 (Kd.R (Kd.int .i64) 2 w48 w0.heap.size (fun k_ => (P1_0_ k_ ∨ w.heap.size ≤ k_) ∧ some k_ ≠ (.slice Ao29 l1_0.length co29 : Value).ownBlock ∧ some k_ ≠ (v222 : Value).ownBlock) (.slice Ao37 t210.length co37) t210) := ⟨h1_⟩
   have n2_ : Aside0 (Kd.R (Kd.int .i64) 2 w48 w0.heap.size (fun k_ => (P1_0_ k_ ∨ w.heap.size ≤ k_) ∧ some k_ ≠ (.slice Ao29 l1_0.length co29 : Value).ownBlock ∧ some k_ ≠ (.slice Ao37 t210.length co37 : Value).ownBlock) v222 y221) := ⟨h2_⟩
   have n3_ : Aside0 (w48.heap[gb208]? = some (.cells #[.slice Ao29 l1_0.length co29] 26 (0, 0))) := ⟨h3_⟩
   have n4_ : Aside0 (w48.heap[gb209]? = some (.cells #[.slice none 0 0] 26 (0, 0))) := ⟨h4_⟩
   have n5_ : Aside0 (w48.heap[gb213]? = some (.cells #[.slice Ao37 t210.length co37] 26 (0, 0))) := ⟨h5_⟩
   have n6_ : Aside0 (IsS121 w0 w48 g s0_0 t219 t220) := ⟨h6_⟩
   have n7_ : Aside0 (Kept w w48 (fun k_ => (P1_0_ k_) ∨ k_ = g)) := ⟨h7_⟩
   have n8_ : Aside0 (Below w0.heap.size w0 w48) := ⟨h8_⟩
   clear HO1_0
   clear HO212
   clear BK208
   clear BK209
   clear BK213
   clear HI0
   clear HK
   clear HB
   clear h0_ h1_ h2_ h3_ h4_ h5_ h6_ h7_ h8_
   have HO1_0 := n0_
   have HO212 := n1_
   have HO223 := n2_
   have BK208 := n3_
   have BK209 := n4_
   have BK213 := n5_
   have HI0 := n6_
   have HK := n7_
   have HB := n8_
   clear n0_ n1_ n2_ n3_ n4_ n5_ n6_ n7_ n8_
   have hHeld : w48.cell? ⟨gb213, 0, none⟩ = some (.slice Ao37 t210.length co37) ∧ w48.cell? ⟨gb208, 0, none⟩ = some (.slice Ao29 l1_0.length co29) := hS_
   obtain ⟨Ao49, co49, eo49⟩ := Kd.R_slice HO223.out
   (first | subst eo49 | (injection eo49 with f1_ f2_ f3_; have f4_ := f1_.symm; have f5_ := f3_.symm; clear f1_ f2_ f3_; subst f4_; subst f5_))
   refine norm_ (a' := ?_) ?_ ?_
   rotate_left
   ·simp only [putAll, Act.put, List.setIfInBounds_toArray, List.set_cons_zero, List.set_cons_succ]
    rfl
   refine one_ (i := 8) (N := some 23) #[true, true, true, true, true, true, true, true, true, false, false] rfl rfl (one_of HT_.out (by kernel_rfl)) (by decide) (fun K hK => ?_)
   refine goes_ Try.func147 (by kernel_rfl) rfl #[.pointer (some ⟨g, 0, none⟩), .slice Ao49 y221.length co49] (by rfl) rfl rfl eg ?_
   with_reducible refine (spec_l01Pick.calls g s0_0 t219 t220 _ _ y221 t224 t225 t226 w0 _ ?side1 ?side2 ?side3 ?side4 ?side5 A25.out).mono ?_
   (case side1 => exact ei121 HI0)
   (case side2 => exact em121 HB)
   (case side3 => repeat (first | exact (Kd.R_reads' HO223.out).2.2 | (with_reducible refine Kd.C_alloc ?_ _) | (with_reducible refine Kd.C_drewN ?_ _) | (with_reducible refine Kd.C_drew ?_)))
   (case side4 => exact (Kd.R_reads' HO223.out).2.1)
   (case side5 => exact far_slice (IsS121.own_ne HI0.out HO223.out (by decide)))
   rintro e w50 ⟨rfl, hi, hb, hk⟩
   refine ⟨_, rfl, ?_⟩
   have n0_ := A_ (Kd.R_mono (Kd.R_keep (IsS121.apart (show IsS121 w0 _ g s0_0 t219 t220 from ei121 HI0) (ea HO1_0) (by decide)) hk (fun _ h => h.2)) (fun _ h => h.1))
   have n1_ := A_ (KeepBut.blk hk (g' := gb208) (o := .cells #[.slice Ao29 l1_0.length co29] 26 (0, 0)) (eb BK208) NB208_0.out (by simp))
   have n2_ := A_ (KeepBut.blk hk (g' := gb209) (o := .cells #[.slice none 0 0] 26 (0, 0)) (eb BK209) NB209_0.out (by simp))
   have n3_ := A_ (Kd.R_mono (Kd.R_keep (IsS121.apart (show IsS121 w0 _ g s0_0 t219 t220 from ei121 HI0) (ea HO212) (by decide)) hk (fun _ h => h.2)) (fun _ h => h.1))
   have n4_ := A_ (KeepBut.blk hk (g' := gb213) (o := .cells #[.slice Ao37 t210.length co37] 26 (0, 0)) (eb BK213) NB213_0.out (by simp))
   have n5_ := A_ (Kd.R_mono (Kd.R_keep (IsS121.apart (show IsS121 w0 _ g s0_0 t219 t220 from ei121 HI0) (ea HO223) (by decide)) hk (fun _ h => h.2)) (fun _ h => h.1))
   have n6_ := A_ (Kept.of_keep (S := (fun k_ => (P1_0_ k_) ∨ k_ = g)) spec_l01Bad.Z3 hk (.inl (.inr rfl)))
   have n7_ := A_ (hb)
   have n8_ := A_ (hi)
   clear HO1_0
   clear BK208
   clear BK209
   clear HO212
   clear BK213
   clear HO223
   clear HK
   clear HB
   clear HI0
   have HO1_0 := n0_
   have BK208 := n1_
   have BK209 := n2_
   have HO212 := n3_
   have BK213 := n4_
   have HO223 := n5_
   have HK := n6_
   have HB := n7_
   have HI0 := n8_
   clear n0_ n1_ n2_ n3_ n4_ n5_ n6_ n7_ n8_
   (try clear hb)
   (try clear hb2)
   (try clear hk)
   (try clear hi)
   have p28 : 0 ≤ (t218 : Int) := of_decide_eq_true spec_l01Bad.Z14
   have q28 : (t218 : Int) < ((t210.length : Int) : Int) := of_decide_eq_true spec_l01Bad.Z14
   obtain ⟨go28, co28, eo28, gb28, gl28, cl28, HG28⟩ := Kd.R_form HO212.out (by omega)
   (first | cases eo28 | (injection eo28 with ea_ en_ ec_; (first | subst ea_ | (injection ea_ with ea_; subst ea_)); subst ec_; clear en_))
   have GB28 := A_ gb28
   have GG28 := A_ HG28
   clear gb28 gl28 HG28
   have HMgo28 := A_ (show (P1_0_ go28 ∨ w.heap.size ≤ go28) from (HO212.out.1 _ rfl).1)
   obtain ⟨hx28_0, hf28_0⟩ := Kd.R_celln 0 HO212.out (t218 : Int) p28 q28
   replace p28 := eq_true p28
   replace q28 := eq_true q28
   have HN0_go28 := A_ (show g ≠ go28 from by have h_ := IsS121.own_ne HI0.out HO212.out (by decide); intro e_; exact h_ (by rw [e_]; rfl))
   have HP51 := Kd.R_putn HO212.out (t218 : Int) t224
   rw [← Ny227.out] at HP51
   have HQ51 := A_ HP51
   clear HP51
   refine hK.out _ _ ⟨(blk_cell BK213.out 0).trans rfl, (blk_cell BK208.out 0).trans rfl⟩ (fun hHeld => ?_)
   clear hK K
   refine norm_ (a' := ?_) ?_ ?_
   rotate_left
   ·show Act.put _ (some 23) _ = _
    simp only [Act.put, List.setIfInBounds_toArray, List.set_cons_zero, List.set_cons_succ, i64_w, i32_w]
    rfl
   refine pure_ (i := 9) (N := some 24) (v := ?_) (a' := ?_) #[true, true, true, true, true, true, true, true, true, true, false] rfl rfl (any_of HT_.out (by kernel_rfl)) (fun _ _ _ h => h) (Or.inl ⟨by rfl, ?_⟩) ?_ ?_
   rotate_left
   ·intro w'
    go_simp
    with_reducible rfl
   rotate_left
   ·simp only [Act.put, List.setIfInBounds_toArray, List.set_cons_zero, List.set_cons_succ, i64_w, i32_w]
    rfl
   refine last_ (i := 10) (N := none) #[true, true, true, true, true, true, true, true, true, true, true] rfl rfl (one_of HT_.out (by kernel_rfl)) (by decide) (fun K hK => ?_)
   refine skip_ (w1 := ?_) (by rfl) rfl ?_ ?_
   rotate_left
   ·go_simp
    rfl
   refine hK.out _ _ ?_
   clear hK K
   refine done_ (done_of HT_.out (by kernel_rfl)) ?_
   have n0_ : Aside0 (Kd.R (Kd.int .i64) 2 (w50.setCell ⟨go28, (t218 : Int).toNat, none⟩ (.int .i64 t224)) w0.heap.size (fun k_ => (P1_0_ k_ ∨ w.heap.size ≤ k_) ∧ some k_ ≠ (.slice (some ⟨go28, 0, none⟩) t210.length co37 : Value).ownBlock ∧ some k_ ≠ (.slice Ao49 y221.length co49 : Value).ownBlock) (.slice Ao29 l1_0.length co29) l1_0) := ⟨by (with_reducible repeat (first | apply Kd.R_alloc | apply Kd.R_drewN | apply Kd.R_drew)); exact Kd.R_mono (Kd.R_far (p := ⟨go28, (t218 : Int).toNat, none⟩) (Kd.R_mono HO1_0.out (fun k_ hk => (⟨hk, fun e_ => hk.2.1 (by rw [e_]; rfl)⟩ : _ ∧ k_ ≠ go28))) (fun _ hk => hk.2) (.int .i64 t224)) (fun _ hk => ⟨hk.1.1, ⟨hk.1.2.1, hk.1.2.2⟩⟩)⟩
   have n1_ : Aside0 (Kd.R (Kd.int .i64) 2 (w50.setCell ⟨go28, (t218 : Int).toNat, none⟩ (.int .i64 t224)) w0.heap.size (fun k_ => (P1_0_ k_ ∨ w.heap.size ≤ k_) ∧ some k_ ≠ (.slice Ao29 l1_0.length co29 : Value).ownBlock ∧ some k_ ≠ (.slice Ao49 y221.length co49 : Value).ownBlock) (.slice (some ⟨go28, 0, none⟩) t210.length co37) y227) := ⟨ea HQ51⟩
   have n2_ : Aside0 (Kd.R (Kd.int .i64) 2 (w50.setCell ⟨go28, (t218 : Int).toNat, none⟩ (.int .i64 t224)) w0.heap.size (fun k_ => (P1_0_ k_ ∨ w.heap.size ≤ k_) ∧ some k_ ≠ (.slice Ao29 l1_0.length co29 : Value).ownBlock ∧ some k_ ≠ (.slice (some ⟨go28, 0, none⟩) t210.length co37 : Value).ownBlock) (.slice Ao49 y221.length co49) y221) := ⟨by (with_reducible repeat (first | apply Kd.R_alloc | apply Kd.R_drewN | apply Kd.R_drew)); exact Kd.R_mono (Kd.R_far (p := ⟨go28, (t218 : Int).toNat, none⟩) (Kd.R_mono HO223.out (fun k_ hk => (⟨hk, fun e_ => hk.2.2 (by rw [e_]; rfl)⟩ : _ ∧ k_ ≠ go28))) (fun _ hk => hk.2) (.int .i64 t224)) (fun _ hk => ⟨hk.1.1, ⟨hk.1.2.1, hk.1.2.2⟩⟩)⟩
   have n3_ : Aside0 ((w50.setCell ⟨go28, (t218 : Int).toNat, none⟩ (.int .i64 t224)).heap[gb208]? = some (.cells #[.slice Ao29 l1_0.length co29] 26 (0, 0))) := ⟨by (with_reducible repeat (first | refine blk_drewN ?_ _ | refine blk_drew ?_ | refine blk_alloc ?_ _)); refine blk_far ?_ (by have h_ := Kd.R_ne HO212.out BK208.out (by decide); intro e_; exact h_ (by rw [e_]; rfl)) _; (with_reducible repeat (first | refine blk_drewN ?_ _ | refine blk_drew ?_ | refine blk_alloc ?_ _)); exact BK208.out⟩
   have n4_ : Aside0 ((w50.setCell ⟨go28, (t218 : Int).toNat, none⟩ (.int .i64 t224)).heap[gb209]? = some (.cells #[.slice none 0 0] 26 (0, 0))) := ⟨by (with_reducible repeat (first | refine blk_drewN ?_ _ | refine blk_drew ?_ | refine blk_alloc ?_ _)); refine blk_far ?_ (by have h_ := Kd.R_ne HO212.out BK209.out (by decide); intro e_; exact h_ (by rw [e_]; rfl)) _; (with_reducible repeat (first | refine blk_drewN ?_ _ | refine blk_drew ?_ | refine blk_alloc ?_ _)); exact BK209.out⟩
   have n5_ : Aside0 ((w50.setCell ⟨go28, (t218 : Int).toNat, none⟩ (.int .i64 t224)).heap[gb213]? = some (.cells #[.slice (some ⟨go28, 0, none⟩) t210.length co37] 26 (0, 0))) := ⟨by (with_reducible repeat (first | refine blk_drewN ?_ _ | refine blk_drew ?_ | refine blk_alloc ?_ _)); refine blk_far ?_ (by have h_ := Kd.R_ne HO212.out BK213.out (by decide); intro e_; exact h_ (by rw [e_]; rfl)) _; (with_reducible repeat (first | refine blk_drewN ?_ _ | refine blk_drew ?_ | refine blk_alloc ?_ _)); exact BK213.out⟩
   have n6_ : Aside0 (IsS121 w0 (w50.setCell ⟨go28, (t218 : Int).toNat, none⟩ (.int .i64 t224)) g s0_0 t225 t226) := ⟨ei121 HI0⟩
   have n7_ : Aside0 (Kept w (w50.setCell ⟨go28, (t218 : Int).toNat, none⟩ (.int .i64 t224)) (fun k_ => (P1_0_ k_) ∨ k_ = g)) := ⟨by repeat (first | (with_reducible first | exact HK.out | apply Kept.alloc | apply Kept.drewN | apply Kept.drew | refine Kept.setCell ?_ (Or.imp_left Or.inl HMgo28.out) _ | refine Kept.setCell ?_ (.inl (.inr rfl)) _ | refine Kept.setCell ?_ (.inr GW208.out) _ | refine Kept.setCell ?_ (.inr GW209.out) _ | refine Kept.setCell ?_ (.inr GW213.out) _) | exact HK.out)⟩
   have n8_ : Aside0 (Below w0.heap.size w0 (w50.setCell ⟨go28, (t218 : Int).toNat, none⟩ (.int .i64 t224))) := ⟨em121 HB⟩
   (try clear HO1_0)
   (try clear HO212)
   (try clear HO223)
   (try clear BK208)
   (try clear BK209)
   (try clear BK213)
   (try clear HI0)
   (try clear HK)
   (try clear HB)
   generalize (w50.setCell ⟨go28, (t218 : Int).toNat, none⟩ (.int .i64 t224)) = w52 at n0_ n1_ n2_ n3_ n4_ n5_ n6_ n7_ n8_ ⊢
   have HO1_0 := n0_
   have HO212 := n1_
   have HO223 := n2_
   have BK208 := n3_
   have BK209 := n4_
   have BK213 := n5_
   have HI0 := n6_
   have HK := n7_
   have HB := n8_
   clear n0_ n1_ n2_ n3_ n4_ n5_ n6_ n7_ n8_
   have hcz53_0 : w52.cell? ⟨gb213, 0, none⟩ = some (.slice (some ⟨go28, 0, none⟩) t210.length co37) := (blk_cell BK213.out 0).trans rfl
   have hfz53_0 := blk_frozen BK213.out 0
   have hnb54 := NB209_0.out
   have hnc54 := NB0_209.out
   have hcz55_0 : w52.cell? ⟨gb209, 0, none⟩ = some (.slice none 0 0) := (blk_cell BK209.out 0).trans rfl
   have hfz55_0 := blk_frozen BK209.out 0
   try go_wp2
   refine bodyPost_ret (results_cell_row rfl _ _ gb209 26 #[.slice (some ⟨go28, 0, none⟩) t210.length co37] (0, 0) _ rfl spec_l01Bad.Z4 Try.underlying26 rfl (by kernel_rfl)) rfl ?_
   exact ⟨_, er, by (with_reducible repeat (first | apply Kd.R_alloc | apply Kd.R_drewN | apply Kd.R_drew)); exact Kd.R_mono (Kd.R_far (p := ⟨gb209, 0, none⟩) (Kd.R_types HO212.out BK209.out (by decide)) (fun _ hk => hk.2) (.slice (some ⟨go28, 0, none⟩) t210.length co37)) (fun _ hk => hk.1.1), ei121 HI0, em121 HB, by repeat (first | (with_reducible first | exact HK.out | apply Kept.alloc | apply Kept.drewN | apply Kept.drew | refine Kept.setCell ?_ (.inl (.inr rfl)) _ | refine Kept.setCell ?_ (.inr GW208.out) _ | refine Kept.setCell ?_ (.inr GW209.out) _ | refine Kept.setCell ?_ (.inr GW213.out) _) | exact HK.out)⟩
  ·rw [if_neg c22] at H
   have c22b0 : (t214 == 1) = false := beq_eq_false_iff_ne.mpr c22
   have c22b1 : (t214 != 1) = true := bne_iff_ne.mpr c22
   by_cases c56 : t214 = 2
   ·rw [if_pos c56] at H
    have c56b0 : (t214 == 2) = true := beq_iff_eq.mpr c56
    have c56b1 : (t214 != 2) = false := bne_eq_false_iff_eq.mpr c56
    clear c56
    by_cases c57 : t210.length < 17592186044416
    rotate_left
    ·rw [if_neg c57] at H
     exact absurd H (by simp)
    rw [if_pos c57] at H
    have LMc57 := A_ c57
    clear c57
    obtain ⟨y228, hy228⟩ : ∃ y_ : List Int, y_ = (t210 ++ [0]) := ⟨_, rfl⟩
    replace H : (some (y228, t215, t216)) = some (r1, r2, r3) := by first | (rw [hy228]; with_reducible exact H) | (have H2_ := (Option.bind_some _ _).symm.trans H; rw [hy228]; with_reducible exact H2_) | (have H2_ := (Option.bind_some _ _).symm.trans H; with_reducible exact H2_) | with_reducible exact H | (rw [hy228]; exact H) | exact H
    have Ny228 := A_ hy228
    clear hy228
    simp only [Option.some.injEq, Prod.mk.injEq] at H
    obtain ⟨rfl, rfl, rfl⟩ := H
    obtain ⟨Ao58, co58, eo58⟩ := Kd.R_slice HO1_0.out
    subst eo58
    go_enter Try.func128, Try.ntmps128
    go_wp2_with (first | ((with_reducible refine gate_dst (N := 3) rfl ?_); refine box_event ?hg (N := 3) ?hd (cs := #[.slice Ao58 l1_0.length co58]) (t := 26) ?hr ?_; (case hd => rfl); (case hg => rfl); (case hr => first | (go_simp; done) | (go_simp; rfl)); intro gb208 hg w59 hbox hb; have n0_ := A_ (Kd.R_below (ea HO1_0) hb); have n1_ := A_ (IsS121.below (ei121 HI0) hb); have n2_ := A_ (Kept.below (S := (fun k_ => (P1_0_ k_) ∨ k_ = g)) spec_l01Bad.Z9 hb); have n3_ := A_ (below_step (em121 HB) hb); have n4_ := A_ (hbox); have n5_ := A_ ((by rw [hg]; exact spec_l01Bad.Z6 : w.heap.size ≤ gb208)); have n6_ := A_ ((by rw [hg]; exact (below_size (em121 HB)) : w0.heap.size ≤ gb208)); have n7_ := A_ ((by rw [hg]; exact Nat.ne_of_lt (IsS121.lt (show IsS121 w0 _ g s0_0 s0_1 s0_2 from ei121 HI0)) : g ≠ gb208)); have n8_ := A_ ((by rw [hg]; exact Nat.ne_of_gt (IsS121.lt (show IsS121 w0 _ g s0_0 s0_1 s0_2 from ei121 HI0)) : gb208 ≠ g)); clear HO1_0; clear HI0; clear HK; clear HB; have HO1_0 := n0_; have HI0 := n1_; have HK := n2_; have HB := n3_; have BK208 := n4_; have GW208 := n5_; have GE208 := n6_; have NB0_208 := n7_; have NB208_0 := n8_; clear n0_ n1_ n2_ n3_ n4_ n5_ n6_ n7_ n8_; clear hb hbox hg) | ((with_reducible refine gate_dst (N := 4) rfl ?_); refine box_event ?hg (N := 4) ?hd (cs := #[.slice none 0 0]) (t := 26) ?hr ?_; (case hd => rfl); (case hg => rfl); (case hr => first | (go_simp; done) | (go_simp; rfl)); intro gb209 hg w60 hbox hb; have n0_ := A_ (Kd.R_below (ea HO1_0) hb); have n1_ := A_ (IsS121.below (ei121 HI0) hb); have n2_ := A_ (eB BK208 hb); have n3_ := A_ (Kept.below (S := (fun k_ => (P1_0_ k_) ∨ k_ = g)) spec_l01Bad.Z8 hb); have n4_ := A_ (below_step (em121 HB) hb); have n5_ := A_ (hbox); have n6_ := A_ ((by rw [hg]; exact spec_l01Bad.Z2 : w.heap.size ≤ gb209)); have n7_ := A_ ((by rw [hg]; exact (below_size (em121 HB)) : w0.heap.size ≤ gb209)); have n8_ := A_ ((by rw [hg]; exact Nat.ne_of_lt (eL BK208) : gb208 ≠ gb209)); have n9_ := A_ ((by rw [hg]; exact Nat.ne_of_gt (eL BK208) : gb209 ≠ gb208)); have n10_ := A_ ((by rw [hg]; exact Nat.ne_of_lt (IsS121.lt (show IsS121 w0 _ g s0_0 s0_1 s0_2 from ei121 HI0)) : g ≠ gb209)); have n11_ := A_ ((by rw [hg]; exact Nat.ne_of_gt (IsS121.lt (show IsS121 w0 _ g s0_0 s0_1 s0_2 from ei121 HI0)) : gb209 ≠ g)); clear HO1_0; clear HI0; clear BK208; clear HK; clear HB; have HO1_0 := n0_; have HI0 := n1_; have BK208 := n2_; have HK := n3_; have HB := n4_; have BK209 := n5_; have GW209 := n6_; have GE209 := n7_; have NB208_209 := n8_; have NB209_208 := n9_; have NB0_209 := n10_; have NB209_0 := n11_; clear n0_ n1_ n2_ n3_ n4_ n5_ n6_ n7_ n8_ n9_ n10_ n11_; clear hb hbox hg; have hnb61 := NB208_209.out; have hnc61 := NB209_208.out; have hnb62 := NB208_0.out; have hnc62 := NB0_208.out; have hcz63_0 : w60.cell? ⟨gb208, 0, none⟩ = some (.slice Ao58 l1_0.length co58) := (blk_cell BK208.out 0).trans rfl; have hfz63_0 := blk_frozen BK208.out 0) | ((with_reducible refine gate_callee (f := 169) rfl ?_); refine goesL_ (some 7) rfl rfl Try.func169 (by kernel_rfl) rfl #[.agg #[.slice Ao58 l1_0.length co58]] rfl eg ?_; (with_reducible refine (spec_l01Copy.calls _ _ l1_0 t210 _ ?side1 ?side2 A3.out).mono ?_); (case side1 => repeat (first | exact (Kd.R_reads' HO1_0.out).2.2 | (with_reducible refine Kd.C_alloc ?_ _) | (with_reducible refine Kd.C_drewN ?_ _) | (with_reducible refine Kd.C_drew ?_))); (case side2 => exact (Kd.R_reads' HO1_0.out).2.1); rintro e w64 ⟨v211, rfl, ho0, hb⟩; refine ⟨_, rfl, ?_⟩; have n0_ := A_ (Kd.R_elder' (ea HO1_0) (Kd.R_base ho0) hb); have n1_ := A_ (Kd.R_lower (Kd.R_new' (Kd.R_newM (M := fun k_ => (P1_0_ k_ ∨ w.heap.size ≤ k_)) ho0 spec_l01Bad.Z1 (fun k_ h_ => .inr h_)) (Kd.R_lt (ea HO1_0))) (below_size (em121 HB))); have n2_ := A_ (IsS121.below (ei121 HI0) hb); have n3_ := A_ (eB BK208 hb); have n4_ := A_ (eB BK209 hb); have n5_ := A_ (Kept.below (S := (fun k_ => (P1_0_ k_) ∨ k_ = g)) spec_l01Bad.Z7 hb); have n6_ := A_ (below_step (em121 HB) hb); clear HO1_0; clear HI0; clear BK208; clear BK209; clear HK; clear HB; have HO1_0 := n0_; have HO212 := n1_; have HI0 := n2_; have BK208 := n3_; have BK209 := n4_; have HK := n5_; have HB := n6_; clear n0_ n1_ n2_ n3_ n4_ n5_ n6_; (try clear hb); (try clear hb2); (try clear hk); (try clear hi); (try clear ho0)) | ((with_reducible refine gate_dst (N := 5) rfl ?_); refine box_event ?hg (N := 5) ?hd (cs := #[.slice none 0 0]) (t := 26) ?hr ?_; (case hd => rfl); (case hg => rfl); (case hr => first | (go_simp; done) | (go_simp; rfl)); intro gb213 hg w65 hbox hb; have n0_ := A_ (Kd.R_below (ea HO1_0) hb); have n1_ := A_ (Kd.R_below (ea HO212) hb); have n2_ := A_ (IsS121.below (ei121 HI0) hb); have n3_ := A_ (eB BK208 hb); have n4_ := A_ (eB BK209 hb); have n5_ := A_ (Kept.below (S := (fun k_ => (P1_0_ k_) ∨ k_ = g)) spec_l01Bad.Z7 hb); have n6_ := A_ (below_step (em121 HB) hb); have n7_ := A_ (hbox); have n8_ := A_ ((by rw [hg]; exact spec_l01Bad.Z1 : w.heap.size ≤ gb213)); have n9_ := A_ ((by rw [hg]; exact (below_size (em121 HB)) : w0.heap.size ≤ gb213)); have n10_ := A_ ((by rw [hg]; exact Nat.ne_of_lt (eL BK208) : gb208 ≠ gb213)); have n11_ := A_ ((by rw [hg]; exact Nat.ne_of_gt (eL BK208) : gb213 ≠ gb208)); have n12_ := A_ ((by rw [hg]; exact Nat.ne_of_lt (eL BK209) : gb209 ≠ gb213)); have n13_ := A_ ((by rw [hg]; exact Nat.ne_of_gt (eL BK209) : gb213 ≠ gb209)); have n14_ := A_ ((by rw [hg]; exact Nat.ne_of_lt (IsS121.lt (show IsS121 w0 _ g s0_0 s0_1 s0_2 from ei121 HI0)) : g ≠ gb213)); have n15_ := A_ ((by rw [hg]; exact Nat.ne_of_gt (IsS121.lt (show IsS121 w0 _ g s0_0 s0_1 s0_2 from ei121 HI0)) : gb213 ≠ g)); clear HO1_0; clear HO212; clear HI0; clear BK208; clear BK209; clear HK; clear HB; have HO1_0 := n0_; have HO212 := n1_; have HI0 := n2_; have BK208 := n3_; have BK209 := n4_; have HK := n5_; have HB := n6_; have BK213 := n7_; have GW213 := n8_; have GE213 := n9_; have NB208_213 := n10_; have NB213_208 := n11_; have NB209_213 := n12_; have NB213_209 := n13_; have NB0_213 := n14_; have NB213_0 := n15_; clear n0_ n1_ n2_ n3_ n4_ n5_ n6_ n7_ n8_ n9_ n10_ n11_ n12_ n13_ n14_ n15_; clear hb hbox hg; obtain ⟨Ao66, co66, eo66⟩ := Kd.R_slice HO212.out; subst eo66; have hnb67 := NB213_208.out; have hnc67 := NB208_213.out; have hnb68 := NB213_209.out; have hnc68 := NB209_213.out; have hnb69 := NB213_0.out; have hnc69 := NB0_213.out; have hcz70_0 : w65.cell? ⟨gb213, 0, none⟩ = some (.slice none 0 0) := (blk_cell BK213.out 0).trans rfl; have hfz70_0 := blk_frozen BK213.out 0) | ((with_reducible refine gate_callee (f := 123) rfl ?_); refine goesL_ (some 9) rfl rfl Try.func123 (by kernel_rfl) rfl #[.pointer (some ⟨g, 0, none⟩), .int .i64 50] rfl eg ?_; (with_reducible refine (spec_l01Next.calls g s0_0 s0_1 s0_2 50 t214 t215 t216 w0 _ ?side1 ?side2 A4.out).mono ?_); (case side1 => exact ei121 HI0); (case side2 => exact em121 HB); rintro e w71 ⟨rfl, hi, hb, hk⟩; refine ⟨_, rfl, ?_⟩; have n0_ := A_ (Kd.R_mono (Kd.R_keep (IsS121.apart (show IsS121 w0 _ g s0_0 s0_1 s0_2 from ei121 HI0) (by (with_reducible repeat (first | apply Kd.R_alloc | apply Kd.R_drewN | apply Kd.R_drew)); exact (Kd.R_mono (Kd.R_far (p := ⟨gb213, 0, none⟩) (Kd.R_types HO1_0.out BK213.out (by decide)) (fun _ hk => hk.2) (.slice Ao66 t210.length co66)) (fun _ h_ => h_.1))) (by decide)) hk (fun _ h => h.2)) (fun _ h => h.1)); have n1_ := A_ (KeepBut.blk hk (g' := gb208) (o := .cells #[.slice Ao58 l1_0.length co58] 26 (0, 0)) (eb BK208) NB208_0.out (by simp)); have n2_ := A_ (KeepBut.blk hk (g' := gb209) (o := .cells #[.slice none 0 0] 26 (0, 0)) (eb BK209) NB209_0.out (by simp)); have n3_ := A_ (Kd.R_mono (Kd.R_keep (IsS121.apart (show IsS121 w0 _ g s0_0 s0_1 s0_2 from ei121 HI0) (by (with_reducible repeat (first | apply Kd.R_alloc | apply Kd.R_drewN | apply Kd.R_drew)); exact (Kd.R_mono (Kd.R_far (p := ⟨gb213, 0, none⟩) (Kd.R_types HO212.out BK213.out (by decide)) (fun _ hk => hk.2) (.slice Ao66 t210.length co66)) (fun _ h_ => h_.1))) (by decide)) hk (fun _ h => h.2)) (fun _ h => h.1)); have n4_ := A_ (KeepBut.blk hk (g' := gb213) (o := .cells #[.slice Ao66 t210.length co66] 26 (0, 0)) spec_l01Bad.Z5 NB213_0.out (by simp)); have n5_ := A_ (Kept.of_keep (S := (fun k_ => (P1_0_ k_) ∨ k_ = g)) spec_l01Bad.Z3 hk (.inl (.inr rfl))); have n6_ := A_ (hb); have n7_ := A_ (hi); clear HO1_0; clear BK208; clear BK209; clear HO212; clear BK213; clear HK; clear HB; clear HI0; have HO1_0 := n0_; have BK208 := n1_; have BK209 := n2_; have HO212 := n3_; have BK213 := n4_; have HK := n5_; have HB := n6_; have HI0 := n7_; clear n0_ n1_ n2_ n3_ n4_ n5_ n6_ n7_; (try clear hb); (try clear hb2); (try clear hk); (try clear hi); have hcz72_0 : w71.cell? ⟨gb213, 0, none⟩ = some (.slice Ao66 t210.length co66) := (blk_cell BK213.out 0).trans rfl; have hfz72_0 := blk_frozen BK213.out 0) | ((with_reducible refine gate_builtin (b := .append) (xs := #[.tmp 29, .tmp 30]) rfl ?_); at_builtin; refine Kd.R_append (Kd.int .i64) (w0 := w0) w0.heap.size rfl (.tmp 29) (.tmp 30) 24 2 (.int .i64 0) 8 rfl Try.underlying24 info2 rfl (by decide) (by omega) (.slice Ao66 t210.length co66) t210 0 [.int .i64 0] (fun k_ => (P1_0_ k_ ∨ w.heap.size ≤ k_) ∧ some k_ ≠ (.slice Ao58 l1_0.length co58 : Value).ownBlock) (fun _ => False) rfl rfl ?aP (fun _ hk => hk.elim) ?aF ?aO ?aB ?aS ?aL ?_; (case aP => exact rfl); (case aB => exact (em121 HB)); (case aF => exact (fun k_ hk => ⟨(.inr (Nat.le_trans spec_l01Bad.Z0 hk)), Kd.fresh' (Kd.R_lt (ea HO1_0)) k_ hk⟩)); (case aO => exact (by (with_reducible repeat (first | apply Kd.R_alloc | apply Kd.R_drewN | apply Kd.R_drew)); exact Kd.R_mono HO212.out (fun _ hk => ⟨hk.1.1, hk.2⟩))); (case aS => exact (below_size (em121 HB))); (case aL => have := LMc57.out; omega); intro v229 w73 ho hb hg hat; rw [← Ny228.out] at ho; have n0_ := A_ (IsS121.grown (ei121 HI0) hg (IsS121.own_ne HI0.out HO212.out (by decide))); have n1_ := A_ (Kd.R_after (ok := (fun k_ => (P1_0_ k_ ∨ w.heap.size ≤ k_))) (ea HO1_0) hg hat); have n2_ := A_ (blk_grown (g := gb208) (o := .cells #[.slice Ao58 l1_0.length co58] 26 (0, 0)) (eb BK208) hg (Kd.R_ne HO212.out BK208.out (by decide))); have n3_ := A_ (blk_grown (g := gb209) (o := .cells #[.slice none 0 0] 26 (0, 0)) (eb BK209) hg (Kd.R_ne HO212.out BK209.out (by decide))); have n4_ := A_ (blk_grown (g := gb213) (o := .cells #[.slice Ao66 t210.length co66] 26 (0, 0)) (eb BK213) hg (Kd.R_ne HO212.out BK213.out (by decide))); have n5_ := A_ (hb); have n6_ := A_ (Kept.of_grown (S := (fun k_ => (P1_0_ k_) ∨ k_ = g)) hg spec_l01Bad.Z3 (fun k_ e_ => Or.imp_left Or.inl ((HO212.out.1 k_ e_).1.1))); have n7_ := A_ (ho); clear HI0; clear HO1_0; clear BK208; clear BK209; clear BK213; clear HB; clear HK; clear HO212; have HI0 := n0_; have HO1_0 := n1_; have BK208 := n2_; have BK209 := n3_; have BK213 := n4_; have HB := n5_; have HK := n6_; have HO230 := n7_; clear n0_ n1_ n2_ n3_ n4_ n5_ n6_ n7_; clear ho hb hg hat; obtain ⟨Ao74, co74, eo74⟩ := Kd.R_slice HO230.out; subst eo74; have hcz75_0 : w73.cell? ⟨gb213, 0, none⟩ = some (.slice Ao66 t210.length co66) := (blk_cell BK213.out 0).trans rfl; have hfz75_0 := blk_frozen BK213.out 0; have hnb76 := NB209_0.out; have hnc76 := NB0_209.out; have hcz77_0 : w73.cell? ⟨gb209, 0, none⟩ = some (.slice none 0 0) := (blk_cell BK209.out 0).trans rfl; have hfz77_0 := blk_frozen BK209.out 0))
    refine bodyPost_ret (results_cell_row rfl _ _ gb209 26 #[.slice Ao74 y228.length co74] (0, 0) _ rfl (by (with_reducible repeat (first | refine blk_drewN ?_ _ | refine blk_drew ?_ | refine blk_alloc ?_ _)); refine blk_put (cs := #[.slice none 0 0]) ?_ 0 _ rfl; (with_reducible repeat (first | refine blk_drewN ?_ _ | refine blk_drew ?_ | refine blk_alloc ?_ _)); refine blk_far ?_ NB209_213.out _; (with_reducible repeat (first | refine blk_drewN ?_ _ | refine blk_drew ?_ | refine blk_alloc ?_ _)); exact BK209.out) Try.underlying26 rfl (by kernel_rfl)) rfl ?_
    exact ⟨_, er, by (with_reducible repeat (first | apply Kd.R_alloc | apply Kd.R_drewN | apply Kd.R_drew)); exact Kd.R_mono (Kd.R_far (p := ⟨gb209, 0, none⟩) (Kd.R_far (p := ⟨gb213, 0, none⟩) (Kd.R_types (Kd.R_types HO230.out BK213.out (by decide)) BK209.out (by decide)) (fun _ hk => hk.1.2) (.slice Ao74 y228.length co74)) (fun _ hk => hk.2) (.slice Ao74 y228.length co74)) (fun _ hk => hk.1.1.1), ei121 HI0, em121 HB, by repeat (first | (with_reducible first | exact HK.out | apply Kept.alloc | apply Kept.drewN | apply Kept.drew | refine Kept.setCell ?_ (.inl (.inr rfl)) _ | refine Kept.setCell ?_ (.inr GW208.out) _ | refine Kept.setCell ?_ (.inr GW209.out) _ | refine Kept.setCell ?_ (.inr GW213.out) _) | exact HK.out)⟩
   ·rw [if_neg c56] at H
    have c56b0 : (t214 == 2) = false := beq_eq_false_iff_ne.mpr c56
    have c56b1 : (t214 != 2) = true := bne_iff_ne.mpr c56
    simp only [Option.some.injEq, Prod.mk.injEq] at H
    obtain ⟨rfl, rfl, rfl⟩ := H
    obtain ⟨Ao78, co78, eo78⟩ := Kd.R_slice HO1_0.out
    subst eo78
    go_enter Try.func128, Try.ntmps128
    go_wp2_with (first | ((with_reducible refine gate_dst (N := 3) rfl ?_); refine box_event ?hg (N := 3) ?hd (cs := #[.slice Ao78 l1_0.length co78]) (t := 26) ?hr ?_; (case hd => rfl); (case hg => rfl); (case hr => first | (go_simp; done) | (go_simp; rfl)); intro gb208 hg w79 hbox hb; have n0_ := A_ (Kd.R_below (ea HO1_0) hb); have n1_ := A_ (IsS121.below (ei121 HI0) hb); have n2_ := A_ (Kept.below (S := (fun k_ => (P1_0_ k_) ∨ k_ = g)) spec_l01Bad.Z9 hb); have n3_ := A_ (below_step (em121 HB) hb); have n4_ := A_ (hbox); have n5_ := A_ ((by rw [hg]; exact spec_l01Bad.Z6 : w.heap.size ≤ gb208)); have n6_ := A_ ((by rw [hg]; exact (below_size (em121 HB)) : w0.heap.size ≤ gb208)); have n7_ := A_ ((by rw [hg]; exact Nat.ne_of_lt (IsS121.lt (show IsS121 w0 _ g s0_0 s0_1 s0_2 from ei121 HI0)) : g ≠ gb208)); have n8_ := A_ ((by rw [hg]; exact Nat.ne_of_gt (IsS121.lt (show IsS121 w0 _ g s0_0 s0_1 s0_2 from ei121 HI0)) : gb208 ≠ g)); clear HO1_0; clear HI0; clear HK; clear HB; have HO1_0 := n0_; have HI0 := n1_; have HK := n2_; have HB := n3_; have BK208 := n4_; have GW208 := n5_; have GE208 := n6_; have NB0_208 := n7_; have NB208_0 := n8_; clear n0_ n1_ n2_ n3_ n4_ n5_ n6_ n7_ n8_; clear hb hbox hg) | ((with_reducible refine gate_dst (N := 4) rfl ?_); refine box_event ?hg (N := 4) ?hd (cs := #[.slice none 0 0]) (t := 26) ?hr ?_; (case hd => rfl); (case hg => rfl); (case hr => first | (go_simp; done) | (go_simp; rfl)); intro gb209 hg w80 hbox hb; have n0_ := A_ (Kd.R_below (ea HO1_0) hb); have n1_ := A_ (IsS121.below (ei121 HI0) hb); have n2_ := A_ (eB BK208 hb); have n3_ := A_ (Kept.below (S := (fun k_ => (P1_0_ k_) ∨ k_ = g)) spec_l01Bad.Z8 hb); have n4_ := A_ (below_step (em121 HB) hb); have n5_ := A_ (hbox); have n6_ := A_ ((by rw [hg]; exact spec_l01Bad.Z2 : w.heap.size ≤ gb209)); have n7_ := A_ ((by rw [hg]; exact (below_size (em121 HB)) : w0.heap.size ≤ gb209)); have n8_ := A_ ((by rw [hg]; exact Nat.ne_of_lt (eL BK208) : gb208 ≠ gb209)); have n9_ := A_ ((by rw [hg]; exact Nat.ne_of_gt (eL BK208) : gb209 ≠ gb208)); have n10_ := A_ ((by rw [hg]; exact Nat.ne_of_lt (IsS121.lt (show IsS121 w0 _ g s0_0 s0_1 s0_2 from ei121 HI0)) : g ≠ gb209)); have n11_ := A_ ((by rw [hg]; exact Nat.ne_of_gt (IsS121.lt (show IsS121 w0 _ g s0_0 s0_1 s0_2 from ei121 HI0)) : gb209 ≠ g)); clear HO1_0; clear HI0; clear BK208; clear HK; clear HB; have HO1_0 := n0_; have HI0 := n1_; have BK208 := n2_; have HK := n3_; have HB := n4_; have BK209 := n5_; have GW209 := n6_; have GE209 := n7_; have NB208_209 := n8_; have NB209_208 := n9_; have NB0_209 := n10_; have NB209_0 := n11_; clear n0_ n1_ n2_ n3_ n4_ n5_ n6_ n7_ n8_ n9_ n10_ n11_; clear hb hbox hg; have hnb81 := NB208_209.out; have hnc81 := NB209_208.out; have hnb82 := NB208_0.out; have hnc82 := NB0_208.out; have hcz83_0 : w80.cell? ⟨gb208, 0, none⟩ = some (.slice Ao78 l1_0.length co78) := (blk_cell BK208.out 0).trans rfl; have hfz83_0 := blk_frozen BK208.out 0) | ((with_reducible refine gate_callee (f := 169) rfl ?_); refine goesL_ (some 7) rfl rfl Try.func169 (by kernel_rfl) rfl #[.agg #[.slice Ao78 l1_0.length co78]] rfl eg ?_; (with_reducible refine (spec_l01Copy.calls _ _ l1_0 t210 _ ?side1 ?side2 A3.out).mono ?_); (case side1 => repeat (first | exact (Kd.R_reads' HO1_0.out).2.2 | (with_reducible refine Kd.C_alloc ?_ _) | (with_reducible refine Kd.C_drewN ?_ _) | (with_reducible refine Kd.C_drew ?_))); (case side2 => exact (Kd.R_reads' HO1_0.out).2.1); rintro e w84 ⟨v211, rfl, ho0, hb⟩; refine ⟨_, rfl, ?_⟩; have n0_ := A_ (Kd.R_elder' (ea HO1_0) (Kd.R_base ho0) hb); have n1_ := A_ (Kd.R_lower (Kd.R_new' (Kd.R_newM (M := fun k_ => (P1_0_ k_ ∨ w.heap.size ≤ k_)) ho0 spec_l01Bad.Z1 (fun k_ h_ => .inr h_)) (Kd.R_lt (ea HO1_0))) (below_size (em121 HB))); have n2_ := A_ (IsS121.below (ei121 HI0) hb); have n3_ := A_ (eB BK208 hb); have n4_ := A_ (eB BK209 hb); have n5_ := A_ (Kept.below (S := (fun k_ => (P1_0_ k_) ∨ k_ = g)) spec_l01Bad.Z7 hb); have n6_ := A_ (below_step (em121 HB) hb); clear HO1_0; clear HI0; clear BK208; clear BK209; clear HK; clear HB; have HO1_0 := n0_; have HO212 := n1_; have HI0 := n2_; have BK208 := n3_; have BK209 := n4_; have HK := n5_; have HB := n6_; clear n0_ n1_ n2_ n3_ n4_ n5_ n6_; (try clear hb); (try clear hb2); (try clear hk); (try clear hi); (try clear ho0)) | ((with_reducible refine gate_dst (N := 5) rfl ?_); refine box_event ?hg (N := 5) ?hd (cs := #[.slice none 0 0]) (t := 26) ?hr ?_; (case hd => rfl); (case hg => rfl); (case hr => first | (go_simp; done) | (go_simp; rfl)); intro gb213 hg w85 hbox hb; have n0_ := A_ (Kd.R_below (ea HO1_0) hb); have n1_ := A_ (Kd.R_below (ea HO212) hb); have n2_ := A_ (IsS121.below (ei121 HI0) hb); have n3_ := A_ (eB BK208 hb); have n4_ := A_ (eB BK209 hb); have n5_ := A_ (Kept.below (S := (fun k_ => (P1_0_ k_) ∨ k_ = g)) spec_l01Bad.Z7 hb); have n6_ := A_ (below_step (em121 HB) hb); have n7_ := A_ (hbox); have n8_ := A_ ((by rw [hg]; exact spec_l01Bad.Z1 : w.heap.size ≤ gb213)); have n9_ := A_ ((by rw [hg]; exact (below_size (em121 HB)) : w0.heap.size ≤ gb213)); have n10_ := A_ ((by rw [hg]; exact Nat.ne_of_lt (eL BK208) : gb208 ≠ gb213)); have n11_ := A_ ((by rw [hg]; exact Nat.ne_of_gt (eL BK208) : gb213 ≠ gb208)); have n12_ := A_ ((by rw [hg]; exact Nat.ne_of_lt (eL BK209) : gb209 ≠ gb213)); have n13_ := A_ ((by rw [hg]; exact Nat.ne_of_gt (eL BK209) : gb213 ≠ gb209)); have n14_ := A_ ((by rw [hg]; exact Nat.ne_of_lt (IsS121.lt (show IsS121 w0 _ g s0_0 s0_1 s0_2 from ei121 HI0)) : g ≠ gb213)); have n15_ := A_ ((by rw [hg]; exact Nat.ne_of_gt (IsS121.lt (show IsS121 w0 _ g s0_0 s0_1 s0_2 from ei121 HI0)) : gb213 ≠ g)); clear HO1_0; clear HO212; clear HI0; clear BK208; clear BK209; clear HK; clear HB; have HO1_0 := n0_; have HO212 := n1_; have HI0 := n2_; have BK208 := n3_; have BK209 := n4_; have HK := n5_; have HB := n6_; have BK213 := n7_; have GW213 := n8_; have GE213 := n9_; have NB208_213 := n10_; have NB213_208 := n11_; have NB209_213 := n12_; have NB213_209 := n13_; have NB0_213 := n14_; have NB213_0 := n15_; clear n0_ n1_ n2_ n3_ n4_ n5_ n6_ n7_ n8_ n9_ n10_ n11_ n12_ n13_ n14_ n15_; clear hb hbox hg; obtain ⟨Ao86, co86, eo86⟩ := Kd.R_slice HO212.out; subst eo86; have hnb87 := NB213_208.out; have hnc87 := NB208_213.out; have hnb88 := NB213_209.out; have hnc88 := NB209_213.out; have hnb89 := NB213_0.out; have hnc89 := NB0_213.out; have hcz90_0 : w85.cell? ⟨gb213, 0, none⟩ = some (.slice none 0 0) := (blk_cell BK213.out 0).trans rfl; have hfz90_0 := blk_frozen BK213.out 0) | ((with_reducible refine gate_callee (f := 123) rfl ?_); refine goesL_ (some 9) rfl rfl Try.func123 (by kernel_rfl) rfl #[.pointer (some ⟨g, 0, none⟩), .int .i64 50] rfl eg ?_; (with_reducible refine (spec_l01Next.calls g s0_0 s0_1 s0_2 50 t214 t215 t216 w0 _ ?side1 ?side2 A4.out).mono ?_); (case side1 => exact ei121 HI0); (case side2 => exact em121 HB); rintro e w91 ⟨rfl, hi, hb, hk⟩; refine ⟨_, rfl, ?_⟩; have n0_ := A_ (Kd.R_mono (Kd.R_keep (IsS121.apart (show IsS121 w0 _ g s0_0 s0_1 s0_2 from ei121 HI0) (by (with_reducible repeat (first | apply Kd.R_alloc | apply Kd.R_drewN | apply Kd.R_drew)); exact (Kd.R_mono (Kd.R_far (p := ⟨gb213, 0, none⟩) (Kd.R_types HO1_0.out BK213.out (by decide)) (fun _ hk => hk.2) (.slice Ao86 t210.length co86)) (fun _ h_ => h_.1))) (by decide)) hk (fun _ h => h.2)) (fun _ h => h.1)); have n1_ := A_ (KeepBut.blk hk (g' := gb208) (o := .cells #[.slice Ao78 l1_0.length co78] 26 (0, 0)) (eb BK208) NB208_0.out (by simp)); have n2_ := A_ (KeepBut.blk hk (g' := gb209) (o := .cells #[.slice none 0 0] 26 (0, 0)) (eb BK209) NB209_0.out (by simp)); have n3_ := A_ (Kd.R_mono (Kd.R_keep (IsS121.apart (show IsS121 w0 _ g s0_0 s0_1 s0_2 from ei121 HI0) (by (with_reducible repeat (first | apply Kd.R_alloc | apply Kd.R_drewN | apply Kd.R_drew)); exact (Kd.R_mono (Kd.R_far (p := ⟨gb213, 0, none⟩) (Kd.R_types HO212.out BK213.out (by decide)) (fun _ hk => hk.2) (.slice Ao86 t210.length co86)) (fun _ h_ => h_.1))) (by decide)) hk (fun _ h => h.2)) (fun _ h => h.1)); have n4_ := A_ (KeepBut.blk hk (g' := gb213) (o := .cells #[.slice Ao86 t210.length co86] 26 (0, 0)) spec_l01Bad.Z5 NB213_0.out (by simp)); have n5_ := A_ (Kept.of_keep (S := (fun k_ => (P1_0_ k_) ∨ k_ = g)) spec_l01Bad.Z3 hk (.inl (.inr rfl))); have n6_ := A_ (hb); have n7_ := A_ (hi); clear HO1_0; clear BK208; clear BK209; clear HO212; clear BK213; clear HK; clear HB; clear HI0; have HO1_0 := n0_; have BK208 := n1_; have BK209 := n2_; have HO212 := n3_; have BK213 := n4_; have HK := n5_; have HB := n6_; have HI0 := n7_; clear n0_ n1_ n2_ n3_ n4_ n5_ n6_ n7_; (try clear hb); (try clear hb2); (try clear hk); (try clear hi); have hcz92_0 : w91.cell? ⟨gb208, 0, none⟩ = some (.slice Ao78 l1_0.length co78) := (blk_cell BK208.out 0).trans rfl; have hfz92_0 := blk_frozen BK208.out 0; have hnb93 := NB209_0.out; have hnc93 := NB0_209.out; have hcz94_0 : w91.cell? ⟨gb209, 0, none⟩ = some (.slice none 0 0) := (blk_cell BK209.out 0).trans rfl; have hfz94_0 := blk_frozen BK209.out 0))
    refine bodyPost_ret (results_cell_row rfl _ _ gb209 26 #[.slice Ao78 l1_0.length co78] (0, 0) _ rfl spec_l01Bad.Z4 Try.underlying26 rfl (by kernel_rfl)) rfl ?_
    exact ⟨_, er, by (with_reducible repeat (first | apply Kd.R_alloc | apply Kd.R_drewN | apply Kd.R_drew)); exact Kd.R_mono (Kd.R_far (p := ⟨gb209, 0, none⟩) (Kd.R_types HO1_0.out BK209.out (by decide)) (fun _ hk => hk.2) (.slice Ao78 l1_0.length co78)) (fun _ hk => hk.1.1), ei121 HI0, em121 HB, by repeat (first | (with_reducible first | exact HK.out | apply Kept.alloc | apply Kept.drewN | apply Kept.drew | refine Kept.setCell ?_ (.inl (.inr rfl)) _ | refine Kept.setCell ?_ (.inr GW208.out) _ | refine Kept.setCell ?_ (.inr GW209.out) _ | refine Kept.setCell ?_ (.inr GW213.out) _) | exact HK.out)⟩

/-! ### spec_l01Spoil: function 98 -/
def spec_l01Spoil.f (k : Nat) (s0_0 : List Int) (s0_1 : Int) (s0_2 : Int) : Option (List Int × Int × Int) := (spec_l01Draw.f k s0_0 s0_1 s0_2).bind fun bt232 => ((spec_l01Bad.f s0_0 bt232.2.1 bt232.2.2 bt232.1).bind fun bt237 => (some (bt237.1, bt237.2.1, bt237.2.2)))
theorem spec_l01Spoil.mono : ∀ a0 a1 a2 k, LeO (spec_l01Spoil.f k a0 a1 a2) (spec_l01Spoil.f (k + 1) a0 a1 a2) := by
  intro a0 a1 a2 k
  unfold spec_l01Spoil.f
  repeat' first
      | (with_reducible exact spec_l01Draw.mono _ _ _ _)
      | (with_reducible exact LeO.refl _)
      | (with_reducible exact LeO.none _)
      | (with_reducible refine LeO.ite ?_ ?_)
      | (with_reducible refine LeO.bind ?_ (fun _ => ?_))
      | exact spec_l01Draw.mono _ _ _ _
      | exact LeO.none _
      | refine LeO.ite ?_ ?_
      | refine LeO.bind ?_ (fun _ => ?_)
set_option maxHeartbeats 8000000 in
set_option maxRecDepth 100000 in
theorem spec_l01Spoil.calls (k : Nat) (g : Nat) (s0_0 : List Int) (s0_1 : Int) (s0_2 : Int) (r1 : List Int) (r2 : Int) (r3 : Int) (w0 w : World) (hI : IsS121 w0 w g s0_0 s0_1 s0_2) (hB : Below w0.heap.size w0 w) (h : spec_l01Spoil.f k s0_0 s0_1 s0_2 = some (r1, r2, r3)) :
  Calls Try.prog 98 #[.pointer (some ⟨g, 0, none⟩)] w fun e w' => ∃ v0_ : Value, e = .returned (.agg #[v0_]) ∧ Kd.R (Kd.int .i64) 2 w' w.heap.size (fun _ => True) v0_ r1 ∧ IsS121 w0 w' g s0_0 r2 r3 ∧ Below w0.heap.size w0 w' ∧ KeepBut w w' g none := by
 have hu26 := Try.underlying26
 have HI0 := A_ hI
 have HK := A_ (KeepBut.refl w g none)
 have HL := A_ hB.size
 clear hI
 have HW0 := A_ hB.size
 have HB := A_ hB
 clear hB
 have H : ((spec_l01Draw.f k s0_0 s0_1 s0_2).bind fun bt232 => ((spec_l01Bad.f s0_0 bt232.2.1 bt232.2.2 bt232.1).bind fun bt237 => (some (bt237.1, bt237.2.1, bt237.2.2)))) = some (r1, r2, r3) := h
 clear h
 replace H := Option.bind_eq_some_iff.mp H
 obtain ⟨⟨t232, t235, t236⟩, A20, H⟩ := H
 replace H : ((spec_l01Bad.f s0_0 t235 t236 t232).bind fun bt237 => (some (bt237.1, bt237.2.1, bt237.2.2))) = some (r1, r2, r3) := H
 have A2 := A_ A20
 clear A20
 replace H := Option.bind_eq_some_iff.mp H
 obtain ⟨⟨t237, t240, t241⟩, A30, H⟩ := H
 replace H : (some (t237, t240, t241)) = some (r1, r2, r3) := H
 have A3 := A_ A30
 clear A30
 simp only [Option.some.injEq, Prod.mk.injEq] at H
 obtain ⟨rfl, rfl, rfl⟩ := H
 go_enter Try.func98, Try.ntmps98
 go_wp2_with (first | ((with_reducible refine gate_dst (N := 2) rfl ?_); refine box_event ?hg (N := 2) ?hd (cs := #[.slice none 0 0]) (t := 26) ?hr ?_; (case hd => rfl); (case hg => rfl); (case hr => first | (go_simp; done) | (go_simp; rfl)); intro gb231 hg w4 hbox hb; have n0_ := A_ (IsS121.below (ei121 HI0) hb); have n1_ := A_ (KeepBut.trans (ek HK) (KeepBut.of_below hb g none) (.inl rfl)); have n2_ := A_ (below_step (em121 HB) hb); have n3_ := A_ (hbox); have n4_ := A_ ((by rw [hg]; exact (keep_size (w := w) (g := g) (row := none) (ek HK)) : w.heap.size ≤ gb231)); have n5_ := A_ ((Nat.le_trans HW0.out (by rw [hg]; exact (keep_size (w := w) (g := g) (row := none) (ek HK)) : w.heap.size ≤ gb231) : w0.heap.size ≤ gb231)); have n6_ := A_ ((by rw [hg]; exact Nat.ne_of_lt (IsS121.lt (show IsS121 w0 _ g s0_0 s0_1 s0_2 from ei121 HI0)) : g ≠ gb231)); have n7_ := A_ ((by rw [hg]; exact Nat.ne_of_gt (IsS121.lt (show IsS121 w0 _ g s0_0 s0_1 s0_2 from ei121 HI0)) : gb231 ≠ g)); clear HI0; clear HK; clear HB; have HI0 := n0_; have HK := n1_; have HB := n2_; have BK231 := n3_; have GW231 := n4_; have GE231 := n5_; have NB0_231 := n6_; have NB231_0 := n7_; clear n0_ n1_ n2_ n3_ n4_ n5_ n6_ n7_; clear hb hbox hg) | ((with_reducible refine gate_callee (f := 122) rfl ?_); refine goesL_ (some 5) rfl rfl Try.func122 (by kernel_rfl) rfl #[.pointer (some ⟨g, 0, none⟩)] rfl eg ?_; (with_reducible refine (spec_l01Draw.calls k g s0_0 s0_1 s0_2 t232 t235 t236 w0 _ ?side1 ?side2 A2.out).mono ?_); (case side1 => exact ei121 HI0); (case side2 => exact em121 HB); rintro e w5 ⟨v233, rfl, ho0, hi, hb, hk⟩; refine ⟨_, rfl, ?_⟩; have n0_ := A_ (KeepBut.blk hk (g' := gb231) (o := .cells #[.slice none 0 0] 26 (0, 0)) (eb BK231) NB231_0.out (by simp)); have n1_ := A_ (Kd.R_lower ho0 (keep_size (w := w) (g := g) (row := none) (ek HK))); have n2_ := A_ (KeepBut.trans (ek HK) hk (.inl rfl)); have n3_ := A_ (hb); have n4_ := A_ (hi); clear BK231; clear HK; clear HB; clear HI0; have BK231 := n0_; have HO234 := n1_; have HK := n2_; have HB := n3_; have HI0 := n4_; clear n0_ n1_ n2_ n3_ n4_; (try clear hb); (try clear hb2); (try clear hk); (try clear hi); (try clear ho0); obtain ⟨Ao6, co6, eo6⟩ := Kd.R_slice HO234.out; subst eo6) | ((with_reducible refine gate_callee (f := 128) rfl ?_); refine goesL_ (some 6) rfl rfl Try.func128 (by kernel_rfl) rfl #[.pointer (some ⟨g, 0, none⟩), .agg #[.slice Ao6 t232.length co6]] rfl eg ?_; (with_reducible refine (spec_l01Bad.calls g s0_0 t235 t236 (fun k_ => some k_ = (.slice Ao6 t232.length co6 : Value).ownBlock) (.slice Ao6 t232.length co6) t232 t237 t240 t241 w0 _ ?side1 ?side2 ?side3 A3.out).mono ?_); (case side1 => exact ei121 HI0); (case side2 => exact em121 HB); (case side3 => exact Kd.R_lower (Kd.R_tight rfl HO234.out) HL.out); rintro e w7 ⟨v238, rfl, ho0, hi, hb, hkp⟩; refine ⟨_, rfl, ?_⟩; have n0_ := A_ (hi); have n1_ := A_ (blk_kept (eb BK231) hkp (fun hs_ => Or.elim hs_ (fun hs_ => (fun e_ => (Kd.R_ne HO234.out BK231.out (by decide)) e_) hs_) (fun e_ => NB231_0.out e_))); have n2_ := A_ (Kd.R_mono (ok' := fun k_ => True) (Kd.R_raise (d := (Kd.int .i64)) (b := w0.heap.size) (b' := w.heap.size) (fun _ _ _ _ h_ => h_) ho0 (fun k_ e_ => Or.elim (ho0.1 k_ e_) (fun hs_ => (fun e_ => Kd.R_base HO234.out k_ e_.symm) hs_) (fun hn_ => Nat.le_trans (keep_size (w := w) (g := g) (row := none) (ek HK)) hn_))) (fun k_ hk_ => trivial)); have n3_ := A_ (Kept.keepG (ek HK) hkp (fun k_ hs_ => Or.elim hs_ (fun hs_ => (fun e_ => .inr (Kd.R_base HO234.out k_ e_.symm)) hs_) (fun e_ => .inl e_))); have n4_ := A_ (hb); clear HI0; clear BK231; clear HK; clear HB; clear HO234; have HI0 := n0_; have BK231 := n1_; have HO239 := n2_; have HK := n3_; have HB := n4_; clear n0_ n1_ n2_ n3_ n4_; (try clear hb); (try clear hkp); (try clear ho0); obtain ⟨Ao8, co8, eo8⟩ := Kd.R_slice HO239.out; subst eo8; have hnb9 := NB231_0.out; have hnc9 := NB0_231.out; have hcz10_0 : w7.cell? ⟨gb231, 0, none⟩ = some (.slice none 0 0) := (blk_cell BK231.out 0).trans rfl; have hfz10_0 := blk_frozen BK231.out 0))
 refine bodyPost_ret (results_cell_row rfl _ _ gb231 26 #[.slice Ao8 t237.length co8] (0, 0) _ rfl (by (with_reducible repeat (first | refine blk_drewN ?_ _ | refine blk_drew ?_ | refine blk_alloc ?_ _)); refine blk_put (cs := #[.slice none 0 0]) ?_ 0 _ rfl; (with_reducible repeat (first | refine blk_drewN ?_ _ | refine blk_drew ?_ | refine blk_alloc ?_ _)); exact BK231.out) Try.underlying26 rfl (by kernel_rfl)) rfl ?_
 exact ⟨_, er, by (with_reducible repeat (first | apply Kd.R_alloc | apply Kd.R_drewN | apply Kd.R_drew)); exact Kd.R_mono (Kd.R_far (p := ⟨gb231, 0, none⟩) (Kd.R_types HO239.out BK231.out (by decide)) (fun _ hk => hk.2) (.slice Ao8 t237.length co8)) (fun _ hk => trivial), ei121 HI0, em121 HB, ek HK⟩

end Go.Proofs.Ytocachknmgefaaa.QFnRanks
