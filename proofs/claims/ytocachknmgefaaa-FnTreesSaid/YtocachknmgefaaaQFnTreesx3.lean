/- Functions of the program as plain Lean functions, each with a proof that the machine's call answers what it answers. Conditions: none. -/
import Derived.Test.YtocachknmgefaaaQFnTreesx0
import Derived.Test.YtocachknmgefaaaQFnTreesx1
import Derived.Test.YtocachknmgefaaaQFnTreesx2
namespace Go.Proofs.Ytocachknmgefaaa.QFnTrees
open Go.RowKit Go.Proofs.YtocachknmgefaaaW.PrintWords Go.Proofs.YtocachknmgefaaaW.PrintLast Go.Proofs.YtocachknmgefaaaW.PrintMore
attribute [local go_sem] max2_int min2_int max_two min_two max_three min_three max_four min_four   -- for this text's walks alone
set_option linter.unusedVariables false
set_option maxHeartbeats 8000000
set_option maxRecDepth 100000
set_option linter.unusedSimpArgs false

/-! ### spec_l01Bad: function 128 -/
def spec_l01Bad.f (s0_0 : List Int) (s0_1 : Int) (s0_2 : Int) (l1_0 : List Int) : Option (List Int × Int × Int) := (spec_l01Copy.f l1_0).bind fun t189 => ((spec_l01Next.f s0_0 s0_1 s0_2 50).bind fun bt193 => (if bt193.1 = 0 then (some (([] : List Int), bt193.2.1, bt193.2.2)) else (if bt193.1 = 1 then ((spec_l01N.f l1_0).bind fun t196 => ((spec_l01Next.f s0_0 bt193.2.1 bt193.2.2 t196).bind fun bt197 => ((spec_l01Pick.f s0_0 bt197.2.1 bt197.2.2 (([(-1), 0, 1, 2, 25] : List Int))).bind fun bt203 => (if 0 ≤ bt197.1 then (if bt197.1 < (t189.length : Int) then (some ((t189.set (bt197.1 : Int).toNat bt203.1), bt203.2.1, bt203.2.2)) else (none)) else (none))))) else (if bt193.1 = 2 then (if t189.length < 17592186044416 then (some ((t189 ++ [0]), bt193.2.1, bt193.2.2)) else (none)) else (some (l1_0, bt193.2.1, bt193.2.2))))))
def spec_l01Bad.T6 : Bool × List (List Nat × List Nat) := (true, [([], []), ([0], [0]), ([], []), ([], []), ([3], [3]), ([2, 4, 4], [2, 4]), ([], []), ([], []), ([6, 7, 5], [6, 7]), ([1, 5, 0, 1, 2, 3, 4, 5, 6, 7, 8], [1, 5]), ([9, 8, 8, 0, 1, 2, 3, 4, 5, 6, 7, 8], [8, 9])])
def spec_l01Bad.B6 : List Nat := [0, 1, 0, 0, 8, 28, 0, 0, 252, 511, 1023]
theorem spec_l01Bad.tab6 : rtab .any (opsOf Try.f128 6) = spec_l01Bad.T6 := by kernel_rfl
theorem spec_l01Bad.bits6 : waitsOk spec_l01Bad.T6.2 spec_l01Bad.B6 = true := by kernel_rfl
theorem spec_l01Bad.Z0 {p : Prop} (h : p := by first | exact HK.out.1 | exact (show Kept w _ (fun k_ => (P1_0_ k_) ∨ k_ = g) from by repeat (first | (with_reducible first | exact HK.out | apply Kept.alloc | apply Kept.drewN | apply Kept.drew | refine Kept.setCell ?_ (.inl (.inr rfl)) _ | refine Kept.setCell ?_ (.inr GW187.out) _ | refine Kept.setCell ?_ (.inr GW188.out) _ | refine Kept.setCell ?_ (.inr GW192.out) _) | exact HK.out)).1) : p := h
theorem spec_l01Bad.Z1 {p : Prop} (h : p := by first | exact HK.out.1 | exact (show Kept w _ (fun k_ => (P1_0_ k_) ∨ k_ = g) from by repeat (first | (with_reducible first | exact HK.out | apply Kept.alloc | apply Kept.drewN | apply Kept.drew | refine Kept.setCell ?_ (.inl (.inr rfl)) _ | refine Kept.setCell ?_ (.inr GW187.out) _ | refine Kept.setCell ?_ (.inr GW188.out) _) | exact HK.out)).1) : p := h
theorem spec_l01Bad.Z2 {p : Prop} (h : p := by first | exact HK.out.1 | exact (show Kept w _ (fun k_ => (P1_0_ k_) ∨ k_ = g) from by repeat (first | (with_reducible first | exact HK.out | apply Kept.alloc | apply Kept.drewN | apply Kept.drew | refine Kept.setCell ?_ (.inl (.inr rfl)) _ | refine Kept.setCell ?_ (.inr GW187.out) _) | exact HK.out)).1) : p := h
theorem spec_l01Bad.Z3 {p : Prop} (h : p := by repeat (first | (with_reducible first | exact HK.out | apply Kept.alloc | apply Kept.drewN | apply Kept.drew | refine Kept.setCell ?_ (.inl (.inr rfl)) _ | refine Kept.setCell ?_ (.inr GW187.out) _ | refine Kept.setCell ?_ (.inr GW188.out) _ | refine Kept.setCell ?_ (.inr GW192.out) _) | exact HK.out)) : p := h
theorem spec_l01Bad.Z4 {p : Prop} (h : p := by (with_reducible repeat (first | refine blk_drewN ?_ _ | refine blk_drew ?_ | refine blk_alloc ?_ _)); refine blk_put (cs := #[.slice none 0 0]) ?_ 0 _ rfl; (with_reducible repeat (first | refine blk_drewN ?_ _ | refine blk_drew ?_ | refine blk_alloc ?_ _)); exact BK188.out) : p := h
theorem spec_l01Bad.Z5 {p : Prop} (h : p := by (with_reducible repeat (first | refine blk_drewN ?_ _ | refine blk_drew ?_ | refine blk_alloc ?_ _)); refine blk_put (cs := #[.slice none 0 0]) ?_ 0 _ rfl; (with_reducible repeat (first | refine blk_drewN ?_ _ | refine blk_drew ?_ | refine blk_alloc ?_ _)); exact BK192.out) : p := h
theorem spec_l01Bad.Z6 {p : Prop} (h : p := by first | exact HK.out.1 | exact (show Kept w _ (fun k_ => (P1_0_ k_) ∨ k_ = g) from by repeat (first | (with_reducible first | exact HK.out | apply Kept.alloc | apply Kept.drewN | apply Kept.drew | refine Kept.setCell ?_ (.inl (.inr rfl)) _) | exact HK.out)).1) : p := h
theorem spec_l01Bad.Z7 {p : Prop} (h : p := by repeat (first | (with_reducible first | exact HK.out | apply Kept.alloc | apply Kept.drewN | apply Kept.drew | refine Kept.setCell ?_ (.inl (.inr rfl)) _ | refine Kept.setCell ?_ (.inr GW187.out) _ | refine Kept.setCell ?_ (.inr GW188.out) _) | exact HK.out)) : p := h
theorem spec_l01Bad.Z8 {p : Prop} (h : p := by repeat (first | (with_reducible first | exact HK.out | apply Kept.alloc | apply Kept.drewN | apply Kept.drew | refine Kept.setCell ?_ (.inl (.inr rfl)) _ | refine Kept.setCell ?_ (.inr GW187.out) _) | exact HK.out)) : p := h
theorem spec_l01Bad.Z9 {p : Prop} (h : p := by repeat (first | (with_reducible first | exact HK.out | apply Kept.alloc | apply Kept.drewN | apply Kept.drew | refine Kept.setCell ?_ (.inl (.inr rfl)) _) | exact HK.out)) : p := h
theorem spec_l01Bad.Z10 {p : Prop} (h : p := by (with_reducible repeat (first | apply Kd.R_alloc | apply Kd.R_drewN | apply Kd.R_drew)); exact Kd.R_mono HO191.out (fun _ hk => ⟨hk.1.1.1, ⟨hk.1.2, hk.2⟩⟩)) : p := h
theorem spec_l01Bad.Z11 {p : Prop} (h : p := by (with_reducible repeat (first | apply Kd.R_alloc | apply Kd.R_drewN | apply Kd.R_drew)); exact Kd.R_mono HO202.out (fun _ hk => ⟨hk.1.1.1, ⟨hk.2, hk.1.2⟩⟩)) : p := h
theorem spec_l01Bad.Z12 {p : Prop} (h : p := by (with_reducible repeat (first | apply Kd.R_alloc | apply Kd.R_drewN | apply Kd.R_drew)); exact Kd.R_mono HO1_0.out (fun _ hk => ⟨hk.1.1, ⟨hk.1.2, hk.2⟩⟩)) : p := h
theorem spec_l01Bad.Z13 {p : Prop} (h : p := by simp only [putAll, Act.put, List.setIfInBounds_toArray, List.set_cons_zero, List.set_cons_succ]) : p := h
theorem spec_l01Bad.Z14 {p : Prop} (h : p := by first | (with_reducible assumption) | assumption) : p := h
theorem spec_l01Bad.calls (g : Nat) (s0_0 : List Int) (s0_1 : Int) (s0_2 : Int) (P1_0_ : Nat → Prop) (u9000_ : Value) (l1_0 : List Int) (r1 : List Int) (r2 : Int) (r3 : Int) (w0 w : World) (hI : IsS121 w0 w g s0_0 s0_1 s0_2) (hB : Below w0.heap.size w0 w) (ho1_0 : Kd.R (Kd.int .i64) 2 w w0.heap.size P1_0_ u9000_ l1_0) (h : spec_l01Bad.f s0_0 s0_1 s0_2 l1_0 = some (r1, r2, r3)) :
  Calls Try.prog 128 #[.pointer (some ⟨g, 0, none⟩), .agg #[u9000_]] w fun e w' => ∃ v0_ : Value, e = .returned (.agg #[v0_]) ∧ Kd.R (Kd.int .i64) 2 w' w0.heap.size (fun k_ => (P1_0_ k_ ∨ w.heap.size ≤ k_)) v0_ r1 ∧ IsS121 w0 w' g s0_0 r2 r3 ∧ Below w0.heap.size w0 w' ∧ Kept w w' (fun k_ => (P1_0_ k_) ∨ k_ = g) := by
 have hu26 := Try.underlying26
 have HO1_0 := A_ (show Kd.R (Kd.int .i64) 2 w w0.heap.size (fun k_ => (P1_0_ k_ ∨ w.heap.size ≤ k_)) u9000_ l1_0 from Kd.R_mono ho1_0 (fun k_ hk => (.inl hk)))
 have HI0 := A_ hI
 have HL := A_ hB.size
 clear hI
 have HK := A_ (Kept.refl w (fun k_ => (P1_0_ k_) ∨ k_ = g))
 have HW0 := A_ hB.size
 have HB := A_ hB
 clear hB
 have H : ((spec_l01Copy.f l1_0).bind fun t189 => ((spec_l01Next.f s0_0 s0_1 s0_2 50).bind fun bt193 => (if bt193.1 = 0 then (some (([] : List Int), bt193.2.1, bt193.2.2)) else (if bt193.1 = 1 then ((spec_l01N.f l1_0).bind fun t196 => ((spec_l01Next.f s0_0 bt193.2.1 bt193.2.2 t196).bind fun bt197 => ((spec_l01Pick.f s0_0 bt197.2.1 bt197.2.2 (([(-1), 0, 1, 2, 25] : List Int))).bind fun bt203 => (if 0 ≤ bt197.1 then (if bt197.1 < (t189.length : Int) then (some ((t189.set (bt197.1 : Int).toNat bt203.1), bt203.2.1, bt203.2.2)) else (none)) else (none))))) else (if bt193.1 = 2 then (if t189.length < 17592186044416 then (some ((t189 ++ [0]), bt193.2.1, bt193.2.2)) else (none)) else (some (l1_0, bt193.2.1, bt193.2.2))))))) = some (r1, r2, r3) := h
 clear h
 replace H := Option.bind_eq_some_iff.mp H
 obtain ⟨t189, A30, H⟩ := H
 replace H : ((spec_l01Next.f s0_0 s0_1 s0_2 50).bind fun bt193 => (if bt193.1 = 0 then (some (([] : List Int), bt193.2.1, bt193.2.2)) else (if bt193.1 = 1 then ((spec_l01N.f l1_0).bind fun t196 => ((spec_l01Next.f s0_0 bt193.2.1 bt193.2.2 t196).bind fun bt197 => ((spec_l01Pick.f s0_0 bt197.2.1 bt197.2.2 (([(-1), 0, 1, 2, 25] : List Int))).bind fun bt203 => (if 0 ≤ bt197.1 then (if bt197.1 < (t189.length : Int) then (some ((t189.set (bt197.1 : Int).toNat bt203.1), bt203.2.1, bt203.2.2)) else (none)) else (none))))) else (if bt193.1 = 2 then (if t189.length < 17592186044416 then (some ((t189 ++ [0]), bt193.2.1, bt193.2.2)) else (none)) else (some (l1_0, bt193.2.1, bt193.2.2)))))) = some (r1, r2, r3) := H
 have A3 := A_ A30
 clear A30
 replace H := Option.bind_eq_some_iff.mp H
 obtain ⟨⟨t193, t194, t195⟩, A40, H⟩ := H
 replace H : (if t193 = 0 then (some (([] : List Int), t194, t195)) else (if t193 = 1 then ((spec_l01N.f l1_0).bind fun t196 => ((spec_l01Next.f s0_0 t194 t195 t196).bind fun bt197 => ((spec_l01Pick.f s0_0 bt197.2.1 bt197.2.2 (([(-1), 0, 1, 2, 25] : List Int))).bind fun bt203 => (if 0 ≤ bt197.1 then (if bt197.1 < (t189.length : Int) then (some ((t189.set (bt197.1 : Int).toNat bt203.1), bt203.2.1, bt203.2.2)) else (none)) else (none))))) else (if t193 = 2 then (if t189.length < 17592186044416 then (some ((t189 ++ [0]), t194, t195)) else (none)) else (some (l1_0, t194, t195))))) = some (r1, r2, r3) := H
 have A4 := A_ A40
 clear A40
 by_cases c5 : t193 = 0
 ·rw [if_pos c5] at H
  have c5b0 : (t193 == 0) = true := beq_iff_eq.mpr c5
  have c5b1 : (t193 != 0) = false := bne_eq_false_iff_eq.mpr c5
  clear c5
  simp only [Option.some.injEq, Prod.mk.injEq] at H
  obtain ⟨rfl, rfl, rfl⟩ := H
  obtain ⟨Ao6, co6, eo6⟩ := Kd.R_slice HO1_0.out
  subst eo6
  go_enter Try.func128, Try.ntmps128
  go_wp2_with (first | ((with_reducible refine gate_dst (N := 3) rfl ?_); refine bx 3 #[.slice Ao6 l1_0.length co6] 26 ?_; intro gb187 hg w7 hbox hb; replace HO1_0 := A_ (Kd.R_below (ea HO1_0) hb); have BK187 := A_ hbox; have GW187 := A_ ((by rw [hg]; exact spec_l01Bad.Z6 : w.heap.size ≤ gb187)); replace HK := A_ (Kept.below (S := (fun k_ => (P1_0_ k_) ∨ k_ = g)) spec_l01Bad.Z9 hb); have GE187 := A_ ((by rw [hg]; exact (below_size (em121 HB)) : w0.heap.size ≤ gb187)); replace HB := A_ (below_step (em121 HB) hb); have NB0_187 := A_ ((by rw [hg]; exact Nat.ne_of_lt (IsS121.lt (show IsS121 w0 _ g s0_0 s0_1 s0_2 from ei121 HI0)) : g ≠ gb187)); have NB187_0 := A_ ((by rw [hg]; exact Nat.ne_of_gt (IsS121.lt (show IsS121 w0 _ g s0_0 s0_1 s0_2 from ei121 HI0)) : gb187 ≠ g)); replace HI0 := A_ (IsS121.below (ei121 HI0) hb); clear hb hbox hg) | ((with_reducible refine gate_dst (N := 4) rfl ?_); refine bx 4 #[.slice none 0 0] 26 ?_; intro gb188 hg w8 hbox hb; replace HO1_0 := A_ (Kd.R_below (ea HO1_0) hb); have BK188 := A_ hbox; have GW188 := A_ ((by rw [hg]; exact spec_l01Bad.Z2 : w.heap.size ≤ gb188)); replace HK := A_ (Kept.below (S := (fun k_ => (P1_0_ k_) ∨ k_ = g)) spec_l01Bad.Z8 hb); have GE188 := A_ ((by rw [hg]; exact (below_size (em121 HB)) : w0.heap.size ≤ gb188)); replace HB := A_ (below_step (em121 HB) hb); have NB187_188 := A_ ((by rw [hg]; exact Nat.ne_of_lt (eL BK187) : gb187 ≠ gb188)); have NB188_187 := A_ ((by rw [hg]; exact Nat.ne_of_gt (eL BK187) : gb188 ≠ gb187)); replace BK187 := A_ (eB BK187 hb); have NB0_188 := A_ ((by rw [hg]; exact Nat.ne_of_lt (IsS121.lt (show IsS121 w0 _ g s0_0 s0_1 s0_2 from ei121 HI0)) : g ≠ gb188)); have NB188_0 := A_ ((by rw [hg]; exact Nat.ne_of_gt (IsS121.lt (show IsS121 w0 _ g s0_0 s0_1 s0_2 from ei121 HI0)) : gb188 ≠ g)); replace HI0 := A_ (IsS121.below (ei121 HI0) hb); clear hb hbox hg; have hnb9 := NB187_188.out; have hnc9 := NB188_187.out; have hnb10 := NB187_0.out; have hnc10 := NB0_187.out; have hcz11_0 : w8.cell? ⟨gb187, 0, none⟩ = some (.slice Ao6 l1_0.length co6) := (blk_cell BK187.out 0).trans rfl; have hfz11_0 := blk_frozen BK187.out 0) | ((with_reducible refine gate_callee (f := 169) rfl ?_); refine goesL_ (some 7) rfl rfl Try.func169 (by kernel_rfl) rfl #[.agg #[.slice Ao6 l1_0.length co6]] rfl eg ?_; (with_reducible refine (spec_l01Copy.calls _ _ l1_0 t189 _ ?side1 ?side2 A3.out).mono ?_); (case side1 => exact cS ((Kd.R_reads' HO1_0.out).2.2)); (case side2 => exact (Kd.R_reads' HO1_0.out).2.1); rintro e w12 ⟨v190, rfl, ho0, hb⟩; refine ⟨_, rfl, ?_⟩; have HO191 := A_ (Kd.R_lower (Kd.R_new' (Kd.R_newM (M := fun k_ => (P1_0_ k_ ∨ w.heap.size ≤ k_)) ho0 spec_l01Bad.Z1 (fun k_ h_ => .inr h_)) (Kd.R_lt (ea HO1_0))) (below_size (em121 HB))); replace HO1_0 := A_ (Kd.R_elder' (ea HO1_0) (Kd.R_base ho0) hb); replace HI0 := A_ (IsS121.below (ei121 HI0) hb); replace BK187 := A_ (eB BK187 hb); replace BK188 := A_ (eB BK188 hb); replace HK := A_ (Kept.below (S := (fun k_ => (P1_0_ k_) ∨ k_ = g)) spec_l01Bad.Z7 hb); replace HB := A_ (below_step (em121 HB) hb); (try clear hb); (try clear hb2); (try clear hk); (try clear hi); (try clear ho0)) | ((with_reducible refine gate_dst (N := 5) rfl ?_); refine bx 5 #[.slice none 0 0] 26 ?_; intro gb192 hg w13 hbox hb; replace HO1_0 := A_ (Kd.R_below (ea HO1_0) hb); replace HO191 := A_ (Kd.R_below (ea HO191) hb); have BK192 := A_ hbox; have GW192 := A_ ((by rw [hg]; exact spec_l01Bad.Z1 : w.heap.size ≤ gb192)); replace HK := A_ (Kept.below (S := (fun k_ => (P1_0_ k_) ∨ k_ = g)) spec_l01Bad.Z7 hb); have GE192 := A_ ((by rw [hg]; exact (below_size (em121 HB)) : w0.heap.size ≤ gb192)); replace HB := A_ (below_step (em121 HB) hb); have NB187_192 := A_ ((by rw [hg]; exact Nat.ne_of_lt (eL BK187) : gb187 ≠ gb192)); have NB192_187 := A_ ((by rw [hg]; exact Nat.ne_of_gt (eL BK187) : gb192 ≠ gb187)); replace BK187 := A_ (eB BK187 hb); have NB188_192 := A_ ((by rw [hg]; exact Nat.ne_of_lt (eL BK188) : gb188 ≠ gb192)); have NB192_188 := A_ ((by rw [hg]; exact Nat.ne_of_gt (eL BK188) : gb192 ≠ gb188)); replace BK188 := A_ (eB BK188 hb); have NB0_192 := A_ ((by rw [hg]; exact Nat.ne_of_lt (IsS121.lt (show IsS121 w0 _ g s0_0 s0_1 s0_2 from ei121 HI0)) : g ≠ gb192)); have NB192_0 := A_ ((by rw [hg]; exact Nat.ne_of_gt (IsS121.lt (show IsS121 w0 _ g s0_0 s0_1 s0_2 from ei121 HI0)) : gb192 ≠ g)); replace HI0 := A_ (IsS121.below (ei121 HI0) hb); clear hb hbox hg; obtain ⟨Ao14, co14, eo14⟩ := Kd.R_slice HO191.out; subst eo14; have hnb15 := NB192_187.out; have hnc15 := NB187_192.out; have hnb16 := NB192_188.out; have hnc16 := NB188_192.out; have hnb17 := NB192_0.out; have hnc17 := NB0_192.out; have hcz18_0 : w13.cell? ⟨gb192, 0, none⟩ = some (.slice none 0 0) := (blk_cell BK192.out 0).trans rfl; have hfz18_0 := blk_frozen BK192.out 0) | ((with_reducible refine gate_callee (f := 123) rfl ?_); refine goesL_ (some 9) rfl rfl Try.func123 (by kernel_rfl) rfl #[.pointer (some ⟨g, 0, none⟩), .int .i64 50] rfl eg ?_; (with_reducible refine (spec_l01Next.calls g s0_0 s0_1 s0_2 50 t193 t194 t195 w0 _ ?side1 ?side2 A4.out).mono ?_); (case side1 => exact ei121 HI0); (case side2 => exact em121 HB); rintro e w19 ⟨rfl, hi, hb, hk⟩; refine ⟨_, rfl, ?_⟩; replace HO1_0 := A_ (Kd.R_mono (Kd.R_keep (IsS121.apart (show IsS121 w0 _ g s0_0 s0_1 s0_2 from ei121 HI0) (by (with_reducible repeat (first | apply Kd.R_alloc | apply Kd.R_drewN | apply Kd.R_drew)); exact (Kd.R_mono (Kd.R_far (p := ⟨gb192, 0, none⟩) (Kd.R_types HO1_0.out BK192.out (by decide)) (fun _ hk => hk.2) (.slice Ao14 t189.length co14)) (fun _ h_ => h_.1))) (by decide)) hk (fun _ h => h.2)) (fun _ h => h.1)); replace BK187 := A_ (KeepBut.blk hk (g' := gb187) (o := .cells #[.slice Ao6 l1_0.length co6] 26 (0, 0)) (eb BK187) NB187_0.out (by simp)); replace BK188 := A_ (KeepBut.blk hk (g' := gb188) (o := .cells #[.slice none 0 0] 26 (0, 0)) (eb BK188) NB188_0.out (by simp)); replace HO191 := A_ (Kd.R_mono (Kd.R_keep (IsS121.apart (show IsS121 w0 _ g s0_0 s0_1 s0_2 from ei121 HI0) (by (with_reducible repeat (first | apply Kd.R_alloc | apply Kd.R_drewN | apply Kd.R_drew)); exact (Kd.R_mono (Kd.R_far (p := ⟨gb192, 0, none⟩) (Kd.R_types HO191.out BK192.out (by decide)) (fun _ hk => hk.2) (.slice Ao14 t189.length co14)) (fun _ h_ => h_.1))) (by decide)) hk (fun _ h => h.2)) (fun _ h => h.1)); replace BK192 := A_ (KeepBut.blk hk (g' := gb192) (o := .cells #[.slice Ao14 t189.length co14] 26 (0, 0)) spec_l01Bad.Z5 NB192_0.out (by simp)); replace HK := A_ (Kept.of_keep (S := (fun k_ => (P1_0_ k_) ∨ k_ = g)) spec_l01Bad.Z3 hk (.inl (.inr rfl))); replace HB := A_ hb; replace HI0 := A_ hi; (try clear hb); (try clear hb2); (try clear hk); (try clear hi); have hnb20 := NB188_0.out; have hnc20 := NB0_188.out; have hcz21_0 : w19.cell? ⟨gb188, 0, none⟩ = some (.slice none 0 0) := (blk_cell BK188.out 0).trans rfl; have hfz21_0 := blk_frozen BK188.out 0))
  refine bodyPost_ret (results_cell_row rfl _ _ gb188 26 #[.slice none 0 0] (0, 0) _ rfl spec_l01Bad.Z4 Try.underlying26 rfl (by kernel_rfl)) rfl ?_
  exact ⟨_, er, by first | exact Kd.R_nil _ _ _ _ _ | exact Kd.N_nil _ _ _ _ _ | exact Kd.V_nil _ _ _ _ _ | exact Kd.Q_nil _ _ _ _ _ | exact Kd.S_nil _ _ _ _ _, ei121 HI0, em121 HB, by repeat (first | (with_reducible first | exact HK.out | apply Kept.alloc | apply Kept.drewN | apply Kept.drew | refine Kept.setCell ?_ (.inl (.inr rfl)) _ | refine Kept.setCell ?_ (.inr GW187.out) _ | refine Kept.setCell ?_ (.inr GW188.out) _ | refine Kept.setCell ?_ (.inr GW192.out) _) | exact HK.out)⟩
 ·rw [if_neg c5] at H
  have c5b0 : (t193 == 0) = false := beq_eq_false_iff_ne.mpr c5
  have c5b1 : (t193 != 0) = true := bne_iff_ne.mpr c5
  by_cases c22 : t193 = 1
  ·rw [if_pos c22] at H
   have c22b0 : (t193 == 1) = true := beq_iff_eq.mpr c22
   have c22b1 : (t193 != 1) = false := bne_eq_false_iff_eq.mpr c22
   clear c22
   replace H := Option.bind_eq_some_iff.mp H
   obtain ⟨t196, A230, H⟩ := H
   replace H : ((spec_l01Next.f s0_0 t194 t195 t196).bind fun bt197 => ((spec_l01Pick.f s0_0 bt197.2.1 bt197.2.2 (([(-1), 0, 1, 2, 25] : List Int))).bind fun bt203 => (if 0 ≤ bt197.1 then (if bt197.1 < (t189.length : Int) then (some ((t189.set (bt197.1 : Int).toNat bt203.1), bt203.2.1, bt203.2.2)) else (none)) else (none)))) = some (r1, r2, r3) := H
   have A23 := A_ A230
   clear A230
   replace H := Option.bind_eq_some_iff.mp H
   obtain ⟨⟨t197, t198, t199⟩, A240, H⟩ := H
   replace H : ((spec_l01Pick.f s0_0 t198 t199 (([(-1), 0, 1, 2, 25] : List Int))).bind fun bt203 => (if 0 ≤ t197 then (if t197 < (t189.length : Int) then (some ((t189.set (t197 : Int).toNat bt203.1), bt203.2.1, bt203.2.2)) else (none)) else (none))) = some (r1, r2, r3) := H
   have A24 := A_ A240
   clear A240
   obtain ⟨y200, hy200⟩ : ∃ y_ : List Int, y_ = (([(-1), 0, 1, 2, 25] : List Int)) := ⟨_, rfl⟩
   replace H : ((spec_l01Pick.f s0_0 t198 t199 y200).bind fun bt203 => (if 0 ≤ t197 then (if t197 < (t189.length : Int) then (some ((t189.set (t197 : Int).toNat bt203.1), bt203.2.1, bt203.2.2)) else (none)) else (none))) = some (r1, r2, r3) := eH hy200 H
   have Ny200 := A_ hy200
   clear hy200
   replace H := Option.bind_eq_some_iff.mp H
   obtain ⟨⟨t203, t204, t205⟩, A250, H⟩ := H
   replace H : (if 0 ≤ t197 then (if t197 < (t189.length : Int) then (some ((t189.set (t197 : Int).toNat t203), t204, t205)) else (none)) else (none)) = some (r1, r2, r3) := H
   have A25 := A_ A250
   clear A250
   by_cases c26 : 0 ≤ t197
   rotate_left
   ·rw [if_neg c26] at H
    exact absurd H (by simp)
   rw [if_pos c26] at H
   have c26b0 := decide_eq_true c26
   clear c26
   by_cases c27 : t197 < (t189.length : Int)
   rotate_left
   ·rw [if_neg c27] at H
    exact absurd H (by simp)
   rw [if_pos c27] at H
   have c27b0 := decide_eq_true c27
   clear c27
   obtain ⟨y206, hy206⟩ : ∃ y_ : List Int, y_ = (t189.set (t197 : Int).toNat t203) := ⟨_, rfl⟩
   replace H : (some (y206, t204, t205)) = some (r1, r2, r3) := eH hy206 H
   have Ny206 := A_ hy206
   clear hy206
   simp only [Option.some.injEq, Prod.mk.injEq] at H
   obtain ⟨rfl, rfl, rfl⟩ := H
   obtain ⟨Ao29, co29, eo29⟩ := Kd.R_slice HO1_0.out
   subst eo29
   go_enter Try.func128, Try.ntmps128
   try go_wp2_with (first | ((with_reducible refine gate_dst (N := 3) rfl ?_); refine bx 3 #[.slice Ao29 l1_0.length co29] 26 ?_; intro gb187 hg w30 hbox hb; replace HO1_0 := A_ (Kd.R_below (ea HO1_0) hb); have BK187 := A_ hbox; have GW187 := A_ ((by rw [hg]; exact spec_l01Bad.Z6 : w.heap.size ≤ gb187)); replace HK := A_ (Kept.below (S := (fun k_ => (P1_0_ k_) ∨ k_ = g)) spec_l01Bad.Z9 hb); have GE187 := A_ ((by rw [hg]; exact (below_size (em121 HB)) : w0.heap.size ≤ gb187)); replace HB := A_ (below_step (em121 HB) hb); have NB0_187 := A_ ((by rw [hg]; exact Nat.ne_of_lt (IsS121.lt (show IsS121 w0 _ g s0_0 s0_1 s0_2 from ei121 HI0)) : g ≠ gb187)); have NB187_0 := A_ ((by rw [hg]; exact Nat.ne_of_gt (IsS121.lt (show IsS121 w0 _ g s0_0 s0_1 s0_2 from ei121 HI0)) : gb187 ≠ g)); replace HI0 := A_ (IsS121.below (ei121 HI0) hb); clear hb hbox hg) | ((with_reducible refine gate_dst (N := 4) rfl ?_); refine bx 4 #[.slice none 0 0] 26 ?_; intro gb188 hg w31 hbox hb; replace HO1_0 := A_ (Kd.R_below (ea HO1_0) hb); have BK188 := A_ hbox; have GW188 := A_ ((by rw [hg]; exact spec_l01Bad.Z2 : w.heap.size ≤ gb188)); replace HK := A_ (Kept.below (S := (fun k_ => (P1_0_ k_) ∨ k_ = g)) spec_l01Bad.Z8 hb); have GE188 := A_ ((by rw [hg]; exact (below_size (em121 HB)) : w0.heap.size ≤ gb188)); replace HB := A_ (below_step (em121 HB) hb); have NB187_188 := A_ ((by rw [hg]; exact Nat.ne_of_lt (eL BK187) : gb187 ≠ gb188)); have NB188_187 := A_ ((by rw [hg]; exact Nat.ne_of_gt (eL BK187) : gb188 ≠ gb187)); replace BK187 := A_ (eB BK187 hb); have NB0_188 := A_ ((by rw [hg]; exact Nat.ne_of_lt (IsS121.lt (show IsS121 w0 _ g s0_0 s0_1 s0_2 from ei121 HI0)) : g ≠ gb188)); have NB188_0 := A_ ((by rw [hg]; exact Nat.ne_of_gt (IsS121.lt (show IsS121 w0 _ g s0_0 s0_1 s0_2 from ei121 HI0)) : gb188 ≠ g)); replace HI0 := A_ (IsS121.below (ei121 HI0) hb); clear hb hbox hg; have hnb32 := NB187_188.out; have hnc32 := NB188_187.out; have hnb33 := NB187_0.out; have hnc33 := NB0_187.out; have hcz34_0 : w31.cell? ⟨gb187, 0, none⟩ = some (.slice Ao29 l1_0.length co29) := (blk_cell BK187.out 0).trans rfl; have hfz34_0 := blk_frozen BK187.out 0) | ((with_reducible refine gate_callee (f := 169) rfl ?_); refine goesL_ (some 7) rfl rfl Try.func169 (by kernel_rfl) rfl #[.agg #[.slice Ao29 l1_0.length co29]] rfl eg ?_; (with_reducible refine (spec_l01Copy.calls _ _ l1_0 t189 _ ?side1 ?side2 A3.out).mono ?_); (case side1 => exact cS ((Kd.R_reads' HO1_0.out).2.2)); (case side2 => exact (Kd.R_reads' HO1_0.out).2.1); rintro e w35 ⟨v190, rfl, ho0, hb⟩; refine ⟨_, rfl, ?_⟩; have HO191 := A_ (Kd.R_lower (Kd.R_new' (Kd.R_newM (M := fun k_ => (P1_0_ k_ ∨ w.heap.size ≤ k_)) ho0 spec_l01Bad.Z1 (fun k_ h_ => .inr h_)) (Kd.R_lt (ea HO1_0))) (below_size (em121 HB))); replace HO1_0 := A_ (Kd.R_elder' (ea HO1_0) (Kd.R_base ho0) hb); replace HI0 := A_ (IsS121.below (ei121 HI0) hb); replace BK187 := A_ (eB BK187 hb); replace BK188 := A_ (eB BK188 hb); replace HK := A_ (Kept.below (S := (fun k_ => (P1_0_ k_) ∨ k_ = g)) spec_l01Bad.Z7 hb); replace HB := A_ (below_step (em121 HB) hb); (try clear hb); (try clear hb2); (try clear hk); (try clear hi); (try clear ho0)) | ((with_reducible refine gate_dst (N := 5) rfl ?_); refine bx 5 #[.slice none 0 0] 26 ?_; intro gb192 hg w36 hbox hb; replace HO1_0 := A_ (Kd.R_below (ea HO1_0) hb); replace HO191 := A_ (Kd.R_below (ea HO191) hb); have BK192 := A_ hbox; have GW192 := A_ ((by rw [hg]; exact spec_l01Bad.Z1 : w.heap.size ≤ gb192)); replace HK := A_ (Kept.below (S := (fun k_ => (P1_0_ k_) ∨ k_ = g)) spec_l01Bad.Z7 hb); have GE192 := A_ ((by rw [hg]; exact (below_size (em121 HB)) : w0.heap.size ≤ gb192)); replace HB := A_ (below_step (em121 HB) hb); have NB187_192 := A_ ((by rw [hg]; exact Nat.ne_of_lt (eL BK187) : gb187 ≠ gb192)); have NB192_187 := A_ ((by rw [hg]; exact Nat.ne_of_gt (eL BK187) : gb192 ≠ gb187)); replace BK187 := A_ (eB BK187 hb); have NB188_192 := A_ ((by rw [hg]; exact Nat.ne_of_lt (eL BK188) : gb188 ≠ gb192)); have NB192_188 := A_ ((by rw [hg]; exact Nat.ne_of_gt (eL BK188) : gb192 ≠ gb188)); replace BK188 := A_ (eB BK188 hb); have NB0_192 := A_ ((by rw [hg]; exact Nat.ne_of_lt (IsS121.lt (show IsS121 w0 _ g s0_0 s0_1 s0_2 from ei121 HI0)) : g ≠ gb192)); have NB192_0 := A_ ((by rw [hg]; exact Nat.ne_of_gt (IsS121.lt (show IsS121 w0 _ g s0_0 s0_1 s0_2 from ei121 HI0)) : gb192 ≠ g)); replace HI0 := A_ (IsS121.below (ei121 HI0) hb); clear hb hbox hg; obtain ⟨Ao37, co37, eo37⟩ := Kd.R_slice HO191.out; subst eo37; have hnb38 := NB192_187.out; have hnc38 := NB187_192.out; have hnb39 := NB192_188.out; have hnc39 := NB188_192.out; have hnb40 := NB192_0.out; have hnc40 := NB0_192.out; have hcz41_0 : w36.cell? ⟨gb192, 0, none⟩ = some (.slice none 0 0) := (blk_cell BK192.out 0).trans rfl; have hfz41_0 := blk_frozen BK192.out 0) | ((with_reducible refine gate_callee (f := 123) rfl ?_); refine goesL_ (some 9) rfl rfl Try.func123 (by kernel_rfl) rfl #[.pointer (some ⟨g, 0, none⟩), .int .i64 50] rfl eg ?_; (with_reducible refine (spec_l01Next.calls g s0_0 s0_1 s0_2 50 t193 t194 t195 w0 _ ?side1 ?side2 A4.out).mono ?_); (case side1 => exact ei121 HI0); (case side2 => exact em121 HB); rintro e w42 ⟨rfl, hi, hb, hk⟩; refine ⟨_, rfl, ?_⟩; replace HO1_0 := A_ (Kd.R_mono (Kd.R_keep (IsS121.apart (show IsS121 w0 _ g s0_0 s0_1 s0_2 from ei121 HI0) (by (with_reducible repeat (first | apply Kd.R_alloc | apply Kd.R_drewN | apply Kd.R_drew)); exact (Kd.R_mono (Kd.R_far (p := ⟨gb192, 0, none⟩) (Kd.R_types HO1_0.out BK192.out (by decide)) (fun _ hk => hk.2) (.slice Ao37 t189.length co37)) (fun _ h_ => h_.1))) (by decide)) hk (fun _ h => h.2)) (fun _ h => h.1)); replace BK187 := A_ (KeepBut.blk hk (g' := gb187) (o := .cells #[.slice Ao29 l1_0.length co29] 26 (0, 0)) (eb BK187) NB187_0.out (by simp)); replace BK188 := A_ (KeepBut.blk hk (g' := gb188) (o := .cells #[.slice none 0 0] 26 (0, 0)) (eb BK188) NB188_0.out (by simp)); replace HO191 := A_ (Kd.R_mono (Kd.R_keep (IsS121.apart (show IsS121 w0 _ g s0_0 s0_1 s0_2 from ei121 HI0) (by (with_reducible repeat (first | apply Kd.R_alloc | apply Kd.R_drewN | apply Kd.R_drew)); exact (Kd.R_mono (Kd.R_far (p := ⟨gb192, 0, none⟩) (Kd.R_types HO191.out BK192.out (by decide)) (fun _ hk => hk.2) (.slice Ao37 t189.length co37)) (fun _ h_ => h_.1))) (by decide)) hk (fun _ h => h.2)) (fun _ h => h.1)); replace BK192 := A_ (KeepBut.blk hk (g' := gb192) (o := .cells #[.slice Ao37 t189.length co37] 26 (0, 0)) spec_l01Bad.Z5 NB192_0.out (by simp)); replace HK := A_ (Kept.of_keep (S := (fun k_ => (P1_0_ k_) ∨ k_ = g)) spec_l01Bad.Z3 hk (.inl (.inr rfl))); replace HB := A_ hb; replace HI0 := A_ hi; (try clear hb); (try clear hb2); (try clear hk); (try clear hi)))
   replace HO1_0 := A_ (Kd.R_drew HO1_0.out)
   replace HO191 := A_ (Kd.R_drew HO191.out)
   replace BK187 := A_ (blk_drew BK187.out)
   replace BK188 := A_ (blk_drew BK188.out)
   replace BK192 := A_ (blk_drew BK192.out)
   replace HI0 := A_ (IsS121.drew HI0.out)
   replace HK := A_ (Kept.drew HK.out)
   replace HB := A_ (below_drew1 HB.out)
   refine start_ (n := 11) (S := fun w' => w'.cell? ⟨gb192, 0, none⟩ = some (.slice Ao37 t189.length co37) ∧ w'.cell? ⟨gb187, 0, none⟩ = some (.slice Ao29 l1_0.length co29)) (ds := [10]) (bM 11 0) (by kernel_rfl) rfl rfl ⟨(blk_cell BK192.out 0).trans rfl, (blk_cell BK187.out 0).trans rfl⟩ (fun hHeld => ?_); refine with_tabW spec_l01Bad.tab6 spec_l01Bad.bits6 (fun HT_ HW_ => ?_)
   generalize w42.drew = w43 at HO1_0 HO191 BK187 BK188 BK192 HI0 HK HB hHeld ⊢
   refine pA 0 15 (bM 11 1) HT_ ?_
   refine pA 2 17 (bM 11 5) HT_ ?_
   refine pA 6 21 (bM 11 69) HT_ ?_
   refine take_ (i := 1) (N := some 16) (v := ?_) (a' := ?_) (bM 11 71) rfl rfl (take_ofW HT_.out HW_.out (by kernel_rfl)) (fun _ _ _ h => h) (Or.inl ⟨by rfl, ?_⟩) hHeld ?_ ?_
   rotate_left
   ·rintro w' ⟨s0, s1⟩
    go_simp
    with_reducible rfl
   rotate_left
   ·simp only [Act.put, List.setIfInBounds_toArray, List.set_cons_zero, List.set_cons_succ, i64_w, i32_w]
    rfl
   refine take_ (i := 3) (N := some 18) (v := ?_) (a' := ?_) (bM 11 79) rfl rfl (take_ofW HT_.out HW_.out (by kernel_rfl)) (fun _ _ _ h => h) (Or.inl ⟨by rfl, ?_⟩) hHeld ?_ ?_
   rotate_left
   ·rintro w' ⟨s0, s1⟩
    go_simp
    with_reducible rfl
   rotate_left
   ·simp only [Act.put, List.setIfInBounds_toArray, List.set_cons_zero, List.set_cons_succ, i64_w, i32_w]
    rfl
   refine join_ (σ := Value) 3 (bM 11 255) (fun s_ => [(19, .int .i64 t196), (20, .int .i64 t197), (22, s_)]) (fun s_ w' => (w'.cell? ⟨gb192, 0, none⟩ = some (.slice Ao37 t189.length co37) ∧ w'.cell? ⟨gb187, 0, none⟩ = some (.slice Ao29 l1_0.length co29)) ∧ (Kd.R (Kd.int .i64) 2 w' w0.heap.size (fun k_ => (P1_0_ k_ ∨ w.heap.size ≤ k_) ∧ some k_ ≠ (.slice Ao29 l1_0.length co29 : Value).ownBlock ∧ some k_ ≠ (s_ : Value).ownBlock) (.slice Ao37 t189.length co37) t189) ∧ (Kd.R (Kd.int .i64) 2 w' w0.heap.size (fun k_ => (P1_0_ k_ ∨ w.heap.size ≤ k_) ∧ some k_ ≠ (.slice Ao37 t189.length co37 : Value).ownBlock ∧ some k_ ≠ (s_ : Value).ownBlock) (.slice Ao29 l1_0.length co29) l1_0) ∧ (Kd.R (Kd.int .i64) 2 w' w0.heap.size (fun k_ => (P1_0_ k_ ∨ w.heap.size ≤ k_) ∧ some k_ ≠ (.slice Ao37 t189.length co37 : Value).ownBlock ∧ some k_ ≠ (.slice Ao29 l1_0.length co29 : Value).ownBlock) s_ y200) ∧ (w'.heap[gb187]? = some (.cells #[.slice Ao29 l1_0.length co29] 26 (0, 0))) ∧ (w'.heap[gb188]? = some (.cells #[.slice none 0 0] 26 (0, 0))) ∧ (w'.heap[gb192]? = some (.cells #[.slice Ao37 t189.length co37] 26 (0, 0))) ∧ (IsS121 w0 w' g s0_0 t198 t199) ∧ (Kept w w' (fun k_ => (P1_0_ k_) ∨ k_ = g)) ∧ (Below w0.heap.size w0 w')) ?_ ?_
   rotate_left
   ·intro hCont
    refine two_ (i := 4) (j := 7) (Ni := some 19) (Nj := some 22) (bM 11 95) (bM 11 207) rfl rfl rfl rfl (two_of HT_.out (by kernel_rfl)) (by decide) (by decide) (fun K hK => ?_) (fun K hK => ?_)
    ·skip
     refine goes_ Try.func102 (by kernel_rfl) rfl #[.agg #[.slice Ao29 l1_0.length co29]] (by rfl) rfl rfl eg ?_
     with_reducible refine (spec_l01N.calls _ _ l1_0 t196 _ ?side1 ?side2 A23.out).mono ?_
     (case side1 => exact cS ((Kd.R_reads' HO1_0.out).2.2))
     (case side2 => exact (Kd.R_reads' HO1_0.out).2.1)
     rintro e w44 ⟨rfl, hb⟩
     refine ⟨_, rfl, ?_⟩
     replace HO1_0 := A_ (Kd.R_below (ea HO1_0) hb)
     replace HO191 := A_ (Kd.R_below (ea HO191) hb)
     replace HI0 := A_ (IsS121.below (ei121 HI0) hb)
     replace BK187 := A_ (eB BK187 hb)
     replace BK188 := A_ (eB BK188 hb)
     replace BK192 := A_ (eB BK192 hb)
     replace HK := A_ (Kept.below (S := (fun k_ => (P1_0_ k_) ∨ k_ = g)) spec_l01Bad.Z3 hb)
     replace HB := A_ (below_step (em121 HB) hb)
     (try clear hb)
     (try clear hb2)
     (try clear hk)
     (try clear hi)
     refine hK.out _ _ ⟨(blk_cell BK192.out 0).trans rfl, (blk_cell BK187.out 0).trans rfl⟩ (fun hHeld => ?_)
     clear hK K
     refine norm_ (a' := ?_) ?_ ?_
     rotate_left
     ·show Act.put _ (some 19) _ = _
      simp only [Act.put, List.setIfInBounds_toArray, List.set_cons_zero, List.set_cons_succ, i64_w, i32_w]
      rfl
     refine two_ (i := 5) (j := 7) (Ni := some 20) (Nj := some 22) (bM 11 127) (bM 11 223) rfl rfl rfl rfl (two_of HT_.out (by kernel_rfl)) (by decide) (by decide) (fun K hK => ?_) (fun K hK => ?_)
     ·skip
      refine goes_ Try.func123 (by kernel_rfl) rfl #[.pointer (some ⟨g, 0, none⟩), .int .i64 t196] (by rfl) rfl rfl eg ?_
      with_reducible refine (spec_l01Next.calls g s0_0 t194 t195 t196 t197 t198 t199 w0 _ ?side1 ?side2 A24.out).mono ?_
      (case side1 => exact ei121 HI0)
      (case side2 => exact em121 HB)
      rintro e w45 ⟨rfl, hi, hb, hk⟩
      refine ⟨_, rfl, ?_⟩
      replace HO1_0 := A_ (Kd.R_mono (Kd.R_keep (IsS121.apart (show IsS121 w0 _ g s0_0 t194 t195 from ei121 HI0) (ea HO1_0) (by decide)) hk (fun _ h => h.2)) (fun _ h => h.1))
      replace BK187 := A_ (KeepBut.blk hk (g' := gb187) (o := .cells #[.slice Ao29 l1_0.length co29] 26 (0, 0)) (eb BK187) NB187_0.out (by simp))
      replace BK188 := A_ (KeepBut.blk hk (g' := gb188) (o := .cells #[.slice none 0 0] 26 (0, 0)) (eb BK188) NB188_0.out (by simp))
      replace HO191 := A_ (Kd.R_mono (Kd.R_keep (IsS121.apart (show IsS121 w0 _ g s0_0 t194 t195 from ei121 HI0) (ea HO191) (by decide)) hk (fun _ h => h.2)) (fun _ h => h.1))
      replace BK192 := A_ (KeepBut.blk hk (g' := gb192) (o := .cells #[.slice Ao37 t189.length co37] 26 (0, 0)) (eb BK192) NB192_0.out (by simp))
      replace HK := A_ (Kept.of_keep (S := (fun k_ => (P1_0_ k_) ∨ k_ = g)) spec_l01Bad.Z3 hk (.inl (.inr rfl)))
      replace HB := A_ hb
      replace HI0 := A_ hi
      (try clear hb)
      (try clear hb2)
      (try clear hk)
      (try clear hi)
      refine hK.out _ _ ⟨(blk_cell BK192.out 0).trans rfl, (blk_cell BK187.out 0).trans rfl⟩ (fun hHeld => ?_)
      clear hK K
      refine norm_ (a' := ?_) ?_ ?_
      rotate_left
      ·show Act.put _ (some 20) _ = _
       simp only [Act.put, List.setIfInBounds_toArray, List.set_cons_zero, List.set_cons_succ, i64_w, i32_w]
       rfl
      refine one_ (i := 7) (N := some 22) (bM 11 255) rfl rfl (one_of HT_.out (by kernel_rfl)) (by decide) (fun K hK => ?_)
      refine Kd.R_lit_step (Kd.int .i64) _ 2 ?hg (N := 22) ?hd (xs := ([(-1), 0, 1, 2, 25] : List Int)) (inner := [.int .i64 (-1), .int .i64 0, .int .i64 1, .int .i64 2, .int .i64 25]) (ok := fun _ => True) (okp := fun _ => True) ?hr ?hp (fun _ hk => hk) trivial (Below.refl _ _) (Nat.le_refl _) (by simp) ?_; (case hd => rfl); (case hg => rfl); (case hr => first | (go_simp; done) | (go_simp; rfl)); (case hp => exact (Reps.one (show Kd.M (Kd.int .i64) _ _ _ (-1) [.int .i64 (-1)] from rfl) (Reps.one (show Kd.M (Kd.int .i64) _ _ _ 0 [.int .i64 0] from rfl) (Reps.one (show Kd.M (Kd.int .i64) _ _ _ 1 [.int .i64 1] from rfl) (Reps.one (show Kd.M (Kd.int .i64) _ _ _ 2 [.int .i64 2] from rfl) (Reps.one (show Kd.M (Kd.int .i64) _ _ _ 25 [.int .i64 25] from rfl) (Reps.none _ _)))))))
      intro v201 w46 ho47 hb hg_ hnew_
      clear hg_ hnew_
      (first | rw [← Ny200.out] at ho47 | (simp only [Int.reduceToNat] at ho47; rw [← Ny200.out] at ho47))
      have HO202 := A_ (Kd.R_lower (Kd.R_new' (Kd.R_new' (Kd.R_newM (M := fun k_ => (P1_0_ k_ ∨ w.heap.size ≤ k_)) ho47 spec_l01Bad.Z0 (fun k_ h_ => .inr h_)) (Kd.R_lt (ea HO1_0))) (Kd.R_lt (ea HO191))) (below_size (em121 HB)))
      replace HO1_0 := A_ (Kd.R_elder' (ea HO1_0) (Kd.R_base ho47) hb)
      replace HO191 := A_ (Kd.R_elder' (ea HO191) (Kd.R_base ho47) hb)
      replace HI0 := A_ (IsS121.below (ei121 HI0) hb)
      replace BK187 := A_ (eB BK187 hb)
      replace BK188 := A_ (eB BK188 hb)
      replace BK192 := A_ (eB BK192 hb)
      replace HK := A_ (Kept.below (S := (fun k_ => (P1_0_ k_) ∨ k_ = g)) spec_l01Bad.Z3 hb)
      replace HB := A_ (below_step (em121 HB) hb)
      clear hb ho47
      refine hK.out _ _ ⟨(blk_cell BK192.out 0).trans rfl, (blk_cell BK187.out 0).trans rfl⟩ (fun hHeld => ?_)
      clear hK K
      refine norm_ (a' := ?_) ?_ ?_
      rotate_left
      ·show Act.put _ (some 22) _ = _
       simp only [Act.put, List.setIfInBounds_toArray, List.set_cons_zero, List.set_cons_succ, i64_w, i32_w]
       rfl
      exact norm_ spec_l01Bad.Z13 (hCont (v201) _ ⟨hHeld, spec_l01Bad.Z10, spec_l01Bad.Z12, spec_l01Bad.Z11, (eb BK187), (eb BK188), (eb BK192), (ei121 HI0), spec_l01Bad.Z3, (em121 HB)⟩)
     ·skip
      refine Kd.R_lit_step (Kd.int .i64) _ 2 ?hg (N := 22) ?hd (xs := ([(-1), 0, 1, 2, 25] : List Int)) (inner := [.int .i64 (-1), .int .i64 0, .int .i64 1, .int .i64 2, .int .i64 25]) (ok := fun _ => True) (okp := fun _ => True) ?hr ?hp (fun _ hk => hk) trivial (Below.refl _ _) (Nat.le_refl _) (by simp) ?_; (case hd => rfl); (case hg => rfl); (case hr => first | (go_simp; done) | (go_simp; rfl)); (case hp => exact (Reps.one (show Kd.M (Kd.int .i64) _ _ _ (-1) [.int .i64 (-1)] from rfl) (Reps.one (show Kd.M (Kd.int .i64) _ _ _ 0 [.int .i64 0] from rfl) (Reps.one (show Kd.M (Kd.int .i64) _ _ _ 1 [.int .i64 1] from rfl) (Reps.one (show Kd.M (Kd.int .i64) _ _ _ 2 [.int .i64 2] from rfl) (Reps.one (show Kd.M (Kd.int .i64) _ _ _ 25 [.int .i64 25] from rfl) (Reps.none _ _)))))))
      intro v201 w45 ho46 hb hg_ hnew_
      clear hg_ hnew_
      (first | rw [← Ny200.out] at ho46 | (simp only [Int.reduceToNat] at ho46; rw [← Ny200.out] at ho46))
      have HO202 := A_ (Kd.R_lower (Kd.R_new' (Kd.R_new' (Kd.R_newM (M := fun k_ => (P1_0_ k_ ∨ w.heap.size ≤ k_)) ho46 spec_l01Bad.Z0 (fun k_ h_ => .inr h_)) (Kd.R_lt (ea HO1_0))) (Kd.R_lt (ea HO191))) (below_size (em121 HB)))
      replace HO1_0 := A_ (Kd.R_elder' (ea HO1_0) (Kd.R_base ho46) hb)
      replace HO191 := A_ (Kd.R_elder' (ea HO191) (Kd.R_base ho46) hb)
      replace HI0 := A_ (IsS121.below (ei121 HI0) hb)
      replace BK187 := A_ (eB BK187 hb)
      replace BK188 := A_ (eB BK188 hb)
      replace BK192 := A_ (eB BK192 hb)
      replace HK := A_ (Kept.below (S := (fun k_ => (P1_0_ k_) ∨ k_ = g)) spec_l01Bad.Z3 hb)
      replace HB := A_ (below_step (em121 HB) hb)
      clear hb ho46
      refine hK.out _ _ ⟨(blk_cell BK192.out 0).trans rfl, (blk_cell BK187.out 0).trans rfl⟩ (fun hHeld => ?_)
      clear hK K
      refine norm_ (a' := ?_) ?_ ?_
      rotate_left
      ·show Act.put _ (some 22) _ = _
       simp only [Act.put, List.setIfInBounds_toArray, List.set_cons_zero, List.set_cons_succ, i64_w, i32_w]
       rfl
      refine one_ (i := 5) (N := some 20) (bM 11 255) rfl rfl (one_of HT_.out (by kernel_rfl)) (by decide) (fun K hK => ?_)
      refine goes_ Try.func123 (by kernel_rfl) rfl #[.pointer (some ⟨g, 0, none⟩), .int .i64 t196] (by rfl) rfl rfl eg ?_
      with_reducible refine (spec_l01Next.calls g s0_0 t194 t195 t196 t197 t198 t199 w0 _ ?side1 ?side2 A24.out).mono ?_
      (case side1 => exact ei121 HI0)
      (case side2 => exact em121 HB)
      rintro e w47 ⟨rfl, hi, hb, hk⟩
      refine ⟨_, rfl, ?_⟩
      replace HO1_0 := A_ (Kd.R_mono (Kd.R_keep (IsS121.apart (show IsS121 w0 _ g s0_0 t194 t195 from ei121 HI0) (ea HO1_0) (by decide)) hk (fun _ h => h.2)) (fun _ h => h.1))
      replace BK187 := A_ (KeepBut.blk hk (g' := gb187) (o := .cells #[.slice Ao29 l1_0.length co29] 26 (0, 0)) (eb BK187) NB187_0.out (by simp))
      replace BK188 := A_ (KeepBut.blk hk (g' := gb188) (o := .cells #[.slice none 0 0] 26 (0, 0)) (eb BK188) NB188_0.out (by simp))
      replace HO191 := A_ (Kd.R_mono (Kd.R_keep (IsS121.apart (show IsS121 w0 _ g s0_0 t194 t195 from ei121 HI0) (ea HO191) (by decide)) hk (fun _ h => h.2)) (fun _ h => h.1))
      replace BK192 := A_ (KeepBut.blk hk (g' := gb192) (o := .cells #[.slice Ao37 t189.length co37] 26 (0, 0)) (eb BK192) NB192_0.out (by simp))
      replace HO202 := A_ (Kd.R_mono (Kd.R_keep (IsS121.apart (show IsS121 w0 _ g s0_0 t194 t195 from ei121 HI0) (ea HO202) (by decide)) hk (fun _ h => h.2)) (fun _ h => h.1))
      replace HK := A_ (Kept.of_keep (S := (fun k_ => (P1_0_ k_) ∨ k_ = g)) spec_l01Bad.Z3 hk (.inl (.inr rfl)))
      replace HB := A_ hb
      replace HI0 := A_ hi
      (try clear hb)
      (try clear hb2)
      (try clear hk)
      (try clear hi)
      refine hK.out _ _ ⟨(blk_cell BK192.out 0).trans rfl, (blk_cell BK187.out 0).trans rfl⟩ (fun hHeld => ?_)
      clear hK K
      refine norm_ (a' := ?_) ?_ ?_
      rotate_left
      ·show Act.put _ (some 20) _ = _
       simp only [Act.put, List.setIfInBounds_toArray, List.set_cons_zero, List.set_cons_succ, i64_w, i32_w]
       rfl
      exact norm_ spec_l01Bad.Z13 (hCont (v201) _ ⟨hHeld, spec_l01Bad.Z10, spec_l01Bad.Z12, spec_l01Bad.Z11, (eb BK187), (eb BK188), (eb BK192), (ei121 HI0), spec_l01Bad.Z3, (em121 HB)⟩)
    ·skip
     refine Kd.R_lit_step (Kd.int .i64) _ 2 ?hg (N := 22) ?hd (xs := ([(-1), 0, 1, 2, 25] : List Int)) (inner := [.int .i64 (-1), .int .i64 0, .int .i64 1, .int .i64 2, .int .i64 25]) (ok := fun _ => True) (okp := fun _ => True) ?hr ?hp (fun _ hk => hk) trivial (Below.refl _ _) (Nat.le_refl _) (by simp) ?_; (case hd => rfl); (case hg => rfl); (case hr => first | (go_simp; done) | (go_simp; rfl)); (case hp => exact (Reps.one (show Kd.M (Kd.int .i64) _ _ _ (-1) [.int .i64 (-1)] from rfl) (Reps.one (show Kd.M (Kd.int .i64) _ _ _ 0 [.int .i64 0] from rfl) (Reps.one (show Kd.M (Kd.int .i64) _ _ _ 1 [.int .i64 1] from rfl) (Reps.one (show Kd.M (Kd.int .i64) _ _ _ 2 [.int .i64 2] from rfl) (Reps.one (show Kd.M (Kd.int .i64) _ _ _ 25 [.int .i64 25] from rfl) (Reps.none _ _)))))))
     intro v201 w44 ho45 hb hg_ hnew_
     clear hg_ hnew_
     (first | rw [← Ny200.out] at ho45 | (simp only [Int.reduceToNat] at ho45; rw [← Ny200.out] at ho45))
     have HO202 := A_ (Kd.R_lower (Kd.R_new' (Kd.R_new' (Kd.R_newM (M := fun k_ => (P1_0_ k_ ∨ w.heap.size ≤ k_)) ho45 spec_l01Bad.Z0 (fun k_ h_ => .inr h_)) (Kd.R_lt (ea HO1_0))) (Kd.R_lt (ea HO191))) (below_size (em121 HB)))
     replace HO1_0 := A_ (Kd.R_elder' (ea HO1_0) (Kd.R_base ho45) hb)
     replace HO191 := A_ (Kd.R_elder' (ea HO191) (Kd.R_base ho45) hb)
     replace HI0 := A_ (IsS121.below (ei121 HI0) hb)
     replace BK187 := A_ (eB BK187 hb)
     replace BK188 := A_ (eB BK188 hb)
     replace BK192 := A_ (eB BK192 hb)
     replace HK := A_ (Kept.below (S := (fun k_ => (P1_0_ k_) ∨ k_ = g)) spec_l01Bad.Z3 hb)
     replace HB := A_ (below_step (em121 HB) hb)
     clear hb ho45
     refine hK.out _ _ ⟨(blk_cell BK192.out 0).trans rfl, (blk_cell BK187.out 0).trans rfl⟩ (fun hHeld => ?_)
     clear hK K
     refine norm_ (a' := ?_) ?_ ?_
     rotate_left
     ·show Act.put _ (some 22) _ = _
      simp only [Act.put, List.setIfInBounds_toArray, List.set_cons_zero, List.set_cons_succ, i64_w, i32_w]
      rfl
     refine one_ (i := 4) (N := some 19) (bM 11 223) rfl rfl (one_of HT_.out (by kernel_rfl)) (by decide) (fun K hK => ?_)
     refine goes_ Try.func102 (by kernel_rfl) rfl #[.agg #[.slice Ao29 l1_0.length co29]] (by rfl) rfl rfl eg ?_
     with_reducible refine (spec_l01N.calls _ _ l1_0 t196 _ ?side1 ?side2 A23.out).mono ?_
     (case side1 => exact cS ((Kd.R_reads' HO1_0.out).2.2))
     (case side2 => exact (Kd.R_reads' HO1_0.out).2.1)
     rintro e w46 ⟨rfl, hb⟩
     refine ⟨_, rfl, ?_⟩
     replace HO1_0 := A_ (Kd.R_below (ea HO1_0) hb)
     replace HO191 := A_ (Kd.R_below (ea HO191) hb)
     replace HO202 := A_ (Kd.R_below (ea HO202) hb)
     replace HI0 := A_ (IsS121.below (ei121 HI0) hb)
     replace BK187 := A_ (eB BK187 hb)
     replace BK188 := A_ (eB BK188 hb)
     replace BK192 := A_ (eB BK192 hb)
     replace HK := A_ (Kept.below (S := (fun k_ => (P1_0_ k_) ∨ k_ = g)) spec_l01Bad.Z3 hb)
     replace HB := A_ (below_step (em121 HB) hb)
     (try clear hb)
     (try clear hb2)
     (try clear hk)
     (try clear hi)
     refine hK.out _ _ ⟨(blk_cell BK192.out 0).trans rfl, (blk_cell BK187.out 0).trans rfl⟩ (fun hHeld => ?_)
     clear hK K
     refine norm_ (a' := ?_) ?_ ?_
     rotate_left
     ·show Act.put _ (some 19) _ = _
      simp only [Act.put, List.setIfInBounds_toArray, List.set_cons_zero, List.set_cons_succ, i64_w, i32_w]
      rfl
     refine one_ (i := 5) (N := some 20) (bM 11 255) rfl rfl (one_of HT_.out (by kernel_rfl)) (by decide) (fun K hK => ?_)
     refine goes_ Try.func123 (by kernel_rfl) rfl #[.pointer (some ⟨g, 0, none⟩), .int .i64 t196] (by rfl) rfl rfl eg ?_
     with_reducible refine (spec_l01Next.calls g s0_0 t194 t195 t196 t197 t198 t199 w0 _ ?side1 ?side2 A24.out).mono ?_
     (case side1 => exact ei121 HI0)
     (case side2 => exact em121 HB)
     rintro e w47 ⟨rfl, hi, hb, hk⟩
     refine ⟨_, rfl, ?_⟩
     replace HO1_0 := A_ (Kd.R_mono (Kd.R_keep (IsS121.apart (show IsS121 w0 _ g s0_0 t194 t195 from ei121 HI0) (ea HO1_0) (by decide)) hk (fun _ h => h.2)) (fun _ h => h.1))
     replace BK187 := A_ (KeepBut.blk hk (g' := gb187) (o := .cells #[.slice Ao29 l1_0.length co29] 26 (0, 0)) (eb BK187) NB187_0.out (by simp))
     replace BK188 := A_ (KeepBut.blk hk (g' := gb188) (o := .cells #[.slice none 0 0] 26 (0, 0)) (eb BK188) NB188_0.out (by simp))
     replace HO191 := A_ (Kd.R_mono (Kd.R_keep (IsS121.apart (show IsS121 w0 _ g s0_0 t194 t195 from ei121 HI0) (ea HO191) (by decide)) hk (fun _ h => h.2)) (fun _ h => h.1))
     replace BK192 := A_ (KeepBut.blk hk (g' := gb192) (o := .cells #[.slice Ao37 t189.length co37] 26 (0, 0)) (eb BK192) NB192_0.out (by simp))
     replace HO202 := A_ (Kd.R_mono (Kd.R_keep (IsS121.apart (show IsS121 w0 _ g s0_0 t194 t195 from ei121 HI0) (ea HO202) (by decide)) hk (fun _ h => h.2)) (fun _ h => h.1))
     replace HK := A_ (Kept.of_keep (S := (fun k_ => (P1_0_ k_) ∨ k_ = g)) spec_l01Bad.Z3 hk (.inl (.inr rfl)))
     replace HB := A_ hb
     replace HI0 := A_ hi
     (try clear hb)
     (try clear hb2)
     (try clear hk)
     (try clear hi)
     refine hK.out _ _ ⟨(blk_cell BK192.out 0).trans rfl, (blk_cell BK187.out 0).trans rfl⟩ (fun hHeld => ?_)
     clear hK K
     refine norm_ (a' := ?_) ?_ ?_
     rotate_left
     ·show Act.put _ (some 20) _ = _
      simp only [Act.put, List.setIfInBounds_toArray, List.set_cons_zero, List.set_cons_succ, i64_w, i32_w]
      rfl
     exact norm_ spec_l01Bad.Z13 (hCont (v201) _ ⟨hHeld, spec_l01Bad.Z10, spec_l01Bad.Z12, spec_l01Bad.Z11, (eb BK187), (eb BK188), (eb BK192), (ei121 HI0), spec_l01Bad.Z3, (em121 HB)⟩)
   rintro v201 w48 ⟨hS_, h0_, h1_, h2_, h3_, h4_, h5_, h6_, h7_, h8_⟩
   replace HO191 : Aside0 (Kd.R (Kd.int .i64) 2 w48 w0.heap.size (fun k_ => (P1_0_ k_ ∨ w.heap.size ≤ k_) ∧ some k_ ≠ (.slice Ao29 l1_0.length co29 : Value).ownBlock ∧ some k_ ≠ (v201 : Value).ownBlock) (.slice Ao37 t189.length co37) t189) := ⟨h0_⟩
   replace HO1_0 : Aside0 (Kd.R (Kd.int .i64) 2 w48 w0.heap.size (fun k_ => (P1_0_ k_ ∨ w.heap.size ≤ k_) ∧ some k_ ≠ (.slice Ao37 t189.length co37 : Value).ownBlock ∧ some k_ ≠ (v201 : Value).ownBlock) (.slice Ao29 l1_0.length co29) l1_0) := ⟨h1_⟩
   have HO202 : Aside0 (Kd.R (Kd.int .i64) 2 w48 w0.heap.size (fun k_ => (P1_0_ k_ ∨ w.heap.size ≤ k_) ∧ some k_ ≠ (.slice Ao37 t189.length co37 : Value).ownBlock ∧ some k_ ≠ (.slice Ao29 l1_0.length co29 : Value).ownBlock) v201 y200) := ⟨h2_⟩
   replace BK187 : Aside0 (w48.heap[gb187]? = some (.cells #[.slice Ao29 l1_0.length co29] 26 (0, 0))) := ⟨h3_⟩
   replace BK188 : Aside0 (w48.heap[gb188]? = some (.cells #[.slice none 0 0] 26 (0, 0))) := ⟨h4_⟩
   replace BK192 : Aside0 (w48.heap[gb192]? = some (.cells #[.slice Ao37 t189.length co37] 26 (0, 0))) := ⟨h5_⟩
   replace HI0 : Aside0 (IsS121 w0 w48 g s0_0 t198 t199) := ⟨h6_⟩
   replace HK : Aside0 (Kept w w48 (fun k_ => (P1_0_ k_) ∨ k_ = g)) := ⟨h7_⟩
   replace HB : Aside0 (Below w0.heap.size w0 w48) := ⟨h8_⟩
   clear h0_ h1_ h2_ h3_ h4_ h5_ h6_ h7_ h8_
   have hHeld : w48.cell? ⟨gb192, 0, none⟩ = some (.slice Ao37 t189.length co37) ∧ w48.cell? ⟨gb187, 0, none⟩ = some (.slice Ao29 l1_0.length co29) := hS_
   obtain ⟨Ao49, co49, eo49⟩ := Kd.R_slice HO202.out
   (first | subst eo49 | (injection eo49 with f1_ f2_ f3_; have f4_ := f1_.symm; have f5_ := f3_.symm; clear f1_ f2_ f3_; subst f4_; subst f5_))
   refine norm_ (a' := ?_) ?_ ?_
   rotate_left
   ·simp only [putAll, Act.put, List.setIfInBounds_toArray, List.set_cons_zero, List.set_cons_succ]
    rfl
   refine one_ (i := 8) (N := some 23) (bM 11 511) rfl rfl (one_of HT_.out (by kernel_rfl)) (by decide) (fun K hK => ?_)
   refine goes_ Try.func147 (by kernel_rfl) rfl #[.pointer (some ⟨g, 0, none⟩), .slice Ao49 y200.length co49] (by rfl) rfl rfl eg ?_
   with_reducible refine (spec_l01Pick.calls g s0_0 t198 t199 _ _ y200 t203 t204 t205 w0 _ ?side1 ?side2 ?side3 ?side4 ?side5 A25.out).mono ?_
   (case side1 => exact ei121 HI0)
   (case side2 => exact em121 HB)
   (case side3 => exact cS ((Kd.R_reads' HO202.out).2.2))
   (case side4 => exact (Kd.R_reads' HO202.out).2.1)
   (case side5 => exact far_slice (IsS121.own_ne HI0.out HO202.out (by decide)))
   rintro e w50 ⟨rfl, hi, hb, hk⟩
   refine ⟨_, rfl, ?_⟩
   replace HO1_0 := A_ (Kd.R_mono (Kd.R_keep (IsS121.apart (show IsS121 w0 _ g s0_0 t198 t199 from ei121 HI0) (ea HO1_0) (by decide)) hk (fun _ h => h.2)) (fun _ h => h.1))
   replace BK187 := A_ (KeepBut.blk hk (g' := gb187) (o := .cells #[.slice Ao29 l1_0.length co29] 26 (0, 0)) (eb BK187) NB187_0.out (by simp))
   replace BK188 := A_ (KeepBut.blk hk (g' := gb188) (o := .cells #[.slice none 0 0] 26 (0, 0)) (eb BK188) NB188_0.out (by simp))
   replace HO191 := A_ (Kd.R_mono (Kd.R_keep (IsS121.apart (show IsS121 w0 _ g s0_0 t198 t199 from ei121 HI0) (ea HO191) (by decide)) hk (fun _ h => h.2)) (fun _ h => h.1))
   replace BK192 := A_ (KeepBut.blk hk (g' := gb192) (o := .cells #[.slice Ao37 t189.length co37] 26 (0, 0)) (eb BK192) NB192_0.out (by simp))
   replace HO202 := A_ (Kd.R_mono (Kd.R_keep (IsS121.apart (show IsS121 w0 _ g s0_0 t198 t199 from ei121 HI0) (ea HO202) (by decide)) hk (fun _ h => h.2)) (fun _ h => h.1))
   replace HK := A_ (Kept.of_keep (S := (fun k_ => (P1_0_ k_) ∨ k_ = g)) spec_l01Bad.Z3 hk (.inl (.inr rfl)))
   replace HB := A_ hb
   replace HI0 := A_ hi
   (try clear hb)
   (try clear hb2)
   (try clear hk)
   (try clear hi)
   have p28 : 0 ≤ (t197 : Int) := of_decide_eq_true spec_l01Bad.Z14
   have q28 : (t197 : Int) < ((t189.length : Int) : Int) := of_decide_eq_true spec_l01Bad.Z14
   obtain ⟨go28, co28, eo28, gb28, gl28, cl28, HG28⟩ := Kd.R_form HO191.out (by omega)
   (first | cases eo28 | (injection eo28 with ea_ en_ ec_; (first | subst ea_ | (injection ea_ with ea_; subst ea_)); subst ec_; clear en_))
   have GB28 := A_ gb28
   have GG28 := A_ HG28
   clear gb28 gl28 HG28
   have HMgo28 := A_ (show (P1_0_ go28 ∨ w.heap.size ≤ go28) from (HO191.out.1 _ rfl).1)
   obtain ⟨hx28_0, hf28_0⟩ := Kd.R_celln 0 HO191.out (t197 : Int) p28 q28
   replace p28 := eq_true p28
   replace q28 := eq_true q28
   have HN0_go28 := A_ (show g ≠ go28 from by have h_ := IsS121.own_ne HI0.out HO191.out (by decide); intro e_; exact h_ (by rw [e_]; rfl))
   have HP51 := Kd.R_putn HO191.out (t197 : Int) t203
   rw [← Ny206.out] at HP51
   have HQ51 := A_ HP51
   clear HP51
   refine hK.out _ _ ⟨(blk_cell BK192.out 0).trans rfl, (blk_cell BK187.out 0).trans rfl⟩ (fun hHeld => ?_)
   clear hK K
   refine norm_ (a' := ?_) ?_ ?_
   rotate_left
   ·show Act.put _ (some 23) _ = _
    simp only [Act.put, List.setIfInBounds_toArray, List.set_cons_zero, List.set_cons_succ, i64_w, i32_w]
    rfl
   refine pA 9 24 (bM 11 1023) HT_ ?_
   refine last_ (i := 10) (N := none) (bM 11 2047) rfl rfl (one_of HT_.out (by kernel_rfl)) (by decide) (fun K hK => ?_)
   refine skip_ (w1 := ?_) (by rfl) rfl ?_ ?_
   rotate_left
   ·go_simp
    rfl
   refine hK.out _ _ ?_
   clear hK K
   refine done_ (done_of HT_.out (by kernel_rfl)) ?_
   have n0_ : Aside0 (Kd.R (Kd.int .i64) 2 (w50.setCell ⟨go28, (t197 : Int).toNat, none⟩ (.int .i64 t203)) w0.heap.size (fun k_ => (P1_0_ k_ ∨ w.heap.size ≤ k_) ∧ some k_ ≠ (.slice (some ⟨go28, 0, none⟩) t189.length co37 : Value).ownBlock ∧ some k_ ≠ (.slice Ao49 y200.length co49 : Value).ownBlock) (.slice Ao29 l1_0.length co29) l1_0) := ⟨by (with_reducible repeat (first | apply Kd.R_alloc | apply Kd.R_drewN | apply Kd.R_drew)); exact Kd.R_mono (Kd.R_far (p := ⟨go28, (t197 : Int).toNat, none⟩) (Kd.R_mono HO1_0.out (fun k_ hk => (⟨hk, fun e_ => hk.2.1 (by rw [e_]; rfl)⟩ : _ ∧ k_ ≠ go28))) (fun _ hk => hk.2) (.int .i64 t203)) (fun _ hk => ⟨hk.1.1, ⟨hk.1.2.1, hk.1.2.2⟩⟩)⟩
   have n1_ : Aside0 (Kd.R (Kd.int .i64) 2 (w50.setCell ⟨go28, (t197 : Int).toNat, none⟩ (.int .i64 t203)) w0.heap.size (fun k_ => (P1_0_ k_ ∨ w.heap.size ≤ k_) ∧ some k_ ≠ (.slice Ao29 l1_0.length co29 : Value).ownBlock ∧ some k_ ≠ (.slice Ao49 y200.length co49 : Value).ownBlock) (.slice (some ⟨go28, 0, none⟩) t189.length co37) y206) := ⟨ea HQ51⟩
   have n2_ : Aside0 (Kd.R (Kd.int .i64) 2 (w50.setCell ⟨go28, (t197 : Int).toNat, none⟩ (.int .i64 t203)) w0.heap.size (fun k_ => (P1_0_ k_ ∨ w.heap.size ≤ k_) ∧ some k_ ≠ (.slice Ao29 l1_0.length co29 : Value).ownBlock ∧ some k_ ≠ (.slice (some ⟨go28, 0, none⟩) t189.length co37 : Value).ownBlock) (.slice Ao49 y200.length co49) y200) := ⟨by (with_reducible repeat (first | apply Kd.R_alloc | apply Kd.R_drewN | apply Kd.R_drew)); exact Kd.R_mono (Kd.R_far (p := ⟨go28, (t197 : Int).toNat, none⟩) (Kd.R_mono HO202.out (fun k_ hk => (⟨hk, fun e_ => hk.2.1 (by rw [e_]; rfl)⟩ : _ ∧ k_ ≠ go28))) (fun _ hk => hk.2) (.int .i64 t203)) (fun _ hk => ⟨hk.1.1, ⟨hk.1.2.2, hk.1.2.1⟩⟩)⟩
   have n3_ : Aside0 ((w50.setCell ⟨go28, (t197 : Int).toNat, none⟩ (.int .i64 t203)).heap[gb187]? = some (.cells #[.slice Ao29 l1_0.length co29] 26 (0, 0))) := ⟨by (with_reducible repeat (first | refine blk_drewN ?_ _ | refine blk_drew ?_ | refine blk_alloc ?_ _)); refine blk_far ?_ (by have h_ := Kd.R_ne HO191.out BK187.out (by decide); intro e_; exact h_ (by rw [e_]; rfl)) _; (with_reducible repeat (first | refine blk_drewN ?_ _ | refine blk_drew ?_ | refine blk_alloc ?_ _)); exact BK187.out⟩
   have n4_ : Aside0 ((w50.setCell ⟨go28, (t197 : Int).toNat, none⟩ (.int .i64 t203)).heap[gb188]? = some (.cells #[.slice none 0 0] 26 (0, 0))) := ⟨by (with_reducible repeat (first | refine blk_drewN ?_ _ | refine blk_drew ?_ | refine blk_alloc ?_ _)); refine blk_far ?_ (by have h_ := Kd.R_ne HO191.out BK188.out (by decide); intro e_; exact h_ (by rw [e_]; rfl)) _; (with_reducible repeat (first | refine blk_drewN ?_ _ | refine blk_drew ?_ | refine blk_alloc ?_ _)); exact BK188.out⟩
   have n5_ : Aside0 ((w50.setCell ⟨go28, (t197 : Int).toNat, none⟩ (.int .i64 t203)).heap[gb192]? = some (.cells #[.slice (some ⟨go28, 0, none⟩) t189.length co37] 26 (0, 0))) := ⟨by (with_reducible repeat (first | refine blk_drewN ?_ _ | refine blk_drew ?_ | refine blk_alloc ?_ _)); refine blk_far ?_ (by have h_ := Kd.R_ne HO191.out BK192.out (by decide); intro e_; exact h_ (by rw [e_]; rfl)) _; (with_reducible repeat (first | refine blk_drewN ?_ _ | refine blk_drew ?_ | refine blk_alloc ?_ _)); exact BK192.out⟩
   have n6_ : Aside0 (IsS121 w0 (w50.setCell ⟨go28, (t197 : Int).toNat, none⟩ (.int .i64 t203)) g s0_0 t204 t205) := ⟨ei121 HI0⟩
   have n7_ : Aside0 (Kept w (w50.setCell ⟨go28, (t197 : Int).toNat, none⟩ (.int .i64 t203)) (fun k_ => (P1_0_ k_) ∨ k_ = g)) := ⟨by repeat (first | (with_reducible first | exact HK.out | apply Kept.alloc | apply Kept.drewN | apply Kept.drew | refine Kept.setCell ?_ (Or.imp_left Or.inl HMgo28.out) _ | refine Kept.setCell ?_ (.inl (.inr rfl)) _ | refine Kept.setCell ?_ (.inr GW187.out) _ | refine Kept.setCell ?_ (.inr GW188.out) _ | refine Kept.setCell ?_ (.inr GW192.out) _) | exact HK.out)⟩
   have n8_ : Aside0 (Below w0.heap.size w0 (w50.setCell ⟨go28, (t197 : Int).toNat, none⟩ (.int .i64 t203))) := ⟨em121 HB⟩
   (try clear HO1_0)
   (try clear HO191)
   (try clear HO202)
   (try clear BK187)
   (try clear BK188)
   (try clear BK192)
   (try clear HI0)
   (try clear HK)
   (try clear HB)
   generalize (w50.setCell ⟨go28, (t197 : Int).toNat, none⟩ (.int .i64 t203)) = w52 at n0_ n1_ n2_ n3_ n4_ n5_ n6_ n7_ n8_ ⊢
   have HO1_0 := n0_
   have HO191 := n1_
   have HO202 := n2_
   have BK187 := n3_
   have BK188 := n4_
   have BK192 := n5_
   have HI0 := n6_
   have HK := n7_
   have HB := n8_
   clear n0_ n1_ n2_ n3_ n4_ n5_ n6_ n7_ n8_
   have hcz53_0 : w52.cell? ⟨gb192, 0, none⟩ = some (.slice (some ⟨go28, 0, none⟩) t189.length co37) := (blk_cell BK192.out 0).trans rfl
   have hfz53_0 := blk_frozen BK192.out 0
   have hnb54 := NB188_0.out
   have hnc54 := NB0_188.out
   have hcz55_0 : w52.cell? ⟨gb188, 0, none⟩ = some (.slice none 0 0) := (blk_cell BK188.out 0).trans rfl
   have hfz55_0 := blk_frozen BK188.out 0
   try go_wp2
   refine bodyPost_ret (results_cell_row rfl _ _ gb188 26 #[.slice (some ⟨go28, 0, none⟩) t189.length co37] (0, 0) _ rfl spec_l01Bad.Z4 Try.underlying26 rfl (by kernel_rfl)) rfl ?_
   exact ⟨_, er, by (with_reducible repeat (first | apply Kd.R_alloc | apply Kd.R_drewN | apply Kd.R_drew)); exact Kd.R_mono (Kd.R_far (p := ⟨gb188, 0, none⟩) (Kd.R_types HO191.out BK188.out (by decide)) (fun _ hk => hk.2) (.slice (some ⟨go28, 0, none⟩) t189.length co37)) (fun _ hk => hk.1.1), ei121 HI0, em121 HB, by repeat (first | (with_reducible first | exact HK.out | apply Kept.alloc | apply Kept.drewN | apply Kept.drew | refine Kept.setCell ?_ (.inl (.inr rfl)) _ | refine Kept.setCell ?_ (.inr GW187.out) _ | refine Kept.setCell ?_ (.inr GW188.out) _ | refine Kept.setCell ?_ (.inr GW192.out) _) | exact HK.out)⟩
  ·rw [if_neg c22] at H
   have c22b0 : (t193 == 1) = false := beq_eq_false_iff_ne.mpr c22
   have c22b1 : (t193 != 1) = true := bne_iff_ne.mpr c22
   by_cases c56 : t193 = 2
   ·rw [if_pos c56] at H
    have c56b0 : (t193 == 2) = true := beq_iff_eq.mpr c56
    have c56b1 : (t193 != 2) = false := bne_eq_false_iff_eq.mpr c56
    clear c56
    by_cases c57 : t189.length < 17592186044416
    rotate_left
    ·rw [if_neg c57] at H
     exact absurd H (by simp)
    rw [if_pos c57] at H
    have LMc57 := A_ c57
    clear c57
    obtain ⟨y207, hy207⟩ : ∃ y_ : List Int, y_ = (t189 ++ [0]) := ⟨_, rfl⟩
    replace H : (some (y207, t194, t195)) = some (r1, r2, r3) := eH hy207 H
    have Ny207 := A_ hy207
    clear hy207
    simp only [Option.some.injEq, Prod.mk.injEq] at H
    obtain ⟨rfl, rfl, rfl⟩ := H
    obtain ⟨Ao58, co58, eo58⟩ := Kd.R_slice HO1_0.out
    subst eo58
    go_enter Try.func128, Try.ntmps128
    go_wp2_with (first | ((with_reducible refine gate_dst (N := 3) rfl ?_); refine bx 3 #[.slice Ao58 l1_0.length co58] 26 ?_; intro gb187 hg w59 hbox hb; replace HO1_0 := A_ (Kd.R_below (ea HO1_0) hb); have BK187 := A_ hbox; have GW187 := A_ ((by rw [hg]; exact spec_l01Bad.Z6 : w.heap.size ≤ gb187)); replace HK := A_ (Kept.below (S := (fun k_ => (P1_0_ k_) ∨ k_ = g)) spec_l01Bad.Z9 hb); have GE187 := A_ ((by rw [hg]; exact (below_size (em121 HB)) : w0.heap.size ≤ gb187)); replace HB := A_ (below_step (em121 HB) hb); have NB0_187 := A_ ((by rw [hg]; exact Nat.ne_of_lt (IsS121.lt (show IsS121 w0 _ g s0_0 s0_1 s0_2 from ei121 HI0)) : g ≠ gb187)); have NB187_0 := A_ ((by rw [hg]; exact Nat.ne_of_gt (IsS121.lt (show IsS121 w0 _ g s0_0 s0_1 s0_2 from ei121 HI0)) : gb187 ≠ g)); replace HI0 := A_ (IsS121.below (ei121 HI0) hb); clear hb hbox hg) | ((with_reducible refine gate_dst (N := 4) rfl ?_); refine bx 4 #[.slice none 0 0] 26 ?_; intro gb188 hg w60 hbox hb; replace HO1_0 := A_ (Kd.R_below (ea HO1_0) hb); have BK188 := A_ hbox; have GW188 := A_ ((by rw [hg]; exact spec_l01Bad.Z2 : w.heap.size ≤ gb188)); replace HK := A_ (Kept.below (S := (fun k_ => (P1_0_ k_) ∨ k_ = g)) spec_l01Bad.Z8 hb); have GE188 := A_ ((by rw [hg]; exact (below_size (em121 HB)) : w0.heap.size ≤ gb188)); replace HB := A_ (below_step (em121 HB) hb); have NB187_188 := A_ ((by rw [hg]; exact Nat.ne_of_lt (eL BK187) : gb187 ≠ gb188)); have NB188_187 := A_ ((by rw [hg]; exact Nat.ne_of_gt (eL BK187) : gb188 ≠ gb187)); replace BK187 := A_ (eB BK187 hb); have NB0_188 := A_ ((by rw [hg]; exact Nat.ne_of_lt (IsS121.lt (show IsS121 w0 _ g s0_0 s0_1 s0_2 from ei121 HI0)) : g ≠ gb188)); have NB188_0 := A_ ((by rw [hg]; exact Nat.ne_of_gt (IsS121.lt (show IsS121 w0 _ g s0_0 s0_1 s0_2 from ei121 HI0)) : gb188 ≠ g)); replace HI0 := A_ (IsS121.below (ei121 HI0) hb); clear hb hbox hg; have hnb61 := NB187_188.out; have hnc61 := NB188_187.out; have hnb62 := NB187_0.out; have hnc62 := NB0_187.out; have hcz63_0 : w60.cell? ⟨gb187, 0, none⟩ = some (.slice Ao58 l1_0.length co58) := (blk_cell BK187.out 0).trans rfl; have hfz63_0 := blk_frozen BK187.out 0) | ((with_reducible refine gate_callee (f := 169) rfl ?_); refine goesL_ (some 7) rfl rfl Try.func169 (by kernel_rfl) rfl #[.agg #[.slice Ao58 l1_0.length co58]] rfl eg ?_; (with_reducible refine (spec_l01Copy.calls _ _ l1_0 t189 _ ?side1 ?side2 A3.out).mono ?_); (case side1 => exact cS ((Kd.R_reads' HO1_0.out).2.2)); (case side2 => exact (Kd.R_reads' HO1_0.out).2.1); rintro e w64 ⟨v190, rfl, ho0, hb⟩; refine ⟨_, rfl, ?_⟩; have HO191 := A_ (Kd.R_lower (Kd.R_new' (Kd.R_newM (M := fun k_ => (P1_0_ k_ ∨ w.heap.size ≤ k_)) ho0 spec_l01Bad.Z1 (fun k_ h_ => .inr h_)) (Kd.R_lt (ea HO1_0))) (below_size (em121 HB))); replace HO1_0 := A_ (Kd.R_elder' (ea HO1_0) (Kd.R_base ho0) hb); replace HI0 := A_ (IsS121.below (ei121 HI0) hb); replace BK187 := A_ (eB BK187 hb); replace BK188 := A_ (eB BK188 hb); replace HK := A_ (Kept.below (S := (fun k_ => (P1_0_ k_) ∨ k_ = g)) spec_l01Bad.Z7 hb); replace HB := A_ (below_step (em121 HB) hb); (try clear hb); (try clear hb2); (try clear hk); (try clear hi); (try clear ho0)) | ((with_reducible refine gate_dst (N := 5) rfl ?_); refine bx 5 #[.slice none 0 0] 26 ?_; intro gb192 hg w65 hbox hb; replace HO1_0 := A_ (Kd.R_below (ea HO1_0) hb); replace HO191 := A_ (Kd.R_below (ea HO191) hb); have BK192 := A_ hbox; have GW192 := A_ ((by rw [hg]; exact spec_l01Bad.Z1 : w.heap.size ≤ gb192)); replace HK := A_ (Kept.below (S := (fun k_ => (P1_0_ k_) ∨ k_ = g)) spec_l01Bad.Z7 hb); have GE192 := A_ ((by rw [hg]; exact (below_size (em121 HB)) : w0.heap.size ≤ gb192)); replace HB := A_ (below_step (em121 HB) hb); have NB187_192 := A_ ((by rw [hg]; exact Nat.ne_of_lt (eL BK187) : gb187 ≠ gb192)); have NB192_187 := A_ ((by rw [hg]; exact Nat.ne_of_gt (eL BK187) : gb192 ≠ gb187)); replace BK187 := A_ (eB BK187 hb); have NB188_192 := A_ ((by rw [hg]; exact Nat.ne_of_lt (eL BK188) : gb188 ≠ gb192)); have NB192_188 := A_ ((by rw [hg]; exact Nat.ne_of_gt (eL BK188) : gb192 ≠ gb188)); replace BK188 := A_ (eB BK188 hb); have NB0_192 := A_ ((by rw [hg]; exact Nat.ne_of_lt (IsS121.lt (show IsS121 w0 _ g s0_0 s0_1 s0_2 from ei121 HI0)) : g ≠ gb192)); have NB192_0 := A_ ((by rw [hg]; exact Nat.ne_of_gt (IsS121.lt (show IsS121 w0 _ g s0_0 s0_1 s0_2 from ei121 HI0)) : gb192 ≠ g)); replace HI0 := A_ (IsS121.below (ei121 HI0) hb); clear hb hbox hg; obtain ⟨Ao66, co66, eo66⟩ := Kd.R_slice HO191.out; subst eo66; have hnb67 := NB192_187.out; have hnc67 := NB187_192.out; have hnb68 := NB192_188.out; have hnc68 := NB188_192.out; have hnb69 := NB192_0.out; have hnc69 := NB0_192.out; have hcz70_0 : w65.cell? ⟨gb192, 0, none⟩ = some (.slice none 0 0) := (blk_cell BK192.out 0).trans rfl; have hfz70_0 := blk_frozen BK192.out 0) | ((with_reducible refine gate_callee (f := 123) rfl ?_); refine goesL_ (some 9) rfl rfl Try.func123 (by kernel_rfl) rfl #[.pointer (some ⟨g, 0, none⟩), .int .i64 50] rfl eg ?_; (with_reducible refine (spec_l01Next.calls g s0_0 s0_1 s0_2 50 t193 t194 t195 w0 _ ?side1 ?side2 A4.out).mono ?_); (case side1 => exact ei121 HI0); (case side2 => exact em121 HB); rintro e w71 ⟨rfl, hi, hb, hk⟩; refine ⟨_, rfl, ?_⟩; replace HO1_0 := A_ (Kd.R_mono (Kd.R_keep (IsS121.apart (show IsS121 w0 _ g s0_0 s0_1 s0_2 from ei121 HI0) (by (with_reducible repeat (first | apply Kd.R_alloc | apply Kd.R_drewN | apply Kd.R_drew)); exact (Kd.R_mono (Kd.R_far (p := ⟨gb192, 0, none⟩) (Kd.R_types HO1_0.out BK192.out (by decide)) (fun _ hk => hk.2) (.slice Ao66 t189.length co66)) (fun _ h_ => h_.1))) (by decide)) hk (fun _ h => h.2)) (fun _ h => h.1)); replace BK187 := A_ (KeepBut.blk hk (g' := gb187) (o := .cells #[.slice Ao58 l1_0.length co58] 26 (0, 0)) (eb BK187) NB187_0.out (by simp)); replace BK188 := A_ (KeepBut.blk hk (g' := gb188) (o := .cells #[.slice none 0 0] 26 (0, 0)) (eb BK188) NB188_0.out (by simp)); replace HO191 := A_ (Kd.R_mono (Kd.R_keep (IsS121.apart (show IsS121 w0 _ g s0_0 s0_1 s0_2 from ei121 HI0) (by (with_reducible repeat (first | apply Kd.R_alloc | apply Kd.R_drewN | apply Kd.R_drew)); exact (Kd.R_mono (Kd.R_far (p := ⟨gb192, 0, none⟩) (Kd.R_types HO191.out BK192.out (by decide)) (fun _ hk => hk.2) (.slice Ao66 t189.length co66)) (fun _ h_ => h_.1))) (by decide)) hk (fun _ h => h.2)) (fun _ h => h.1)); replace BK192 := A_ (KeepBut.blk hk (g' := gb192) (o := .cells #[.slice Ao66 t189.length co66] 26 (0, 0)) spec_l01Bad.Z5 NB192_0.out (by simp)); replace HK := A_ (Kept.of_keep (S := (fun k_ => (P1_0_ k_) ∨ k_ = g)) spec_l01Bad.Z3 hk (.inl (.inr rfl))); replace HB := A_ hb; replace HI0 := A_ hi; (try clear hb); (try clear hb2); (try clear hk); (try clear hi); have hcz72_0 : w71.cell? ⟨gb192, 0, none⟩ = some (.slice Ao66 t189.length co66) := (blk_cell BK192.out 0).trans rfl; have hfz72_0 := blk_frozen BK192.out 0) | ((with_reducible refine gate_builtin (b := .append) (xs := #[.tmp 29, .tmp 30]) rfl ?_); at_builtin; refine Kd.R_append (Kd.int .i64) (w0 := w0) w0.heap.size rfl (.tmp 29) (.tmp 30) 24 2 (.int .i64 0) 8 rfl Try.underlying24 info2 rfl (by decide) (by omega) (.slice Ao66 t189.length co66) t189 0 [.int .i64 0] (fun k_ => (P1_0_ k_ ∨ w.heap.size ≤ k_) ∧ some k_ ≠ (.slice Ao58 l1_0.length co58 : Value).ownBlock) (fun _ => False) rfl rfl ?aP (fun _ hk => hk.elim) ?aF ?aO ?aB ?aS ?aL ?_; (case aP => exact rfl); (case aB => exact (em121 HB)); (case aF => exact (fun k_ hk => ⟨(.inr (Nat.le_trans spec_l01Bad.Z0 hk)), Kd.fresh' (Kd.R_lt (ea HO1_0)) k_ hk⟩)); (case aO => exact (by (with_reducible repeat (first | apply Kd.R_alloc | apply Kd.R_drewN | apply Kd.R_drew)); exact Kd.R_mono HO191.out (fun _ hk => ⟨hk.1.1, hk.2⟩))); (case aS => exact (below_size (em121 HB))); (case aL => have := LMc57.out; omega); intro v208 w73 ho hb hg hat; rw [← Ny207.out] at ho; replace HI0 := A_ (IsS121.grown (ei121 HI0) hg (IsS121.own_ne HI0.out HO191.out (by decide))); replace HO1_0 := A_ (Kd.R_after (ok := (fun k_ => (P1_0_ k_ ∨ w.heap.size ≤ k_))) (ea HO1_0) hg hat); replace BK187 := A_ (blk_grown (g := gb187) (o := .cells #[.slice Ao58 l1_0.length co58] 26 (0, 0)) (eb BK187) hg (Kd.R_ne HO191.out BK187.out (by decide))); replace BK188 := A_ (blk_grown (g := gb188) (o := .cells #[.slice none 0 0] 26 (0, 0)) (eb BK188) hg (Kd.R_ne HO191.out BK188.out (by decide))); replace BK192 := A_ (blk_grown (g := gb192) (o := .cells #[.slice Ao66 t189.length co66] 26 (0, 0)) (eb BK192) hg (Kd.R_ne HO191.out BK192.out (by decide))); replace HB := A_ hb; replace HK := A_ (Kept.of_grown (S := (fun k_ => (P1_0_ k_) ∨ k_ = g)) hg spec_l01Bad.Z3 (fun k_ e_ => Or.imp_left Or.inl ((HO191.out.1 k_ e_).1.1))); have HO209 := A_ ho; clear HO191; clear ho hb hg hat; obtain ⟨Ao74, co74, eo74⟩ := Kd.R_slice HO209.out; subst eo74; have hcz75_0 : w73.cell? ⟨gb192, 0, none⟩ = some (.slice Ao66 t189.length co66) := (blk_cell BK192.out 0).trans rfl; have hfz75_0 := blk_frozen BK192.out 0; have hnb76 := NB188_0.out; have hnc76 := NB0_188.out; have hcz77_0 : w73.cell? ⟨gb188, 0, none⟩ = some (.slice none 0 0) := (blk_cell BK188.out 0).trans rfl; have hfz77_0 := blk_frozen BK188.out 0))
    refine bodyPost_ret (results_cell_row rfl _ _ gb188 26 #[.slice Ao74 y207.length co74] (0, 0) _ rfl (by (with_reducible repeat (first | refine blk_drewN ?_ _ | refine blk_drew ?_ | refine blk_alloc ?_ _)); refine blk_put (cs := #[.slice none 0 0]) ?_ 0 _ rfl; (with_reducible repeat (first | refine blk_drewN ?_ _ | refine blk_drew ?_ | refine blk_alloc ?_ _)); refine blk_far ?_ NB188_192.out _; (with_reducible repeat (first | refine blk_drewN ?_ _ | refine blk_drew ?_ | refine blk_alloc ?_ _)); exact BK188.out) Try.underlying26 rfl (by kernel_rfl)) rfl ?_
    exact ⟨_, er, by (with_reducible repeat (first | apply Kd.R_alloc | apply Kd.R_drewN | apply Kd.R_drew)); exact Kd.R_mono (Kd.R_far (p := ⟨gb188, 0, none⟩) (Kd.R_far (p := ⟨gb192, 0, none⟩) (Kd.R_types (Kd.R_types HO209.out BK192.out (by decide)) BK188.out (by decide)) (fun _ hk => hk.1.2) (.slice Ao74 y207.length co74)) (fun _ hk => hk.2) (.slice Ao74 y207.length co74)) (fun _ hk => hk.1.1.1), ei121 HI0, em121 HB, by repeat (first | (with_reducible first | exact HK.out | apply Kept.alloc | apply Kept.drewN | apply Kept.drew | refine Kept.setCell ?_ (.inl (.inr rfl)) _ | refine Kept.setCell ?_ (.inr GW187.out) _ | refine Kept.setCell ?_ (.inr GW188.out) _ | refine Kept.setCell ?_ (.inr GW192.out) _) | exact HK.out)⟩
   ·rw [if_neg c56] at H
    have c56b0 : (t193 == 2) = false := beq_eq_false_iff_ne.mpr c56
    have c56b1 : (t193 != 2) = true := bne_iff_ne.mpr c56
    simp only [Option.some.injEq, Prod.mk.injEq] at H
    obtain ⟨rfl, rfl, rfl⟩ := H
    obtain ⟨Ao78, co78, eo78⟩ := Kd.R_slice HO1_0.out
    subst eo78
    go_enter Try.func128, Try.ntmps128
    go_wp2_with (first | ((with_reducible refine gate_dst (N := 3) rfl ?_); refine bx 3 #[.slice Ao78 l1_0.length co78] 26 ?_; intro gb187 hg w79 hbox hb; replace HO1_0 := A_ (Kd.R_below (ea HO1_0) hb); have BK187 := A_ hbox; have GW187 := A_ ((by rw [hg]; exact spec_l01Bad.Z6 : w.heap.size ≤ gb187)); replace HK := A_ (Kept.below (S := (fun k_ => (P1_0_ k_) ∨ k_ = g)) spec_l01Bad.Z9 hb); have GE187 := A_ ((by rw [hg]; exact (below_size (em121 HB)) : w0.heap.size ≤ gb187)); replace HB := A_ (below_step (em121 HB) hb); have NB0_187 := A_ ((by rw [hg]; exact Nat.ne_of_lt (IsS121.lt (show IsS121 w0 _ g s0_0 s0_1 s0_2 from ei121 HI0)) : g ≠ gb187)); have NB187_0 := A_ ((by rw [hg]; exact Nat.ne_of_gt (IsS121.lt (show IsS121 w0 _ g s0_0 s0_1 s0_2 from ei121 HI0)) : gb187 ≠ g)); replace HI0 := A_ (IsS121.below (ei121 HI0) hb); clear hb hbox hg) | ((with_reducible refine gate_dst (N := 4) rfl ?_); refine bx 4 #[.slice none 0 0] 26 ?_; intro gb188 hg w80 hbox hb; replace HO1_0 := A_ (Kd.R_below (ea HO1_0) hb); have BK188 := A_ hbox; have GW188 := A_ ((by rw [hg]; exact spec_l01Bad.Z2 : w.heap.size ≤ gb188)); replace HK := A_ (Kept.below (S := (fun k_ => (P1_0_ k_) ∨ k_ = g)) spec_l01Bad.Z8 hb); have GE188 := A_ ((by rw [hg]; exact (below_size (em121 HB)) : w0.heap.size ≤ gb188)); replace HB := A_ (below_step (em121 HB) hb); have NB187_188 := A_ ((by rw [hg]; exact Nat.ne_of_lt (eL BK187) : gb187 ≠ gb188)); have NB188_187 := A_ ((by rw [hg]; exact Nat.ne_of_gt (eL BK187) : gb188 ≠ gb187)); replace BK187 := A_ (eB BK187 hb); have NB0_188 := A_ ((by rw [hg]; exact Nat.ne_of_lt (IsS121.lt (show IsS121 w0 _ g s0_0 s0_1 s0_2 from ei121 HI0)) : g ≠ gb188)); have NB188_0 := A_ ((by rw [hg]; exact Nat.ne_of_gt (IsS121.lt (show IsS121 w0 _ g s0_0 s0_1 s0_2 from ei121 HI0)) : gb188 ≠ g)); replace HI0 := A_ (IsS121.below (ei121 HI0) hb); clear hb hbox hg; have hnb81 := NB187_188.out; have hnc81 := NB188_187.out; have hnb82 := NB187_0.out; have hnc82 := NB0_187.out; have hcz83_0 : w80.cell? ⟨gb187, 0, none⟩ = some (.slice Ao78 l1_0.length co78) := (blk_cell BK187.out 0).trans rfl; have hfz83_0 := blk_frozen BK187.out 0) | ((with_reducible refine gate_callee (f := 169) rfl ?_); refine goesL_ (some 7) rfl rfl Try.func169 (by kernel_rfl) rfl #[.agg #[.slice Ao78 l1_0.length co78]] rfl eg ?_; (with_reducible refine (spec_l01Copy.calls _ _ l1_0 t189 _ ?side1 ?side2 A3.out).mono ?_); (case side1 => exact cS ((Kd.R_reads' HO1_0.out).2.2)); (case side2 => exact (Kd.R_reads' HO1_0.out).2.1); rintro e w84 ⟨v190, rfl, ho0, hb⟩; refine ⟨_, rfl, ?_⟩; have HO191 := A_ (Kd.R_lower (Kd.R_new' (Kd.R_newM (M := fun k_ => (P1_0_ k_ ∨ w.heap.size ≤ k_)) ho0 spec_l01Bad.Z1 (fun k_ h_ => .inr h_)) (Kd.R_lt (ea HO1_0))) (below_size (em121 HB))); replace HO1_0 := A_ (Kd.R_elder' (ea HO1_0) (Kd.R_base ho0) hb); replace HI0 := A_ (IsS121.below (ei121 HI0) hb); replace BK187 := A_ (eB BK187 hb); replace BK188 := A_ (eB BK188 hb); replace HK := A_ (Kept.below (S := (fun k_ => (P1_0_ k_) ∨ k_ = g)) spec_l01Bad.Z7 hb); replace HB := A_ (below_step (em121 HB) hb); (try clear hb); (try clear hb2); (try clear hk); (try clear hi); (try clear ho0)) | ((with_reducible refine gate_dst (N := 5) rfl ?_); refine bx 5 #[.slice none 0 0] 26 ?_; intro gb192 hg w85 hbox hb; replace HO1_0 := A_ (Kd.R_below (ea HO1_0) hb); replace HO191 := A_ (Kd.R_below (ea HO191) hb); have BK192 := A_ hbox; have GW192 := A_ ((by rw [hg]; exact spec_l01Bad.Z1 : w.heap.size ≤ gb192)); replace HK := A_ (Kept.below (S := (fun k_ => (P1_0_ k_) ∨ k_ = g)) spec_l01Bad.Z7 hb); have GE192 := A_ ((by rw [hg]; exact (below_size (em121 HB)) : w0.heap.size ≤ gb192)); replace HB := A_ (below_step (em121 HB) hb); have NB187_192 := A_ ((by rw [hg]; exact Nat.ne_of_lt (eL BK187) : gb187 ≠ gb192)); have NB192_187 := A_ ((by rw [hg]; exact Nat.ne_of_gt (eL BK187) : gb192 ≠ gb187)); replace BK187 := A_ (eB BK187 hb); have NB188_192 := A_ ((by rw [hg]; exact Nat.ne_of_lt (eL BK188) : gb188 ≠ gb192)); have NB192_188 := A_ ((by rw [hg]; exact Nat.ne_of_gt (eL BK188) : gb192 ≠ gb188)); replace BK188 := A_ (eB BK188 hb); have NB0_192 := A_ ((by rw [hg]; exact Nat.ne_of_lt (IsS121.lt (show IsS121 w0 _ g s0_0 s0_1 s0_2 from ei121 HI0)) : g ≠ gb192)); have NB192_0 := A_ ((by rw [hg]; exact Nat.ne_of_gt (IsS121.lt (show IsS121 w0 _ g s0_0 s0_1 s0_2 from ei121 HI0)) : gb192 ≠ g)); replace HI0 := A_ (IsS121.below (ei121 HI0) hb); clear hb hbox hg; obtain ⟨Ao86, co86, eo86⟩ := Kd.R_slice HO191.out; subst eo86; have hnb87 := NB192_187.out; have hnc87 := NB187_192.out; have hnb88 := NB192_188.out; have hnc88 := NB188_192.out; have hnb89 := NB192_0.out; have hnc89 := NB0_192.out; have hcz90_0 : w85.cell? ⟨gb192, 0, none⟩ = some (.slice none 0 0) := (blk_cell BK192.out 0).trans rfl; have hfz90_0 := blk_frozen BK192.out 0) | ((with_reducible refine gate_callee (f := 123) rfl ?_); refine goesL_ (some 9) rfl rfl Try.func123 (by kernel_rfl) rfl #[.pointer (some ⟨g, 0, none⟩), .int .i64 50] rfl eg ?_; (with_reducible refine (spec_l01Next.calls g s0_0 s0_1 s0_2 50 t193 t194 t195 w0 _ ?side1 ?side2 A4.out).mono ?_); (case side1 => exact ei121 HI0); (case side2 => exact em121 HB); rintro e w91 ⟨rfl, hi, hb, hk⟩; refine ⟨_, rfl, ?_⟩; replace HO1_0 := A_ (Kd.R_mono (Kd.R_keep (IsS121.apart (show IsS121 w0 _ g s0_0 s0_1 s0_2 from ei121 HI0) (by (with_reducible repeat (first | apply Kd.R_alloc | apply Kd.R_drewN | apply Kd.R_drew)); exact (Kd.R_mono (Kd.R_far (p := ⟨gb192, 0, none⟩) (Kd.R_types HO1_0.out BK192.out (by decide)) (fun _ hk => hk.2) (.slice Ao86 t189.length co86)) (fun _ h_ => h_.1))) (by decide)) hk (fun _ h => h.2)) (fun _ h => h.1)); replace BK187 := A_ (KeepBut.blk hk (g' := gb187) (o := .cells #[.slice Ao78 l1_0.length co78] 26 (0, 0)) (eb BK187) NB187_0.out (by simp)); replace BK188 := A_ (KeepBut.blk hk (g' := gb188) (o := .cells #[.slice none 0 0] 26 (0, 0)) (eb BK188) NB188_0.out (by simp)); replace HO191 := A_ (Kd.R_mono (Kd.R_keep (IsS121.apart (show IsS121 w0 _ g s0_0 s0_1 s0_2 from ei121 HI0) (by (with_reducible repeat (first | apply Kd.R_alloc | apply Kd.R_drewN | apply Kd.R_drew)); exact (Kd.R_mono (Kd.R_far (p := ⟨gb192, 0, none⟩) (Kd.R_types HO191.out BK192.out (by decide)) (fun _ hk => hk.2) (.slice Ao86 t189.length co86)) (fun _ h_ => h_.1))) (by decide)) hk (fun _ h => h.2)) (fun _ h => h.1)); replace BK192 := A_ (KeepBut.blk hk (g' := gb192) (o := .cells #[.slice Ao86 t189.length co86] 26 (0, 0)) spec_l01Bad.Z5 NB192_0.out (by simp)); replace HK := A_ (Kept.of_keep (S := (fun k_ => (P1_0_ k_) ∨ k_ = g)) spec_l01Bad.Z3 hk (.inl (.inr rfl))); replace HB := A_ hb; replace HI0 := A_ hi; (try clear hb); (try clear hb2); (try clear hk); (try clear hi); have hcz92_0 : w91.cell? ⟨gb187, 0, none⟩ = some (.slice Ao78 l1_0.length co78) := (blk_cell BK187.out 0).trans rfl; have hfz92_0 := blk_frozen BK187.out 0; have hnb93 := NB188_0.out; have hnc93 := NB0_188.out; have hcz94_0 : w91.cell? ⟨gb188, 0, none⟩ = some (.slice none 0 0) := (blk_cell BK188.out 0).trans rfl; have hfz94_0 := blk_frozen BK188.out 0))
    refine bodyPost_ret (results_cell_row rfl _ _ gb188 26 #[.slice Ao78 l1_0.length co78] (0, 0) _ rfl spec_l01Bad.Z4 Try.underlying26 rfl (by kernel_rfl)) rfl ?_
    exact ⟨_, er, by (with_reducible repeat (first | apply Kd.R_alloc | apply Kd.R_drewN | apply Kd.R_drew)); exact Kd.R_mono (Kd.R_far (p := ⟨gb188, 0, none⟩) (Kd.R_types HO1_0.out BK188.out (by decide)) (fun _ hk => hk.2) (.slice Ao78 l1_0.length co78)) (fun _ hk => hk.1.1), ei121 HI0, em121 HB, by repeat (first | (with_reducible first | exact HK.out | apply Kept.alloc | apply Kept.drewN | apply Kept.drew | refine Kept.setCell ?_ (.inl (.inr rfl)) _ | refine Kept.setCell ?_ (.inr GW187.out) _ | refine Kept.setCell ?_ (.inr GW188.out) _ | refine Kept.setCell ?_ (.inr GW192.out) _) | exact HK.out)⟩

/-! ### spec_l01Spoil: function 98 -/
def spec_l01Spoil.f (k : Nat) (s0_0 : List Int) (s0_1 : Int) (s0_2 : Int) : Option (List Int × Int × Int) := (spec_l01Draw.f k s0_0 s0_1 s0_2).bind fun bt211 => ((spec_l01Bad.f s0_0 bt211.2.1 bt211.2.2 bt211.1).bind fun bt216 => (some (bt216.1, bt216.2.1, bt216.2.2)))
theorem spec_l01Spoil.mono : ∀ a0 a1 a2 k, LeO (spec_l01Spoil.f k a0 a1 a2) (spec_l01Spoil.f (k + 1) a0 a1 a2) := by
  intro a0 a1 a2 k
  unfold spec_l01Spoil.f
  repeat' first | (with_reducible first | exact spec_l01Draw.mono _ _ _ _ | exact LeO.refl _ | exact LeO.none _ | refine LeO.ite ?_ ?_ | refine LeO.bind ?_ (fun _ => ?_)) | exact spec_l01Draw.mono _ _ _ _ | exact LeO.none _ | refine LeO.ite ?_ ?_ | refine LeO.bind ?_ (fun _ => ?_)
theorem spec_l01Spoil.calls (k : Nat) (g : Nat) (s0_0 : List Int) (s0_1 : Int) (s0_2 : Int) (r1 : List Int) (r2 : Int) (r3 : Int) (w0 w : World) (hI : IsS121 w0 w g s0_0 s0_1 s0_2) (hB : Below w0.heap.size w0 w) (h : spec_l01Spoil.f k s0_0 s0_1 s0_2 = some (r1, r2, r3)) :
  Calls Try.prog 98 #[.pointer (some ⟨g, 0, none⟩)] w fun e w' => ∃ v0_ : Value, e = .returned (.agg #[v0_]) ∧ Kd.R (Kd.int .i64) 2 w' w.heap.size (fun _ => True) v0_ r1 ∧ IsS121 w0 w' g s0_0 r2 r3 ∧ Below w0.heap.size w0 w' ∧ KeepBut w w' g none := by
 have hu26 := Try.underlying26
 have HI0 := A_ hI
 have HK := A_ (KeepBut.refl w g none)
 have HL := A_ hB.size
 clear hI
 have HW0 := A_ hB.size
 have HB := A_ hB
 clear hB
 have H : ((spec_l01Draw.f k s0_0 s0_1 s0_2).bind fun bt211 => ((spec_l01Bad.f s0_0 bt211.2.1 bt211.2.2 bt211.1).bind fun bt216 => (some (bt216.1, bt216.2.1, bt216.2.2)))) = some (r1, r2, r3) := h
 clear h
 replace H := Option.bind_eq_some_iff.mp H
 obtain ⟨⟨t211, t214, t215⟩, A20, H⟩ := H
 replace H : ((spec_l01Bad.f s0_0 t214 t215 t211).bind fun bt216 => (some (bt216.1, bt216.2.1, bt216.2.2))) = some (r1, r2, r3) := H
 have A2 := A_ A20
 clear A20
 replace H := Option.bind_eq_some_iff.mp H
 obtain ⟨⟨t216, t219, t220⟩, A30, H⟩ := H
 replace H : (some (t216, t219, t220)) = some (r1, r2, r3) := H
 have A3 := A_ A30
 clear A30
 simp only [Option.some.injEq, Prod.mk.injEq] at H
 obtain ⟨rfl, rfl, rfl⟩ := H
 go_enter Try.func98, Try.ntmps98
 go_wp2_with (first | ((with_reducible refine gate_dst (N := 2) rfl ?_); refine bx 2 #[.slice none 0 0] 26 ?_; intro gb210 hg w4 hbox hb; replace HB := A_ (below_step (em121 HB) hb); have BK210 := A_ hbox; have GW210 := A_ ((by rw [hg]; exact (keep_size (w := w) (g := g) (row := none) (ek HK)) : w.heap.size ≤ gb210)); have GE210 := A_ ((Nat.le_trans HW0.out (by rw [hg]; exact (keep_size (w := w) (g := g) (row := none) (ek HK)) : w.heap.size ≤ gb210) : w0.heap.size ≤ gb210)); replace HK := A_ (KeepBut.trans (ek HK) (KeepBut.of_below hb g none) (.inl rfl)); have NB0_210 := A_ ((by rw [hg]; exact Nat.ne_of_lt (IsS121.lt (show IsS121 w0 _ g s0_0 s0_1 s0_2 from ei121 HI0)) : g ≠ gb210)); have NB210_0 := A_ ((by rw [hg]; exact Nat.ne_of_gt (IsS121.lt (show IsS121 w0 _ g s0_0 s0_1 s0_2 from ei121 HI0)) : gb210 ≠ g)); replace HI0 := A_ (IsS121.below (ei121 HI0) hb); clear hb hbox hg) | ((with_reducible refine gate_callee (f := 122) rfl ?_); refine goesL_ (some 5) rfl rfl Try.func122 (by kernel_rfl) rfl #[.pointer (some ⟨g, 0, none⟩)] rfl eg ?_; (with_reducible refine (spec_l01Draw.calls k g s0_0 s0_1 s0_2 t211 t214 t215 w0 _ ?side1 ?side2 A2.out).mono ?_); (case side1 => exact ei121 HI0); (case side2 => exact em121 HB); rintro e w5 ⟨v212, rfl, ho0, hi, hb, hk⟩; refine ⟨_, rfl, ?_⟩; replace BK210 := A_ (KeepBut.blk hk (g' := gb210) (o := .cells #[.slice none 0 0] 26 (0, 0)) (eb BK210) NB210_0.out (by simp)); have HO213 := A_ (Kd.R_lower ho0 (keep_size (w := w) (g := g) (row := none) (ek HK))); replace HK := A_ (KeepBut.trans (ek HK) hk (.inl rfl)); replace HB := A_ hb; replace HI0 := A_ hi; (try clear hb); (try clear hb2); (try clear hk); (try clear hi); (try clear ho0); obtain ⟨Ao6, co6, eo6⟩ := Kd.R_slice HO213.out; subst eo6) | ((with_reducible refine gate_callee (f := 128) rfl ?_); refine goesL_ (some 6) rfl rfl Try.func128 (by kernel_rfl) rfl #[.pointer (some ⟨g, 0, none⟩), .agg #[.slice Ao6 t211.length co6]] rfl eg ?_; (with_reducible refine (spec_l01Bad.calls g s0_0 t214 t215 (fun k_ => some k_ = (.slice Ao6 t211.length co6 : Value).ownBlock) (.slice Ao6 t211.length co6) t211 t216 t219 t220 w0 _ ?side1 ?side2 ?side3 A3.out).mono ?_); (case side1 => exact ei121 HI0); (case side2 => exact em121 HB); (case side3 => exact Kd.R_lower (Kd.R_tight rfl HO213.out) HL.out); rintro e w7 ⟨v217, rfl, ho0, hi, hb, hkp⟩; refine ⟨_, rfl, ?_⟩; replace HI0 := A_ hi; replace BK210 := A_ (blk_kept (eb BK210) hkp (fun hs_ => Or.elim hs_ (fun hs_ => (fun e_ => (Kd.R_ne HO213.out BK210.out (by decide)) e_) hs_) (fun e_ => NB210_0.out e_))); have HO218 := A_ (Kd.R_mono (ok' := fun k_ => True) (Kd.R_raise (d := (Kd.int .i64)) (b := w0.heap.size) (b' := w.heap.size) (fun _ _ _ _ h_ => h_) ho0 (fun k_ e_ => Or.elim (ho0.1 k_ e_) (fun hs_ => (fun e_ => Kd.R_base HO213.out k_ e_.symm) hs_) (fun hn_ => Nat.le_trans (keep_size (w := w) (g := g) (row := none) (ek HK)) hn_))) (fun k_ hk_ => trivial)); replace HK := A_ (Kept.keepG (ek HK) hkp (fun k_ hs_ => Or.elim hs_ (fun hs_ => (fun e_ => .inr (Kd.R_base HO213.out k_ e_.symm)) hs_) (fun e_ => .inl e_))); replace HB := A_ hb; clear HO213; (try clear hb); (try clear hkp); (try clear ho0); obtain ⟨Ao8, co8, eo8⟩ := Kd.R_slice HO218.out; subst eo8; have hnb9 := NB210_0.out; have hnc9 := NB0_210.out; have hcz10_0 : w7.cell? ⟨gb210, 0, none⟩ = some (.slice none 0 0) := (blk_cell BK210.out 0).trans rfl; have hfz10_0 := blk_frozen BK210.out 0))
 refine bodyPost_ret (results_cell_row rfl _ _ gb210 26 #[.slice Ao8 t216.length co8] (0, 0) _ rfl (by (with_reducible repeat (first | refine blk_drewN ?_ _ | refine blk_drew ?_ | refine blk_alloc ?_ _)); refine blk_put (cs := #[.slice none 0 0]) ?_ 0 _ rfl; (with_reducible repeat (first | refine blk_drewN ?_ _ | refine blk_drew ?_ | refine blk_alloc ?_ _)); exact BK210.out) Try.underlying26 rfl (by kernel_rfl)) rfl ?_
 exact ⟨_, er, by (with_reducible repeat (first | apply Kd.R_alloc | apply Kd.R_drewN | apply Kd.R_drew)); exact Kd.R_mono (Kd.R_far (p := ⟨gb210, 0, none⟩) (Kd.R_types HO218.out BK210.out (by decide)) (fun _ hk => hk.2) (.slice Ao8 t216.length co8)) (fun _ hk => trivial), ei121 HI0, em121 HB, ek HK⟩

end Go.Proofs.Ytocachknmgefaaa.QFnTrees
