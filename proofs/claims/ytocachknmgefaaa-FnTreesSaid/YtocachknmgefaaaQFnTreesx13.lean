/- Functions of the program as plain Lean functions, each with a proof that the machine's call answers what it answers. Conditions: none. -/
import Derived.Test.YtocachknmgefaaaQFnTreesx0
import Derived.Test.YtocachknmgefaaaQFnTreesx1
import Derived.Test.YtocachknmgefaaaQFnTreesx2
import Derived.Test.YtocachknmgefaaaQFnTreesx4
import Derived.Test.YtocachknmgefaaaQFnTreesx6
import Derived.Test.YtocachknmgefaaaQFnTreesx12
namespace Go.Proofs.Ytocachknmgefaaa.QFnTrees
open Go.RowKit Go.Proofs.YtocachknmgefaaaW.PrintWords Go.Proofs.YtocachknmgefaaaW.PrintLast Go.Proofs.YtocachknmgefaaaW.PrintMore
attribute [local go_sem] max2_int min2_int max_two min_two max_three min_three max_four min_four   -- for this text's walks alone
set_option linter.unusedVariables false
set_option maxHeartbeats 8000000
set_option maxRecDepth 100000
set_option linter.unusedSimpArgs false

/-! ### spec_l01Text: function 121 -/
mutual
def spec_l01Text.l0 : Nat → ByteArray → List Int → Int → List Int → Option (ByteArray)
  | 0, _, _, _, _ => none
  | k + 1, x3, x4, x5, x580000 => if x5 < (x4.length : Int) then (if 0 ≤ x5 then ((spec_l01Subtree.f k x580000 (rd x4 x5)).bind fun t584 => ((spec_l01Text.f k t584).bind fun t587 => (if x3.size + t587.size ≤ 9223372036854775807 then (spec_l01Text.l0 k (x3 ++ t587) x4 (wrap64 (x5 + 1)) x580000) else (none)))) else (none)) else (if x3.size + 1 ≤ 9223372036854775807 then (some (x3 ++ (⟨#[41]⟩ : ByteArray))) else (none))
def spec_l01Text.f : Nat → List Int → Option (ByteArray)
  | 0, _ => none
  | k + 1, l0_0 => (spec_l01Children.f k l0_0 0).bind fun t580 => (spec_l01Text.l0 k (⟨#[40]⟩ : ByteArray) t580 0 l0_0)
end
theorem spec_l01Text.mono_l : ∀ k, (∀ y0, LeO (spec_l01Text.f k y0) (spec_l01Text.f (k + 1) y0)) ∧ (∀ y0 y1 y2 y3, LeO (spec_l01Text.l0 k y0 y1 y2 y3) (spec_l01Text.l0 (k + 1) y0 y1 y2 y3))
  | 0 => ⟨fun _ r h => by simp [spec_l01Text.f] at h, fun _ _ _ _ r h => by simp [spec_l01Text.l0] at h⟩
  | k + 1 => by
    obtain ⟨ih0, ih1⟩ := spec_l01Text.mono_l k
    refine ⟨?_, ?_⟩
    · intro y0
      unfold spec_l01Text.f
      repeat' first | (with_reducible first | exact ih0 _ | exact ih1 _ _ _ _ | exact spec_l01Children.mono _ _ _ | exact spec_l01Subtree.mono _ _ _ | exact LeO.refl _ | exact LeO.none _ | refine LeO.ite ?_ ?_ | refine LeO.bind ?_ (fun _ => ?_)) | exact ih0 _ | exact ih1 _ _ _ _ | exact spec_l01Children.mono _ _ _ | exact spec_l01Subtree.mono _ _ _ | exact LeO.none _ | refine LeO.ite ?_ ?_ | refine LeO.bind ?_ (fun _ => ?_)
    · intro y0 y1 y2 y3
      unfold spec_l01Text.l0
      repeat' first | (with_reducible first | exact ih0 _ | exact ih1 _ _ _ _ | exact spec_l01Children.mono _ _ _ | exact spec_l01Subtree.mono _ _ _ | exact LeO.refl _ | exact LeO.none _ | refine LeO.ite ?_ ?_ | refine LeO.bind ?_ (fun _ => ?_)) | exact ih0 _ | exact ih1 _ _ _ _ | exact spec_l01Children.mono _ _ _ | exact spec_l01Subtree.mono _ _ _ | exact LeO.none _ | refine LeO.ite ?_ ?_ | refine LeO.bind ?_ (fun _ => ?_)
theorem spec_l01Text.mono : ∀ a0 k, LeO (spec_l01Text.f k a0) (spec_l01Text.f (k + 1) a0) := by
  intro a0 k
  obtain ⟨ih0, ih1⟩ := spec_l01Text.mono_l k
  exact ih0 a0
def spec_l01Text.T5 : Bool × List (List Nat × List Nat) := (true, [([], []), ([], []), ([], []), ([], []), ([2, 3], [2, 3]), ([4], [4]), ([1, 5], [1, 5]), ([6, 6], [6]), ([0, 7], [0, 7]), ([8, 7, 0, 1, 2, 3, 4, 5, 6, 7, 8], [0, 8])])
def spec_l01Text.B5 : List Nat := [0, 0, 0, 0, 12, 28, 62, 126, 255, 511]
theorem spec_l01Text.tab5 : rtab .any (opsOf Try.f121 5) = spec_l01Text.T5 := by kernel_rfl
theorem spec_l01Text.bits5 : waitsOk spec_l01Text.T5.2 spec_l01Text.B5 = true := by kernel_rfl
theorem spec_l01Text.Z0 {p : Prop} (h : p := by first | (with_reducible assumption) | assumption) : p := h
theorem spec_l01Text.Z1 {p : Prop} (h : p := by first | rfl | (simp; done) | (simp [*]; done)) : p := h
theorem spec_l01Text.calls (k : Nat) : ∀ (A0_0 : Option Addr) (c0_0 : Nat) (l0_0 : List Int) (r : ByteArray) (w : World) (hr0_0 : Kd.C (Kd.int .i64) w A0_0 l0_0.length l0_0) (hc0_0 : l0_0.length ≤ c0_0) (h : spec_l01Text.f k l0_0 = some r),
  Calls Try.prog 121 #[.agg #[.slice A0_0 l0_0.length c0_0]] w fun e w' => e = .returned (.string r) ∧ Below w.heap.size w w' := by
 induction k using Nat.strongRecOn with
 | _ k ih =>
 intro A0_0 c0_0 l0_0 r w hr0_0 hc0_0 h
 cases k with
 | zero => exact absurd h (by simp [spec_l01Text.f])
 | succ k =>
 simp only [spec_l01Text.f] at h
 have hu26 := Try.underlying26
 have HR0_0 := A_ hr0_0
 have HC0_0 := A_ hc0_0
 clear hr0_0 hc0_0
 have HB := A_ (Below.refl w.heap.size w)
 have H : ((spec_l01Children.f k l0_0 0).bind fun t580 => (spec_l01Text.l0 k (⟨#[40]⟩ : ByteArray) t580 0 l0_0)) = some r := h
 clear h
 replace H := Option.bind_eq_some_iff.mp H
 obtain ⟨t580, A20, H⟩ := H
 replace H : (spec_l01Text.l0 k (⟨#[40]⟩ : ByteArray) t580 0 l0_0) = some r := H
 have A2 := A_ A20
 clear A20
 have H' := A_ H
 clear H
 go_enter Try.func121, Try.ntmps121
 go_wp2_with (first | ((with_reducible refine gate_dst (N := 1) rfl ?_); refine bx 1 #[.slice A0_0 l0_0.length c0_0] 26 ?_; intro gb579 hg w3 hbox hb; have BK579 := A_ hbox; have GW579 := A_ (eG hg (below_size (el HB)) : w.heap.size ≤ gb579); have GE579 := A_ (eG hg (below_size (el HB)) : w.heap.size ≤ gb579); replace HB := A_ (below_step (el HB) hb); clear hb hbox hg; have hcz4_0 : w3.cell? ⟨gb579, 0, none⟩ = some (.slice A0_0 l0_0.length c0_0) := (blk_cell BK579.out 0).trans rfl; have hfz4_0 := blk_frozen BK579.out 0) | ((with_reducible refine gate_callee (f := 111) rfl ?_); refine goesL_ (some 7) rfl rfl Try.func111 (by kernel_rfl) rfl #[.agg #[.slice A0_0 l0_0.length c0_0], .int .i64 0] rfl eg ?_; (with_reducible refine (spec_l01Children.calls k _ _ l0_0 0 t580 _ ?side1 ?side2 A2.out).mono ?_); (case side1 => exact cS (Kd.C_below HR0_0.out HB.out)); (case side2 => exact HC0_0.out); rintro e w5 ⟨v581, rfl, ho0, hb⟩; refine ⟨_, rfl, ?_⟩; have HO582 := A_ (Kd.R_lower ho0 (below_size (el HB))); replace BK579 := A_ (eB BK579 hb); replace HB := A_ (below_step (el HB) hb); (try clear hb); (try clear hb2); (try clear hk); (try clear hi); (try clear ho0)))
 go_loopg [3, 5] k (fun kq v3 v5 w' => ∃ (x3_1 : ByteArray) (x5_1 : Int), v3 = .string x3_1 ∧ v5 = .int .i64 x5_1 ∧ Aside0 (spec_l01Text.l0 kq x3_1 t580 x5_1 l0_0 = some r) ∧ Aside0 (kq ≤ k) ∧ Aside0 (Kd.R (Kd.int .i64) 2 w' w.heap.size (fun _ => True) v581 t580) ∧ Aside0 (w'.heap[gb579]? = some (.cells #[(.slice A0_0 l0_0.length c0_0)] 26 (0, 0))) ∧ Aside0 (Below w.heap.size w w'))
 case atStart => exact ⟨((⟨#[40]⟩ : ByteArray)), (0), spec_l01Text.Z1, spec_l01Text.Z1, H', ⟨Nat.le_refl _⟩, ⟨ea HO582⟩, ⟨eb BK579⟩, ⟨el HB⟩⟩
 case round =>
  clear H'
  try clear c1
  try clear p2
  try clear hcz4_0
  try clear hfz4_0
  obtain ⟨x3_1, x5_1, rfl, rfl, HA, HK1, HO_4, BK579, HB⟩ := hrel
  cases gk with
  | zero => exact absurd HA.out (by simp [spec_l01Text.l0])
  | succ k1 =>
   have H := HA.out
   clear HA
   simp only [spec_l01Text.l0] at H
   by_cases c6 : x5_1 < (t580.length : Int)
   ·rw [if_pos c6] at H
    have c6b0 := decide_eq_true c6
    clear c6
    by_cases c7 : 0 ≤ x5_1
    rotate_left
    ·rw [if_neg c7] at H
     exact absurd H (by simp)
    rw [if_pos c7] at H
    have c7b0 := decide_eq_true c7
    clear c7
    replace H := Option.bind_eq_some_iff.mp H
    obtain ⟨t584, A80, H⟩ := H
    replace H : ((spec_l01Text.f k1 t584).bind fun t587 => (if x3_1.size + t587.size ≤ 9223372036854775807 then (spec_l01Text.l0 k1 (x3_1 ++ t587) t580 (wrap64 (x5_1 + 1)) l0_0) else (none))) = some r := H
    have A8 := A_ A80
    clear A80
    replace H := Option.bind_eq_some_iff.mp H
    obtain ⟨t587, A90, H⟩ := H
    replace H : (if x3_1.size + t587.size ≤ 9223372036854775807 then (spec_l01Text.l0 k1 (x3_1 ++ t587) t580 (wrap64 (x5_1 + 1)) l0_0) else (none)) = some r := H
    have A9 := A_ A90
    clear A90
    by_cases c10 : x3_1.size + t587.size ≤ 9223372036854775807
    rotate_left
    ·rw [if_neg c10] at H
     exact absurd H (by simp)
    rw [if_pos c10] at H
    have c10b0 := eq_true c10
    have c10b1 := decide_eq_true c10
    try have c10b2 : (9223372036854775807 < x3_1.size + t587.size) = False := eq_false (Nat.not_lt.2 c10)
    have H' := A_ H
    clear H
    obtain ⟨Ao11, co11, eo11⟩ := Kd.R_slice HO_4.out
    subst eo11
    try go_wp2
    replace HO_4 := A_ (Kd.R_drew HO_4.out)
    replace BK579 := A_ (blk_drew BK579.out)
    replace HB := A_ (below_drew1 HB.out)
    have p583 : 0 ≤ (x5_1 : Int) := of_decide_eq_true spec_l01Text.Z0
    have q583 : x5_1 < (t580.length : Int) := of_decide_eq_true spec_l01Text.Z0
    obtain ⟨ad583, e583, hx583_0⟩ := Kd.at_int (Kd.R_reads' HO_4.out).2.2 x5_1 p583 q583
    cases e583
    replace p583 := eq_true p583
    replace q583 := eq_true q583
    refine start_ (n := 10) (S := fun w' => w'.cell? ⟨gb579, 0, none⟩ = some (.slice A0_0 l0_0.length c0_0) ∧ w'.cell? (ad583.add (x5_1).toNat) = some (.int .i64 (rd t580 x5_1))) (ds := []) (bM 10 0) (by kernel_rfl) rfl rfl ⟨(blk_cell BK579.out 0).trans rfl, hx583_0⟩ (fun hHeld => ?_); refine with_tabW spec_l01Text.tab5 spec_l01Text.bits5 (fun HT_ HW_ => ?_)
    generalize wr.drew = w12 at HO_4 BK579 HB hx583_0 hHeld ⊢
    refine pA 0 14 (bM 10 1) HT_ ?_
    refine pA 2 16 (bM 10 5) HT_ ?_
    refine pA 3 17 (bM 10 13) HT_ ?_
    refine pA 4 18 (bM 10 29) HT_ ?_
    refine take_ (i := 1) (N := some 15) (v := ?_) (a' := ?_) (bM 10 31) rfl rfl (take_ofW HT_.out HW_.out (by kernel_rfl)) (fun _ _ _ h => h) (Or.inl ⟨by rfl, ?_⟩) hHeld ?_ ?_
    rotate_left
    ·rintro w' ⟨s0, s1⟩
     go_simp
     with_reducible rfl
    rotate_left
    ·simp only [Act.put, List.setIfInBounds_toArray, List.set_cons_zero, List.set_cons_succ, i64_w, i32_w]
     rfl
    refine take_ (i := 5) (N := some 19) (v := ?_) (a' := ?_) (bM 10 63) rfl rfl (take_ofW HT_.out HW_.out (by kernel_rfl)) (fun _ _ _ h => h) (Or.inl ⟨by rfl, ?_⟩) hHeld ?_ ?_
    rotate_left
    ·rintro w' ⟨s0, s1⟩
     go_simp
     with_reducible rfl
    rotate_left
    ·simp only [Act.put, List.setIfInBounds_toArray, List.set_cons_zero, List.set_cons_succ, i64_w, i32_w]
     rfl
    refine one_ (i := 6) (N := some 20) (bM 10 127) rfl rfl (one_of HT_.out (by kernel_rfl)) (by decide) (fun K hK => ?_)
    refine goes_ Try.func148 (by kernel_rfl) rfl #[.agg #[.slice A0_0 l0_0.length c0_0], .int .i64 (rd t580 x5_1)] (by rfl) rfl rfl eg ?_
    with_reducible refine (spec_l01Subtree.calls k1 _ _ l0_0 (rd t580 x5_1) t584 _ ?side1 ?side2 A8.out).mono ?_
    (case side1 => exact cS (Kd.C_below HR0_0.out HB.out))
    (case side2 => exact HC0_0.out)
    rintro e w13 ⟨v585, rfl, ho0, hb⟩
    have HS1_ := (hb.cell (World.block_lt_of_cell? _ _ (hHeld.2))).trans (hHeld.2)
    refine ⟨_, rfl, ?_⟩
    have HO586 := A_ (Kd.R_lower (Kd.R_new' ho0 (Kd.R_lt (ea HO_4))) (below_size (el HB)))
    replace HO_4 := A_ (Kd.R_elder' (ea HO_4) (Kd.R_base ho0) hb)
    replace BK579 := A_ (eB BK579 hb)
    replace HB := A_ (below_step (el HB) hb)
    (try clear hb)
    (try clear hb2)
    (try clear hk)
    (try clear hi)
    (try clear ho0)
    obtain ⟨Ao14, co14, eo14⟩ := Kd.R_slice HO586.out
    (first | subst eo14 | (injection eo14 with f1_ f2_ f3_; have f4_ := f1_.symm; have f5_ := f3_.symm; clear f1_ f2_ f3_; subst f4_; subst f5_))
    refine hK.out _ _ ⟨(blk_cell BK579.out 0).trans rfl, HS1_⟩ (fun hHeld => ?_)
    clear hK K
    refine norm_ (a' := ?_) ?_ ?_
    rotate_left
    ·show Act.put _ (some 20) _ = _
     simp only [Act.put, List.setIfInBounds_toArray, List.set_cons_zero, List.set_cons_succ, i64_w, i32_w]
     rfl
    refine one_ (i := 7) (N := some 21) (bM 10 255) rfl rfl (one_of HT_.out (by kernel_rfl)) (by decide) (fun K hK => ?_)
    refine goes_ Try.func121 (by kernel_rfl) rfl #[.agg #[.slice Ao14 t584.length co14]] (by rfl) rfl rfl eg ?_
    with_reducible refine (ih k1 (by have := HK1.out; omega) _ _ t584 t587 _ ?side1 ?side2 A9.out).mono ?_
    (case side1 => exact cS ((Kd.R_reads' HO586.out).2.2))
    (case side2 => exact (Kd.R_reads' HO586.out).2.1)
    rintro e w15 ⟨rfl, hb⟩
    have HS1_ := (hb.cell (World.block_lt_of_cell? _ _ (hHeld.2))).trans (hHeld.2)
    refine ⟨_, rfl, ?_⟩
    replace HO_4 := A_ (Kd.R_below (ea HO_4) hb)
    replace HO586 := A_ (Kd.R_below (ea HO586) hb)
    replace BK579 := A_ (eB BK579 hb)
    replace HB := A_ (below_step (el HB) hb)
    (try clear hb)
    (try clear hb2)
    (try clear hk)
    (try clear hi)
    refine hK.out _ _ ⟨(blk_cell BK579.out 0).trans rfl, HS1_⟩ (fun hHeld => ?_)
    clear hK K
    refine norm_ (a' := ?_) ?_ ?_
    rotate_left
    ·show Act.put _ (some 21) _ = _
     simp only [Act.put, List.setIfInBounds_toArray, List.set_cons_zero, List.set_cons_succ, i64_w, i32_w]
     rfl
    refine pA 8 22 (bM 10 511) HT_ ?_
    refine pA 9 3 (bM 10 1023) HT_ ?_
    refine done_ (done_of HT_.out (by kernel_rfl)) ?_
    try go_wp2
    go_roundg k1
    case measure => have := HK1.out; omega
    case rel => exact ⟨(x3_1 ++ t587), (wrap64 (x5_1 + 1)), spec_l01Text.Z1, spec_l01Text.Z1, H', ⟨by have := HK1.out; omega⟩, ⟨by (with_reducible repeat (first | apply Kd.R_alloc | apply Kd.R_drewN | apply Kd.R_drew)); exact Kd.R_mono HO_4.out (fun _ hk => trivial)⟩, ⟨eb BK579⟩, ⟨el HB⟩⟩
   ·rw [if_neg c6] at H
    have c6b0 := decide_eq_false c6
    clear c6
    by_cases c16 : x3_1.size + 1 ≤ 9223372036854775807
    ·rw [if_pos c16] at H
     have c16b0 := eq_true c16
     have c16b1 := decide_eq_true c16
     try have c16b2 : (9223372036854775807 < x3_1.size + 1) = False := eq_false (Nat.not_lt.2 c16)
     obtain rfl := Option.some.inj H
     obtain ⟨Ao17, co17, eo17⟩ := Kd.R_slice HO_4.out
     subst eo17
     go_wp2
     go_ret
     exact ⟨er, el HB⟩
    ·rw [if_neg c16] at H
     exact absurd H (by simp)

/-! ### spec_l01Damage: function 124 -/
def spec_l01Damage.f (s0_0 : List Int) (s0_1 : Int) (s0_2 : Int) (a1 : ByteArray) : Option (ByteArray × Int × Int) := (some (([(⟨#[40]⟩ : ByteArray), (⟨#[41]⟩ : ByteArray), (⟨#[40]⟩ : ByteArray), (⟨#[41]⟩ : ByteArray), (⟨#[40, 41]⟩ : ByteArray), (⟨#[48]⟩ : ByteArray), (⟨#[44]⟩ : ByteArray), (⟨#[32]⟩ : ByteArray), (⟨#[120]⟩ : ByteArray), (⟨#[10]⟩ : ByteArray)] : List ByteArray) : List ByteArray)).bind fun y588 => ((spec_l01Next.f s0_0 s0_1 s0_2 (y588.length : Int)).bind fun bt591 => (if 0 ≤ bt591.1 then (if bt591.1 < (y588.length : Int) then (if (a1.size : Int) = 0 then (some (rdOf ByteArray.empty y588 bt591.1, bt591.2.1, bt591.2.2)) else ((spec_l01Next.f s0_0 bt591.2.1 bt591.2.2 (a1.size : Int)).bind fun bt595 => ((spec_l01Next.f s0_0 bt595.2.1 bt595.2.2 3).bind fun bt598 => (if bt598.1 = 0 then (if 0 ≤ bt595.1 then (if bt595.1 ≤ (a1.size : Int) then (if (a1.extract 0 (bt595.1 : Int).toNat).size + (rdOf ByteArray.empty y588 bt591.1).size ≤ 9223372036854775807 then (if 0 ≤ (wrap64 (bt595.1 + 1)) then (if (wrap64 (bt595.1 + 1)) ≤ (a1.size : Int) then (if ((a1.extract 0 (bt595.1 : Int).toNat) ++ (rdOf ByteArray.empty y588 bt591.1)).size + (a1.extract ((wrap64 (bt595.1 + 1)) : Int).toNat a1.size).size ≤ 9223372036854775807 then (some (((a1.extract 0 (bt595.1 : Int).toNat) ++ (rdOf ByteArray.empty y588 bt591.1)) ++ (a1.extract ((wrap64 (bt595.1 + 1)) : Int).toNat a1.size), bt598.2.1, bt598.2.2)) else (none)) else (none)) else (none)) else (none)) else (none)) else (none)) else (if bt598.1 = 1 then (if 0 ≤ bt595.1 then (if bt595.1 ≤ (a1.size : Int) then (if 0 ≤ (wrap64 (bt595.1 + 1)) then (if (wrap64 (bt595.1 + 1)) ≤ (a1.size : Int) then (if (a1.extract 0 (bt595.1 : Int).toNat).size + (a1.extract ((wrap64 (bt595.1 + 1)) : Int).toNat a1.size).size ≤ 9223372036854775807 then (some ((a1.extract 0 (bt595.1 : Int).toNat) ++ (a1.extract ((wrap64 (bt595.1 + 1)) : Int).toNat a1.size), bt598.2.1, bt598.2.2)) else (none)) else (none)) else (none)) else (none)) else (none)) else (if 0 ≤ bt595.1 then (if bt595.1 ≤ (a1.size : Int) then (if (a1.extract 0 (bt595.1 : Int).toNat).size + (rdOf ByteArray.empty y588 bt591.1).size ≤ 9223372036854775807 then (if ((a1.extract 0 (bt595.1 : Int).toNat) ++ (rdOf ByteArray.empty y588 bt591.1)).size + (a1.extract (bt595.1 : Int).toNat a1.size).size ≤ 9223372036854775807 then (some (((a1.extract 0 (bt595.1 : Int).toNat) ++ (rdOf ByteArray.empty y588 bt591.1)) ++ (a1.extract (bt595.1 : Int).toNat a1.size), bt598.2.1, bt598.2.2)) else (none)) else (none)) else (none)) else (none))))))) else (none)) else (none)))
theorem spec_l01Damage.Z0 {p : Prop} (h : p := by first | (with_reducible assumption) | assumption) : p := h
theorem spec_l01Damage.calls (g : Nat) (s0_0 : List Int) (s0_1 : Int) (s0_2 : Int) (a1 : ByteArray) (r1 : ByteArray) (r2 : Int) (r3 : Int) (w0 w : World) (hI : IsS121 w0 w g s0_0 s0_1 s0_2) (hB : Below w0.heap.size w0 w) (h : spec_l01Damage.f s0_0 s0_1 s0_2 a1 = some (r1, r2, r3)) :
  Calls Try.prog 124 #[.pointer (some ⟨g, 0, none⟩), .string a1] w fun e w' => e = .returned (.string r1) ∧ IsS121 w0 w' g s0_0 r2 r3 ∧ Below w0.heap.size w0 w' ∧ KeepBut w w' g none := by
 have HI0 := A_ hI
 have HK := A_ (KeepBut.refl w g none)
 have HL := A_ hB.size
 clear hI
 have HW0 := A_ hB.size
 have HB := A_ hB
 clear hB
 have H : ((some (([(⟨#[40]⟩ : ByteArray), (⟨#[41]⟩ : ByteArray), (⟨#[40]⟩ : ByteArray), (⟨#[41]⟩ : ByteArray), (⟨#[40, 41]⟩ : ByteArray), (⟨#[48]⟩ : ByteArray), (⟨#[44]⟩ : ByteArray), (⟨#[32]⟩ : ByteArray), (⟨#[120]⟩ : ByteArray), (⟨#[10]⟩ : ByteArray)] : List ByteArray) : List ByteArray)).bind fun y588 => ((spec_l01Next.f s0_0 s0_1 s0_2 (y588.length : Int)).bind fun bt591 => (if 0 ≤ bt591.1 then (if bt591.1 < (y588.length : Int) then (if (a1.size : Int) = 0 then (some (rdOf ByteArray.empty y588 bt591.1, bt591.2.1, bt591.2.2)) else ((spec_l01Next.f s0_0 bt591.2.1 bt591.2.2 (a1.size : Int)).bind fun bt595 => ((spec_l01Next.f s0_0 bt595.2.1 bt595.2.2 3).bind fun bt598 => (if bt598.1 = 0 then (if 0 ≤ bt595.1 then (if bt595.1 ≤ (a1.size : Int) then (if (a1.extract 0 (bt595.1 : Int).toNat).size + (rdOf ByteArray.empty y588 bt591.1).size ≤ 9223372036854775807 then (if 0 ≤ (wrap64 (bt595.1 + 1)) then (if (wrap64 (bt595.1 + 1)) ≤ (a1.size : Int) then (if ((a1.extract 0 (bt595.1 : Int).toNat) ++ (rdOf ByteArray.empty y588 bt591.1)).size + (a1.extract ((wrap64 (bt595.1 + 1)) : Int).toNat a1.size).size ≤ 9223372036854775807 then (some (((a1.extract 0 (bt595.1 : Int).toNat) ++ (rdOf ByteArray.empty y588 bt591.1)) ++ (a1.extract ((wrap64 (bt595.1 + 1)) : Int).toNat a1.size), bt598.2.1, bt598.2.2)) else (none)) else (none)) else (none)) else (none)) else (none)) else (none)) else (if bt598.1 = 1 then (if 0 ≤ bt595.1 then (if bt595.1 ≤ (a1.size : Int) then (if 0 ≤ (wrap64 (bt595.1 + 1)) then (if (wrap64 (bt595.1 + 1)) ≤ (a1.size : Int) then (if (a1.extract 0 (bt595.1 : Int).toNat).size + (a1.extract ((wrap64 (bt595.1 + 1)) : Int).toNat a1.size).size ≤ 9223372036854775807 then (some ((a1.extract 0 (bt595.1 : Int).toNat) ++ (a1.extract ((wrap64 (bt595.1 + 1)) : Int).toNat a1.size), bt598.2.1, bt598.2.2)) else (none)) else (none)) else (none)) else (none)) else (none)) else (if 0 ≤ bt595.1 then (if bt595.1 ≤ (a1.size : Int) then (if (a1.extract 0 (bt595.1 : Int).toNat).size + (rdOf ByteArray.empty y588 bt591.1).size ≤ 9223372036854775807 then (if ((a1.extract 0 (bt595.1 : Int).toNat) ++ (rdOf ByteArray.empty y588 bt591.1)).size + (a1.extract (bt595.1 : Int).toNat a1.size).size ≤ 9223372036854775807 then (some (((a1.extract 0 (bt595.1 : Int).toNat) ++ (rdOf ByteArray.empty y588 bt591.1)) ++ (a1.extract (bt595.1 : Int).toNat a1.size), bt598.2.1, bt598.2.2)) else (none)) else (none)) else (none)) else (none))))))) else (none)) else (none)))) = some (r1, r2, r3) := h
 clear h
 obtain ⟨y588, hy588⟩ : ∃ y_ : List ByteArray, y_ = (([(⟨#[40]⟩ : ByteArray), (⟨#[41]⟩ : ByteArray), (⟨#[40]⟩ : ByteArray), (⟨#[41]⟩ : ByteArray), (⟨#[40, 41]⟩ : ByteArray), (⟨#[48]⟩ : ByteArray), (⟨#[44]⟩ : ByteArray), (⟨#[32]⟩ : ByteArray), (⟨#[120]⟩ : ByteArray), (⟨#[10]⟩ : ByteArray)] : List ByteArray)) := ⟨_, rfl⟩
 replace H : ((spec_l01Next.f s0_0 s0_1 s0_2 (y588.length : Int)).bind fun bt591 => (if 0 ≤ bt591.1 then (if bt591.1 < (y588.length : Int) then (if (a1.size : Int) = 0 then (some (rdOf ByteArray.empty y588 bt591.1, bt591.2.1, bt591.2.2)) else ((spec_l01Next.f s0_0 bt591.2.1 bt591.2.2 (a1.size : Int)).bind fun bt595 => ((spec_l01Next.f s0_0 bt595.2.1 bt595.2.2 3).bind fun bt598 => (if bt598.1 = 0 then (if 0 ≤ bt595.1 then (if bt595.1 ≤ (a1.size : Int) then (if (a1.extract 0 (bt595.1 : Int).toNat).size + (rdOf ByteArray.empty y588 bt591.1).size ≤ 9223372036854775807 then (if 0 ≤ (wrap64 (bt595.1 + 1)) then (if (wrap64 (bt595.1 + 1)) ≤ (a1.size : Int) then (if ((a1.extract 0 (bt595.1 : Int).toNat) ++ (rdOf ByteArray.empty y588 bt591.1)).size + (a1.extract ((wrap64 (bt595.1 + 1)) : Int).toNat a1.size).size ≤ 9223372036854775807 then (some (((a1.extract 0 (bt595.1 : Int).toNat) ++ (rdOf ByteArray.empty y588 bt591.1)) ++ (a1.extract ((wrap64 (bt595.1 + 1)) : Int).toNat a1.size), bt598.2.1, bt598.2.2)) else (none)) else (none)) else (none)) else (none)) else (none)) else (none)) else (if bt598.1 = 1 then (if 0 ≤ bt595.1 then (if bt595.1 ≤ (a1.size : Int) then (if 0 ≤ (wrap64 (bt595.1 + 1)) then (if (wrap64 (bt595.1 + 1)) ≤ (a1.size : Int) then (if (a1.extract 0 (bt595.1 : Int).toNat).size + (a1.extract ((wrap64 (bt595.1 + 1)) : Int).toNat a1.size).size ≤ 9223372036854775807 then (some ((a1.extract 0 (bt595.1 : Int).toNat) ++ (a1.extract ((wrap64 (bt595.1 + 1)) : Int).toNat a1.size), bt598.2.1, bt598.2.2)) else (none)) else (none)) else (none)) else (none)) else (none)) else (if 0 ≤ bt595.1 then (if bt595.1 ≤ (a1.size : Int) then (if (a1.extract 0 (bt595.1 : Int).toNat).size + (rdOf ByteArray.empty y588 bt591.1).size ≤ 9223372036854775807 then (if ((a1.extract 0 (bt595.1 : Int).toNat) ++ (rdOf ByteArray.empty y588 bt591.1)).size + (a1.extract (bt595.1 : Int).toNat a1.size).size ≤ 9223372036854775807 then (some (((a1.extract 0 (bt595.1 : Int).toNat) ++ (rdOf ByteArray.empty y588 bt591.1)) ++ (a1.extract (bt595.1 : Int).toNat a1.size), bt598.2.1, bt598.2.2)) else (none)) else (none)) else (none)) else (none))))))) else (none)) else (none))) = some (r1, r2, r3) := eH hy588 H
 have Ny588 := A_ hy588
 clear hy588
 replace H := Option.bind_eq_some_iff.mp H
 obtain ⟨⟨t591, t592, t593⟩, A30, H⟩ := H
 replace H : (if 0 ≤ t591 then (if t591 < (y588.length : Int) then (if (a1.size : Int) = 0 then (some (rdOf ByteArray.empty y588 t591, t592, t593)) else ((spec_l01Next.f s0_0 t592 t593 (a1.size : Int)).bind fun bt595 => ((spec_l01Next.f s0_0 bt595.2.1 bt595.2.2 3).bind fun bt598 => (if bt598.1 = 0 then (if 0 ≤ bt595.1 then (if bt595.1 ≤ (a1.size : Int) then (if (a1.extract 0 (bt595.1 : Int).toNat).size + (rdOf ByteArray.empty y588 t591).size ≤ 9223372036854775807 then (if 0 ≤ (wrap64 (bt595.1 + 1)) then (if (wrap64 (bt595.1 + 1)) ≤ (a1.size : Int) then (if ((a1.extract 0 (bt595.1 : Int).toNat) ++ (rdOf ByteArray.empty y588 t591)).size + (a1.extract ((wrap64 (bt595.1 + 1)) : Int).toNat a1.size).size ≤ 9223372036854775807 then (some (((a1.extract 0 (bt595.1 : Int).toNat) ++ (rdOf ByteArray.empty y588 t591)) ++ (a1.extract ((wrap64 (bt595.1 + 1)) : Int).toNat a1.size), bt598.2.1, bt598.2.2)) else (none)) else (none)) else (none)) else (none)) else (none)) else (none)) else (if bt598.1 = 1 then (if 0 ≤ bt595.1 then (if bt595.1 ≤ (a1.size : Int) then (if 0 ≤ (wrap64 (bt595.1 + 1)) then (if (wrap64 (bt595.1 + 1)) ≤ (a1.size : Int) then (if (a1.extract 0 (bt595.1 : Int).toNat).size + (a1.extract ((wrap64 (bt595.1 + 1)) : Int).toNat a1.size).size ≤ 9223372036854775807 then (some ((a1.extract 0 (bt595.1 : Int).toNat) ++ (a1.extract ((wrap64 (bt595.1 + 1)) : Int).toNat a1.size), bt598.2.1, bt598.2.2)) else (none)) else (none)) else (none)) else (none)) else (none)) else (if 0 ≤ bt595.1 then (if bt595.1 ≤ (a1.size : Int) then (if (a1.extract 0 (bt595.1 : Int).toNat).size + (rdOf ByteArray.empty y588 t591).size ≤ 9223372036854775807 then (if ((a1.extract 0 (bt595.1 : Int).toNat) ++ (rdOf ByteArray.empty y588 t591)).size + (a1.extract (bt595.1 : Int).toNat a1.size).size ≤ 9223372036854775807 then (some (((a1.extract 0 (bt595.1 : Int).toNat) ++ (rdOf ByteArray.empty y588 t591)) ++ (a1.extract (bt595.1 : Int).toNat a1.size), bt598.2.1, bt598.2.2)) else (none)) else (none)) else (none)) else (none))))))) else (none)) else (none)) = some (r1, r2, r3) := H
 have A3 := A_ A30
 clear A30
 by_cases c4 : 0 ≤ t591
 ·rw [if_pos c4] at H
  have c4b0 := decide_eq_true c4
  clear c4
  by_cases c5 : t591 < (y588.length : Int)
  rotate_left
  ·rw [if_neg c5] at H
   exact absurd H (by simp)
  rw [if_pos c5] at H
  have c5b0 := decide_eq_true c5
  clear c5
  by_cases c6 : (a1.size : Int) = 0
  ·rw [if_pos c6] at H
   have c6b0 : ((a1.size : Int) == 0) = true := beq_iff_eq.mpr c6
   have c6b1 : ((a1.size : Int) != 0) = false := bne_eq_false_iff_eq.mpr c6
   clear c6
   simp only [Option.some.injEq, Prod.mk.injEq] at H
   obtain ⟨rfl, rfl, rfl⟩ := H
   go_enter Try.func124, Try.ntmps124
   go_wp2_with (first | ((with_reducible refine gate_dst (N := 8) rfl ?_); refine Kd.R_lit Kd.string _ 9 ?hg (N := 8) ?hd (xs := ([(⟨#[40]⟩ : ByteArray), (⟨#[41]⟩ : ByteArray), (⟨#[40]⟩ : ByteArray), (⟨#[41]⟩ : ByteArray), (⟨#[40, 41]⟩ : ByteArray), (⟨#[48]⟩ : ByteArray), (⟨#[44]⟩ : ByteArray), (⟨#[32]⟩ : ByteArray), (⟨#[120]⟩ : ByteArray), (⟨#[10]⟩ : ByteArray)] : List ByteArray)) (inner := [.string (⟨#[40]⟩ : ByteArray), .string (⟨#[41]⟩ : ByteArray), .string (⟨#[40]⟩ : ByteArray), .string (⟨#[41]⟩ : ByteArray), .string (⟨#[40, 41]⟩ : ByteArray), .string (⟨#[48]⟩ : ByteArray), .string (⟨#[44]⟩ : ByteArray), .string (⟨#[32]⟩ : ByteArray), .string (⟨#[120]⟩ : ByteArray), .string (⟨#[10]⟩ : ByteArray)]) (ok := fun _ => True) (okp := fun _ => True) ?hr ?hp (fun _ hk => hk) trivial (Below.refl _ _) (Nat.le_refl _) (by simp) ?_; (case hd => rfl); (case hg => rfl); (case hr => first | (go_simp; done) | (go_simp; rfl)); (case hp => exact (Reps.one (show Kd.M Kd.string _ _ _ (⟨#[40]⟩ : ByteArray) [.string (⟨#[40]⟩ : ByteArray)] from rfl) (Reps.one (show Kd.M Kd.string _ _ _ (⟨#[41]⟩ : ByteArray) [.string (⟨#[41]⟩ : ByteArray)] from rfl) (Reps.one (show Kd.M Kd.string _ _ _ (⟨#[40]⟩ : ByteArray) [.string (⟨#[40]⟩ : ByteArray)] from rfl) (Reps.one (show Kd.M Kd.string _ _ _ (⟨#[41]⟩ : ByteArray) [.string (⟨#[41]⟩ : ByteArray)] from rfl) (Reps.one (show Kd.M Kd.string _ _ _ (⟨#[40, 41]⟩ : ByteArray) [.string (⟨#[40, 41]⟩ : ByteArray)] from rfl) (Reps.one (show Kd.M Kd.string _ _ _ (⟨#[48]⟩ : ByteArray) [.string (⟨#[48]⟩ : ByteArray)] from rfl) (Reps.one (show Kd.M Kd.string _ _ _ (⟨#[44]⟩ : ByteArray) [.string (⟨#[44]⟩ : ByteArray)] from rfl) (Reps.one (show Kd.M Kd.string _ _ _ (⟨#[32]⟩ : ByteArray) [.string (⟨#[32]⟩ : ByteArray)] from rfl) (Reps.one (show Kd.M Kd.string _ _ _ (⟨#[120]⟩ : ByteArray) [.string (⟨#[120]⟩ : ByteArray)] from rfl) (Reps.one (show Kd.M Kd.string _ _ _ (⟨#[10]⟩ : ByteArray) [.string (⟨#[10]⟩ : ByteArray)] from rfl) (Reps.none _ _)))))))))))); intro v589 w7 ho8 hb hg_ hnew_; clear hg_ hnew_; (first | rw [← Ny588.out] at ho8 | (simp only [Int.reduceToNat] at ho8; rw [← Ny588.out] at ho8)); have HO590 := A_ (Kd.R_lower ho8 (keep_size (w := w) (g := g) (row := none) (ek HK))); replace HI0 := A_ (IsS121.below (ei121 HI0) hb); replace HK := A_ (KeepBut.trans (ek HK) (KeepBut.of_below hb g none) (.inl rfl)); replace HB := A_ (below_step (em121 HB) hb); clear hb ho8; obtain ⟨Ao9, co9, eo9⟩ := Kd.R_slice HO590.out; subst eo9) | (go_at_call 123; (with_reducible refine (spec_l01Next.calls g s0_0 s0_1 s0_2 (y588.length : Int) t591 t592 t593 w0 _ ?side1 ?side2 A3.out).mono ?_); (case side1 => exact ei121 HI0); (case side2 => exact em121 HB); rintro e w10 ⟨rfl, hi, hb, hk⟩; replace HO590 := A_ (Kd.R_mono (Kd.R_keep (IsS121.apart (show IsS121 w0 _ g s0_0 s0_1 s0_2 from ei121 HI0) (ea HO590) (by decide)) hk (fun _ h => h.2)) (fun _ h => h.1)); replace HK := A_ (KeepBut.trans (ek HK) hk (.inl rfl)); replace HB := A_ hb; replace HI0 := A_ hi; (try clear hb); (try clear hb2); (try clear hk); (try clear hi); have p594 : 0 ≤ (t591 : Int) := of_decide_eq_true spec_l01Damage.Z0; have q594 : t591 < (y588.length : Int) := of_decide_eq_true spec_l01Damage.Z0; obtain ⟨ad594, e594, hx594_0⟩ := Kd.at_string (Kd.R_reads' HO590.out).2.2 t591 p594 q594; cases e594; replace p594 := eq_true p594; replace q594 := eq_true q594))
   repeat (go_quiet (first | ((with_reducible refine gate_dst (N := 8) rfl ?_); refine Kd.R_lit Kd.string _ 9 ?hg (N := 8) ?hd (xs := ([(⟨#[40]⟩ : ByteArray), (⟨#[41]⟩ : ByteArray), (⟨#[40]⟩ : ByteArray), (⟨#[41]⟩ : ByteArray), (⟨#[40, 41]⟩ : ByteArray), (⟨#[48]⟩ : ByteArray), (⟨#[44]⟩ : ByteArray), (⟨#[32]⟩ : ByteArray), (⟨#[120]⟩ : ByteArray), (⟨#[10]⟩ : ByteArray)] : List ByteArray)) (inner := [.string (⟨#[40]⟩ : ByteArray), .string (⟨#[41]⟩ : ByteArray), .string (⟨#[40]⟩ : ByteArray), .string (⟨#[41]⟩ : ByteArray), .string (⟨#[40, 41]⟩ : ByteArray), .string (⟨#[48]⟩ : ByteArray), .string (⟨#[44]⟩ : ByteArray), .string (⟨#[32]⟩ : ByteArray), .string (⟨#[120]⟩ : ByteArray), .string (⟨#[10]⟩ : ByteArray)]) (ok := fun _ => True) (okp := fun _ => True) ?hr ?hp (fun _ hk => hk) trivial (Below.refl _ _) (Nat.le_refl _) (by simp) ?_; (case hd => rfl); (case hg => rfl); (case hr => first | (go_simp; done) | (go_simp; rfl)); (case hp => exact (Reps.one (show Kd.M Kd.string _ _ _ (⟨#[40]⟩ : ByteArray) [.string (⟨#[40]⟩ : ByteArray)] from rfl) (Reps.one (show Kd.M Kd.string _ _ _ (⟨#[41]⟩ : ByteArray) [.string (⟨#[41]⟩ : ByteArray)] from rfl) (Reps.one (show Kd.M Kd.string _ _ _ (⟨#[40]⟩ : ByteArray) [.string (⟨#[40]⟩ : ByteArray)] from rfl) (Reps.one (show Kd.M Kd.string _ _ _ (⟨#[41]⟩ : ByteArray) [.string (⟨#[41]⟩ : ByteArray)] from rfl) (Reps.one (show Kd.M Kd.string _ _ _ (⟨#[40, 41]⟩ : ByteArray) [.string (⟨#[40, 41]⟩ : ByteArray)] from rfl) (Reps.one (show Kd.M Kd.string _ _ _ (⟨#[48]⟩ : ByteArray) [.string (⟨#[48]⟩ : ByteArray)] from rfl) (Reps.one (show Kd.M Kd.string _ _ _ (⟨#[44]⟩ : ByteArray) [.string (⟨#[44]⟩ : ByteArray)] from rfl) (Reps.one (show Kd.M Kd.string _ _ _ (⟨#[32]⟩ : ByteArray) [.string (⟨#[32]⟩ : ByteArray)] from rfl) (Reps.one (show Kd.M Kd.string _ _ _ (⟨#[120]⟩ : ByteArray) [.string (⟨#[120]⟩ : ByteArray)] from rfl) (Reps.one (show Kd.M Kd.string _ _ _ (⟨#[10]⟩ : ByteArray) [.string (⟨#[10]⟩ : ByteArray)] from rfl) (Reps.none _ _)))))))))))); intro v589 w7 ho8 hb hg_ hnew_; clear hg_ hnew_; (first | rw [← Ny588.out] at ho8 | (simp only [Int.reduceToNat] at ho8; rw [← Ny588.out] at ho8)); have HO590 := A_ (Kd.R_lower ho8 (keep_size (w := w) (g := g) (row := none) (ek HK))); replace HI0 := A_ (IsS121.below (ei121 HI0) hb); replace HK := A_ (KeepBut.trans (ek HK) (KeepBut.of_below hb g none) (.inl rfl)); replace HB := A_ (below_step (em121 HB) hb); clear hb ho8; obtain ⟨Ao9, co9, eo9⟩ := Kd.R_slice HO590.out; subst eo9) | (go_at_call 123; (with_reducible refine (spec_l01Next.calls g s0_0 s0_1 s0_2 (y588.length : Int) t591 t592 t593 w0 _ ?side1 ?side2 A3.out).mono ?_); (case side1 => exact ei121 HI0); (case side2 => exact em121 HB); rintro e w10 ⟨rfl, hi, hb, hk⟩; replace HO590 := A_ (Kd.R_mono (Kd.R_keep (IsS121.apart (show IsS121 w0 _ g s0_0 s0_1 s0_2 from ei121 HI0) (ea HO590) (by decide)) hk (fun _ h => h.2)) (fun _ h => h.1)); replace HK := A_ (KeepBut.trans (ek HK) hk (.inl rfl)); replace HB := A_ hb; replace HI0 := A_ hi; (try clear hb); (try clear hb2); (try clear hk); (try clear hi); have p594 : 0 ≤ (t591 : Int) := of_decide_eq_true spec_l01Damage.Z0; have q594 : t591 < (y588.length : Int) := of_decide_eq_true spec_l01Damage.Z0; obtain ⟨ad594, e594, hx594_0⟩ := Kd.at_string (Kd.R_reads' HO590.out).2.2 t591 p594 q594; cases e594; replace p594 := eq_true p594; replace q594 := eq_true q594)); try go_wp2_with (first | ((with_reducible refine gate_dst (N := 8) rfl ?_); refine Kd.R_lit Kd.string _ 9 ?hg (N := 8) ?hd (xs := ([(⟨#[40]⟩ : ByteArray), (⟨#[41]⟩ : ByteArray), (⟨#[40]⟩ : ByteArray), (⟨#[41]⟩ : ByteArray), (⟨#[40, 41]⟩ : ByteArray), (⟨#[48]⟩ : ByteArray), (⟨#[44]⟩ : ByteArray), (⟨#[32]⟩ : ByteArray), (⟨#[120]⟩ : ByteArray), (⟨#[10]⟩ : ByteArray)] : List ByteArray)) (inner := [.string (⟨#[40]⟩ : ByteArray), .string (⟨#[41]⟩ : ByteArray), .string (⟨#[40]⟩ : ByteArray), .string (⟨#[41]⟩ : ByteArray), .string (⟨#[40, 41]⟩ : ByteArray), .string (⟨#[48]⟩ : ByteArray), .string (⟨#[44]⟩ : ByteArray), .string (⟨#[32]⟩ : ByteArray), .string (⟨#[120]⟩ : ByteArray), .string (⟨#[10]⟩ : ByteArray)]) (ok := fun _ => True) (okp := fun _ => True) ?hr ?hp (fun _ hk => hk) trivial (Below.refl _ _) (Nat.le_refl _) (by simp) ?_; (case hd => rfl); (case hg => rfl); (case hr => first | (go_simp; done) | (go_simp; rfl)); (case hp => exact (Reps.one (show Kd.M Kd.string _ _ _ (⟨#[40]⟩ : ByteArray) [.string (⟨#[40]⟩ : ByteArray)] from rfl) (Reps.one (show Kd.M Kd.string _ _ _ (⟨#[41]⟩ : ByteArray) [.string (⟨#[41]⟩ : ByteArray)] from rfl) (Reps.one (show Kd.M Kd.string _ _ _ (⟨#[40]⟩ : ByteArray) [.string (⟨#[40]⟩ : ByteArray)] from rfl) (Reps.one (show Kd.M Kd.string _ _ _ (⟨#[41]⟩ : ByteArray) [.string (⟨#[41]⟩ : ByteArray)] from rfl) (Reps.one (show Kd.M Kd.string _ _ _ (⟨#[40, 41]⟩ : ByteArray) [.string (⟨#[40, 41]⟩ : ByteArray)] from rfl) (Reps.one (show Kd.M Kd.string _ _ _ (⟨#[48]⟩ : ByteArray) [.string (⟨#[48]⟩ : ByteArray)] from rfl) (Reps.one (show Kd.M Kd.string _ _ _ (⟨#[44]⟩ : ByteArray) [.string (⟨#[44]⟩ : ByteArray)] from rfl) (Reps.one (show Kd.M Kd.string _ _ _ (⟨#[32]⟩ : ByteArray) [.string (⟨#[32]⟩ : ByteArray)] from rfl) (Reps.one (show Kd.M Kd.string _ _ _ (⟨#[120]⟩ : ByteArray) [.string (⟨#[120]⟩ : ByteArray)] from rfl) (Reps.one (show Kd.M Kd.string _ _ _ (⟨#[10]⟩ : ByteArray) [.string (⟨#[10]⟩ : ByteArray)] from rfl) (Reps.none _ _)))))))))))); intro v589 w7 ho8 hb hg_ hnew_; clear hg_ hnew_; (first | rw [← Ny588.out] at ho8 | (simp only [Int.reduceToNat] at ho8; rw [← Ny588.out] at ho8)); have HO590 := A_ (Kd.R_lower ho8 (keep_size (w := w) (g := g) (row := none) (ek HK))); replace HI0 := A_ (IsS121.below (ei121 HI0) hb); replace HK := A_ (KeepBut.trans (ek HK) (KeepBut.of_below hb g none) (.inl rfl)); replace HB := A_ (below_step (em121 HB) hb); clear hb ho8; obtain ⟨Ao9, co9, eo9⟩ := Kd.R_slice HO590.out; subst eo9) | (go_at_call 123; (with_reducible refine (spec_l01Next.calls g s0_0 s0_1 s0_2 (y588.length : Int) t591 t592 t593 w0 _ ?side1 ?side2 A3.out).mono ?_); (case side1 => exact ei121 HI0); (case side2 => exact em121 HB); rintro e w10 ⟨rfl, hi, hb, hk⟩; replace HO590 := A_ (Kd.R_mono (Kd.R_keep (IsS121.apart (show IsS121 w0 _ g s0_0 s0_1 s0_2 from ei121 HI0) (ea HO590) (by decide)) hk (fun _ h => h.2)) (fun _ h => h.1)); replace HK := A_ (KeepBut.trans (ek HK) hk (.inl rfl)); replace HB := A_ hb; replace HI0 := A_ hi; (try clear hb); (try clear hb2); (try clear hk); (try clear hi); have p594 : 0 ≤ (t591 : Int) := of_decide_eq_true spec_l01Damage.Z0; have q594 : t591 < (y588.length : Int) := of_decide_eq_true spec_l01Damage.Z0; obtain ⟨ad594, e594, hx594_0⟩ := Kd.at_string (Kd.R_reads' HO590.out).2.2 t591 p594 q594; cases e594; replace p594 := eq_true p594; replace q594 := eq_true q594)))
   go_ret
   exact ⟨er, ei121 HI0, em121 HB, ek HK⟩
  ·rw [if_neg c6] at H
   have c6b0 : ((a1.size : Int) == 0) = false := beq_eq_false_iff_ne.mpr c6
   have c6b1 : ((a1.size : Int) != 0) = true := bne_iff_ne.mpr c6
   replace H := Option.bind_eq_some_iff.mp H
   obtain ⟨⟨t595, t596, t597⟩, A110, H⟩ := H
   replace H : ((spec_l01Next.f s0_0 t596 t597 3).bind fun bt598 => (if bt598.1 = 0 then (if 0 ≤ t595 then (if t595 ≤ (a1.size : Int) then (if (a1.extract 0 (t595 : Int).toNat).size + (rdOf ByteArray.empty y588 t591).size ≤ 9223372036854775807 then (if 0 ≤ (wrap64 (t595 + 1)) then (if (wrap64 (t595 + 1)) ≤ (a1.size : Int) then (if ((a1.extract 0 (t595 : Int).toNat) ++ (rdOf ByteArray.empty y588 t591)).size + (a1.extract ((wrap64 (t595 + 1)) : Int).toNat a1.size).size ≤ 9223372036854775807 then (some (((a1.extract 0 (t595 : Int).toNat) ++ (rdOf ByteArray.empty y588 t591)) ++ (a1.extract ((wrap64 (t595 + 1)) : Int).toNat a1.size), bt598.2.1, bt598.2.2)) else (none)) else (none)) else (none)) else (none)) else (none)) else (none)) else (if bt598.1 = 1 then (if 0 ≤ t595 then (if t595 ≤ (a1.size : Int) then (if 0 ≤ (wrap64 (t595 + 1)) then (if (wrap64 (t595 + 1)) ≤ (a1.size : Int) then (if (a1.extract 0 (t595 : Int).toNat).size + (a1.extract ((wrap64 (t595 + 1)) : Int).toNat a1.size).size ≤ 9223372036854775807 then (some ((a1.extract 0 (t595 : Int).toNat) ++ (a1.extract ((wrap64 (t595 + 1)) : Int).toNat a1.size), bt598.2.1, bt598.2.2)) else (none)) else (none)) else (none)) else (none)) else (none)) else (if 0 ≤ t595 then (if t595 ≤ (a1.size : Int) then (if (a1.extract 0 (t595 : Int).toNat).size + (rdOf ByteArray.empty y588 t591).size ≤ 9223372036854775807 then (if ((a1.extract 0 (t595 : Int).toNat) ++ (rdOf ByteArray.empty y588 t591)).size + (a1.extract (t595 : Int).toNat a1.size).size ≤ 9223372036854775807 then (some (((a1.extract 0 (t595 : Int).toNat) ++ (rdOf ByteArray.empty y588 t591)) ++ (a1.extract (t595 : Int).toNat a1.size), bt598.2.1, bt598.2.2)) else (none)) else (none)) else (none)) else (none))))) = some (r1, r2, r3) := H
   have A11 := A_ A110
   clear A110
   replace H := Option.bind_eq_some_iff.mp H
   obtain ⟨⟨t598, t599, t600⟩, A120, H⟩ := H
   replace H : (if t598 = 0 then (if 0 ≤ t595 then (if t595 ≤ (a1.size : Int) then (if (a1.extract 0 (t595 : Int).toNat).size + (rdOf ByteArray.empty y588 t591).size ≤ 9223372036854775807 then (if 0 ≤ (wrap64 (t595 + 1)) then (if (wrap64 (t595 + 1)) ≤ (a1.size : Int) then (if ((a1.extract 0 (t595 : Int).toNat) ++ (rdOf ByteArray.empty y588 t591)).size + (a1.extract ((wrap64 (t595 + 1)) : Int).toNat a1.size).size ≤ 9223372036854775807 then (some (((a1.extract 0 (t595 : Int).toNat) ++ (rdOf ByteArray.empty y588 t591)) ++ (a1.extract ((wrap64 (t595 + 1)) : Int).toNat a1.size), t599, t600)) else (none)) else (none)) else (none)) else (none)) else (none)) else (none)) else (if t598 = 1 then (if 0 ≤ t595 then (if t595 ≤ (a1.size : Int) then (if 0 ≤ (wrap64 (t595 + 1)) then (if (wrap64 (t595 + 1)) ≤ (a1.size : Int) then (if (a1.extract 0 (t595 : Int).toNat).size + (a1.extract ((wrap64 (t595 + 1)) : Int).toNat a1.size).size ≤ 9223372036854775807 then (some ((a1.extract 0 (t595 : Int).toNat) ++ (a1.extract ((wrap64 (t595 + 1)) : Int).toNat a1.size), t599, t600)) else (none)) else (none)) else (none)) else (none)) else (none)) else (if 0 ≤ t595 then (if t595 ≤ (a1.size : Int) then (if (a1.extract 0 (t595 : Int).toNat).size + (rdOf ByteArray.empty y588 t591).size ≤ 9223372036854775807 then (if ((a1.extract 0 (t595 : Int).toNat) ++ (rdOf ByteArray.empty y588 t591)).size + (a1.extract (t595 : Int).toNat a1.size).size ≤ 9223372036854775807 then (some (((a1.extract 0 (t595 : Int).toNat) ++ (rdOf ByteArray.empty y588 t591)) ++ (a1.extract (t595 : Int).toNat a1.size), t599, t600)) else (none)) else (none)) else (none)) else (none)))) = some (r1, r2, r3) := H
   have A12 := A_ A120
   clear A120
   by_cases c13 : t598 = 0
   ·rw [if_pos c13] at H
    have c13b0 : (t598 == 0) = true := beq_iff_eq.mpr c13
    have c13b1 : (t598 != 0) = false := bne_eq_false_iff_eq.mpr c13
    clear c13
    by_cases c14 : 0 ≤ t595
    rotate_left
    ·rw [if_neg c14] at H
     exact absurd H (by simp)
    rw [if_pos c14] at H
    have c14b0 := eq_true c14
    have c14b1 := decide_eq_true c14
    clear c14
    by_cases c15 : t595 ≤ (a1.size : Int)
    rotate_left
    ·rw [if_neg c15] at H
     exact absurd H (by simp)
    rw [if_pos c15] at H
    have c15b0 := eq_true c15
    have c15b1 := decide_eq_true c15
    clear c15
    by_cases c16 : (a1.extract 0 (t595 : Int).toNat).size + (rdOf ByteArray.empty y588 t591).size ≤ 9223372036854775807
    rotate_left
    ·rw [if_neg c16] at H
     exact absurd H (by simp)
    rw [if_pos c16] at H
    have c16b0 := eq_true c16
    have c16b1 := decide_eq_true c16
    try have c16b2 : (9223372036854775807 < (a1.extract 0 (t595 : Int).toNat).size + (rdOf ByteArray.empty y588 t591).size) = False := eq_false (Nat.not_lt.2 c16)
    obtain ⟨ji17, hji17⟩ : ∃ j_ : Int, (wrap64 (t595 + 1)) = j_ := ⟨_, rfl⟩
    replace H : (if 0 ≤ (ji17) then (if (ji17) ≤ (a1.size : Int) then (if ((a1.extract 0 (t595 : Int).toNat) ++ (rdOf ByteArray.empty y588 t591)).size + (a1.extract ((ji17) : Int).toNat a1.size).size ≤ 9223372036854775807 then (some (((a1.extract 0 (t595 : Int).toNat) ++ (rdOf ByteArray.empty y588 t591)) ++ (a1.extract ((ji17) : Int).toNat a1.size), t599, t600)) else (none)) else (none)) else (none)) = some (r1, r2, r3) := by first | (rw [hji17] at H; exact H) | (simp only [hji17] at H ⊢; exact H)
    (try rw [hji17] at A3)
    (try rw [hji17] at A11)
    (try rw [hji17] at A12)
    have hji17w : (IntKind.i64.wrap (t595 + 1)) = ji17 := (i64_w _).trans hji17
    by_cases c18 : 0 ≤ (ji17)
    rotate_left
    ·rw [if_neg c18] at H
     exact absurd H (by simp)
    rw [if_pos c18] at H
    have c18b0 := eq_true c18
    have c18b1 := decide_eq_true c18
    clear c18
    by_cases c19 : (ji17) ≤ (a1.size : Int)
    rotate_left
    ·rw [if_neg c19] at H
     exact absurd H (by simp)
    rw [if_pos c19] at H
    have c19b0 := eq_true c19
    have c19b1 := decide_eq_true c19
    clear c19
    by_cases c20 : ((a1.extract 0 (t595 : Int).toNat) ++ (rdOf ByteArray.empty y588 t591)).size + (a1.extract ((ji17) : Int).toNat a1.size).size ≤ 9223372036854775807
    rotate_left
    ·rw [if_neg c20] at H
     exact absurd H (by simp)
    rw [if_pos c20] at H
    have c20b0 := eq_true c20
    have c20b1 := decide_eq_true c20
    try have c20b2 : (9223372036854775807 < ((a1.extract 0 (t595 : Int).toNat) ++ (rdOf ByteArray.empty y588 t591)).size + (a1.extract ((ji17) : Int).toNat a1.size).size) = False := eq_false (Nat.not_lt.2 c20)
    have c20b2x : (9223372036854775807 < (a1.extract 0 (t595 : Int).toNat).size + (rdOf ByteArray.empty y588 t591).size + (a1.extract ((ji17) : Int).toNat a1.size).size) = False := eq_false (by have h_ := c20; simp only [ByteArray.size_append] at h_; omega)
    simp only [Option.some.injEq, Prod.mk.injEq] at H
    obtain ⟨rfl, rfl, rfl⟩ := H
    go_enter Try.func124, Try.ntmps124
    go_wp2_with (first | ((with_reducible refine gate_dst (N := 8) rfl ?_); refine Kd.R_lit Kd.string _ 9 ?hg (N := 8) ?hd (xs := ([(⟨#[40]⟩ : ByteArray), (⟨#[41]⟩ : ByteArray), (⟨#[40]⟩ : ByteArray), (⟨#[41]⟩ : ByteArray), (⟨#[40, 41]⟩ : ByteArray), (⟨#[48]⟩ : ByteArray), (⟨#[44]⟩ : ByteArray), (⟨#[32]⟩ : ByteArray), (⟨#[120]⟩ : ByteArray), (⟨#[10]⟩ : ByteArray)] : List ByteArray)) (inner := [.string (⟨#[40]⟩ : ByteArray), .string (⟨#[41]⟩ : ByteArray), .string (⟨#[40]⟩ : ByteArray), .string (⟨#[41]⟩ : ByteArray), .string (⟨#[40, 41]⟩ : ByteArray), .string (⟨#[48]⟩ : ByteArray), .string (⟨#[44]⟩ : ByteArray), .string (⟨#[32]⟩ : ByteArray), .string (⟨#[120]⟩ : ByteArray), .string (⟨#[10]⟩ : ByteArray)]) (ok := fun _ => True) (okp := fun _ => True) ?hr ?hp (fun _ hk => hk) trivial (Below.refl _ _) (Nat.le_refl _) (by simp) ?_; (case hd => rfl); (case hg => rfl); (case hr => first | (go_simp; done) | (go_simp; rfl)); (case hp => exact (Reps.one (show Kd.M Kd.string _ _ _ (⟨#[40]⟩ : ByteArray) [.string (⟨#[40]⟩ : ByteArray)] from rfl) (Reps.one (show Kd.M Kd.string _ _ _ (⟨#[41]⟩ : ByteArray) [.string (⟨#[41]⟩ : ByteArray)] from rfl) (Reps.one (show Kd.M Kd.string _ _ _ (⟨#[40]⟩ : ByteArray) [.string (⟨#[40]⟩ : ByteArray)] from rfl) (Reps.one (show Kd.M Kd.string _ _ _ (⟨#[41]⟩ : ByteArray) [.string (⟨#[41]⟩ : ByteArray)] from rfl) (Reps.one (show Kd.M Kd.string _ _ _ (⟨#[40, 41]⟩ : ByteArray) [.string (⟨#[40, 41]⟩ : ByteArray)] from rfl) (Reps.one (show Kd.M Kd.string _ _ _ (⟨#[48]⟩ : ByteArray) [.string (⟨#[48]⟩ : ByteArray)] from rfl) (Reps.one (show Kd.M Kd.string _ _ _ (⟨#[44]⟩ : ByteArray) [.string (⟨#[44]⟩ : ByteArray)] from rfl) (Reps.one (show Kd.M Kd.string _ _ _ (⟨#[32]⟩ : ByteArray) [.string (⟨#[32]⟩ : ByteArray)] from rfl) (Reps.one (show Kd.M Kd.string _ _ _ (⟨#[120]⟩ : ByteArray) [.string (⟨#[120]⟩ : ByteArray)] from rfl) (Reps.one (show Kd.M Kd.string _ _ _ (⟨#[10]⟩ : ByteArray) [.string (⟨#[10]⟩ : ByteArray)] from rfl) (Reps.none _ _)))))))))))); intro v589 w21 ho22 hb hg_ hnew_; clear hg_ hnew_; (first | rw [← Ny588.out] at ho22 | (simp only [Int.reduceToNat] at ho22; rw [← Ny588.out] at ho22)); have HO590 := A_ (Kd.R_lower ho22 (keep_size (w := w) (g := g) (row := none) (ek HK))); replace HI0 := A_ (IsS121.below (ei121 HI0) hb); replace HK := A_ (KeepBut.trans (ek HK) (KeepBut.of_below hb g none) (.inl rfl)); replace HB := A_ (below_step (em121 HB) hb); clear hb ho22; obtain ⟨Ao23, co23, eo23⟩ := Kd.R_slice HO590.out; subst eo23) | (go_at_call 123; (with_reducible refine (spec_l01Next.calls g s0_0 s0_1 s0_2 (y588.length : Int) t591 t592 t593 w0 _ ?side1 ?side2 A3.out).mono ?_); (case side1 => exact ei121 HI0); (case side2 => exact em121 HB); rintro e w24 ⟨rfl, hi, hb, hk⟩; replace HO590 := A_ (Kd.R_mono (Kd.R_keep (IsS121.apart (show IsS121 w0 _ g s0_0 s0_1 s0_2 from ei121 HI0) (ea HO590) (by decide)) hk (fun _ h => h.2)) (fun _ h => h.1)); replace HK := A_ (KeepBut.trans (ek HK) hk (.inl rfl)); replace HB := A_ hb; replace HI0 := A_ hi; (try clear hb); (try clear hb2); (try clear hk); (try clear hi); have p594 : 0 ≤ (t591 : Int) := of_decide_eq_true spec_l01Damage.Z0; have q594 : t591 < (y588.length : Int) := of_decide_eq_true spec_l01Damage.Z0; obtain ⟨ad594, e594, hx594_0⟩ := Kd.at_string (Kd.R_reads' HO590.out).2.2 t591 p594 q594; cases e594; replace p594 := eq_true p594; replace q594 := eq_true q594) | (go_at_call 123; (with_reducible refine (spec_l01Next.calls g s0_0 t592 t593 (a1.size : Int) t595 t596 t597 w0 _ ?side1 ?side2 A11.out).mono ?_); (case side1 => exact ei121 HI0); (case side2 => exact em121 HB); rintro e w25 ⟨rfl, hi, hb, hk⟩; replace HO590 := A_ (Kd.R_mono (Kd.R_keep (IsS121.apart (show IsS121 w0 _ g s0_0 t592 t593 from ei121 HI0) (ea HO590) (by decide)) hk (fun _ h => h.2)) (fun _ h => h.1)); replace HK := A_ (KeepBut.trans (ek HK) hk (.inl rfl)); replace HB := A_ hb; replace HI0 := A_ hi; (try clear hb); (try clear hb2); (try clear hk); (try clear hi)) | (go_at_call 123; (with_reducible refine (spec_l01Next.calls g s0_0 t596 t597 3 t598 t599 t600 w0 _ ?side1 ?side2 A12.out).mono ?_); (case side1 => exact ei121 HI0); (case side2 => exact em121 HB); rintro e w26 ⟨rfl, hi, hb, hk⟩; replace HO590 := A_ (Kd.R_mono (Kd.R_keep (IsS121.apart (show IsS121 w0 _ g s0_0 t596 t597 from ei121 HI0) (ea HO590) (by decide)) hk (fun _ h => h.2)) (fun _ h => h.1)); replace HK := A_ (KeepBut.trans (ek HK) hk (.inl rfl)); replace HB := A_ hb; replace HI0 := A_ hi; (try clear hb); (try clear hb2); (try clear hk); (try clear hi)))
    repeat (go_quiet (first | ((with_reducible refine gate_dst (N := 8) rfl ?_); refine Kd.R_lit Kd.string _ 9 ?hg (N := 8) ?hd (xs := ([(⟨#[40]⟩ : ByteArray), (⟨#[41]⟩ : ByteArray), (⟨#[40]⟩ : ByteArray), (⟨#[41]⟩ : ByteArray), (⟨#[40, 41]⟩ : ByteArray), (⟨#[48]⟩ : ByteArray), (⟨#[44]⟩ : ByteArray), (⟨#[32]⟩ : ByteArray), (⟨#[120]⟩ : ByteArray), (⟨#[10]⟩ : ByteArray)] : List ByteArray)) (inner := [.string (⟨#[40]⟩ : ByteArray), .string (⟨#[41]⟩ : ByteArray), .string (⟨#[40]⟩ : ByteArray), .string (⟨#[41]⟩ : ByteArray), .string (⟨#[40, 41]⟩ : ByteArray), .string (⟨#[48]⟩ : ByteArray), .string (⟨#[44]⟩ : ByteArray), .string (⟨#[32]⟩ : ByteArray), .string (⟨#[120]⟩ : ByteArray), .string (⟨#[10]⟩ : ByteArray)]) (ok := fun _ => True) (okp := fun _ => True) ?hr ?hp (fun _ hk => hk) trivial (Below.refl _ _) (Nat.le_refl _) (by simp) ?_; (case hd => rfl); (case hg => rfl); (case hr => first | (go_simp; done) | (go_simp; rfl)); (case hp => exact (Reps.one (show Kd.M Kd.string _ _ _ (⟨#[40]⟩ : ByteArray) [.string (⟨#[40]⟩ : ByteArray)] from rfl) (Reps.one (show Kd.M Kd.string _ _ _ (⟨#[41]⟩ : ByteArray) [.string (⟨#[41]⟩ : ByteArray)] from rfl) (Reps.one (show Kd.M Kd.string _ _ _ (⟨#[40]⟩ : ByteArray) [.string (⟨#[40]⟩ : ByteArray)] from rfl) (Reps.one (show Kd.M Kd.string _ _ _ (⟨#[41]⟩ : ByteArray) [.string (⟨#[41]⟩ : ByteArray)] from rfl) (Reps.one (show Kd.M Kd.string _ _ _ (⟨#[40, 41]⟩ : ByteArray) [.string (⟨#[40, 41]⟩ : ByteArray)] from rfl) (Reps.one (show Kd.M Kd.string _ _ _ (⟨#[48]⟩ : ByteArray) [.string (⟨#[48]⟩ : ByteArray)] from rfl) (Reps.one (show Kd.M Kd.string _ _ _ (⟨#[44]⟩ : ByteArray) [.string (⟨#[44]⟩ : ByteArray)] from rfl) (Reps.one (show Kd.M Kd.string _ _ _ (⟨#[32]⟩ : ByteArray) [.string (⟨#[32]⟩ : ByteArray)] from rfl) (Reps.one (show Kd.M Kd.string _ _ _ (⟨#[120]⟩ : ByteArray) [.string (⟨#[120]⟩ : ByteArray)] from rfl) (Reps.one (show Kd.M Kd.string _ _ _ (⟨#[10]⟩ : ByteArray) [.string (⟨#[10]⟩ : ByteArray)] from rfl) (Reps.none _ _)))))))))))); intro v589 w21 ho22 hb hg_ hnew_; clear hg_ hnew_; (first | rw [← Ny588.out] at ho22 | (simp only [Int.reduceToNat] at ho22; rw [← Ny588.out] at ho22)); have HO590 := A_ (Kd.R_lower ho22 (keep_size (w := w) (g := g) (row := none) (ek HK))); replace HI0 := A_ (IsS121.below (ei121 HI0) hb); replace HK := A_ (KeepBut.trans (ek HK) (KeepBut.of_below hb g none) (.inl rfl)); replace HB := A_ (below_step (em121 HB) hb); clear hb ho22; obtain ⟨Ao23, co23, eo23⟩ := Kd.R_slice HO590.out; subst eo23) | (go_at_call 123; (with_reducible refine (spec_l01Next.calls g s0_0 s0_1 s0_2 (y588.length : Int) t591 t592 t593 w0 _ ?side1 ?side2 A3.out).mono ?_); (case side1 => exact ei121 HI0); (case side2 => exact em121 HB); rintro e w24 ⟨rfl, hi, hb, hk⟩; replace HO590 := A_ (Kd.R_mono (Kd.R_keep (IsS121.apart (show IsS121 w0 _ g s0_0 s0_1 s0_2 from ei121 HI0) (ea HO590) (by decide)) hk (fun _ h => h.2)) (fun _ h => h.1)); replace HK := A_ (KeepBut.trans (ek HK) hk (.inl rfl)); replace HB := A_ hb; replace HI0 := A_ hi; (try clear hb); (try clear hb2); (try clear hk); (try clear hi); have p594 : 0 ≤ (t591 : Int) := of_decide_eq_true spec_l01Damage.Z0; have q594 : t591 < (y588.length : Int) := of_decide_eq_true spec_l01Damage.Z0; obtain ⟨ad594, e594, hx594_0⟩ := Kd.at_string (Kd.R_reads' HO590.out).2.2 t591 p594 q594; cases e594; replace p594 := eq_true p594; replace q594 := eq_true q594) | (go_at_call 123; (with_reducible refine (spec_l01Next.calls g s0_0 t592 t593 (a1.size : Int) t595 t596 t597 w0 _ ?side1 ?side2 A11.out).mono ?_); (case side1 => exact ei121 HI0); (case side2 => exact em121 HB); rintro e w25 ⟨rfl, hi, hb, hk⟩; replace HO590 := A_ (Kd.R_mono (Kd.R_keep (IsS121.apart (show IsS121 w0 _ g s0_0 t592 t593 from ei121 HI0) (ea HO590) (by decide)) hk (fun _ h => h.2)) (fun _ h => h.1)); replace HK := A_ (KeepBut.trans (ek HK) hk (.inl rfl)); replace HB := A_ hb; replace HI0 := A_ hi; (try clear hb); (try clear hb2); (try clear hk); (try clear hi)) | (go_at_call 123; (with_reducible refine (spec_l01Next.calls g s0_0 t596 t597 3 t598 t599 t600 w0 _ ?side1 ?side2 A12.out).mono ?_); (case side1 => exact ei121 HI0); (case side2 => exact em121 HB); rintro e w26 ⟨rfl, hi, hb, hk⟩; replace HO590 := A_ (Kd.R_mono (Kd.R_keep (IsS121.apart (show IsS121 w0 _ g s0_0 t596 t597 from ei121 HI0) (ea HO590) (by decide)) hk (fun _ h => h.2)) (fun _ h => h.1)); replace HK := A_ (KeepBut.trans (ek HK) hk (.inl rfl)); replace HB := A_ hb; replace HI0 := A_ hi; (try clear hb); (try clear hb2); (try clear hk); (try clear hi))); try go_wp2_with (first | ((with_reducible refine gate_dst (N := 8) rfl ?_); refine Kd.R_lit Kd.string _ 9 ?hg (N := 8) ?hd (xs := ([(⟨#[40]⟩ : ByteArray), (⟨#[41]⟩ : ByteArray), (⟨#[40]⟩ : ByteArray), (⟨#[41]⟩ : ByteArray), (⟨#[40, 41]⟩ : ByteArray), (⟨#[48]⟩ : ByteArray), (⟨#[44]⟩ : ByteArray), (⟨#[32]⟩ : ByteArray), (⟨#[120]⟩ : ByteArray), (⟨#[10]⟩ : ByteArray)] : List ByteArray)) (inner := [.string (⟨#[40]⟩ : ByteArray), .string (⟨#[41]⟩ : ByteArray), .string (⟨#[40]⟩ : ByteArray), .string (⟨#[41]⟩ : ByteArray), .string (⟨#[40, 41]⟩ : ByteArray), .string (⟨#[48]⟩ : ByteArray), .string (⟨#[44]⟩ : ByteArray), .string (⟨#[32]⟩ : ByteArray), .string (⟨#[120]⟩ : ByteArray), .string (⟨#[10]⟩ : ByteArray)]) (ok := fun _ => True) (okp := fun _ => True) ?hr ?hp (fun _ hk => hk) trivial (Below.refl _ _) (Nat.le_refl _) (by simp) ?_; (case hd => rfl); (case hg => rfl); (case hr => first | (go_simp; done) | (go_simp; rfl)); (case hp => exact (Reps.one (show Kd.M Kd.string _ _ _ (⟨#[40]⟩ : ByteArray) [.string (⟨#[40]⟩ : ByteArray)] from rfl) (Reps.one (show Kd.M Kd.string _ _ _ (⟨#[41]⟩ : ByteArray) [.string (⟨#[41]⟩ : ByteArray)] from rfl) (Reps.one (show Kd.M Kd.string _ _ _ (⟨#[40]⟩ : ByteArray) [.string (⟨#[40]⟩ : ByteArray)] from rfl) (Reps.one (show Kd.M Kd.string _ _ _ (⟨#[41]⟩ : ByteArray) [.string (⟨#[41]⟩ : ByteArray)] from rfl) (Reps.one (show Kd.M Kd.string _ _ _ (⟨#[40, 41]⟩ : ByteArray) [.string (⟨#[40, 41]⟩ : ByteArray)] from rfl) (Reps.one (show Kd.M Kd.string _ _ _ (⟨#[48]⟩ : ByteArray) [.string (⟨#[48]⟩ : ByteArray)] from rfl) (Reps.one (show Kd.M Kd.string _ _ _ (⟨#[44]⟩ : ByteArray) [.string (⟨#[44]⟩ : ByteArray)] from rfl) (Reps.one (show Kd.M Kd.string _ _ _ (⟨#[32]⟩ : ByteArray) [.string (⟨#[32]⟩ : ByteArray)] from rfl) (Reps.one (show Kd.M Kd.string _ _ _ (⟨#[120]⟩ : ByteArray) [.string (⟨#[120]⟩ : ByteArray)] from rfl) (Reps.one (show Kd.M Kd.string _ _ _ (⟨#[10]⟩ : ByteArray) [.string (⟨#[10]⟩ : ByteArray)] from rfl) (Reps.none _ _)))))))))))); intro v589 w21 ho22 hb hg_ hnew_; clear hg_ hnew_; (first | rw [← Ny588.out] at ho22 | (simp only [Int.reduceToNat] at ho22; rw [← Ny588.out] at ho22)); have HO590 := A_ (Kd.R_lower ho22 (keep_size (w := w) (g := g) (row := none) (ek HK))); replace HI0 := A_ (IsS121.below (ei121 HI0) hb); replace HK := A_ (KeepBut.trans (ek HK) (KeepBut.of_below hb g none) (.inl rfl)); replace HB := A_ (below_step (em121 HB) hb); clear hb ho22; obtain ⟨Ao23, co23, eo23⟩ := Kd.R_slice HO590.out; subst eo23) | (go_at_call 123; (with_reducible refine (spec_l01Next.calls g s0_0 s0_1 s0_2 (y588.length : Int) t591 t592 t593 w0 _ ?side1 ?side2 A3.out).mono ?_); (case side1 => exact ei121 HI0); (case side2 => exact em121 HB); rintro e w24 ⟨rfl, hi, hb, hk⟩; replace HO590 := A_ (Kd.R_mono (Kd.R_keep (IsS121.apart (show IsS121 w0 _ g s0_0 s0_1 s0_2 from ei121 HI0) (ea HO590) (by decide)) hk (fun _ h => h.2)) (fun _ h => h.1)); replace HK := A_ (KeepBut.trans (ek HK) hk (.inl rfl)); replace HB := A_ hb; replace HI0 := A_ hi; (try clear hb); (try clear hb2); (try clear hk); (try clear hi); have p594 : 0 ≤ (t591 : Int) := of_decide_eq_true spec_l01Damage.Z0; have q594 : t591 < (y588.length : Int) := of_decide_eq_true spec_l01Damage.Z0; obtain ⟨ad594, e594, hx594_0⟩ := Kd.at_string (Kd.R_reads' HO590.out).2.2 t591 p594 q594; cases e594; replace p594 := eq_true p594; replace q594 := eq_true q594) | (go_at_call 123; (with_reducible refine (spec_l01Next.calls g s0_0 t592 t593 (a1.size : Int) t595 t596 t597 w0 _ ?side1 ?side2 A11.out).mono ?_); (case side1 => exact ei121 HI0); (case side2 => exact em121 HB); rintro e w25 ⟨rfl, hi, hb, hk⟩; replace HO590 := A_ (Kd.R_mono (Kd.R_keep (IsS121.apart (show IsS121 w0 _ g s0_0 t592 t593 from ei121 HI0) (ea HO590) (by decide)) hk (fun _ h => h.2)) (fun _ h => h.1)); replace HK := A_ (KeepBut.trans (ek HK) hk (.inl rfl)); replace HB := A_ hb; replace HI0 := A_ hi; (try clear hb); (try clear hb2); (try clear hk); (try clear hi)) | (go_at_call 123; (with_reducible refine (spec_l01Next.calls g s0_0 t596 t597 3 t598 t599 t600 w0 _ ?side1 ?side2 A12.out).mono ?_); (case side1 => exact ei121 HI0); (case side2 => exact em121 HB); rintro e w26 ⟨rfl, hi, hb, hk⟩; replace HO590 := A_ (Kd.R_mono (Kd.R_keep (IsS121.apart (show IsS121 w0 _ g s0_0 t596 t597 from ei121 HI0) (ea HO590) (by decide)) hk (fun _ h => h.2)) (fun _ h => h.1)); replace HK := A_ (KeepBut.trans (ek HK) hk (.inl rfl)); replace HB := A_ hb; replace HI0 := A_ hi; (try clear hb); (try clear hb2); (try clear hk); (try clear hi))))
    go_ret
    exact ⟨by first | rfl | (simp [errW_none, errW_some] <;> rfl) | (simp only [← hji17]; first | rfl | (simp [errW_none, errW_some] <;> rfl)) | (simp [*, errW_none, errW_some] <;> rfl), ei121 HI0, em121 HB, ek HK⟩
   ·rw [if_neg c13] at H
    have c13b0 : (t598 == 0) = false := beq_eq_false_iff_ne.mpr c13
    have c13b1 : (t598 != 0) = true := bne_iff_ne.mpr c13
    by_cases c27 : t598 = 1
    ·rw [if_pos c27] at H
     have c27b0 : (t598 == 1) = true := beq_iff_eq.mpr c27
     have c27b1 : (t598 != 1) = false := bne_eq_false_iff_eq.mpr c27
     clear c27
     by_cases c28 : 0 ≤ t595
     rotate_left
     ·rw [if_neg c28] at H
      exact absurd H (by simp)
     rw [if_pos c28] at H
     have c28b0 := eq_true c28
     have c28b1 := decide_eq_true c28
     clear c28
     by_cases c29 : t595 ≤ (a1.size : Int)
     rotate_left
     ·rw [if_neg c29] at H
      exact absurd H (by simp)
     rw [if_pos c29] at H
     have c29b0 := eq_true c29
     have c29b1 := decide_eq_true c29
     clear c29
     obtain ⟨ji30, hji30⟩ : ∃ j_ : Int, (wrap64 (t595 + 1)) = j_ := ⟨_, rfl⟩
     replace H : (if 0 ≤ (ji30) then (if (ji30) ≤ (a1.size : Int) then (if (a1.extract 0 (t595 : Int).toNat).size + (a1.extract ((ji30) : Int).toNat a1.size).size ≤ 9223372036854775807 then (some ((a1.extract 0 (t595 : Int).toNat) ++ (a1.extract ((ji30) : Int).toNat a1.size), t599, t600)) else (none)) else (none)) else (none)) = some (r1, r2, r3) := by first | (rw [hji30] at H; exact H) | (simp only [hji30] at H ⊢; exact H)
     (try rw [hji30] at A3)
     (try rw [hji30] at A11)
     (try rw [hji30] at A12)
     have hji30w : (IntKind.i64.wrap (t595 + 1)) = ji30 := (i64_w _).trans hji30
     by_cases c31 : 0 ≤ (ji30)
     rotate_left
     ·rw [if_neg c31] at H
      exact absurd H (by simp)
     rw [if_pos c31] at H
     have c31b0 := eq_true c31
     have c31b1 := decide_eq_true c31
     clear c31
     by_cases c32 : (ji30) ≤ (a1.size : Int)
     rotate_left
     ·rw [if_neg c32] at H
      exact absurd H (by simp)
     rw [if_pos c32] at H
     have c32b0 := eq_true c32
     have c32b1 := decide_eq_true c32
     clear c32
     by_cases c33 : (a1.extract 0 (t595 : Int).toNat).size + (a1.extract ((ji30) : Int).toNat a1.size).size ≤ 9223372036854775807
     rotate_left
     ·rw [if_neg c33] at H
      exact absurd H (by simp)
     rw [if_pos c33] at H
     have c33b0 := eq_true c33
     have c33b1 := decide_eq_true c33
     try have c33b2 : (9223372036854775807 < (a1.extract 0 (t595 : Int).toNat).size + (a1.extract ((ji30) : Int).toNat a1.size).size) = False := eq_false (Nat.not_lt.2 c33)
     simp only [Option.some.injEq, Prod.mk.injEq] at H
     obtain ⟨rfl, rfl, rfl⟩ := H
     go_enter Try.func124, Try.ntmps124
     go_wp2_with (first | ((with_reducible refine gate_dst (N := 8) rfl ?_); refine Kd.R_lit Kd.string _ 9 ?hg (N := 8) ?hd (xs := ([(⟨#[40]⟩ : ByteArray), (⟨#[41]⟩ : ByteArray), (⟨#[40]⟩ : ByteArray), (⟨#[41]⟩ : ByteArray), (⟨#[40, 41]⟩ : ByteArray), (⟨#[48]⟩ : ByteArray), (⟨#[44]⟩ : ByteArray), (⟨#[32]⟩ : ByteArray), (⟨#[120]⟩ : ByteArray), (⟨#[10]⟩ : ByteArray)] : List ByteArray)) (inner := [.string (⟨#[40]⟩ : ByteArray), .string (⟨#[41]⟩ : ByteArray), .string (⟨#[40]⟩ : ByteArray), .string (⟨#[41]⟩ : ByteArray), .string (⟨#[40, 41]⟩ : ByteArray), .string (⟨#[48]⟩ : ByteArray), .string (⟨#[44]⟩ : ByteArray), .string (⟨#[32]⟩ : ByteArray), .string (⟨#[120]⟩ : ByteArray), .string (⟨#[10]⟩ : ByteArray)]) (ok := fun _ => True) (okp := fun _ => True) ?hr ?hp (fun _ hk => hk) trivial (Below.refl _ _) (Nat.le_refl _) (by simp) ?_; (case hd => rfl); (case hg => rfl); (case hr => first | (go_simp; done) | (go_simp; rfl)); (case hp => exact (Reps.one (show Kd.M Kd.string _ _ _ (⟨#[40]⟩ : ByteArray) [.string (⟨#[40]⟩ : ByteArray)] from rfl) (Reps.one (show Kd.M Kd.string _ _ _ (⟨#[41]⟩ : ByteArray) [.string (⟨#[41]⟩ : ByteArray)] from rfl) (Reps.one (show Kd.M Kd.string _ _ _ (⟨#[40]⟩ : ByteArray) [.string (⟨#[40]⟩ : ByteArray)] from rfl) (Reps.one (show Kd.M Kd.string _ _ _ (⟨#[41]⟩ : ByteArray) [.string (⟨#[41]⟩ : ByteArray)] from rfl) (Reps.one (show Kd.M Kd.string _ _ _ (⟨#[40, 41]⟩ : ByteArray) [.string (⟨#[40, 41]⟩ : ByteArray)] from rfl) (Reps.one (show Kd.M Kd.string _ _ _ (⟨#[48]⟩ : ByteArray) [.string (⟨#[48]⟩ : ByteArray)] from rfl) (Reps.one (show Kd.M Kd.string _ _ _ (⟨#[44]⟩ : ByteArray) [.string (⟨#[44]⟩ : ByteArray)] from rfl) (Reps.one (show Kd.M Kd.string _ _ _ (⟨#[32]⟩ : ByteArray) [.string (⟨#[32]⟩ : ByteArray)] from rfl) (Reps.one (show Kd.M Kd.string _ _ _ (⟨#[120]⟩ : ByteArray) [.string (⟨#[120]⟩ : ByteArray)] from rfl) (Reps.one (show Kd.M Kd.string _ _ _ (⟨#[10]⟩ : ByteArray) [.string (⟨#[10]⟩ : ByteArray)] from rfl) (Reps.none _ _)))))))))))); intro v589 w34 ho35 hb hg_ hnew_; clear hg_ hnew_; (first | rw [← Ny588.out] at ho35 | (simp only [Int.reduceToNat] at ho35; rw [← Ny588.out] at ho35)); have HO590 := A_ (Kd.R_lower ho35 (keep_size (w := w) (g := g) (row := none) (ek HK))); replace HI0 := A_ (IsS121.below (ei121 HI0) hb); replace HK := A_ (KeepBut.trans (ek HK) (KeepBut.of_below hb g none) (.inl rfl)); replace HB := A_ (below_step (em121 HB) hb); clear hb ho35; obtain ⟨Ao36, co36, eo36⟩ := Kd.R_slice HO590.out; subst eo36) | (go_at_call 123; (with_reducible refine (spec_l01Next.calls g s0_0 s0_1 s0_2 (y588.length : Int) t591 t592 t593 w0 _ ?side1 ?side2 A3.out).mono ?_); (case side1 => exact ei121 HI0); (case side2 => exact em121 HB); rintro e w37 ⟨rfl, hi, hb, hk⟩; replace HO590 := A_ (Kd.R_mono (Kd.R_keep (IsS121.apart (show IsS121 w0 _ g s0_0 s0_1 s0_2 from ei121 HI0) (ea HO590) (by decide)) hk (fun _ h => h.2)) (fun _ h => h.1)); replace HK := A_ (KeepBut.trans (ek HK) hk (.inl rfl)); replace HB := A_ hb; replace HI0 := A_ hi; (try clear hb); (try clear hb2); (try clear hk); (try clear hi); have p594 : 0 ≤ (t591 : Int) := of_decide_eq_true spec_l01Damage.Z0; have q594 : t591 < (y588.length : Int) := of_decide_eq_true spec_l01Damage.Z0; obtain ⟨ad594, e594, hx594_0⟩ := Kd.at_string (Kd.R_reads' HO590.out).2.2 t591 p594 q594; cases e594; replace p594 := eq_true p594; replace q594 := eq_true q594) | (go_at_call 123; (with_reducible refine (spec_l01Next.calls g s0_0 t592 t593 (a1.size : Int) t595 t596 t597 w0 _ ?side1 ?side2 A11.out).mono ?_); (case side1 => exact ei121 HI0); (case side2 => exact em121 HB); rintro e w38 ⟨rfl, hi, hb, hk⟩; replace HO590 := A_ (Kd.R_mono (Kd.R_keep (IsS121.apart (show IsS121 w0 _ g s0_0 t592 t593 from ei121 HI0) (ea HO590) (by decide)) hk (fun _ h => h.2)) (fun _ h => h.1)); replace HK := A_ (KeepBut.trans (ek HK) hk (.inl rfl)); replace HB := A_ hb; replace HI0 := A_ hi; (try clear hb); (try clear hb2); (try clear hk); (try clear hi)) | (go_at_call 123; (with_reducible refine (spec_l01Next.calls g s0_0 t596 t597 3 t598 t599 t600 w0 _ ?side1 ?side2 A12.out).mono ?_); (case side1 => exact ei121 HI0); (case side2 => exact em121 HB); rintro e w39 ⟨rfl, hi, hb, hk⟩; replace HO590 := A_ (Kd.R_mono (Kd.R_keep (IsS121.apart (show IsS121 w0 _ g s0_0 t596 t597 from ei121 HI0) (ea HO590) (by decide)) hk (fun _ h => h.2)) (fun _ h => h.1)); replace HK := A_ (KeepBut.trans (ek HK) hk (.inl rfl)); replace HB := A_ hb; replace HI0 := A_ hi; (try clear hb); (try clear hb2); (try clear hk); (try clear hi)))
     repeat (go_quiet (first | ((with_reducible refine gate_dst (N := 8) rfl ?_); refine Kd.R_lit Kd.string _ 9 ?hg (N := 8) ?hd (xs := ([(⟨#[40]⟩ : ByteArray), (⟨#[41]⟩ : ByteArray), (⟨#[40]⟩ : ByteArray), (⟨#[41]⟩ : ByteArray), (⟨#[40, 41]⟩ : ByteArray), (⟨#[48]⟩ : ByteArray), (⟨#[44]⟩ : ByteArray), (⟨#[32]⟩ : ByteArray), (⟨#[120]⟩ : ByteArray), (⟨#[10]⟩ : ByteArray)] : List ByteArray)) (inner := [.string (⟨#[40]⟩ : ByteArray), .string (⟨#[41]⟩ : ByteArray), .string (⟨#[40]⟩ : ByteArray), .string (⟨#[41]⟩ : ByteArray), .string (⟨#[40, 41]⟩ : ByteArray), .string (⟨#[48]⟩ : ByteArray), .string (⟨#[44]⟩ : ByteArray), .string (⟨#[32]⟩ : ByteArray), .string (⟨#[120]⟩ : ByteArray), .string (⟨#[10]⟩ : ByteArray)]) (ok := fun _ => True) (okp := fun _ => True) ?hr ?hp (fun _ hk => hk) trivial (Below.refl _ _) (Nat.le_refl _) (by simp) ?_; (case hd => rfl); (case hg => rfl); (case hr => first | (go_simp; done) | (go_simp; rfl)); (case hp => exact (Reps.one (show Kd.M Kd.string _ _ _ (⟨#[40]⟩ : ByteArray) [.string (⟨#[40]⟩ : ByteArray)] from rfl) (Reps.one (show Kd.M Kd.string _ _ _ (⟨#[41]⟩ : ByteArray) [.string (⟨#[41]⟩ : ByteArray)] from rfl) (Reps.one (show Kd.M Kd.string _ _ _ (⟨#[40]⟩ : ByteArray) [.string (⟨#[40]⟩ : ByteArray)] from rfl) (Reps.one (show Kd.M Kd.string _ _ _ (⟨#[41]⟩ : ByteArray) [.string (⟨#[41]⟩ : ByteArray)] from rfl) (Reps.one (show Kd.M Kd.string _ _ _ (⟨#[40, 41]⟩ : ByteArray) [.string (⟨#[40, 41]⟩ : ByteArray)] from rfl) (Reps.one (show Kd.M Kd.string _ _ _ (⟨#[48]⟩ : ByteArray) [.string (⟨#[48]⟩ : ByteArray)] from rfl) (Reps.one (show Kd.M Kd.string _ _ _ (⟨#[44]⟩ : ByteArray) [.string (⟨#[44]⟩ : ByteArray)] from rfl) (Reps.one (show Kd.M Kd.string _ _ _ (⟨#[32]⟩ : ByteArray) [.string (⟨#[32]⟩ : ByteArray)] from rfl) (Reps.one (show Kd.M Kd.string _ _ _ (⟨#[120]⟩ : ByteArray) [.string (⟨#[120]⟩ : ByteArray)] from rfl) (Reps.one (show Kd.M Kd.string _ _ _ (⟨#[10]⟩ : ByteArray) [.string (⟨#[10]⟩ : ByteArray)] from rfl) (Reps.none _ _)))))))))))); intro v589 w34 ho35 hb hg_ hnew_; clear hg_ hnew_; (first | rw [← Ny588.out] at ho35 | (simp only [Int.reduceToNat] at ho35; rw [← Ny588.out] at ho35)); have HO590 := A_ (Kd.R_lower ho35 (keep_size (w := w) (g := g) (row := none) (ek HK))); replace HI0 := A_ (IsS121.below (ei121 HI0) hb); replace HK := A_ (KeepBut.trans (ek HK) (KeepBut.of_below hb g none) (.inl rfl)); replace HB := A_ (below_step (em121 HB) hb); clear hb ho35; obtain ⟨Ao36, co36, eo36⟩ := Kd.R_slice HO590.out; subst eo36) | (go_at_call 123; (with_reducible refine (spec_l01Next.calls g s0_0 s0_1 s0_2 (y588.length : Int) t591 t592 t593 w0 _ ?side1 ?side2 A3.out).mono ?_); (case side1 => exact ei121 HI0); (case side2 => exact em121 HB); rintro e w37 ⟨rfl, hi, hb, hk⟩; replace HO590 := A_ (Kd.R_mono (Kd.R_keep (IsS121.apart (show IsS121 w0 _ g s0_0 s0_1 s0_2 from ei121 HI0) (ea HO590) (by decide)) hk (fun _ h => h.2)) (fun _ h => h.1)); replace HK := A_ (KeepBut.trans (ek HK) hk (.inl rfl)); replace HB := A_ hb; replace HI0 := A_ hi; (try clear hb); (try clear hb2); (try clear hk); (try clear hi); have p594 : 0 ≤ (t591 : Int) := of_decide_eq_true spec_l01Damage.Z0; have q594 : t591 < (y588.length : Int) := of_decide_eq_true spec_l01Damage.Z0; obtain ⟨ad594, e594, hx594_0⟩ := Kd.at_string (Kd.R_reads' HO590.out).2.2 t591 p594 q594; cases e594; replace p594 := eq_true p594; replace q594 := eq_true q594) | (go_at_call 123; (with_reducible refine (spec_l01Next.calls g s0_0 t592 t593 (a1.size : Int) t595 t596 t597 w0 _ ?side1 ?side2 A11.out).mono ?_); (case side1 => exact ei121 HI0); (case side2 => exact em121 HB); rintro e w38 ⟨rfl, hi, hb, hk⟩; replace HO590 := A_ (Kd.R_mono (Kd.R_keep (IsS121.apart (show IsS121 w0 _ g s0_0 t592 t593 from ei121 HI0) (ea HO590) (by decide)) hk (fun _ h => h.2)) (fun _ h => h.1)); replace HK := A_ (KeepBut.trans (ek HK) hk (.inl rfl)); replace HB := A_ hb; replace HI0 := A_ hi; (try clear hb); (try clear hb2); (try clear hk); (try clear hi)) | (go_at_call 123; (with_reducible refine (spec_l01Next.calls g s0_0 t596 t597 3 t598 t599 t600 w0 _ ?side1 ?side2 A12.out).mono ?_); (case side1 => exact ei121 HI0); (case side2 => exact em121 HB); rintro e w39 ⟨rfl, hi, hb, hk⟩; replace HO590 := A_ (Kd.R_mono (Kd.R_keep (IsS121.apart (show IsS121 w0 _ g s0_0 t596 t597 from ei121 HI0) (ea HO590) (by decide)) hk (fun _ h => h.2)) (fun _ h => h.1)); replace HK := A_ (KeepBut.trans (ek HK) hk (.inl rfl)); replace HB := A_ hb; replace HI0 := A_ hi; (try clear hb); (try clear hb2); (try clear hk); (try clear hi))); try go_wp2_with (first | ((with_reducible refine gate_dst (N := 8) rfl ?_); refine Kd.R_lit Kd.string _ 9 ?hg (N := 8) ?hd (xs := ([(⟨#[40]⟩ : ByteArray), (⟨#[41]⟩ : ByteArray), (⟨#[40]⟩ : ByteArray), (⟨#[41]⟩ : ByteArray), (⟨#[40, 41]⟩ : ByteArray), (⟨#[48]⟩ : ByteArray), (⟨#[44]⟩ : ByteArray), (⟨#[32]⟩ : ByteArray), (⟨#[120]⟩ : ByteArray), (⟨#[10]⟩ : ByteArray)] : List ByteArray)) (inner := [.string (⟨#[40]⟩ : ByteArray), .string (⟨#[41]⟩ : ByteArray), .string (⟨#[40]⟩ : ByteArray), .string (⟨#[41]⟩ : ByteArray), .string (⟨#[40, 41]⟩ : ByteArray), .string (⟨#[48]⟩ : ByteArray), .string (⟨#[44]⟩ : ByteArray), .string (⟨#[32]⟩ : ByteArray), .string (⟨#[120]⟩ : ByteArray), .string (⟨#[10]⟩ : ByteArray)]) (ok := fun _ => True) (okp := fun _ => True) ?hr ?hp (fun _ hk => hk) trivial (Below.refl _ _) (Nat.le_refl _) (by simp) ?_; (case hd => rfl); (case hg => rfl); (case hr => first | (go_simp; done) | (go_simp; rfl)); (case hp => exact (Reps.one (show Kd.M Kd.string _ _ _ (⟨#[40]⟩ : ByteArray) [.string (⟨#[40]⟩ : ByteArray)] from rfl) (Reps.one (show Kd.M Kd.string _ _ _ (⟨#[41]⟩ : ByteArray) [.string (⟨#[41]⟩ : ByteArray)] from rfl) (Reps.one (show Kd.M Kd.string _ _ _ (⟨#[40]⟩ : ByteArray) [.string (⟨#[40]⟩ : ByteArray)] from rfl) (Reps.one (show Kd.M Kd.string _ _ _ (⟨#[41]⟩ : ByteArray) [.string (⟨#[41]⟩ : ByteArray)] from rfl) (Reps.one (show Kd.M Kd.string _ _ _ (⟨#[40, 41]⟩ : ByteArray) [.string (⟨#[40, 41]⟩ : ByteArray)] from rfl) (Reps.one (show Kd.M Kd.string _ _ _ (⟨#[48]⟩ : ByteArray) [.string (⟨#[48]⟩ : ByteArray)] from rfl) (Reps.one (show Kd.M Kd.string _ _ _ (⟨#[44]⟩ : ByteArray) [.string (⟨#[44]⟩ : ByteArray)] from rfl) (Reps.one (show Kd.M Kd.string _ _ _ (⟨#[32]⟩ : ByteArray) [.string (⟨#[32]⟩ : ByteArray)] from rfl) (Reps.one (show Kd.M Kd.string _ _ _ (⟨#[120]⟩ : ByteArray) [.string (⟨#[120]⟩ : ByteArray)] from rfl) (Reps.one (show Kd.M Kd.string _ _ _ (⟨#[10]⟩ : ByteArray) [.string (⟨#[10]⟩ : ByteArray)] from rfl) (Reps.none _ _)))))))))))); intro v589 w34 ho35 hb hg_ hnew_; clear hg_ hnew_; (first | rw [← Ny588.out] at ho35 | (simp only [Int.reduceToNat] at ho35; rw [← Ny588.out] at ho35)); have HO590 := A_ (Kd.R_lower ho35 (keep_size (w := w) (g := g) (row := none) (ek HK))); replace HI0 := A_ (IsS121.below (ei121 HI0) hb); replace HK := A_ (KeepBut.trans (ek HK) (KeepBut.of_below hb g none) (.inl rfl)); replace HB := A_ (below_step (em121 HB) hb); clear hb ho35; obtain ⟨Ao36, co36, eo36⟩ := Kd.R_slice HO590.out; subst eo36) | (go_at_call 123; (with_reducible refine (spec_l01Next.calls g s0_0 s0_1 s0_2 (y588.length : Int) t591 t592 t593 w0 _ ?side1 ?side2 A3.out).mono ?_); (case side1 => exact ei121 HI0); (case side2 => exact em121 HB); rintro e w37 ⟨rfl, hi, hb, hk⟩; replace HO590 := A_ (Kd.R_mono (Kd.R_keep (IsS121.apart (show IsS121 w0 _ g s0_0 s0_1 s0_2 from ei121 HI0) (ea HO590) (by decide)) hk (fun _ h => h.2)) (fun _ h => h.1)); replace HK := A_ (KeepBut.trans (ek HK) hk (.inl rfl)); replace HB := A_ hb; replace HI0 := A_ hi; (try clear hb); (try clear hb2); (try clear hk); (try clear hi); have p594 : 0 ≤ (t591 : Int) := of_decide_eq_true spec_l01Damage.Z0; have q594 : t591 < (y588.length : Int) := of_decide_eq_true spec_l01Damage.Z0; obtain ⟨ad594, e594, hx594_0⟩ := Kd.at_string (Kd.R_reads' HO590.out).2.2 t591 p594 q594; cases e594; replace p594 := eq_true p594; replace q594 := eq_true q594) | (go_at_call 123; (with_reducible refine (spec_l01Next.calls g s0_0 t592 t593 (a1.size : Int) t595 t596 t597 w0 _ ?side1 ?side2 A11.out).mono ?_); (case side1 => exact ei121 HI0); (case side2 => exact em121 HB); rintro e w38 ⟨rfl, hi, hb, hk⟩; replace HO590 := A_ (Kd.R_mono (Kd.R_keep (IsS121.apart (show IsS121 w0 _ g s0_0 t592 t593 from ei121 HI0) (ea HO590) (by decide)) hk (fun _ h => h.2)) (fun _ h => h.1)); replace HK := A_ (KeepBut.trans (ek HK) hk (.inl rfl)); replace HB := A_ hb; replace HI0 := A_ hi; (try clear hb); (try clear hb2); (try clear hk); (try clear hi)) | (go_at_call 123; (with_reducible refine (spec_l01Next.calls g s0_0 t596 t597 3 t598 t599 t600 w0 _ ?side1 ?side2 A12.out).mono ?_); (case side1 => exact ei121 HI0); (case side2 => exact em121 HB); rintro e w39 ⟨rfl, hi, hb, hk⟩; replace HO590 := A_ (Kd.R_mono (Kd.R_keep (IsS121.apart (show IsS121 w0 _ g s0_0 t596 t597 from ei121 HI0) (ea HO590) (by decide)) hk (fun _ h => h.2)) (fun _ h => h.1)); replace HK := A_ (KeepBut.trans (ek HK) hk (.inl rfl)); replace HB := A_ hb; replace HI0 := A_ hi; (try clear hb); (try clear hb2); (try clear hk); (try clear hi))))
     go_ret
     exact ⟨by first | rfl | (simp [errW_none, errW_some] <;> rfl) | (simp only [← hji30]; first | rfl | (simp [errW_none, errW_some] <;> rfl)) | (simp [*, errW_none, errW_some] <;> rfl), ei121 HI0, em121 HB, ek HK⟩
    ·rw [if_neg c27] at H
     have c27b0 : (t598 == 1) = false := beq_eq_false_iff_ne.mpr c27
     have c27b1 : (t598 != 1) = true := bne_iff_ne.mpr c27
     by_cases c40 : 0 ≤ t595
     rotate_left
     ·rw [if_neg c40] at H
      exact absurd H (by simp)
     rw [if_pos c40] at H
     have c40b0 := eq_true c40
     have c40b1 := decide_eq_true c40
     clear c40
     by_cases c41 : t595 ≤ (a1.size : Int)
     rotate_left
     ·rw [if_neg c41] at H
      exact absurd H (by simp)
     rw [if_pos c41] at H
     have c41b0 := eq_true c41
     have c41b1 := decide_eq_true c41
     clear c41
     by_cases c42 : (a1.extract 0 (t595 : Int).toNat).size + (rdOf ByteArray.empty y588 t591).size ≤ 9223372036854775807
     rotate_left
     ·rw [if_neg c42] at H
      exact absurd H (by simp)
     rw [if_pos c42] at H
     have c42b0 := eq_true c42
     have c42b1 := decide_eq_true c42
     try have c42b2 : (9223372036854775807 < (a1.extract 0 (t595 : Int).toNat).size + (rdOf ByteArray.empty y588 t591).size) = False := eq_false (Nat.not_lt.2 c42)
     have c43b0 := eq_true (of_decide_eq_true spec_l01Damage.Z0 : 0 ≤ t595)
     have c44b0 := eq_true (of_decide_eq_true spec_l01Damage.Z0 : t595 ≤ (a1.size : Int))
     by_cases c45 : ((a1.extract 0 (t595 : Int).toNat) ++ (rdOf ByteArray.empty y588 t591)).size + (a1.extract (t595 : Int).toNat a1.size).size ≤ 9223372036854775807
     rotate_left
     ·rw [if_neg c45] at H
      exact absurd H (by simp)
     rw [if_pos c45] at H
     have c45b0 := eq_true c45
     have c45b1 := decide_eq_true c45
     try have c45b2 : (9223372036854775807 < ((a1.extract 0 (t595 : Int).toNat) ++ (rdOf ByteArray.empty y588 t591)).size + (a1.extract (t595 : Int).toNat a1.size).size) = False := eq_false (Nat.not_lt.2 c45)
     have c45b2x : (9223372036854775807 < (a1.extract 0 (t595 : Int).toNat).size + (rdOf ByteArray.empty y588 t591).size + (a1.extract (t595 : Int).toNat a1.size).size) = False := eq_false (by have h_ := c45; simp only [ByteArray.size_append] at h_; omega)
     simp only [Option.some.injEq, Prod.mk.injEq] at H
     obtain ⟨rfl, rfl, rfl⟩ := H
     go_enter Try.func124, Try.ntmps124
     go_wp2_with (first | ((with_reducible refine gate_dst (N := 8) rfl ?_); refine Kd.R_lit Kd.string _ 9 ?hg (N := 8) ?hd (xs := ([(⟨#[40]⟩ : ByteArray), (⟨#[41]⟩ : ByteArray), (⟨#[40]⟩ : ByteArray), (⟨#[41]⟩ : ByteArray), (⟨#[40, 41]⟩ : ByteArray), (⟨#[48]⟩ : ByteArray), (⟨#[44]⟩ : ByteArray), (⟨#[32]⟩ : ByteArray), (⟨#[120]⟩ : ByteArray), (⟨#[10]⟩ : ByteArray)] : List ByteArray)) (inner := [.string (⟨#[40]⟩ : ByteArray), .string (⟨#[41]⟩ : ByteArray), .string (⟨#[40]⟩ : ByteArray), .string (⟨#[41]⟩ : ByteArray), .string (⟨#[40, 41]⟩ : ByteArray), .string (⟨#[48]⟩ : ByteArray), .string (⟨#[44]⟩ : ByteArray), .string (⟨#[32]⟩ : ByteArray), .string (⟨#[120]⟩ : ByteArray), .string (⟨#[10]⟩ : ByteArray)]) (ok := fun _ => True) (okp := fun _ => True) ?hr ?hp (fun _ hk => hk) trivial (Below.refl _ _) (Nat.le_refl _) (by simp) ?_; (case hd => rfl); (case hg => rfl); (case hr => first | (go_simp; done) | (go_simp; rfl)); (case hp => exact (Reps.one (show Kd.M Kd.string _ _ _ (⟨#[40]⟩ : ByteArray) [.string (⟨#[40]⟩ : ByteArray)] from rfl) (Reps.one (show Kd.M Kd.string _ _ _ (⟨#[41]⟩ : ByteArray) [.string (⟨#[41]⟩ : ByteArray)] from rfl) (Reps.one (show Kd.M Kd.string _ _ _ (⟨#[40]⟩ : ByteArray) [.string (⟨#[40]⟩ : ByteArray)] from rfl) (Reps.one (show Kd.M Kd.string _ _ _ (⟨#[41]⟩ : ByteArray) [.string (⟨#[41]⟩ : ByteArray)] from rfl) (Reps.one (show Kd.M Kd.string _ _ _ (⟨#[40, 41]⟩ : ByteArray) [.string (⟨#[40, 41]⟩ : ByteArray)] from rfl) (Reps.one (show Kd.M Kd.string _ _ _ (⟨#[48]⟩ : ByteArray) [.string (⟨#[48]⟩ : ByteArray)] from rfl) (Reps.one (show Kd.M Kd.string _ _ _ (⟨#[44]⟩ : ByteArray) [.string (⟨#[44]⟩ : ByteArray)] from rfl) (Reps.one (show Kd.M Kd.string _ _ _ (⟨#[32]⟩ : ByteArray) [.string (⟨#[32]⟩ : ByteArray)] from rfl) (Reps.one (show Kd.M Kd.string _ _ _ (⟨#[120]⟩ : ByteArray) [.string (⟨#[120]⟩ : ByteArray)] from rfl) (Reps.one (show Kd.M Kd.string _ _ _ (⟨#[10]⟩ : ByteArray) [.string (⟨#[10]⟩ : ByteArray)] from rfl) (Reps.none _ _)))))))))))); intro v589 w46 ho47 hb hg_ hnew_; clear hg_ hnew_; (first | rw [← Ny588.out] at ho47 | (simp only [Int.reduceToNat] at ho47; rw [← Ny588.out] at ho47)); have HO590 := A_ (Kd.R_lower ho47 (keep_size (w := w) (g := g) (row := none) (ek HK))); replace HI0 := A_ (IsS121.below (ei121 HI0) hb); replace HK := A_ (KeepBut.trans (ek HK) (KeepBut.of_below hb g none) (.inl rfl)); replace HB := A_ (below_step (em121 HB) hb); clear hb ho47; obtain ⟨Ao48, co48, eo48⟩ := Kd.R_slice HO590.out; subst eo48) | (go_at_call 123; (with_reducible refine (spec_l01Next.calls g s0_0 s0_1 s0_2 (y588.length : Int) t591 t592 t593 w0 _ ?side1 ?side2 A3.out).mono ?_); (case side1 => exact ei121 HI0); (case side2 => exact em121 HB); rintro e w49 ⟨rfl, hi, hb, hk⟩; replace HO590 := A_ (Kd.R_mono (Kd.R_keep (IsS121.apart (show IsS121 w0 _ g s0_0 s0_1 s0_2 from ei121 HI0) (ea HO590) (by decide)) hk (fun _ h => h.2)) (fun _ h => h.1)); replace HK := A_ (KeepBut.trans (ek HK) hk (.inl rfl)); replace HB := A_ hb; replace HI0 := A_ hi; (try clear hb); (try clear hb2); (try clear hk); (try clear hi); have p594 : 0 ≤ (t591 : Int) := of_decide_eq_true spec_l01Damage.Z0; have q594 : t591 < (y588.length : Int) := of_decide_eq_true spec_l01Damage.Z0; obtain ⟨ad594, e594, hx594_0⟩ := Kd.at_string (Kd.R_reads' HO590.out).2.2 t591 p594 q594; cases e594; replace p594 := eq_true p594; replace q594 := eq_true q594) | (go_at_call 123; (with_reducible refine (spec_l01Next.calls g s0_0 t592 t593 (a1.size : Int) t595 t596 t597 w0 _ ?side1 ?side2 A11.out).mono ?_); (case side1 => exact ei121 HI0); (case side2 => exact em121 HB); rintro e w50 ⟨rfl, hi, hb, hk⟩; replace HO590 := A_ (Kd.R_mono (Kd.R_keep (IsS121.apart (show IsS121 w0 _ g s0_0 t592 t593 from ei121 HI0) (ea HO590) (by decide)) hk (fun _ h => h.2)) (fun _ h => h.1)); replace HK := A_ (KeepBut.trans (ek HK) hk (.inl rfl)); replace HB := A_ hb; replace HI0 := A_ hi; (try clear hb); (try clear hb2); (try clear hk); (try clear hi)) | (go_at_call 123; (with_reducible refine (spec_l01Next.calls g s0_0 t596 t597 3 t598 t599 t600 w0 _ ?side1 ?side2 A12.out).mono ?_); (case side1 => exact ei121 HI0); (case side2 => exact em121 HB); rintro e w51 ⟨rfl, hi, hb, hk⟩; replace HO590 := A_ (Kd.R_mono (Kd.R_keep (IsS121.apart (show IsS121 w0 _ g s0_0 t596 t597 from ei121 HI0) (ea HO590) (by decide)) hk (fun _ h => h.2)) (fun _ h => h.1)); replace HK := A_ (KeepBut.trans (ek HK) hk (.inl rfl)); replace HB := A_ hb; replace HI0 := A_ hi; (try clear hb); (try clear hb2); (try clear hk); (try clear hi)))
     repeat (go_quiet (first | ((with_reducible refine gate_dst (N := 8) rfl ?_); refine Kd.R_lit Kd.string _ 9 ?hg (N := 8) ?hd (xs := ([(⟨#[40]⟩ : ByteArray), (⟨#[41]⟩ : ByteArray), (⟨#[40]⟩ : ByteArray), (⟨#[41]⟩ : ByteArray), (⟨#[40, 41]⟩ : ByteArray), (⟨#[48]⟩ : ByteArray), (⟨#[44]⟩ : ByteArray), (⟨#[32]⟩ : ByteArray), (⟨#[120]⟩ : ByteArray), (⟨#[10]⟩ : ByteArray)] : List ByteArray)) (inner := [.string (⟨#[40]⟩ : ByteArray), .string (⟨#[41]⟩ : ByteArray), .string (⟨#[40]⟩ : ByteArray), .string (⟨#[41]⟩ : ByteArray), .string (⟨#[40, 41]⟩ : ByteArray), .string (⟨#[48]⟩ : ByteArray), .string (⟨#[44]⟩ : ByteArray), .string (⟨#[32]⟩ : ByteArray), .string (⟨#[120]⟩ : ByteArray), .string (⟨#[10]⟩ : ByteArray)]) (ok := fun _ => True) (okp := fun _ => True) ?hr ?hp (fun _ hk => hk) trivial (Below.refl _ _) (Nat.le_refl _) (by simp) ?_; (case hd => rfl); (case hg => rfl); (case hr => first | (go_simp; done) | (go_simp; rfl)); (case hp => exact (Reps.one (show Kd.M Kd.string _ _ _ (⟨#[40]⟩ : ByteArray) [.string (⟨#[40]⟩ : ByteArray)] from rfl) (Reps.one (show Kd.M Kd.string _ _ _ (⟨#[41]⟩ : ByteArray) [.string (⟨#[41]⟩ : ByteArray)] from rfl) (Reps.one (show Kd.M Kd.string _ _ _ (⟨#[40]⟩ : ByteArray) [.string (⟨#[40]⟩ : ByteArray)] from rfl) (Reps.one (show Kd.M Kd.string _ _ _ (⟨#[41]⟩ : ByteArray) [.string (⟨#[41]⟩ : ByteArray)] from rfl) (Reps.one (show Kd.M Kd.string _ _ _ (⟨#[40, 41]⟩ : ByteArray) [.string (⟨#[40, 41]⟩ : ByteArray)] from rfl) (Reps.one (show Kd.M Kd.string _ _ _ (⟨#[48]⟩ : ByteArray) [.string (⟨#[48]⟩ : ByteArray)] from rfl) (Reps.one (show Kd.M Kd.string _ _ _ (⟨#[44]⟩ : ByteArray) [.string (⟨#[44]⟩ : ByteArray)] from rfl) (Reps.one (show Kd.M Kd.string _ _ _ (⟨#[32]⟩ : ByteArray) [.string (⟨#[32]⟩ : ByteArray)] from rfl) (Reps.one (show Kd.M Kd.string _ _ _ (⟨#[120]⟩ : ByteArray) [.string (⟨#[120]⟩ : ByteArray)] from rfl) (Reps.one (show Kd.M Kd.string _ _ _ (⟨#[10]⟩ : ByteArray) [.string (⟨#[10]⟩ : ByteArray)] from rfl) (Reps.none _ _)))))))))))); intro v589 w46 ho47 hb hg_ hnew_; clear hg_ hnew_; (first | rw [← Ny588.out] at ho47 | (simp only [Int.reduceToNat] at ho47; rw [← Ny588.out] at ho47)); have HO590 := A_ (Kd.R_lower ho47 (keep_size (w := w) (g := g) (row := none) (ek HK))); replace HI0 := A_ (IsS121.below (ei121 HI0) hb); replace HK := A_ (KeepBut.trans (ek HK) (KeepBut.of_below hb g none) (.inl rfl)); replace HB := A_ (below_step (em121 HB) hb); clear hb ho47; obtain ⟨Ao48, co48, eo48⟩ := Kd.R_slice HO590.out; subst eo48) | (go_at_call 123; (with_reducible refine (spec_l01Next.calls g s0_0 s0_1 s0_2 (y588.length : Int) t591 t592 t593 w0 _ ?side1 ?side2 A3.out).mono ?_); (case side1 => exact ei121 HI0); (case side2 => exact em121 HB); rintro e w49 ⟨rfl, hi, hb, hk⟩; replace HO590 := A_ (Kd.R_mono (Kd.R_keep (IsS121.apart (show IsS121 w0 _ g s0_0 s0_1 s0_2 from ei121 HI0) (ea HO590) (by decide)) hk (fun _ h => h.2)) (fun _ h => h.1)); replace HK := A_ (KeepBut.trans (ek HK) hk (.inl rfl)); replace HB := A_ hb; replace HI0 := A_ hi; (try clear hb); (try clear hb2); (try clear hk); (try clear hi); have p594 : 0 ≤ (t591 : Int) := of_decide_eq_true spec_l01Damage.Z0; have q594 : t591 < (y588.length : Int) := of_decide_eq_true spec_l01Damage.Z0; obtain ⟨ad594, e594, hx594_0⟩ := Kd.at_string (Kd.R_reads' HO590.out).2.2 t591 p594 q594; cases e594; replace p594 := eq_true p594; replace q594 := eq_true q594) | (go_at_call 123; (with_reducible refine (spec_l01Next.calls g s0_0 t592 t593 (a1.size : Int) t595 t596 t597 w0 _ ?side1 ?side2 A11.out).mono ?_); (case side1 => exact ei121 HI0); (case side2 => exact em121 HB); rintro e w50 ⟨rfl, hi, hb, hk⟩; replace HO590 := A_ (Kd.R_mono (Kd.R_keep (IsS121.apart (show IsS121 w0 _ g s0_0 t592 t593 from ei121 HI0) (ea HO590) (by decide)) hk (fun _ h => h.2)) (fun _ h => h.1)); replace HK := A_ (KeepBut.trans (ek HK) hk (.inl rfl)); replace HB := A_ hb; replace HI0 := A_ hi; (try clear hb); (try clear hb2); (try clear hk); (try clear hi)) | (go_at_call 123; (with_reducible refine (spec_l01Next.calls g s0_0 t596 t597 3 t598 t599 t600 w0 _ ?side1 ?side2 A12.out).mono ?_); (case side1 => exact ei121 HI0); (case side2 => exact em121 HB); rintro e w51 ⟨rfl, hi, hb, hk⟩; replace HO590 := A_ (Kd.R_mono (Kd.R_keep (IsS121.apart (show IsS121 w0 _ g s0_0 t596 t597 from ei121 HI0) (ea HO590) (by decide)) hk (fun _ h => h.2)) (fun _ h => h.1)); replace HK := A_ (KeepBut.trans (ek HK) hk (.inl rfl)); replace HB := A_ hb; replace HI0 := A_ hi; (try clear hb); (try clear hb2); (try clear hk); (try clear hi))); try go_wp2_with (first | ((with_reducible refine gate_dst (N := 8) rfl ?_); refine Kd.R_lit Kd.string _ 9 ?hg (N := 8) ?hd (xs := ([(⟨#[40]⟩ : ByteArray), (⟨#[41]⟩ : ByteArray), (⟨#[40]⟩ : ByteArray), (⟨#[41]⟩ : ByteArray), (⟨#[40, 41]⟩ : ByteArray), (⟨#[48]⟩ : ByteArray), (⟨#[44]⟩ : ByteArray), (⟨#[32]⟩ : ByteArray), (⟨#[120]⟩ : ByteArray), (⟨#[10]⟩ : ByteArray)] : List ByteArray)) (inner := [.string (⟨#[40]⟩ : ByteArray), .string (⟨#[41]⟩ : ByteArray), .string (⟨#[40]⟩ : ByteArray), .string (⟨#[41]⟩ : ByteArray), .string (⟨#[40, 41]⟩ : ByteArray), .string (⟨#[48]⟩ : ByteArray), .string (⟨#[44]⟩ : ByteArray), .string (⟨#[32]⟩ : ByteArray), .string (⟨#[120]⟩ : ByteArray), .string (⟨#[10]⟩ : ByteArray)]) (ok := fun _ => True) (okp := fun _ => True) ?hr ?hp (fun _ hk => hk) trivial (Below.refl _ _) (Nat.le_refl _) (by simp) ?_; (case hd => rfl); (case hg => rfl); (case hr => first | (go_simp; done) | (go_simp; rfl)); (case hp => exact (Reps.one (show Kd.M Kd.string _ _ _ (⟨#[40]⟩ : ByteArray) [.string (⟨#[40]⟩ : ByteArray)] from rfl) (Reps.one (show Kd.M Kd.string _ _ _ (⟨#[41]⟩ : ByteArray) [.string (⟨#[41]⟩ : ByteArray)] from rfl) (Reps.one (show Kd.M Kd.string _ _ _ (⟨#[40]⟩ : ByteArray) [.string (⟨#[40]⟩ : ByteArray)] from rfl) (Reps.one (show Kd.M Kd.string _ _ _ (⟨#[41]⟩ : ByteArray) [.string (⟨#[41]⟩ : ByteArray)] from rfl) (Reps.one (show Kd.M Kd.string _ _ _ (⟨#[40, 41]⟩ : ByteArray) [.string (⟨#[40, 41]⟩ : ByteArray)] from rfl) (Reps.one (show Kd.M Kd.string _ _ _ (⟨#[48]⟩ : ByteArray) [.string (⟨#[48]⟩ : ByteArray)] from rfl) (Reps.one (show Kd.M Kd.string _ _ _ (⟨#[44]⟩ : ByteArray) [.string (⟨#[44]⟩ : ByteArray)] from rfl) (Reps.one (show Kd.M Kd.string _ _ _ (⟨#[32]⟩ : ByteArray) [.string (⟨#[32]⟩ : ByteArray)] from rfl) (Reps.one (show Kd.M Kd.string _ _ _ (⟨#[120]⟩ : ByteArray) [.string (⟨#[120]⟩ : ByteArray)] from rfl) (Reps.one (show Kd.M Kd.string _ _ _ (⟨#[10]⟩ : ByteArray) [.string (⟨#[10]⟩ : ByteArray)] from rfl) (Reps.none _ _)))))))))))); intro v589 w46 ho47 hb hg_ hnew_; clear hg_ hnew_; (first | rw [← Ny588.out] at ho47 | (simp only [Int.reduceToNat] at ho47; rw [← Ny588.out] at ho47)); have HO590 := A_ (Kd.R_lower ho47 (keep_size (w := w) (g := g) (row := none) (ek HK))); replace HI0 := A_ (IsS121.below (ei121 HI0) hb); replace HK := A_ (KeepBut.trans (ek HK) (KeepBut.of_below hb g none) (.inl rfl)); replace HB := A_ (below_step (em121 HB) hb); clear hb ho47; obtain ⟨Ao48, co48, eo48⟩ := Kd.R_slice HO590.out; subst eo48) | (go_at_call 123; (with_reducible refine (spec_l01Next.calls g s0_0 s0_1 s0_2 (y588.length : Int) t591 t592 t593 w0 _ ?side1 ?side2 A3.out).mono ?_); (case side1 => exact ei121 HI0); (case side2 => exact em121 HB); rintro e w49 ⟨rfl, hi, hb, hk⟩; replace HO590 := A_ (Kd.R_mono (Kd.R_keep (IsS121.apart (show IsS121 w0 _ g s0_0 s0_1 s0_2 from ei121 HI0) (ea HO590) (by decide)) hk (fun _ h => h.2)) (fun _ h => h.1)); replace HK := A_ (KeepBut.trans (ek HK) hk (.inl rfl)); replace HB := A_ hb; replace HI0 := A_ hi; (try clear hb); (try clear hb2); (try clear hk); (try clear hi); have p594 : 0 ≤ (t591 : Int) := of_decide_eq_true spec_l01Damage.Z0; have q594 : t591 < (y588.length : Int) := of_decide_eq_true spec_l01Damage.Z0; obtain ⟨ad594, e594, hx594_0⟩ := Kd.at_string (Kd.R_reads' HO590.out).2.2 t591 p594 q594; cases e594; replace p594 := eq_true p594; replace q594 := eq_true q594) | (go_at_call 123; (with_reducible refine (spec_l01Next.calls g s0_0 t592 t593 (a1.size : Int) t595 t596 t597 w0 _ ?side1 ?side2 A11.out).mono ?_); (case side1 => exact ei121 HI0); (case side2 => exact em121 HB); rintro e w50 ⟨rfl, hi, hb, hk⟩; replace HO590 := A_ (Kd.R_mono (Kd.R_keep (IsS121.apart (show IsS121 w0 _ g s0_0 t592 t593 from ei121 HI0) (ea HO590) (by decide)) hk (fun _ h => h.2)) (fun _ h => h.1)); replace HK := A_ (KeepBut.trans (ek HK) hk (.inl rfl)); replace HB := A_ hb; replace HI0 := A_ hi; (try clear hb); (try clear hb2); (try clear hk); (try clear hi)) | (go_at_call 123; (with_reducible refine (spec_l01Next.calls g s0_0 t596 t597 3 t598 t599 t600 w0 _ ?side1 ?side2 A12.out).mono ?_); (case side1 => exact ei121 HI0); (case side2 => exact em121 HB); rintro e w51 ⟨rfl, hi, hb, hk⟩; replace HO590 := A_ (Kd.R_mono (Kd.R_keep (IsS121.apart (show IsS121 w0 _ g s0_0 t596 t597 from ei121 HI0) (ea HO590) (by decide)) hk (fun _ h => h.2)) (fun _ h => h.1)); replace HK := A_ (KeepBut.trans (ek HK) hk (.inl rfl)); replace HB := A_ hb; replace HI0 := A_ hi; (try clear hb); (try clear hb2); (try clear hk); (try clear hi))))
     go_ret
     exact ⟨er, ei121 HI0, em121 HB, ek HK⟩
 ·rw [if_neg c4] at H
  exact absurd H (by simp)

/-! ### spec_DrawParseTree: function 34 -/
def spec_DrawParseTree.l0 : Nat → ByteArray → List Int → Int → Int → Option (ByteArray)
  | 0, _, _, _, _ => none
  | k + 1, x4, x605000, x605001, x605002 => (spec_l01Next.f x605000 x605001 x605002 3).bind fun bt611 => (if bt611.1 = 0 then ((spec_l01Damage.f x605000 bt611.2.1 bt611.2.2 x4).bind fun bt614 => (spec_DrawParseTree.l0 k bt614.1 x605000 bt614.2.1 bt614.2.2)) else (some x4))
def spec_DrawParseTree.f (k : Nat) (l0 : List Int) : Option (ByteArray) := (spec_l01From.f k l0).bind fun bt601 => ((spec_l01Draw.f k bt601.1 bt601.2.1 bt601.2.2).bind fun bt605 => ((spec_l01Text.f k bt605.1).bind fun t610 => (spec_DrawParseTree.l0 k t610 bt601.1 bt605.2.1 bt605.2.2)))
theorem spec_DrawParseTree.mono_l : ∀ k, (∀ y0 y1 y2 y3, LeO (spec_DrawParseTree.l0 k y0 y1 y2 y3) (spec_DrawParseTree.l0 (k + 1) y0 y1 y2 y3))
  | 0 => fun _ _ _ _ r h => by simp [spec_DrawParseTree.l0] at h
  | k + 1 => by
    have ih0 := spec_DrawParseTree.mono_l k
    · intro y0 y1 y2 y3
      unfold spec_DrawParseTree.l0
      repeat' first | (with_reducible first | exact ih0 _ _ _ _ | exact spec_l01Draw.mono _ _ _ _ | exact spec_l01From.mono _ _ | exact spec_l01Text.mono _ _ | exact LeO.refl _ | exact LeO.none _ | refine LeO.ite ?_ ?_ | refine LeO.bind ?_ (fun _ => ?_)) | exact ih0 _ _ _ _ | exact spec_l01Draw.mono _ _ _ _ | exact spec_l01From.mono _ _ | exact spec_l01Text.mono _ _ | exact LeO.none _ | refine LeO.ite ?_ ?_ | refine LeO.bind ?_ (fun _ => ?_)
theorem spec_DrawParseTree.mono : ∀ a0 k, LeO (spec_DrawParseTree.f k a0) (spec_DrawParseTree.f (k + 1) a0) := by
  intro a0 k
  have ih0 := spec_DrawParseTree.mono_l k
  unfold spec_DrawParseTree.f
  repeat' first | (with_reducible first | exact ih0 _ _ _ _ | exact spec_l01Draw.mono _ _ _ _ | exact spec_l01From.mono _ _ | exact spec_l01Text.mono _ _ | exact LeO.refl _ | exact LeO.none _ | refine LeO.ite ?_ ?_ | refine LeO.bind ?_ (fun _ => ?_)) | exact ih0 _ _ _ _ | exact spec_l01Draw.mono _ _ _ _ | exact spec_l01From.mono _ _ | exact spec_l01Text.mono _ _ | exact LeO.none _ | refine LeO.ite ?_ ?_ | refine LeO.bind ?_ (fun _ => ?_)
theorem spec_DrawParseTree.Z0 {p : Prop} (h : p := by first | rfl | (simp; done) | (simp [*]; done)) : p := h
theorem spec_DrawParseTree.calls (k : Nat) (A0 : Option Addr) (c0 : Nat) (l0 : List Int) (r : ByteArray) (w : World) (hr0 : Kd.C (Kd.int .u8) w A0 l0.length l0) (hc0 : l0.length ≤ c0) (h : spec_DrawParseTree.f k l0 = some r) :
  Calls Try.prog 34 #[.slice A0 l0.length c0] w fun e w' => e = .returned (.string r) ∧ Below w.heap.size w w' := by
 have HR0 := A_ hr0
 have HC0 := A_ hc0
 clear hr0 hc0
 have HB := A_ (Below.refl w.heap.size w)
 have H : ((spec_l01From.f k l0).bind fun bt601 => ((spec_l01Draw.f k bt601.1 bt601.2.1 bt601.2.2).bind fun bt605 => ((spec_l01Text.f k bt605.1).bind fun t610 => (spec_DrawParseTree.l0 k t610 bt601.1 bt605.2.1 bt605.2.2)))) = some r := h
 clear h
 replace H := Option.bind_eq_some_iff.mp H
 obtain ⟨⟨t601, t602, t603⟩, A20, H⟩ := H
 replace H : ((spec_l01Draw.f k t601 t602 t603).bind fun bt605 => ((spec_l01Text.f k bt605.1).bind fun t610 => (spec_DrawParseTree.l0 k t610 t601 bt605.2.1 bt605.2.2))) = some r := H
 have A2 := A_ A20
 clear A20
 replace H := Option.bind_eq_some_iff.mp H
 obtain ⟨⟨t605, t608, t609⟩, A30, H⟩ := H
 replace H : ((spec_l01Text.f k t605).bind fun t610 => (spec_DrawParseTree.l0 k t610 t601 t608 t609)) = some r := H
 have A3 := A_ A30
 clear A30
 replace H := Option.bind_eq_some_iff.mp H
 obtain ⟨t610, A40, H⟩ := H
 replace H : (spec_DrawParseTree.l0 k t610 t601 t608 t609) = some r := H
 have A4 := A_ A40
 clear A40
 have H' := A_ H
 clear H
 go_enter Try.func34, Try.ntmps34
 go_wp2_with (first | ((with_reducible refine gate_callee (f := 99) rfl ?_); refine goesL_ (some 6) rfl rfl Try.func99 (by kernel_rfl) rfl #[.slice A0 l0.length c0] rfl eg ?_; (with_reducible refine (spec_l01From.calls k _ _ l0 t601 t602 t603 w _ ?side1 ?side2 ?side3 A2.out).mono ?_); (case side1 => exact el HB); (case side2 => exact HR0.out); (case side3 => exact HC0.out); rintro e w5 ⟨g604, rfl, hi, hb, hb2⟩; refine ⟨_, rfl, ?_⟩; replace HB := A_ hb; have HI604 := A_ hi; (try clear hb); (try clear hb2); (try clear hk); (try clear hi)) | ((with_reducible refine gate_callee (f := 122) rfl ?_); refine goesL_ (some 8) rfl rfl Try.func122 (by kernel_rfl) rfl #[.pointer (some ⟨g604, 0, none⟩)] rfl eg ?_; (with_reducible refine (spec_l01Draw.calls k g604 t601 t602 t603 t605 t608 t609 w _ ?side1 ?side2 A3.out).mono ?_); (case side1 => exact ei121 HI604); (case side2 => exact em121 HB); rintro e w6 ⟨v606, rfl, ho0, hi, hb, hk⟩; refine ⟨_, rfl, ?_⟩; have HO607 := A_ (Kd.R_lower ho0 (below_size (em121 HB))); replace HB := A_ hb; replace HI604 := A_ hi; (try clear hb); (try clear hb2); (try clear hk); (try clear hi); (try clear ho0); obtain ⟨Ao7, co7, eo7⟩ := Kd.R_slice HO607.out; subst eo7) | ((with_reducible refine gate_callee (f := 121) rfl ?_); refine goesL_ (some 9) rfl rfl Try.func121 (by kernel_rfl) rfl #[.agg #[.slice Ao7 t605.length co7]] rfl eg ?_; (with_reducible refine (spec_l01Text.calls k _ _ t605 t610 _ ?side1 ?side2 A4.out).mono ?_); (case side1 => exact cS ((Kd.R_reads' HO607.out).2.2)); (case side2 => exact (Kd.R_reads' HO607.out).2.1); rintro e w8 ⟨rfl, hb⟩; refine ⟨_, rfl, ?_⟩; replace HO607 := A_ (Kd.R_below (ea HO607) hb); replace HI604 := A_ (IsS121.below (ei121 HI604) hb); replace HB := A_ (below_step (em121 HB) hb); (try clear hb); (try clear hb2); (try clear hk); (try clear hi)))
 go_loopg [4] k (fun kq v4 w' => ∃ (x4_1 : ByteArray) (x605001_1 : Int) (x605002_1 : Int), v4 = .string x4_1 ∧ Aside0 (spec_DrawParseTree.l0 kq x4_1 t601 x605001_1 x605002_1 = some r) ∧ Aside0 (kq ≤ k) ∧ Aside0 (IsS121 w w' g604 t601 x605001_1 x605002_1) ∧ Aside0 (Below w.heap.size w w'))
 case atStart => exact ⟨(t610), (t608), (t609), spec_DrawParseTree.Z0, H', ⟨Nat.le_refl _⟩, ⟨ei121 HI604⟩, ⟨em121 HB⟩⟩
 case round =>
  clear H'
  try clear c1
  try clear p2
  try clear c3
  obtain ⟨x4_1, x605001_1, x605002_1, rfl, HA, HK1, HI604, HB⟩ := hrel
  cases gk with
  | zero => exact absurd HA.out (by simp [spec_DrawParseTree.l0])
  | succ k1 =>
   have H := HA.out
   clear HA
   simp only [spec_DrawParseTree.l0] at H
   replace H := Option.bind_eq_some_iff.mp H
   obtain ⟨⟨t611, t612, t613⟩, A90, H⟩ := H
   replace H : (if t611 = 0 then ((spec_l01Damage.f t601 t612 t613 x4_1).bind fun bt614 => (spec_DrawParseTree.l0 k1 bt614.1 t601 bt614.2.1 bt614.2.2)) else (some x4_1)) = some r := H
   have A9 := A_ A90
   clear A90
   by_cases c10 : t611 = 0
   ·rw [if_pos c10] at H
    have c10b0 : (t611 == 0) = true := beq_iff_eq.mpr c10
    have c10b1 : (t611 != 0) = false := bne_eq_false_iff_eq.mpr c10
    clear c10
    replace H := Option.bind_eq_some_iff.mp H
    obtain ⟨⟨t614, t615, t616⟩, A110, H⟩ := H
    replace H : (spec_DrawParseTree.l0 k1 t614 t601 t615 t616) = some r := H
    have A11 := A_ A110
    clear A110
    have H' := A_ H
    clear H
    go_wp2_with (first | ((with_reducible refine gate_callee (f := 123) rfl ?_); refine goesL_ (some 11) rfl rfl Try.func123 (by kernel_rfl) rfl #[.pointer (some ⟨g604, 0, none⟩), .int .i64 3] rfl eg ?_; (with_reducible refine (spec_l01Next.calls g604 t601 x605001_1 x605002_1 3 t611 t612 t613 w _ ?side1 ?side2 A9.out).mono ?_); (case side1 => exact ei121 HI604); (case side2 => exact em121 HB); rintro e w12 ⟨rfl, hi, hb, hk⟩; refine ⟨_, rfl, ?_⟩; replace HB := A_ hb; replace HI604 := A_ hi; (try clear hb); (try clear hb2); (try clear hk); (try clear hi)) | ((with_reducible refine gate_callee (f := 124) rfl ?_); refine goesL_ (some 15) rfl rfl Try.func124 (by kernel_rfl) rfl #[.pointer (some ⟨g604, 0, none⟩), .string x4_1] rfl eg ?_; (with_reducible refine (spec_l01Damage.calls g604 t601 t612 t613 x4_1 t614 t615 t616 w _ ?side1 ?side2 A11.out).mono ?_); (case side1 => exact ei121 HI604); (case side2 => exact em121 HB); rintro e w13 ⟨rfl, hi, hb, hk⟩; refine ⟨_, rfl, ?_⟩; replace HB := A_ hb; replace HI604 := A_ hi; (try clear hb); (try clear hb2); (try clear hk); (try clear hi)))
    go_roundg k1
    case measure => have := HK1.out; omega
    case rel => exact ⟨(t614), (t615), (t616), spec_DrawParseTree.Z0, H', ⟨by have := HK1.out; omega⟩, ⟨ei121 HI604⟩, ⟨em121 HB⟩⟩
   ·rw [if_neg c10] at H
    have c10b0 : (t611 == 0) = false := beq_eq_false_iff_ne.mpr c10
    have c10b1 : (t611 != 0) = true := bne_iff_ne.mpr c10
    obtain rfl := Option.some.inj H
    go_wp2_with (first | ((with_reducible refine gate_callee (f := 123) rfl ?_); refine goesL_ (some 11) rfl rfl Try.func123 (by kernel_rfl) rfl #[.pointer (some ⟨g604, 0, none⟩), .int .i64 3] rfl eg ?_; (with_reducible refine (spec_l01Next.calls g604 t601 x605001_1 x605002_1 3 t611 t612 t613 w _ ?side1 ?side2 A9.out).mono ?_); (case side1 => exact ei121 HI604); (case side2 => exact em121 HB); rintro e w14 ⟨rfl, hi, hb, hk⟩; refine ⟨_, rfl, ?_⟩; replace HB := A_ hb; replace HI604 := A_ hi; (try clear hb); (try clear hb2); (try clear hk); (try clear hi)))
    go_ret
    exact ⟨er, em121 HB⟩

end Go.Proofs.Ytocachknmgefaaa.QFnTrees
