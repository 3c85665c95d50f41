/- Functions of the program as plain Lean functions, each with a proof that the machine's call answers what it answers. Conditions: none. -/
import Derived.Test.YtocachknmgefaaaQFnTreesx0
import Derived.Test.YtocachknmgefaaaQFnTreesx4
import Derived.Test.YtocachknmgefaaaQFnTreesx5
import Derived.Test.YtocachknmgefaaaQFnTreesx9
namespace Go.Proofs.Ytocachknmgefaaa.QFnTrees
open Go.RowKit Go.Proofs.YtocachknmgefaaaW.PrintWords Go.Proofs.YtocachknmgefaaaW.PrintLast Go.Proofs.YtocachknmgefaaaW.PrintMore
attribute [local go_sem] max2_int min2_int max_two min_two max_three min_three max_four min_four   -- for this text's walks alone
set_option linter.unusedVariables false
set_option maxHeartbeats 8000000
set_option maxRecDepth 100000
set_option linter.unusedSimpArgs false

/-! ### spec_IsTree: function 25 -/
def spec_IsTree.f (k : Nat) (l0_0 : List Int) : Option (Bool) := (spec_l01Is.f k l0_0).bind fun t457 => (some t457)
theorem spec_IsTree.mono : ∀ a0 k, LeO (spec_IsTree.f k a0) (spec_IsTree.f (k + 1) a0) := by
  intro a0 k
  unfold spec_IsTree.f
  repeat' first | (with_reducible first | exact spec_l01Is.mono _ _ | exact LeO.refl _ | exact LeO.none _ | refine LeO.ite ?_ ?_ | refine LeO.bind ?_ (fun _ => ?_)) | exact spec_l01Is.mono _ _ | exact LeO.none _ | refine LeO.ite ?_ ?_ | refine LeO.bind ?_ (fun _ => ?_)
theorem spec_IsTree.calls (k : Nat) (A0_0 : Option Addr) (c0_0 : Nat) (l0_0 : List Int) (r : Bool) (w : World) (hr0_0 : Kd.C (Kd.int .i64) w A0_0 l0_0.length l0_0) (hc0_0 : l0_0.length ≤ c0_0) (h : spec_IsTree.f k l0_0 = some r) :
  Calls Try.prog 25 #[.agg #[.slice A0_0 l0_0.length c0_0]] w fun e w' => e = .returned (.bool r) ∧ Below w.heap.size w w' := by
 have hu26 := Try.underlying26
 have HR0_0 := A_ hr0_0
 have HC0_0 := A_ hc0_0
 clear hr0_0 hc0_0
 have HB := A_ (Below.refl w.heap.size w)
 have H : ((spec_l01Is.f k l0_0).bind fun t457 => (some t457)) = some r := h
 clear h
 replace H := Option.bind_eq_some_iff.mp H
 obtain ⟨t457, A20, H⟩ := H
 replace H : (some t457) = some r := H
 have A2 := A_ A20
 clear A20
 obtain rfl := Option.some.inj H
 go_enter Try.func25, Try.ntmps25
 go_wp2_with (first | ((with_reducible refine gate_dst (N := 1) rfl ?_); refine bx 1 #[.slice A0_0 l0_0.length c0_0] 26 ?_; intro gb456 hg w3 hbox hb; have BK456 := A_ hbox; have GW456 := A_ (eG hg (below_size (el HB)) : w.heap.size ≤ gb456); have GE456 := A_ (eG hg (below_size (el HB)) : w.heap.size ≤ gb456); replace HB := A_ (below_step (el HB) hb); clear hb hbox hg; have hcz4_0 : w3.cell? ⟨gb456, 0, none⟩ = some (.slice A0_0 l0_0.length c0_0) := (blk_cell BK456.out 0).trans rfl; have hfz4_0 := blk_frozen BK456.out 0) | ((with_reducible refine gate_callee (f := 101) rfl ?_); refine goesL_ (some 4) rfl rfl Try.func101 (by kernel_rfl) rfl #[.agg #[.slice A0_0 l0_0.length c0_0]] rfl eg ?_; (with_reducible refine (spec_l01Is.calls k _ _ l0_0 t457 _ ?side1 ?side2 A2.out).mono ?_); (case side1 => exact cS (Kd.C_below HR0_0.out HB.out)); (case side2 => exact HC0_0.out); rintro e w5 ⟨rfl, hb⟩; refine ⟨_, rfl, ?_⟩; replace BK456 := A_ (eB BK456 hb); replace HB := A_ (below_step (el HB) hb); (try clear hb); (try clear hb2); (try clear hk); (try clear hi)))
 go_ret
 exact ⟨er, el HB⟩

/-! ### impl_textAt: function 168 -/
mutual
def impl_textAt.l0 : Nat → List Int → ByteArray → List Int → Int → Int → Option (ByteArray)
  | 0, _, _, _, _, _ => none
  | k + 1, x0, x5, x10, x11, x12 => if x12 < x11 then (if 0 ≤ x12 then (if x12 < (x10.length : Int) then ((impl_textAt.f k x0 (rd x10 x12)).bind fun t462 => (if x5.size + t462.size ≤ 9223372036854775807 then (impl_textAt.l0 k x0 (x5 ++ t462) x10 x11 (wrap64 (x12 + 1))) else (none))) else (none)) else (none)) else (if x5.size + 1 ≤ 9223372036854775807 then (some (x5 ++ (⟨#[41]⟩ : ByteArray))) else (none))
def impl_textAt.f : Nat → List Int → Int → Option (ByteArray)
  | 0, _, _ => none
  | k + 1, l0, a1 => (impl_kidsOf.f k l0 a1).bind fun t458 => (impl_textAt.l0 k l0 (⟨#[40]⟩ : ByteArray) t458 (t458.length : Int) 0)
end
theorem impl_textAt.mono_l : ∀ k, (∀ y0 y1, LeO (impl_textAt.f k y0 y1) (impl_textAt.f (k + 1) y0 y1)) ∧ (∀ y0 y1 y2 y3 y4, LeO (impl_textAt.l0 k y0 y1 y2 y3 y4) (impl_textAt.l0 (k + 1) y0 y1 y2 y3 y4))
  | 0 => ⟨fun _ _ r h => by simp [impl_textAt.f] at h, fun _ _ _ _ _ r h => by simp [impl_textAt.l0] at h⟩
  | k + 1 => by
    obtain ⟨ih0, ih1⟩ := impl_textAt.mono_l k
    refine ⟨?_, ?_⟩
    · intro y0 y1
      unfold impl_textAt.f
      repeat' first | (with_reducible first | exact ih0 _ _ | exact ih1 _ _ _ _ _ | exact impl_kidsOf.mono _ _ _ | exact LeO.refl _ | exact LeO.none _ | refine LeO.ite ?_ ?_ | refine LeO.bind ?_ (fun _ => ?_)) | exact ih0 _ _ | exact ih1 _ _ _ _ _ | exact impl_kidsOf.mono _ _ _ | exact LeO.none _ | refine LeO.ite ?_ ?_ | refine LeO.bind ?_ (fun _ => ?_)
    · intro y0 y1 y2 y3 y4
      unfold impl_textAt.l0
      repeat' first | (with_reducible first | exact ih0 _ _ | exact ih1 _ _ _ _ _ | exact impl_kidsOf.mono _ _ _ | exact LeO.refl _ | exact LeO.none _ | refine LeO.ite ?_ ?_ | refine LeO.bind ?_ (fun _ => ?_)) | exact ih0 _ _ | exact ih1 _ _ _ _ _ | exact impl_kidsOf.mono _ _ _ | exact LeO.none _ | refine LeO.ite ?_ ?_ | refine LeO.bind ?_ (fun _ => ?_)
theorem impl_textAt.mono : ∀ a0 a1 k, LeO (impl_textAt.f k a0 a1) (impl_textAt.f (k + 1) a0 a1) := by
  intro a0 a1 k
  obtain ⟨ih0, ih1⟩ := impl_textAt.mono_l k
  exact ih0 a0 a1
theorem impl_textAt.Z0 {p : Prop} (h : p := by first | (with_reducible assumption) | assumption) : p := h
theorem impl_textAt.Z1 {p : Prop} (h : p := by first | rfl | (simp; done) | (simp [*]; done)) : p := h
theorem impl_textAt.calls (k : Nat) : ∀ (A0 : Option Addr) (c0 : Nat) (l0 : List Int) (a1 : Int) (r : ByteArray) (w : World) (hr0 : Kd.C (Kd.int .i64) w A0 l0.length l0) (hc0 : l0.length ≤ c0) (h : impl_textAt.f k l0 a1 = some r),
  Calls Try.prog 168 #[.slice A0 l0.length c0, .int .i64 a1] w fun e w' => e = .returned (.string r) ∧ Below w.heap.size w w' := by
 induction k using Nat.strongRecOn with
 | _ k ih =>
 intro A0 c0 l0 a1 r w hr0 hc0 h
 cases k with
 | zero => exact absurd h (by simp [impl_textAt.f])
 | succ k =>
 simp only [impl_textAt.f] at h
 have HR0 := A_ hr0
 have HC0 := A_ hc0
 clear hr0 hc0
 have HB := A_ (Below.refl w.heap.size w)
 have H : ((impl_kidsOf.f k l0 a1).bind fun t458 => (impl_textAt.l0 k l0 (⟨#[40]⟩ : ByteArray) t458 (t458.length : Int) 0)) = some r := h
 clear h
 replace H := Option.bind_eq_some_iff.mp H
 obtain ⟨t458, A30, H⟩ := H
 replace H : (impl_textAt.l0 k l0 (⟨#[40]⟩ : ByteArray) t458 (t458.length : Int) 0) = some r := H
 have A3 := A_ A30
 clear A30
 have H' := A_ H
 clear H
 go_enter Try.func168, Try.ntmps168
 go_wp2_with (first | ((with_reducible refine gate_callee (f := 118) rfl ?_); refine goesL_ (some 10) rfl rfl Try.func118 (by kernel_rfl) rfl #[.slice A0 l0.length c0, .int .i64 a1] rfl eg ?_; (with_reducible refine (impl_kidsOf.calls k _ _ l0 a1 t458 _ ?side1 ?side2 A3.out).mono ?_); (case side1 => repeat (first | exact HR0.out | (with_reducible refine Kd.C_alloc ?_ _) | (with_reducible refine Kd.C_drewN ?_ _) | (with_reducible refine Kd.C_drew ?_))); (case side2 => exact HC0.out); rintro e w4 ⟨v459, rfl, ho0, hb⟩; refine ⟨_, rfl, ?_⟩; have HO460 := A_ (Kd.R_lower ho0 (below_size (el HB))); replace HB := A_ (below_step (el HB) hb); (try clear hb); (try clear hb2); (try clear hk); (try clear hi); (try clear ho0); obtain ⟨Ao5, co5, eo5⟩ := Kd.R_slice HO460.out; subst eo5))
 go_loopg [5, 12] k (fun kq v5 v12 w' => ∃ (x5_1 : ByteArray) (x12_1 : Int), v5 = .string x5_1 ∧ v12 = .int .i64 x12_1 ∧ Aside0 (impl_textAt.l0 kq l0 x5_1 t458 (t458.length : Int) x12_1 = some r) ∧ Aside0 (kq ≤ k) ∧ Aside0 (Kd.R (Kd.int .i64) 2 w' w.heap.size (fun _ => True) (.slice Ao5 t458.length co5) t458) ∧ Aside0 (Below w.heap.size w w'))
 case atStart => exact ⟨((⟨#[40]⟩ : ByteArray)), (0), impl_textAt.Z1, impl_textAt.Z1, H', ⟨Nat.le_refl _⟩, ⟨ea HO460⟩, ⟨el HB⟩⟩
 case round =>
  clear H'
  try clear c1
  try clear p2
  obtain ⟨x5_1, x12_1, rfl, rfl, HA, HK1, HO_10, HB⟩ := hrel
  cases gk with
  | zero => exact absurd HA.out (by simp [impl_textAt.l0])
  | succ k1 =>
   have H := HA.out
   clear HA
   simp only [impl_textAt.l0] at H
   by_cases c6 : x12_1 < (t458.length : Int)
   ·rw [if_pos c6] at H
    have c6b0 := decide_eq_true c6
    clear c6
    by_cases c7 : 0 ≤ x12_1
    rotate_left
    ·rw [if_neg c7] at H
     exact absurd H (by simp)
    rw [if_pos c7] at H
    have c7b0 := decide_eq_true c7
    clear c7
    by_cases c8 : x12_1 < (t458.length : Int)
    rotate_left
    ·rw [if_neg c8] at H
     exact absurd H (by simp)
    rw [if_pos c8] at H
    have c8b0 := decide_eq_true c8
    clear c8
    replace H := Option.bind_eq_some_iff.mp H
    obtain ⟨t462, A90, H⟩ := H
    replace H : (if x5_1.size + t462.size ≤ 9223372036854775807 then (impl_textAt.l0 k1 l0 (x5_1 ++ t462) t458 (t458.length : Int) (wrap64 (x12_1 + 1))) else (none)) = some r := H
    have A9 := A_ A90
    clear A90
    by_cases c10 : x5_1.size + t462.size ≤ 9223372036854775807
    rotate_left
    ·rw [if_neg c10] at H
     exact absurd H (by simp)
    rw [if_pos c10] at H
    have c10b0 := eq_true c10
    have c10b1 := decide_eq_true c10
    try have c10b2 : (9223372036854775807 < x5_1.size + t462.size) = False := eq_false (Nat.not_lt.2 c10)
    have H' := A_ H
    clear H
    have p461 : 0 ≤ (x12_1 : Int) := of_decide_eq_true impl_textAt.Z0
    have q461 : x12_1 < (t458.length : Int) := of_decide_eq_true impl_textAt.Z0
    obtain ⟨ad461, e461, hx461_0⟩ := Kd.at_int (Kd.R_reads' HO_10.out).2.2 x12_1 p461 q461
    cases e461
    replace p461 := eq_true p461
    replace q461 := eq_true q461
    go_wp2_with (first | ((with_reducible refine gate_callee (f := 168) rfl ?_); refine goesL_ (some 19) rfl rfl Try.func168 (by kernel_rfl) rfl #[.slice A0 l0.length c0, .int .i64 (rd t458 x12_1)] rfl eg ?_; (with_reducible refine (ih k1 (by have := HK1.out; omega) _ _ l0 (rd t458 x12_1) t462 _ ?side1 ?side2 A9.out).mono ?_); (case side1 => exact cS (Kd.C_below HR0.out HB.out)); (case side2 => exact HC0.out); rintro e w11 ⟨rfl, hb⟩; refine ⟨_, rfl, ?_⟩; replace HO_10 := A_ (Kd.R_below (ea HO_10) hb); replace HB := A_ (below_step (el HB) hb); (try clear hb); (try clear hb2); (try clear hk); (try clear hi)))
    go_roundg k1
    case measure => have := HK1.out; omega
    case rel => exact ⟨(x5_1 ++ t462), (wrap64 (x12_1 + 1)), impl_textAt.Z1, impl_textAt.Z1, H', ⟨by have := HK1.out; omega⟩, ⟨es HO_10⟩, ⟨el HB⟩⟩
   ·rw [if_neg c6] at H
    have c6b0 := decide_eq_false c6
    clear c6
    by_cases c12 : x5_1.size + 1 ≤ 9223372036854775807
    ·rw [if_pos c12] at H
     have c12b0 := eq_true c12
     have c12b1 := decide_eq_true c12
     try have c12b2 : (9223372036854775807 < x5_1.size + 1) = False := eq_false (Nat.not_lt.2 c12)
     obtain rfl := Option.some.inj H
     go_wp2
     go_ret
     exact ⟨er, el HB⟩
    ·rw [if_neg c12] at H
     exact absurd H (by simp)

/-! ### impl_treeText: function 115 -/
def impl_treeText.f (k : Nat) (l0_0 : List Int) : Option (ByteArray) := (impl_textAt.f k l0_0 0).bind fun t464 => (some t464)
theorem impl_treeText.mono : ∀ a0 k, LeO (impl_treeText.f k a0) (impl_treeText.f (k + 1) a0) := by
  intro a0 k
  unfold impl_treeText.f
  repeat' first | (with_reducible first | exact impl_textAt.mono _ _ _ | exact LeO.refl _ | exact LeO.none _ | refine LeO.ite ?_ ?_ | refine LeO.bind ?_ (fun _ => ?_)) | exact impl_textAt.mono _ _ _ | exact LeO.none _ | refine LeO.ite ?_ ?_ | refine LeO.bind ?_ (fun _ => ?_)
theorem impl_treeText.calls (k : Nat) (A0_0 : Option Addr) (c0_0 : Nat) (l0_0 : List Int) (r : ByteArray) (w : World) (hr0_0 : Kd.C (Kd.int .i64) w A0_0 l0_0.length l0_0) (hc0_0 : l0_0.length ≤ c0_0) (h : impl_treeText.f k l0_0 = some r) :
  Calls Try.prog 115 #[.agg #[.slice A0_0 l0_0.length c0_0]] w fun e w' => e = .returned (.string r) ∧ Below w.heap.size w w' := by
 have hu26 := Try.underlying26
 have HR0_0 := A_ hr0_0
 have HC0_0 := A_ hc0_0
 clear hr0_0 hc0_0
 have HB := A_ (Below.refl w.heap.size w)
 have H : ((impl_textAt.f k l0_0 0).bind fun t464 => (some t464)) = some r := h
 clear h
 replace H := Option.bind_eq_some_iff.mp H
 obtain ⟨t464, A20, H⟩ := H
 replace H : (some t464) = some r := H
 have A2 := A_ A20
 clear A20
 obtain rfl := Option.some.inj H
 go_enter Try.func115, Try.ntmps115
 go_wp2_with (first | ((with_reducible refine gate_dst (N := 1) rfl ?_); refine bx 1 #[.slice A0_0 l0_0.length c0_0] 26 ?_; intro gb463 hg w3 hbox hb; have BK463 := A_ hbox; have GW463 := A_ (eG hg (below_size (el HB)) : w.heap.size ≤ gb463); have GE463 := A_ (eG hg (below_size (el HB)) : w.heap.size ≤ gb463); replace HB := A_ (below_step (el HB) hb); clear hb hbox hg; have hcz4_0 : w3.cell? ⟨gb463, 0, none⟩ = some (.slice A0_0 l0_0.length c0_0) := (blk_cell BK463.out 0).trans rfl; have hfz4_0 := blk_frozen BK463.out 0) | ((with_reducible refine gate_callee (f := 168) rfl ?_); refine goesL_ (some 5) rfl rfl Try.func168 (by kernel_rfl) rfl #[.slice A0_0 l0_0.length c0_0, .int .i64 0] rfl eg ?_; (with_reducible refine (impl_textAt.calls k _ _ l0_0 0 t464 _ ?side1 ?side2 A2.out).mono ?_); (case side1 => exact cS (Kd.C_below HR0_0.out HB.out)); (case side2 => exact HC0_0.out); rintro e w5 ⟨rfl, hb⟩; refine ⟨_, rfl, ?_⟩; replace BK463 := A_ (eB BK463 hb); replace HB := A_ (below_step (el HB) hb); (try clear hb); (try clear hb2); (try clear hk); (try clear hi)))
 go_ret
 exact ⟨er, el HB⟩

/-! ### impl_TreeText: function 26 -/
def impl_TreeText.f (k : Nat) (l0_0 : List Int) : Option (ByteArray × Int) := (impl_IsTree.f k l0_0).bind fun t466 => (if t466 = true then ((impl_treeText.f k l0_0).bind fun t467 => (some (t467, 0))) else (some ((⟨#[]⟩ : ByteArray), 1)))
theorem impl_TreeText.mono : ∀ a0 k, LeO (impl_TreeText.f k a0) (impl_TreeText.f (k + 1) a0) := by
  intro a0 k
  unfold impl_TreeText.f
  repeat' first | (with_reducible first | exact impl_IsTree.mono _ _ | exact impl_treeText.mono _ _ | exact LeO.refl _ | exact LeO.none _ | refine LeO.ite ?_ ?_ | refine LeO.bind ?_ (fun _ => ?_)) | exact impl_IsTree.mono _ _ | exact impl_treeText.mono _ _ | exact LeO.none _ | refine LeO.ite ?_ ?_ | refine LeO.bind ?_ (fun _ => ?_)
theorem impl_TreeText.calls (k : Nat) (A0_0 : Option Addr) (c0_0 : Nat) (l0_0 : List Int) (r1 : ByteArray) (r2 : Int) (w : World) (hr0_0 : Kd.C (Kd.int .i64) w A0_0 l0_0.length l0_0) (hc0_0 : l0_0.length ≤ c0_0) (h : impl_TreeText.f k l0_0 = some (r1, r2)) :
  Calls Try.prog 26 #[.agg #[.slice A0_0 l0_0.length c0_0]] w fun e w' => e = .returned (.tuple #[.string r1, .int .i64 r2]) ∧ Below w.heap.size w w' := by
 have hu26 := Try.underlying26
 have HR0_0 := A_ hr0_0
 have HC0_0 := A_ hc0_0
 clear hr0_0 hc0_0
 have HB := A_ (Below.refl w.heap.size w)
 have H : ((impl_IsTree.f k l0_0).bind fun t466 => (if t466 = true then ((impl_treeText.f k l0_0).bind fun t467 => (some (t467, 0))) else (some ((⟨#[]⟩ : ByteArray), 1)))) = some (r1, r2) := h
 clear h
 replace H := Option.bind_eq_some_iff.mp H
 obtain ⟨t466, A20, H⟩ := H
 replace H : (if t466 = true then ((impl_treeText.f k l0_0).bind fun t467 => (some (t467, 0))) else (some ((⟨#[]⟩ : ByteArray), 1))) = some (r1, r2) := H
 have A2 := A_ A20
 clear A20
 by_cases c3 : t466 = true
 ·subst c3
  have H1 : ((impl_treeText.f k l0_0).bind fun t467 => (some (t467, 0))) = some (r1, r2) := by rw [if_pos rfl] at H; exact H
  clear H
  have H := H1
  clear H1
  replace H := Option.bind_eq_some_iff.mp H
  obtain ⟨t467, A40, H⟩ := H
  replace H : (some (t467, 0)) = some (r1, r2) := H
  have A4 := A_ A40
  clear A40
  simp only [Option.some.injEq, Prod.mk.injEq] at H
  obtain ⟨rfl, rfl⟩ := H
  go_enter Try.func26, Try.ntmps26
  go_wp2_with (first | ((with_reducible refine gate_dst (N := 1) rfl ?_); refine bx 1 #[.slice A0_0 l0_0.length c0_0] 26 ?_; intro gb465 hg w5 hbox hb; have BK465 := A_ hbox; have GW465 := A_ (eG hg (below_size (el HB)) : w.heap.size ≤ gb465); have GE465 := A_ (eG hg (below_size (el HB)) : w.heap.size ≤ gb465); replace HB := A_ (below_step (el HB) hb); clear hb hbox hg; have hcz6_0 : w5.cell? ⟨gb465, 0, none⟩ = some (.slice A0_0 l0_0.length c0_0) := (blk_cell BK465.out 0).trans rfl; have hfz6_0 := blk_frozen BK465.out 0) | ((with_reducible refine gate_callee (f := 24) rfl ?_); refine goesL_ (some 5) rfl rfl Try.func24 (by kernel_rfl) rfl #[.agg #[.slice A0_0 l0_0.length c0_0]] rfl eg ?_; (with_reducible refine (impl_IsTree.calls k _ _ l0_0 true _ ?side1 ?side2 A2.out).mono ?_); (case side1 => exact cS (Kd.C_below HR0_0.out HB.out)); (case side2 => exact HC0_0.out); rintro e w7 ⟨rfl, hb⟩; refine ⟨_, rfl, ?_⟩; replace BK465 := A_ (eB BK465 hb); replace HB := A_ (below_step (el HB) hb); (try clear hb); (try clear hb2); (try clear hk); (try clear hi); have hcz8_0 : w7.cell? ⟨gb465, 0, none⟩ = some (.slice A0_0 l0_0.length c0_0) := (blk_cell BK465.out 0).trans rfl; have hfz8_0 := blk_frozen BK465.out 0) | ((with_reducible refine gate_callee (f := 115) rfl ?_); refine goesL_ (some 8) rfl rfl Try.func115 (by kernel_rfl) rfl #[.agg #[.slice A0_0 l0_0.length c0_0]] rfl eg ?_; (with_reducible refine (impl_treeText.calls k _ _ l0_0 t467 _ ?side1 ?side2 A4.out).mono ?_); (case side1 => exact cS (Kd.C_below HR0_0.out HB.out)); (case side2 => exact HC0_0.out); rintro e w9 ⟨rfl, hb⟩; refine ⟨_, rfl, ?_⟩; replace BK465 := A_ (eB BK465 hb); replace HB := A_ (below_step (el HB) hb); (try clear hb); (try clear hb2); (try clear hk); (try clear hi)))
  go_ret2
  exact ⟨er, el HB⟩
 ·replace c3 := Bool.eq_false_iff.mpr c3
  subst c3
  have H1 : (some ((⟨#[]⟩ : ByteArray), 1)) = some (r1, r2) := by rw [if_neg (show ¬ (false = true) by decide)] at H; exact H
  clear H
  have H := H1
  clear H1
  simp only [Option.some.injEq, Prod.mk.injEq] at H
  obtain ⟨rfl, rfl⟩ := H
  go_enter Try.func26, Try.ntmps26
  go_wp2_with (first | ((with_reducible refine gate_dst (N := 1) rfl ?_); refine bx 1 #[.slice A0_0 l0_0.length c0_0] 26 ?_; intro gb465 hg w10 hbox hb; have BK465 := A_ hbox; have GW465 := A_ (eG hg (below_size (el HB)) : w.heap.size ≤ gb465); have GE465 := A_ (eG hg (below_size (el HB)) : w.heap.size ≤ gb465); replace HB := A_ (below_step (el HB) hb); clear hb hbox hg; have hcz11_0 : w10.cell? ⟨gb465, 0, none⟩ = some (.slice A0_0 l0_0.length c0_0) := (blk_cell BK465.out 0).trans rfl; have hfz11_0 := blk_frozen BK465.out 0) | ((with_reducible refine gate_callee (f := 24) rfl ?_); refine goesL_ (some 5) rfl rfl Try.func24 (by kernel_rfl) rfl #[.agg #[.slice A0_0 l0_0.length c0_0]] rfl eg ?_; (with_reducible refine (impl_IsTree.calls k _ _ l0_0 false _ ?side1 ?side2 A2.out).mono ?_); (case side1 => exact cS (Kd.C_below HR0_0.out HB.out)); (case side2 => exact HC0_0.out); rintro e w12 ⟨rfl, hb⟩; refine ⟨_, rfl, ?_⟩; replace BK465 := A_ (eB BK465 hb); replace HB := A_ (below_step (el HB) hb); (try clear hb); (try clear hb2); (try clear hk); (try clear hi)))
  go_ret2
  exact ⟨er, el HB⟩

/-! ### impl_parseTree: function 116 -/
def impl_parseTree.l0 : Nat → ByteArray → List Int → List Int → Int → Int → Option (List Int × Bool)
  | 0, _, _, _, _, _ => none
  | k + 1, x0, x4, x5, x14, x15 => if x15 < x14 then (if 0 ≤ x15 then (if x15 < (x0.size : Int) then (if (bt x0 x15) = 40 then (if (x5.length : Int) > 0 then (if 0 ≤ (wrap64 ((x5.length : Int) - 1)) then (if (wrap64 ((x5.length : Int) - 1)) < (x5.length : Int) then (if 0 ≤ (rd x5 (wrap64 ((x5.length : Int) - 1))) then (if (rd x5 (wrap64 ((x5.length : Int) - 1))) < (x4.length : Int) then ((some (x4.set ((rd x5 (wrap64 ((x5.length : Int) - 1))) : Int).toNat (wrap64 ((rd x4 (rd x5 (wrap64 ((x5.length : Int) - 1)))) + 1)) : List Int)).bind fun y478 => (if x5.length < 17592186044416 then (if y478.length < 17592186044416 then (impl_parseTree.l0 k x0 (y478 ++ [0]) (x5 ++ [(x4.length : Int)]) x14 (wrap64 (x15 + 1))) else (none)) else (none))) else (none)) else (none)) else (none)) else (none)) else (if x15 > 0 then (some (([] : List Int), false)) else (if x5.length < 17592186044416 then (if x4.length < 17592186044416 then (impl_parseTree.l0 k x0 (x4 ++ [0]) (x5 ++ [(x4.length : Int)]) x14 (wrap64 (x15 + 1))) else (none)) else (none)))) else (if (bt x0 x15) = 41 then (if (x5.length : Int) = 0 then (some (([] : List Int), false)) else (if 0 ≤ (wrap64 ((x5.length : Int) - 1)) then (if (wrap64 ((x5.length : Int) - 1)) ≤ (x5.length : Int) then (impl_parseTree.l0 k x0 x4 (x5.take ((wrap64 ((x5.length : Int) - 1)) : Int).toNat) x14 (wrap64 (x15 + 1))) else (none)) else (none))) else (some (([] : List Int), false)))) else (none)) else (none)) else (if (x5.length : Int) = 0 then ((impl_isTree.f k x4).bind fun t475 => (some (x4, t475))) else (some (x4, false)))
def impl_parseTree.f (k : Nat) (a0 : ByteArray) : Option (List Int × Bool) := if (a0.size : Int) > 48 then (some (([] : List Int), false)) else (impl_parseTree.l0 k a0 (([] : List Int)) (([] : List Int)) (a0.size : Int) 0)
theorem impl_parseTree.mono_l : ∀ k, (∀ y0 y1 y2 y3 y4, LeO (impl_parseTree.l0 k y0 y1 y2 y3 y4) (impl_parseTree.l0 (k + 1) y0 y1 y2 y3 y4))
  | 0 => fun _ _ _ _ _ r h => by simp [impl_parseTree.l0] at h
  | k + 1 => by
    have ih0 := impl_parseTree.mono_l k
    · intro y0 y1 y2 y3 y4
      unfold impl_parseTree.l0
      repeat' first | (with_reducible first | exact ih0 _ _ _ _ _ | exact impl_isTree.mono _ _ | exact LeO.refl _ | exact LeO.none _ | refine LeO.ite ?_ ?_ | refine LeO.bind ?_ (fun _ => ?_)) | exact ih0 _ _ _ _ _ | exact impl_isTree.mono _ _ | exact LeO.none _ | refine LeO.ite ?_ ?_ | refine LeO.bind ?_ (fun _ => ?_)
theorem impl_parseTree.mono : ∀ a0 k, LeO (impl_parseTree.f k a0) (impl_parseTree.f (k + 1) a0) := by
  intro a0 k
  have ih0 := impl_parseTree.mono_l k
  unfold impl_parseTree.f
  repeat' first | (with_reducible first | exact ih0 _ _ _ _ _ | exact impl_isTree.mono _ _ | exact LeO.refl _ | exact LeO.none _ | refine LeO.ite ?_ ?_ | refine LeO.bind ?_ (fun _ => ?_)) | exact ih0 _ _ _ _ _ | exact impl_isTree.mono _ _ | exact LeO.none _ | refine LeO.ite ?_ ?_ | refine LeO.bind ?_ (fun _ => ?_)
theorem impl_parseTree.Z0 {p : Prop} (h : p := by (with_reducible repeat (first | refine blk_drewN ?_ _ | refine blk_drew ?_ | refine blk_alloc ?_ _)); refine blk_put (cs := #[.slice none 0 0]) ?_ 0 _ rfl; (with_reducible repeat (first | refine blk_drewN ?_ _ | refine blk_drew ?_ | refine blk_alloc ?_ _)); exact BK468.out) : p := h
theorem impl_parseTree.Z1 {p : Prop} (h : p := by first | (with_reducible assumption) | assumption) : p := h
theorem impl_parseTree.Z2 {p : Prop} (h : p := by first | rfl | (simp; done) | (simp [*]; done)) : p := h
theorem impl_parseTree.calls (k : Nat) (a0 : ByteArray) (r1 : List Int) (r2 : Bool) (w : World) (h : impl_parseTree.f k a0 = some (r1, r2)) :
  Calls Try.prog 116 #[.string a0] w fun e w' => ∃ v0_ : Value, e = .returned (.tuple #[.agg #[v0_], .bool r2]) ∧ Kd.R (Kd.int .i64) 2 w' w.heap.size (fun _ => True) v0_ r1 ∧ Below w.heap.size w w' := by
 have hu26 := Try.underlying26
 have HB := A_ (Below.refl w.heap.size w)
 have H : (if (a0.size : Int) > 48 then (some (([] : List Int), false)) else (impl_parseTree.l0 k a0 (([] : List Int)) (([] : List Int)) (a0.size : Int) 0)) = some (r1, r2) := h
 clear h
 by_cases c2 : (a0.size : Int) > 48
 ·rw [if_pos c2] at H
  have c2b0 := decide_eq_true c2
  have c2b1 : decide (48 < a0.size) = true := decide_eq_true (by omega)
  clear c2
  simp only [Option.some.injEq, Prod.mk.injEq] at H
  obtain ⟨rfl, rfl⟩ := H
  go_enter Try.func116, Try.ntmps116
  go_wp2_with (first | ((with_reducible refine gate_dst (N := 2) rfl ?_); refine bx 2 #[.slice none 0 0] 26 ?_; intro gb468 hg w3 hbox hb; have BK468 := A_ hbox; have GW468 := A_ (eG hg (below_size (el HB)) : w.heap.size ≤ gb468); have GE468 := A_ (eG hg (below_size (el HB)) : w.heap.size ≤ gb468); replace HB := A_ (below_step (el HB) hb); clear hb hbox hg; have hcz4_0 : w3.cell? ⟨gb468, 0, none⟩ = some (.slice none 0 0) := (blk_cell BK468.out 0).trans rfl; have hfz4_0 := blk_frozen BK468.out 0))
  refine bodyPost_ret (results_ct rfl _ _ gb468 26 #[.slice none 0 0] (0, 0) _ rfl impl_parseTree.Z0 Try.underlying26 rfl (by kernel_rfl)) rfl ?_
  exact ⟨_, er, by first | exact Kd.R_nil _ _ _ _ _ | exact Kd.N_nil _ _ _ _ _ | exact Kd.V_nil _ _ _ _ _ | exact Kd.Q_nil _ _ _ _ _ | exact Kd.S_nil _ _ _ _ _, el HB⟩
 ·rw [if_neg c2] at H
  have c2b0 := decide_eq_false c2
  have c2b1 : decide (48 < a0.size) = false := decide_eq_false (by omega)
  clear c2
  obtain ⟨y469, hy469⟩ : ∃ y_ : List Int, y_ = (([] : List Int)) := ⟨_, rfl⟩
  replace H : (impl_parseTree.l0 k a0 y469 (([] : List Int)) (a0.size : Int) 0) = some (r1, r2) := eH hy469 H
  have Ny469 := A_ hy469
  clear hy469
  obtain ⟨y472, hy472⟩ : ∃ y_ : List Int, y_ = (([] : List Int)) := ⟨_, rfl⟩
  replace H : (impl_parseTree.l0 k a0 y469 y472 (a0.size : Int) 0) = some (r1, r2) := eH hy472 H
  have Ny472 := A_ hy472
  clear hy472
  have H' := A_ H
  clear H
  go_enter Try.func116, Try.ntmps116
  go_wp2_with (first | ((with_reducible refine gate_dst (N := 2) rfl ?_); refine bx 2 #[.slice none 0 0] 26 ?_; intro gb468 hg w5 hbox hb; have BK468 := A_ hbox; have GW468 := A_ (eG hg (below_size (el HB)) : w.heap.size ≤ gb468); have GE468 := A_ (eG hg (below_size (el HB)) : w.heap.size ≤ gb468); replace HB := A_ (below_step (el HB) hb); clear hb hbox hg) | ((with_reducible refine gate_dst (N := 11) rfl ?_); refine Kd.R_lit (Kd.int .i64) _ 2 ?hg (N := 11) ?hd (xs := ([] : List Int)) (inner := []) (ok := fun _ => True) (okp := fun _ => True) ?hr ?hp (fun _ hk => hk) trivial (Below.refl _ _) (Nat.le_refl _) (by simp) ?_; (case hd => rfl); (case hg => rfl); (case hr => first | (go_simp; done) | (go_simp; rfl)); (case hp => exact (Reps.none _ _)); intro v470 w6 ho7 hb hg_ hnew_; clear hg_ hnew_; (first | rw [← Ny469.out] at ho7 | (simp only [Int.reduceToNat] at ho7; rw [← Ny469.out] at ho7)); have HO471 := A_ (Kd.R_lower ho7 (below_size (el HB))); replace BK468 := A_ (eB BK468 hb); replace HB := A_ (below_step (el HB) hb); clear hb ho7) | ((with_reducible refine gate_dst (N := 12) rfl ?_); refine Kd.R_lit (Kd.int .i64) _ 3 ?hg (N := 12) ?hd (xs := ([] : List Int)) (inner := []) (ok := fun _ => True) (okp := fun _ => True) ?hr ?hp (fun _ hk => hk) trivial (Below.refl _ _) (Nat.le_refl _) (by simp) ?_; (case hd => rfl); (case hg => rfl); (case hr => first | (go_simp; done) | (go_simp; rfl)); (case hp => exact (Reps.none _ _)); intro v473 w8 ho9 hb hg_ hnew_; clear hg_ hnew_; (first | rw [← Ny472.out] at ho9 | (simp only [Int.reduceToNat] at ho9; rw [← Ny472.out] at ho9)); replace HO471 := A_ (Kd.R_below (ea HO471) hb); have HO474 := A_ (Kd.R_lower ho9 (below_size (el HB))); replace BK468 := A_ (eB BK468 hb); replace HB := A_ (below_step (el HB) hb); clear hb ho9))
  go_loopg [4, 5, 15] k (fun kq v4 v5 v15 w' => ∃ (x4_1 : List Int) (x5_1 : List Int) (x15_1 : Int), v15 = .int .i64 x15_1 ∧ Aside0 (impl_parseTree.l0 kq a0 x4_1 x5_1 (a0.size : Int) x15_1 = some (r1, r2)) ∧ Aside0 (kq ≤ k) ∧ Aside0 (Kd.R (Kd.int .i64) 2 w' w.heap.size (fun _ => True) v4 x4_1) ∧ Aside0 (Kd.R (Kd.int .i64) 3 w' w.heap.size (fun _ => True) v5 x5_1) ∧ Aside0 (w'.heap[gb468]? = some (.cells #[(.slice none 0 0)] 26 (0, 0))) ∧ Aside0 (Below w.heap.size w w'))
  case atStart => exact ⟨(y469), (y472), (0), impl_parseTree.Z2, H', ⟨Nat.le_refl _⟩, ⟨ea HO471⟩, ⟨ea HO474⟩, ⟨eb BK468⟩, ⟨el HB⟩⟩
  case round =>
   clear H'
   try clear c1
   try clear c2
   try clear c2b0
   try clear c2b1
   try clear p2
   try clear hcz4_0
   try clear hfz4_0
   obtain ⟨x4_1, x5_1, x15_1, rfl, HA, HK1, HO_4, HO_5, BK468, HB⟩ := hrel
   cases gk with
   | zero => exact absurd HA.out (by simp [impl_parseTree.l0])
   | succ k1 =>
    have H := HA.out
    clear HA
    simp only [impl_parseTree.l0] at H
    by_cases c10 : x15_1 < (a0.size : Int)
    ·rw [if_pos c10] at H
     have c10b0 := decide_eq_true c10
     clear c10
     by_cases c11 : 0 ≤ x15_1
     rotate_left
     ·rw [if_neg c11] at H
      exact absurd H (by simp)
     rw [if_pos c11] at H
     have c11b0 := decide_eq_true c11
     clear c11
     by_cases c12 : x15_1 < (a0.size : Int)
     rotate_left
     ·rw [if_neg c12] at H
      exact absurd H (by simp)
     rw [if_pos c12] at H
     have c12b0 := decide_eq_true c12
     clear c12
     by_cases c14 : (bt a0 x15_1) = 40
     ·rw [if_pos c14] at H
      have c14b0 : ((bt a0 x15_1) == 40) = true := beq_iff_eq.mpr c14
      have c14b1 : ((bt a0 x15_1) != 40) = false := bne_eq_false_iff_eq.mpr c14
      clear c14
      by_cases c15 : (x5_1.length : Int) > 0
      ·rw [if_pos c15] at H
       have c15b0 := decide_eq_true c15
       have c15b1 : decide (0 < x5_1.length) = true := decide_eq_true (by omega)
       clear c15
       obtain ⟨ji16, hji16⟩ : ∃ j_ : Int, (wrap64 ((x5_1.length : Int) - 1)) = j_ := ⟨_, rfl⟩
       replace H : (if 0 ≤ (ji16) then (if (ji16) < (x5_1.length : Int) then (if 0 ≤ (rd x5_1 (ji16)) then (if (rd x5_1 (ji16)) < (x4_1.length : Int) then ((some (x4_1.set ((rd x5_1 (ji16)) : Int).toNat (wrap64 ((rd x4_1 (rd x5_1 (ji16))) + 1)) : List Int)).bind fun y478 => (if x5_1.length < 17592186044416 then (if y478.length < 17592186044416 then (impl_parseTree.l0 k1 a0 (y478 ++ [0]) (x5_1 ++ [(x4_1.length : Int)]) (a0.size : Int) (wrap64 (x15_1 + 1))) else (none)) else (none))) else (none)) else (none)) else (none)) else (none)) = some (r1, r2) := by first | (rw [hji16] at H; exact H) | (simp only [hji16] at H ⊢; exact H)
       have hji16w : (IntKind.i64.wrap ((x5_1.length : Int) - 1)) = ji16 := (i64_w _).trans hji16
       by_cases c17 : 0 ≤ (ji16)
       rotate_left
       ·rw [if_neg c17] at H
        exact absurd H (by simp)
       rw [if_pos c17] at H
       have c17b0 := decide_eq_true c17
       clear c17
       by_cases c18 : (ji16) < (x5_1.length : Int)
       rotate_left
       ·rw [if_neg c18] at H
        exact absurd H (by simp)
       rw [if_pos c18] at H
       have c18b0 := decide_eq_true c18
       clear c18
       by_cases c19 : 0 ≤ (rd x5_1 (ji16))
       rotate_left
       ·rw [if_neg c19] at H
        exact absurd H (by simp)
       rw [if_pos c19] at H
       have c19b0 := decide_eq_true c19
       clear c19
       by_cases c20 : (rd x5_1 (ji16)) < (x4_1.length : Int)
       rotate_left
       ·rw [if_neg c20] at H
        exact absurd H (by simp)
       rw [if_pos c20] at H
       have c20b0 := decide_eq_true c20
       clear c20
       obtain ⟨y478, hy478⟩ : ∃ y_ : List Int, y_ = (x4_1.set ((rd x5_1 (ji16)) : Int).toNat (wrap64 ((rd x4_1 (rd x5_1 (ji16))) + 1))) := ⟨_, rfl⟩
       replace H : (if x5_1.length < 17592186044416 then (if y478.length < 17592186044416 then (impl_parseTree.l0 k1 a0 (y478 ++ [0]) (x5_1 ++ [(x4_1.length : Int)]) (a0.size : Int) (wrap64 (x15_1 + 1))) else (none)) else (none)) = some (r1, r2) := eH hy478 H
       have Ny478 := A_ hy478
       clear hy478
       by_cases c22 : x5_1.length < 17592186044416
       rotate_left
       ·rw [if_neg c22] at H
        exact absurd H (by simp)
       rw [if_pos c22] at H
       have LMc22 := A_ c22
       clear c22
       obtain ⟨y479, hy479⟩ : ∃ y_ : List Int, y_ = (x5_1 ++ [(x4_1.length : Int)]) := ⟨_, rfl⟩
       replace H : (if y478.length < 17592186044416 then (impl_parseTree.l0 k1 a0 (y478 ++ [0]) y479 (a0.size : Int) (wrap64 (x15_1 + 1))) else (none)) = some (r1, r2) := eH hy479 H
       have Ny479 := A_ hy479
       clear hy479
       by_cases c23 : y478.length < 17592186044416
       rotate_left
       ·rw [if_neg c23] at H
        exact absurd H (by simp)
       rw [if_pos c23] at H
       have LMc23 := A_ c23
       clear c23
       obtain ⟨y482, hy482⟩ : ∃ y_ : List Int, y_ = (y478 ++ [0]) := ⟨_, rfl⟩
       replace H : (impl_parseTree.l0 k1 a0 y482 y479 (a0.size : Int) (wrap64 (x15_1 + 1))) = some (r1, r2) := eH hy482 H
       have Ny482 := A_ hy482
       clear hy482
       have H' := A_ H
       clear H
       have p13 : 0 ≤ (x15_1 : Int) := of_decide_eq_true impl_parseTree.Z1
       have q13 : x15_1 < (a0.size : Int) := of_decide_eq_true impl_parseTree.Z1
       have hx13 := bt_at a0 x15_1
       replace p13 := eq_true p13
       replace q13 := eq_true q13
       obtain ⟨Ao24, co24, eo24⟩ := Kd.R_slice HO_5.out
       subst eo24
       have p476 : 0 ≤ ((ji16) : Int) := of_decide_eq_true impl_parseTree.Z1
       have q476 : (ji16) < (x5_1.length : Int) := of_decide_eq_true impl_parseTree.Z1
       obtain ⟨ad476, e476, hx476_0⟩ := Kd.at_int (Kd.R_reads' HO_5.out).2.2 (ji16) p476 q476
       cases e476
       replace p476 := eq_true p476
       replace q476 := eq_true q476
       obtain ⟨Ao25, co25, eo25⟩ := Kd.R_slice HO_4.out
       subst eo25
       have p477 : 0 ≤ ((rd x5_1 (ji16)) : Int) := of_decide_eq_true impl_parseTree.Z1
       have q477 : (rd x5_1 (ji16)) < (x4_1.length : Int) := of_decide_eq_true impl_parseTree.Z1
       obtain ⟨ad477, e477, hx477_0⟩ := Kd.at_int (Kd.R_reads' HO_4.out).2.2 (rd x5_1 (ji16)) p477 q477
       cases e477
       replace p477 := eq_true p477
       replace q477 := eq_true q477
       have p21 : 0 ≤ ((rd x5_1 (ji16)) : Int) := of_decide_eq_true impl_parseTree.Z1
       have q21 : ((rd x5_1 (ji16)) : Int) < ((x4_1.length : Int) : Int) := of_decide_eq_true impl_parseTree.Z1
       obtain ⟨go21, co21, eo21, gb21, gl21, cl21, HG21⟩ := Kd.R_form HO_4.out (by omega)
       (first | cases eo21 | (injection eo21 with ea_ en_ ec_; (first | subst ea_ | (injection ea_ with ea_; subst ea_)); subst ec_; clear en_))
       have GB21 := A_ gb21
       have GG21 := A_ HG21
       clear gb21 gl21 HG21
       (first | simp only [add_plain] at hx477_0 | skip)
       obtain ⟨hx21_0, hf21_0⟩ := Kd.R_celln 0 HO_4.out ((rd x5_1 (ji16)) : Int) p21 q21
       replace p21 := eq_true p21
       replace q21 := eq_true q21
       have HP26 := Kd.R_putg HO_4.out ((rd x5_1 (ji16)) : Int) (wrap64 ((rd x4_1 (rd x5_1 (ji16))) + 1))
       go_wp2_with (first | ((with_reducible refine gate_store (t := 2) (p := 37) rfl ?_); refine store_event (t := 2) (p := 37) (v := ?vo_w27) (w1 := (wr.setCell ⟨go21, ((rd x5_1 (ji16)) : Int).toNat, none⟩ (.int .i64 (wrap64 ((rd x4_1 (rd x5_1 (ji16))) + 1))))) ?hg ?ho ?hn ?hr ?_; (case ho => rfl); (case hg => rfl); (case hn => rfl); (case hr => first | (go_simp; done) | (go_simp; rfl)); intro w27 hw; have hg : wr.grownBy w27 (some go21) := (by rw [hw]; exact HP26.2); have hp_ : Kd.R (Kd.int .i64) 2 w27 w.heap.size (fun _ => True) (.slice (some ⟨go21, 0, none⟩) x4_1.length co25) y478 := (by rw [hw, Ny478.out]; exact HP26.1); clear HP26; replace HO_5 := A_ (Kd.R_over' (v := (.slice (some ⟨go21, 0, none⟩) x4_1.length co25)) (ea HO_5) (Kd.R_typed HO_4.out) (by decide) hg); replace BK468 := A_ (blk_grown (g := gb468) (o := .cells #[.slice none 0 0] 26 (0, 0)) (eb BK468) hg (Kd.R_ne HO_4.out BK468.out (by decide))); replace HO_4 := A_ hp_; replace HB := A_ ((by rw [hw]; exact below_set (HB.out) GB21.out : Below w.heap.size w w27)); clear hg hw hp_) | ((with_reducible refine gate_builtin (b := .append) (xs := #[.tmp 41, .tmp 44]) rfl ?_); at_builtin; refine Kd.R_append (Kd.int .i64) (w0 := w) w.heap.size rfl (.tmp 41) (.tmp 44) 124 3 (.int .i64 0) 8 rfl Try.underlying124 info3 rfl (by decide) (by omega) (.slice (some ad476) x5_1.length co24) x5_1 (x4_1.length : Int) [.int .i64 (x4_1.length : Int)] (fun _ => True) (fun _ => False) rfl rfl ?aP (fun _ hk => hk.elim) ?aF ?aO ?aB ?aS ?aL ?_; (case aP => exact rfl); (case aB => exact (el HB)); (case aF => exact (fun _ _ => trivial)); (case aO => exact (ea HO_5)); (case aS => exact (below_size (el HB))); (case aL => have := LMc22.out; omega); intro v480 w28 ho hb hg hat; rw [← Ny479.out] at ho; replace HO_4 := A_ (Kd.R_over' (ea HO_4) (Kd.R_typed (ea HO_5)) (by decide) hg); replace BK468 := A_ (blk_grown (g := gb468) (o := .cells #[.slice none 0 0] 26 (0, 0)) (eb BK468) hg (Kd.R_ne HO_5.out BK468.out (by decide))); replace HB := A_ hb; have HO481 := A_ ho; clear HO_5; clear ho hb hg hat) | ((with_reducible refine gate_builtin (b := .append) (xs := #[.tmp 46, .tmp 47]) rfl ?_); at_builtin; refine Kd.R_append (Kd.int .i64) (w0 := w) w.heap.size rfl (.tmp 46) (.tmp 47) 24 2 (.int .i64 0) 8 rfl Try.underlying24 info2 rfl (by decide) (by omega) (.slice (some ⟨go21, 0, none⟩) x4_1.length co25) y478 0 [.int .i64 0] (fun _ => True) (fun _ => False) rfl rfl ?aP (fun _ hk => hk.elim) ?aF ?aO ?aB ?aS ?aL ?_; (case aP => exact rfl); (case aB => exact (el HB)); (case aF => exact (fun _ _ => trivial)); (case aO => exact (ea HO_4)); (case aS => exact (below_size (el HB))); (case aL => have := LMc23.out; omega); intro v483 w29 ho hb hg hat; rw [← Ny482.out] at ho; replace BK468 := A_ (blk_grown (g := gb468) (o := .cells #[.slice none 0 0] 26 (0, 0)) (eb BK468) hg (Kd.R_ne HO_4.out BK468.out (by decide))); replace HO481 := A_ (Kd.R_over' (ea HO481) (Kd.R_typed (ea HO_4)) (by decide) hg); replace HB := A_ hb; have HO484 := A_ ho; clear HO_4; clear ho hb hg hat))
       go_roundg k1
       case measure => have := HK1.out; omega
       case rel => exact ⟨(y482), (y479), (wrap64 (x15_1 + 1)), impl_parseTree.Z2, H', ⟨by have := HK1.out; omega⟩, ⟨es HO484⟩, ⟨es HO481⟩, ⟨eb BK468⟩, ⟨el HB⟩⟩
      ·rw [if_neg c15] at H
       have c15b0 := decide_eq_false c15
       have c15b1 : decide (0 < x5_1.length) = false := decide_eq_false (by omega)
       clear c15
       by_cases c30 : x15_1 > 0
       ·rw [if_pos c30] at H
        have c30b0 := decide_eq_true c30
        clear c30
        simp only [Option.some.injEq, Prod.mk.injEq] at H
        obtain ⟨rfl, rfl⟩ := H
        have p13 : 0 ≤ (x15_1 : Int) := of_decide_eq_true impl_parseTree.Z1
        have q13 : x15_1 < (a0.size : Int) := of_decide_eq_true impl_parseTree.Z1
        have hx13 := bt_at a0 x15_1
        replace p13 := eq_true p13
        replace q13 := eq_true q13
        obtain ⟨Ao31, co31, eo31⟩ := Kd.R_slice HO_5.out
        subst eo31
        have hcz32_0 : wr.cell? ⟨gb468, 0, none⟩ = some (.slice none 0 0) := (blk_cell BK468.out 0).trans rfl
        have hfz32_0 := blk_frozen BK468.out 0
        go_wp2
        refine bodyPost_ret (results_ct rfl _ _ gb468 26 #[.slice none 0 0] (0, 0) _ rfl impl_parseTree.Z0 Try.underlying26 rfl (by kernel_rfl)) rfl ?_
        exact ⟨_, er, by first | exact Kd.R_nil _ _ _ _ _ | exact Kd.N_nil _ _ _ _ _ | exact Kd.V_nil _ _ _ _ _ | exact Kd.Q_nil _ _ _ _ _ | exact Kd.S_nil _ _ _ _ _, el HB⟩
       ·rw [if_neg c30] at H
        have c30b0 := decide_eq_false c30
        clear c30
        by_cases c33 : x5_1.length < 17592186044416
        rotate_left
        ·rw [if_neg c33] at H
         exact absurd H (by simp)
        rw [if_pos c33] at H
        have LMc33 := A_ c33
        clear c33
        obtain ⟨y485, hy485⟩ : ∃ y_ : List Int, y_ = (x5_1 ++ [(x4_1.length : Int)]) := ⟨_, rfl⟩
        replace H : (if x4_1.length < 17592186044416 then (impl_parseTree.l0 k1 a0 (x4_1 ++ [0]) y485 (a0.size : Int) (wrap64 (x15_1 + 1))) else (none)) = some (r1, r2) := eH hy485 H
        have Ny485 := A_ hy485
        clear hy485
        by_cases c34 : x4_1.length < 17592186044416
        rotate_left
        ·rw [if_neg c34] at H
         exact absurd H (by simp)
        rw [if_pos c34] at H
        have LMc34 := A_ c34
        clear c34
        obtain ⟨y488, hy488⟩ : ∃ y_ : List Int, y_ = (x4_1 ++ [0]) := ⟨_, rfl⟩
        replace H : (impl_parseTree.l0 k1 a0 y488 y485 (a0.size : Int) (wrap64 (x15_1 + 1))) = some (r1, r2) := eH hy488 H
        have Ny488 := A_ hy488
        clear hy488
        have H' := A_ H
        clear H
        have p13 : 0 ≤ (x15_1 : Int) := of_decide_eq_true impl_parseTree.Z1
        have q13 : x15_1 < (a0.size : Int) := of_decide_eq_true impl_parseTree.Z1
        have hx13 := bt_at a0 x15_1
        replace p13 := eq_true p13
        replace q13 := eq_true q13
        obtain ⟨Ao35, co35, eo35⟩ := Kd.R_slice HO_5.out
        subst eo35
        obtain ⟨Ao36, co36, eo36⟩ := Kd.R_slice HO_4.out
        subst eo36
        go_wp2_with (first | ((with_reducible refine gate_builtin (b := .append) (xs := #[.tmp 41, .tmp 44]) rfl ?_); at_builtin; refine Kd.R_append (Kd.int .i64) (w0 := w) w.heap.size rfl (.tmp 41) (.tmp 44) 124 3 (.int .i64 0) 8 rfl Try.underlying124 info3 rfl (by decide) (by omega) (.slice Ao35 x5_1.length co35) x5_1 (x4_1.length : Int) [.int .i64 (x4_1.length : Int)] (fun _ => True) (fun _ => False) rfl rfl ?aP (fun _ hk => hk.elim) ?aF ?aO ?aB ?aS ?aL ?_; (case aP => exact rfl); (case aB => exact (el HB)); (case aF => exact (fun _ _ => trivial)); (case aO => exact (ea HO_5)); (case aS => exact (below_size (el HB))); (case aL => have := LMc33.out; omega); intro v486 w37 ho hb hg hat; rw [← Ny485.out] at ho; replace HO_4 := A_ (Kd.R_over' (ea HO_4) (Kd.R_typed (ea HO_5)) (by decide) hg); replace BK468 := A_ (blk_grown (g := gb468) (o := .cells #[.slice none 0 0] 26 (0, 0)) (eb BK468) hg (Kd.R_ne HO_5.out BK468.out (by decide))); replace HB := A_ hb; have HO487 := A_ ho; clear HO_5; clear ho hb hg hat) | ((with_reducible refine gate_builtin (b := .append) (xs := #[.tmp 46, .tmp 47]) rfl ?_); at_builtin; refine Kd.R_append (Kd.int .i64) (w0 := w) w.heap.size rfl (.tmp 46) (.tmp 47) 24 2 (.int .i64 0) 8 rfl Try.underlying24 info2 rfl (by decide) (by omega) (.slice Ao36 x4_1.length co36) x4_1 0 [.int .i64 0] (fun _ => True) (fun _ => False) rfl rfl ?aP (fun _ hk => hk.elim) ?aF ?aO ?aB ?aS ?aL ?_; (case aP => exact rfl); (case aB => exact (el HB)); (case aF => exact (fun _ _ => trivial)); (case aO => exact (ea HO_4)); (case aS => exact (below_size (el HB))); (case aL => have := LMc34.out; omega); intro v489 w38 ho hb hg hat; rw [← Ny488.out] at ho; replace BK468 := A_ (blk_grown (g := gb468) (o := .cells #[.slice none 0 0] 26 (0, 0)) (eb BK468) hg (Kd.R_ne HO_4.out BK468.out (by decide))); replace HO487 := A_ (Kd.R_over' (ea HO487) (Kd.R_typed (ea HO_4)) (by decide) hg); replace HB := A_ hb; have HO490 := A_ ho; clear HO_4; clear ho hb hg hat))
        go_roundg k1
        case measure => have := HK1.out; omega
        case rel => exact ⟨(y488), (y485), (wrap64 (x15_1 + 1)), impl_parseTree.Z2, H', ⟨by have := HK1.out; omega⟩, ⟨es HO490⟩, ⟨es HO487⟩, ⟨eb BK468⟩, ⟨el HB⟩⟩
     ·rw [if_neg c14] at H
      have c14b0 : ((bt a0 x15_1) == 40) = false := beq_eq_false_iff_ne.mpr c14
      have c14b1 : ((bt a0 x15_1) != 40) = true := bne_iff_ne.mpr c14
      by_cases c39 : (bt a0 x15_1) = 41
      ·rw [if_pos c39] at H
       have c39b0 : ((bt a0 x15_1) == 41) = true := beq_iff_eq.mpr c39
       have c39b1 : ((bt a0 x15_1) != 41) = false := bne_eq_false_iff_eq.mpr c39
       clear c39
       by_cases c40 : (x5_1.length : Int) = 0
       ·rw [if_pos c40] at H
        have c40b0 : ((x5_1.length : Int) == 0) = true := beq_iff_eq.mpr c40
        have c40b1 : ((x5_1.length : Int) != 0) = false := bne_eq_false_iff_eq.mpr c40
        clear c40
        simp only [Option.some.injEq, Prod.mk.injEq] at H
        obtain ⟨rfl, rfl⟩ := H
        have p13 : 0 ≤ (x15_1 : Int) := of_decide_eq_true impl_parseTree.Z1
        have q13 : x15_1 < (a0.size : Int) := of_decide_eq_true impl_parseTree.Z1
        have hx13 := bt_at a0 x15_1
        replace p13 := eq_true p13
        replace q13 := eq_true q13
        obtain ⟨Ao41, co41, eo41⟩ := Kd.R_slice HO_5.out
        subst eo41
        have hcz42_0 : wr.cell? ⟨gb468, 0, none⟩ = some (.slice none 0 0) := (blk_cell BK468.out 0).trans rfl
        have hfz42_0 := blk_frozen BK468.out 0
        go_wp2
        refine bodyPost_ret (results_ct rfl _ _ gb468 26 #[.slice none 0 0] (0, 0) _ rfl impl_parseTree.Z0 Try.underlying26 rfl (by kernel_rfl)) rfl ?_
        exact ⟨_, er, by first | exact Kd.R_nil _ _ _ _ _ | exact Kd.N_nil _ _ _ _ _ | exact Kd.V_nil _ _ _ _ _ | exact Kd.Q_nil _ _ _ _ _ | exact Kd.S_nil _ _ _ _ _, el HB⟩
       ·rw [if_neg c40] at H
        have c40b0 : ((x5_1.length : Int) == 0) = false := beq_eq_false_iff_ne.mpr c40
        have c40b1 : ((x5_1.length : Int) != 0) = true := bne_iff_ne.mpr c40
        have c40b2 : ¬ (x5_1 = []) := fun h_ => c40 (by rw [h_]; rfl)
        obtain ⟨ji43, hji43⟩ : ∃ j_ : Int, (wrap64 ((x5_1.length : Int) - 1)) = j_ := ⟨_, rfl⟩
        replace H : (if 0 ≤ (ji43) then (if (ji43) ≤ (x5_1.length : Int) then (impl_parseTree.l0 k1 a0 x4_1 (x5_1.take ((ji43) : Int).toNat) (a0.size : Int) (wrap64 (x15_1 + 1))) else (none)) else (none)) = some (r1, r2) := by first | (rw [hji43] at H; exact H) | (simp only [hji43] at H ⊢; exact H)
        have hji43w : (IntKind.i64.wrap ((x5_1.length : Int) - 1)) = ji43 := (i64_w _).trans hji43
        by_cases c44 : 0 ≤ (ji43)
        rotate_left
        ·rw [if_neg c44] at H
         exact absurd H (by simp)
        rw [if_pos c44] at H
        have c44b0 := eq_true c44
        have c44b1 := decide_eq_true c44
        clear c44
        by_cases c45 : (ji43) ≤ (x5_1.length : Int)
        rotate_left
        ·rw [if_neg c45] at H
         exact absurd H (by simp)
        rw [if_pos c45] at H
        have c45b0 := eq_true c45
        have c45b1 := decide_eq_true c45
        clear c45
        obtain ⟨y491, hy491⟩ : ∃ y_ : List Int, y_ = (x5_1.take ((ji43) : Int).toNat) := ⟨_, rfl⟩
        replace H : (impl_parseTree.l0 k1 a0 x4_1 y491 (a0.size : Int) (wrap64 (x15_1 + 1))) = some (r1, r2) := eH hy491 H
        have Ny491 := A_ hy491
        clear hy491
        have H' := A_ H
        clear H
        have p13 : 0 ≤ (x15_1 : Int) := of_decide_eq_true impl_parseTree.Z1
        have q13 : x15_1 < (a0.size : Int) := of_decide_eq_true impl_parseTree.Z1
        have hx13 := bt_at a0 x15_1
        replace p13 := eq_true p13
        replace q13 := eq_true q13
        obtain ⟨Ao46, co46, eo46⟩ := Kd.R_slice HO_5.out
        subst eo46
        have q47 : ((ji43) : Int) ≤ ((x5_1.length : Int) : Int) := of_decide_eq_true impl_parseTree.Z1
        obtain ⟨i047, hi047, _, hsz47, _⟩ := info_parts info3
        have hcut47 := cut_to (P := Try.prog) 124 3 .i64 Try.underlying124 hi047 Ao46 x5_1.length co46 (ji43) (of_decide_eq_true impl_parseTree.Z1) q47 (Kd.R_reads' HO_5.out).2.1
        have hr47 := Kd.R_take (m := ((ji43) : Int).toNat) HO_5.out (by omega)
        have hy47 : y491.length = ((ji43) : Int).toNat := (by rw [Ny491.out, List.length_take]; omega)
        rw [← Ny491.out] at hr47
        rw [← hy47] at hr47 hcut47
        clear hy47 hi047 hsz47 HO_5
        have HO493 := A_ hr47
        clear hr47
        replace q47 := eq_true q47
        go_wp2
        go_roundg k1
        case measure => have := HK1.out; omega
        case rel => exact ⟨(x4_1), (y491), (wrap64 (x15_1 + 1)), impl_parseTree.Z2, H', ⟨by have := HK1.out; omega⟩, ⟨es HO_4⟩, ⟨es HO493⟩, ⟨eb BK468⟩, ⟨el HB⟩⟩
      ·rw [if_neg c39] at H
       have c39b0 : ((bt a0 x15_1) == 41) = false := beq_eq_false_iff_ne.mpr c39
       have c39b1 : ((bt a0 x15_1) != 41) = true := bne_iff_ne.mpr c39
       simp only [Option.some.injEq, Prod.mk.injEq] at H
       obtain ⟨rfl, rfl⟩ := H
       have p13 : 0 ≤ (x15_1 : Int) := of_decide_eq_true impl_parseTree.Z1
       have q13 : x15_1 < (a0.size : Int) := of_decide_eq_true impl_parseTree.Z1
       have hx13 := bt_at a0 x15_1
       replace p13 := eq_true p13
       replace q13 := eq_true q13
       have hcz48_0 : wr.cell? ⟨gb468, 0, none⟩ = some (.slice none 0 0) := (blk_cell BK468.out 0).trans rfl
       have hfz48_0 := blk_frozen BK468.out 0
       go_wp2
       refine bodyPost_ret (results_ct rfl _ _ gb468 26 #[.slice none 0 0] (0, 0) _ rfl impl_parseTree.Z0 Try.underlying26 rfl (by kernel_rfl)) rfl ?_
       exact ⟨_, er, by first | exact Kd.R_nil _ _ _ _ _ | exact Kd.N_nil _ _ _ _ _ | exact Kd.V_nil _ _ _ _ _ | exact Kd.Q_nil _ _ _ _ _ | exact Kd.S_nil _ _ _ _ _, el HB⟩
    ·rw [if_neg c10] at H
     have c10b0 := decide_eq_false c10
     clear c10
     by_cases c49 : (x5_1.length : Int) = 0
     ·rw [if_pos c49] at H
      have c49b0 : ((x5_1.length : Int) == 0) = true := beq_iff_eq.mpr c49
      have c49b1 : ((x5_1.length : Int) != 0) = false := bne_eq_false_iff_eq.mpr c49
      clear c49
      replace H := Option.bind_eq_some_iff.mp H
      obtain ⟨t475, A500, H⟩ := H
      replace H : (some (x4_1, t475)) = some (r1, r2) := H
      have A50 := A_ A500
      clear A500
      simp only [Option.some.injEq, Prod.mk.injEq] at H
      obtain ⟨rfl, rfl⟩ := H
      obtain ⟨Ao51, co51, eo51⟩ := Kd.R_slice HO_4.out
      subst eo51
      obtain ⟨Ao52, co52, eo52⟩ := Kd.R_slice HO_5.out
      subst eo52
      go_wp2_with (first | (go_at_call 114; (with_reducible refine (impl_isTree.calls k1 _ _ x4_1 t475 _ ?side1 ?side2 A50.out).mono ?_); (case side1 => exact cS ((Kd.R_reads' HO_4.out).2.2)); (case side2 => exact (Kd.R_reads' HO_4.out).2.1); rintro e w' ⟨rfl, ⟨nd, rfl⟩⟩; (try (rw [drewN_self wr]; generalize hq_ : World.drewN wr _ = wr; replace HO_4 : Aside0 (Kd.R (Kd.int .i64) 2 wr w.heap.size (fun _ => True) (.slice Ao51 x4_1.length co51) x4_1) := ⟨by rw [← hq_]; exact (ea HO_4)⟩; replace HO_5 : Aside0 (Kd.R (Kd.int .i64) 3 wr w.heap.size (fun _ => True) (.slice Ao52 x5_1.length co52) x5_1) := ⟨by rw [← hq_]; exact (ea HO_5)⟩; replace BK468 : Aside0 (wr.heap[gb468]? = some (.cells #[.slice none 0 0] 26 (0, 0))) := ⟨by rw [← hq_]; exact (eb BK468)⟩; replace HB : Aside0 (Below w.heap.size w wr) := ⟨by rw [← hq_]; exact (el HB)⟩; clear hq_)); have hcz53_0 : wr.cell? ⟨gb468, 0, none⟩ = some (.slice none 0 0) := (blk_cell BK468.out 0).trans rfl; have hfz53_0 := blk_frozen BK468.out 0))
      refine bodyPost_ret (results_ct rfl _ _ gb468 26 #[.slice Ao51 x4_1.length co51] (0, 0) _ rfl impl_parseTree.Z0 Try.underlying26 rfl (by kernel_rfl)) rfl ?_
      exact ⟨_, er, by (with_reducible repeat (first | apply Kd.R_alloc | apply Kd.R_drewN | apply Kd.R_drew)); exact Kd.R_mono (Kd.R_far (p := ⟨gb468, 0, none⟩) (Kd.R_types HO_4.out BK468.out (by decide)) (fun _ hk => hk.2) (.slice Ao51 x4_1.length co51)) (fun _ hk => trivial), el HB⟩
     ·rw [if_neg c49] at H
      have c49b0 : ((x5_1.length : Int) == 0) = false := beq_eq_false_iff_ne.mpr c49
      have c49b1 : ((x5_1.length : Int) != 0) = true := bne_iff_ne.mpr c49
      have c49b2 : ¬ (x5_1 = []) := fun h_ => c49 (by rw [h_]; rfl)
      simp only [Option.some.injEq, Prod.mk.injEq] at H
      obtain ⟨rfl, rfl⟩ := H
      obtain ⟨Ao54, co54, eo54⟩ := Kd.R_slice HO_4.out
      subst eo54
      obtain ⟨Ao55, co55, eo55⟩ := Kd.R_slice HO_5.out
      subst eo55
      have hcz56_0 : wr.cell? ⟨gb468, 0, none⟩ = some (.slice none 0 0) := (blk_cell BK468.out 0).trans rfl
      have hfz56_0 := blk_frozen BK468.out 0
      go_wp2
      refine bodyPost_ret (results_ct rfl _ _ gb468 26 #[.slice Ao54 x4_1.length co54] (0, 0) _ rfl impl_parseTree.Z0 Try.underlying26 rfl (by kernel_rfl)) rfl ?_
      exact ⟨_, er, by (with_reducible repeat (first | apply Kd.R_alloc | apply Kd.R_drewN | apply Kd.R_drew)); exact Kd.R_mono (Kd.R_far (p := ⟨gb468, 0, none⟩) (Kd.R_types HO_4.out BK468.out (by decide)) (fun _ hk => hk.2) (.slice Ao54 x4_1.length co54)) (fun _ hk => trivial), el HB⟩

/-! ### impl_ParseTree: function 27 -/
def impl_ParseTree.f (k : Nat) (a0 : ByteArray) : Option (List Int × Int) := (impl_parseTree.f k a0).bind fun bt495 => (if bt495.2 = true then (some (bt495.1, 0)) else (some (([] : List Int), 6)))
theorem impl_ParseTree.mono : ∀ a0 k, LeO (impl_ParseTree.f k a0) (impl_ParseTree.f (k + 1) a0) := by
  intro a0 k
  unfold impl_ParseTree.f
  repeat' first | (with_reducible first | exact impl_parseTree.mono _ _ | exact LeO.refl _ | exact LeO.none _ | refine LeO.ite ?_ ?_ | refine LeO.bind ?_ (fun _ => ?_)) | exact impl_parseTree.mono _ _ | exact LeO.none _ | refine LeO.ite ?_ ?_ | refine LeO.bind ?_ (fun _ => ?_)
theorem impl_ParseTree.Z0 {p : Prop} (h : p := by (with_reducible repeat (first | refine blk_drewN ?_ _ | refine blk_drew ?_ | refine blk_alloc ?_ _)); refine blk_put (cs := #[.slice none 0 0]) ?_ 0 _ rfl; (with_reducible repeat (first | refine blk_drewN ?_ _ | refine blk_drew ?_ | refine blk_alloc ?_ _)); refine blk_far ?_ NB494_499.out _; (with_reducible repeat (first | refine blk_drewN ?_ _ | refine blk_drew ?_ | refine blk_alloc ?_ _)); exact BK494.out) : p := h
theorem impl_ParseTree.calls (k : Nat) (a0 : ByteArray) (r1 : List Int) (r2 : Int) (w : World) (h : impl_ParseTree.f k a0 = some (r1, r2)) :
  Calls Try.prog 27 #[.string a0] w fun e w' => ∃ v0_ : Value, e = .returned (.tuple #[.agg #[v0_], .int .i64 r2]) ∧ Kd.R (Kd.int .i64) 2 w' w.heap.size (fun _ => True) v0_ r1 ∧ Below w.heap.size w w' := by
 have hu26 := Try.underlying26
 have HB := A_ (Below.refl w.heap.size w)
 have H : ((impl_parseTree.f k a0).bind fun bt495 => (if bt495.2 = true then (some (bt495.1, 0)) else (some (([] : List Int), 6)))) = some (r1, r2) := h
 clear h
 replace H := Option.bind_eq_some_iff.mp H
 obtain ⟨⟨t495, t498⟩, A20, H⟩ := H
 replace H : (if t498 = true then (some (t495, 0)) else (some (([] : List Int), 6))) = some (r1, r2) := H
 have A2 := A_ A20
 clear A20
 by_cases c3 : t498 = true
 ·subst c3
  have H1 : (some (t495, 0)) = some (r1, r2) := by rw [if_pos rfl] at H; exact H
  clear H
  have H := H1
  clear H1
  simp only [Option.some.injEq, Prod.mk.injEq] at H
  obtain ⟨rfl, rfl⟩ := H
  go_enter Try.func27, Try.ntmps27
  go_wp2_with (first | ((with_reducible refine gate_dst (N := 2) rfl ?_); refine bx 2 #[.slice none 0 0] 26 ?_; intro gb494 hg w4 hbox hb; have BK494 := A_ hbox; have GW494 := A_ (eG hg (below_size (el HB)) : w.heap.size ≤ gb494); have GE494 := A_ (eG hg (below_size (el HB)) : w.heap.size ≤ gb494); replace HB := A_ (below_step (el HB) hb); clear hb hbox hg) | ((with_reducible refine gate_callee (f := 116) rfl ?_); refine goesL_ (some 8) rfl rfl Try.func116 (by kernel_rfl) rfl #[.string a0] rfl eg ?_; (with_reducible refine (impl_parseTree.calls k a0 t495 true _ A2.out).mono ?_); rintro e w5 ⟨v496, rfl, ho0, hb⟩; refine ⟨_, rfl, ?_⟩; have HO497 := A_ (Kd.R_lower ho0 (below_size (el HB))); replace BK494 := A_ (eB BK494 hb); replace HB := A_ (below_step (el HB) hb); (try clear hb); (try clear hb2); (try clear hk); (try clear hi); (try clear ho0)) | ((with_reducible refine gate_dst (N := 4) rfl ?_); refine bx 4 #[.slice none 0 0] 26 ?_; intro gb499 hg w6 hbox hb; replace HO497 := A_ (Kd.R_below (ea HO497) hb); have BK499 := A_ hbox; have GW499 := A_ (eG hg (below_size (el HB)) : w.heap.size ≤ gb499); have GE499 := A_ (eG hg (below_size (el HB)) : w.heap.size ≤ gb499); replace HB := A_ (below_step (el HB) hb); have NB494_499 := A_ ((by rw [hg]; exact Nat.ne_of_lt (eL BK494) : gb494 ≠ gb499)); have NB499_494 := A_ ((by rw [hg]; exact Nat.ne_of_gt (eL BK494) : gb499 ≠ gb494)); replace BK494 := A_ (eB BK494 hb); clear hb hbox hg; obtain ⟨Ao7, co7, eo7⟩ := Kd.R_slice HO497.out; subst eo7; have hnb8 := NB499_494.out; have hnc8 := NB494_499.out; have hcz9_0 : w6.cell? ⟨gb499, 0, none⟩ = some (.slice none 0 0) := (blk_cell BK499.out 0).trans rfl; have hfz9_0 := blk_frozen BK499.out 0; have hcz10_0 : w6.cell? ⟨gb494, 0, none⟩ = some (.slice none 0 0) := (blk_cell BK494.out 0).trans rfl; have hfz10_0 := blk_frozen BK494.out 0))
  refine bodyPost_ret (results_ct rfl _ _ gb494 26 #[.slice Ao7 t495.length co7] (0, 0) _ rfl impl_ParseTree.Z0 Try.underlying26 rfl (by kernel_rfl)) rfl ?_
  exact ⟨_, er, by (with_reducible repeat (first | apply Kd.R_alloc | apply Kd.R_drewN | apply Kd.R_drew)); exact Kd.R_mono (Kd.R_far (p := ⟨gb494, 0, none⟩) (Kd.R_far (p := ⟨gb499, 0, none⟩) (Kd.R_types (Kd.R_types HO497.out BK499.out (by decide)) BK494.out (by decide)) (fun _ hk => hk.1.2) (.slice Ao7 t495.length co7)) (fun _ hk => hk.2) (.slice Ao7 t495.length co7)) (fun _ hk => trivial), el HB⟩
 ·replace c3 := Bool.eq_false_iff.mpr c3
  subst c3
  have H1 : (some (([] : List Int), 6)) = some (r1, r2) := by rw [if_neg (show ¬ (false = true) by decide)] at H; exact H
  clear H
  have H := H1
  clear H1
  simp only [Option.some.injEq, Prod.mk.injEq] at H
  obtain ⟨rfl, rfl⟩ := H
  go_enter Try.func27, Try.ntmps27
  go_wp2_with (first | ((with_reducible refine gate_dst (N := 2) rfl ?_); refine bx 2 #[.slice none 0 0] 26 ?_; intro gb494 hg w11 hbox hb; have BK494 := A_ hbox; have GW494 := A_ (eG hg (below_size (el HB)) : w.heap.size ≤ gb494); have GE494 := A_ (eG hg (below_size (el HB)) : w.heap.size ≤ gb494); replace HB := A_ (below_step (el HB) hb); clear hb hbox hg) | ((with_reducible refine gate_callee (f := 116) rfl ?_); refine goesL_ (some 8) rfl rfl Try.func116 (by kernel_rfl) rfl #[.string a0] rfl eg ?_; (with_reducible refine (impl_parseTree.calls k a0 t495 false _ A2.out).mono ?_); rintro e w12 ⟨v496, rfl, ho0, hb⟩; refine ⟨_, rfl, ?_⟩; have HO497 := A_ (Kd.R_lower ho0 (below_size (el HB))); replace BK494 := A_ (eB BK494 hb); replace HB := A_ (below_step (el HB) hb); (try clear hb); (try clear hb2); (try clear hk); (try clear hi); (try clear ho0)) | ((with_reducible refine gate_dst (N := 4) rfl ?_); refine bx 4 #[.slice none 0 0] 26 ?_; intro gb499 hg w13 hbox hb; replace HO497 := A_ (Kd.R_below (ea HO497) hb); have BK499 := A_ hbox; have GW499 := A_ (eG hg (below_size (el HB)) : w.heap.size ≤ gb499); have GE499 := A_ (eG hg (below_size (el HB)) : w.heap.size ≤ gb499); replace HB := A_ (below_step (el HB) hb); have NB494_499 := A_ ((by rw [hg]; exact Nat.ne_of_lt (eL BK494) : gb494 ≠ gb499)); have NB499_494 := A_ ((by rw [hg]; exact Nat.ne_of_gt (eL BK494) : gb499 ≠ gb494)); replace BK494 := A_ (eB BK494 hb); clear hb hbox hg; obtain ⟨Ao14, co14, eo14⟩ := Kd.R_slice HO497.out; subst eo14; have hnb15 := NB499_494.out; have hnc15 := NB494_499.out; have hcz16_0 : w13.cell? ⟨gb499, 0, none⟩ = some (.slice none 0 0) := (blk_cell BK499.out 0).trans rfl; have hfz16_0 := blk_frozen BK499.out 0; have hcz17_0 : w13.cell? ⟨gb494, 0, none⟩ = some (.slice none 0 0) := (blk_cell BK494.out 0).trans rfl; have hfz17_0 := blk_frozen BK494.out 0))
  refine bodyPost_ret (results_ct rfl _ _ gb494 26 #[.slice none 0 0] (0, 0) _ rfl impl_ParseTree.Z0 Try.underlying26 rfl (by kernel_rfl)) rfl ?_
  exact ⟨_, er, by first | exact Kd.R_nil _ _ _ _ _ | exact Kd.N_nil _ _ _ _ _ | exact Kd.V_nil _ _ _ _ _ | exact Kd.Q_nil _ _ _ _ _ | exact Kd.S_nil _ _ _ _ _, el HB⟩

/-! ### laws_trees5: function 28 -/
def laws_trees5.f (k : Nat) (l0_0 : List Int) (l1_0 : List Int) : Option (Bool) := (laws_likeInts.f k l0_0 l1_0).bind fun t502 => (some t502)
theorem laws_trees5.mono : ∀ a0 a1 k, LeO (laws_trees5.f k a0 a1) (laws_trees5.f (k + 1) a0 a1) := by
  intro a0 a1 k
  unfold laws_trees5.f
  repeat' first | (with_reducible first | exact laws_likeInts.mono _ _ _ | exact LeO.refl _ | exact LeO.none _ | refine LeO.ite ?_ ?_ | refine LeO.bind ?_ (fun _ => ?_)) | exact laws_likeInts.mono _ _ _ | exact LeO.none _ | refine LeO.ite ?_ ?_ | refine LeO.bind ?_ (fun _ => ?_)
theorem laws_trees5.calls (k : Nat) (A0_0 : Option Addr) (c0_0 : Nat) (l0_0 : List Int) (A1_0 : Option Addr) (c1_0 : Nat) (l1_0 : List Int) (r : Bool) (w : World) (hr0_0 : Kd.C (Kd.int .i64) w A0_0 l0_0.length l0_0) (hc0_0 : l0_0.length ≤ c0_0) (hr1_0 : Kd.C (Kd.int .i64) w A1_0 l1_0.length l1_0) (hc1_0 : l1_0.length ≤ c1_0) (h : laws_trees5.f k l0_0 l1_0 = some r) :
  Calls Try.prog 28 #[.agg #[.slice A0_0 l0_0.length c0_0], .agg #[.slice A1_0 l1_0.length c1_0]] w fun e w' => e = .returned (.bool r) ∧ Below w.heap.size w w' := by
 have hu26 := Try.underlying26
 have HR0_0 := A_ hr0_0
 have HC0_0 := A_ hc0_0
 clear hr0_0 hc0_0
 have HR1_0 := A_ hr1_0
 have HC1_0 := A_ hc1_0
 clear hr1_0 hc1_0
 have HB := A_ (Below.refl w.heap.size w)
 have H : ((laws_likeInts.f k l0_0 l1_0).bind fun t502 => (some t502)) = some r := h
 clear h
 replace H := Option.bind_eq_some_iff.mp H
 obtain ⟨t502, A30, H⟩ := H
 replace H : (some t502) = some r := H
 have A3 := A_ A30
 clear A30
 obtain rfl := Option.some.inj H
 go_enter Try.func28, Try.ntmps28
 go_wp2_with (first | ((with_reducible refine gate_dst (N := 2) rfl ?_); refine bx 2 #[.slice A0_0 l0_0.length c0_0] 26 ?_; intro gb500 hg w4 hbox hb; have BK500 := A_ hbox; have GW500 := A_ (eG hg (below_size (el HB)) : w.heap.size ≤ gb500); have GE500 := A_ (eG hg (below_size (el HB)) : w.heap.size ≤ gb500); replace HB := A_ (below_step (el HB) hb); clear hb hbox hg) | ((with_reducible refine gate_dst (N := 3) rfl ?_); refine bx 3 #[.slice A1_0 l1_0.length c1_0] 26 ?_; intro gb501 hg w5 hbox hb; have BK501 := A_ hbox; have GW501 := A_ (eG hg (below_size (el HB)) : w.heap.size ≤ gb501); have GE501 := A_ (eG hg (below_size (el HB)) : w.heap.size ≤ gb501); replace HB := A_ (below_step (el HB) hb); have NB500_501 := A_ ((by rw [hg]; exact Nat.ne_of_lt (eL BK500) : gb500 ≠ gb501)); have NB501_500 := A_ ((by rw [hg]; exact Nat.ne_of_gt (eL BK500) : gb501 ≠ gb500)); replace BK500 := A_ (eB BK500 hb); clear hb hbox hg; have hnb6 := NB500_501.out; have hnc6 := NB501_500.out; have hcz7_0 : w5.cell? ⟨gb500, 0, none⟩ = some (.slice A0_0 l0_0.length c0_0) := (blk_cell BK500.out 0).trans rfl; have hfz7_0 := blk_frozen BK500.out 0; have hcz8_0 : w5.cell? ⟨gb501, 0, none⟩ = some (.slice A1_0 l1_0.length c1_0) := (blk_cell BK501.out 0).trans rfl; have hfz8_0 := blk_frozen BK501.out 0) | ((with_reducible refine gate_callee (f := 23) rfl ?_); refine goesL_ (some 9) rfl rfl Try.func23 (by kernel_rfl) rfl #[.slice A0_0 l0_0.length c0_0, .slice A1_0 l1_0.length c1_0] rfl eg ?_; (with_reducible refine (laws_likeInts.calls k _ _ l0_0 _ _ l1_0 t502 _ ?side1 ?side2 ?side3 ?side4 A3.out).mono ?_); (case side1 => exact cS (Kd.C_below HR0_0.out HB.out)); (case side2 => exact HC0_0.out); (case side3 => exact cS (Kd.C_below HR1_0.out HB.out)); (case side4 => exact HC1_0.out); rintro e w' ⟨rfl, ⟨nd, rfl⟩⟩; refine ⟨_, rfl, ?_⟩))
 go_ret
 exact ⟨er, el HB⟩

/-! ### laws_sum: function 29 -/
def laws_sum.l0 : Nat → List Int → Int → Int → Option (Int)
  | 0, _, _, _ => none
  | k + 1, x0, x3, x4 => if x4 < (x0.length : Int) then (if 0 ≤ x4 then (laws_sum.l0 k x0 (wrap64 (x3 + (rd x0 x4))) (wrap64 (x4 + 1))) else (none)) else (some x3)
def laws_sum.f (k : Nat) (l0 : List Int) : Option (Int) := laws_sum.l0 k l0 0 0
theorem laws_sum.mono_l : ∀ k, (∀ y0 y1 y2, LeO (laws_sum.l0 k y0 y1 y2) (laws_sum.l0 (k + 1) y0 y1 y2))
  | 0 => fun _ _ _ r h => by simp [laws_sum.l0] at h
  | k + 1 => by
    have ih0 := laws_sum.mono_l k
    · intro y0 y1 y2
      unfold laws_sum.l0
      repeat' first | (with_reducible first | exact ih0 _ _ _ | exact LeO.refl _ | exact LeO.none _ | refine LeO.ite ?_ ?_ | refine LeO.bind ?_ (fun _ => ?_)) | exact ih0 _ _ _ | exact LeO.none _ | refine LeO.ite ?_ ?_ | refine LeO.bind ?_ (fun _ => ?_)
theorem laws_sum.mono : ∀ a0 k, LeO (laws_sum.f k a0) (laws_sum.f (k + 1) a0) := by
  intro a0 k
  have ih0 := laws_sum.mono_l k
  unfold laws_sum.f
  repeat' first | (with_reducible first | exact ih0 _ _ _ | exact LeO.refl _ | exact LeO.none _ | refine LeO.ite ?_ ?_ | refine LeO.bind ?_ (fun _ => ?_)) | exact ih0 _ _ _ | exact LeO.none _ | refine LeO.ite ?_ ?_ | refine LeO.bind ?_ (fun _ => ?_)
theorem laws_sum.Z0 {p : Prop} (h : p := by first | (with_reducible assumption) | assumption) : p := h
theorem laws_sum.Z1 {p : Prop} (h : p := by first | rfl | (simp; done) | (simp [*]; done)) : p := h
theorem laws_sum.calls (k : Nat) (A0 : Option Addr) (c0 : Nat) (l0 : List Int) (r : Int) (w : World) (hr0 : Kd.C (Kd.int .i64) w A0 l0.length l0) (hc0 : l0.length ≤ c0) (h : laws_sum.f k l0 = some r) :
  Calls Try.prog 29 #[.slice A0 l0.length c0] w fun e w' => e = .returned (.int .i64 r) ∧ Drawn0 w w' := by
 have HR0 := A_ hr0
 have HC0 := A_ hc0
 clear hr0 hc0
 have H : (laws_sum.l0 k l0 0 0) = some r := h
 clear h
 have H' := A_ H
 clear H
 go_enter Try.func29, Try.ntmps29
 go_wp2
 go_loopg [3, 4] k (fun kq v3 v4 w' => ∃ (x3_1 : Int) (x4_1 : Int), v3 = .int .i64 x3_1 ∧ v4 = .int .i64 x4_1 ∧ Aside0 (laws_sum.l0 kq l0 x3_1 x4_1 = some r) ∧ Aside0 (kq ≤ k) ∧ Drawn0 w w')
 case atStart => exact ⟨(0), (0), laws_sum.Z1, laws_sum.Z1, H', ⟨Nat.le_refl _⟩, by repeat (first | exact Drawn0.refl _ | apply Drawn0.step)⟩
 case round =>
  clear H'
  obtain ⟨x3_1, x4_1, rfl, rfl, HA, HK1, ⟨m1, rfl⟩⟩ := hrel
  cases gk with
  | zero => exact absurd HA.out (by simp [laws_sum.l0])
  | succ k1 =>
   have H := HA.out
   clear HA
   simp only [laws_sum.l0] at H
   by_cases c2 : x4_1 < (l0.length : Int)
   ·rw [if_pos c2] at H
    have c2b0 := decide_eq_true c2
    clear c2
    by_cases c3 : 0 ≤ x4_1
    rotate_left
    ·rw [if_neg c3] at H
     exact absurd H (by simp)
    rw [if_pos c3] at H
    have c3b0 := decide_eq_true c3
    clear c3
    have H' := A_ H
    clear H
    have p503 : 0 ≤ (x4_1 : Int) := of_decide_eq_true laws_sum.Z0
    have q503 : x4_1 < (l0.length : Int) := of_decide_eq_true laws_sum.Z0
    obtain ⟨ad503, e503, hx503_0⟩ := Kd.at_int HR0.out x4_1 p503 q503
    cases e503
    replace p503 := eq_true p503
    replace q503 := eq_true q503
    go_wp2
    go_roundg k1
    case measure => have := HK1.out; omega
    case rel => exact ⟨(wrap64 (x3_1 + (rd l0 x4_1))), (wrap64 (x4_1 + 1)), laws_sum.Z1, laws_sum.Z1, H', ⟨by have := HK1.out; omega⟩, by repeat (first | exact Drawn0.refl _ | apply Drawn0.step)⟩
   ·rw [if_neg c2] at H
    have c2b0 := decide_eq_false c2
    clear c2
    obtain rfl := Option.some.inj H
    go_wp2
    go_ret
    exact ⟨by first | rfl | (simp; done) | (simp [*]; done), by repeat (first | exact Drawn0.refl _ | apply Drawn0.step)⟩

end Go.Proofs.Ytocachknmgefaaa.QFnTrees
