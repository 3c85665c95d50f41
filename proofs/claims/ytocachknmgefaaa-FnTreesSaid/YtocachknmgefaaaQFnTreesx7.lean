/- Functions of the program as plain Lean functions, each with a proof that the machine's call answers what it answers. Conditions: none. -/
import Derived.Test.YtocachknmgefaaaQFnTreesx0
import Derived.Test.YtocachknmgefaaaQFnTreesx2
import Derived.Test.YtocachknmgefaaaQFnTreesx4
import Derived.Test.YtocachknmgefaaaQFnTreesx5
import Derived.Test.YtocachknmgefaaaQFnTreesx6
namespace Go.Proofs.Ytocachknmgefaaa.QFnTrees
open Go.RowKit Go.Proofs.YtocachknmgefaaaW.PrintWords Go.Proofs.YtocachknmgefaaaW.PrintLast Go.Proofs.YtocachknmgefaaaW.PrintMore
attribute [local go_sem] max2_int min2_int max_two min_two max_three min_three max_four min_four   -- for this text's walks alone
set_option linter.unusedVariables false
set_option maxHeartbeats 8000000
set_option maxRecDepth 100000
set_option linter.unusedSimpArgs false

/-! ### impl_depthsOf: function 106 -/
def impl_depthsOf.l0 : Nat → List Int → List Int → Int → Int → Option (List Int)
  | 0, _, _, _, _ => none
  | k + 1, x3, x10, x11, x12 => if x12 < x11 then (if 0 ≤ x12 then (if x12 < (x10.length : Int) then (if (rd x10 x12) ≥ 0 then (if 0 ≤ (rd x10 x12) then (if (rd x10 x12) < (x3.length : Int) then (if x12 < (x3.length : Int) then (impl_depthsOf.l0 k (x3.set (x12 : Int).toNat (wrap64 ((rd x3 (rd x10 x12)) + 1))) x10 x11 (wrap64 (x12 + 1))) else (none)) else (none)) else (none)) else (impl_depthsOf.l0 k x3 x10 x11 (wrap64 (x12 + 1)))) else (none)) else (none)) else (some x3)
def impl_depthsOf.f (k : Nat) (l0 : List Int) : Option (List Int) := if 0 ≤ (l0.length : Int) then (if ((l0.length : Int) : Int).toNat ≤ 35184372088832 then ((impl_parentsOf.f k l0).bind fun t322 => (impl_depthsOf.l0 k (List.replicate ((l0.length : Int) : Int).toNat 0) t322 (t322.length : Int) 0)) else (none)) else (none)
theorem impl_depthsOf.mono_l : ∀ k, (∀ y0 y1 y2 y3, LeO (impl_depthsOf.l0 k y0 y1 y2 y3) (impl_depthsOf.l0 (k + 1) y0 y1 y2 y3))
  | 0 => fun _ _ _ _ r h => by simp [impl_depthsOf.l0] at h
  | k + 1 => by
    have ih0 := impl_depthsOf.mono_l k
    · intro y0 y1 y2 y3
      unfold impl_depthsOf.l0
      repeat' first | (with_reducible first | exact ih0 _ _ _ _ | exact impl_parentsOf.mono _ _ | exact LeO.refl _ | exact LeO.none _ | refine LeO.ite ?_ ?_ | refine LeO.bind ?_ (fun _ => ?_)) | exact ih0 _ _ _ _ | exact impl_parentsOf.mono _ _ | exact LeO.none _ | refine LeO.ite ?_ ?_ | refine LeO.bind ?_ (fun _ => ?_)
theorem impl_depthsOf.mono : ∀ a0 k, LeO (impl_depthsOf.f k a0) (impl_depthsOf.f (k + 1) a0) := by
  intro a0 k
  have ih0 := impl_depthsOf.mono_l k
  unfold impl_depthsOf.f
  repeat' first | (with_reducible first | exact ih0 _ _ _ _ | exact impl_parentsOf.mono _ _ | exact LeO.refl _ | exact LeO.none _ | refine LeO.ite ?_ ?_ | refine LeO.bind ?_ (fun _ => ?_)) | exact ih0 _ _ _ _ | exact impl_parentsOf.mono _ _ | exact LeO.none _ | refine LeO.ite ?_ ?_ | refine LeO.bind ?_ (fun _ => ?_)
theorem impl_depthsOf.Z0 {p : Prop} (h : p := by first | (with_reducible assumption) | assumption) : p := h
theorem impl_depthsOf.Z1 {p : Prop} (h : p := by first | rfl | (simp; done) | (simp [*]; done)) : p := h
theorem impl_depthsOf.calls (k : Nat) (A0 : Option Addr) (c0 : Nat) (l0 : List Int) (r : List Int) (w : World) (hr0 : Kd.C (Kd.int .i64) w A0 l0.length l0) (hc0 : l0.length ≤ c0) (h : impl_depthsOf.f k l0 = some r) :
  Calls Try.prog 106 #[.slice A0 l0.length c0] w fun e w' => ∃ v0_ : Value, e = .returned (v0_) ∧ Kd.R (Kd.int .i64) 2 w' w.heap.size (fun _ => True) v0_ r ∧ Below w.heap.size w w' := by
 have HR0 := A_ hr0
 have HC0 := A_ hc0
 clear hr0 hc0
 have HB := A_ (Below.refl w.heap.size w)
 have H : (if 0 ≤ (l0.length : Int) then (if ((l0.length : Int) : Int).toNat ≤ 35184372088832 then ((impl_parentsOf.f k l0).bind fun t322 => (impl_depthsOf.l0 k (List.replicate ((l0.length : Int) : Int).toNat 0) t322 (t322.length : Int) 0)) else (none)) else (none)) = some r := h
 clear h
 by_cases c2 : 0 ≤ (l0.length : Int)
 ·rw [if_pos c2] at H
  have c2b0 := eq_true c2
  have c2b1 := decide_eq_true c2
  clear c2
  by_cases c3 : ((l0.length : Int) : Int).toNat ≤ 35184372088832
  rotate_left
  ·rw [if_neg c3] at H
   exact absurd H (by simp)
  rw [if_pos c3] at H
  have c3b0 := eq_true c3
  have c3b1 := decide_eq_true c3
  clear c3
  obtain ⟨y319, hy319⟩ : ∃ y_ : List Int, y_ = (List.replicate ((l0.length : Int) : Int).toNat 0) := ⟨_, rfl⟩
  replace H : ((impl_parentsOf.f k l0).bind fun t322 => (impl_depthsOf.l0 k y319 t322 (t322.length : Int) 0)) = some r := eH hy319 H
  have Ny319 := A_ hy319
  clear hy319
  replace H := Option.bind_eq_some_iff.mp H
  obtain ⟨t322, A40, H⟩ := H
  replace H : (impl_depthsOf.l0 k y319 t322 (t322.length : Int) 0) = some r := H
  have A4 := A_ A40
  clear A40
  have H' := A_ H
  clear H
  go_enter Try.func106, Try.ntmps106
  go_wp2_with (first | ((with_reducible refine gate_dst (N := 8) rfl ?_); refine Kd.R_make (Kd.int .i64) _ 2 rfl (N := 8) rfl 24 _ _ rfl (l0.length : Int) rfl rfl Try.underlying24 (.int .i64 0) 8 info2 rfl (by decide) (by omega) 0 (ok := fun _ => True) (okp := fun _ => True) rfl (fun _ hk => hk) trivial (of_decide_eq_true impl_depthsOf.Z0) (Nat.le_trans (Nat.mul_le_mul_right _ (of_decide_eq_true impl_depthsOf.Z0 : (l0.length : Int).toNat ≤ 35184372088832)) (by omega)) (Below.refl _ _) (Nat.le_refl _) ?_; intro v320 w5 ho6 hb hg_ hnew_; clear hg_ hnew_; (first | rw [← Ny319.out] at ho6 | (simp only [Int.reduceToNat] at ho6; rw [← Ny319.out] at ho6)); have HO321 := A_ (Kd.R_lower ho6 (below_size (el HB))); replace HB := A_ (below_step (el HB) hb); clear hb ho6) | ((with_reducible refine gate_callee (f := 104) rfl ?_); refine goesL_ (some 10) rfl rfl Try.func104 (by kernel_rfl) rfl #[.slice A0 l0.length c0] rfl eg ?_; (with_reducible refine (impl_parentsOf.calls k _ _ l0 t322 _ ?side1 ?side2 A4.out).mono ?_); (case side1 => exact cS (Kd.C_below HR0.out HB.out)); (case side2 => exact HC0.out); rintro e w7 ⟨v323, rfl, ho0, hb⟩; refine ⟨_, rfl, ?_⟩; have HO324 := A_ (Kd.R_lower (Kd.R_new' ho0 (Kd.R_lt (ea HO321))) (below_size (el HB))); replace HO321 := A_ (Kd.R_elder' (ea HO321) (Kd.R_base ho0) hb); replace HB := A_ (below_step (el HB) hb); (try clear hb); (try clear hb2); (try clear hk); (try clear hi); (try clear ho0); obtain ⟨Ao8, co8, eo8⟩ := Kd.R_slice HO324.out; subst eo8))
  go_loopg [12] k (fun kq v12 w' => ∃ (x3_1 : List Int) (x12_1 : Int), v12 = .int .i64 x12_1 ∧ Aside0 (impl_depthsOf.l0 kq x3_1 t322 (t322.length : Int) x12_1 = some r) ∧ Aside0 (kq ≤ k) ∧ Aside0 (Kd.R (Kd.int .i64) 2 w' w.heap.size (fun k_ => some k_ ≠ ((.slice Ao8 t322.length co8) : Value).ownBlock) v320 x3_1) ∧ Aside0 (Kd.R (Kd.int .i64) 2 w' w.heap.size (fun k_ => some k_ ≠ (v320 : Value).ownBlock) (.slice Ao8 t322.length co8) t322) ∧ Aside0 (Below w.heap.size w w'))
  case atStart => exact ⟨(y319), (0), impl_depthsOf.Z1, H', ⟨Nat.le_refl _⟩, ⟨by (with_reducible repeat (first | apply Kd.R_alloc | apply Kd.R_drewN | apply Kd.R_drew)); exact Kd.R_mono HO321.out (fun _ hk => hk.2)⟩, ⟨by (with_reducible repeat (first | apply Kd.R_alloc | apply Kd.R_drewN | apply Kd.R_drew)); exact Kd.R_mono HO324.out (fun _ hk => hk.2)⟩, ⟨el HB⟩⟩
  case round =>
   clear H'
   try clear c1
   try clear c2
   try clear c2b0
   try clear c2b1
   try clear p2
   try clear c3
   try clear c3b0
   try clear c3b1
   obtain ⟨x3_1, x12_1, rfl, HA, HK1, HO_3, HO_10, HB⟩ := hrel
   cases gk with
   | zero => exact absurd HA.out (by simp [impl_depthsOf.l0])
   | succ k1 =>
    have H := HA.out
    clear HA
    simp only [impl_depthsOf.l0] at H
    by_cases c9 : x12_1 < (t322.length : Int)
    ·rw [if_pos c9] at H
     have c9b0 := decide_eq_true c9
     clear c9
     by_cases c10 : 0 ≤ x12_1
     rotate_left
     ·rw [if_neg c10] at H
      exact absurd H (by simp)
     rw [if_pos c10] at H
     have c10b0 := decide_eq_true c10
     clear c10
     by_cases c11 : x12_1 < (t322.length : Int)
     rotate_left
     ·rw [if_neg c11] at H
      exact absurd H (by simp)
     rw [if_pos c11] at H
     have c11b0 := decide_eq_true c11
     clear c11
     by_cases c12 : (rd t322 x12_1) ≥ 0
     ·rw [if_pos c12] at H
      have c12b0 := decide_eq_true c12
      clear c12
      by_cases c13 : 0 ≤ (rd t322 x12_1)
      rotate_left
      ·rw [if_neg c13] at H
       exact absurd H (by simp)
      rw [if_pos c13] at H
      have c13b0 := decide_eq_true c13
      clear c13
      by_cases c14 : (rd t322 x12_1) < (x3_1.length : Int)
      rotate_left
      ·rw [if_neg c14] at H
       exact absurd H (by simp)
      rw [if_pos c14] at H
      have c14b0 := decide_eq_true c14
      clear c14
      by_cases c15 : x12_1 < (x3_1.length : Int)
      rotate_left
      ·rw [if_neg c15] at H
       exact absurd H (by simp)
      rw [if_pos c15] at H
      have c15b0 := decide_eq_true c15
      clear c15
      obtain ⟨y327, hy327⟩ : ∃ y_ : List Int, y_ = (x3_1.set (x12_1 : Int).toNat (wrap64 ((rd x3_1 (rd t322 x12_1)) + 1))) := ⟨_, rfl⟩
      replace H : (impl_depthsOf.l0 k1 y327 t322 (t322.length : Int) (wrap64 (x12_1 + 1))) = some r := eH hy327 H
      have Ny327 := A_ hy327
      clear hy327
      have H' := A_ H
      clear H
      have p325 : 0 ≤ (x12_1 : Int) := of_decide_eq_true impl_depthsOf.Z0
      have q325 : x12_1 < (t322.length : Int) := of_decide_eq_true impl_depthsOf.Z0
      obtain ⟨ad325, e325, hx325_0⟩ := Kd.at_int (Kd.R_reads' HO_10.out).2.2 x12_1 p325 q325
      cases e325
      replace p325 := eq_true p325
      replace q325 := eq_true q325
      obtain ⟨Ao17, co17, eo17⟩ := Kd.R_slice HO_3.out
      subst eo17
      have p326 : 0 ≤ ((rd t322 x12_1) : Int) := of_decide_eq_true impl_depthsOf.Z0
      have q326 : (rd t322 x12_1) < (x3_1.length : Int) := of_decide_eq_true impl_depthsOf.Z0
      obtain ⟨ad326, e326, hx326_0⟩ := Kd.at_int (Kd.R_reads' HO_3.out).2.2 (rd t322 x12_1) p326 q326
      cases e326
      replace p326 := eq_true p326
      replace q326 := eq_true q326
      have p16 : 0 ≤ (x12_1 : Int) := of_decide_eq_true impl_depthsOf.Z0
      have q16 : (x12_1 : Int) < ((x3_1.length : Int) : Int) := of_decide_eq_true impl_depthsOf.Z0
      obtain ⟨go16, co16, eo16, gb16, gl16, cl16, HG16⟩ := Kd.R_form HO_3.out (by omega)
      (first | cases eo16 | (injection eo16 with ea_ en_ ec_; (first | subst ea_ | (injection ea_ with ea_; subst ea_)); subst ec_; clear en_))
      have GB16 := A_ gb16
      have GG16 := A_ HG16
      clear gb16 gl16 HG16
      (first | simp only [add_plain] at hx326_0 | skip)
      obtain ⟨hx16_0, hf16_0⟩ := Kd.R_celln 0 HO_3.out (x12_1 : Int) p16 q16
      replace p16 := eq_true p16
      replace q16 := eq_true q16
      have HP18 := Kd.R_putg HO_3.out (x12_1 : Int) (wrap64 ((rd x3_1 (rd t322 x12_1)) + 1))
      go_wp2_with (first | ((with_reducible refine gate_store (t := 2) (p := 26) rfl ?_); refine store_event (t := 2) (p := 26) (v := ?vo_w19) (w1 := (wr.setCell ⟨go16, (x12_1 : Int).toNat, none⟩ (.int .i64 (wrap64 ((rd x3_1 (rd t322 x12_1)) + 1))))) ?hg ?ho ?hn ?hr ?_; (case ho => rfl); (case hg => rfl); (case hn => rfl); (case hr => first | (go_simp; done) | (go_simp; rfl)); intro w19 hw; have hg : wr.grownBy w19 (some go16) := (by rw [hw]; exact HP18.2); have hp_ : Kd.R (Kd.int .i64) 2 w19 w.heap.size (fun k_ => some k_ ≠ (.slice (some ad325) t322.length co8 : Value).ownBlock) (.slice (some ⟨go16, 0, none⟩) x3_1.length co17) y327 := (by rw [hw, Ny327.out]; exact HP18.1); clear HP18; replace HO_3 := A_ hp_; replace HO_10 := A_ (Kd.R_after (v := (.slice (some ⟨go16, 0, none⟩) x3_1.length co17)) (v1 := (.slice (some ⟨go16, 0, none⟩) x3_1.length co17)) (ok := (fun _ => True)) (by (with_reducible repeat (first | apply Kd.R_alloc | apply Kd.R_drewN | apply Kd.R_drew)); exact Kd.R_mono HO_10.out (fun _ hk => ⟨trivial, hk⟩)) hg (.inl rfl)); replace HB := A_ ((by rw [hw]; exact below_set (HB.out) GB16.out : Below w.heap.size w w19)); clear hg hw hp_))
      go_roundg k1
      case measure => have := HK1.out; omega
      case rel => exact ⟨(y327), (wrap64 (x12_1 + 1)), impl_depthsOf.Z1, H', ⟨by have := HK1.out; omega⟩, ⟨es HO_3⟩, ⟨by (with_reducible repeat (first | apply Kd.R_alloc | apply Kd.R_drewN | apply Kd.R_drew)); exact Kd.R_mono HO_10.out (fun _ hk => hk.2)⟩, ⟨el HB⟩⟩
     ·rw [if_neg c12] at H
      have c12b0 := decide_eq_false c12
      clear c12
      have H' := A_ H
      clear H
      have p325 : 0 ≤ (x12_1 : Int) := of_decide_eq_true impl_depthsOf.Z0
      have q325 : x12_1 < (t322.length : Int) := of_decide_eq_true impl_depthsOf.Z0
      obtain ⟨ad325, e325, hx325_0⟩ := Kd.at_int (Kd.R_reads' HO_10.out).2.2 x12_1 p325 q325
      cases e325
      replace p325 := eq_true p325
      replace q325 := eq_true q325
      go_wp2
      go_roundg k1
      case measure => have := HK1.out; omega
      case rel => exact ⟨(x3_1), (wrap64 (x12_1 + 1)), impl_depthsOf.Z1, H', ⟨by have := HK1.out; omega⟩, ⟨es HO_3⟩, ⟨es HO_10⟩, ⟨el HB⟩⟩
    ·rw [if_neg c9] at H
     have c9b0 := decide_eq_false c9
     clear c9
     obtain rfl := Option.some.inj H
     go_wp2
     go_ret
     exact ⟨_, er, by (with_reducible repeat (first | apply Kd.R_alloc | apply Kd.R_drewN | apply Kd.R_drew)); exact Kd.R_mono HO_3.out (fun _ hk => trivial), el HB⟩
 ·rw [if_neg c2] at H
  exact absurd H (by simp)

/-! ### impl_DepthsOf: function 13 -/
def impl_DepthsOf.f (k : Nat) (l0_0 : List Int) : Option (List Int × Int) := (impl_IsTree.f k l0_0).bind fun t329 => (if t329 = true then ((impl_depthsOf.f k l0_0).bind fun t330 => (some (t330, 0))) else (some (([] : List Int), 1)))
theorem impl_DepthsOf.mono : ∀ a0 k, LeO (impl_DepthsOf.f k a0) (impl_DepthsOf.f (k + 1) a0) := by
  intro a0 k
  unfold impl_DepthsOf.f
  repeat' first | (with_reducible first | exact impl_IsTree.mono _ _ | exact impl_depthsOf.mono _ _ | exact LeO.refl _ | exact LeO.none _ | refine LeO.ite ?_ ?_ | refine LeO.bind ?_ (fun _ => ?_)) | exact impl_IsTree.mono _ _ | exact impl_depthsOf.mono _ _ | exact LeO.none _ | refine LeO.ite ?_ ?_ | refine LeO.bind ?_ (fun _ => ?_)
theorem impl_DepthsOf.calls (k : Nat) (A0_0 : Option Addr) (c0_0 : Nat) (l0_0 : List Int) (r1 : List Int) (r2 : Int) (w : World) (hr0_0 : Kd.C (Kd.int .i64) w A0_0 l0_0.length l0_0) (hc0_0 : l0_0.length ≤ c0_0) (h : impl_DepthsOf.f k l0_0 = some (r1, r2)) :
  Calls Try.prog 13 #[.agg #[.slice A0_0 l0_0.length c0_0]] w fun e w' => ∃ v0_ : Value, e = .returned (.tuple #[v0_, .int .i64 r2]) ∧ Kd.R (Kd.int .i64) 2 w' w.heap.size (fun _ => True) v0_ r1 ∧ Below w.heap.size w w' := by
 have hu26 := Try.underlying26
 have HR0_0 := A_ hr0_0
 have HC0_0 := A_ hc0_0
 clear hr0_0 hc0_0
 have HB := A_ (Below.refl w.heap.size w)
 have H : ((impl_IsTree.f k l0_0).bind fun t329 => (if t329 = true then ((impl_depthsOf.f k l0_0).bind fun t330 => (some (t330, 0))) else (some (([] : List Int), 1)))) = some (r1, r2) := h
 clear h
 replace H := Option.bind_eq_some_iff.mp H
 obtain ⟨t329, A20, H⟩ := H
 replace H : (if t329 = true then ((impl_depthsOf.f k l0_0).bind fun t330 => (some (t330, 0))) else (some (([] : List Int), 1))) = some (r1, r2) := H
 have A2 := A_ A20
 clear A20
 by_cases c3 : t329 = true
 ·subst c3
  have H1 : ((impl_depthsOf.f k l0_0).bind fun t330 => (some (t330, 0))) = some (r1, r2) := by rw [if_pos rfl] at H; exact H
  clear H
  have H := H1
  clear H1
  replace H := Option.bind_eq_some_iff.mp H
  obtain ⟨t330, A40, H⟩ := H
  replace H : (some (t330, 0)) = some (r1, r2) := H
  have A4 := A_ A40
  clear A40
  simp only [Option.some.injEq, Prod.mk.injEq] at H
  obtain ⟨rfl, rfl⟩ := H
  go_enter Try.func13, Try.ntmps13
  go_wp2_with (first | ((with_reducible refine gate_dst (N := 1) rfl ?_); refine bx 1 #[.slice A0_0 l0_0.length c0_0] 26 ?_; intro gb328 hg w5 hbox hb; have BK328 := A_ hbox; have GW328 := A_ (eG hg (below_size (el HB)) : w.heap.size ≤ gb328); have GE328 := A_ (eG hg (below_size (el HB)) : w.heap.size ≤ gb328); replace HB := A_ (below_step (el HB) hb); clear hb hbox hg; have hcz6_0 : w5.cell? ⟨gb328, 0, none⟩ = some (.slice A0_0 l0_0.length c0_0) := (blk_cell BK328.out 0).trans rfl; have hfz6_0 := blk_frozen BK328.out 0) | ((with_reducible refine gate_callee (f := 24) rfl ?_); refine goesL_ (some 5) rfl rfl Try.func24 (by kernel_rfl) rfl #[.agg #[.slice A0_0 l0_0.length c0_0]] rfl eg ?_; (with_reducible refine (impl_IsTree.calls k _ _ l0_0 true _ ?side1 ?side2 A2.out).mono ?_); (case side1 => exact cS (Kd.C_below HR0_0.out HB.out)); (case side2 => exact HC0_0.out); rintro e w7 ⟨rfl, hb⟩; refine ⟨_, rfl, ?_⟩; replace BK328 := A_ (eB BK328 hb); replace HB := A_ (below_step (el HB) hb); (try clear hb); (try clear hb2); (try clear hk); (try clear hi); have hcz8_0 : w7.cell? ⟨gb328, 0, none⟩ = some (.slice A0_0 l0_0.length c0_0) := (blk_cell BK328.out 0).trans rfl; have hfz8_0 := blk_frozen BK328.out 0) | ((with_reducible refine gate_callee (f := 106) rfl ?_); refine goesL_ (some 9) rfl rfl Try.func106 (by kernel_rfl) rfl #[.slice A0_0 l0_0.length c0_0] rfl eg ?_; (with_reducible refine (impl_depthsOf.calls k _ _ l0_0 t330 _ ?side1 ?side2 A4.out).mono ?_); (case side1 => exact cS (Kd.C_below HR0_0.out HB.out)); (case side2 => exact HC0_0.out); rintro e w9 ⟨v331, rfl, ho0, hb⟩; refine ⟨_, rfl, ?_⟩; have HO332 := A_ (Kd.R_lower ho0 (below_size (el HB))); replace BK328 := A_ (eB BK328 hb); replace HB := A_ (below_step (el HB) hb); (try clear hb); (try clear hb2); (try clear hk); (try clear hi); (try clear ho0)))
  go_ret2
  exact ⟨_, er, by (with_reducible repeat (first | apply Kd.R_alloc | apply Kd.R_drewN | apply Kd.R_drew)); exact HO332.out, el HB⟩
 ·replace c3 := Bool.eq_false_iff.mpr c3
  subst c3
  have H1 : (some (([] : List Int), 1)) = some (r1, r2) := by rw [if_neg (show ¬ (false = true) by decide)] at H; exact H
  clear H
  have H := H1
  clear H1
  simp only [Option.some.injEq, Prod.mk.injEq] at H
  obtain ⟨rfl, rfl⟩ := H
  go_enter Try.func13, Try.ntmps13
  go_wp2_with (first | ((with_reducible refine gate_dst (N := 1) rfl ?_); refine bx 1 #[.slice A0_0 l0_0.length c0_0] 26 ?_; intro gb328 hg w10 hbox hb; have BK328 := A_ hbox; have GW328 := A_ (eG hg (below_size (el HB)) : w.heap.size ≤ gb328); have GE328 := A_ (eG hg (below_size (el HB)) : w.heap.size ≤ gb328); replace HB := A_ (below_step (el HB) hb); clear hb hbox hg; have hcz11_0 : w10.cell? ⟨gb328, 0, none⟩ = some (.slice A0_0 l0_0.length c0_0) := (blk_cell BK328.out 0).trans rfl; have hfz11_0 := blk_frozen BK328.out 0) | ((with_reducible refine gate_callee (f := 24) rfl ?_); refine goesL_ (some 5) rfl rfl Try.func24 (by kernel_rfl) rfl #[.agg #[.slice A0_0 l0_0.length c0_0]] rfl eg ?_; (with_reducible refine (impl_IsTree.calls k _ _ l0_0 false _ ?side1 ?side2 A2.out).mono ?_); (case side1 => exact cS (Kd.C_below HR0_0.out HB.out)); (case side2 => exact HC0_0.out); rintro e w12 ⟨rfl, hb⟩; refine ⟨_, rfl, ?_⟩; replace BK328 := A_ (eB BK328 hb); replace HB := A_ (below_step (el HB) hb); (try clear hb); (try clear hb2); (try clear hk); (try clear hi)))
  go_ret2
  exact ⟨_, er, by first | exact Kd.R_nil _ _ _ _ _ | exact Kd.N_nil _ _ _ _ _ | exact Kd.V_nil _ _ _ _ _ | exact Kd.Q_nil _ _ _ _ _ | exact Kd.S_nil _ _ _ _ _, el HB⟩

/-! ### spec_l01Depths: function 107 -/
def spec_l01Depths.l0 : Nat → List Int → List Int → Int → Option (List Int)
  | 0, _, _, _ => none
  | k + 1, x3, x4, x5 => if x5 < (x4.length : Int) then (if 0 ≤ x5 then (if x5 < (x3.length : Int) then (if 0 ≤ (rd x3 x5) then (if (rd x3 x5) < (x4.length : Int) then (spec_l01Depths.l0 k x3 (x4.set (x5 : Int).toNat (wrap64 ((rd x4 (rd x3 x5)) + 1))) (wrap64 (x5 + 1))) else (none)) else (none)) else (none)) else (none)) else (some x4)
def spec_l01Depths.f (k : Nat) (l0_0 : List Int) : Option (List Int) := (spec_l01Parents.f k l0_0).bind fun t334 => ((spec_l01N.f l0_0).bind fun t337 => (if 0 ≤ t337 then (if (t337 : Int).toNat ≤ 35184372088832 then (spec_l01Depths.l0 k t334 (List.replicate (t337 : Int).toNat 0) 1) else (none)) else (none)))
theorem spec_l01Depths.mono_l : ∀ k, (∀ y0 y1 y2, LeO (spec_l01Depths.l0 k y0 y1 y2) (spec_l01Depths.l0 (k + 1) y0 y1 y2))
  | 0 => fun _ _ _ r h => by simp [spec_l01Depths.l0] at h
  | k + 1 => by
    have ih0 := spec_l01Depths.mono_l k
    · intro y0 y1 y2
      unfold spec_l01Depths.l0
      repeat' first | (with_reducible first | exact ih0 _ _ _ | exact spec_l01Parents.mono _ _ | exact LeO.refl _ | exact LeO.none _ | refine LeO.ite ?_ ?_ | refine LeO.bind ?_ (fun _ => ?_)) | exact ih0 _ _ _ | exact spec_l01Parents.mono _ _ | exact LeO.none _ | refine LeO.ite ?_ ?_ | refine LeO.bind ?_ (fun _ => ?_)
theorem spec_l01Depths.mono : ∀ a0 k, LeO (spec_l01Depths.f k a0) (spec_l01Depths.f (k + 1) a0) := by
  intro a0 k
  have ih0 := spec_l01Depths.mono_l k
  unfold spec_l01Depths.f
  repeat' first | (with_reducible first | exact ih0 _ _ _ | exact spec_l01Parents.mono _ _ | exact LeO.refl _ | exact LeO.none _ | refine LeO.ite ?_ ?_ | refine LeO.bind ?_ (fun _ => ?_)) | exact ih0 _ _ _ | exact spec_l01Parents.mono _ _ | exact LeO.none _ | refine LeO.ite ?_ ?_ | refine LeO.bind ?_ (fun _ => ?_)
theorem spec_l01Depths.Z0 {p : Prop} (h : p := by first | (with_reducible assumption) | assumption) : p := h
theorem spec_l01Depths.Z1 {p : Prop} (h : p := by first | rfl | (simp; done) | (simp [*]; done)) : p := h
theorem spec_l01Depths.calls (k : Nat) (A0_0 : Option Addr) (c0_0 : Nat) (l0_0 : List Int) (r : List Int) (w : World) (hr0_0 : Kd.C (Kd.int .i64) w A0_0 l0_0.length l0_0) (hc0_0 : l0_0.length ≤ c0_0) (h : spec_l01Depths.f k l0_0 = some r) :
  Calls Try.prog 107 #[.agg #[.slice A0_0 l0_0.length c0_0]] w fun e w' => ∃ v0_ : Value, e = .returned (v0_) ∧ Kd.R (Kd.int .i64) 2 w' w.heap.size (fun _ => True) v0_ r ∧ Below w.heap.size w w' := by
 have hu26 := Try.underlying26
 have HR0_0 := A_ hr0_0
 have HC0_0 := A_ hc0_0
 clear hr0_0 hc0_0
 have HB := A_ (Below.refl w.heap.size w)
 have H : ((spec_l01Parents.f k l0_0).bind fun t334 => ((spec_l01N.f l0_0).bind fun t337 => (if 0 ≤ t337 then (if (t337 : Int).toNat ≤ 35184372088832 then (spec_l01Depths.l0 k t334 (List.replicate (t337 : Int).toNat 0) 1) else (none)) else (none)))) = some r := h
 clear h
 replace H := Option.bind_eq_some_iff.mp H
 obtain ⟨t334, A20, H⟩ := H
 replace H : ((spec_l01N.f l0_0).bind fun t337 => (if 0 ≤ t337 then (if (t337 : Int).toNat ≤ 35184372088832 then (spec_l01Depths.l0 k t334 (List.replicate (t337 : Int).toNat 0) 1) else (none)) else (none))) = some r := H
 have A2 := A_ A20
 clear A20
 replace H := Option.bind_eq_some_iff.mp H
 obtain ⟨t337, A30, H⟩ := H
 replace H : (if 0 ≤ t337 then (if (t337 : Int).toNat ≤ 35184372088832 then (spec_l01Depths.l0 k t334 (List.replicate (t337 : Int).toNat 0) 1) else (none)) else (none)) = some r := H
 have A3 := A_ A30
 clear A30
 by_cases c4 : 0 ≤ t337
 ·rw [if_pos c4] at H
  have c4b0 := eq_true c4
  have c4b1 := decide_eq_true c4
  clear c4
  by_cases c5 : (t337 : Int).toNat ≤ 35184372088832
  rotate_left
  ·rw [if_neg c5] at H
   exact absurd H (by simp)
  rw [if_pos c5] at H
  have c5b0 := eq_true c5
  have c5b1 := decide_eq_true c5
  clear c5
  obtain ⟨y338, hy338⟩ : ∃ y_ : List Int, y_ = (List.replicate (t337 : Int).toNat 0) := ⟨_, rfl⟩
  replace H : (spec_l01Depths.l0 k t334 y338 1) = some r := eH hy338 H
  have Ny338 := A_ hy338
  clear hy338
  have H' := A_ H
  clear H
  go_enter Try.func107, Try.ntmps107
  try go_wp2_with (first | ((with_reducible refine gate_dst (N := 1) rfl ?_); refine bx 1 #[.slice A0_0 l0_0.length c0_0] 26 ?_; intro gb333 hg w6 hbox hb; have BK333 := A_ hbox; have GW333 := A_ (eG hg (below_size (el HB)) : w.heap.size ≤ gb333); have GE333 := A_ (eG hg (below_size (el HB)) : w.heap.size ≤ gb333); replace HB := A_ (below_step (el HB) hb); clear hb hbox hg))
  replace BK333 := A_ (blk_drew BK333.out)
  replace HB := A_ (below_drew1 HB.out)
  refine start_ (n := 7) (S := fun w' => w'.cell? ⟨gb333, 0, none⟩ = some (.slice A0_0 l0_0.length c0_0)) (ds := []) (bM 7 0) (by kernel_rfl) rfl rfl ((blk_cell BK333.out 0).trans rfl) (fun hHeld => ?_)
  generalize w6.drew = w7 at BK333 HB hHeld ⊢
  refine take_ (i := 0) (N := some 6) (v := ?_) (a' := ?_) (bM 7 1) rfl rfl (by kernel_rfl) (fun _ _ _ h => h) (Or.inl ⟨by rfl, ?_⟩) hHeld ?_ ?_
  rotate_left
  ·intro w' s0
   go_simp
   with_reducible rfl
  rotate_left
  ·simp only [Act.put, List.setIfInBounds_toArray, List.set_cons_zero, List.set_cons_succ, i64_w, i32_w]
   rfl
  refine take_ (i := 2) (N := some 8) (v := ?_) (a' := ?_) (bM 7 5) rfl rfl (by kernel_rfl) (fun _ _ _ h => h) (Or.inl ⟨by rfl, ?_⟩) hHeld ?_ ?_
  rotate_left
  ·intro w' s0
   go_simp
   with_reducible rfl
  rotate_left
  ·simp only [Act.put, List.setIfInBounds_toArray, List.set_cons_zero, List.set_cons_succ, i64_w, i32_w]
   rfl
  refine one_ (i := 1) (N := some 7) (bM 7 7) rfl rfl (by kernel_rfl) (by decide) (fun K hK => ?_)
  refine goes_ Try.func105 (by kernel_rfl) rfl #[.agg #[.slice A0_0 l0_0.length c0_0]] (by rfl) rfl rfl eg ?_
  with_reducible refine (spec_l01Parents.calls k _ _ l0_0 t334 _ ?side1 ?side2 A2.out).mono ?_
  (case side1 => exact cS (Kd.C_below HR0_0.out HB.out))
  (case side2 => exact HC0_0.out)
  rintro e w8 ⟨v335, rfl, ho0, hb⟩
  refine ⟨_, rfl, ?_⟩
  have HO336 := A_ (Kd.R_lower ho0 (below_size (el HB)))
  replace BK333 := A_ (eB BK333 hb)
  replace HB := A_ (below_step (el HB) hb)
  (try clear hb)
  (try clear hb2)
  (try clear hk)
  (try clear hi)
  (try clear ho0)
  refine hK.out _ _ ((blk_cell BK333.out 0).trans rfl) (fun hHeld => ?_)
  clear hK K
  refine norm_ (a' := ?_) ?_ ?_
  rotate_left
  ·show Act.put _ (some 7) _ = _
   simp only [Act.put, List.setIfInBounds_toArray, List.set_cons_zero, List.set_cons_succ, i64_w, i32_w]
   rfl
  refine one_ (i := 3) (N := some 9) (bM 7 15) rfl rfl (by kernel_rfl) (by decide) (fun K hK => ?_)
  refine goes_ Try.func102 (by kernel_rfl) rfl #[.agg #[.slice A0_0 l0_0.length c0_0]] (by rfl) rfl rfl eg ?_
  with_reducible refine (spec_l01N.calls _ _ l0_0 t337 _ ?side1 ?side2 A3.out).mono ?_
  (case side1 => exact cS (Kd.C_below HR0_0.out HB.out))
  (case side2 => exact HC0_0.out)
  rintro e w9 ⟨rfl, hb⟩
  refine ⟨_, rfl, ?_⟩
  replace HO336 := A_ (Kd.R_below (ea HO336) hb)
  replace BK333 := A_ (eB BK333 hb)
  replace HB := A_ (below_step (el HB) hb)
  (try clear hb)
  (try clear hb2)
  (try clear hk)
  (try clear hi)
  refine hK.out _ _ ((blk_cell BK333.out 0).trans rfl) (fun hHeld => ?_)
  clear hK K
  refine norm_ (a' := ?_) ?_ ?_
  rotate_left
  ·show Act.put _ (some 9) _ = _
   simp only [Act.put, List.setIfInBounds_toArray, List.set_cons_zero, List.set_cons_succ, i64_w, i32_w]
   rfl
  refine pure_ (i := 5) (N := some 3) (v := ?_) (a' := ?_) (bM 7 47) rfl rfl (by kernel_rfl) (fun _ _ _ h => h) (Or.inl ⟨by rfl, ?_⟩) ?_ ?_
  rotate_left
  ·intro w'
   go_simp
   with_reducible rfl
  rotate_left
  ·simp only [Act.put, List.setIfInBounds_toArray, List.set_cons_zero, List.set_cons_succ, i64_w, i32_w]
   rfl
  refine one_ (i := 4) (N := some 10) (bM 7 63) rfl rfl (by kernel_rfl) (by decide) (fun K hK => ?_)
  refine Kd.R_make_step (Kd.int .i64) _ 2 (by rfl) (N := 10) rfl 24 _ _ rfl t337 rfl rfl Try.underlying24 (.int .i64 0) 8 info2 rfl (by decide) (by omega) 0 (ok := fun _ => True) (okp := fun _ => True) rfl (fun _ hk => hk) trivial (of_decide_eq_true spec_l01Depths.Z0) (Nat.le_trans (Nat.mul_le_mul_right _ (of_decide_eq_true spec_l01Depths.Z0 : t337.toNat ≤ 35184372088832)) (by omega)) (Below.refl _ _) (Nat.le_refl _) ?_
  intro v339 w10 ho11 hb hg_ hnew_
  clear hg_ hnew_
  (first | rw [← Ny338.out] at ho11 | (simp only [Int.reduceToNat] at ho11; rw [← Ny338.out] at ho11))
  have HO340 := A_ (Kd.R_lower (Kd.R_new' ho11 (Kd.R_lt (ea HO336))) (below_size (el HB)))
  replace HO336 := A_ (Kd.R_elder' (ea HO336) (Kd.R_base ho11) hb)
  replace BK333 := A_ (eB BK333 hb)
  replace HB := A_ (below_step (el HB) hb)
  clear hb ho11
  refine hK.out _ _ ((blk_cell BK333.out 0).trans rfl) (fun hHeld => ?_)
  clear hK K
  refine norm_ (a' := ?_) ?_ ?_
  rotate_left
  ·show Act.put _ (some 10) _ = _
   simp only [Act.put, List.setIfInBounds_toArray, List.set_cons_zero, List.set_cons_succ, i64_w, i32_w]
   rfl
  refine pure_ (i := 6) (N := some 4) (v := ?_) (a' := ?_) (bM 7 127) rfl rfl (by kernel_rfl) (fun _ _ _ h => h) (Or.inl ⟨by rfl, ?_⟩) ?_ ?_
  rotate_left
  ·intro w'
   go_simp
   with_reducible rfl
  rotate_left
  ·simp only [Act.put, List.setIfInBounds_toArray, List.set_cons_zero, List.set_cons_succ, i64_w, i32_w]
   rfl
  refine done_ (by kernel_rfl) ?_
  try go_wp2
  go_loopg [5] k (fun kq v5 w' => ∃ (x4_1 : List Int) (x5_1 : Int), v5 = .int .i64 x5_1 ∧ Aside0 (spec_l01Depths.l0 kq t334 x4_1 x5_1 = some r) ∧ Aside0 (kq ≤ k) ∧ Aside0 (Kd.R (Kd.int .i64) 2 w' w.heap.size (fun k_ => some k_ ≠ (v339 : Value).ownBlock) v335 t334) ∧ Aside0 (Kd.R (Kd.int .i64) 2 w' w.heap.size (fun k_ => some k_ ≠ (v335 : Value).ownBlock) v339 x4_1) ∧ Aside0 (w'.heap[gb333]? = some (.cells #[(.slice A0_0 l0_0.length c0_0)] 26 (0, 0))) ∧ Aside0 (Below w.heap.size w w'))
  case atStart => exact ⟨(y338), (1), spec_l01Depths.Z1, H', ⟨Nat.le_refl _⟩, ⟨by (with_reducible repeat (first | apply Kd.R_alloc | apply Kd.R_drewN | apply Kd.R_drew)); exact Kd.R_mono HO336.out (fun _ hk => hk.2)⟩, ⟨by (with_reducible repeat (first | apply Kd.R_alloc | apply Kd.R_drewN | apply Kd.R_drew)); exact Kd.R_mono HO340.out (fun _ hk => hk.2)⟩, ⟨eb BK333⟩, ⟨el HB⟩⟩
  case round =>
   clear H'
   try clear c1
   try clear p2
   try clear c4
   try clear c4b0
   try clear c4b1
   try clear c5
   try clear c5b0
   try clear c5b1
   try clear c10
   obtain ⟨x4_1, x5_1, rfl, HA, HK1, HO_3, HO_4, BK333, HB⟩ := hrel
   cases gk with
   | zero => exact absurd HA.out (by simp [spec_l01Depths.l0])
   | succ k1 =>
    have H := HA.out
    clear HA
    simp only [spec_l01Depths.l0] at H
    by_cases c12 : x5_1 < (x4_1.length : Int)
    ·rw [if_pos c12] at H
     have c12b0 := decide_eq_true c12
     clear c12
     by_cases c13 : 0 ≤ x5_1
     rotate_left
     ·rw [if_neg c13] at H
      exact absurd H (by simp)
     rw [if_pos c13] at H
     have c13b0 := decide_eq_true c13
     clear c13
     by_cases c14 : x5_1 < (t334.length : Int)
     rotate_left
     ·rw [if_neg c14] at H
      exact absurd H (by simp)
     rw [if_pos c14] at H
     have c14b0 := decide_eq_true c14
     clear c14
     by_cases c15 : 0 ≤ (rd t334 x5_1)
     rotate_left
     ·rw [if_neg c15] at H
      exact absurd H (by simp)
     rw [if_pos c15] at H
     have c15b0 := decide_eq_true c15
     clear c15
     by_cases c16 : (rd t334 x5_1) < (x4_1.length : Int)
     rotate_left
     ·rw [if_neg c16] at H
      exact absurd H (by simp)
     rw [if_pos c16] at H
     have c16b0 := decide_eq_true c16
     clear c16
     obtain ⟨y343, hy343⟩ : ∃ y_ : List Int, y_ = (x4_1.set (x5_1 : Int).toNat (wrap64 ((rd x4_1 (rd t334 x5_1)) + 1))) := ⟨_, rfl⟩
     replace H : (spec_l01Depths.l0 k1 t334 y343 (wrap64 (x5_1 + 1))) = some r := eH hy343 H
     have Ny343 := A_ hy343
     clear hy343
     have H' := A_ H
     clear H
     obtain ⟨Ao18, co18, eo18⟩ := Kd.R_slice HO_4.out
     subst eo18
     obtain ⟨Ao19, co19, eo19⟩ := Kd.R_slice HO_3.out
     subst eo19
     have p341 : 0 ≤ (x5_1 : Int) := of_decide_eq_true spec_l01Depths.Z0
     have q341 : x5_1 < (t334.length : Int) := of_decide_eq_true spec_l01Depths.Z0
     obtain ⟨ad341, e341, hx341_0⟩ := Kd.at_int (Kd.R_reads' HO_3.out).2.2 x5_1 p341 q341
     cases e341
     replace p341 := eq_true p341
     replace q341 := eq_true q341
     have p342 : 0 ≤ ((rd t334 x5_1) : Int) := of_decide_eq_true spec_l01Depths.Z0
     have q342 : (rd t334 x5_1) < (x4_1.length : Int) := of_decide_eq_true spec_l01Depths.Z0
     obtain ⟨ad342, e342, hx342_0⟩ := Kd.at_int (Kd.R_reads' HO_4.out).2.2 (rd t334 x5_1) p342 q342
     cases e342
     replace p342 := eq_true p342
     replace q342 := eq_true q342
     have p17 : 0 ≤ (x5_1 : Int) := of_decide_eq_true spec_l01Depths.Z0
     have q17 : (x5_1 : Int) < ((x4_1.length : Int) : Int) := of_decide_eq_true spec_l01Depths.Z0
     obtain ⟨go17, co17, eo17, gb17, gl17, cl17, HG17⟩ := Kd.R_form HO_4.out (by omega)
     (first | cases eo17 | (injection eo17 with ea_ en_ ec_; (first | subst ea_ | (injection ea_ with ea_; subst ea_)); subst ec_; clear en_))
     have GB17 := A_ gb17
     have GG17 := A_ HG17
     clear gb17 gl17 HG17
     (first | simp only [add_plain] at hx342_0 | skip)
     obtain ⟨hx17_0, hf17_0⟩ := Kd.R_celln 0 HO_4.out (x5_1 : Int) p17 q17
     replace p17 := eq_true p17
     replace q17 := eq_true q17
     have HP20 := Kd.R_putg HO_4.out (x5_1 : Int) (wrap64 ((rd x4_1 (rd t334 x5_1)) + 1))
     go_wp2_with (first | ((with_reducible refine gate_store (t := 2) (p := 27) rfl ?_); refine store_event (t := 2) (p := 27) (v := ?vo_w21) (w1 := (wr.setCell ⟨go17, (x5_1 : Int).toNat, none⟩ (.int .i64 (wrap64 ((rd x4_1 (rd t334 x5_1)) + 1))))) ?hg ?ho ?hn ?hr ?_; (case ho => rfl); (case hg => rfl); (case hn => rfl); (case hr => first | (go_simp; done) | (go_simp; rfl)); intro w21 hw; have hg : wr.grownBy w21 (some go17) := (by rw [hw]; exact HP20.2); have hp_ : Kd.R (Kd.int .i64) 2 w21 w.heap.size (fun k_ => some k_ ≠ (.slice (some ad341) t334.length co19 : Value).ownBlock) (.slice (some ⟨go17, 0, none⟩) x4_1.length co18) y343 := (by rw [hw, Ny343.out]; exact HP20.1); clear HP20; replace HO_3 := A_ (Kd.R_after (v := (.slice (some ⟨go17, 0, none⟩) x4_1.length co18)) (v1 := (.slice (some ⟨go17, 0, none⟩) x4_1.length co18)) (ok := (fun _ => True)) (by (with_reducible repeat (first | apply Kd.R_alloc | apply Kd.R_drewN | apply Kd.R_drew)); exact Kd.R_mono HO_3.out (fun _ hk => ⟨trivial, hk⟩)) hg (.inl rfl)); replace BK333 := A_ (blk_grown (g := gb333) (o := .cells #[.slice A0_0 l0_0.length c0_0] 26 (0, 0)) (eb BK333) hg (Kd.R_ne HO_4.out BK333.out (by decide))); replace HO_4 := A_ hp_; replace HB := A_ ((by rw [hw]; exact below_set (HB.out) GB17.out : Below w.heap.size w w21)); clear hg hw hp_))
     go_roundg k1
     case measure => have := HK1.out; omega
     case rel => exact ⟨(y343), (wrap64 (x5_1 + 1)), spec_l01Depths.Z1, H', ⟨by have := HK1.out; omega⟩, ⟨by (with_reducible repeat (first | apply Kd.R_alloc | apply Kd.R_drewN | apply Kd.R_drew)); exact Kd.R_mono HO_3.out (fun _ hk => hk.2)⟩, ⟨es HO_4⟩, ⟨eb BK333⟩, ⟨el HB⟩⟩
    ·rw [if_neg c12] at H
     have c12b0 := decide_eq_false c12
     clear c12
     obtain rfl := Option.some.inj H
     obtain ⟨Ao22, co22, eo22⟩ := Kd.R_slice HO_4.out
     subst eo22
     go_wp2
     go_ret
     exact ⟨_, er, by (with_reducible repeat (first | apply Kd.R_alloc | apply Kd.R_drewN | apply Kd.R_drew)); exact Kd.R_mono HO_4.out (fun _ hk => trivial), el HB⟩
 ·rw [if_neg c4] at H
  exact absurd H (by simp)

/-! ### spec_DepthsOf: function 14 -/
def spec_DepthsOf.f (k : Nat) (l0_0 : List Int) : Option (List Int × Int) := (spec_l01Is.f k l0_0).bind fun t345 => (if t345 = true then ((spec_l01Depths.f k l0_0).bind fun t346 => (some (t346, 0))) else (some (([] : List Int), 1)))
theorem spec_DepthsOf.mono : ∀ a0 k, LeO (spec_DepthsOf.f k a0) (spec_DepthsOf.f (k + 1) a0) := by
  intro a0 k
  unfold spec_DepthsOf.f
  repeat' first | (with_reducible first | exact spec_l01Depths.mono _ _ | exact spec_l01Is.mono _ _ | exact LeO.refl _ | exact LeO.none _ | refine LeO.ite ?_ ?_ | refine LeO.bind ?_ (fun _ => ?_)) | exact spec_l01Depths.mono _ _ | exact spec_l01Is.mono _ _ | exact LeO.none _ | refine LeO.ite ?_ ?_ | refine LeO.bind ?_ (fun _ => ?_)
theorem spec_DepthsOf.calls (k : Nat) (A0_0 : Option Addr) (c0_0 : Nat) (l0_0 : List Int) (r1 : List Int) (r2 : Int) (w : World) (hr0_0 : Kd.C (Kd.int .i64) w A0_0 l0_0.length l0_0) (hc0_0 : l0_0.length ≤ c0_0) (h : spec_DepthsOf.f k l0_0 = some (r1, r2)) :
  Calls Try.prog 14 #[.agg #[.slice A0_0 l0_0.length c0_0]] w fun e w' => ∃ v0_ : Value, e = .returned (.tuple #[v0_, .int .i64 r2]) ∧ Kd.R (Kd.int .i64) 2 w' w.heap.size (fun _ => True) v0_ r1 ∧ Below w.heap.size w w' := by
 have hu26 := Try.underlying26
 have HR0_0 := A_ hr0_0
 have HC0_0 := A_ hc0_0
 clear hr0_0 hc0_0
 have HB := A_ (Below.refl w.heap.size w)
 have H : ((spec_l01Is.f k l0_0).bind fun t345 => (if t345 = true then ((spec_l01Depths.f k l0_0).bind fun t346 => (some (t346, 0))) else (some (([] : List Int), 1)))) = some (r1, r2) := h
 clear h
 replace H := Option.bind_eq_some_iff.mp H
 obtain ⟨t345, A20, H⟩ := H
 replace H : (if t345 = true then ((spec_l01Depths.f k l0_0).bind fun t346 => (some (t346, 0))) else (some (([] : List Int), 1))) = some (r1, r2) := H
 have A2 := A_ A20
 clear A20
 by_cases c3 : t345 = true
 ·subst c3
  have H1 : ((spec_l01Depths.f k l0_0).bind fun t346 => (some (t346, 0))) = some (r1, r2) := by rw [if_pos rfl] at H; exact H
  clear H
  have H := H1
  clear H1
  replace H := Option.bind_eq_some_iff.mp H
  obtain ⟨t346, A40, H⟩ := H
  replace H : (some (t346, 0)) = some (r1, r2) := H
  have A4 := A_ A40
  clear A40
  simp only [Option.some.injEq, Prod.mk.injEq] at H
  obtain ⟨rfl, rfl⟩ := H
  go_enter Try.func14, Try.ntmps14
  go_wp2_with (first | ((with_reducible refine gate_dst (N := 1) rfl ?_); refine bx 1 #[.slice A0_0 l0_0.length c0_0] 26 ?_; intro gb344 hg w5 hbox hb; have BK344 := A_ hbox; have GW344 := A_ (eG hg (below_size (el HB)) : w.heap.size ≤ gb344); have GE344 := A_ (eG hg (below_size (el HB)) : w.heap.size ≤ gb344); replace HB := A_ (below_step (el HB) hb); clear hb hbox hg; have hcz6_0 : w5.cell? ⟨gb344, 0, none⟩ = some (.slice A0_0 l0_0.length c0_0) := (blk_cell BK344.out 0).trans rfl; have hfz6_0 := blk_frozen BK344.out 0) | ((with_reducible refine gate_callee (f := 101) rfl ?_); refine goesL_ (some 5) rfl rfl Try.func101 (by kernel_rfl) rfl #[.agg #[.slice A0_0 l0_0.length c0_0]] rfl eg ?_; (with_reducible refine (spec_l01Is.calls k _ _ l0_0 true _ ?side1 ?side2 A2.out).mono ?_); (case side1 => exact cS (Kd.C_below HR0_0.out HB.out)); (case side2 => exact HC0_0.out); rintro e w7 ⟨rfl, hb⟩; refine ⟨_, rfl, ?_⟩; replace BK344 := A_ (eB BK344 hb); replace HB := A_ (below_step (el HB) hb); (try clear hb); (try clear hb2); (try clear hk); (try clear hi); have hcz8_0 : w7.cell? ⟨gb344, 0, none⟩ = some (.slice A0_0 l0_0.length c0_0) := (blk_cell BK344.out 0).trans rfl; have hfz8_0 := blk_frozen BK344.out 0) | ((with_reducible refine gate_callee (f := 107) rfl ?_); refine goesL_ (some 8) rfl rfl Try.func107 (by kernel_rfl) rfl #[.agg #[.slice A0_0 l0_0.length c0_0]] rfl eg ?_; (with_reducible refine (spec_l01Depths.calls k _ _ l0_0 t346 _ ?side1 ?side2 A4.out).mono ?_); (case side1 => exact cS (Kd.C_below HR0_0.out HB.out)); (case side2 => exact HC0_0.out); rintro e w9 ⟨v347, rfl, ho0, hb⟩; refine ⟨_, rfl, ?_⟩; have HO348 := A_ (Kd.R_lower ho0 (below_size (el HB))); replace BK344 := A_ (eB BK344 hb); replace HB := A_ (below_step (el HB) hb); (try clear hb); (try clear hb2); (try clear hk); (try clear hi); (try clear ho0)))
  go_ret2
  exact ⟨_, er, by (with_reducible repeat (first | apply Kd.R_alloc | apply Kd.R_drewN | apply Kd.R_drew)); exact HO348.out, el HB⟩
 ·replace c3 := Bool.eq_false_iff.mpr c3
  subst c3
  have H1 : (some (([] : List Int), 1)) = some (r1, r2) := by rw [if_neg (show ¬ (false = true) by decide)] at H; exact H
  clear H
  have H := H1
  clear H1
  simp only [Option.some.injEq, Prod.mk.injEq] at H
  obtain ⟨rfl, rfl⟩ := H
  go_enter Try.func14, Try.ntmps14
  go_wp2_with (first | ((with_reducible refine gate_dst (N := 1) rfl ?_); refine bx 1 #[.slice A0_0 l0_0.length c0_0] 26 ?_; intro gb344 hg w10 hbox hb; have BK344 := A_ hbox; have GW344 := A_ (eG hg (below_size (el HB)) : w.heap.size ≤ gb344); have GE344 := A_ (eG hg (below_size (el HB)) : w.heap.size ≤ gb344); replace HB := A_ (below_step (el HB) hb); clear hb hbox hg; have hcz11_0 : w10.cell? ⟨gb344, 0, none⟩ = some (.slice A0_0 l0_0.length c0_0) := (blk_cell BK344.out 0).trans rfl; have hfz11_0 := blk_frozen BK344.out 0) | ((with_reducible refine gate_callee (f := 101) rfl ?_); refine goesL_ (some 5) rfl rfl Try.func101 (by kernel_rfl) rfl #[.agg #[.slice A0_0 l0_0.length c0_0]] rfl eg ?_; (with_reducible refine (spec_l01Is.calls k _ _ l0_0 false _ ?side1 ?side2 A2.out).mono ?_); (case side1 => exact cS (Kd.C_below HR0_0.out HB.out)); (case side2 => exact HC0_0.out); rintro e w12 ⟨rfl, hb⟩; refine ⟨_, rfl, ?_⟩; replace BK344 := A_ (eB BK344 hb); replace HB := A_ (below_step (el HB) hb); (try clear hb); (try clear hb2); (try clear hk); (try clear hi)))
  go_ret2
  exact ⟨_, er, by first | exact Kd.R_nil _ _ _ _ _ | exact Kd.N_nil _ _ _ _ _ | exact Kd.V_nil _ _ _ _ _ | exact Kd.Q_nil _ _ _ _ _ | exact Kd.S_nil _ _ _ _ _, el HB⟩

/-! ### impl_LeavesOf: function 15 -/
def impl_LeavesOf.l0 : Nat → List Int → List Int → Int → Int → Option (List Int × Int)
  | 0, _, _, _, _ => none
  | k + 1, x4, x12, x13, x14 => if x14 < x13 then (if 0 ≤ x14 then (if x14 < (x12.length : Int) then (if (rd x12 x14) = 0 then (if x4.length < 17592186044416 then (impl_LeavesOf.l0 k (x4 ++ [x14]) x12 x13 (wrap64 (x14 + 1))) else (none)) else (impl_LeavesOf.l0 k x4 x12 x13 (wrap64 (x14 + 1)))) else (none)) else (none)) else (some (x4, 0))
def impl_LeavesOf.f (k : Nat) (l0_0 : List Int) : Option (List Int × Int) := (impl_IsTree.f k l0_0).bind fun t350 => (if t350 = true then (impl_LeavesOf.l0 k (([] : List Int)) l0_0 (l0_0.length : Int) 0) else (some (([] : List Int), 1)))
theorem impl_LeavesOf.mono_l : ∀ k, (∀ y0 y1 y2 y3, LeO (impl_LeavesOf.l0 k y0 y1 y2 y3) (impl_LeavesOf.l0 (k + 1) y0 y1 y2 y3))
  | 0 => fun _ _ _ _ r h => by simp [impl_LeavesOf.l0] at h
  | k + 1 => by
    have ih0 := impl_LeavesOf.mono_l k
    · intro y0 y1 y2 y3
      unfold impl_LeavesOf.l0
      repeat' first | (with_reducible first | exact ih0 _ _ _ _ | exact impl_IsTree.mono _ _ | exact LeO.refl _ | exact LeO.none _ | refine LeO.ite ?_ ?_ | refine LeO.bind ?_ (fun _ => ?_)) | exact ih0 _ _ _ _ | exact impl_IsTree.mono _ _ | exact LeO.none _ | refine LeO.ite ?_ ?_ | refine LeO.bind ?_ (fun _ => ?_)
theorem impl_LeavesOf.mono : ∀ a0 k, LeO (impl_LeavesOf.f k a0) (impl_LeavesOf.f (k + 1) a0) := by
  intro a0 k
  have ih0 := impl_LeavesOf.mono_l k
  unfold impl_LeavesOf.f
  repeat' first | (with_reducible first | exact ih0 _ _ _ _ | exact impl_IsTree.mono _ _ | exact LeO.refl _ | exact LeO.none _ | refine LeO.ite ?_ ?_ | refine LeO.bind ?_ (fun _ => ?_)) | exact ih0 _ _ _ _ | exact impl_IsTree.mono _ _ | exact LeO.none _ | refine LeO.ite ?_ ?_ | refine LeO.bind ?_ (fun _ => ?_)
theorem impl_LeavesOf.Z0 {p : Prop} (h : p := by first | (with_reducible assumption) | assumption) : p := h
theorem impl_LeavesOf.Z1 {p : Prop} (h : p := by first | rfl | (simp; done) | (simp [*]; done)) : p := h
theorem impl_LeavesOf.calls (k : Nat) (A0_0 : Option Addr) (c0_0 : Nat) (l0_0 : List Int) (r1 : List Int) (r2 : Int) (w : World) (hr0_0 : Kd.C (Kd.int .i64) w A0_0 l0_0.length l0_0) (hc0_0 : l0_0.length ≤ c0_0) (h : impl_LeavesOf.f k l0_0 = some (r1, r2)) :
  Calls Try.prog 15 #[.agg #[.slice A0_0 l0_0.length c0_0]] w fun e w' => ∃ v0_ : Value, e = .returned (.tuple #[v0_, .int .i64 r2]) ∧ Kd.R (Kd.int .i64) 2 w' w.heap.size (fun _ => True) v0_ r1 ∧ Below w.heap.size w w' := by
 have hu26 := Try.underlying26
 have HR0_0 := A_ hr0_0
 have HC0_0 := A_ hc0_0
 clear hr0_0 hc0_0
 have HB := A_ (Below.refl w.heap.size w)
 have H : ((impl_IsTree.f k l0_0).bind fun t350 => (if t350 = true then (impl_LeavesOf.l0 k (([] : List Int)) l0_0 (l0_0.length : Int) 0) else (some (([] : List Int), 1)))) = some (r1, r2) := h
 clear h
 replace H := Option.bind_eq_some_iff.mp H
 obtain ⟨t350, A20, H⟩ := H
 replace H : (if t350 = true then (impl_LeavesOf.l0 k (([] : List Int)) l0_0 (l0_0.length : Int) 0) else (some (([] : List Int), 1))) = some (r1, r2) := H
 have A2 := A_ A20
 clear A20
 by_cases c3 : t350 = true
 ·subst c3
  have H1 : (impl_LeavesOf.l0 k (([] : List Int)) l0_0 (l0_0.length : Int) 0) = some (r1, r2) := by rw [if_pos rfl] at H; exact H
  clear H
  have H := H1
  clear H1
  obtain ⟨y351, hy351⟩ : ∃ y_ : List Int, y_ = (([] : List Int)) := ⟨_, rfl⟩
  replace H : (impl_LeavesOf.l0 k y351 l0_0 (l0_0.length : Int) 0) = some (r1, r2) := eH hy351 H
  have Ny351 := A_ hy351
  clear hy351
  have H' := A_ H
  clear H
  go_enter Try.func15, Try.ntmps15
  go_wp2_with (first | ((with_reducible refine gate_dst (N := 1) rfl ?_); refine bx 1 #[.slice A0_0 l0_0.length c0_0] 26 ?_; intro gb349 hg w4 hbox hb; have BK349 := A_ hbox; have GW349 := A_ (eG hg (below_size (el HB)) : w.heap.size ≤ gb349); have GE349 := A_ (eG hg (below_size (el HB)) : w.heap.size ≤ gb349); replace HB := A_ (below_step (el HB) hb); clear hb hbox hg; have hcz5_0 : w4.cell? ⟨gb349, 0, none⟩ = some (.slice A0_0 l0_0.length c0_0) := (blk_cell BK349.out 0).trans rfl; have hfz5_0 := blk_frozen BK349.out 0) | ((with_reducible refine gate_callee (f := 24) rfl ?_); refine goesL_ (some 8) rfl rfl Try.func24 (by kernel_rfl) rfl #[.agg #[.slice A0_0 l0_0.length c0_0]] rfl eg ?_; (with_reducible refine (impl_IsTree.calls k _ _ l0_0 true _ ?side1 ?side2 A2.out).mono ?_); (case side1 => exact cS (Kd.C_below HR0_0.out HB.out)); (case side2 => exact HC0_0.out); rintro e w6 ⟨rfl, hb⟩; refine ⟨_, rfl, ?_⟩; replace BK349 := A_ (eB BK349 hb); replace HB := A_ (below_step (el HB) hb); (try clear hb); (try clear hb2); (try clear hk); (try clear hi)) | ((with_reducible refine gate_dst (N := 10) rfl ?_); refine Kd.R_lit (Kd.int .i64) _ 2 ?hg (N := 10) ?hd (xs := ([] : List Int)) (inner := []) (ok := fun _ => True) (okp := fun _ => True) ?hr ?hp (fun _ hk => hk) trivial (Below.refl _ _) (Nat.le_refl _) (by simp) ?_; (case hd => rfl); (case hg => rfl); (case hr => first | (go_simp; done) | (go_simp; rfl)); (case hp => exact (Reps.none _ _)); intro v352 w7 ho8 hb hg_ hnew_; clear hg_ hnew_; (first | rw [← Ny351.out] at ho8 | (simp only [Int.reduceToNat] at ho8; rw [← Ny351.out] at ho8)); have HO353 := A_ (Kd.R_lower ho8 (below_size (el HB))); replace BK349 := A_ (eB BK349 hb); replace HB := A_ (below_step (el HB) hb); clear hb ho8; have hcz9_0 : w7.cell? ⟨gb349, 0, none⟩ = some (.slice A0_0 l0_0.length c0_0) := (blk_cell BK349.out 0).trans rfl; have hfz9_0 := blk_frozen BK349.out 0))
  go_loopg [4, 14] k (fun kq v4 v14 w' => ∃ (x4_1 : List Int) (x14_1 : Int), v14 = .int .i64 x14_1 ∧ Aside0 (impl_LeavesOf.l0 kq x4_1 l0_0 (l0_0.length : Int) x14_1 = some (r1, r2)) ∧ Aside0 (kq ≤ k) ∧ Aside0 (Kd.R (Kd.int .i64) 2 w' w.heap.size (fun _ => True) v4 x4_1) ∧ Aside0 (w'.heap[gb349]? = some (.cells #[(.slice A0_0 l0_0.length c0_0)] 26 (0, 0))) ∧ Aside0 (Below w.heap.size w w'))
  case atStart => exact ⟨(y351), (0), impl_LeavesOf.Z1, H', ⟨Nat.le_refl _⟩, ⟨ea HO353⟩, ⟨eb BK349⟩, ⟨el HB⟩⟩
  case round =>
   clear H'
   try clear c1
   try clear c2
   try clear p2
   try clear c3
   try clear hcz5_0
   try clear hcz9_0
   try clear hfz5_0
   try clear hfz9_0
   obtain ⟨x4_1, x14_1, rfl, HA, HK1, HO_4, BK349, HB⟩ := hrel
   cases gk with
   | zero => exact absurd HA.out (by simp [impl_LeavesOf.l0])
   | succ k1 =>
    have H := HA.out
    clear HA
    simp only [impl_LeavesOf.l0] at H
    by_cases c10 : x14_1 < (l0_0.length : Int)
    ·rw [if_pos c10] at H
     have c10b0 := decide_eq_true c10
     clear c10
     by_cases c11 : 0 ≤ x14_1
     rotate_left
     ·rw [if_neg c11] at H
      exact absurd H (by simp)
     rw [if_pos c11] at H
     have c11b0 := decide_eq_true c11
     clear c11
     by_cases c12 : x14_1 < (l0_0.length : Int)
     rotate_left
     ·rw [if_neg c12] at H
      exact absurd H (by simp)
     rw [if_pos c12] at H
     have c12b0 := decide_eq_true c12
     clear c12
     by_cases c13 : (rd l0_0 x14_1) = 0
     ·rw [if_pos c13] at H
      have c13b0 : ((rd l0_0 x14_1) == 0) = true := beq_iff_eq.mpr c13
      have c13b1 : ((rd l0_0 x14_1) != 0) = false := bne_eq_false_iff_eq.mpr c13
      clear c13
      by_cases c14 : x4_1.length < 17592186044416
      rotate_left
      ·rw [if_neg c14] at H
       exact absurd H (by simp)
      rw [if_pos c14] at H
      have LMc14 := A_ c14
      clear c14
      obtain ⟨y355, hy355⟩ : ∃ y_ : List Int, y_ = (x4_1 ++ [x14_1]) := ⟨_, rfl⟩
      replace H : (impl_LeavesOf.l0 k1 y355 l0_0 (l0_0.length : Int) (wrap64 (x14_1 + 1))) = some (r1, r2) := eH hy355 H
      have Ny355 := A_ hy355
      clear hy355
      have H' := A_ H
      clear H
      have p354 : 0 ≤ (x14_1 : Int) := of_decide_eq_true impl_LeavesOf.Z0
      have q354 : x14_1 < (l0_0.length : Int) := of_decide_eq_true impl_LeavesOf.Z0
      obtain ⟨ad354, e354, hx354_0⟩ := Kd.at_int HR0_0.out x14_1 p354 q354
      cases e354
      replace hx354_0 := (HB.out.cell (World.block_lt_of_cell? w _ hx354_0)).trans hx354_0
      replace p354 := eq_true p354
      replace q354 := eq_true q354
      go_wp2_with (first | ((with_reducible refine gate_builtin (b := .append) (xs := #[.tmp 21, .tmp 23]) rfl ?_); at_builtin; refine Kd.R_append (Kd.int .i64) (w0 := w) w.heap.size rfl (.tmp 21) (.tmp 23) 24 2 (.int .i64 0) 8 rfl Try.underlying24 info2 rfl (by decide) (by omega) u4 x4_1 x14_1 [.int .i64 x14_1] (fun _ => True) (fun _ => False) rfl rfl ?aP (fun _ hk => hk.elim) ?aF ?aO ?aB ?aS ?aL ?_; (case aP => exact rfl); (case aB => exact (el HB)); (case aF => exact (fun _ _ => trivial)); (case aO => exact (ea HO_4)); (case aS => exact (below_size (el HB))); (case aL => have := LMc14.out; omega); intro v356 w15 ho hb hg hat; rw [← Ny355.out] at ho; replace BK349 := A_ (blk_grown (g := gb349) (o := .cells #[.slice (some ad354) l0_0.length c0_0] 26 (0, 0)) (eb BK349) hg (Kd.R_ne HO_4.out BK349.out (by decide))); replace HB := A_ hb; have HO357 := A_ ho; clear HO_4; clear ho hb hg hat))
      go_roundg k1
      case measure => have := HK1.out; omega
      case rel => exact ⟨(y355), (wrap64 (x14_1 + 1)), impl_LeavesOf.Z1, H', ⟨by have := HK1.out; omega⟩, ⟨es HO357⟩, ⟨eb BK349⟩, ⟨el HB⟩⟩
     ·rw [if_neg c13] at H
      have c13b0 : ((rd l0_0 x14_1) == 0) = false := beq_eq_false_iff_ne.mpr c13
      have c13b1 : ((rd l0_0 x14_1) != 0) = true := bne_iff_ne.mpr c13
      have H' := A_ H
      clear H
      have p354 : 0 ≤ (x14_1 : Int) := of_decide_eq_true impl_LeavesOf.Z0
      have q354 : x14_1 < (l0_0.length : Int) := of_decide_eq_true impl_LeavesOf.Z0
      obtain ⟨ad354, e354, hx354_0⟩ := Kd.at_int HR0_0.out x14_1 p354 q354
      cases e354
      replace hx354_0 := (HB.out.cell (World.block_lt_of_cell? w _ hx354_0)).trans hx354_0
      replace p354 := eq_true p354
      replace q354 := eq_true q354
      go_wp2
      go_roundg k1
      case measure => have := HK1.out; omega
      case rel => exact ⟨(x4_1), (wrap64 (x14_1 + 1)), impl_LeavesOf.Z1, H', ⟨by have := HK1.out; omega⟩, ⟨es HO_4⟩, ⟨eb BK349⟩, ⟨el HB⟩⟩
    ·rw [if_neg c10] at H
     have c10b0 := decide_eq_false c10
     clear c10
     simp only [Option.some.injEq, Prod.mk.injEq] at H
     obtain ⟨rfl, rfl⟩ := H
     go_wp2
     go_ret2
     exact ⟨_, er, by (with_reducible repeat (first | apply Kd.R_alloc | apply Kd.R_drewN | apply Kd.R_drew)); exact HO_4.out, el HB⟩
 ·replace c3 := Bool.eq_false_iff.mpr c3
  subst c3
  have H1 : (some (([] : List Int), 1)) = some (r1, r2) := by rw [if_neg (show ¬ (false = true) by decide)] at H; exact H
  clear H
  have H := H1
  clear H1
  simp only [Option.some.injEq, Prod.mk.injEq] at H
  obtain ⟨rfl, rfl⟩ := H
  go_enter Try.func15, Try.ntmps15
  go_wp2_with (first | ((with_reducible refine gate_dst (N := 1) rfl ?_); refine bx 1 #[.slice A0_0 l0_0.length c0_0] 26 ?_; intro gb349 hg w16 hbox hb; have BK349 := A_ hbox; have GW349 := A_ (eG hg (below_size (el HB)) : w.heap.size ≤ gb349); have GE349 := A_ (eG hg (below_size (el HB)) : w.heap.size ≤ gb349); replace HB := A_ (below_step (el HB) hb); clear hb hbox hg; have hcz17_0 : w16.cell? ⟨gb349, 0, none⟩ = some (.slice A0_0 l0_0.length c0_0) := (blk_cell BK349.out 0).trans rfl; have hfz17_0 := blk_frozen BK349.out 0) | ((with_reducible refine gate_callee (f := 24) rfl ?_); refine goesL_ (some 8) rfl rfl Try.func24 (by kernel_rfl) rfl #[.agg #[.slice A0_0 l0_0.length c0_0]] rfl eg ?_; (with_reducible refine (impl_IsTree.calls k _ _ l0_0 false _ ?side1 ?side2 A2.out).mono ?_); (case side1 => exact cS (Kd.C_below HR0_0.out HB.out)); (case side2 => exact HC0_0.out); rintro e w18 ⟨rfl, hb⟩; refine ⟨_, rfl, ?_⟩; replace BK349 := A_ (eB BK349 hb); replace HB := A_ (below_step (el HB) hb); (try clear hb); (try clear hb2); (try clear hk); (try clear hi)))
  go_ret2
  exact ⟨_, er, by first | exact Kd.R_nil _ _ _ _ _ | exact Kd.N_nil _ _ _ _ _ | exact Kd.V_nil _ _ _ _ _ | exact Kd.Q_nil _ _ _ _ _ | exact Kd.S_nil _ _ _ _ _, el HB⟩

end Go.Proofs.Ytocachknmgefaaa.QFnTrees
