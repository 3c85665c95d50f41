/- Functions of the program as plain Lean functions, each with a proof that the machine's call answers what it answers. Conditions: none. -/
import Derived.Test.YtocachknmgefaaaQFnRanksx0
import Derived.Test.YtocachknmgefaaaQFnRanksx2
import Derived.Test.YtocachknmgefaaaQFnRanksx3
import Derived.Test.YtocachknmgefaaaQFnRanksx5
namespace Go.Proofs.Ytocachknmgefaaa.QFnRanks
open Go.RowKit Go.Proofs.YtocachknmgefaaaW.PrintWords Go.Proofs.YtocachknmgefaaaW.PrintLast Go.Proofs.YtocachknmgefaaaW.PrintMore
attribute [local go_sem] max2_int min2_int max_two min_two max_three min_three max_four min_four   -- for this text's walks alone
set_option linter.unusedVariables false
set_option linter.unusedSimpArgs false

/-! ### spec_l02Table: function 174 -/
mutual
def spec_l02Table.l0 : Nat → Int → List (List Int) → Int → Option ((List (List Int)))
  | 0, _, _, _ => none
  | k + 1, x0, x3, x4 => if x4 ≤ x0 then (if 0 ≤ (wrap64 (x0 + 2)) then (if (wrap64 (x0 + 2) : Int).toNat ≤ 35184372088832 then ((some (List.replicate (wrap64 (x0 + 2) : Int).toNat 0 : List Int)).bind fun y266 => (if x4 = 0 then (if 0 < (y266.length : Int) then (if x3.length < 5864062014805 then (spec_l02Table.l0 k x0 (x3 ++ [(y266.set (0 : Int).toNat 1)]) (wrap64 (x4 + 1))) else (none)) else (none)) else (spec_l02Table.l1 k x0 x3 x4 y266 0 x4))) else (none)) else (none)) else (some x3)
def spec_l02Table.l1 : Nat → Int → List (List Int) → Int → List Int → Int → Int → Option ((List (List Int)))
  | 0, _, _, _, _, _, _ => none
  | k + 1, x0, x3, x4, x5, x6, x7 => if x7 ≥ 0 then (if 0 ≤ (wrap64 (x4 - 1)) then (if (wrap64 (x4 - 1)) < (x3.length : Int) then (if 0 ≤ x7 then (if x7 < ((rd_L2 x3 (wrap64 (x4 - 1))).length : Int) then (if (wrap64 (x7 + 1)) ≤ x0 then (if 0 ≤ (wrap64 (x7 + 1)) then (if (wrap64 (x7 + 1)) < (x5.length : Int) then (spec_l02Table.l1 k x0 x3 x4 (x5.set ((wrap64 (x7 + 1)) : Int).toNat (wrap64 (x6 + (rd (rd_L2 x3 (wrap64 (x4 - 1))) x7)))) (wrap64 (x6 + (rd (rd_L2 x3 (wrap64 (x4 - 1))) x7))) (wrap64 (x7 - 1))) else (none)) else (none)) else (spec_l02Table.l1 k x0 x3 x4 x5 (wrap64 (x6 + (rd (rd_L2 x3 (wrap64 (x4 - 1))) x7))) (wrap64 (x7 - 1)))) else (none)) else (none)) else (none)) else (none)) else (if x3.length < 5864062014805 then (spec_l02Table.l0 k x0 (x3 ++ [x5]) (wrap64 (x4 + 1))) else (none))
end
def spec_l02Table.f (k : Nat) (a0 : Int) : Option ((List (List Int))) := spec_l02Table.l0 k a0 (([] : List (List Int))) 0
theorem spec_l02Table.mono_l : ∀ k, (∀ y0 y1 y2, LeO (spec_l02Table.l0 k y0 y1 y2) (spec_l02Table.l0 (k + 1) y0 y1 y2)) ∧ (∀ y0 y1 y2 y3 y4 y5, LeO (spec_l02Table.l1 k y0 y1 y2 y3 y4 y5) (spec_l02Table.l1 (k + 1) y0 y1 y2 y3 y4 y5))
  | 0 => ⟨fun _ _ _ r h => by simp [spec_l02Table.l0] at h, fun _ _ _ _ _ _ r h => by simp [spec_l02Table.l1] at h⟩
  | k + 1 => by
    obtain ⟨ih0, ih1⟩ := spec_l02Table.mono_l k
    refine ⟨?_, ?_⟩
    · intro y0 y1 y2
      unfold spec_l02Table.l0
      repeat' first
      | (with_reducible exact ih0 _ _ _)
      | (with_reducible exact ih1 _ _ _ _ _ _)
      | (with_reducible exact LeO.refl _)
      | (with_reducible exact LeO.none _)
      | (with_reducible refine LeO.ite ?_ ?_)
      | (with_reducible refine LeO.bind ?_ (fun _ => ?_))
      | exact ih0 _ _ _
      | exact ih1 _ _ _ _ _ _
      | exact LeO.none _
      | refine LeO.ite ?_ ?_
      | refine LeO.bind ?_ (fun _ => ?_)
    · intro y0 y1 y2 y3 y4 y5
      unfold spec_l02Table.l1
      repeat' first
      | (with_reducible exact ih0 _ _ _)
      | (with_reducible exact ih1 _ _ _ _ _ _)
      | (with_reducible exact LeO.refl _)
      | (with_reducible exact LeO.none _)
      | (with_reducible refine LeO.ite ?_ ?_)
      | (with_reducible refine LeO.bind ?_ (fun _ => ?_))
      | exact ih0 _ _ _
      | exact ih1 _ _ _ _ _ _
      | exact LeO.none _
      | refine LeO.ite ?_ ?_
      | refine LeO.bind ?_ (fun _ => ?_)
theorem spec_l02Table.mono : ∀ a0 k, LeO (spec_l02Table.f k a0) (spec_l02Table.f (k + 1) a0) := by
  intro a0 k
  obtain ⟨ih0, ih1⟩ := spec_l02Table.mono_l k
  unfold spec_l02Table.f
  repeat' first
      | (with_reducible exact ih0 _ _ _)
      | (with_reducible exact ih1 _ _ _ _ _ _)
      | (with_reducible exact LeO.refl _)
      | (with_reducible exact LeO.none _)
      | (with_reducible refine LeO.ite ?_ ?_)
      | (with_reducible refine LeO.bind ?_ (fun _ => ?_))
      | exact ih0 _ _ _
      | exact ih1 _ _ _ _ _ _
      | exact LeO.none _
      | refine LeO.ite ?_ ?_
      | refine LeO.bind ?_ (fun _ => ?_)
theorem spec_l02Table.Z0 {p : Prop} (h : p := by repeat (first | (with_reducible exact HR273_0.out) | (with_reducible refine Kd.C_alloc ?_ _) | (with_reducible refine Kd.C_drewN ?_ _) | (with_reducible refine Kd.C_drew ?_) | exact HR273_0.out)) : p := h
theorem spec_l02Table.Z1 {p : Prop} (h : p := by first | exact q273 | exact of_decide_eq_true (by first | (with_reducible assumption) | assumption) | (have e_ := (Kd.S_reads' HO_3.out).1; omega)) : p := h
theorem spec_l02Table.Z2 {p : Prop} (h : p := by (with_reducible repeat (first | apply Kd.S_alloc | apply Kd.S_drewN | apply Kd.S_drew)); exact HO_3.out) : p := h
theorem spec_l02Table.Z3 {p : Prop} (h : p := by first | rfl | (simp; done) | (simp only [← hji20] <;> (first | rfl | simp)) | (simp [*]; done)) : p := h
theorem spec_l02Table.Z4 {p : Prop} (h : p := by first | (with_reducible assumption) | assumption) : p := h
theorem spec_l02Table.Z5 {p : Prop} (h : p := by first | rfl | (simp; done) | (simp [*]; done)) : p := h
set_option maxHeartbeats 8000000 in
set_option maxRecDepth 100000 in
theorem spec_l02Table.calls (k : Nat) (a0 : Int) (r : List (List Int)) (w : World) (h : spec_l02Table.f k a0 = some r) :
  Calls Try.prog 174 #[.int .i64 a0] w fun e w' => ∃ v0_ : Value, e = .returned (v0_) ∧ Kd.S (Kd.slice 2 (Kd.int .i64)) 24 w' w.heap.size (fun _ => True) v0_ r ∧ Below w.heap.size w w' := by
 have HB := A_ (Below.refl w.heap.size w)
 have H : (spec_l02Table.l0 k a0 (([] : List (List Int))) 0) = some r := h
 clear h
 obtain ⟨y263, hy263⟩ : ∃ y_ : List (List Int), y_ = (([] : List (List Int))) := ⟨_, rfl⟩
 replace H : (spec_l02Table.l0 k a0 y263 0) = some r := by first | (rw [hy263]; with_reducible exact H) | (have H2_ := (Option.bind_some _ _).symm.trans H; rw [hy263]; with_reducible exact H2_) | (have H2_ := (Option.bind_some _ _).symm.trans H; with_reducible exact H2_) | with_reducible exact H | (rw [hy263]; exact H) | exact H
 have Ny263 := A_ hy263
 clear hy263
 have H' := A_ H
 clear H
 go_enter Try.func174, Try.ntmps174
 go_wp2_with (first | ((with_reducible refine gate_dst (N := 8) rfl ?_); refine Kd.S_lit (Kd.slice 2 (Kd.int .i64)) _ 24 ?hg (N := 8) ?hd (xs := ([] : List (List Int))) (inner := []) (ok := fun _ => True) (okp := fun _ => True) ?hr ?hp (fun _ hk => hk) trivial (Below.refl _ _) (Nat.le_refl _) (by simp) ?_; (case hd => rfl); (case hg => rfl); (case hr => first | (go_simp; done) | (go_simp; rfl)); (case hp => exact (Reps.none _ _)); intro v264 w2 ho3 hb hg_ hnew_; clear hg_ hnew_; (first | rw [← Ny263.out] at ho3 | (simp only [Int.reduceToNat] at ho3; rw [← Ny263.out] at ho3)); have n0_ := A_ (Kd.S_lower ho3 (below_size (el HB))); have n1_ := A_ (below_step (el HB) hb); clear HB; have HO265 := n0_; have HB := n1_; clear n0_ n1_; clear hb ho3))
 go_loopg [3, 4] k (fun kq v3 v4 w' => ∃ (x3_1 : List (List Int)) (x4_1 : Int), v4 = .int .i64 x4_1 ∧ Aside0 (spec_l02Table.l0 kq a0 x3_1 x4_1 = some r) ∧ Aside0 (kq ≤ k) ∧ Aside0 (Kd.S (Kd.slice 2 (Kd.int .i64)) 24 w' w.heap.size (fun _ => True) v3 x3_1) ∧ Aside0 (Below w.heap.size w w'))
 case atStart => exact ⟨(y263), (0), spec_l02Table.Z5, H', ⟨Nat.le_refl _⟩, ⟨by (with_reducible repeat (first | apply Kd.S_alloc | apply Kd.S_drewN | apply Kd.S_drew)); exact HO265.out⟩, ⟨el HB⟩⟩
 case round =>
  clear H'
  try clear c1
  try clear p2
  obtain ⟨x3_1, x4_1, rfl, HA, HK1, HO_3, HB⟩ := hrel
  cases gk with
  | zero => exact absurd HA.out (by simp [spec_l02Table.l0])
  | succ k1 =>
   have H := HA.out
   clear HA
   simp only [spec_l02Table.l0] at H
   by_cases c4 : x4_1 ≤ a0
   ·rw [if_pos c4] at H
    have c4b0 : decide (x4_1 ≤ a0) = true := decide_eq_true c4
    clear c4
    obtain ⟨ji5, hji5⟩ : ∃ j_ : Int, (wrap64 (a0 + 2)) = j_ := ⟨_, rfl⟩
    replace H : (if 0 ≤ (ji5) then (if (ji5 : Int).toNat ≤ 35184372088832 then ((some (List.replicate (ji5 : Int).toNat 0 : List Int)).bind fun y266 => (if x4_1 = 0 then (if 0 < (y266.length : Int) then (if x3_1.length < 5864062014805 then (spec_l02Table.l0 k1 a0 (x3_1 ++ [(y266.set (0 : Int).toNat 1)]) (wrap64 (x4_1 + 1))) else (none)) else (none)) else (spec_l02Table.l1 k1 a0 x3_1 x4_1 y266 0 x4_1))) else (none)) else (none)) = some r := by first | (rw [hji5] at H; exact H) | (simp only [hji5] at H ⊢; exact H)
    have hji5w : (IntKind.i64.wrap (a0 + 2)) = ji5 := (i64_w _).trans hji5
    by_cases c6 : 0 ≤ (ji5)
    rotate_left
    ·rw [if_neg c6] at H
     exact absurd H (by simp)
    rw [if_pos c6] at H
    have c6b0 := eq_true c6
    have c6b1 : decide (0 ≤ (ji5)) = true := decide_eq_true c6
    clear c6
    by_cases c7 : (ji5 : Int).toNat ≤ 35184372088832
    rotate_left
    ·rw [if_neg c7] at H
     exact absurd H (by simp)
    rw [if_pos c7] at H
    have c7b0 := eq_true c7
    have c7b1 : decide ((ji5 : Int).toNat ≤ 35184372088832) = true := decide_eq_true c7
    clear c7
    obtain ⟨y266, hy266⟩ : ∃ y_ : List Int, y_ = (List.replicate (ji5 : Int).toNat 0) := ⟨_, rfl⟩
    replace H : (if x4_1 = 0 then (if 0 < (y266.length : Int) then (if x3_1.length < 5864062014805 then (spec_l02Table.l0 k1 a0 (x3_1 ++ [(y266.set (0 : Int).toNat 1)]) (wrap64 (x4_1 + 1))) else (none)) else (none)) else (spec_l02Table.l1 k1 a0 x3_1 x4_1 y266 0 x4_1)) = some r := by first | (rw [hy266]; with_reducible exact H) | (have H2_ := (Option.bind_some _ _).symm.trans H; rw [hy266]; with_reducible exact H2_) | (have H2_ := (Option.bind_some _ _).symm.trans H; with_reducible exact H2_) | with_reducible exact H | (rw [hy266]; exact H) | exact H
    have Ny266 := A_ hy266
    clear hy266
    by_cases c8 : x4_1 = 0
    ·rw [if_pos c8] at H
     have c8b0 : (x4_1 == 0) = true := beq_iff_eq.mpr c8
     have c8b1 : (x4_1 != 0) = false := bne_eq_false_iff_eq.mpr c8
     clear c8
     by_cases c9 : 0 < (y266.length : Int)
     rotate_left
     ·rw [if_neg c9] at H
      exact absurd H (by simp)
     rw [if_pos c9] at H
     have c9b0 : decide (0 < (y266.length : Int)) = true := decide_eq_true c9
     have c9b1 : decide (0 < y266.length) = true := decide_eq_true (by omega)
     clear c9
     obtain ⟨y269, hy269⟩ : ∃ y_ : List Int, y_ = (y266.set (0 : Int).toNat 1) := ⟨_, rfl⟩
     replace H : (if x3_1.length < 5864062014805 then (spec_l02Table.l0 k1 a0 (x3_1 ++ [y269]) (wrap64 (x4_1 + 1))) else (none)) = some r := by first | (rw [hy269]; with_reducible exact H) | (have H2_ := (Option.bind_some _ _).symm.trans H; rw [hy269]; with_reducible exact H2_) | (have H2_ := (Option.bind_some _ _).symm.trans H; with_reducible exact H2_) | with_reducible exact H | (rw [hy269]; exact H) | exact H
     have Ny269 := A_ hy269
     clear hy269
     by_cases c11 : x3_1.length < 5864062014805
     rotate_left
     ·rw [if_neg c11] at H
      exact absurd H (by simp)
     rw [if_pos c11] at H
     have LMc11 := A_ c11
     clear c11
     obtain ⟨y270, hy270⟩ : ∃ y_ : List (List Int), y_ = (x3_1 ++ [y269]) := ⟨_, rfl⟩
     replace H : (spec_l02Table.l0 k1 a0 y270 (wrap64 (x4_1 + 1))) = some r := by first | (rw [hy270]; with_reducible exact H) | (have H2_ := (Option.bind_some _ _).symm.trans H; rw [hy270]; with_reducible exact H2_) | (have H2_ := (Option.bind_some _ _).symm.trans H; with_reducible exact H2_) | with_reducible exact H | (rw [hy270]; exact H) | exact H
     have Ny270 := A_ hy270
     clear hy270
     have H' := A_ H
     clear H
     go_wp2_with (first | ((with_reducible refine gate_dst (N := 16) rfl ?_); refine Kd.R_make (Kd.int .i64) _ 2 rfl (N := 16) rfl 24 _ _ rfl ji5 rfl rfl Try.underlying24 (.int .i64 0) 8 info2 rfl (by decide) (by omega) 0 (ok := fun _ => True) (okp := fun _ => True) rfl (fun _ hk => hk) trivial (of_decide_eq_true spec_l02Table.Z4) (Nat.le_trans (Nat.mul_le_mul_right _ (of_decide_eq_true spec_l02Table.Z4 : ji5.toNat ≤ 35184372088832)) (by omega)) (Below.refl _ _) (Nat.le_refl _) ?_; intro v267 w12 ho13 hb hg_ hnew_; clear hg_ hnew_; (first | rw [← Ny266.out] at ho13 | (simp only [Int.reduceToNat] at ho13; rw [← Ny266.out] at ho13)); have n0_ := A_ (Kd.S_elder' spec_l02Table.Z2 (Kd.R_base ho13) hb); have n1_ := A_ (Kd.R_lower ho13 (below_size (el HB))); have n2_ := A_ (below_step (el HB) hb); clear HO_3; clear HB; have HO_3 := n0_; have HO268 := n1_; have HB := n2_; clear n0_ n1_ n2_; clear hb ho13; have p10 : 0 ≤ (0 : Int) := (by omega); have q10 : (0 : Int) < ((y266.length : Int) : Int) := of_decide_eq_true spec_l02Table.Z4; have qi10 : (0 < y266.length) = True := eq_true (by omega); obtain ⟨go10, co10, eo10, gb10, gl10, cl10, HG10⟩ := Kd.R_form HO268.out (by omega); (first | cases eo10 | (injection eo10 with ea_ en_ ec_; (first | subst ea_ | (injection ea_ with ea_; subst ea_)); subst ec_; clear en_)); have GB10 := A_ gb10; have GG10 := A_ HG10; clear gb10 gl10 HG10; obtain ⟨hx10_0, hf10_0⟩ := Kd.R_celln 0 HO268.out (0 : Int) p10 q10; (try rw [show ((0 : Int)).toNat = 0 from rfl] at hx10_0); (try simp only [Nat.reduceMul, Nat.zero_mul, Nat.zero_add, Nat.reduceAdd] at hx10_0); (try rw [show ((0 : Int)).toNat = 0 from rfl] at hf10_0); (try simp only [Nat.reduceMul, Nat.zero_mul, Nat.zero_add, Nat.reduceAdd] at hf10_0); replace p10 := eq_true p10; replace q10 := eq_true q10; obtain ⟨hy14_, hz14_⟩ := Kd.R_celln 0 HO268.out (0 : Int) (by omega) (of_decide_eq_true spec_l02Table.Z4); (try simp only [Int.reduceToNat, Int.toNat_zero, Int.toNat_ofNat, Nat.reduceMul, Nat.zero_mul, Nat.zero_add] at hy14_ hz14_); (try rw [show ((0 : Int)).toNat = 0 from rfl] at hy14_); (try rw [show ((0 : Int)).toNat = 0 from rfl] at hz14_); have HP14 := Kd.R_putg HO268.out (0 : Int) 1) | ((with_reducible refine gate_store (t := 2) (p := 20) rfl ?_); refine store_event (t := 2) (p := 20) (v := ?vo_w15) (w1 := (w12.setCell ⟨go10, (0 : Int).toNat, none⟩ (.int .i64 1))) ?hg ?ho ?hn ?hr ?_; (case ho => rfl); (case hg => rfl); (case hn => rfl); (case hr => first | (go_simp; done) | (go_simp; rfl)); intro w15 hw; have hg : w12.grownBy w15 (some go10) := (by rw [hw]; exact HP14.2); have hp_ : Kd.R (Kd.int .i64) 2 w15 w.heap.size (fun _ => True) (.slice (some ⟨go10, 0, none⟩) y266.length co10) y269 := (by rw [hw, Ny269.out]; exact HP14.1); clear HP14; have n0_ := A_ (Kd.S_after (v := (.slice (some ⟨go10, 0, none⟩) y266.length co10)) (v1 := (.slice (some ⟨go10, 0, none⟩) y266.length co10)) (ok := (fun _ => True)) spec_l02Table.Z2 hg (.inl rfl)); have n1_ := A_ (hp_); have n2_ := A_ ((by rw [hw]; exact below_set (HB.out) GB10.out : Below w.heap.size w w15)); clear HO_3; clear HO268; clear HB; have HO_3 := n0_; have HO268 := n1_; have HB := n2_; clear n0_ n1_ n2_; clear hg hw hp_) | ((with_reducible refine gate_builtin (b := .append) (xs := #[.tmp 45, .tmp 47]) rfl ?_); at_builtin; refine Kd.S_append (Kd.slice 2 (Kd.int .i64)) (w0 := w) w.heap.size rfl (.tmp 45) (.tmp 47) 127 24 (.slice none 0 0) 24 rfl Try.underlying127 info24 rfl (by decide) (by omega) u3 x3_1 y269 [.slice (some ⟨go10, 0, none⟩) y266.length co10] (fun _ => True) (fun k_ => some k_ = (.slice (some ⟨go10, 0, none⟩) y266.length co10 : Value).ownBlock) rfl rfl ?aP (fun k_ hk_ => ((Kd.R_mono (ok' := fun k_ => ((fun _ => True)) k_ ∧ some k_ ≠ (u3 : Value).ownBlock) (Kd.R_apart' (HO268.out) (Kd.S_typed HO_3.out) (by decide)) (fun k_ hk => ⟨trivial, hk.2⟩))).1 k_ hk_.symm) ?aF ?aO ?aB ?aS ?aL ?_; (case aP => exact Kd.M_row (Kd.R_mono (Kd.R_tight rfl (Kd.R_mono (ok' := fun k_ => ((fun _ => True)) k_ ∧ some k_ ≠ (u3 : Value).ownBlock) (Kd.R_apart' (HO268.out) (Kd.S_typed HO_3.out) (by decide)) (fun k_ hk => ⟨trivial, hk.2⟩))) (fun _ h_ => h_))); (case aB => exact (el HB)); (case aF => exact (fun _ _ => trivial)); (case aO => exact (by (with_reducible repeat (first | apply Kd.S_alloc | apply Kd.S_drewN | apply Kd.S_drew)); exact Kd.S_mono HO_3.out (fun k_ hk => ⟨trivial, fun e_ => hk.2 e_⟩))); (case aS => exact (below_size (el HB))); (case aL => have := LMc11.out; omega); intro v271 w16 ho hb hg hat; rw [← Ny270.out] at ho; have n0_ := A_ (hb); have n1_ := A_ (ho); clear HB; clear HO_3; clear HO268; have HB := n0_; have HO272 := n1_; clear n0_ n1_; clear ho hb hg hat))
     go_roundg k1
     case measure => have := HK1.out; omega
     case rel => exact ⟨(y270), (wrap64 (x4_1 + 1)), spec_l02Table.Z5, H', ⟨by have := HK1.out; omega⟩, ⟨by (with_reducible repeat (first | apply Kd.S_alloc | apply Kd.S_drewN | apply Kd.S_drew)); first | exact HO272.out | (have h_ := HO272.out; simpa only [ownBlock_slice] using h_)⟩, ⟨el HB⟩⟩
    ·rw [if_neg c8] at H
     have c8b0 : (x4_1 == 0) = false := beq_eq_false_iff_ne.mpr c8
     have c8b1 : (x4_1 != 0) = true := bne_iff_ne.mpr c8
     have H' := A_ H
     clear H
     go_wp2_with (first | ((with_reducible refine gate_dst (N := 16) rfl ?_); refine Kd.R_make (Kd.int .i64) _ 2 rfl (N := 16) rfl 24 _ _ rfl ji5 rfl rfl Try.underlying24 (.int .i64 0) 8 info2 rfl (by decide) (by omega) 0 (ok := fun _ => True) (okp := fun _ => True) rfl (fun _ hk => hk) trivial (of_decide_eq_true spec_l02Table.Z4) (Nat.le_trans (Nat.mul_le_mul_right _ (of_decide_eq_true spec_l02Table.Z4 : ji5.toNat ≤ 35184372088832)) (by omega)) (Below.refl _ _) (Nat.le_refl _) ?_; intro v267 w17 ho18 hb hg_ hnew_; clear hg_ hnew_; (first | rw [← Ny266.out] at ho18 | (simp only [Int.reduceToNat] at ho18; rw [← Ny266.out] at ho18)); have n0_ := A_ (Kd.S_elder' spec_l02Table.Z2 (Kd.R_base ho18) hb); have n1_ := A_ (Kd.R_lower ho18 (below_size (el HB))); have n2_ := A_ (below_step (el HB) hb); clear HO_3; clear HB; have HO_3 := n0_; have HO268 := n1_; have HB := n2_; clear n0_ n1_ n2_; clear hb ho18))
     go_loopg [6, 7] k1 (fun kq v6 v7 w' => ∃ (x5_2 : List Int) (x6_2 : Int) (x7_2 : Int), v6 = .int .i64 x6_2 ∧ v7 = .int .i64 x7_2 ∧ Aside0 (spec_l02Table.l1 kq a0 x3_1 x4_1 x5_2 x6_2 x7_2 = some r) ∧ Aside0 (kq ≤ k1) ∧ Aside0 (Kd.S (Kd.slice 2 (Kd.int .i64)) 24 w' w.heap.size (fun k_ => some k_ ≠ (v267 : Value).ownBlock) u3 x3_1) ∧ Aside0 (Kd.R (Kd.int .i64) 2 w' w.heap.size (fun _ => True) v267 x5_2) ∧ Aside0 (Below w.heap.size w w'))
     case atStart => exact ⟨(y266), (0), (x4_1), spec_l02Table.Z5, spec_l02Table.Z5, H', ⟨Nat.le_refl _⟩, ⟨by (with_reducible repeat (first | apply Kd.S_alloc | apply Kd.S_drewN | apply Kd.S_drew)); exact Kd.S_mono HO_3.out (fun _ hk => hk.2)⟩, ⟨ea HO268⟩, ⟨el HB⟩⟩
     case round =>
      clear H'
      try clear c1
      try clear p1
      try clear q1
      try clear hx1
      try clear qi1
      try clear hf1
      try clear p2
      try clear c4
      try clear c4b0
      try clear c6
      try clear c6b0
      try clear c6b1
      try clear p6
      try clear c7
      try clear c7b0
      try clear c7b1
      try clear c8
      try clear c8b0
      try clear c8b1
      try clear c9
      try clear c9b0
      try clear c9b1
      try clear p10
      try clear q10
      try clear hx10
      try clear qi10
      try clear hf10
      try clear c11
      try clear c17
      try clear hx10_0
      try clear p10
      try clear p2
      try clear q10
      obtain ⟨x5_2, x6_2, x7_2, rfl, rfl, HA, HK2, HO_3, HO_5, HB⟩ := hrel
      cases gk with
      | zero => exact absurd HA.out (by simp [spec_l02Table.l1])
      | succ k2 =>
       have H := HA.out
       clear HA
       simp only [spec_l02Table.l1] at H
       by_cases c19 : x7_2 ≥ 0
       ·rw [if_pos c19] at H
        have c19b0 : decide (0 ≤ x7_2) = true := decide_eq_true c19
        clear c19
        obtain ⟨ji20, hji20⟩ : ∃ j_ : Int, (wrap64 (x4_1 - 1)) = j_ := ⟨_, rfl⟩
        replace H : (if 0 ≤ (ji20) then (if (ji20) < (x3_1.length : Int) then (if 0 ≤ x7_2 then (if x7_2 < ((rd_L2 x3_1 (ji20)).length : Int) then (if (wrap64 (x7_2 + 1)) ≤ a0 then (if 0 ≤ (wrap64 (x7_2 + 1)) then (if (wrap64 (x7_2 + 1)) < (x5_2.length : Int) then (spec_l02Table.l1 k2 a0 x3_1 x4_1 (x5_2.set ((wrap64 (x7_2 + 1)) : Int).toNat (wrap64 (x6_2 + (rd (rd_L2 x3_1 (ji20)) x7_2)))) (wrap64 (x6_2 + (rd (rd_L2 x3_1 (ji20)) x7_2))) (wrap64 (x7_2 - 1))) else (none)) else (none)) else (spec_l02Table.l1 k2 a0 x3_1 x4_1 x5_2 (wrap64 (x6_2 + (rd (rd_L2 x3_1 (ji20)) x7_2))) (wrap64 (x7_2 - 1)))) else (none)) else (none)) else (none)) else (none)) = some r := by first | (rw [hji20] at H; exact H) | (simp only [hji20] at H ⊢; exact H)
        have hji20w : (IntKind.i64.wrap (x4_1 - 1)) = ji20 := (i64_w _).trans hji20
        by_cases c21 : 0 ≤ (ji20)
        rotate_left
        ·rw [if_neg c21] at H
         exact absurd H (by simp)
        rw [if_pos c21] at H
        have c21b0 : decide (0 ≤ (ji20)) = true := decide_eq_true c21
        clear c21
        by_cases c22 : (ji20) < (x3_1.length : Int)
        rotate_left
        ·rw [if_neg c22] at H
         exact absurd H (by simp)
        rw [if_pos c22] at H
        have c22b0 : decide ((ji20) < (x3_1.length : Int)) = true := decide_eq_true c22
        clear c22
        by_cases c23 : 0 ≤ x7_2
        rotate_left
        ·rw [if_neg c23] at H
         exact absurd H (by simp)
        rw [if_pos c23] at H
        have c23b0 : decide (0 ≤ x7_2) = true := decide_eq_true c23
        clear c23
        by_cases c24 : x7_2 < ((rd_L2 x3_1 (ji20)).length : Int)
        rotate_left
        ·rw [if_neg c24] at H
         exact absurd H (by simp)
        rw [if_pos c24] at H
        have c24b0 : decide (x7_2 < ((rd_L2 x3_1 (ji20)).length : Int)) = true := decide_eq_true c24
        clear c24
        by_cases c25 : (wrap64 (x7_2 + 1)) ≤ a0
        ·rw [if_pos c25] at H
         have c25b0 : decide ((wrap64 (x7_2 + 1)) ≤ a0) = true := decide_eq_true c25
         clear c25
         obtain ⟨ji26, hji26⟩ : ∃ j_ : Int, (wrap64 (x7_2 + 1)) = j_ := ⟨_, rfl⟩
         replace H : (if 0 ≤ (ji26) then (if (ji26) < (x5_2.length : Int) then (spec_l02Table.l1 k2 a0 x3_1 x4_1 (x5_2.set ((ji26) : Int).toNat (wrap64 (x6_2 + (rd (rd_L2 x3_1 (ji20)) x7_2)))) (wrap64 (x6_2 + (rd (rd_L2 x3_1 (ji20)) x7_2))) (wrap64 (x7_2 - 1))) else (none)) else (none)) = some r := by first | (rw [hji26] at H; exact H) | (simp only [hji26] at H ⊢; exact H)
         (try rw [hji26] at c25b0)
         have hji26w : (IntKind.i64.wrap (x7_2 + 1)) = ji26 := (i64_w _).trans hji26
         by_cases c27 : 0 ≤ (ji26)
         rotate_left
         ·rw [if_neg c27] at H
          exact absurd H (by simp)
         rw [if_pos c27] at H
         have c27b0 : decide (0 ≤ (ji26)) = true := decide_eq_true c27
         clear c27
         by_cases c28 : (ji26) < (x5_2.length : Int)
         rotate_left
         ·rw [if_neg c28] at H
          exact absurd H (by simp)
         rw [if_pos c28] at H
         have c28b0 : decide ((ji26) < (x5_2.length : Int)) = true := decide_eq_true c28
         clear c28
         obtain ⟨y275, hy275⟩ : ∃ y_ : List Int, y_ = (x5_2.set ((ji26) : Int).toNat (wrap64 (x6_2 + (rd (rd_L2 x3_1 (ji20)) x7_2)))) := ⟨_, rfl⟩
         replace H : (spec_l02Table.l1 k2 a0 x3_1 x4_1 y275 (wrap64 (x6_2 + (rd (rd_L2 x3_1 (ji20)) x7_2))) (wrap64 (x7_2 - 1))) = some r := by first | (rw [hy275]; with_reducible exact H) | (have H2_ := (Option.bind_some _ _).symm.trans H; rw [hy275]; with_reducible exact H2_) | (have H2_ := (Option.bind_some _ _).symm.trans H; with_reducible exact H2_) | with_reducible exact H | (rw [hy275]; exact H) | exact H
         have Ny275 := A_ hy275
         clear hy275
         have H' := A_ H
         clear H
         obtain ⟨Ao30, co30, eo30⟩ := Kd.S_slice HO_3.out
         subst eo30
         have p273 : 0 ≤ ((ji20) : Int) := of_decide_eq_true spec_l02Table.Z4
         have q273 : (ji20) < (x3_1.length : Int) := of_decide_eq_true spec_l02Table.Z4
         obtain ⟨ad273, A273_0, c273_0, e273, hx273_0, hl273_0, hi273_0⟩ := at_L2 (Kd.S_reads' HO_3.out).2.2 (ji20) p273 q273
         cases e273
         obtain ⟨ce273, hce273, hMe273, hcc273⟩ := Kd.S_get HO_3.out [] (ji20) p273 spec_l02Table.Z1
         obtain ⟨ve273_0, rfl, ge273_0⟩ := hMe273
         have hv273_0 := hcc273 0 _ rfl
         rw [Nat.add_zero, show ((Kd.slice 2 (Kd.int .i64))).sz = 1 from rfl, Nat.mul_one] at hv273_0
         replace hv273_0 := Option.some.inj (hv273_0.symm.trans hx273_0)
         rw [hv273_0] at ge273_0
         have HL273_0 := A_ (show Kd.R (Kd.int .i64) 2 _ _ _ _ (rd_L2 x3_1 (ji20)) from ge273_0)
         clear hv273_0 ge273_0
         clear hcc273 hce273
         have HR273_0 := A_ hi273_0
         have HC273_0 := A_ hl273_0
         clear hi273_0 hl273_0
         replace p273 := eq_true p273
         replace q273 := eq_true q273
         have p274 : 0 ≤ (x7_2 : Int) := of_decide_eq_true spec_l02Table.Z4
         have q274 : x7_2 < ((rd_L2 x3_1 (ji20)).length : Int) := of_decide_eq_true spec_l02Table.Z4
         obtain ⟨ad274, e274, hx274_0⟩ := Kd.at_int spec_l02Table.Z0 x7_2 p274 q274
         cases e274
         replace p274 := eq_true p274
         replace q274 := eq_true q274
         have p29 : 0 ≤ ((ji26) : Int) := of_decide_eq_true spec_l02Table.Z4
         have q29 : ((ji26) : Int) < ((x5_2.length : Int) : Int) := of_decide_eq_true spec_l02Table.Z4
         obtain ⟨go29, co29, eo29, gb29, gl29, cl29, HG29⟩ := Kd.R_form HO_5.out (by omega)
         (first | cases eo29 | (injection eo29 with ea_ en_ ec_; (first | subst ea_ | (injection ea_ with ea_; subst ea_)); subst ec_; clear en_))
         have GB29 := A_ gb29
         have GG29 := A_ HG29
         clear gb29 gl29 HG29
         obtain ⟨hx29_0, hf29_0⟩ := Kd.R_celln 0 HO_5.out ((ji26) : Int) p29 q29
         replace p29 := eq_true p29
         replace q29 := eq_true q29
         have HP31 := Kd.R_putg HO_5.out ((ji26) : Int) (wrap64 (x6_2 + (rd (rd_L2 x3_1 (ji20)) x7_2)))
         go_wp2_with (first | ((with_reducible refine gate_store (t := 2) (p := 44) rfl ?_); refine store_event (t := 2) (p := 44) (v := ?vo_w32) (w1 := (wr.setCell ⟨go29, ((ji26) : Int).toNat, none⟩ (.int .i64 (wrap64 (x6_2 + (rd (rd_L2 x3_1 (ji20)) x7_2)))))) ?hg ?ho ?hn ?hr ?_; (case ho => rfl); (case hg => rfl); (case hn => rfl); (case hr => first | (go_simp; done) | (go_simp; rfl)); intro w32 hw; have hg : wr.grownBy w32 (some go29) := (by rw [hw]; exact HP31.2); have hp_ : Kd.R (Kd.int .i64) 2 w32 w.heap.size (fun _ => True) (.slice (some ⟨go29, 0, none⟩) x5_2.length co29) y275 := (by rw [hw, Ny275.out]; exact HP31.1); clear HP31; have n0_ := A_ (Kd.S_after (v := (.slice (some ⟨go29, 0, none⟩) x5_2.length co29)) (v1 := (.slice (some ⟨go29, 0, none⟩) x5_2.length co29)) (ok := (fun _ => True)) (by (with_reducible repeat (first | apply Kd.S_alloc | apply Kd.S_drewN | apply Kd.S_drew)); exact Kd.S_mono HO_3.out (fun _ hk => ⟨trivial, hk⟩)) hg (.inl rfl)); have n1_ := A_ (hp_); have n2_ := A_ (Kd.R_after (v := (.slice (some ⟨go29, 0, none⟩) x5_2.length co29)) (v1 := (.slice (some ⟨go29, 0, none⟩) x5_2.length co29)) (ok := (fun k_ => some k_ ≠ (.slice (some ad273) x3_1.length co30 : Value).ownBlock)) (by (with_reducible repeat (first | apply Kd.R_alloc | apply Kd.R_drewN | apply Kd.R_drew)); exact Kd.R_mono HL273_0.out (fun _ hk => ⟨hk.2, hk.1⟩)) hg (.inl rfl)); have n3_ := A_ ((by rw [hw]; exact below_set (HB.out) GB29.out : Below w.heap.size w w32)); clear HO_3; clear HO_5; clear HL273_0; clear HB; have HO_3 := n0_; have HO_5 := n1_; have HL273_0 := n2_; have HB := n3_; clear n0_ n1_ n2_ n3_; clear hg hw hp_))
         go_roundg k2
         case measure => have := HK1.out; have := HK2.out; omega
         case rel => exact ⟨(y275), (wrap64 (x6_2 + (rd (rd_L2 x3_1 (ji20)) x7_2))), (wrap64 (x7_2 - 1)), spec_l02Table.Z3, spec_l02Table.Z5, H', ⟨by have := HK1.out; have := HK2.out; omega⟩, ⟨by (with_reducible repeat (first | apply Kd.S_alloc | apply Kd.S_drewN | apply Kd.S_drew)); exact Kd.S_mono HO_3.out (fun _ hk => hk.2)⟩, ⟨es HO_5⟩, ⟨el HB⟩⟩
        ·rw [if_neg c25] at H
         have c25b0 : decide ((wrap64 (x7_2 + 1)) ≤ a0) = false := decide_eq_false c25
         clear c25
         have H' := A_ H
         clear H
         obtain ⟨Ao33, co33, eo33⟩ := Kd.S_slice HO_3.out
         subst eo33
         have p273 : 0 ≤ ((ji20) : Int) := of_decide_eq_true spec_l02Table.Z4
         have q273 : (ji20) < (x3_1.length : Int) := of_decide_eq_true spec_l02Table.Z4
         obtain ⟨ad273, A273_0, c273_0, e273, hx273_0, hl273_0, hi273_0⟩ := at_L2 (Kd.S_reads' HO_3.out).2.2 (ji20) p273 q273
         cases e273
         obtain ⟨ce273, hce273, hMe273, hcc273⟩ := Kd.S_get HO_3.out [] (ji20) p273 spec_l02Table.Z1
         obtain ⟨ve273_0, rfl, ge273_0⟩ := hMe273
         have hv273_0 := hcc273 0 _ rfl
         rw [Nat.add_zero, show ((Kd.slice 2 (Kd.int .i64))).sz = 1 from rfl, Nat.mul_one] at hv273_0
         replace hv273_0 := Option.some.inj (hv273_0.symm.trans hx273_0)
         rw [hv273_0] at ge273_0
         have HL273_0 := A_ (show Kd.R (Kd.int .i64) 2 _ _ _ _ (rd_L2 x3_1 (ji20)) from ge273_0)
         clear hv273_0 ge273_0
         clear hcc273 hce273
         have HR273_0 := A_ hi273_0
         have HC273_0 := A_ hl273_0
         clear hi273_0 hl273_0
         replace p273 := eq_true p273
         replace q273 := eq_true q273
         have p274 : 0 ≤ (x7_2 : Int) := of_decide_eq_true spec_l02Table.Z4
         have q274 : x7_2 < ((rd_L2 x3_1 (ji20)).length : Int) := of_decide_eq_true spec_l02Table.Z4
         obtain ⟨ad274, e274, hx274_0⟩ := Kd.at_int spec_l02Table.Z0 x7_2 p274 q274
         cases e274
         replace p274 := eq_true p274
         replace q274 := eq_true q274
         go_wp2
         go_roundg k2
         case measure => have := HK1.out; have := HK2.out; omega
         case rel => exact ⟨(x5_2), (wrap64 (x6_2 + (rd (rd_L2 x3_1 (ji20)) x7_2))), (wrap64 (x7_2 - 1)), spec_l02Table.Z3, spec_l02Table.Z5, H', ⟨by have := HK1.out; have := HK2.out; omega⟩, ⟨by (with_reducible repeat (first | apply Kd.S_alloc | apply Kd.S_drewN | apply Kd.S_drew)); first | exact HO_3.out | (have h_ := HO_3.out; simpa only [ownBlock_slice] using h_)⟩, ⟨es HO_5⟩, ⟨el HB⟩⟩
       ·rw [if_neg c19] at H
        have c19b0 : decide (0 ≤ x7_2) = false := decide_eq_false c19
        clear c19
        by_cases c34 : x3_1.length < 5864062014805
        rotate_left
        ·rw [if_neg c34] at H
         exact absurd H (by simp)
        rw [if_pos c34] at H
        have LMc34 := A_ c34
        clear c34
        obtain ⟨y276, hy276⟩ : ∃ y_ : List (List Int), y_ = (x3_1 ++ [x5_2]) := ⟨_, rfl⟩
        replace H : (spec_l02Table.l0 k2 a0 y276 (wrap64 (x4_1 + 1))) = some r := by first | (rw [hy276]; with_reducible exact H) | (have H2_ := (Option.bind_some _ _).symm.trans H; rw [hy276]; with_reducible exact H2_) | (have H2_ := (Option.bind_some _ _).symm.trans H; with_reducible exact H2_) | with_reducible exact H | (rw [hy276]; exact H) | exact H
        have Ny276 := A_ hy276
        clear hy276
        have H' := A_ H
        clear H
        obtain ⟨Ao36, co36, eo36⟩ := Kd.R_slice HO_5.out
        subst eo36
        go_wp2_with (first | ((with_reducible refine gate_builtin (b := .append) (xs := #[.tmp 45, .tmp 47]) rfl ?_); at_builtin; refine Kd.S_append (Kd.slice 2 (Kd.int .i64)) (w0 := w) w.heap.size rfl (.tmp 45) (.tmp 47) 127 24 (.slice none 0 0) 24 rfl Try.underlying127 info24 rfl (by decide) (by omega) u3 x3_1 x5_2 [.slice Ao36 x5_2.length co36] (fun _ => True) (fun k_ => some k_ = (.slice Ao36 x5_2.length co36 : Value).ownBlock) rfl rfl ?aP (fun k_ hk_ => ((Kd.R_mono (ok' := fun k_ => ((fun _ => True)) k_ ∧ some k_ ≠ (u3 : Value).ownBlock) (Kd.R_apart' (HO_5.out) (Kd.S_typed HO_3.out) (by decide)) (fun k_ hk => ⟨trivial, hk.2⟩))).1 k_ hk_.symm) ?aF ?aO ?aB ?aS ?aL ?_; (case aP => exact Kd.M_row (Kd.R_mono (Kd.R_tight rfl (Kd.R_mono (ok' := fun k_ => ((fun _ => True)) k_ ∧ some k_ ≠ (u3 : Value).ownBlock) (Kd.R_apart' (HO_5.out) (Kd.S_typed HO_3.out) (by decide)) (fun k_ hk => ⟨trivial, hk.2⟩))) (fun _ h_ => h_))); (case aB => exact (el HB)); (case aF => exact (fun _ _ => trivial)); (case aO => exact (by (with_reducible repeat (first | apply Kd.S_alloc | apply Kd.S_drewN | apply Kd.S_drew)); exact Kd.S_mono HO_3.out (fun k_ hk => ⟨trivial, fun e_ => hk e_⟩))); (case aS => exact (below_size (el HB))); (case aL => have := LMc34.out; omega); intro v277 w35 ho hb hg hat; rw [← Ny276.out] at ho; have n0_ := A_ (hb); have n1_ := A_ (ho); clear HB; clear HO_3; clear HO_5; have HB := n0_; have HO278 := n1_; clear n0_ n1_; clear ho hb hg hat))
        go_roundg k2
        case measure => have := HK1.out; have := HK2.out; omega
        case rel => exact ⟨(y276), (wrap64 (x4_1 + 1)), spec_l02Table.Z5, H', ⟨by have := HK1.out; have := HK2.out; omega⟩, ⟨by (with_reducible repeat (first | apply Kd.S_alloc | apply Kd.S_drewN | apply Kd.S_drew)); first | exact HO278.out | (have h_ := HO278.out; simpa only [ownBlock_slice] using h_)⟩, ⟨el HB⟩⟩
   ·rw [if_neg c4] at H
    have c4b0 : decide (x4_1 ≤ a0) = false := decide_eq_false c4
    clear c4
    obtain rfl := Option.some.inj H
    go_wp2
    go_ret
    exact ⟨_, er, by (with_reducible repeat (first | apply Kd.S_alloc | apply Kd.S_drewN | apply Kd.S_drew)); exact HO_3.out, el HB⟩

/-! ### spec_l02Rank: function 164 -/
mutual
def spec_l02Rank.l0 : Nat → Int → List (List Int) → Int → Int → Int → List Int → Option (Int)
  | 0, _, _, _, _, _, _ => none
  | k + 1, x3, x4, x5, x6, x7, x280000 => if x7 < x3 then (spec_l02Rank.l1 k x3 x4 x5 x6 x7 0 x280000) else (some x5)
def spec_l02Rank.l1 : Nat → Int → List (List Int) → Int → Int → Int → Int → List Int → Option (Int)
  | 0, _, _, _, _, _, _, _ => none
  | k + 1, x3, x4, x5, x6, x7, x8, x280000 => if 0 ≤ x7 then (if x7 < (x280000.length : Int) then (if x8 < (rd x280000 x7) then (if 0 ≤ (wrap64 ((wrap64 (x3 - x7)) - 1)) then (if (wrap64 ((wrap64 (x3 - x7)) - 1)) < (x4.length : Int) then (if 0 ≤ (wrap64 ((wrap64 (x6 - 1)) + x8)) then (if (wrap64 ((wrap64 (x6 - 1)) + x8)) < ((rd_L2 x4 (wrap64 ((wrap64 (x3 - x7)) - 1))).length : Int) then (spec_l02Rank.l1 k x3 x4 (wrap64 (x5 + (rd (rd_L2 x4 (wrap64 ((wrap64 (x3 - x7)) - 1))) (wrap64 ((wrap64 (x6 - 1)) + x8))))) x6 x7 (wrap64 (x8 + 1)) x280000) else (none)) else (none)) else (none)) else (none)) else (spec_l02Rank.l0 k x3 x4 x5 (wrap64 ((wrap64 (x6 - 1)) + (rd x280000 x7))) (wrap64 (x7 + 1)) x280000)) else (none)) else (none)
end
def spec_l02Rank.f (k : Nat) (l0_0 : List Int) : Option (Int) := (spec_l01N.f l0_0).bind fun t280 => ((spec_l02Table.f k t280).bind fun t281 => (spec_l02Rank.l0 k t280 t281 0 1 0 l0_0))
theorem spec_l02Rank.mono_l : ∀ k, (∀ y0 y1 y2 y3 y4 y5, LeO (spec_l02Rank.l0 k y0 y1 y2 y3 y4 y5) (spec_l02Rank.l0 (k + 1) y0 y1 y2 y3 y4 y5)) ∧ (∀ y0 y1 y2 y3 y4 y5 y6, LeO (spec_l02Rank.l1 k y0 y1 y2 y3 y4 y5 y6) (spec_l02Rank.l1 (k + 1) y0 y1 y2 y3 y4 y5 y6))
  | 0 => ⟨fun _ _ _ _ _ _ r h => by simp [spec_l02Rank.l0] at h, fun _ _ _ _ _ _ _ r h => by simp [spec_l02Rank.l1] at h⟩
  | k + 1 => by
    obtain ⟨ih0, ih1⟩ := spec_l02Rank.mono_l k
    refine ⟨?_, ?_⟩
    · intro y0 y1 y2 y3 y4 y5
      unfold spec_l02Rank.l0
      repeat' first
      | (with_reducible exact ih0 _ _ _ _ _ _)
      | (with_reducible exact ih1 _ _ _ _ _ _ _)
      | (with_reducible exact spec_l02Table.mono _ _)
      | (with_reducible exact LeO.refl _)
      | (with_reducible exact LeO.none _)
      | (with_reducible refine LeO.ite ?_ ?_)
      | (with_reducible refine LeO.bind ?_ (fun _ => ?_))
      | exact ih0 _ _ _ _ _ _
      | exact ih1 _ _ _ _ _ _ _
      | exact spec_l02Table.mono _ _
      | exact LeO.none _
      | refine LeO.ite ?_ ?_
      | refine LeO.bind ?_ (fun _ => ?_)
    · intro y0 y1 y2 y3 y4 y5 y6
      unfold spec_l02Rank.l1
      repeat' first
      | (with_reducible exact ih0 _ _ _ _ _ _)
      | (with_reducible exact ih1 _ _ _ _ _ _ _)
      | (with_reducible exact spec_l02Table.mono _ _)
      | (with_reducible exact LeO.refl _)
      | (with_reducible exact LeO.none _)
      | (with_reducible refine LeO.ite ?_ ?_)
      | (with_reducible refine LeO.bind ?_ (fun _ => ?_))
      | exact ih0 _ _ _ _ _ _
      | exact ih1 _ _ _ _ _ _ _
      | exact spec_l02Table.mono _ _
      | exact LeO.none _
      | refine LeO.ite ?_ ?_
      | refine LeO.bind ?_ (fun _ => ?_)
theorem spec_l02Rank.mono : ∀ a0 k, LeO (spec_l02Rank.f k a0) (spec_l02Rank.f (k + 1) a0) := by
  intro a0 k
  obtain ⟨ih0, ih1⟩ := spec_l02Rank.mono_l k
  unfold spec_l02Rank.f
  repeat' first
      | (with_reducible exact ih0 _ _ _ _ _ _)
      | (with_reducible exact ih1 _ _ _ _ _ _ _)
      | (with_reducible exact spec_l02Table.mono _ _)
      | (with_reducible exact LeO.refl _)
      | (with_reducible exact LeO.none _)
      | (with_reducible refine LeO.ite ?_ ?_)
      | (with_reducible refine LeO.bind ?_ (fun _ => ?_))
      | exact ih0 _ _ _ _ _ _
      | exact ih1 _ _ _ _ _ _ _
      | exact spec_l02Table.mono _ _
      | exact LeO.none _
      | refine LeO.ite ?_ ?_
      | refine LeO.bind ?_ (fun _ => ?_)
theorem spec_l02Rank.Z0 {p : Prop} (h : p := by first | (with_reducible assumption) | assumption) : p := h
theorem spec_l02Rank.Z1 {p : Prop} (h : p := by first | rfl | (simp; done) | (simp [*]; done)) : p := h
set_option maxHeartbeats 8000000 in
set_option maxRecDepth 100000 in
theorem spec_l02Rank.calls (k : Nat) (A0_0 : Option Addr) (c0_0 : Nat) (l0_0 : List Int) (r : Int) (w : World) (hr0_0 : Kd.C (Kd.int .i64) w A0_0 l0_0.length l0_0) (hc0_0 : l0_0.length ≤ c0_0) (h : spec_l02Rank.f k l0_0 = some r) :
  Calls Try.prog 164 #[.agg #[.slice A0_0 l0_0.length c0_0]] w fun e w' => e = .returned (.int .i64 r) ∧ Below w.heap.size w w' := by
 have hu26 := Try.underlying26
 have HR0_0 := A_ hr0_0
 have HC0_0 := A_ hc0_0
 clear hr0_0 hc0_0
 have HB := A_ (Below.refl w.heap.size w)
 have H : ((spec_l01N.f l0_0).bind fun t280 => ((spec_l02Table.f k t280).bind fun t281 => (spec_l02Rank.l0 k t280 t281 0 1 0 l0_0))) = some r := h
 clear h
 replace H := Option.bind_eq_some_iff.mp H
 obtain ⟨t280, A20, H⟩ := H
 replace H : ((spec_l02Table.f k t280).bind fun t281 => (spec_l02Rank.l0 k t280 t281 0 1 0 l0_0)) = some r := H
 have A2 := A_ A20
 clear A20
 replace H := Option.bind_eq_some_iff.mp H
 obtain ⟨t281, A30, H⟩ := H
 replace H : (spec_l02Rank.l0 k t280 t281 0 1 0 l0_0) = some r := H
 have A3 := A_ A30
 clear A30
 have H' := A_ H
 clear H
 go_enter Try.func164, Try.ntmps164
 go_wp2_with (first | ((with_reducible refine gate_dst (N := 1) rfl ?_); refine box_event ?hg (N := 1) ?hd (cs := #[.slice A0_0 l0_0.length c0_0]) (t := 26) ?hr ?_; (case hd => rfl); (case hg => rfl); (case hr => first | (go_simp; done) | (go_simp; rfl)); intro gb279 hg w4 hbox hb; have n0_ := A_ (below_step (el HB) hb); have n1_ := A_ (hbox); have n2_ := A_ ((by rw [hg]; exact (below_size (el HB)) : w.heap.size ≤ gb279)); have n3_ := A_ ((by rw [hg]; exact (below_size (el HB)) : w.heap.size ≤ gb279)); clear HB; have HB := n0_; have BK279 := n1_; have GW279 := n2_; have GE279 := n3_; clear n0_ n1_ n2_ n3_; clear hb hbox hg; have hcz5_0 : w4.cell? ⟨gb279, 0, none⟩ = some (.slice A0_0 l0_0.length c0_0) := (blk_cell BK279.out 0).trans rfl; have hfz5_0 := blk_frozen BK279.out 0) | ((with_reducible refine gate_callee (f := 102) rfl ?_); refine goesL_ (some 10) rfl rfl Try.func102 (by kernel_rfl) rfl #[.agg #[.slice A0_0 l0_0.length c0_0]] rfl eg ?_; (with_reducible refine (spec_l01N.calls _ _ l0_0 t280 _ ?side1 ?side2 A2.out).mono ?_); (case side1 => repeat (first | exact (Kd.C_below HR0_0.out HB.out) | (with_reducible refine Kd.C_alloc ?_ _) | (with_reducible refine Kd.C_drewN ?_ _) | (with_reducible refine Kd.C_drew ?_))); (case side2 => exact HC0_0.out); rintro e w6 ⟨rfl, hb⟩; refine ⟨_, rfl, ?_⟩; have n0_ := A_ (eB BK279 hb); have n1_ := A_ (below_step (el HB) hb); clear BK279; clear HB; have BK279 := n0_; have HB := n1_; clear n0_ n1_; (try clear hb); (try clear hb2); (try clear hk); (try clear hi)) | ((with_reducible refine gate_callee (f := 174) rfl ?_); refine goesL_ (some 12) rfl rfl Try.func174 (by kernel_rfl) rfl #[.int .i64 t280] rfl eg ?_; (with_reducible refine (spec_l02Table.calls k t280 t281 _ A3.out).mono ?_); rintro e w7 ⟨v282, rfl, ho0, hb⟩; refine ⟨_, rfl, ?_⟩; have n0_ := A_ (Kd.S_lower ho0 (below_size (el HB))); have n1_ := A_ (eB BK279 hb); have n2_ := A_ (below_step (el HB) hb); clear BK279; clear HB; have HO283 := n0_; have BK279 := n1_; have HB := n2_; clear n0_ n1_ n2_; (try clear hb); (try clear hb2); (try clear hk); (try clear hi); (try clear ho0)))
 go_loopg [5, 6, 7] k (fun kq v5 v6 v7 w' => ∃ (x5_1 : Int) (x6_1 : Int) (x7_1 : Int), v5 = .int .i64 x5_1 ∧ v6 = .int .i64 x6_1 ∧ v7 = .int .i64 x7_1 ∧ Aside0 (spec_l02Rank.l0 kq t280 t281 x5_1 x6_1 x7_1 l0_0 = some r) ∧ Aside0 (kq ≤ k) ∧ Aside0 (Kd.S (Kd.slice 2 (Kd.int .i64)) 24 w' w.heap.size (fun _ => True) v282 t281) ∧ Aside0 (w'.heap[gb279]? = some (.cells #[(.slice A0_0 l0_0.length c0_0)] 26 (0, 0))) ∧ Aside0 (Below w.heap.size w w'))
 case atStart => exact ⟨(0), (1), (0), spec_l02Rank.Z1, spec_l02Rank.Z1, spec_l02Rank.Z1, H', ⟨Nat.le_refl _⟩, ⟨by (with_reducible repeat (first | apply Kd.S_alloc | apply Kd.S_drewN | apply Kd.S_drew)); exact HO283.out⟩, ⟨eb BK279⟩, ⟨el HB⟩⟩
 case round =>
  clear H'
  try clear c1
  try clear p2
  try clear hcz5_0
  try clear hfz5_0
  obtain ⟨x5_1, x6_1, x7_1, rfl, rfl, rfl, HA, HK1, HO_4, BK279, HB⟩ := hrel
  cases gk with
  | zero => exact absurd HA.out (by simp [spec_l02Rank.l0])
  | succ k1 =>
   have H := HA.out
   clear HA
   simp only [spec_l02Rank.l0] at H
   by_cases c8 : x7_1 < t280
   ·rw [if_pos c8] at H
    have c8b0 : decide (x7_1 < t280) = true := decide_eq_true c8
    clear c8
    have H' := A_ H
    clear H
    go_wp2
    go_loopg [5, 8] k1 (fun kq v5 v8 w' => ∃ (x5_2 : Int) (x8_2 : Int), v5 = .int .i64 x5_2 ∧ v8 = .int .i64 x8_2 ∧ Aside0 (spec_l02Rank.l1 kq t280 t281 x5_2 x6_1 x7_1 x8_2 l0_0 = some r) ∧ Aside0 (kq ≤ k1) ∧ Aside0 (Kd.S (Kd.slice 2 (Kd.int .i64)) 24 w' w.heap.size (fun _ => True) v282 t281) ∧ Aside0 (w'.heap[gb279]? = some (.cells #[(.slice A0_0 l0_0.length c0_0)] 26 (0, 0))) ∧ Aside0 (Below w.heap.size w w'))
    case atStart => exact ⟨(x5_1), (0), spec_l02Rank.Z1, spec_l02Rank.Z1, H', ⟨Nat.le_refl _⟩, ⟨by (with_reducible repeat (first | apply Kd.S_alloc | apply Kd.S_drewN | apply Kd.S_drew)); exact HO_4.out⟩, ⟨eb BK279⟩, ⟨el HB⟩⟩
    case round =>
     clear H'
     try clear c1
     try clear p2
     try clear c8
     try clear c8b0
     try clear hcz5_0
     try clear hfz5_0
     try clear p2
     obtain ⟨x5_2, x8_2, rfl, rfl, HA, HK2, HO_4, BK279, HB⟩ := hrel
     cases gk with
     | zero => exact absurd HA.out (by simp [spec_l02Rank.l1])
     | succ k2 =>
      have H := HA.out
      clear HA
      simp only [spec_l02Rank.l1] at H
      by_cases c9 : 0 ≤ x7_1
      rotate_left
      ·rw [if_neg c9] at H
       exact absurd H (by simp)
      rw [if_pos c9] at H
      have c9b0 : decide (0 ≤ x7_1) = true := decide_eq_true c9
      clear c9
      by_cases c10 : x7_1 < (l0_0.length : Int)
      rotate_left
      ·rw [if_neg c10] at H
       exact absurd H (by simp)
      rw [if_pos c10] at H
      have c10b0 : decide (x7_1 < (l0_0.length : Int)) = true := decide_eq_true c10
      clear c10
      by_cases c11 : x8_2 < (rd l0_0 x7_1)
      ·rw [if_pos c11] at H
       have c11b0 : decide (x8_2 < (rd l0_0 x7_1)) = true := decide_eq_true c11
       clear c11
       obtain ⟨ji12, hji12⟩ : ∃ j_ : Int, (wrap64 ((wrap64 (t280 - x7_1)) - 1)) = j_ := ⟨_, rfl⟩
       replace H : (if 0 ≤ (ji12) then (if (ji12) < (t281.length : Int) then (if 0 ≤ (wrap64 ((wrap64 (x6_1 - 1)) + x8_2)) then (if (wrap64 ((wrap64 (x6_1 - 1)) + x8_2)) < ((rd_L2 t281 (ji12)).length : Int) then (spec_l02Rank.l1 k2 t280 t281 (wrap64 (x5_2 + (rd (rd_L2 t281 (ji12)) (wrap64 ((wrap64 (x6_1 - 1)) + x8_2))))) x6_1 x7_1 (wrap64 (x8_2 + 1)) l0_0) else (none)) else (none)) else (none)) else (none)) = some r := by first | (rw [hji12] at H; exact H) | (simp only [hji12] at H ⊢; exact H)
       have hji12w : (IntKind.i64.wrap ((wrap64 (t280 - x7_1)) - 1)) = ji12 := (i64_w _).trans hji12
       by_cases c13 : 0 ≤ (ji12)
       rotate_left
       ·rw [if_neg c13] at H
        exact absurd H (by simp)
       rw [if_pos c13] at H
       have c13b0 : decide (0 ≤ (ji12)) = true := decide_eq_true c13
       clear c13
       by_cases c14 : (ji12) < (t281.length : Int)
       rotate_left
       ·rw [if_neg c14] at H
        exact absurd H (by simp)
       rw [if_pos c14] at H
       have c14b0 : decide ((ji12) < (t281.length : Int)) = true := decide_eq_true c14
       clear c14
       obtain ⟨ji15, hji15⟩ : ∃ j_ : Int, (wrap64 ((wrap64 (x6_1 - 1)) + x8_2)) = j_ := ⟨_, rfl⟩
       replace H : (if 0 ≤ (ji15) then (if (ji15) < ((rd_L2 t281 (ji12)).length : Int) then (spec_l02Rank.l1 k2 t280 t281 (wrap64 (x5_2 + (rd (rd_L2 t281 (ji12)) (ji15)))) x6_1 x7_1 (wrap64 (x8_2 + 1)) l0_0) else (none)) else (none)) = some r := by first | (rw [hji15] at H; exact H) | (simp only [hji15] at H ⊢; exact H)
       have hji15w : (IntKind.i64.wrap ((wrap64 (x6_1 - 1)) + x8_2)) = ji15 := (i64_w _).trans hji15
       by_cases c16 : 0 ≤ (ji15)
       rotate_left
       ·rw [if_neg c16] at H
        exact absurd H (by simp)
       rw [if_pos c16] at H
       have c16b0 : decide (0 ≤ (ji15)) = true := decide_eq_true c16
       clear c16
       by_cases c17 : (ji15) < ((rd_L2 t281 (ji12)).length : Int)
       rotate_left
       ·rw [if_neg c17] at H
        exact absurd H (by simp)
       rw [if_pos c17] at H
       have c17b0 : decide ((ji15) < ((rd_L2 t281 (ji12)).length : Int)) = true := decide_eq_true c17
       clear c17
       have H' := A_ H
       clear H
       have hcz18_0 : wr.cell? ⟨gb279, 0, none⟩ = some (.slice A0_0 l0_0.length c0_0) := (blk_cell BK279.out 0).trans rfl
       have hfz18_0 := blk_frozen BK279.out 0
       have p284 : 0 ≤ (x7_1 : Int) := of_decide_eq_true spec_l02Rank.Z0
       have q284 : x7_1 < (l0_0.length : Int) := of_decide_eq_true spec_l02Rank.Z0
       obtain ⟨ad284, e284, hx284_0⟩ := Kd.at_int HR0_0.out x7_1 p284 q284
       cases e284
       replace hx284_0 := (HB.out.cell (World.block_lt_of_cell? w _ hx284_0)).trans hx284_0
       replace p284 := eq_true p284
       replace q284 := eq_true q284
       obtain ⟨Ao19, co19, eo19⟩ := Kd.S_slice HO_4.out
       subst eo19
       have p285 : 0 ≤ ((ji12) : Int) := of_decide_eq_true spec_l02Rank.Z0
       have q285 : (ji12) < (t281.length : Int) := of_decide_eq_true spec_l02Rank.Z0
       obtain ⟨ad285, A285_0, c285_0, e285, hx285_0, hl285_0, hi285_0⟩ := at_L2 (Kd.S_reads' HO_4.out).2.2 (ji12) p285 q285
       cases e285
       obtain ⟨ce285, hce285, hMe285, hcc285⟩ := Kd.S_get HO_4.out [] (ji12) p285 (by first | exact q285 | exact of_decide_eq_true spec_l02Rank.Z0 | (have e_ := (Kd.S_reads' HO_4.out).1; omega))
       obtain ⟨ve285_0, rfl, ge285_0⟩ := hMe285
       have hv285_0 := hcc285 0 _ rfl
       rw [Nat.add_zero, show ((Kd.slice 2 (Kd.int .i64))).sz = 1 from rfl, Nat.mul_one] at hv285_0
       replace hv285_0 := Option.some.inj (hv285_0.symm.trans hx285_0)
       rw [hv285_0] at ge285_0
       have HL285_0 := A_ (show Kd.R (Kd.int .i64) 2 _ _ _ _ (rd_L2 t281 (ji12)) from ge285_0)
       clear hv285_0 ge285_0
       clear hcc285 hce285
       have HR285_0 := A_ hi285_0
       have HC285_0 := A_ hl285_0
       clear hi285_0 hl285_0
       replace p285 := eq_true p285
       replace q285 := eq_true q285
       have p286 : 0 ≤ ((ji15) : Int) := of_decide_eq_true spec_l02Rank.Z0
       have q286 : (ji15) < ((rd_L2 t281 (ji12)).length : Int) := of_decide_eq_true spec_l02Rank.Z0
       obtain ⟨ad286, e286, hx286_0⟩ := Kd.at_int (by repeat (first | (with_reducible exact HR285_0.out) | (with_reducible refine Kd.C_alloc ?_ _) | (with_reducible refine Kd.C_drewN ?_ _) | (with_reducible refine Kd.C_drew ?_) | exact HR285_0.out)) (ji15) p286 q286
       cases e286
       replace p286 := eq_true p286
       replace q286 := eq_true q286
       go_wp2
       go_roundg k2
       case measure => have := HK1.out; have := HK2.out; omega
       case rel => exact ⟨(wrap64 (x5_2 + (rd (rd_L2 t281 (ji12)) (ji15)))), (wrap64 (x8_2 + 1)), (by first | rfl | (simp; done) | (simp only [← hji12, ← hji15] <;> (first | rfl | simp)) | (simp [*]; done)), spec_l02Rank.Z1, H', ⟨by have := HK1.out; have := HK2.out; omega⟩, ⟨by (with_reducible repeat (first | apply Kd.S_alloc | apply Kd.S_drewN | apply Kd.S_drew)); first | exact HO_4.out | (have h_ := HO_4.out; simpa only [ownBlock_slice] using h_)⟩, ⟨eb BK279⟩, ⟨el HB⟩⟩
      ·rw [if_neg c11] at H
       have c11b0 : decide (x8_2 < (rd l0_0 x7_1)) = false := decide_eq_false c11
       clear c11
       have H' := A_ H
       clear H
       have hcz20_0 : wr.cell? ⟨gb279, 0, none⟩ = some (.slice A0_0 l0_0.length c0_0) := (blk_cell BK279.out 0).trans rfl
       have hfz20_0 := blk_frozen BK279.out 0
       have p284 : 0 ≤ (x7_1 : Int) := of_decide_eq_true spec_l02Rank.Z0
       have q284 : x7_1 < (l0_0.length : Int) := of_decide_eq_true spec_l02Rank.Z0
       obtain ⟨ad284, e284, hx284_0⟩ := Kd.at_int HR0_0.out x7_1 p284 q284
       cases e284
       replace hx284_0 := (HB.out.cell (World.block_lt_of_cell? w _ hx284_0)).trans hx284_0
       replace p284 := eq_true p284
       replace q284 := eq_true q284
       have p287 : 0 ≤ (x7_1 : Int) := of_decide_eq_true spec_l02Rank.Z0
       have q287 : x7_1 < (l0_0.length : Int) := of_decide_eq_true spec_l02Rank.Z0
       obtain ⟨ad287, e287, hx287_0⟩ := Kd.at_int HR0_0.out x7_1 p287 q287
       obtain rfl : ad284 = ad287 := (by injection e287)
       replace hx287_0 := (HB.out.cell (World.block_lt_of_cell? w _ hx287_0)).trans hx287_0
       replace p287 := eq_true p287
       replace q287 := eq_true q287
       go_wp2
       go_roundg k2
       case measure => have := HK1.out; have := HK2.out; omega
       case rel => exact ⟨(x5_2), (wrap64 ((wrap64 (x6_1 - 1)) + (rd l0_0 x7_1))), (wrap64 (x7_1 + 1)), spec_l02Rank.Z1, spec_l02Rank.Z1, spec_l02Rank.Z1, H', ⟨by have := HK1.out; have := HK2.out; omega⟩, ⟨by (with_reducible repeat (first | apply Kd.S_alloc | apply Kd.S_drewN | apply Kd.S_drew)); first | exact HO_4.out | (have h_ := HO_4.out; simpa only [ownBlock_slice] using h_)⟩, ⟨eb BK279⟩, ⟨el HB⟩⟩
   ·rw [if_neg c8] at H
    have c8b0 : decide (x7_1 < t280) = false := decide_eq_false c8
    clear c8
    obtain rfl := Option.some.inj H
    go_wp2
    go_ret
    exact ⟨er, el HB⟩

/-! ### spec_RankOfTree: function 86 -/
def spec_RankOfTree.f (k : Nat) (l0_0 : List Int) : Option (Int × Int) := (spec_l01Is.f k l0_0).bind fun t289 => (if t289 = true then ((spec_l02Rank.f k l0_0).bind fun t290 => (some (t290, 0))) else (some (0, 1)))
theorem spec_RankOfTree.mono : ∀ a0 k, LeO (spec_RankOfTree.f k a0) (spec_RankOfTree.f (k + 1) a0) := by
  intro a0 k
  unfold spec_RankOfTree.f
  repeat' first
      | (with_reducible exact spec_l01Is.mono _ _)
      | (with_reducible exact spec_l02Rank.mono _ _)
      | (with_reducible exact LeO.refl _)
      | (with_reducible exact LeO.none _)
      | (with_reducible refine LeO.ite ?_ ?_)
      | (with_reducible refine LeO.bind ?_ (fun _ => ?_))
      | exact spec_l01Is.mono _ _
      | exact spec_l02Rank.mono _ _
      | exact LeO.none _
      | refine LeO.ite ?_ ?_
      | refine LeO.bind ?_ (fun _ => ?_)
set_option maxHeartbeats 8000000 in
set_option maxRecDepth 100000 in
theorem spec_RankOfTree.calls (k : Nat) (A0_0 : Option Addr) (c0_0 : Nat) (l0_0 : List Int) (r1 : Int) (r2 : Int) (w : World) (hr0_0 : Kd.C (Kd.int .i64) w A0_0 l0_0.length l0_0) (hc0_0 : l0_0.length ≤ c0_0) (h : spec_RankOfTree.f k l0_0 = some (r1, r2)) :
  Calls Try.prog 86 #[.agg #[.slice A0_0 l0_0.length c0_0]] w fun e w' => e = .returned (.tuple #[.int .i64 r1, .int .i64 r2]) ∧ Below w.heap.size w w' := by
 have hu26 := Try.underlying26
 have HR0_0 := A_ hr0_0
 have HC0_0 := A_ hc0_0
 clear hr0_0 hc0_0
 have HB := A_ (Below.refl w.heap.size w)
 have H : ((spec_l01Is.f k l0_0).bind fun t289 => (if t289 = true then ((spec_l02Rank.f k l0_0).bind fun t290 => (some (t290, 0))) else (some (0, 1)))) = some (r1, r2) := h
 clear h
 replace H := Option.bind_eq_some_iff.mp H
 obtain ⟨t289, A20, H⟩ := H
 replace H : (if t289 = true then ((spec_l02Rank.f k l0_0).bind fun t290 => (some (t290, 0))) else (some (0, 1))) = some (r1, r2) := H
 have A2 := A_ A20
 clear A20
 by_cases c3 : t289 = true
 ·subst c3
  have H1 : ((spec_l02Rank.f k l0_0).bind fun t290 => (some (t290, 0))) = some (r1, r2) := by rw [if_pos rfl] at H; exact H
  clear H
  have H := H1
  clear H1
  replace H := Option.bind_eq_some_iff.mp H
  obtain ⟨t290, A40, H⟩ := H
  replace H : (some (t290, 0)) = some (r1, r2) := H
  have A4 := A_ A40
  clear A40
  simp only [Option.some.injEq, Prod.mk.injEq] at H
  obtain ⟨rfl, rfl⟩ := H
  go_enter Try.func86, Try.ntmps86
  go_wp2_with (first | ((with_reducible refine gate_dst (N := 1) rfl ?_); refine box_event ?hg (N := 1) ?hd (cs := #[.slice A0_0 l0_0.length c0_0]) (t := 26) ?hr ?_; (case hd => rfl); (case hg => rfl); (case hr => first | (go_simp; done) | (go_simp; rfl)); intro gb288 hg w5 hbox hb; have n0_ := A_ (below_step (el HB) hb); have n1_ := A_ (hbox); have n2_ := A_ ((by rw [hg]; exact (below_size (el HB)) : w.heap.size ≤ gb288)); have n3_ := A_ ((by rw [hg]; exact (below_size (el HB)) : w.heap.size ≤ gb288)); clear HB; have HB := n0_; have BK288 := n1_; have GW288 := n2_; have GE288 := n3_; clear n0_ n1_ n2_ n3_; clear hb hbox hg; have hcz6_0 : w5.cell? ⟨gb288, 0, none⟩ = some (.slice A0_0 l0_0.length c0_0) := (blk_cell BK288.out 0).trans rfl; have hfz6_0 := blk_frozen BK288.out 0) | ((with_reducible refine gate_callee (f := 101) rfl ?_); refine goesL_ (some 5) rfl rfl Try.func101 (by kernel_rfl) rfl #[.agg #[.slice A0_0 l0_0.length c0_0]] rfl eg ?_; (with_reducible refine (spec_l01Is.calls k _ _ l0_0 true _ ?side1 ?side2 A2.out).mono ?_); (case side1 => repeat (first | exact (Kd.C_below HR0_0.out HB.out) | (with_reducible refine Kd.C_alloc ?_ _) | (with_reducible refine Kd.C_drewN ?_ _) | (with_reducible refine Kd.C_drew ?_))); (case side2 => exact HC0_0.out); rintro e w7 ⟨rfl, hb⟩; refine ⟨_, rfl, ?_⟩; have n0_ := A_ (eB BK288 hb); have n1_ := A_ (below_step (el HB) hb); clear BK288; clear HB; have BK288 := n0_; have HB := n1_; clear n0_ n1_; (try clear hb); (try clear hb2); (try clear hk); (try clear hi); have hcz8_0 : w7.cell? ⟨gb288, 0, none⟩ = some (.slice A0_0 l0_0.length c0_0) := (blk_cell BK288.out 0).trans rfl; have hfz8_0 := blk_frozen BK288.out 0) | ((with_reducible refine gate_callee (f := 164) rfl ?_); refine goesL_ (some 8) rfl rfl Try.func164 (by kernel_rfl) rfl #[.agg #[.slice A0_0 l0_0.length c0_0]] rfl eg ?_; (with_reducible refine (spec_l02Rank.calls k _ _ l0_0 t290 _ ?side1 ?side2 A4.out).mono ?_); (case side1 => repeat (first | exact (Kd.C_below HR0_0.out HB.out) | (with_reducible refine Kd.C_alloc ?_ _) | (with_reducible refine Kd.C_drewN ?_ _) | (with_reducible refine Kd.C_drew ?_))); (case side2 => exact HC0_0.out); rintro e w9 ⟨rfl, hb⟩; refine ⟨_, rfl, ?_⟩; have n0_ := A_ (eB BK288 hb); have n1_ := A_ (below_step (el HB) hb); clear BK288; clear HB; have BK288 := n0_; have HB := n1_; clear n0_ n1_; (try clear hb); (try clear hb2); (try clear hk); (try clear hi)))
  go_ret2
  exact ⟨er, el HB⟩
 ·replace c3 := Bool.eq_false_iff.mpr c3
  subst c3
  have H1 : (some (0, 1)) = some (r1, r2) := by rw [if_neg (show ¬ (false = true) by decide)] at H; exact H
  clear H
  have H := H1
  clear H1
  simp only [Option.some.injEq, Prod.mk.injEq] at H
  obtain ⟨rfl, rfl⟩ := H
  go_enter Try.func86, Try.ntmps86
  go_wp2_with (first | ((with_reducible refine gate_dst (N := 1) rfl ?_); refine box_event ?hg (N := 1) ?hd (cs := #[.slice A0_0 l0_0.length c0_0]) (t := 26) ?hr ?_; (case hd => rfl); (case hg => rfl); (case hr => first | (go_simp; done) | (go_simp; rfl)); intro gb288 hg w10 hbox hb; have n0_ := A_ (below_step (el HB) hb); have n1_ := A_ (hbox); have n2_ := A_ ((by rw [hg]; exact (below_size (el HB)) : w.heap.size ≤ gb288)); have n3_ := A_ ((by rw [hg]; exact (below_size (el HB)) : w.heap.size ≤ gb288)); clear HB; have HB := n0_; have BK288 := n1_; have GW288 := n2_; have GE288 := n3_; clear n0_ n1_ n2_ n3_; clear hb hbox hg; have hcz11_0 : w10.cell? ⟨gb288, 0, none⟩ = some (.slice A0_0 l0_0.length c0_0) := (blk_cell BK288.out 0).trans rfl; have hfz11_0 := blk_frozen BK288.out 0) | ((with_reducible refine gate_callee (f := 101) rfl ?_); refine goesL_ (some 5) rfl rfl Try.func101 (by kernel_rfl) rfl #[.agg #[.slice A0_0 l0_0.length c0_0]] rfl eg ?_; (with_reducible refine (spec_l01Is.calls k _ _ l0_0 false _ ?side1 ?side2 A2.out).mono ?_); (case side1 => repeat (first | exact (Kd.C_below HR0_0.out HB.out) | (with_reducible refine Kd.C_alloc ?_ _) | (with_reducible refine Kd.C_drewN ?_ _) | (with_reducible refine Kd.C_drew ?_))); (case side2 => exact HC0_0.out); rintro e w12 ⟨rfl, hb⟩; refine ⟨_, rfl, ?_⟩; have n0_ := A_ (eB BK288 hb); have n1_ := A_ (below_step (el HB) hb); clear BK288; clear HB; have BK288 := n0_; have HB := n1_; clear n0_ n1_; (try clear hb); (try clear hb2); (try clear hk); (try clear hi)))
  go_ret2
  exact ⟨er, el HB⟩

/-! ### impl_treeOfRank: function 165 -/
/-- the degree of the next node: how many ways lie before it -/
def torI (row : Nat) : Nat → Nat → Nat → Int → Option (Int × Nat)
  | 0, _, _, _ => none
  | fu + 1, b, k, r => if b + k < 32 then (if r ≥ tab row (b + k) then torI row fu b (k + 1) (wrap64 (r - tab row (b + k))) else some (r, k)) else none
def torO : Nat → Nat → Int → List Int → Option (List Int)
  | 0, _, _, d => some d
  | left + 1, need, r, d => if need = 0 then none else (torI left 33 (need - 1) 0 r).bind fun p => torO left (need - 1 + p.2) p.1 (d ++ [(p.2 : Int)])
theorem torI_bound (row : Nat) : ∀ (fu b k : Nat) (r : Int) (p : Int × Nat), torI row fu b k r = some p → b + p.2 < 32 := by
  intro fu
  induction fu with
  | zero => intro b k r p h; simp [torI] at h
  | succ fu ih =>
    intro b k r p h
    simp only [torI] at h
    by_cases c : b + k < 32
    · rw [if_pos c] at h
      by_cases c2 : r ≥ tab row (b + k)
      · rw [if_pos c2] at h
        exact ih _ _ _ _ h
      · rw [if_neg c2] at h
        obtain rfl := Option.some.inj h
        exact c
    · rw [if_neg c] at h
      cases h
def impl_treeOfRank.f (a0 : Int) (a1 : Int) : Option (List Int × Bool) := if 0 ≤ a0 then (if a0 ≤ 30 then (if a1 ≥ tab a0.toNat 1 then some ([], false) else (torO a0.toNat 1 a1 []).bind fun d => some (d, true)) else none) else none
theorem impl_treeOfRank.Z0 {p : Prop} (h : p := by refine blk_put (cs := #[.slice none 0 0]) ?_ 0 _ rfl; exact BK.out) : p := h
set_option maxHeartbeats 8000000 in
set_option maxRecDepth 100000 in
theorem impl_treeOfRank.calls (a0 : Int) (a1 : Int) (r1 : List Int) (r2 : Bool) (w : World) (h : impl_treeOfRank.f a0 a1 = some (r1, r2)) :
  Calls Try.prog 165 #[.int .i64 a0, .int .i64 a1] w fun e w' => ∃ v0_ : Value, e = .returned (.tuple #[.agg #[v0_], .bool r2]) ∧ Kd.R (Kd.int .i64) 2 w' w.heap.size (fun _ => True) v0_ r1 ∧ Below w.heap.size w w' := by
 have hu := Try.underlying26
 have HB := A_ (Below.refl w.heap.size w)
 unfold impl_treeOfRank.f at h
 by_cases c1 : 0 ≤ a0
 ·rw [if_pos c1] at h
  by_cases c2 : a0 ≤ 30
  ·rw [if_pos c2] at h
   obtain ⟨n, rfl⟩ : ∃ n : Nat, a0 = n := ⟨a0.toNat, by omega⟩
   have hn : n ≤ 30 := by omega
   clear c1 c2
   rw [Int.toNat_natCast] at h
   by_cases c3 : a1 ≥ tab n 1
   ·rw [if_pos c3] at h
    have c3b : decide (tab n 1 ≤ a1) = true := decide_eq_true c3
    clear c3
    simp only [Option.some.injEq, Prod.mk.injEq] at h
    obtain ⟨rfl, rfl⟩ := h
    go_enter Try.func165, Try.ntmps165
    go_wp2_with (first | ((with_reducible refine gate_dst (N := 4) rfl ?_); refine box_event ?hg (N := 4) ?hd (cs := #[.slice none 0 0]) (t := 26) ?hr ?_; (case hd => rfl); (case hg => rfl); (case hr => first | (go_simp; done) | (go_simp; rfl)); intro gb hg w8 hbox hb; have n0_ := A_ (below_step HB.out hb); have n1_ := A_ hbox; have n2_ := A_ ((by rw [hg]; exact below_size HB.out) : w.heap.size ≤ gb); clear HB; have HB := n0_; have BK := n1_; have GE := n2_; clear n0_ n1_ n2_; clear hb hbox hg) | (go_at_call 156; (with_reducible refine (impl_countForests.calls _).mono ?_); rintro e w1 ⟨g, rfl, hg, ⟨C, hC, hS⟩, hb⟩; have hcell := forests_cell hC hS n 1 (by omega) (by omega); have n1_ := A_ (blk_below (g := gb) (o := .cells #[.slice none 0 0] 26 (0, 0)) BK.out hb); have n2_ := A_ (below_step HB.out hb); clear BK; clear HB; have BK := n1_; have HB := n2_; clear n1_ n2_; clear hg hC hS hb; have hcz : w1.cell? ⟨gb, 0, none⟩ = some (.slice none 0 0) := (blk_cell BK.out 0).trans rfl; have hfz := blk_frozen BK.out 0))
    refine bodyPost_ret (results_ct rfl _ _ gb 26 #[.slice none 0 0] (0, 0) _ rfl impl_treeOfRank.Z0 Try.underlying26 rfl (by kernel_rfl)) rfl ?_
    exact ⟨_, by first | rfl | (simp; done), Kd.R_nil _ _ _ _ _, el HB⟩
   ·rw [if_neg c3] at h
    have c3b : decide (tab n 1 ≤ a1) = false := decide_eq_false c3
    clear c3
    obtain ⟨d0, hO, h⟩ := Option.bind_eq_some_iff.mp h
    simp only [Option.some.injEq, Prod.mk.injEq] at h
    obtain ⟨rfl, rfl⟩ := h
    have HT := A_ hO
    clear hO
    go_enter Try.func165, Try.ntmps165
    go_wp2_with (first | ((with_reducible refine gate_dst (N := 4) rfl ?_); refine box_event ?hg (N := 4) ?hd (cs := #[.slice none 0 0]) (t := 26) ?hr ?_; (case hd => rfl); (case hg => rfl); (case hr => first | (go_simp; done) | (go_simp; rfl)); intro gb hg w8 hbox hb; have n0_ := A_ (below_step HB.out hb); have n1_ := A_ hbox; have n2_ := A_ ((by rw [hg]; exact below_size HB.out) : w.heap.size ≤ gb); clear HB; have HB := n0_; have BK := n1_; have GE := n2_; clear n0_ n1_ n2_; clear hb hbox hg) | (go_at_call 156; (with_reducible refine (impl_countForests.calls _).mono ?_); rintro e w1 ⟨g, rfl, hg, ⟨C, hC, hS⟩, hb⟩; have hcell := forests_cell hC hS n 1 (by omega) (by omega); have n1_ := A_ (blk_below (g := gb) (o := .cells #[.slice none 0 0] 26 (0, 0)) BK.out hb); have n2_ := A_ (below_step HB.out hb); have HG := A_ hC; have HS := A_ hS; clear BK; clear HB; have BK := n1_; have HB := n2_; clear n1_ n2_; clear hg hC hS hb) | ((with_reducible refine gate_dst (N := 21) rfl ?_); refine Kd.R_lit (Kd.int .i64) _ 2 ?hg (N := 21) ?hd (xs := ([] : List Int)) (inner := []) (ok := fun _ => True) (okp := fun _ => True) ?hr ?hp (fun _ hk => hk) trivial (Below.refl _ _) (Nat.le_refl _) (by simp) ?_; (case hd => rfl); (case hg => rfl); (case hr => first | (go_simp; done) | (go_simp; rfl)); (case hp => exact (Reps.none _ _)); intro v0 w2 ho hb hg_ hnew_; clear hg_ hnew_; have n0_ := A_ (Kd.R_lower ho (below_size HB.out)); have n1_ := A_ (blk_below (g := gb) (o := .cells #[.slice none 0 0] 26 (0, 0)) BK.out hb); have n2_ := A_ (blk_below (g := g) (o := .cells C.toArray 131 (0, 0)) HG.out hb); have n3_ := A_ (below_step HB.out hb); clear BK; clear HB; clear HG; have HO := n0_; have BK := n1_; have HG := n2_; have HB := n3_; clear n0_ n1_ n2_ n3_; clear hb ho hcell c3b))
    go_loopw [1, 7, 8, 9] (fun v1 v7 v8 v9 wq => ∃ (m need : Nat) (x1 x9 : Int) (d : List Int), v1 = .int .i64 x1 ∧ v8 = .int .i64 (need : Int) ∧ v9 = .int .i64 x9 ∧ x9 + 1 = (m : Int) ∧ m ≤ 30 ∧ need ≤ 32 ∧ Aside0 (d.length + m ≤ 30) ∧ Aside0 (torO m need x1 d = some d0) ∧ Aside0 (Kd.R (Kd.int .i64) 2 wq w.heap.size (fun _ => True) v7 d) ∧ Aside0 (wq.heap[g]? = some (.cells C.toArray 131 (0, 0))) ∧ Aside0 (wq.heap[gb]? = some (.cells #[.slice none 0 0] 26 (0, 0))) ∧ Aside0 (Below w.heap.size w wq)) (fun _ _ _ v9 _ => (intOf v9 + 1).toNat)
    case atStart => exact ⟨n, 1, a1, (n : Int) - 1, [], rfl, rfl, rfl, by omega, hn, by omega, ⟨by simp; omega⟩, HT, HO, HG, BK, HB⟩
    case round =>
     clear HT HO HG BK HB
     obtain ⟨m, need, x1, x9, d, rfl, rfl, rfl, h9, hm, hneed, HL, HT, HO, HG, BK, HB⟩ := hrel
     cases m with
     | zero =>
      obtain rfl : x9 = -1 := by omega
      clear h9
      have hd : d = d0 := by have h_ := HT.out; simp only [torO] at h_; exact Option.some.inj h_
      subst hd
      obtain ⟨Ao, co, eo⟩ := Kd.R_slice HO.out
      subst eo
      have hcz : wr.cell? ⟨gb, 0, none⟩ = some (.slice none 0 0) := (blk_cell BK.out 0).trans rfl
      have hfz := blk_frozen BK.out 0
      go_wp2
      refine bodyPost_ret (results_ct rfl _ _ gb 26 #[.slice Ao d.length co] (0, 0) _ rfl impl_treeOfRank.Z0 Try.underlying26 rfl (by kernel_rfl)) rfl ?_
      exact ⟨_, by first | rfl | (simp; done), Kd.R_mono (Kd.R_far (p := ⟨gb, 0, none⟩) (Kd.R_types HO.out BK.out (by decide)) (fun _ hk => hk.2) (.slice Ao d.length co)) (fun _ hk => trivial), by repeat (first | (with_reducible first | exact HB.out | refine below_set ?_ GE.out) | exact HB.out)⟩
     | succ m =>
      obtain rfl : x9 = (m : Int) := by omega
      clear h9
      have h1 := HT.out
      clear HT
      simp only [torO] at h1
      by_cases cn : need = 0
      ·rw [if_pos cn] at h1
       cases h1
      ·rw [if_neg cn] at h1
       obtain ⟨⟨rq, kq⟩, hI, hO⟩ := Option.bind_eq_some_iff.mp h1
       have hneed1 : 1 ≤ need := by omega
       clear cn h1
       have HI := A_ hI
       have HT := A_ hO
       clear hI hO
       have hm30 : m ≤ 29 := by omega
       clear hm
       have hdm : decide (0 ≤ (m : Int)) = true := decide_eq_true (by omega)
       go_wp2
       go_loop [1, 10] (fun v1 v10 => ∃ (k : Nat) (x : Int), v1 = .int .i64 x ∧ v10 = .int .i64 (k : Int) ∧ k ≤ 32 ∧ Aside0 (torI m (33 - k) (need - 1) k x = some (rq, kq))) (fun _ v10 => 33 - (intOf v10).toNat)
       case atStart => exact ⟨0, x1, rfl, rfl, by omega, HI⟩
       case round =>
        clear HI
        obtain ⟨k, x, rfl, rfl, hk, HI⟩ := hrel
        have h1 := HI.out
        clear HI
        rw [show 33 - k = (32 - k) + 1 by omega] at h1
        simp only [torI] at h1
        by_cases cb : need - 1 + k < 32
        ·rw [if_pos cb] at h1
         have hcell := forests_cell HG.out HS.out m (need - 1 + k) (by omega) cb
         by_cases ct : x ≥ tab m (need - 1 + k)
         ·rw [if_pos ct] at h1
          have ctb : decide (tab m (need - 1 + k) ≤ x) = true := decide_eq_true ct
          clear ct
          generalize tab m (need - 1 + k) = E at hcell ctb h1
          have HI := A_ h1
          clear h1
          go_wp2
          go_round
          case rel => exact ⟨k + 1, wrap64 (x - E), rfl, by go_num, by omega, ⟨by rw [show 33 - (k + 1) = 32 - k by omega]; exact HI.out⟩⟩
          case measure => simp [intOf]; omega
         ·rw [if_neg ct] at h1
          have ctb : decide (tab m (need - 1 + k) ≤ x) = false := decide_eq_false ct
          clear ct
          generalize tab m (need - 1 + k) = E at hcell ctb
          simp only [Option.some.injEq, Prod.mk.injEq] at h1
          obtain ⟨rfl, rfl⟩ := h1
          go_wp2_with (first | ((with_reducible refine gate_builtin (b := .append) (xs := #[.tmp 54, .tmp 56]) rfl ?_); at_builtin; refine Kd.R_append (Kd.int .i64) (w0 := w) w.heap.size rfl (.tmp 54) (.tmp 56) 24 2 (.int .i64 0) 8 rfl Try.underlying24 info2 rfl (by decide) (by omega) u7 d (k : Int) [.int .i64 (k : Int)] (fun _ => True) (fun _ => False) rfl rfl ?aP (fun _ hk => hk.elim) ?aF ?aO ?aB ?aS ?aL ?_; (case aP => exact rfl); (case aB => exact (el HB)); (case aF => exact (fun _ _ => trivial)); (case aO => exact (ea HO)); (case aS => exact (below_size (el HB))); (case aL => have := HL.out; omega); intro v3 w3 ho hb hg hat; have n1_ := A_ (blk_grown (g := gb) (o := .cells #[.slice none 0 0] 26 (0, 0)) (eb BK) hg (Kd.R_ne HO.out BK.out (by decide))); have n2_ := A_ (blk_grown (g := g) (o := .cells C.toArray 131 (0, 0)) (eb HG) hg (Kd.R_ne HO.out HG.out (by decide))); have n3_ := A_ hb; have n4_ := A_ ho; clear BK; clear HG; clear HB; clear HO; have BK := n1_; have HG := n2_; have HB := n3_; have HO := n4_; clear n1_ n2_ n3_ n4_; clear ho hb hg hat hcell ctb))
          refine ⟨⟨m, need - 1 + k, x, (m : Int) - 1, d ++ [(k : Int)], rfl, by go_num, rfl, by omega, by omega, by omega, ⟨by have := HL.out; simp only [List.length_append, List.length_cons, List.length_nil]; omega⟩, HT, HO, HG, BK, HB⟩, by simp [intOf]⟩
        ·rw [if_neg cb] at h1
         cases h1
  ·rw [if_neg c2] at h
   cases h
 ·rw [if_neg c1] at h
  cases h


end Go.Proofs.Ytocachknmgefaaa.QFnRanks
