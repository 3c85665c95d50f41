/- Functions of the program as plain Lean functions, each with a proof that the machine's call answers what it answers. Conditions: none. -/
import Derived.Test.YtocachknmgefaaaQFnTreeCountsx0
import Derived.Test.YtocachknmgefaaaQFnTreeCountsx1
namespace Go.Proofs.Ytocachknmgefaaa.QFnTreeCounts
open Go.RowKit Go.Proofs.YtocachknmgefaaaW.PrintWords Go.Proofs.YtocachknmgefaaaW.PrintLast Go.Proofs.YtocachknmgefaaaW.PrintMore
attribute [local go_sem] max2_int min2_int max_two min_two max_three min_three max_four min_four   -- for this text's walks alone
set_option linter.unusedVariables false
set_option linter.unusedSimpArgs false

/-! ### impl_atMost: function 154 -/
mutual
def impl_atMost.l0 : Nat → List Int → Int → Int → Option (List Int)
  | 0, _, _, _ => none
  | k + 1, x3, x9, x10 => if x10 < x9 then (if 31 ≤ 35184372088832 then ((some (List.replicate 31 0 : List Int)).bind fun y152 => (if 0 < (y152.length : Int) then (impl_atMost.l1 k x3 (y152.set (0 : Int).toNat 1) 1 x9 x10) else (none))) else (none)) else (some x3)
def impl_atMost.l1 : Nat → List Int → List Int → Int → Int → Int → Option (List Int)
  | 0, _, _, _, _, _ => none
  | k + 1, x3, x4, x5, x9, x10 => if x5 ≤ 30 then (impl_atMost.l2 k x3 x4 x5 1 x9 x10) else ((some (([0] : List Int) : List Int)).bind fun y156 => (if 30 ≤ (x4.length : Int) then ((some (x4.take 30 : List Int)).bind fun y159 => (if y156.length + y159.length < 17592186044416 then (impl_atMost.l0 k (y156 ++ y159) x9 (wrap64 (x10 + 1))) else (none))) else (none)))
def impl_atMost.l2 : Nat → List Int → List Int → Int → Int → Int → Int → Option (List Int)
  | 0, _, _, _, _, _, _ => none
  | k + 1, x3, x4, x5, x6, x9, x10 => if x6 ≤ x5 then (if 0 ≤ x5 then (if x5 < (x4.length : Int) then (if 0 ≤ x6 then (if x6 < (x3.length : Int) then (if 0 ≤ (wrap64 (x5 - x6)) then (if (wrap64 (x5 - x6)) < (x4.length : Int) then (impl_atMost.l2 k x3 (x4.set (x5 : Int).toNat (wrap64 ((rd x4 x5) + (wrap64 ((rd x3 x6) * (rd x4 (wrap64 (x5 - x6)))))))) x5 (wrap64 (x6 + 1)) x9 x10) else (none)) else (none)) else (none)) else (none)) else (none)) else (none)) else (impl_atMost.l1 k x3 x4 (wrap64 (x5 + 1)) x9 x10)
end
def impl_atMost.f (k : Nat) (a0 : Int) : Option (List Int) := if 31 ≤ 35184372088832 then (impl_atMost.l0 k (List.replicate 31 0) (wrap64 (a0 + 1)) 0) else (none)
theorem impl_atMost.mono_l : ∀ k, (∀ y0 y1 y2, LeO (impl_atMost.l0 k y0 y1 y2) (impl_atMost.l0 (k + 1) y0 y1 y2)) ∧ (∀ y0 y1 y2 y3 y4, LeO (impl_atMost.l1 k y0 y1 y2 y3 y4) (impl_atMost.l1 (k + 1) y0 y1 y2 y3 y4)) ∧ (∀ y0 y1 y2 y3 y4 y5, LeO (impl_atMost.l2 k y0 y1 y2 y3 y4 y5) (impl_atMost.l2 (k + 1) y0 y1 y2 y3 y4 y5))
  | 0 => ⟨fun _ _ _ r h => by simp [impl_atMost.l0] at h, fun _ _ _ _ _ r h => by simp [impl_atMost.l1] at h, fun _ _ _ _ _ _ r h => by simp [impl_atMost.l2] at h⟩
  | k + 1 => by
    obtain ⟨ih0, ih1, ih2⟩ := impl_atMost.mono_l k
    refine ⟨?_, ?_, ?_⟩
    · intro y0 y1 y2
      unfold impl_atMost.l0
      repeat' first
      | (with_reducible exact ih0 _ _ _)
      | (with_reducible exact ih1 _ _ _ _ _)
      | (with_reducible exact ih2 _ _ _ _ _ _)
      | (with_reducible exact LeO.refl _)
      | (with_reducible exact LeO.none _)
      | (with_reducible refine LeO.ite ?_ ?_)
      | (with_reducible refine LeO.bind ?_ (fun _ => ?_))
      | exact ih0 _ _ _
      | exact ih1 _ _ _ _ _
      | exact ih2 _ _ _ _ _ _
      | exact LeO.none _
      | refine LeO.ite ?_ ?_
      | refine LeO.bind ?_ (fun _ => ?_)
    · intro y0 y1 y2 y3 y4
      unfold impl_atMost.l1
      repeat' first
      | (with_reducible exact ih0 _ _ _)
      | (with_reducible exact ih1 _ _ _ _ _)
      | (with_reducible exact ih2 _ _ _ _ _ _)
      | (with_reducible exact LeO.refl _)
      | (with_reducible exact LeO.none _)
      | (with_reducible refine LeO.ite ?_ ?_)
      | (with_reducible refine LeO.bind ?_ (fun _ => ?_))
      | exact ih0 _ _ _
      | exact ih1 _ _ _ _ _
      | exact ih2 _ _ _ _ _ _
      | exact LeO.none _
      | refine LeO.ite ?_ ?_
      | refine LeO.bind ?_ (fun _ => ?_)
    · intro y0 y1 y2 y3 y4 y5
      unfold impl_atMost.l2
      repeat' first
      | (with_reducible exact ih0 _ _ _)
      | (with_reducible exact ih1 _ _ _ _ _)
      | (with_reducible exact ih2 _ _ _ _ _ _)
      | (with_reducible exact LeO.refl _)
      | (with_reducible exact LeO.none _)
      | (with_reducible refine LeO.ite ?_ ?_)
      | (with_reducible refine LeO.bind ?_ (fun _ => ?_))
      | exact ih0 _ _ _
      | exact ih1 _ _ _ _ _
      | exact ih2 _ _ _ _ _ _
      | exact LeO.none _
      | refine LeO.ite ?_ ?_
      | refine LeO.bind ?_ (fun _ => ?_)
theorem impl_atMost.mono : ∀ a0 k, LeO (impl_atMost.f k a0) (impl_atMost.f (k + 1) a0) := by
  intro a0 k
  obtain ⟨ih0, ih1, ih2⟩ := impl_atMost.mono_l k
  unfold impl_atMost.f
  repeat' first
      | (with_reducible exact ih0 _ _ _)
      | (with_reducible exact ih1 _ _ _ _ _)
      | (with_reducible exact ih2 _ _ _ _ _ _)
      | (with_reducible exact LeO.refl _)
      | (with_reducible exact LeO.none _)
      | (with_reducible refine LeO.ite ?_ ?_)
      | (with_reducible refine LeO.bind ?_ (fun _ => ?_))
      | exact ih0 _ _ _
      | exact ih1 _ _ _ _ _
      | exact ih2 _ _ _ _ _ _
      | exact LeO.none _
      | refine LeO.ite ?_ ?_
      | refine LeO.bind ?_ (fun _ => ?_)
def impl_atMost.T12 : Bool × List (List Nat × List Nat) := (true, [([], []), ([], []), ([0, 1], [0, 1]), ([2], [2]), ([], []), ([], []), ([4, 5], [4, 5]), ([6], [6]), ([], []), ([], []), ([], []), ([9, 10], [9, 10]), ([8, 11], [8, 11]), ([12], [12]), ([7, 13], [7, 13]), ([3, 14], [3, 14]), ([0, 1, 0, 1, 2, 3, 4, 5, 6, 7, 8, 9, 10, 11, 12, 13, 14, 15], [0, 1]), ([16, 15, 0, 1, 2, 3, 4, 5, 6, 7, 8, 9, 10, 11, 12, 13, 14, 15], [15, 16])])
def impl_atMost.B12 : List Nat := [0, 0, 3, 7, 0, 0, 48, 112, 0, 0, 0, 1536, 3840, 7936, 16368, 32767, 65535, 131071]
theorem impl_atMost.tab12 : rtab .any (opsOf Try.f154 12) = impl_atMost.T12 := by kernel_rfl
theorem impl_atMost.bits12 : waitsOk impl_atMost.T12.2 impl_atMost.B12 = true := by kernel_rfl
theorem impl_atMost.Z0 {p : Prop} (h : p := by first | (with_reducible assumption) | assumption) : p := h
theorem impl_atMost.Z1 {p : Prop} (h : p := by first | rfl | (simp; done) | (simp [*]; done)) : p := h
set_option maxHeartbeats 8000000 in
set_option maxRecDepth 100000 in
theorem impl_atMost.calls (k : Nat) (a0 : Int) (r : List Int) (w : World) (h : impl_atMost.f k a0 = some r) :
  Calls Try.prog 154 #[.int .i64 a0] w fun e w' => ∃ v0_ : Value, e = .returned (v0_) ∧ Kd.R (Kd.int .i64) 2 w' w.heap.size (fun _ => True) v0_ r ∧ Below w.heap.size w w' := by
 have HB := A_ (Below.refl w.heap.size w)
 have H : (if 31 ≤ 35184372088832 then (impl_atMost.l0 k (List.replicate 31 0) (wrap64 (a0 + 1)) 0) else (none)) = some r := h
 clear h
 by_cases c2 : 31 ≤ 35184372088832
 ·rw [if_pos c2] at H
  have c2b0 := eq_true c2
  have c2b1 : decide (31 ≤ 35184372088832) = true := decide_eq_true c2
  clear c2
  obtain ⟨y149, hy149⟩ : ∃ y_ : List Int, y_ = (List.replicate 31 0) := ⟨_, rfl⟩
  replace H : (impl_atMost.l0 k y149 (wrap64 (a0 + 1)) 0) = some r := by first | (rw [hy149]; with_reducible exact H) | (have H2_ := (Option.bind_some _ _).symm.trans H; rw [hy149]; with_reducible exact H2_) | (have H2_ := (Option.bind_some _ _).symm.trans H; with_reducible exact H2_) | with_reducible exact H | (rw [hy149]; exact H) | exact H
  have Ny149 := A_ hy149
  clear hy149
  have H' := A_ H
  clear H
  go_enter Try.func154, Try.ntmps154
  go_wp2_with (first | ((with_reducible refine gate_dst (N := 7) rfl ?_); refine Kd.R_make (Kd.int .i64) _ 2 rfl (N := 7) rfl 24 _ _ rfl 31 rfl rfl Try.underlying24 (.int .i64 0) 8 info2 rfl (by decide) (by omega) 0 (ok := fun _ => True) (okp := fun _ => True) rfl (fun _ hk => hk) trivial (by omega) (by omega) (Below.refl _ _) (Nat.le_refl _) ?_; intro v150 w3 ho4 hb hg_ hnew_; clear hg_ hnew_; (first | rw [← Ny149.out] at ho4 | (simp only [Int.reduceToNat] at ho4; rw [← Ny149.out] at ho4)); have n0_ := A_ (Kd.R_lower ho4 (below_size (el HB))); have n1_ := A_ (below_step (el HB) hb); clear HB; have HO151 := n0_; have HB := n1_; clear n0_ n1_; clear hb ho4))
  go_loopg [3, 10] k (fun kq v3 v10 w' => ∃ (x3_1 : List Int) (x10_1 : Int), v10 = .int .i64 x10_1 ∧ Aside0 (impl_atMost.l0 kq x3_1 (wrap64 (a0 + 1)) x10_1 = some r) ∧ Aside0 (kq ≤ k) ∧ Aside0 (Kd.R (Kd.int .i64) 2 w' w.heap.size (fun _ => True) v3 x3_1) ∧ Aside0 (Below w.heap.size w w'))
  case atStart => exact ⟨(y149), (0), impl_atMost.Z1, H', ⟨Nat.le_refl _⟩, ⟨ea HO151⟩, ⟨el HB⟩⟩
  case round =>
   clear H'
   try clear c1
   try clear c2
   try clear c2b0
   try clear c2b1
   try clear p2
   obtain ⟨x3_1, x10_1, rfl, HA, HK1, HO_3, HB⟩ := hrel
   cases gk with
   | zero => exact absurd HA.out (by simp [impl_atMost.l0])
   | succ k1 =>
    have H := HA.out
    clear HA
    simp only [impl_atMost.l0] at H
    by_cases c5 : x10_1 < (wrap64 (a0 + 1))
    ·rw [if_pos c5] at H
     have c5b0 : decide (x10_1 < (wrap64 (a0 + 1))) = true := decide_eq_true c5
     clear c5
     by_cases c6 : 31 ≤ 35184372088832
     rotate_left
     ·rw [if_neg c6] at H
      exact absurd H (by simp)
     rw [if_pos c6] at H
     have c6b0 := eq_true c6
     have c6b1 : decide (31 ≤ 35184372088832) = true := decide_eq_true c6
     clear c6
     obtain ⟨y152, hy152⟩ : ∃ y_ : List Int, y_ = (List.replicate 31 0) := ⟨_, rfl⟩
     replace H : (if 0 < (y152.length : Int) then (impl_atMost.l1 k1 x3_1 (y152.set (0 : Int).toNat 1) 1 (wrap64 (a0 + 1)) x10_1) else (none)) = some r := by first | (rw [hy152]; with_reducible exact H) | (have H2_ := (Option.bind_some _ _).symm.trans H; rw [hy152]; with_reducible exact H2_) | (have H2_ := (Option.bind_some _ _).symm.trans H; with_reducible exact H2_) | with_reducible exact H | (rw [hy152]; exact H) | exact H
     have Ny152 := A_ hy152
     clear hy152
     by_cases c7 : 0 < (y152.length : Int)
     rotate_left
     ·rw [if_neg c7] at H
      exact absurd H (by simp)
     rw [if_pos c7] at H
     have c7b0 : decide (0 < (y152.length : Int)) = true := decide_eq_true c7
     have c7b1 : decide (0 < y152.length) = true := decide_eq_true (by omega)
     clear c7
     obtain ⟨y155, hy155⟩ : ∃ y_ : List Int, y_ = (y152.set (0 : Int).toNat 1) := ⟨_, rfl⟩
     replace H : (impl_atMost.l1 k1 x3_1 y155 1 (wrap64 (a0 + 1)) x10_1) = some r := by first | (rw [hy155]; with_reducible exact H) | (have H2_ := (Option.bind_some _ _).symm.trans H; rw [hy155]; with_reducible exact H2_) | (have H2_ := (Option.bind_some _ _).symm.trans H; with_reducible exact H2_) | with_reducible exact H | (rw [hy155]; exact H) | exact H
     have Ny155 := A_ hy155
     clear hy155
     have H' := A_ H
     clear H
     go_wp2_with (first | ((with_reducible refine gate_dst (N := 12) rfl ?_); refine Kd.R_make (Kd.int .i64) _ 2 rfl (N := 12) rfl 24 _ _ rfl 31 rfl rfl Try.underlying24 (.int .i64 0) 8 info2 rfl (by decide) (by omega) 0 (ok := fun _ => True) (okp := fun _ => True) rfl (fun _ hk => hk) trivial (by omega) (by omega) (Below.refl _ _) (Nat.le_refl _) ?_; intro v153 w9 ho10 hb hg_ hnew_; clear hg_ hnew_; (first | rw [← Ny152.out] at ho10 | (simp only [Int.reduceToNat] at ho10; rw [← Ny152.out] at ho10)); have n0_ := A_ (Kd.R_elder' (ea HO_3) (Kd.R_base ho10) hb); have n1_ := A_ (Kd.R_lower (Kd.R_new' ho10 (Kd.R_lt (ea HO_3))) (below_size (el HB))); have n2_ := A_ (below_step (el HB) hb); clear HO_3; clear HB; have HO_3 := n0_; have HO154 := n1_; have HB := n2_; clear n0_ n1_ n2_; clear hb ho10; have p8 : 0 ≤ (0 : Int) := (by omega); have q8 : (0 : Int) < ((y152.length : Int) : Int) := of_decide_eq_true impl_atMost.Z0; have qi8 : (0 < y152.length) = True := eq_true (by omega); obtain ⟨go8, co8, eo8, gb8, gl8, cl8, HG8⟩ := Kd.R_form HO154.out (by omega); (first | cases eo8 | (injection eo8 with ea_ en_ ec_; (first | subst ea_ | (injection ea_ with ea_; subst ea_)); subst ec_; clear en_)); have GB8 := A_ gb8; have GG8 := A_ HG8; clear gb8 gl8 HG8; obtain ⟨hx8_0, hf8_0⟩ := Kd.R_celln 0 HO154.out (0 : Int) p8 q8; (try rw [show ((0 : Int)).toNat = 0 from rfl] at hx8_0); (try simp only [Nat.reduceMul, Nat.zero_mul, Nat.zero_add, Nat.reduceAdd] at hx8_0); (try rw [show ((0 : Int)).toNat = 0 from rfl] at hf8_0); (try simp only [Nat.reduceMul, Nat.zero_mul, Nat.zero_add, Nat.reduceAdd] at hf8_0); replace p8 := eq_true p8; replace q8 := eq_true q8; have n_ := A_ (Kd.R_mono (ok' := (fun k_ => some k_ ≠ (u3 : Value).ownBlock)) HO154.out (fun k_ hk => hk.2)); clear HO154; have HO154 := n_; clear n_; obtain ⟨hy11_, hz11_⟩ := Kd.R_celln 0 HO154.out (0 : Int) (by omega) (of_decide_eq_true impl_atMost.Z0); (try simp only [Int.reduceToNat, Int.toNat_zero, Int.toNat_ofNat, Nat.reduceMul, Nat.zero_mul, Nat.zero_add] at hy11_ hz11_); (try rw [show ((0 : Int)).toNat = 0 from rfl] at hy11_); (try rw [show ((0 : Int)).toNat = 0 from rfl] at hz11_); have HP11 := Kd.R_putg HO154.out (0 : Int) 1) | ((with_reducible refine gate_store (t := 2) (p := 14) rfl ?_); refine store_event (t := 2) (p := 14) (v := ?vo_w12) (w1 := (w9.setCell ⟨go8, (0 : Int).toNat, none⟩ (.int .i64 1))) ?hg ?ho ?hn ?hr ?_; (case ho => rfl); (case hg => rfl); (case hn => rfl); (case hr => first | (go_simp; done) | (go_simp; rfl)); intro w12 hw; have hg : w9.grownBy w12 (some go8) := (by rw [hw]; exact HP11.2); have hp_ : Kd.R (Kd.int .i64) 2 w12 w.heap.size (fun k_ => some k_ ≠ (u3 : Value).ownBlock) (.slice (some ⟨go8, 0, none⟩) y152.length co8) y155 := (by rw [hw, Ny155.out]; exact HP11.1); clear HP11; have n0_ := A_ (Kd.R_after (v := (.slice (some ⟨go8, 0, none⟩) y152.length co8)) (v1 := (.slice (some ⟨go8, 0, none⟩) y152.length co8)) (ok := (fun _ => True)) (ea HO_3) hg (.inl rfl)); have n1_ := A_ (hp_); have n2_ := A_ ((by rw [hw]; exact below_set (HB.out) GB8.out : Below w.heap.size w w12)); clear HO_3; clear HO154; clear HB; have HO_3 := n0_; have HO154 := n1_; have HB := n2_; clear n0_ n1_ n2_; clear hg hw hp_))
     go_loopg [5] k1 (fun kq v5 w' => ∃ (x4_2 : List Int) (x5_2 : Int), v5 = .int .i64 x5_2 ∧ Aside0 (impl_atMost.l1 kq x3_1 x4_2 x5_2 (wrap64 (a0 + 1)) x10_1 = some r) ∧ Aside0 (kq ≤ k1) ∧ Aside0 (Kd.R (Kd.int .i64) 2 w' w.heap.size (fun k_ => some k_ ≠ ((.slice (some ⟨go8, 0, none⟩) y152.length co8) : Value).ownBlock) u3 x3_1) ∧ Aside0 (Kd.R (Kd.int .i64) 2 w' w.heap.size (fun k_ => some k_ ≠ (u3 : Value).ownBlock) (.slice (some ⟨go8, 0, none⟩) y152.length co8) x4_2) ∧ Aside0 (Below w.heap.size w w'))
     case atStart => exact ⟨(y155), (1), impl_atMost.Z1, H', ⟨Nat.le_refl _⟩, ⟨by (with_reducible repeat (first | apply Kd.R_alloc | apply Kd.R_drewN | apply Kd.R_drew)); exact Kd.R_mono HO_3.out (fun _ hk => hk.2)⟩, ⟨ea HO154⟩, ⟨el HB⟩⟩
     case round =>
      clear H'
      try clear c1
      try clear c2
      try clear c2b0
      try clear c2b1
      try clear p2
      try clear c5
      try clear c5b0
      try clear c6
      try clear c6b0
      try clear c6b1
      try clear p6
      try clear c7
      try clear c7b0
      try clear c7b1
      try clear p8
      try clear q8
      try clear hx8
      try clear qi8
      try clear hf8
      try clear hx8_0
      try clear p2
      try clear p8
      try clear q8
      obtain ⟨x4_2, x5_2, rfl, HA, HK2, HO_3, HO_4, HB⟩ := hrel
      have hl4_2 := (Kd.R_reads' HO_4.out).1
      rw [hl4_2] at HO_4
      (try simp only [hl4_2])
      (try simp only [hl4_2] at HO_3)
      cases gk with
      | zero => exact absurd HA.out (by simp [impl_atMost.l1])
      | succ k2 =>
       have H := HA.out
       clear HA
       simp only [impl_atMost.l1] at H
       by_cases c13 : x5_2 ≤ 30
       ·rw [if_pos c13] at H
        have c13b0 : decide (x5_2 ≤ 30) = true := decide_eq_true c13
        clear c13
        have H' := A_ H
        clear H
        go_wp2
        go_loopg [6] k2 (fun kq v6 w' => ∃ (x4_3 : List Int) (x6_3 : Int), v6 = .int .i64 x6_3 ∧ Aside0 (impl_atMost.l2 kq x3_1 x4_3 x5_2 x6_3 (wrap64 (a0 + 1)) x10_1 = some r) ∧ Aside0 (kq ≤ k2) ∧ Aside0 (Kd.R (Kd.int .i64) 2 w' w.heap.size (fun k_ => some k_ ≠ ((.slice (some ⟨go8, 0, none⟩) x4_2.length co8) : Value).ownBlock) u3 x3_1) ∧ Aside0 (Kd.R (Kd.int .i64) 2 w' w.heap.size (fun k_ => some k_ ≠ (u3 : Value).ownBlock) (.slice (some ⟨go8, 0, none⟩) x4_2.length co8) x4_3) ∧ Aside0 (Below w.heap.size w w'))
        case atStart => exact ⟨(x4_2), (1), impl_atMost.Z1, H', ⟨Nat.le_refl _⟩, ⟨by (try simp only [hl4_2]); (with_reducible repeat (first | apply Kd.R_alloc | apply Kd.R_drewN | apply Kd.R_drew)); exact HO_3.out⟩, ⟨by (try simp only [hl4_2]); (with_reducible repeat (first | apply Kd.R_alloc | apply Kd.R_drewN | apply Kd.R_drew)); exact HO_4.out⟩, ⟨el HB⟩⟩
        case round =>
         clear H'
         try clear c1
         try clear c2
         try clear c2b0
         try clear c2b1
         try clear p2
         try clear c5
         try clear c5b0
         try clear c6
         try clear c6b0
         try clear c6b1
         try clear p6
         try clear c7
         try clear c7b0
         try clear c7b1
         try clear p8
         try clear q8
         try clear hx8
         try clear qi8
         try clear hf8
         try clear c13
         try clear c13b0
         try clear hx8_0
         try clear p2
         try clear p6
         try clear p8
         try clear q8
         obtain ⟨x4_3, x6_3, rfl, HA, HK3, HO_3, HO_4, HB⟩ := hrel
         have hl4_3 := (Kd.R_reads' HO_4.out).1
         rw [hl4_3] at HO_4
         (try simp only [hl4_3])
         (try simp only [hl4_3] at HO_3)
         cases gk with
         | zero => exact absurd HA.out (by simp [impl_atMost.l2])
         | succ k3 =>
          have H := HA.out
          clear HA
          simp only [impl_atMost.l2] at H
          by_cases c14 : x6_3 ≤ x5_2
          ·rw [if_pos c14] at H
           have c14b0 : decide (x6_3 ≤ x5_2) = true := decide_eq_true c14
           clear c14
           by_cases c15 : 0 ≤ x5_2
           rotate_left
           ·rw [if_neg c15] at H
            exact absurd H (by simp)
           rw [if_pos c15] at H
           have c15b0 : decide (0 ≤ x5_2) = true := decide_eq_true c15
           clear c15
           by_cases c16 : x5_2 < (x4_3.length : Int)
           rotate_left
           ·rw [if_neg c16] at H
            exact absurd H (by simp)
           rw [if_pos c16] at H
           have c16b0 : decide (x5_2 < (x4_3.length : Int)) = true := decide_eq_true c16
           clear c16
           by_cases c17 : 0 ≤ x6_3
           rotate_left
           ·rw [if_neg c17] at H
            exact absurd H (by simp)
           rw [if_pos c17] at H
           have c17b0 : decide (0 ≤ x6_3) = true := decide_eq_true c17
           clear c17
           by_cases c18 : x6_3 < (x3_1.length : Int)
           rotate_left
           ·rw [if_neg c18] at H
            exact absurd H (by simp)
           rw [if_pos c18] at H
           have c18b0 : decide (x6_3 < (x3_1.length : Int)) = true := decide_eq_true c18
           clear c18
           obtain ⟨ji19, hji19⟩ : ∃ j_ : Int, (wrap64 (x5_2 - x6_3)) = j_ := ⟨_, rfl⟩
           replace H : (if 0 ≤ (ji19) then (if (ji19) < (x4_3.length : Int) then (impl_atMost.l2 k3 x3_1 (x4_3.set (x5_2 : Int).toNat (wrap64 ((rd x4_3 x5_2) + (wrap64 ((rd x3_1 x6_3) * (rd x4_3 (ji19))))))) x5_2 (wrap64 (x6_3 + 1)) (wrap64 (a0 + 1)) x10_1) else (none)) else (none)) = some r := by first | (rw [hji19] at H; exact H) | (simp only [hji19] at H ⊢; exact H)
           have hji19w : (IntKind.i64.wrap (x5_2 - x6_3)) = ji19 := (i64_w _).trans hji19
           by_cases c20 : 0 ≤ (ji19)
           rotate_left
           ·rw [if_neg c20] at H
            exact absurd H (by simp)
           rw [if_pos c20] at H
           have c20b0 : decide (0 ≤ (ji19)) = true := decide_eq_true c20
           clear c20
           by_cases c21 : (ji19) < (x4_3.length : Int)
           rotate_left
           ·rw [if_neg c21] at H
            exact absurd H (by simp)
           rw [if_pos c21] at H
           have c21b0 : decide ((ji19) < (x4_3.length : Int)) = true := decide_eq_true c21
           clear c21
           obtain ⟨y169, hy169⟩ : ∃ y_ : List Int, y_ = (x4_3.set (x5_2 : Int).toNat (wrap64 ((rd x4_3 x5_2) + (wrap64 ((rd x3_1 x6_3) * (rd x4_3 (ji19))))))) := ⟨_, rfl⟩
           replace H : (impl_atMost.l2 k3 x3_1 y169 x5_2 (wrap64 (x6_3 + 1)) (wrap64 (a0 + 1)) x10_1) = some r := by first | (rw [hy169]; with_reducible exact H) | (have H2_ := (Option.bind_some _ _).symm.trans H; rw [hy169]; with_reducible exact H2_) | (have H2_ := (Option.bind_some _ _).symm.trans H; with_reducible exact H2_) | with_reducible exact H | (rw [hy169]; exact H) | exact H
           have Ny169 := A_ hy169
           clear hy169
           have H' := A_ H
           clear H
           try go_wp2
           have n0_ := A_ (Kd.R_drew HO_3.out)
           have n1_ := A_ (Kd.R_drew HO_4.out)
           have n2_ := A_ (below_drew1 HB.out)
           clear HO_3
           clear HO_4
           clear HB
           have HO_3 := n0_
           have HO_4 := n1_
           have HB := n2_
           clear n0_ n1_ n2_
           have p166 : 0 ≤ (x5_2 : Int) := of_decide_eq_true impl_atMost.Z0
           have q166 : x5_2 < (x4_3.length : Int) := of_decide_eq_true impl_atMost.Z0
           obtain ⟨ad166, e166, hx166_0⟩ := Kd.at_int (Kd.R_reads' HO_4.out).2.2 x5_2 p166 q166
           obtain rfl : (⟨go8, 0, none⟩ : Addr) = ad166 := (by injection e166)
           (first | simp only [add_plain] at hx166_0 | simp only [add_at] at hx166_0 | simp only [Addr.add, Nat.zero_add] at hx166_0 | skip)
           replace p166 := eq_true p166
           replace q166 := eq_true q166
           obtain ⟨Ao24, co24, eo24⟩ := Kd.R_slice HO_3.out
           (first | subst eo24 | (injection eo24 with f1_ f2_ f3_; have f4_ := f1_.symm; have f5_ := f3_.symm; clear f1_ f2_ f3_; subst f4_; subst f5_))
           have p167 : 0 ≤ (x6_3 : Int) := of_decide_eq_true impl_atMost.Z0
           have q167 : x6_3 < (x3_1.length : Int) := of_decide_eq_true impl_atMost.Z0
           obtain ⟨ad167, e167, hx167_0⟩ := Kd.at_int (Kd.R_reads' HO_3.out).2.2 x6_3 p167 q167
           cases e167
           replace p167 := eq_true p167
           replace q167 := eq_true q167
           have p168 : 0 ≤ ((ji19) : Int) := of_decide_eq_true impl_atMost.Z0
           have q168 : (ji19) < (x4_3.length : Int) := of_decide_eq_true impl_atMost.Z0
           obtain ⟨ad168, e168, hx168_0⟩ := Kd.at_int (Kd.R_reads' HO_4.out).2.2 (ji19) p168 q168
           obtain rfl : (⟨go8, 0, none⟩ : Addr) = ad168 := (by injection e168)
           (first | simp only [add_plain] at hx168_0 | simp only [add_at] at hx168_0 | simp only [Addr.add, Nat.zero_add] at hx168_0 | skip)
           replace p168 := eq_true p168
           replace q168 := eq_true q168
           have p22 : 0 ≤ (x5_2 : Int) := of_decide_eq_true impl_atMost.Z0
           have q22 : (x5_2 : Int) < ((x4_3.length : Int) : Int) := of_decide_eq_true impl_atMost.Z0
           obtain ⟨hx22_0, hf22_0⟩ := Kd.R_celln 0 HO_4.out (x5_2 : Int) p22 q22
           replace p22 := eq_true p22
           replace q22 := eq_true q22
           have HP25 := Kd.R_putn HO_4.out (x5_2 : Int) (wrap64 ((rd x4_3 x5_2) + (wrap64 ((rd x3_1 x6_3) * (rd x4_3 (ji19))))))
           rw [← Ny169.out] at HP25
           have HQ25 := A_ HP25
           clear HP25
           refine start_ (n := 18) (S := fun w' => w'.cell? ⟨go8, (x5_2).toNat, none⟩ = some (.int .i64 (rd x4_3 x5_2)) ∧ w'.cell? (ad167.add (x6_3).toNat) = some (.int .i64 (rd x3_1 x6_3)) ∧ w'.cell? ⟨go8, ((ji19)).toNat, none⟩ = some (.int .i64 (rd x4_3 (ji19)))) (ds := [17]) #[false, false, false, false, false, false, false, false, false, false, false, false, false, false, false, false, false, false] (by kernel_rfl) rfl rfl ⟨hx166_0, hx167_0, hx168_0⟩ (fun hHeld => ?_); refine with_tabW impl_atMost.tab12 impl_atMost.bits12 (fun HT_ HW_ => ?_)
           generalize wr.drew = w23 at HO_3 HO_4 HB HQ25 hf22_0 hx166_0 hx167_0 hx168_0 hx22_0 hHeld ⊢
           refine pure_ (i := 0) (N := some 24) (v := ?_) (a' := ?_) #[true, false, false, false, false, false, false, false, false, false, false, false, false, false, false, false, false, false] rfl rfl (any_of HT_.out (by kernel_rfl)) (fun _ _ _ h => h) (Or.inl ⟨by rfl, ?_⟩) ?_ ?_
           rotate_left
           ·intro w'
            go_simp
            with_reducible rfl
           rotate_left
           ·simp only [Act.put, List.setIfInBounds_toArray, List.set_cons_zero, List.set_cons_succ, i64_w, i32_w]
            rfl
           refine pure_ (i := 1) (N := some 25) (v := ?_) (a' := ?_) #[true, true, false, false, false, false, false, false, false, false, false, false, false, false, false, false, false, false] rfl rfl (any_of HT_.out (by kernel_rfl)) (fun _ _ _ h => h) (Or.inl ⟨by rfl, ?_⟩) ?_ ?_
           rotate_left
           ·intro w'
            go_simp
            with_reducible rfl
           rotate_left
           ·simp only [Act.put, List.setIfInBounds_toArray, List.set_cons_zero, List.set_cons_succ, i64_w, i32_w]
            rfl
           refine pure_ (i := 2) (N := some 26) (v := ?_) (a' := ?_) #[true, true, true, false, false, false, false, false, false, false, false, false, false, false, false, false, false, false] rfl rfl (any_of HT_.out (by kernel_rfl)) (fun _ _ _ h => h) (Or.inl ⟨by rfl, ?_⟩) ?_ ?_
           rotate_left
           ·intro w'
            go_simp
            with_reducible rfl
           rotate_left
           ·simp only [Act.put, List.setIfInBounds_toArray, List.set_cons_zero, List.set_cons_succ, i64_w, i32_w]
            rfl
           refine pure_ (i := 4) (N := some 28) (v := ?_) (a' := ?_) #[true, true, true, false, true, false, false, false, false, false, false, false, false, false, false, false, false, false] rfl rfl (any_of HT_.out (by kernel_rfl)) (fun _ _ _ h => h) (Or.inl ⟨by rfl, ?_⟩) ?_ ?_
           rotate_left
           ·intro w'
            go_simp
            with_reducible rfl
           rotate_left
           ·simp only [Act.put, List.setIfInBounds_toArray, List.set_cons_zero, List.set_cons_succ, i64_w, i32_w]
            rfl
           refine pure_ (i := 5) (N := some 29) (v := ?_) (a' := ?_) #[true, true, true, false, true, true, false, false, false, false, false, false, false, false, false, false, false, false] rfl rfl (any_of HT_.out (by kernel_rfl)) (fun _ _ _ h => h) (Or.inl ⟨by rfl, ?_⟩) ?_ ?_
           rotate_left
           ·intro w'
            go_simp
            with_reducible rfl
           rotate_left
           ·simp only [Act.put, List.setIfInBounds_toArray, List.set_cons_zero, List.set_cons_succ, i64_w, i32_w]
            rfl
           refine pure_ (i := 6) (N := some 30) (v := ?_) (a' := ?_) #[true, true, true, false, true, true, true, false, false, false, false, false, false, false, false, false, false, false] rfl rfl (any_of HT_.out (by kernel_rfl)) (fun _ _ _ h => h) (Or.inl ⟨by rfl, ?_⟩) ?_ ?_
           rotate_left
           ·intro w'
            go_simp
            with_reducible rfl
           rotate_left
           ·simp only [Act.put, List.setIfInBounds_toArray, List.set_cons_zero, List.set_cons_succ, i64_w, i32_w]
            rfl
           refine pure_ (i := 8) (N := some 32) (v := ?_) (a' := ?_) #[true, true, true, false, true, true, true, false, true, false, false, false, false, false, false, false, false, false] rfl rfl (any_of HT_.out (by kernel_rfl)) (fun _ _ _ h => h) (Or.inl ⟨by rfl, ?_⟩) ?_ ?_
           rotate_left
           ·intro w'
            go_simp
            with_reducible rfl
           rotate_left
           ·simp only [Act.put, List.setIfInBounds_toArray, List.set_cons_zero, List.set_cons_succ, i64_w, i32_w]
            rfl
           refine pure_ (i := 9) (N := some 33) (v := ?_) (a' := ?_) #[true, true, true, false, true, true, true, false, true, true, false, false, false, false, false, false, false, false] rfl rfl (any_of HT_.out (by kernel_rfl)) (fun _ _ _ h => h) (Or.inl ⟨by rfl, ?_⟩) ?_ ?_
           rotate_left
           ·intro w'
            go_simp
            with_reducible rfl
           rotate_left
           ·simp only [Act.put, List.setIfInBounds_toArray, List.set_cons_zero, List.set_cons_succ, i64_w, i32_w]
            rfl
           refine pure_ (i := 10) (N := some 34) (v := ?_) (a' := ?_) #[true, true, true, false, true, true, true, false, true, true, true, false, false, false, false, false, false, false] rfl rfl (any_of HT_.out (by kernel_rfl)) (fun _ _ _ h => h) (Or.inl ⟨by rfl, ?_⟩) ?_ ?_
           rotate_left
           ·intro w'
            go_simp
            with_reducible rfl
           rotate_left
           ·simp only [Act.put, List.setIfInBounds_toArray, List.set_cons_zero, List.set_cons_succ, i64_w, i32_w]
            rfl
           refine pure_ (i := 11) (N := some 35) (v := ?_) (a' := ?_) #[true, true, true, false, true, true, true, false, true, true, true, true, false, false, false, false, false, false] rfl rfl (any_of HT_.out (by kernel_rfl)) (fun _ _ _ h => h) (Or.inl ⟨by rfl, ?_⟩) ?_ ?_
           rotate_left
           ·intro w'
            go_simp
            with_reducible rfl
           rotate_left
           ·simp only [Act.put, List.setIfInBounds_toArray, List.set_cons_zero, List.set_cons_succ, i64_w, i32_w]
            rfl
           refine pure_ (i := 12) (N := some 36) (v := ?_) (a' := ?_) #[true, true, true, false, true, true, true, false, true, true, true, true, true, false, false, false, false, false] rfl rfl (any_of HT_.out (by kernel_rfl)) (fun _ _ _ h => h) (Or.inl ⟨by rfl, ?_⟩) ?_ ?_
           rotate_left
           ·intro w'
            go_simp
            with_reducible rfl
           rotate_left
           ·simp only [Act.put, List.setIfInBounds_toArray, List.set_cons_zero, List.set_cons_succ, i64_w, i32_w]
            rfl
           refine take_ (i := 3) (N := some 27) (v := ?_) (a' := ?_) #[true, true, true, true, true, true, true, false, true, true, true, true, true, false, false, false, false, false] rfl rfl (take_ofW HT_.out HW_.out (by kernel_rfl)) (fun _ _ _ h => h) (Or.inl ⟨by rfl, ?_⟩) hHeld ?_ ?_
           rotate_left
           ·rintro w' ⟨s0, s1, s2⟩
            go_simp
            with_reducible rfl
           rotate_left
           ·simp only [Act.put, List.setIfInBounds_toArray, List.set_cons_zero, List.set_cons_succ, i64_w, i32_w]
            rfl
           refine take_ (i := 7) (N := some 31) (v := ?_) (a' := ?_) #[true, true, true, true, true, true, true, true, true, true, true, true, true, false, false, false, false, false] rfl rfl (take_ofW HT_.out HW_.out (by kernel_rfl)) (fun _ _ _ h => h) (Or.inl ⟨by rfl, ?_⟩) hHeld ?_ ?_
           rotate_left
           ·rintro w' ⟨s0, s1, s2⟩
            go_simp
            with_reducible rfl
           rotate_left
           ·simp only [Act.put, List.setIfInBounds_toArray, List.set_cons_zero, List.set_cons_succ, i64_w, i32_w]
            rfl
           refine take_ (i := 13) (N := some 37) (v := ?_) (a' := ?_) #[true, true, true, true, true, true, true, true, true, true, true, true, true, true, false, false, false, false] rfl rfl (take_ofW HT_.out HW_.out (by kernel_rfl)) (fun _ _ _ h => h) (Or.inl ⟨by rfl, ?_⟩) hHeld ?_ ?_
           rotate_left
           ·rintro w' ⟨s0, s1, s2⟩
            go_simp
            with_reducible rfl
           rotate_left
           ·simp only [Act.put, List.setIfInBounds_toArray, List.set_cons_zero, List.set_cons_succ, i64_w, i32_w]
            rfl
           refine pure_ (i := 14) (N := some 38) (v := ?_) (a' := ?_) #[true, true, true, true, true, true, true, true, true, true, true, true, true, true, true, false, false, false] rfl rfl (any_of HT_.out (by kernel_rfl)) (fun _ _ _ h => h) (Or.inl ⟨by rfl, ?_⟩) ?_ ?_
           rotate_left
           ·intro w'
            go_simp
            with_reducible rfl
           rotate_left
           ·simp only [Act.put, List.setIfInBounds_toArray, List.set_cons_zero, List.set_cons_succ, i64_w, i32_w]
            rfl
           refine pure_ (i := 15) (N := some 39) (v := ?_) (a' := ?_) #[true, true, true, true, true, true, true, true, true, true, true, true, true, true, true, true, false, false] rfl rfl (any_of HT_.out (by kernel_rfl)) (fun _ _ _ h => h) (Or.inl ⟨by rfl, ?_⟩) ?_ ?_
           rotate_left
           ·intro w'
            go_simp
            with_reducible rfl
           rotate_left
           ·simp only [Act.put, List.setIfInBounds_toArray, List.set_cons_zero, List.set_cons_succ, i64_w, i32_w]
            rfl
           refine pure_ (i := 16) (N := some 40) (v := ?_) (a' := ?_) #[true, true, true, true, true, true, true, true, true, true, true, true, true, true, true, true, true, false] rfl rfl (any_of HT_.out (by kernel_rfl)) (fun _ _ _ h => h) (Or.inl ⟨by rfl, ?_⟩) ?_ ?_
           rotate_left
           ·intro w'
            go_simp
            with_reducible rfl
           rotate_left
           ·simp only [Act.put, List.setIfInBounds_toArray, List.set_cons_zero, List.set_cons_succ, i64_w, i32_w]
            rfl
           refine last_ (i := 17) (N := none) #[true, true, true, true, true, true, true, true, true, true, true, true, true, true, true, true, true, true] rfl rfl (one_of HT_.out (by kernel_rfl)) (by decide) (fun K hK => ?_)
           refine skip_ (w1 := ?_) (by rfl) rfl ?_ ?_
           rotate_left
           ·go_simp
            rfl
           refine hK.out _ _ ?_
           clear hK K
           refine done_ (done_of HT_.out (by kernel_rfl)) ?_
           try go_wp2
           (try simp only [← hl4_3])
           go_roundg k3
           case measure => have := HK1.out; have := HK2.out; have := HK3.out; omega
           case rel => exact ⟨(y169), (wrap64 (x6_3 + 1)), impl_atMost.Z1, H', ⟨by have := HK1.out; have := HK2.out; have := HK3.out; omega⟩, ⟨by (try simp only [hl4_2]); (try simp only [hl4_3]); (with_reducible repeat (first | apply Kd.R_alloc | apply Kd.R_drewN | apply Kd.R_drew)); exact Kd.R_mono (Kd.R_far (p := ⟨go8, (x5_2 : Int).toNat, none⟩) (Kd.R_mono HO_3.out (fun k_ hk => (⟨hk, fun e_ => hk (by rw [e_]; rfl)⟩ : _ ∧ k_ ≠ go8))) (fun _ hk => hk.2) (.int .i64 (wrap64 ((rd x4_3 x5_2) + (wrap64 ((rd x3_1 x6_3) * (rd x4_3 (ji19)))))))) (fun _ hk => hk.1)⟩, ⟨by (try simp only [hl4_2]); (try simp only [hl4_3]); (with_reducible repeat (first | apply Kd.R_alloc | apply Kd.R_drewN | apply Kd.R_drew)); exact HQ25.out⟩, ⟨el HB⟩⟩
          ·rw [if_neg c14] at H
           have c14b0 : decide (x6_3 ≤ x5_2) = false := decide_eq_false c14
           clear c14
           have H' := A_ H
           clear H
           go_wp2
           (try simp only [← hl4_2, ← hl4_3])
           go_roundg k3
           case measure => have := HK1.out; have := HK2.out; have := HK3.out; omega
           case rel => exact ⟨(x4_3), (wrap64 (x5_2 + 1)), impl_atMost.Z1, H', ⟨by have := HK1.out; have := HK2.out; have := HK3.out; omega⟩, ⟨by (try simp only [hl4_2]); (try simp only [hl4_3]); (with_reducible repeat (first | apply Kd.R_alloc | apply Kd.R_drewN | apply Kd.R_drew)); first | exact HO_3.out | (have h_ := HO_3.out; simpa only [ownBlock_slice] using h_)⟩, ⟨by (try simp only [hl4_2]); (try simp only [hl4_3]); (with_reducible repeat (first | apply Kd.R_alloc | apply Kd.R_drewN | apply Kd.R_drew)); first | exact HO_4.out | (have h_ := HO_4.out; simpa only [ownBlock_slice] using h_)⟩, ⟨el HB⟩⟩
       ·rw [if_neg c13] at H
        have c13b0 : decide (x5_2 ≤ 30) = false := decide_eq_false c13
        clear c13
        obtain ⟨y156, hy156⟩ : ∃ y_ : List Int, y_ = (([0] : List Int)) := ⟨_, rfl⟩
        replace H : (if 30 ≤ (x4_2.length : Int) then ((some (x4_2.take 30 : List Int)).bind fun y159 => (if y156.length + y159.length < 17592186044416 then (impl_atMost.l0 k2 (y156 ++ y159) (wrap64 (a0 + 1)) (wrap64 (x10_1 + 1))) else (none))) else (none)) = some r := by first | (rw [hy156]; with_reducible exact H) | (have H2_ := (Option.bind_some _ _).symm.trans H; rw [hy156]; with_reducible exact H2_) | (have H2_ := (Option.bind_some _ _).symm.trans H; with_reducible exact H2_) | with_reducible exact H | (rw [hy156]; exact H) | exact H
        have Ny156 := A_ hy156
        clear hy156
        by_cases c26 : 30 ≤ (x4_2.length : Int)
        rotate_left
        ·rw [if_neg c26] at H
         exact absurd H (by simp)
        rw [if_pos c26] at H
        have c26b0 := eq_true c26
        have c26b1 : decide (30 ≤ (x4_2.length : Int)) = true := decide_eq_true c26
        clear c26
        obtain ⟨y159, hy159⟩ : ∃ y_ : List Int, y_ = (x4_2.take 30) := ⟨_, rfl⟩
        replace H : (if y156.length + y159.length < 17592186044416 then (impl_atMost.l0 k2 (y156 ++ y159) (wrap64 (a0 + 1)) (wrap64 (x10_1 + 1))) else (none)) = some r := by first | (rw [hy159]; with_reducible exact H) | (have H2_ := (Option.bind_some _ _).symm.trans H; rw [hy159]; with_reducible exact H2_) | (have H2_ := (Option.bind_some _ _).symm.trans H; with_reducible exact H2_) | with_reducible exact H | (rw [hy159]; exact H) | exact H
        have Ny159 := A_ hy159
        clear hy159
        by_cases c27 : y156.length + y159.length < 17592186044416
        rotate_left
        ·rw [if_neg c27] at H
         exact absurd H (by simp)
        rw [if_pos c27] at H
        have LMc27 := A_ c27
        clear c27
        obtain ⟨y163, hy163⟩ : ∃ y_ : List Int, y_ = (y156 ++ y159) := ⟨_, rfl⟩
        replace H : (impl_atMost.l0 k2 y163 (wrap64 (a0 + 1)) (wrap64 (x10_1 + 1))) = some r := by first | (rw [hy163]; with_reducible exact H) | (have H2_ := (Option.bind_some _ _).symm.trans H; rw [hy163]; with_reducible exact H2_) | (have H2_ := (Option.bind_some _ _).symm.trans H; with_reducible exact H2_) | with_reducible exact H | (rw [hy163]; exact H) | exact H
        have Ny163 := A_ hy163
        clear hy163
        have H' := A_ H
        clear H
        go_wp2_with (first | ((with_reducible refine gate_dst (N := 41) rfl ?_); refine Kd.R_lit (Kd.int .i64) _ 2 ?hg (N := 41) ?hd (xs := ([0] : List Int)) (inner := [.int .i64 0]) (ok := fun _ => True) (okp := fun _ => True) ?hr ?hp (fun _ hk => hk) trivial (Below.refl _ _) (Nat.le_refl _) (by simp) ?_; (case hd => rfl); (case hg => rfl); (case hr => first | (go_simp; done) | (go_simp; rfl)); (case hp => exact (Reps.one (show Kd.M (Kd.int .i64) _ _ _ 0 [.int .i64 0] from rfl) (Reps.none _ _))); intro v157 w28 ho29 hb hg_ hnew_; clear hg_ hnew_; (first | rw [← Ny156.out] at ho29 | (simp only [Int.reduceToNat] at ho29; rw [← Ny156.out] at ho29)); have n0_ := A_ (Kd.R_elder' (ea HO_3) (Kd.R_base ho29) hb); have n1_ := A_ (Kd.R_elder' (ea HO_4) (Kd.R_base ho29) hb); have n2_ := A_ (Kd.R_lower (Kd.R_new' (Kd.R_new' ho29 (Kd.R_lt (ea HO_3))) (Kd.R_lt (ea HO_4))) (below_size (el HB))); have n3_ := A_ (below_step (el HB) hb); clear HO_3; clear HO_4; clear HB; have HO_3 := n0_; have HO_4 := n1_; have HO158 := n2_; have HB := n3_; clear n0_ n1_ n2_ n3_; clear hb ho29; have q30 : (30 : Int) ≤ ((x4_2.length : Int) : Int) := of_decide_eq_true impl_atMost.Z0; obtain ⟨i030, hi030, _, hsz30, _⟩ := info_parts info2; have hroom30 : x4_2.length ≤ co8 := (Kd.R_reads' HO_4.out).2.1; have hC30 : Kd.C (Kd.int .i64) _ (some ⟨go8, 0, none⟩) x4_2.length x4_2 := (Kd.R_reads' HO_4.out).2.2; have hcut30 := cut_to (P := Try.prog) 24 2 .i64 Try.underlying24 hi030 (some ⟨go8, 0, none⟩) x4_2.length co8 30 (by omega) q30 hroom30; have hr30 := Kd.C_take (m := 30) hC30 (by omega); have hy30 : y159.length = (30 : Int).toNat := (by rw [Ny159.out, List.length_take]; omega); rw [← Ny159.out] at hr30; rw [← hy30] at hcut30; have HR162 := A_ hr30; have HC162 := A_ (show y159.length ≤ co8 from by omega); clear hr30 hC30 hroom30 hi030 hsz30; have KY30 := A_ hy30; clear hy30; have KL30 := A_ (show 30 ≤ x4_2.length from by omega); replace q30 := eq_true q30) | ((with_reducible refine gate_builtin (b := .append) (xs := #[.tmp 41, .tmp 43]) rfl ?_); at_builtin; refine Kd.R_append_rows (Kd.int .i64) (w0 := w) w.heap.size rfl (.tmp 41) (.tmp 43) 24 2 (.int .i64 0) 8 rfl Try.underlying24 info2 rfl (by decide) (by omega) v157 y156 y159 _ _ _ (fun k_ => some k_ ≠ (u3 : Value).ownBlock ∧ some k_ ≠ (.slice (some ⟨go8, 0, none⟩) x4_2.length co8 : Value).ownBlock) (fun _ => False) rfl rfl ?aO ?aR (fun _ _ h => h) (fun _ h => h.elim) ?aF ?aB ?aS ?aL ?_; (case aR => repeat (first | exact (by repeat (first | (with_reducible exact HR162.out) | (with_reducible refine Kd.C_alloc ?_ _) | (with_reducible refine Kd.C_drewN ?_ _) | (with_reducible refine Kd.C_drew ?_) | exact HR162.out)) | (with_reducible refine Kd.C_alloc ?_ _) | (with_reducible refine Kd.C_drewN ?_ _) | (with_reducible refine Kd.C_drew ?_))); (case aB => exact (el HB)); (case aF => exact (fun k_ hk => ⟨Kd.fresh' (Kd.R_lt (ea HO_3)) k_ hk, Kd.fresh' (Kd.R_lt (ea HO_4)) k_ hk⟩)); (case aO => exact (by (with_reducible repeat (first | apply Kd.R_alloc | apply Kd.R_drewN | apply Kd.R_drew)); exact Kd.R_mono HO158.out (fun _ hk => ⟨hk.1.2, hk.2⟩))); (case aS => exact (below_size (el HB))); (case aL => have := LMc27.out; omega); intro v164 w31 ho hb hg hat; rw [← Ny163.out] at ho; have n0_ := A_ (Kd.R_after (ok := (fun k_ => some k_ ≠ (.slice (some ⟨go8, 0, none⟩) x4_2.length co8 : Value).ownBlock)) (ea HO_3) hg hat); have n1_ := A_ (Kd.R_after (ok := (fun k_ => some k_ ≠ (u3 : Value).ownBlock)) (ea HO_4) hg hat); have n2_ := A_ (hb); have n3_ := A_ ((show Kd.C (Kd.int .i64) w31 (some ⟨go8, 0, none⟩) y159.length y159 from by rw [Ny159.out]; exact Kd.C_take (m := 30) ((Kd.R_reads' (Kd.R_after (ok := (fun k_ => some k_ ≠ (u3 : Value).ownBlock)) (ea HO_4) hg hat)).2.2) KL30.out)); have n4_ := A_ (ho); clear HO_3; clear HO_4; clear HB; clear HR162; clear HO158; have HO_3 := n0_; have HO_4 := n1_; have HB := n2_; have HR162 := n3_; have HO165 := n4_; clear n0_ n1_ n2_ n3_ n4_; clear ho hb hg hat))
        (try simp only [← hl4_2])
        go_roundg k2
        case measure => have := HK1.out; have := HK2.out; omega
        case rel => exact ⟨(y163), (wrap64 (x10_1 + 1)), impl_atMost.Z1, H', ⟨by have := HK1.out; have := HK2.out; omega⟩, ⟨by (try simp only [hl4_2]); (with_reducible repeat (first | apply Kd.R_alloc | apply Kd.R_drewN | apply Kd.R_drew)); exact Kd.R_mono HO165.out (fun _ hk => trivial)⟩, ⟨el HB⟩⟩
    ·rw [if_neg c5] at H
     have c5b0 : decide (x10_1 < (wrap64 (a0 + 1))) = false := decide_eq_false c5
     clear c5
     obtain rfl := Option.some.inj H
     go_wp2
     go_ret
     exact ⟨_, er, by (with_reducible repeat (first | apply Kd.R_alloc | apply Kd.R_drewN | apply Kd.R_drew)); exact HO_3.out, el HB⟩
 ·rw [if_neg c2] at H
  exact absurd H (by simp)

/-! ### impl_CountByHeight: function 69 -/
def impl_CountByHeight.j0 : Nat → Int → Int → Bool → Option (Int × Int)
  | 0, _, _, _ => none
  | k + 1, x0, x1, x17 => if x17 = true then (some (0, 2)) else ((impl_atMost.f k x1).bind fun t171 => (if 0 ≤ x0 then (if x0 < (t171.length : Int) then ((impl_atMost.f k (wrap64 (x1 - 1))).bind fun t175 => (if x0 < (t175.length : Int) then (some (wrap64 ((rd t171 x0) - (rd t175 x0)), 0)) else (none))) else (none)) else (none)))
def impl_CountByHeight.f (k : Nat) (a0 : Int) (a1 : Int) : Option (Int × Int) := (impl_isCounted.f a0).bind fun t170 => (if t170 = true then (if a1 < 0 then (impl_CountByHeight.j0 k a0 a1 true) else (impl_CountByHeight.j0 k a0 a1 (decide (a1 > a0)))) else (impl_CountByHeight.j0 k a0 a1 true))
theorem impl_CountByHeight.mono_l : ∀ k, (∀ y0 y1 y2, LeO (impl_CountByHeight.j0 k y0 y1 y2) (impl_CountByHeight.j0 (k + 1) y0 y1 y2))
  | 0 => fun _ _ _ r h => by simp [impl_CountByHeight.j0] at h
  | k + 1 => by
    have ih0 := impl_CountByHeight.mono_l k
    · intro y0 y1 y2
      unfold impl_CountByHeight.j0
      repeat' first
      | (with_reducible exact ih0 _ _ _)
      | (with_reducible exact impl_atMost.mono _ _)
      | (with_reducible exact LeO.refl _)
      | (with_reducible exact LeO.none _)
      | (with_reducible refine LeO.ite ?_ ?_)
      | (with_reducible refine LeO.bind ?_ (fun _ => ?_))
      | exact ih0 _ _ _
      | exact impl_atMost.mono _ _
      | exact LeO.none _
      | refine LeO.ite ?_ ?_
      | refine LeO.bind ?_ (fun _ => ?_)
theorem impl_CountByHeight.mono : ∀ a0 a1 k, LeO (impl_CountByHeight.f k a0 a1) (impl_CountByHeight.f (k + 1) a0 a1) := by
  intro a0 a1 k
  have ih0 := impl_CountByHeight.mono_l k
  unfold impl_CountByHeight.f
  repeat' first
      | (with_reducible exact ih0 _ _ _)
      | (with_reducible exact impl_atMost.mono _ _)
      | (with_reducible exact LeO.refl _)
      | (with_reducible exact LeO.none _)
      | (with_reducible refine LeO.ite ?_ ?_)
      | (with_reducible refine LeO.bind ?_ (fun _ => ?_))
      | exact ih0 _ _ _
      | exact impl_atMost.mono _ _
      | exact LeO.none _
      | refine LeO.ite ?_ ?_
      | refine LeO.bind ?_ (fun _ => ?_)
def impl_CountByHeight.T3 : Bool × List (List Nat × List Nat) := (true, [([], []), ([0], [0]), ([], []), ([1, 2], [1, 2]), ([3], [3]), ([], []), ([5], [5]), ([6, 1], [6]), ([], []), ([7, 8], [7, 8]), ([9], [9]), ([4, 10], [4, 10]), ([11, 7, 0, 1, 2, 3, 4, 5, 6, 7, 8, 9, 10, 11], [11]), ([12, 0, 1, 2, 3, 4, 5, 6, 7, 8, 9, 10, 11, 12], [])])
def impl_CountByHeight.B3 : List Nat := [0, 1, 0, 7, 15, 0, 32, 99, 0, 483, 995, 2047, 4095, 8191]
theorem impl_CountByHeight.tab3 : rtab .any (opsOf Try.f69 3) = impl_CountByHeight.T3 := by kernel_rfl
theorem impl_CountByHeight.bits3 : waitsOk impl_CountByHeight.T3.2 impl_CountByHeight.B3 = true := by kernel_rfl
theorem impl_CountByHeight.Z0 {p : Prop} (h : p := by first | (with_reducible assumption) | assumption) : p := h
theorem impl_CountByHeight.Z1 {p : Prop} (h : p := by first | rfl | (simp; done) | (simp [*]; done)) : p := h
set_option maxHeartbeats 8000000 in
set_option maxRecDepth 100000 in
theorem impl_CountByHeight.calls (k : Nat) (a0 : Int) (a1 : Int) (r1 : Int) (r2 : Int) (w : World) (h : impl_CountByHeight.f k a0 a1 = some (r1, r2)) :
  Calls Try.prog 69 #[.int .i64 a0, .int .i64 a1] w fun e w' => e = .returned (.tuple #[.int .i64 r1, .int .i64 r2]) ∧ Below w.heap.size w w' := by
 have HB := A_ (Below.refl w.heap.size w)
 have H : ((impl_isCounted.f a0).bind fun t170 => (if t170 = true then (if a1 < 0 then (impl_CountByHeight.j0 k a0 a1 true) else (impl_CountByHeight.j0 k a0 a1 (decide (a1 > a0)))) else (impl_CountByHeight.j0 k a0 a1 true))) = some (r1, r2) := h
 clear h
 have HC3 := A_ H
 clear H
 go_enter Try.func69, Try.ntmps69
 go_upto_region 1 with (fail)
 go_cut [17] (fun v17 wc => ∃ (kq : Nat) (x17_2 : Bool), v17 = .bool x17_2 ∧ Aside0 (impl_CountByHeight.j0 kq a0 a1 x17_2 = some (r1, r2)) ∧ Aside0 (kq ≤ k) ∧ Aside0 (Below w.heap.size w wc))
 case first =>
  have H := HC3.out
  clear HC3
  replace H := Option.bind_eq_some_iff.mp H
  obtain ⟨t170, A40, H⟩ := H
  replace H : (if t170 = true then (if a1 < 0 then (impl_CountByHeight.j0 k a0 a1 true) else (impl_CountByHeight.j0 k a0 a1 (decide (a1 > a0)))) else (impl_CountByHeight.j0 k a0 a1 true)) = some (r1, r2) := H
  have A4 := A_ A40
  clear A40
  by_cases c5 : t170 = true
  ·subst c5
   have H1 : (if a1 < 0 then (impl_CountByHeight.j0 k a0 a1 true) else (impl_CountByHeight.j0 k a0 a1 (decide (a1 > a0)))) = some (r1, r2) := by rw [if_pos rfl] at H; exact H
   clear H
   have H := H1
   clear H1
   by_cases c6 : a1 < 0
   ·rw [if_pos c6] at H
    have c6b0 : decide (a1 < 0) = true := decide_eq_true c6
    clear c6
    (first | rw [c6b0] | (simp only [i64_w, i32_w]; rw [c6b0]) | skip)
    have H' := A_ H
    clear H
    go_wp2_with (first | ((with_reducible refine gate_callee (f := 150) rfl ?_); refine goesL_ (some 7) rfl rfl Try.func150 (by kernel_rfl) rfl #[.int .i64 a0] rfl eg ?_; (with_reducible refine (impl_isCounted.calls a0 true _ A4.out).mono ?_); rintro e w' ⟨rfl, ⟨nd, rfl⟩⟩; refine ⟨_, rfl, ?_⟩))
    go_meet
    case rel => exact ⟨_, (true), impl_CountByHeight.Z1, H', ⟨by first | omega | exact Nat.le_refl _⟩, ⟨el HB⟩⟩
   ·rw [if_neg c6] at H
    have c6b0 : decide (a1 < 0) = false := decide_eq_false c6
    clear c6
    (first | rw [c6b0] | (simp only [i64_w, i32_w]; rw [c6b0]) | skip)
    have H' := A_ H
    clear H
    go_wp2_with (first | ((with_reducible refine gate_callee (f := 150) rfl ?_); refine goesL_ (some 7) rfl rfl Try.func150 (by kernel_rfl) rfl #[.int .i64 a0] rfl eg ?_; (with_reducible refine (impl_isCounted.calls a0 true _ A4.out).mono ?_); rintro e w' ⟨rfl, ⟨nd, rfl⟩⟩; refine ⟨_, rfl, ?_⟩))
    go_meet
    case rel => exact ⟨_, (decide (a1 > a0)), impl_CountByHeight.Z1, H', ⟨by first | omega | exact Nat.le_refl _⟩, ⟨el HB⟩⟩
  ·replace c5 := Bool.eq_false_iff.mpr c5
   subst c5
   have H1 : (impl_CountByHeight.j0 k a0 a1 true) = some (r1, r2) := by rw [if_neg (show ¬ (false = true) by decide)] at H; exact H
   clear H
   have H := H1
   clear H1
   have H' := A_ H
   clear H
   go_wp2_with (first | ((with_reducible refine gate_callee (f := 150) rfl ?_); refine goesL_ (some 7) rfl rfl Try.func150 (by kernel_rfl) rfl #[.int .i64 a0] rfl eg ?_; (with_reducible refine (impl_isCounted.calls a0 false _ A4.out).mono ?_); rintro e w' ⟨rfl, ⟨nd, rfl⟩⟩; refine ⟨_, rfl, ?_⟩))
   go_meet
   case rel => exact ⟨_, (true), impl_CountByHeight.Z1, H', ⟨by first | omega | exact Nat.le_refl _⟩, ⟨el HB⟩⟩
 case rest =>
  clear HC3
  try clear c1
  try clear p2
  try clear c5
  try clear c6
  try clear c6b0
  obtain ⟨kq, x17_2, rfl, HA, HJ2, HB⟩ := hcut
  cases kq with
  | zero => exact absurd HA.out (by simp [impl_CountByHeight.j0])
  | succ kj2 =>
   have H := HA.out
   clear HA
   simp only [impl_CountByHeight.j0] at H
   by_cases c7 : x17_2 = true
   ·subst c7
    have H1 : (some (0, 2)) = some (r1, r2) := by rw [if_pos rfl] at H; exact H
    clear H
    have H := H1
    clear H1
    simp only [Option.some.injEq, Prod.mk.injEq] at H
    obtain ⟨rfl, rfl⟩ := H
    go_wp2
    go_ret2
    exact ⟨er, el HB⟩
   ·replace c7 := Bool.eq_false_iff.mpr c7
    subst c7
    have H1 : ((impl_atMost.f kj2 a1).bind fun t171 => (if 0 ≤ a0 then (if a0 < (t171.length : Int) then ((impl_atMost.f kj2 (wrap64 (a1 - 1))).bind fun t175 => (if a0 < (t175.length : Int) then (some (wrap64 ((rd t171 a0) - (rd t175 a0)), 0)) else (none))) else (none)) else (none))) = some (r1, r2) := by rw [if_neg (show ¬ (false = true) by decide)] at H; exact H
    clear H
    have H := H1
    clear H1
    replace H := Option.bind_eq_some_iff.mp H
    obtain ⟨t171, A80, H⟩ := H
    replace H : (if 0 ≤ a0 then (if a0 < (t171.length : Int) then ((impl_atMost.f kj2 (wrap64 (a1 - 1))).bind fun t175 => (if a0 < (t175.length : Int) then (some (wrap64 ((rd t171 a0) - (rd t175 a0)), 0)) else (none))) else (none)) else (none)) = some (r1, r2) := H
    have A8 := A_ A80
    clear A80
    by_cases c9 : 0 ≤ a0
    ·rw [if_pos c9] at H
     have c9b0 : decide (0 ≤ a0) = true := decide_eq_true c9
     clear c9
     by_cases c10 : a0 < (t171.length : Int)
     rotate_left
     ·rw [if_neg c10] at H
      exact absurd H (by simp)
     rw [if_pos c10] at H
     have c10b0 : decide (a0 < (t171.length : Int)) = true := decide_eq_true c10
     clear c10
     replace H := Option.bind_eq_some_iff.mp H
     obtain ⟨t175, A110, H⟩ := H
     replace H : (if a0 < (t175.length : Int) then (some (wrap64 ((rd t171 a0) - (rd t175 a0)), 0)) else (none)) = some (r1, r2) := H
     have A11 := A_ A110
     clear A110
     by_cases c12 : a0 < (t175.length : Int)
     rotate_left
     ·rw [if_neg c12] at H
      exact absurd H (by simp)
     rw [if_pos c12] at H
     have c12b0 : decide (a0 < (t175.length : Int)) = true := decide_eq_true c12
     clear c12
     simp only [Option.some.injEq, Prod.mk.injEq] at H
     obtain ⟨rfl, rfl⟩ := H
     try go_wp2
     have n0_ := A_ (below_drew1 HB.out)
     clear HB
     have HB := n0_
     clear n0_
     refine start_ (n := 14) (S := fun w' => True) (ds := []) #[false, false, false, false, false, false, false, false, false, false, false, false, false, false] (by kernel_rfl) rfl rfl trivial (fun hHeld => ?_); refine with_tabW impl_CountByHeight.tab3 impl_CountByHeight.bits3 (fun HT_ HW_ => ?_)
     generalize wc.drew = w13 at HB hHeld ⊢
     refine pure_ (i := 0) (N := some 18) (v := ?_) (a' := ?_) #[true, false, false, false, false, false, false, false, false, false, false, false, false, false] rfl rfl (any_of HT_.out (by kernel_rfl)) (fun _ _ _ h => h) (Or.inl ⟨by rfl, ?_⟩) ?_ ?_
     rotate_left
     ·intro w'
      go_simp
      with_reducible rfl
     rotate_left
     ·simp only [Act.put, List.setIfInBounds_toArray, List.set_cons_zero, List.set_cons_succ, i64_w, i32_w]
      rfl
     refine pure_ (i := 2) (N := some 20) (v := ?_) (a' := ?_) #[true, false, true, false, false, false, false, false, false, false, false, false, false, false] rfl rfl (any_of HT_.out (by kernel_rfl)) (fun _ _ _ h => h) (Or.inl ⟨by rfl, ?_⟩) ?_ ?_
     rotate_left
     ·intro w'
      go_simp
      with_reducible rfl
     rotate_left
     ·simp only [Act.put, List.setIfInBounds_toArray, List.set_cons_zero, List.set_cons_succ, i64_w, i32_w]
      rfl
     refine pure_ (i := 5) (N := some 23) (v := ?_) (a' := ?_) #[true, false, true, false, false, true, false, false, false, false, false, false, false, false] rfl rfl (any_of HT_.out (by kernel_rfl)) (fun _ _ _ h => h) (Or.inl ⟨by rfl, ?_⟩) ?_ ?_
     rotate_left
     ·intro w'
      go_simp
      with_reducible rfl
     rotate_left
     ·simp only [Act.put, List.setIfInBounds_toArray, List.set_cons_zero, List.set_cons_succ, i64_w, i32_w]
      rfl
     refine pure_ (i := 6) (N := some 24) (v := ?_) (a' := ?_) #[true, false, true, false, false, true, true, false, false, false, false, false, false, false] rfl rfl (any_of HT_.out (by kernel_rfl)) (fun _ _ _ h => h) (Or.inl ⟨by rfl, ?_⟩) ?_ ?_
     rotate_left
     ·intro w'
      go_simp
      with_reducible rfl
     rotate_left
     ·simp only [Act.put, List.setIfInBounds_toArray, List.set_cons_zero, List.set_cons_succ, i64_w, i32_w]
      rfl
     refine pure_ (i := 8) (N := some 26) (v := ?_) (a' := ?_) #[true, false, true, false, false, true, true, false, true, false, false, false, false, false] rfl rfl (any_of HT_.out (by kernel_rfl)) (fun _ _ _ h => h) (Or.inl ⟨by rfl, ?_⟩) ?_ ?_
     rotate_left
     ·intro w'
      go_simp
      with_reducible rfl
     rotate_left
     ·simp only [Act.put, List.setIfInBounds_toArray, List.set_cons_zero, List.set_cons_succ, i64_w, i32_w]
      rfl
     refine one_ (i := 1) (N := some 19) #[true, true, true, false, false, true, true, false, true, false, false, false, false, false] rfl rfl (one_of HT_.out (by kernel_rfl)) (by decide) (fun K hK => ?_)
     refine goes_ Try.func154 (by kernel_rfl) rfl #[.int .i64 a1] (by rfl) rfl rfl eg ?_
     with_reducible refine (impl_atMost.calls kj2 a1 t171 _ A8.out).mono ?_
     rintro e w14 ⟨v172, rfl, ho0, hb⟩
     refine ⟨_, rfl, ?_⟩
     have n0_ := A_ (Kd.R_lower ho0 (below_size (el HB)))
     have n1_ := A_ (below_step (el HB) hb)
     clear HB
     have HO173 := n0_
     have HB := n1_
     clear n0_ n1_
     (try clear hb)
     (try clear hb2)
     (try clear hk)
     (try clear hi)
     (try clear ho0)
     obtain ⟨Ao15, co15, eo15⟩ := Kd.R_slice HO173.out
     (first | subst eo15 | (injection eo15 with f1_ f2_ f3_; have f4_ := f1_.symm; have f5_ := f3_.symm; clear f1_ f2_ f3_; subst f4_; subst f5_))
     have p174 : 0 ≤ (a0 : Int) := of_decide_eq_true impl_CountByHeight.Z0
     have q174 : a0 < (t171.length : Int) := of_decide_eq_true impl_CountByHeight.Z0
     obtain ⟨ad174, e174, hx174_0⟩ := Kd.at_int (Kd.R_reads' HO173.out).2.2 a0 p174 q174
     cases e174
     replace p174 := eq_true p174
     replace q174 := eq_true q174
     refine hK.out _ _ trivial (fun hHeld => ?_)
     refine more_ (fun w' => w'.cell? (ad174.add (a0).toNat) = some (.int .i64 (rd t171 a0))) hx174_0 (fun _ h_ => trivial) (fun hHeld => ?_)
     clear hK K
     refine norm_ (a' := ?_) ?_ ?_
     rotate_left
     ·show Act.put _ (some 19) _ = _
      simp only [Act.put, List.setIfInBounds_toArray, List.set_cons_zero, List.set_cons_succ, i64_w, i32_w]
      rfl
     refine pure_ (i := 3) (N := some 21) (v := ?_) (a' := ?_) #[true, true, true, true, false, true, true, false, true, false, false, false, false, false] rfl rfl (any_of HT_.out (by kernel_rfl)) (fun _ _ _ h => h) (Or.inl ⟨by rfl, ?_⟩) ?_ ?_
     rotate_left
     ·intro w'
      go_simp
      with_reducible rfl
     rotate_left
     ·simp only [Act.put, List.setIfInBounds_toArray, List.set_cons_zero, List.set_cons_succ, i64_w, i32_w]
      rfl
     refine take_ (i := 4) (N := some 22) (v := ?_) (a' := ?_) #[true, true, true, true, true, true, true, false, true, false, false, false, false, false] rfl rfl (take_ofW HT_.out HW_.out (by kernel_rfl)) (fun _ _ _ h => h) (Or.inl ⟨by rfl, ?_⟩) hHeld ?_ ?_
     rotate_left
     ·rintro w' s0
      go_simp
      with_reducible rfl
     rotate_left
     ·simp only [Act.put, List.setIfInBounds_toArray, List.set_cons_zero, List.set_cons_succ, i64_w, i32_w]
      rfl
     refine one_ (i := 7) (N := some 25) #[true, true, true, true, true, true, true, true, true, false, false, false, false, false] rfl rfl (one_of HT_.out (by kernel_rfl)) (by decide) (fun K hK => ?_)
     refine goes_ Try.func154 (by kernel_rfl) rfl #[.int .i64 (wrap64 (a1 - 1))] (by rfl) rfl rfl eg ?_
     with_reducible refine (impl_atMost.calls kj2 (wrap64 (a1 - 1)) t175 _ A11.out).mono ?_
     rintro e w16 ⟨v176, rfl, ho0, hb⟩
     have HS0_ := (hb.cell (World.block_lt_of_cell? _ _ (hHeld))).trans (hHeld)
     refine ⟨_, rfl, ?_⟩
     have n0_ := A_ (Kd.R_elder' (ea HO173) (Kd.R_base ho0) hb)
     have n1_ := A_ (Kd.R_lower (Kd.R_new' ho0 (Kd.R_lt (ea HO173))) (below_size (el HB)))
     have n2_ := A_ (below_step (el HB) hb)
     clear HO173
     clear HB
     have HO173 := n0_
     have HO177 := n1_
     have HB := n2_
     clear n0_ n1_ n2_
     (try clear hb)
     (try clear hb2)
     (try clear hk)
     (try clear hi)
     (try clear ho0)
     obtain ⟨Ao17, co17, eo17⟩ := Kd.R_slice HO177.out
     (first | subst eo17 | (injection eo17 with f1_ f2_ f3_; have f4_ := f1_.symm; have f5_ := f3_.symm; clear f1_ f2_ f3_; subst f4_; subst f5_))
     have p178 : 0 ≤ (a0 : Int) := of_decide_eq_true impl_CountByHeight.Z0
     have q178 : a0 < (t175.length : Int) := of_decide_eq_true impl_CountByHeight.Z0
     obtain ⟨ad178, e178, hx178_0⟩ := Kd.at_int (Kd.R_reads' HO177.out).2.2 a0 p178 q178
     cases e178
     replace p178 := eq_true p178
     replace q178 := eq_true q178
     refine hK.out _ _ HS0_ (fun hHeld => ?_)
     refine more_ (fun w' => w'.cell? (ad174.add (a0).toNat) = some (.int .i64 (rd t171 a0)) ∧ w'.cell? (ad178.add (a0).toNat) = some (.int .i64 (rd t175 a0))) ⟨HS0_, hx178_0⟩ (fun _ h_ => h_.1) (fun hHeld => ?_)
     clear hK K
     refine norm_ (a' := ?_) ?_ ?_
     rotate_left
     ·show Act.put _ (some 25) _ = _
      simp only [Act.put, List.setIfInBounds_toArray, List.set_cons_zero, List.set_cons_succ, i64_w, i32_w]
      rfl
     refine pure_ (i := 9) (N := some 27) (v := ?_) (a' := ?_) #[true, true, true, true, true, true, true, true, true, true, false, false, false, false] rfl rfl (any_of HT_.out (by kernel_rfl)) (fun _ _ _ h => h) (Or.inl ⟨by rfl, ?_⟩) ?_ ?_
     rotate_left
     ·intro w'
      go_simp
      with_reducible rfl
     rotate_left
     ·simp only [Act.put, List.setIfInBounds_toArray, List.set_cons_zero, List.set_cons_succ, i64_w, i32_w]
      rfl
     refine take_ (i := 10) (N := some 28) (v := ?_) (a' := ?_) #[true, true, true, true, true, true, true, true, true, true, true, false, false, false] rfl rfl (take_ofW HT_.out HW_.out (by kernel_rfl)) (fun _ _ _ h => h) (Or.inl ⟨by rfl, ?_⟩) hHeld ?_ ?_
     rotate_left
     ·rintro w' ⟨s0, s1⟩
      go_simp
      with_reducible rfl
     rotate_left
     ·simp only [Act.put, List.setIfInBounds_toArray, List.set_cons_zero, List.set_cons_succ, i64_w, i32_w]
      rfl
     refine pure_ (i := 11) (N := some 29) (v := ?_) (a' := ?_) #[true, true, true, true, true, true, true, true, true, true, true, true, false, false] rfl rfl (any_of HT_.out (by kernel_rfl)) (fun _ _ _ h => h) (Or.inl ⟨by rfl, ?_⟩) ?_ ?_
     rotate_left
     ·intro w'
      go_simp
      with_reducible rfl
     rotate_left
     ·simp only [Act.put, List.setIfInBounds_toArray, List.set_cons_zero, List.set_cons_succ, i64_w, i32_w]
      rfl
     refine pure_ (i := 12) (N := some 4) (v := ?_) (a' := ?_) #[true, true, true, true, true, true, true, true, true, true, true, true, true, false] rfl rfl (any_of HT_.out (by kernel_rfl)) (fun _ _ _ h => h) (Or.inl ⟨by rfl, ?_⟩) ?_ ?_
     rotate_left
     ·intro w'
      go_simp
      with_reducible rfl
     rotate_left
     ·simp only [Act.put, List.setIfInBounds_toArray, List.set_cons_zero, List.set_cons_succ, i64_w, i32_w]
      rfl
     refine pure_ (i := 13) (N := some 5) (v := ?_) (a' := ?_) #[true, true, true, true, true, true, true, true, true, true, true, true, true, true] rfl rfl (any_of HT_.out (by kernel_rfl)) (fun _ _ _ h => h) (Or.inl ⟨by rfl, ?_⟩) ?_ ?_
     rotate_left
     ·intro w'
      go_simp
      with_reducible rfl
     rotate_left
     ·simp only [Act.put, List.setIfInBounds_toArray, List.set_cons_zero, List.set_cons_succ, i64_w, i32_w]
      rfl
     refine done_ (done_of HT_.out (by kernel_rfl)) ?_
     try go_wp2
     go_ret2
     exact ⟨er, el HB⟩
    ·rw [if_neg c9] at H
     exact absurd H (by simp)

end Go.Proofs.Ytocachknmgefaaa.QFnTreeCounts
