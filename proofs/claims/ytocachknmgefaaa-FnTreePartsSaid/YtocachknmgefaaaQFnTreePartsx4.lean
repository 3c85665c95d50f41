/- Functions of the program as plain Lean functions, each with a proof that the machine's call answers what it answers. Conditions: none. -/
import Derived.Test.YtocachknmgefaaaQFnTreePartsx0
import Derived.Test.YtocachknmgefaaaQFnTreePartsx2
import Derived.Test.YtocachknmgefaaaQFnTreePartsx3
import Derived.Test.YtocachknmgefaaaQFnTreePartsx1
namespace Go.Proofs.Ytocachknmgefaaa.QFnTreeParts
open Go.RowKit Go.Proofs.YtocachknmgefaaaW.PrintWords Go.Proofs.YtocachknmgefaaaW.PrintLast Go.Proofs.YtocachknmgefaaaW.PrintMore
attribute [local go_sem] max2_int min2_int max_two min_two max_three min_three max_four min_four   -- for this text's walks alone
set_option linter.unusedVariables false
set_option maxHeartbeats 8000000
set_option maxRecDepth 100000
set_option linter.unusedSimpArgs false

/-! ### impl_parentsOf: function 104 -/
mutual
def Xm.l0 : Nat → List Int → List Int → Int → Int → Option (List Int)
  | 0, _, _, _, _ => none
  | k + 1, x0, x3, x12, x13 => if x13 < x12 then ((Xam.f k x0 x13).bind fun t392 => (Xm.l1 k x0 x3 x13 x12 x13 t392 (t392.length : Int) 0)) else (some x3)
def Xm.l1 : Nat → List Int → List Int → Int → Int → Int → List Int → Int → Int → Option (List Int)
  | 0, _, _, _, _, _, _, _, _ => none
  | k + 1, x0, x3, x4, x12, x13, x18, x19, x20 => if x20 < x19 then (if 0 ≤ x20 then (if x20 < (x18.length : Int) then (if 0 ≤ (rd x18 x20) then (if (rd x18 x20) < (x3.length : Int) then (Xm.l1 k x0 (x3.set ((rd x18 x20) : Int).toNat x4) x4 x12 x13 x18 x19 (wrap64 (x20 + 1))) else (none)) else (none)) else (none)) else (none)) else (Xm.l0 k x0 x3 x12 (wrap64 (x13 + 1)))
end
def Xm.f (k : Nat) (l0 : List Int) : Option (List Int) := (Xbb.f (([(-1)] : List Int)) (l0.length : Int)).bind fun t389 => (Xm.l0 k l0 t389 (l0.length : Int) 0)
theorem Xm.mono_l : ∀ k, (∀ y0 y1 y2 y3, LeO (Xm.l0 k y0 y1 y2 y3) (Xm.l0 (k + 1) y0 y1 y2 y3)) ∧ (∀ y0 y1 y2 y3 y4 y5 y6 y7, LeO (Xm.l1 k y0 y1 y2 y3 y4 y5 y6 y7) (Xm.l1 (k + 1) y0 y1 y2 y3 y4 y5 y6 y7))
  | 0 => ⟨fun _ _ _ _ r h => by simp [Xm.l0] at h, fun _ _ _ _ _ _ _ _ r h => by simp [Xm.l1] at h⟩
  | k + 1 => by
    obtain ⟨ih0, ih1⟩ := Xm.mono_l k
    refine ⟨?_, ?_⟩
    · intro y0 y1 y2 y3
      unfold Xm.l0
      have := Xam.mono; exact mW
    · intro y0 y1 y2 y3 y4 y5 y6 y7
      unfold Xm.l1
      have := Xam.mono; exact mW
theorem Xm.mono : ∀ a0 k, LeO (Xm.f k a0) (Xm.f (k + 1) a0) := by
  intro a0 k
  obtain ⟨ih0, ih1⟩ := Xm.mono_l k
  unfold Xm.f
  have := Xam.mono; exact mW
theorem Xm.Z0 {p : Prop} (h : p := by first | (with_reducible assumption) | assumption) : p := h
theorem Xm.Z1 {p : Prop} (h : p := by first | rfl | (simp; done) | (simp [*]; done)) : p := h
theorem Xm.calls (k : Nat) (A0 : Option Addr) (c0 : Nat) (l0 : List Int) (r : List Int) (w : World) (hr0 : Kd.C (Kd.int .i64) w A0 l0.length l0) (hc0 : l0.length ≤ c0) (h : Xm.f k l0 = some r) :
  Calls Try.prog 104 #[.slice A0 l0.length c0] w fun e w' => ∃ v0_ : Value, e = .returned (v0_) ∧ Kd.R (Kd.int .i64) 2 w' w.heap.size (fun _ => True) v0_ r ∧ Below w.heap.size w w' := by
 have HR0 := A_ hr0; have HC0 := A_ hc0; clear hr0 hc0; have HB := A_ (Below.refl w.heap.size w); unfold Xm.f at h; have H := h; clear h; obtain ⟨an, ah⟩ : ∃ y_ : List Int, y_ = (([(-1)] : List Int)) := ⟨_, rfl⟩; replace H : ((Xbb.f an (l0.length : Int)).bind fun aj => (Xm.l0 k l0 aj (l0.length : Int) 0)) = some r := eH ah H; have al := A_ ah; clear ah; replace H := oB H; obtain ⟨aj, A2, H⟩ := H; have H' := A_ H; clear H
 go_enter Try.func104, Try.ntmps104
 go_wp2_with (first | ((with_reducible refine gD 7 ?_); refine Kd.R_lit (Kd.int .i64) _ 2 ?hg (N := 7) ?hd (xs := ([(-1)] : List Int)) (inner := [.int .i64 (-1)]) (ok := fun _ => True) (okp := fun _ => True) ?hr ?hp (fun _ hk => hk) trivial (Below.refl _ _) (Nat.le_refl _) (by simp) ?_; (case hd => rfl); (case hg => rfl); (case hr => first | (go_simp; done) | (go_simp; rfl)); (case hp => exact (Reps.one (show Kd.M (Kd.int .i64) _ _ _ (-1) [.int .i64 (-1)] from rfl) (Reps.none _ _))); intro aK w3 ho4 hb hg_ hnew_; clear hg_ hnew_; (first | rw [← al.out] at ho4 | (simp only [Int.reduceToNat] at ho4; rw [← al.out] at ho4)); have ae := eV ho4 HB; replace HB := eS HB hb; clear hb ho4; obtain ⟨aL, aM, aN⟩ := Kd.R_slice ae.out; subst aN) | ((with_reducible refine gC 167 ?_); refine gL 10 Try.func167 #[.slice aL an.length aM, .int .i64 (l0.length : Int)] ((Xbb.calls _ _ an (l0.length : Int) aj _ (cS ((Kd.R_reads' ae.out).2.2)) ((Kd.R_reads' ae.out).2.1) A2.out).mono ?_); rintro e w6 ⟨ao, rfl, ho0, hb⟩; refine ⟨_, rfl, ?_⟩; have au := A_ (Kd.R_lower (Kd.R_new' ho0 (Kd.R_lt (ea ae))) (below_size (el HB))); replace ae := eE ae ho0 hb; replace HB := eS HB hb))
 go_loopg [13] k (fun kq v13 w' => ∃ (ak : List Int) (ab : Int), v13 = .int .i64 ab ∧ Aside0 (Xm.l0 kq l0 ak (l0.length : Int) ab = some r) ∧ Aside0 (kq ≤ k) ∧ Aside0 (Kd.R (Kd.int .i64) 2 w' w.heap.size (fun _ => True) ao ak) ∧ Aside0 (Below w.heap.size w w'))
 case atStart => exact ⟨(aj), (0), Xm.Z1, H', ⟨Nat.le_refl _⟩, ⟨rX (Kd.R_mono au.out (fun _ hk => trivial))⟩, ⟨el HB⟩⟩
 case round =>
  clear H'; obtain ⟨ak, ab, rfl, HA, HK1, ad, HB⟩ := hrel
  cases gk with
  | zero => exact absurd HA.out (by simp [Xm.l0])
  | succ k1 =>
   have H := HA.out; clear HA; simp only [Xm.l0] at H
   by_cases c7 : ab < (l0.length : Int)
   ·rw [if_pos c7] at H; have aC := decide_eq_true c7; clear c7; replace H := oB H; obtain ⟨ac, A8, H⟩ := H; have H' := A_ H; clear H
    go_wp2_with (first | ((with_reducible refine gC 118 ?_); refine gL 18 Try.func118 #[.slice A0 l0.length c0, .int .i64 ab] ((Xam.calls k1 _ _ l0 ab ac _ (cS (Kd.C_below HR0.out HB.out)) HC0.out A8.out).mono ?_); rintro e w9 ⟨aO, rfl, ho0, hb⟩; refine ⟨_, rfl, ?_⟩; have am := A_ (Kd.R_lower (Kd.R_new' ho0 (Kd.R_lt (ea ad))) (below_size (el HB))); replace ad := eE ad ho0 hb; replace HB := eS HB hb; obtain ⟨av, ap, aD⟩ := Kd.R_slice am.out; subst aD))
    go_loopg [20] k1 (fun kq v20 w' => ∃ (af : List Int) (aa : Int), v20 = .int .i64 aa ∧ Aside0 (Xm.l1 kq l0 af ab (l0.length : Int) ab ac (ac.length : Int) aa = some r) ∧ Aside0 (kq ≤ k1) ∧ Aside0 (Kd.R (Kd.int .i64) 2 w' w.heap.size (fun k_ => some k_ ≠ ((.slice av ac.length ap) : Value).ownBlock) ao af) ∧ Aside0 (Kd.R (Kd.int .i64) 2 w' w.heap.size (fun k_ => some k_ ≠ (ao : Value).ownBlock) (.slice av ac.length ap) ac) ∧ Aside0 (Below w.heap.size w w'))
    case atStart => exact ⟨(ak), (0), Xm.Z1, H', ⟨Nat.le_refl _⟩, ⟨rX (Kd.R_mono ad.out (fun _ hk => hk.2))⟩, ⟨rX (Kd.R_mono am.out (fun _ hk => hk.2))⟩, ⟨el HB⟩⟩
    case round =>
     clear H'; obtain ⟨af, aa, rfl, HA, HK2, ad, ag, HB⟩ := hrel
     cases gk with
     | zero => exact absurd HA.out (by simp [Xm.l1])
     | succ k2 =>
      have H := HA.out; clear HA; simp only [Xm.l1] at H
      by_cases c11 : aa < (ac.length : Int)
      ·rw [if_pos c11] at H; have aw := decide_eq_true c11; clear c11
       replace H := iD H; obtain ⟨aG, H⟩ := H
       replace H := iD H; obtain ⟨aH, H⟩ := H
       replace H := iD H; obtain ⟨aI, H⟩ := H
       replace H := iD H; obtain ⟨aJ, H⟩ := H; obtain ⟨aq, ai⟩ : ∃ y_ : List Int, y_ = (af.set ((rd ac aa) : Int).toNat ab) := ⟨_, rfl⟩; replace H : (Xm.l1 k2 l0 aq ab (l0.length : Int) ab ac (ac.length : Int) (wrap64 (aa + 1))) = some r := eH ai H; have ax := A_ ai; clear ai; have H' := A_ H; clear H; have p395 : 0 ≤ (aa : Int) := of_decide_eq_true Xm.Z0; have q395 : aa < (ac.length : Int) := of_decide_eq_true Xm.Z0; obtain ⟨ay, e395, aB⟩ := Kd.at_int (Kd.R_reads' ag.out).2.2 aa p395 q395; cases e395; replace p395 := eq_true p395; replace q395 := eq_true q395; have p16 : 0 ≤ ((rd ac aa) : Int) := of_decide_eq_true Xm.Z0; have q16 : ((rd ac aa) : Int) < ((af.length : Int) : Int) := of_decide_eq_true Xm.Z0; obtain ⟨go16, ar, az, aA, gl16, cl16, HG16⟩ := Kd.R_form ad.out (by omega); (first | cases az | (injection az with ea_ en_ ec_; (first | subst ea_ | (injection ea_ with ea_; subst ea_)); subst ec_; clear en_)); have aE := A_ aA; have aP := A_ HG16; clear aA gl16 HG16; obtain ⟨aF, hf16_0⟩ := Kd.R_celln 0 ad.out ((rd ac aa) : Int) p16 q16; replace p16 := eq_true p16; replace q16 := eq_true q16; have HP17 := Kd.R_putg ad.out ((rd ac aa) : Int) ab
       go_wp2_with (first | ((with_reducible refine gate_store (t := 2) (p := 27) rfl ?_); refine store_event (t := 2) (p := 27) (v := ?vo_w18) (w1 := (wr.setCell ⟨go16, ((rd ac aa) : Int).toNat, none⟩ (.int .i64 ab))) ?hg ?ho ?hn ?hr ?_; (case ho => rfl); (case hg => rfl); (case hn => rfl); (case hr => first | (go_simp; done) | (go_simp; rfl)); intro w18 hw; have hg : wr.grownBy w18 (some go16) := (by rw [hw]; exact HP17.2); have hp_ : Kd.R (Kd.int .i64) 2 w18 w.heap.size (fun k_ => some k_ ≠ (.slice (some ay) ac.length ap : Value).ownBlock) (.slice (some ⟨go16, 0, none⟩) af.length ar) aq := (by rw [hw, ax.out]; exact HP17.1); clear HP17; replace ad := A_ hp_; replace ag := A_ (Kd.R_after (v := (.slice (some ⟨go16, 0, none⟩) af.length ar)) (v1 := (.slice (some ⟨go16, 0, none⟩) af.length ar)) (ok := (fun _ => True)) (rX (Kd.R_mono ag.out (fun _ hk => ⟨trivial, hk⟩))) hg (.inl rfl)); replace HB := A_ ((by rw [hw]; exact below_set (HB.out) aE.out : Below w.heap.size w w18)); clear hg hw hp_))
       go_roundg k2
       case measure => have := HK1.out; have := HK2.out; omega
       case rel => exact ⟨(aq), (wrap64 (aa + 1)), Xm.Z1, H', ⟨by have := HK1.out; have := HK2.out; omega⟩, ⟨es ad⟩, ⟨rX (Kd.R_mono ag.out (fun _ hk => hk.2))⟩, ⟨el HB⟩⟩
      ·rw [if_neg c11] at H; have aw := decide_eq_false c11; clear c11; have H' := A_ H; clear H
       go_wp2
       go_roundg k2
       case measure => have := HK1.out; have := HK2.out; omega
       case rel => exact ⟨(af), (wrap64 (ab + 1)), Xm.Z1, H', ⟨by have := HK1.out; have := HK2.out; omega⟩, ⟨rX (Kd.R_mono ad.out (fun _ hk => trivial))⟩, ⟨el HB⟩⟩
   ·rw [if_neg c7] at H; have aC := decide_eq_false c7; clear c7; obtain rfl := Option.some.inj H
    go_wp2
    go_ret
    exact ⟨_, er, rX (ad.out), el HB⟩

/-! ### slices_Index_int64_int64: function 135 -/
def Xr.l0 : Nat → List Int → Int → Int → Int → Option (Int)
  | 0, _, _, _, _ => none
  | k + 1, x0, x1, x7, x8 => if x8 < x7 then (if 0 ≤ x8 then (if x8 < (x0.length : Int) then (if x1 = (rd x0 x8) then (some x8) else (Xr.l0 k x0 x1 x7 (wrap64 (x8 + 1)))) else (none)) else (none)) else (some (-1))
def Xr.f (k : Nat) (l0 : List Int) (a1 : Int) : Option (Int) := Xr.l0 k l0 a1 (l0.length : Int) 0
theorem Xr.mono_l : ∀ k, (∀ y0 y1 y2 y3, LeO (Xr.l0 k y0 y1 y2 y3) (Xr.l0 (k + 1) y0 y1 y2 y3))
  | 0 => fun _ _ _ _ r h => by simp [Xr.l0] at h
  | k + 1 => by
    have ih0 := Xr.mono_l k
    · intro y0 y1 y2 y3
      unfold Xr.l0
      exact mW
theorem Xr.mono a0 a1 k : LeO (Xr.f k a0 a1) (Xr.f (k + 1) a0 a1) := by have ih0 := Xr.mono_l k; unfold Xr.f; exact mW
theorem Xr.Z0 {p : Prop} (h : p := by first | (with_reducible assumption) | assumption) : p := h
theorem Xr.Z1 {p : Prop} (h : p := by first | rfl | (simp; done) | (simp [*]; done)) : p := h
theorem Xr.calls (k : Nat) (A0 : Option Addr) (c0 : Nat) (l0 : List Int) (a1 : Int) (r : Int) (w : World) (hr0 : Kd.C (Kd.int .i64) w A0 l0.length l0) (hc0 : l0.length ≤ c0) (h : Xr.f k l0 a1 = some r) :
  Calls Try.prog 135 #[.slice A0 l0.length c0, .int .i64 a1] w fun e w' => e = .returned (.int .i64 r) ∧ Drawn0 w w' := by
 have HR0 := A_ hr0; have HC0 := A_ hc0; clear hr0 hc0; unfold Xr.f at h; have H := h; clear h; have H' := A_ H; clear H
 go_enter Try.func135, Try.ntmps135
 go_wp2
 go_loopg [8] k (fun kq v8 w' => ∃ (aa : Int), v8 = .int .i64 aa ∧ Aside0 (Xr.l0 kq l0 a1 (l0.length : Int) aa = some r) ∧ Aside0 (kq ≤ k) ∧ Drawn0 w w')
 case atStart => exact ⟨(0), Xr.Z1, H', ⟨Nat.le_refl _⟩, by repeat (first | exact Drawn0.refl _ | apply Drawn0.step)⟩
 case round =>
  clear H'; obtain ⟨aa, rfl, HA, HK1, ⟨m1, rfl⟩⟩ := hrel
  cases gk with
  | zero => exact absurd HA.out (by simp [Xr.l0])
  | succ k1 =>
   have H := HA.out; clear HA; simp only [Xr.l0] at H
   by_cases c3 : aa < (l0.length : Int)
   ·rw [if_pos c3] at H; have ad := decide_eq_true c3; clear c3
    replace H := iD H; obtain ⟨ag, H⟩ := H
    replace H := iD H; obtain ⟨ah, H⟩ := H
    by_cases c6 : a1 = (rd l0 aa)
    ·rw [if_pos c6] at H; obtain ⟨ae, af⟩ := bT c6; clear c6; obtain rfl := Option.some.inj H; have p397 : 0 ≤ (aa : Int) := of_decide_eq_true Xr.Z0; have q397 : aa < (l0.length : Int) := of_decide_eq_true Xr.Z0; obtain ⟨ac, e397, ab⟩ := Kd.at_int HR0.out aa p397 q397; cases e397; replace p397 := eq_true p397; replace q397 := eq_true q397
     go_wp2
     go_ret
     exact ⟨by first | rfl | (simp; done) | (simp [*]; done), by repeat (first | exact Drawn0.refl _ | apply Drawn0.step)⟩
    ·rw [if_neg c6] at H; obtain ⟨ae, af⟩ := bN c6; have H' := A_ H; clear H; have p397 : 0 ≤ (aa : Int) := of_decide_eq_true Xr.Z0; have q397 : aa < (l0.length : Int) := of_decide_eq_true Xr.Z0; obtain ⟨ac, e397, ab⟩ := Kd.at_int HR0.out aa p397 q397; cases e397; replace p397 := eq_true p397; replace q397 := eq_true q397
     go_wp2
     go_roundg k1
     case measure => have := HK1.out; omega
     case rel => exact ⟨(wrap64 (aa + 1)), Xr.Z1, H', ⟨by have := HK1.out; omega⟩, by repeat (first | exact Drawn0.refl _ | apply Drawn0.step)⟩
   ·rw [if_neg c3] at H; have ad := decide_eq_false c3; clear c3; obtain rfl := Option.some.inj H
    go_wp2
    go_ret
    exact ⟨by first | rfl | (simp; done) | (simp [*]; done), by repeat (first | exact Drawn0.refl _ | apply Drawn0.step)⟩

/-! ### slices_Reverse_int64_int64: function 136 -/
def Xd.l0 : Nat → List Int → Int → Int → Option (List Int)
  | 0, _, _, _ => none
  | k + 1, x0, x2, x3 => if x2 < x3 then (if 0 ≤ x3 then (if x3 < (x0.length : Int) then (if 0 ≤ x2 then (if x2 < (x0.length : Int) then (Xd.l0 k ((x0.set (x2 : Int).toNat (rd x0 x3)).set (x3 : Int).toNat (rd x0 x2)) (wrap64 (x2 + 1)) (wrap64 (x3 - 1))) else (none)) else (none)) else (none)) else (none)) else (some x0)
def Xd.f (k : Nat) (l0 : List Int) : Option (List Int) := Xd.l0 k l0 0 (wrap64 ((l0.length : Int) - 1))
theorem Xd.mono_l : ∀ k, (∀ y0 y1 y2, LeO (Xd.l0 k y0 y1 y2) (Xd.l0 (k + 1) y0 y1 y2))
  | 0 => fun _ _ _ r h => by simp [Xd.l0] at h
  | k + 1 => by
    have ih0 := Xd.mono_l k
    · intro y0 y1 y2
      unfold Xd.l0
      exact mW
theorem Xd.mono a0 k : LeO (Xd.f k a0) (Xd.f (k + 1) a0) := by have ih0 := Xd.mono_l k; unfold Xd.f; exact mW
def Xd.T3 : Bool × List (List Nat × List Nat) := (true, [([], []), ([], []), ([], []), ([], []), ([], []), ([], []), ([4, 5], [4, 5]), ([6], [6]), ([], []), ([], []), ([8, 9], [8, 9]), ([10], [10]), ([0, 1, 0, 1, 4, 5, 6, 7, 11], [0, 1]), ([12, 7, 0, 1, 4, 5, 6, 7, 11], [7, 12]), ([2, 3, 0, 1, 2, 3, 4, 5, 6, 7, 8, 9, 10, 11, 12, 13], [2, 3]), ([14, 11, 13, 0, 1, 2, 3, 4, 5, 6, 7, 8, 9, 10, 11, 12, 13], [11, 14])])
def Xd.B3 : List Nat := [0, 0, 0, 0, 0, 0, 48, 112, 0, 0, 768, 1792, 4083, 8179, 16383, 32767]
theorem Xd.tab3 : rtab .any (opsOf Try.f136 3) = Xd.T3 := by kernel_rfl
theorem Xd.bits3 : waitsOk Xd.T3.2 Xd.B3 = true := by kernel_rfl
theorem Xd.Z0 {p : Prop} (h : p := by first | (with_reducible assumption) | assumption) : p := h
theorem Xd.Z1 {p : Prop} (h : p := by first | rfl | (simp; done) | (simp [*]; done)) : p := h
theorem Xd.calls (k : Nat) (P0_ : Nat → Prop) (u9000_ : Value) (l0 : List Int) (r : List Int) (w0 w : World) (hB : Below w0.heap.size w0 w) (ho0 : Kd.R (Kd.int .i64) 2 w w0.heap.size P0_ u9000_ l0) (h : Xd.f k l0 = some r) :
  Calls Try.prog 136 #[u9000_] w fun e w' => e = .returned (.tuple #[]) ∧ Kd.R (Kd.int .i64) 2 w' w0.heap.size (fun k_ => (P0_ k_ ∨ w.heap.size ≤ k_)) u9000_ r ∧ Below w0.heap.size w0 w' ∧ Kept w w' (fun k_ => P0_ k_) := by
 have au := A_ (show Kd.R (Kd.int .i64) 2 w w0.heap.size (fun k_ => (P0_ k_ ∨ w.heap.size ≤ k_)) u9000_ l0 from Kd.R_mono ho0 (fun k_ hk => (.inl hk))); have HK := A_ (Kept.refl w (fun k_ => P0_ k_)); have HW0 := A_ hB.size; have HB := A_ hB; clear hB; unfold Xd.f at h; have H := h; clear h; have H' := A_ H; clear H; obtain ⟨ax, ay, az⟩ := Kd.R_slice au.out; subst az
 go_enter Try.func136, Try.ntmps136
 go_wp2
 go_loopg [2, 3] k (fun kq v2 v3 w' => ∃ (ac : List Int) (aa : Int) (ab : Int), v2 = .int .i64 aa ∧ v3 = .int .i64 ab ∧ Aside0 (Xd.l0 kq ac aa ab = some r) ∧ Aside0 (kq ≤ k) ∧ Aside0 (Kd.R (Kd.int .i64) 2 w' w0.heap.size (fun k_ => (P0_ k_ ∨ w.heap.size ≤ k_)) (.slice ax l0.length ay) ac) ∧ Aside0 (Kept w w' (fun k_ => P0_ k_)) ∧ Aside0 (Below w0.heap.size w0 w'))
 case atStart => exact ⟨(l0), (0), (wrap64 ((l0.length : Int) - 1)), Xd.Z1, Xd.Z1, H', ⟨Nat.le_refl _⟩, ⟨ea au⟩, ⟨by repeat (first | (with_reducible first | exact HK.out | apply Kept.alloc | apply Kept.drewN | apply Kept.drew) | exact HK.out)⟩, ⟨el HB⟩⟩
 case round =>
  clear H'; obtain ⟨ac, aa, ab, rfl, rfl, HA, HK1, ad, HK, HB⟩ := hrel; have hl0_1 := (Kd.R_reads' ad.out).1; rw [hl0_1] at ad; (try simp only [hl0_1])
  cases gk with
  | zero => exact absurd HA.out (by simp [Xd.l0])
  | succ k1 =>
   have H := HA.out; clear HA; simp only [Xd.l0] at H
   by_cases c3 : aa < ab
   ·rw [if_pos c3] at H; have ar := decide_eq_true c3; clear c3
    replace H := iD H; obtain ⟨aA, H⟩ := H
    replace H := iD H; obtain ⟨aB, H⟩ := H
    replace H := iD H; obtain ⟨aC, H⟩ := H
    replace H := iD H; obtain ⟨aD, H⟩ := H; obtain ⟨aj, ag⟩ : ∃ y_ : List Int, y_ = (ac.set (aa : Int).toNat (rd ac ab)) := ⟨_, rfl⟩; replace H : (Xd.l0 k1 (aj.set (ab : Int).toNat (rd ac aa)) (wrap64 (aa + 1)) (wrap64 (ab - 1))) = some r := eH ag H; have ak := A_ ag; clear ag; obtain ⟨al, ah⟩ : ∃ y_ : List Int, y_ = (aj.set (ab : Int).toNat (rd ac aa)) := ⟨_, rfl⟩; replace H : (Xd.l0 k1 al (wrap64 (aa + 1)) (wrap64 (ab - 1))) = some r := eH ah H; have am := A_ ah; clear ah; have H' := A_ H; clear H
    try go_wp2
    replace ad := rD ad; replace HK := A_ (Kept.drew HK.out); replace HB := wD HB; have p398 : 0 ≤ (ab : Int) := of_decide_eq_true Xd.Z0; have q398 : ab < (ac.length : Int) := of_decide_eq_true Xd.Z0; obtain ⟨an, e398, ae⟩ := Kd.at_int (Kd.R_reads' ad.out).2.2 ab p398 q398; cases e398; replace p398 := eq_true p398; replace q398 := eq_true q398; have p399 : 0 ≤ (aa : Int) := of_decide_eq_true Xd.Z0; have q399 : aa < (ac.length : Int) := of_decide_eq_true Xd.Z0; obtain ⟨ao, e399, af⟩ := Kd.at_int (Kd.R_reads' ad.out).2.2 aa p399 q399; obtain rfl : an = ao := (by injection e399); replace p399 := eq_true p399; replace q399 := eq_true q399; have p8 : 0 ≤ (aa : Int) := of_decide_eq_true Xd.Z0; have q8 : (aa : Int) < ((ac.length : Int) : Int) := of_decide_eq_true Xd.Z0; obtain ⟨go8, aF, av, aw, gl8, cl8, HG8⟩ := Kd.R_form ad.out (by omega); (first | cases av | (injection av with ea_ en_ ec_; (first | subst ea_ | (injection ea_ with ea_; subst ea_)); subst ec_; clear en_)); have aG := A_ aw; have aE := A_ HG8; clear aw gl8 HG8; have ai := A_ (show (P0_ go8 ∨ w.heap.size ≤ go8) from (ad.out.1 _ rfl)); (first | simp only [add_plain] at ae | skip); (first | simp only [add_plain] at af | skip); obtain ⟨ap, hf8_0⟩ := Kd.R_celln 0 ad.out (aa : Int) p8 q8; replace p8 := eq_true p8; replace q8 := eq_true q8; have HP11 := Kd.R_putn ad.out (aa : Int) (rd ac ab); rw [← ak.out] at HP11; have HQ11 := A_ HP11; clear HP11; have p9 : 0 ≤ (ab : Int) := of_decide_eq_true Xd.Z0; have q9 : (ab : Int) < ((ac.length : Int) : Int) := of_decide_eq_true Xd.Z0; obtain ⟨aq, hf9_0⟩ := Kd.R_celln 0 HQ11.out (ab : Int) p9 q9; replace p9 := eq_true p9; replace q9 := eq_true q9; have HP12 := Kd.R_putn HQ11.out (ab : Int) (rd ac aa); rw [← am.out] at HP12; have HQ12 := A_ HP12; clear HP12; refine start_ (n := 16) (S := fun w' => w'.cell? ⟨go8, (ab).toNat, none⟩ = some (.int .i64 (rd ac ab)) ∧ w'.cell? ⟨go8, (aa).toNat, none⟩ = some (.int .i64 (rd ac aa))) (ds := [13, 15]) (bM 16 0) (by kernel_rfl) rfl rfl ⟨ae, af⟩ (fun hHeld => ?_); refine with_tabW Xd.tab3 Xd.bits3 (fun HT_ HW_ => ?_)
    generalize wr.drew = w10 at ad HK HB aE HQ11 HQ12 hf8_0 hf9_0 ae af ap aq hHeld ⊢; refine pA 0 14 (bM 16 1) HT_ ?_; refine pA 1 15 (bM 16 3) HT_ ?_; refine pA 2 16 (bM 16 7) HT_ ?_; refine pA 3 17 (bM 16 15) HT_ ?_; refine pA 4 18 (bM 16 31) HT_ ?_; refine pA 5 19 (bM 16 63) HT_ ?_; refine pA 6 20 (bM 16 127) HT_ ?_; refine pA 8 22 (bM 16 383) HT_ ?_; refine pA 9 23 (bM 16 895) HT_ ?_; refine pA 10 24 (bM 16 1919) HT_ ?_; refine tA 7 21 (bM 16 2047) HT_ HW_ hHeld ?_; refine tA 11 25 (bM 16 4095) HT_ HW_ hHeld ?_; refine pA 12 26 (bM 16 8191) HT_ ?_; refine last_ (i := 13) (N := none) (bM 16 16383) rfl rfl (one_of HT_.out (by kernel_rfl)) (by decide) (fun K hK => ?_); refine skip_ (w1 := ?_) (by rfl) rfl ?_ ?_; rotate_left
    ·go_simp; rfl
    refine hK.out _ _ ?_; clear hK K; refine pA 14 27 (bM 16 32767) HT_ ?_; refine last_ (i := 15) (N := none) (bM 16 65535) rfl rfl (one_of HT_.out (by kernel_rfl)) (by decide) (fun K hK => ?_); refine skip_ (w1 := ?_) (by rfl) rfl ?_ ?_; rotate_left
    ·go_simp; rfl
    refine hK.out _ _ ?_; clear hK K; refine done_ (done_of HT_.out (by kernel_rfl)) ?_
    try go_wp2
    (try simp only [← hl0_1])
    go_roundg k1
    case measure => have := HK1.out; omega
    case rel => exact ⟨(al), (wrap64 (aa + 1)), (wrap64 (ab - 1)), Xd.Z1, Xd.Z1, H', ⟨by have := HK1.out; omega⟩, ⟨by (try simp only [hl0_1]); (with_reducible repeat (first | apply Kd.R_alloc | apply Kd.R_drewN | apply Kd.R_drew)); exact HQ12.out⟩, ⟨by repeat (first | (with_reducible first | exact HK.out | apply Kept.alloc | apply Kept.drewN | apply Kept.drew | refine Kept.setCell ?_ ai.out _ | refine Kept.setCell ?_ ai.out _) | exact HK.out)⟩, ⟨el HB⟩⟩
   ·rw [if_neg c3] at H; have ar := decide_eq_false c3; clear c3; obtain rfl := Option.some.inj H
    go_wp2
    first | go_end0 | ((try simp only [Exit.inBlock, Exit.then]); refine bodyPost_ret (results_none rfl _ _ _) rfl ?_)
    exact ⟨er, (by first | exact (ea ad) | (simp only [hl0_1]; exact (ea ad))), el HB, by repeat (first | (with_reducible first | exact HK.out | apply Kept.alloc | apply Kept.drewN | apply Kept.drew) | exact HK.out)⟩

/-! ### impl_AddressOf: function 41 -/
def Xan.l0 : Nat → Int → List Int → List Int → List Int → Option (List Int × Int)
  | 0, _, _, _, _ => none
  | k + 1, x1, x7, x8, x403000 => if x1 > 0 then (if 0 ≤ x1 then (if x1 < (x8.length : Int) then ((Xam.f k x403000 (rd x8 x1)).bind fun t415 => ((Xr.f k t415 x1).bind fun t418 => (if x7.length < 17592186044416 then (Xan.l0 k (rd x8 x1) (x7 ++ [t418]) x8 x403000) else (none)))) else (none)) else (none)) else ((Xd.f k x7).bind fun t413 => (some (t413, 0)))
def Xan.f (k : Nat) (l0_0 : List Int) (a1 : Int) : Option (List Int × Int) := (Xj.f k l0_0 (([a1] : List Int))).bind fun t406 => (if t406 = 0 then ((Xm.f k l0_0).bind fun t410 => (Xan.l0 k a1 (([] : List Int)) t410 l0_0)) else (some (([] : List Int), t406)))
theorem Xan.mono_l : ∀ k, (∀ y0 y1 y2 y3, LeO (Xan.l0 k y0 y1 y2 y3) (Xan.l0 (k + 1) y0 y1 y2 y3))
  | 0 => fun _ _ _ _ r h => by simp [Xan.l0] at h
  | k + 1 => by
    have ih0 := Xan.mono_l k
    · intro y0 y1 y2 y3
      unfold Xan.l0
      have := Xam.mono; have := Xm.mono; have := Xj.mono; have := Xr.mono; have := Xd.mono; exact mW
theorem Xan.mono a0 a1 k : LeO (Xan.f k a0 a1) (Xan.f (k + 1) a0 a1) := by have ih0 := Xan.mono_l k; unfold Xan.f; have := Xam.mono; have := Xm.mono; have := Xj.mono; have := Xr.mono; have := Xd.mono; exact mW
theorem Xan.Z0 {p : Prop} (h : p := by first | (with_reducible assumption) | assumption) : p := h
theorem Xan.Z1 {p : Prop} (h : p := by first | rfl | (simp; done) | (simp [*]; done)) : p := h
theorem Xan.calls (k : Nat) (A0_0 : Option Addr) (c0_0 : Nat) (l0_0 : List Int) (a1 : Int) (r1 : List Int) (r2 : Int) (w : World) (hr0_0 : Kd.C (Kd.int .i64) w A0_0 l0_0.length l0_0) (hc0_0 : l0_0.length ≤ c0_0) (h : Xan.f k l0_0 a1 = some (r1, r2)) :
  Calls Try.prog 41 #[.agg #[.slice A0_0 l0_0.length c0_0], .int .i64 a1] w fun e w' => ∃ v0_ : Value, e = .returned (.tuple #[v0_, .int .i64 r2]) ∧ Kd.R (Kd.int .i64) 2 w' w.heap.size (fun _ => True) v0_ r1 ∧ Below w.heap.size w w' := by
 have hu26 := Try.underlying26; have ai := A_ hr0_0; have aj := A_ hc0_0; clear hr0_0 hc0_0; have HB := A_ (Below.refl w.heap.size w); unfold Xan.f at h; have H := h; clear h; obtain ⟨an, ao⟩ : ∃ y_ : List Int, y_ = (([a1] : List Int)) := ⟨_, rfl⟩; replace H : ((Xj.f k l0_0 an).bind fun am => (if am = 0 then ((Xm.f k l0_0).bind fun ac => (Xan.l0 k a1 (([] : List Int)) ac l0_0)) else (some (([] : List Int), am)))) = some (r1, r2) := eH ao H; have ak := A_ ao; clear ao; replace H := oB H; obtain ⟨am, A3, H⟩ := H
 by_cases c4 : am = 0
 ·rw [if_pos c4] at H; obtain ⟨aZ, a0⟩ := bT c4; clear c4; obtain ⟨aD, ap⟩ : ∃ y_ : List Int, y_ = (([] : List Int)) := ⟨_, rfl⟩; replace H : ((Xm.f k l0_0).bind fun ac => (Xan.l0 k a1 aD ac l0_0)) = some (r1, r2) := eH ap H; have ay := A_ ap; clear ap; replace H := oB H; obtain ⟨ac, A5, H⟩ := H; have H' := A_ H; clear H
  go_enter Try.func41, Try.ntmps41
  go_wp2_with (first | ((with_reducible refine gD 2 ?_); refine bX 2 #[.slice A0_0 l0_0.length c0_0] 26 HB ?_; clear HB; intro aq w6 aa aE HB hb hg; clear hb hg; have a2 := bC aa; have a3 := bF aa) | ((with_reducible refine gD 12 ?_); refine Kd.R_lit (Kd.int .i64) _ 2 ?hg (N := 12) ?hd (xs := ([a1] : List Int)) (inner := [.int .i64 a1]) (ok := fun _ => True) (okp := fun _ => True) ?hr ?hp (fun _ hk => hk) trivial (Below.refl _ _) (Nat.le_refl _) (by simp) ?_; (case hd => rfl); (case hg => rfl); (case hr => first | (go_simp; done) | (go_simp; rfl)); (case hp => exact (Reps.one (show Kd.M (Kd.int .i64) _ _ _ a1 [.int .i64 a1] from rfl) (Reps.none _ _))); intro a4 w8 ho9 hb hg_ hnew_; clear hg_ hnew_; (first | rw [← ak.out] at ho9 | (simp only [Int.reduceToNat] at ho9; rw [← ak.out] at ho9)); have ab := eV ho9 HB; replace aa := eK aa hb; replace HB := eS HB hb; clear hb ho9; obtain ⟨a5, a6, a7⟩ := Kd.R_slice ab.out; subst a7) | ((with_reducible refine gC 117 ?_); refine gL 13 Try.func117 #[.agg #[.slice A0_0 l0_0.length c0_0], .slice a5 an.length a6] ((Xj.calls k _ _ l0_0 _ _ an am _ (cS (Kd.C_below ai.out HB.out)) aj.out (cS ((Kd.R_reads' ab.out).2.2)) ((Kd.R_reads' ab.out).2.1) A3.out).mono ?_); rintro e w11 ⟨rfl, hb⟩; refine ⟨_, rfl, ?_⟩; replace ab := eR ab hb; replace aa := eK aa hb; replace HB := eS HB hb) | ((with_reducible refine gD 17 ?_); refine Kd.R_lit (Kd.int .i64) _ 2 ?hg (N := 17) ?hd (xs := ([] : List Int)) (inner := []) (ok := fun _ => True) (okp := fun _ => True) ?hr ?hp (fun _ hk => hk) trivial (Below.refl _ _) (Nat.le_refl _) (by simp) ?_; (case hd => rfl); (case hg => rfl); (case hr => first | (go_simp; done) | (go_simp; rfl)); (case hp => exact (Reps.none _ _)); intro bi w12 ho13 hb hg_ hnew_; clear hg_ hnew_; (first | rw [← ay.out] at ho13 | (simp only [Int.reduceToNat] at ho13; rw [← ay.out] at ho13)); have al := A_ (Kd.R_lower (Kd.R_new' ho13 (Kd.R_lt (ea ab))) (below_size (el HB))); replace ab := eE ab ho13 hb; replace aa := eK aa hb; replace HB := eS HB hb; clear hb ho13; have aR := bC aa; have aT := bF aa) | ((with_reducible refine gC 104 ?_); refine gL 20 Try.func104 #[.slice A0_0 l0_0.length c0_0] ((Xm.calls k _ _ l0_0 ac _ (cS (Kd.C_below ai.out HB.out)) aj.out A5.out).mono ?_); rintro e w15 ⟨aG, rfl, ho0, hb⟩; refine ⟨_, rfl, ?_⟩; have aH := A_ (Kd.R_lower (Kd.R_new' (Kd.R_new' ho0 (Kd.R_lt (ea ab))) (Kd.R_lt (ea al))) (below_size (el HB))); replace ab := eE ab ho0 hb; replace al := eE al ho0 hb; replace aa := eK aa hb; replace HB := eS HB hb))
  go_loopg [1, 7] k (fun kq v1 v7 w' => ∃ (ad : Int) (ag : List Int), v1 = .int .i64 ad ∧ Aside0 (Xan.l0 kq ad ag ac l0_0 = some (r1, r2)) ∧ Aside0 (kq ≤ k) ∧ Aside0 (Kd.R (Kd.int .i64) 2 w' w.heap.size (fun k_ => some k_ ≠ (aG : Value).ownBlock) v7 ag) ∧ Aside0 (Kd.R (Kd.int .i64) 2 w' w.heap.size (fun k_ => some k_ ≠ (v7 : Value).ownBlock) aG ac) ∧ Aside0 (w'.heap[aq]? = some (.cells #[(.slice A0_0 l0_0.length c0_0)] 26 (0, 0))) ∧ Aside0 (Below w.heap.size w w'))
  case atStart => exact ⟨(a1), (aD), Xan.Z1, H', ⟨Nat.le_refl _⟩, ⟨rX (Kd.R_mono al.out (fun _ hk => hk.2))⟩, ⟨rX (Kd.R_mono aH.out (fun _ hk => hk.2))⟩, ⟨eb aa⟩, ⟨el HB⟩⟩
  case round =>
   clear H'; obtain ⟨ad, ag, rfl, HA, HK1, ae, af, aa, HB⟩ := hrel
   cases gk with
   | zero => exact absurd HA.out (by simp [Xan.l0])
   | succ k1 =>
    have H := HA.out; clear HA; simp only [Xan.l0] at H
    by_cases c16 : ad > 0
    ·rw [if_pos c16] at H; have aI := decide_eq_true c16; clear c16
     replace H := iD H; obtain ⟨bg, H⟩ := H
     replace H := iD H; obtain ⟨bh, H⟩ := H; replace H := oB H; obtain ⟨ar, A19, H⟩ := H; replace H := oB H; obtain ⟨av, A20, H⟩ := H
     replace H := iL H; obtain ⟨aJ, H⟩ := H; obtain ⟨aK, au⟩ : ∃ y_ : List Int, y_ = (ag ++ [av]) := ⟨_, rfl⟩; replace H : (Xan.l0 k1 (rd ac ad) aK ac l0_0) = some (r1, r2) := eH au H; have aM := A_ au; clear au; have H' := A_ H; clear H; obtain ⟨bj, aN, a8⟩ := Kd.R_slice af.out; subst a8; have p414 : 0 ≤ (ad : Int) := of_decide_eq_true Xan.Z0; have q414 : ad < (ac.length : Int) := of_decide_eq_true Xan.Z0; obtain ⟨az, e414, aU⟩ := Kd.at_int (Kd.R_reads' af.out).2.2 ad p414 q414; cases e414; replace p414 := eq_true p414; replace q414 := eq_true q414; have aV := bC aa; have aW := bF aa
     go_wp2_with (first | ((with_reducible refine gC 118 ?_); refine gL 31 Try.func118 #[.slice A0_0 l0_0.length c0_0, .int .i64 (rd ac ad)] ((Xam.calls k1 _ _ l0_0 (rd ac ad) ar _ (cS (Kd.C_below ai.out HB.out)) aj.out A19.out).mono ?_); rintro e w24 ⟨bk, rfl, ho0, hb⟩; refine ⟨_, rfl, ?_⟩; have ah := A_ (Kd.R_lower (Kd.R_new' (Kd.R_new' ho0 (Kd.R_lt (ea ae))) (Kd.R_lt (ea af))) (below_size (el HB))); replace ae := eE ae ho0 hb; replace af := eE af ho0 hb; replace aa := eK aa hb; replace HB := eS HB hb; obtain ⟨aA, aC, a9⟩ := Kd.R_slice ah.out; subst a9) | ((with_reducible refine gC 135 ?_); refine gL 33 Try.func135 #[.slice aA ar.length aC, .int .i64 ad] ((Xr.calls k1 _ _ ar ad av _ (cS ((Kd.R_reads' ah.out).2.2)) ((Kd.R_reads' ah.out).2.1) A20.out).mono ?_); rintro e w' ⟨rfl, ⟨nd, rfl⟩⟩; refine ⟨_, rfl, ?_⟩) | ((with_reducible refine gate_builtin (b := .append) (xs := #[.tmp 27, .tmp 34]) rfl ?_); at_builtin; refine Kd.R_append (Kd.int .i64) (w0 := w) w.heap.size rfl (.tmp 27) (.tmp 34) 24 2 (.int .i64 0) 8 rfl Try.underlying24 info2 rfl (by decide) (by omega) u7 ag av [.int .i64 av] (fun k_ => some k_ ≠ (.slice (some az) ac.length aN : Value).ownBlock ∧ some k_ ≠ (.slice aA ar.length aC : Value).ownBlock) (fun _ => False) rfl rfl ?aP (fun _ hk => hk.elim) ?aF ?aO ?aB ?aS ?aL ?_; (case aP => exact rfl); (case aB => exact (el HB)); (case aF => exact (fun k_ hk => ⟨Kd.fresh' (Kd.R_lt (ea af)) k_ hk, Kd.fresh' (Kd.R_lt (ea ah)) k_ hk⟩)); (case aO => exact (ea ae)); (case aS => exact (below_size (el HB))); (case aL => have := aJ.out; omega); intro bl w26 ho hb hg hat; rw [← aM.out] at ho; replace af := A_ (Kd.R_after (ok := (fun k_ => some k_ ≠ (.slice aA ar.length aC : Value).ownBlock)) (rX (Kd.R_mono af.out (fun _ hk => ⟨hk.2, hk.1⟩))) hg hat); replace aa := A_ (blk_grown (g := aq) (o := .cells #[.slice A0_0 l0_0.length c0_0] 26 (0, 0)) (eb aa) hg (Kd.R_ne ae.out aa.out (by decide))); replace ah := A_ (Kd.R_after (ok := (fun k_ => some k_ ≠ (.slice (some az) ac.length aN : Value).ownBlock)) (rX (Kd.R_mono ah.out (fun _ hk => ⟨hk.2, hk.1.2⟩))) hg hat); replace HB := A_ hb; have aQ := A_ ho; clear ae; clear ho hb hg hat))
     go_roundg k1
     case measure => have := HK1.out; omega
     case rel => exact ⟨(rd ac ad), (aK), Xan.Z1, H', ⟨by have := HK1.out; omega⟩, ⟨rX (Kd.R_mono aQ.out (fun _ hk => hk.1))⟩, ⟨rX (Kd.R_mono af.out (fun _ hk => hk.2))⟩, ⟨eb aa⟩, ⟨el HB⟩⟩
    ·rw [if_neg c16] at H; have aI := decide_eq_false c16; clear c16; replace H := oB H; obtain ⟨ba, A27, H⟩ := H; simp only [Option.some.injEq, Prod.mk.injEq] at H; obtain ⟨rfl, rfl⟩ := H; obtain ⟨aw, ax, bb⟩ := Kd.R_slice ae.out; subst bb
     go_wp2_with (first | ((with_reducible refine gC 136 ?_); refine gL 38 Try.func136 #[.slice aw ag.length ax] ((Xd.calls k1 (fun k_ => some k_ = (.slice aw ag.length ax : Value).ownBlock) (.slice aw ag.length ax) ag ba w _ (el HB) (Kd.R_tight rfl ae.out) A27.out).mono ?_); rintro e w29 ⟨rfl, hy0, hb, hkp⟩; refine ⟨_, rfl, ?_⟩; replace af := A_ (Kd.R_mono (ok' := fun k_ => some k_ ≠ (.slice aw ag.length ax : Value).ownBlock) (Kd.R_keptB (af.out) hkp (fun k_ hk_ hs_ => (hk_) hs_)) (fun k_ hk_ => hk_.1)); replace aa := A_ (blk_kept (eb aa) hkp (fun hs_ => (fun e_ => (Kd.R_ne ae.out aa.out (by decide)) e_) hs_)); replace ae := A_ (Kd.R_reok rfl hy0 (fun k_ e_ => ae.out.1 k_ e_)); replace HB := A_ hb; (try clear hkp); (try clear hy0)))
     go_ret2
     exact ⟨_, er, rX (Kd.R_mono ae.out (fun _ hk => trivial)), el HB⟩
 ·rw [if_neg c4] at H; obtain ⟨aZ, a0⟩ := bN c4; simp only [Option.some.injEq, Prod.mk.injEq] at H; obtain ⟨rfl, rfl⟩ := H
  go_enter Try.func41, Try.ntmps41
  go_wp2_with (first | ((with_reducible refine gD 2 ?_); refine bX 2 #[.slice A0_0 l0_0.length c0_0] 26 HB ?_; clear HB; intro aq w30 aa aE HB hb hg; clear hb hg; have aX := bC aa; have aY := bF aa) | ((with_reducible refine gD 12 ?_); refine Kd.R_lit (Kd.int .i64) _ 2 ?hg (N := 12) ?hd (xs := ([a1] : List Int)) (inner := [.int .i64 a1]) (ok := fun _ => True) (okp := fun _ => True) ?hr ?hp (fun _ hk => hk) trivial (Below.refl _ _) (Nat.le_refl _) (by simp) ?_; (case hd => rfl); (case hg => rfl); (case hr => first | (go_simp; done) | (go_simp; rfl)); (case hp => exact (Reps.one (show Kd.M (Kd.int .i64) _ _ _ a1 [.int .i64 a1] from rfl) (Reps.none _ _))); intro a4 w32 ho33 hb hg_ hnew_; clear hg_ hnew_; (first | rw [← ak.out] at ho33 | (simp only [Int.reduceToNat] at ho33; rw [← ak.out] at ho33)); have ab := eV ho33 HB; replace aa := eK aa hb; replace HB := eS HB hb; clear hb ho33; obtain ⟨bd, be, bf⟩ := Kd.R_slice ab.out; subst bf) | ((with_reducible refine gC 117 ?_); refine gL 13 Try.func117 #[.agg #[.slice A0_0 l0_0.length c0_0], .slice bd an.length be] ((Xj.calls k _ _ l0_0 _ _ an am _ (cS (Kd.C_below ai.out HB.out)) aj.out (cS ((Kd.R_reads' ab.out).2.2)) ((Kd.R_reads' ab.out).2.1) A3.out).mono ?_); rintro e w35 ⟨rfl, hb⟩; refine ⟨_, rfl, ?_⟩; replace ab := eR ab hb; replace aa := eK aa hb; replace HB := eS HB hb))
  go_ret2
  exact ⟨_, er, by first | exact Kd.R_nil _ _ _ _ _ | exact Kd.N_nil _ _ _ _ _ | exact Kd.V_nil _ _ _ _ _ | exact Kd.Q_nil _ _ _ _ _ | exact Kd.S_nil _ _ _ _ _, el HB⟩

/-! ### impl_NodeAt: function 42 -/
mutual
def Xac.l0 : Nat → List Int → List Int → Int → Int → List Int → Option (Int × Int)
  | 0, _, _, _, _, _ => none
  | k + 1, x1, x17, x18, x19, x423000 => if x19 < x18 then (if 0 ≤ x19 then (if x19 < (x17.length : Int) then (if (rd x17 x19) < 0 then (some (0, 2)) else (Xac.l0 k x1 x17 x18 (wrap64 (x19 + 1)) x423000)) else (none)) else (none)) else (Xac.l1 k 0 x1 (x1.length : Int) 0 x423000)
def Xac.l1 : Nat → Int → List Int → Int → Int → List Int → Option (Int × Int)
  | 0, _, _, _, _, _ => none
  | k + 1, x8, x26, x27, x28, x423000 => if x28 < x27 then (if 0 ≤ x28 then (if x28 < (x26.length : Int) then (if 0 ≤ x8 then (if x8 < (x423000.length : Int) then (if (rd x26 x28) ≥ (rd x423000 x8) then (some (0, 4)) else ((Xam.f k x423000 x8).bind fun t427 => (if 0 ≤ (rd x26 x28) then (if (rd x26 x28) < (t427.length : Int) then (Xac.l1 k (rd t427 (rd x26 x28)) x26 x27 (wrap64 (x28 + 1)) x423000) else (none)) else (none)))) else (none)) else (none)) else (none)) else (none)) else (some (x8, 0))
end
def Xac.f (k : Nat) (l0_0 : List Int) (l1 : List Int) : Option (Int × Int) := (Xav.f k l0_0).bind fun t423 => (if t423 = true then (if (l1.length : Int) > 24 then (some (0, 2)) else (Xac.l0 k l1 l1 (l1.length : Int) 0 l0_0)) else (some (0, 1)))
theorem Xac.mono_l : ∀ k, (∀ y0 y1 y2 y3 y4, LeO (Xac.l0 k y0 y1 y2 y3 y4) (Xac.l0 (k + 1) y0 y1 y2 y3 y4)) ∧ (∀ y0 y1 y2 y3 y4, LeO (Xac.l1 k y0 y1 y2 y3 y4) (Xac.l1 (k + 1) y0 y1 y2 y3 y4))
  | 0 => ⟨fun _ _ _ _ _ r h => by simp [Xac.l0] at h, fun _ _ _ _ _ r h => by simp [Xac.l1] at h⟩
  | k + 1 => by
    obtain ⟨ih0, ih1⟩ := Xac.mono_l k
    refine ⟨?_, ?_⟩
    · intro y0 y1 y2 y3 y4
      unfold Xac.l0
      have := Xav.mono; have := Xam.mono; exact mW
    · intro y0 y1 y2 y3 y4
      unfold Xac.l1
      have := Xav.mono; have := Xam.mono; exact mW
theorem Xac.mono : ∀ a0 a1 k, LeO (Xac.f k a0 a1) (Xac.f (k + 1) a0 a1) := by
  intro a0 a1 k
  obtain ⟨ih0, ih1⟩ := Xac.mono_l k
  unfold Xac.f
  have := Xav.mono; have := Xam.mono; exact mW
theorem Xac.Z0 {p : Prop} (h : p := by first | (with_reducible assumption) | assumption) : p := h
theorem Xac.Z1 {p : Prop} (h : p := by first | rfl | (simp; done) | (simp [*]; done)) : p := h
theorem Xac.calls (k : Nat) (A0_0 : Option Addr) (c0_0 : Nat) (l0_0 : List Int) (A1 : Option Addr) (c1 : Nat) (l1 : List Int) (r1 : Int) (r2 : Int) (w : World) (hr0_0 : Kd.C (Kd.int .i64) w A0_0 l0_0.length l0_0) (hc0_0 : l0_0.length ≤ c0_0) (hr1 : Kd.C (Kd.int .i64) w A1 l1.length l1) (hc1 : l1.length ≤ c1) (h : Xac.f k l0_0 l1 = some (r1, r2)) :
  Calls Try.prog 42 #[.agg #[.slice A0_0 l0_0.length c0_0], .slice A1 l1.length c1] w fun e w' => e = .returned (.tuple #[.int .i64 r1, .int .i64 r2]) ∧ Below w.heap.size w w' := by
 have hu26 := Try.underlying26; have ah := A_ hr0_0; have ai := A_ hc0_0; clear hr0_0 hc0_0; have HR1 := A_ hr1; have HC1 := A_ hc1; clear hr1 hc1; have HB := A_ (Below.refl w.heap.size w); unfold Xac.f at h; have H := h; clear h; replace H := oB H; obtain ⟨aF, A3, H⟩ := H
 by_cases c4 : aF = true
 ·subst c4; rw [if_pos rfl] at H
  by_cases c5 : (l1.length : Int) > 24
  ·rw [if_pos c5] at H; have aG := decide_eq_true c5; have aH : decide (24 < l1.length) = true := decide_eq_true (by omega); clear c5; simp only [Option.some.injEq, Prod.mk.injEq] at H; obtain ⟨rfl, rfl⟩ := H
   go_enter Try.func42, Try.ntmps42
   go_wp2_with (first | ((with_reducible refine gD 2 ?_); refine bX 2 #[.slice A0_0 l0_0.length c0_0] 26 HB ?_; clear HB; intro aj w6 aa ak HB hb hg; clear hb hg; have aI := bC aa; have aJ := bF aa) | ((with_reducible refine gC 24 ?_); refine gL 12 Try.func24 #[.agg #[.slice A0_0 l0_0.length c0_0]] ((Xav.calls k _ _ l0_0 true _ (cS (Kd.C_below ah.out HB.out)) ai.out A3.out).mono ?_); rintro e w8 ⟨rfl, hb⟩; refine ⟨_, rfl, ?_⟩; replace aa := eK aa hb; replace HB := eS HB hb))
   go_ret2
   exact ⟨er, el HB⟩
  ·rw [if_neg c5] at H; have aG := decide_eq_false c5; have aH : decide (24 < l1.length) = false := decide_eq_false (by omega); clear c5; have H' := A_ H; clear H
   go_enter Try.func42, Try.ntmps42
   go_wp2_with (first | ((with_reducible refine gD 2 ?_); refine bX 2 #[.slice A0_0 l0_0.length c0_0] 26 HB ?_; clear HB; intro aj w9 aa ak HB hb hg; clear hb hg; have aw := bC aa; have ax := bF aa) | ((with_reducible refine gC 24 ?_); refine gL 12 Try.func24 #[.agg #[.slice A0_0 l0_0.length c0_0]] ((Xav.calls k _ _ l0_0 true _ (cS (Kd.C_below ah.out HB.out)) ai.out A3.out).mono ?_); rintro e w11 ⟨rfl, hb⟩; refine ⟨_, rfl, ?_⟩; replace aa := eK aa hb; replace HB := eS HB hb))
   go_loopg [19] k (fun kq v19 w' => ∃ (af : Int), v19 = .int .i64 af ∧ Aside0 (Xac.l0 kq l1 l1 (l1.length : Int) af l0_0 = some (r1, r2)) ∧ Aside0 (kq ≤ k) ∧ Aside0 (w'.heap[aj]? = some (.cells #[(.slice A0_0 l0_0.length c0_0)] 26 (0, 0))) ∧ Aside0 (Below w.heap.size w w'))
   case atStart => exact ⟨(0), Xac.Z1, H', ⟨Nat.le_refl _⟩, ⟨eb aa⟩, ⟨el HB⟩⟩
   case round =>
    clear H'; obtain ⟨af, rfl, HA, HK1, aa, HB⟩ := hrel
    cases gk with
    | zero => exact absurd HA.out (by simp [Xac.l0])
    | succ k1 =>
     have H := HA.out; clear HA; simp only [Xac.l0] at H
     by_cases c12 : af < (l1.length : Int)
     ·rw [if_pos c12] at H; have ao := decide_eq_true c12; clear c12
      replace H := iD H; obtain ⟨aL, H⟩ := H
      replace H := iD H; obtain ⟨aM, H⟩ := H
      by_cases c15 : (rd l1 af) < 0
      ·rw [if_pos c15] at H; have ap := decide_eq_true c15; clear c15; simp only [Option.some.injEq, Prod.mk.injEq] at H; obtain ⟨rfl, rfl⟩ := H; have p424 : 0 ≤ (af : Int) := of_decide_eq_true Xac.Z0; have q424 : af < (l1.length : Int) := of_decide_eq_true Xac.Z0; obtain ⟨aq, e424, ac⟩ := Kd.at_int HR1.out af p424 q424; cases e424; replace ac := (HB.out.cell (World.block_lt_of_cell? w _ ac)).trans ac; replace p424 := eq_true p424; replace q424 := eq_true q424
       go_wp2
       go_ret2
       exact ⟨er, el HB⟩
      ·rw [if_neg c15] at H; have ap := decide_eq_false c15; clear c15; have H' := A_ H; clear H; have p424 : 0 ≤ (af : Int) := of_decide_eq_true Xac.Z0; have q424 : af < (l1.length : Int) := of_decide_eq_true Xac.Z0; obtain ⟨aq, e424, ac⟩ := Kd.at_int HR1.out af p424 q424; cases e424; replace ac := (HB.out.cell (World.block_lt_of_cell? w _ ac)).trans ac; replace p424 := eq_true p424; replace q424 := eq_true q424
       go_wp2
       go_roundg k1
       case measure => have := HK1.out; omega
       case rel => exact ⟨(wrap64 (af + 1)), Xac.Z1, H', ⟨by have := HK1.out; omega⟩, ⟨eb aa⟩, ⟨el HB⟩⟩
     ·rw [if_neg c12] at H; have ao := decide_eq_false c12; clear c12; have H' := A_ H; clear H
      go_wp2
      go_loopg [8, 28] k1 (fun kq v8 v28 w' => ∃ (ag : Int) (ab : Int), v8 = .int .i64 ag ∧ v28 = .int .i64 ab ∧ Aside0 (Xac.l1 kq ag l1 (l1.length : Int) ab l0_0 = some (r1, r2)) ∧ Aside0 (kq ≤ k1) ∧ Aside0 (w'.heap[aj]? = some (.cells #[(.slice A0_0 l0_0.length c0_0)] 26 (0, 0))) ∧ Aside0 (Below w.heap.size w w'))
      case atStart => exact ⟨(0), (0), Xac.Z1, Xac.Z1, H', ⟨Nat.le_refl _⟩, ⟨eb aa⟩, ⟨el HB⟩⟩
      case round =>
       clear H'
       try clear hx4
       try clear ac
       obtain ⟨ag, ab, rfl, rfl, HA, HK2, aa, HB⟩ := hrel
       cases gk with
       | zero => exact absurd HA.out (by simp [Xac.l1])
       | succ k2 =>
        have H := HA.out; clear HA; simp only [Xac.l1] at H
        by_cases c16 : ab < (l1.length : Int)
        ·rw [if_pos c16] at H; have ar := decide_eq_true c16; clear c16
         replace H := iD H; obtain ⟨aN, H⟩ := H
         replace H := iD H; obtain ⟨aO, H⟩ := H
         replace H := iD H; obtain ⟨aP, H⟩ := H
         replace H := iD H; obtain ⟨aQ, H⟩ := H
         by_cases c21 : (rd l1 ab) ≥ (rd l0_0 ag)
         ·rw [if_pos c21] at H; have au := decide_eq_true c21; clear c21; simp only [Option.some.injEq, Prod.mk.injEq] at H; obtain ⟨rfl, rfl⟩ := H; have p425 : 0 ≤ (ab : Int) := of_decide_eq_true Xac.Z0; have q425 : ab < (l1.length : Int) := of_decide_eq_true Xac.Z0; obtain ⟨av, e425, ad⟩ := Kd.at_int HR1.out ab p425 q425; cases e425; replace ad := (HB.out.cell (World.block_lt_of_cell? w _ ad)).trans ad; replace p425 := eq_true p425; replace q425 := eq_true q425; have ay := bC aa; have az := bF aa; have p426 : 0 ≤ (ag : Int) := of_decide_eq_true Xac.Z0; have q426 : ag < (l0_0.length : Int) := of_decide_eq_true Xac.Z0; obtain ⟨al, e426, ae⟩ := Kd.at_int ah.out ag p426 q426; cases e426; replace ae := (HB.out.cell (World.block_lt_of_cell? w _ ae)).trans ae; replace p426 := eq_true p426; replace q426 := eq_true q426
          go_wp2
          go_ret2
          exact ⟨er, el HB⟩
         ·rw [if_neg c21] at H; have au := decide_eq_false c21; clear c21; replace H := oB H; obtain ⟨an, A23, H⟩ := H
          replace H := iD H; obtain ⟨aR, H⟩ := H
          replace H := iD H; obtain ⟨aS, H⟩ := H; have H' := A_ H; clear H; have p425 : 0 ≤ (ab : Int) := of_decide_eq_true Xac.Z0; have q425 : ab < (l1.length : Int) := of_decide_eq_true Xac.Z0; obtain ⟨av, e425, ad⟩ := Kd.at_int HR1.out ab p425 q425; cases e425; replace ad := (HB.out.cell (World.block_lt_of_cell? w _ ad)).trans ad; replace p425 := eq_true p425; replace q425 := eq_true q425; have aA := bC aa; have aB := bF aa; have p426 : 0 ≤ (ag : Int) := of_decide_eq_true Xac.Z0; have q426 : ag < (l0_0.length : Int) := of_decide_eq_true Xac.Z0; obtain ⟨al, e426, ae⟩ := Kd.at_int ah.out ag p426 q426; cases e426; replace ae := (HB.out.cell (World.block_lt_of_cell? w _ ae)).trans ae; replace p426 := eq_true p426; replace q426 := eq_true q426
          go_wp2_with (first | ((with_reducible refine gC 118 ?_); refine gL 42 Try.func118 #[.slice (some al) l0_0.length c0_0, .int .i64 ag] ((Xam.calls k2 _ _ l0_0 ag an _ (cS (Kd.C_below ah.out HB.out)) ai.out A23.out).mono ?_); rintro e w27 ⟨aU, rfl, ho0, hb⟩; refine ⟨_, rfl, ?_⟩; have am := eV ho0 HB; replace aa := eK aa hb; replace HB := eS HB hb; obtain ⟨aV, aW, aK⟩ := Kd.R_slice am.out; subst aK; have p430 : 0 ≤ ((rd l1 ab) : Int) := of_decide_eq_true Xac.Z0; have q430 : (rd l1 ab) < (an.length : Int) := of_decide_eq_true Xac.Z0; obtain ⟨aT, e430, aC⟩ := Kd.at_int (Kd.R_reads' am.out).2.2 (rd l1 ab) p430 q430; cases e430; replace p430 := eq_true p430; replace q430 := eq_true q430))
          go_roundg k2
          case measure => have := HK1.out; have := HK2.out; omega
          case rel => exact ⟨(rd an (rd l1 ab)), (wrap64 (ab + 1)), Xac.Z1, Xac.Z1, H', ⟨by have := HK1.out; have := HK2.out; omega⟩, ⟨eb aa⟩, ⟨el HB⟩⟩
        ·rw [if_neg c16] at H; have ar := decide_eq_false c16; clear c16; simp only [Option.some.injEq, Prod.mk.injEq] at H; obtain ⟨rfl, rfl⟩ := H
         go_wp2
         go_ret2
         exact ⟨er, el HB⟩
 ·replace c4 := Bool.eq_false_iff.mpr c4; subst c4; rw [if_neg nF] at H; simp only [Option.some.injEq, Prod.mk.injEq] at H; obtain ⟨rfl, rfl⟩ := H
  go_enter Try.func42, Try.ntmps42
  go_wp2_with (first | ((with_reducible refine gD 2 ?_); refine bX 2 #[.slice A0_0 l0_0.length c0_0] 26 HB ?_; clear HB; intro aj w29 aa ak HB hb hg; clear hb hg; have aD := bC aa; have aE := bF aa) | ((with_reducible refine gC 24 ?_); refine gL 12 Try.func24 #[.agg #[.slice A0_0 l0_0.length c0_0]] ((Xav.calls k _ _ l0_0 false _ (cS (Kd.C_below ah.out HB.out)) ai.out A3.out).mono ?_); rintro e w31 ⟨rfl, hb⟩; refine ⟨_, rfl, ?_⟩; replace aa := eK aa hb; replace HB := eS HB hb))
  go_ret2
  exact ⟨er, el HB⟩

/-! ### spec_l01Spoil: function 98 -/
def Xbr.f (k : Nat) (s0_0 : List Int) (s0_1 : Int) (s0_2 : Int) : Option (List Int × Int × Int) := (Xa.f k s0_0 s0_1 s0_2).bind fun bt432 => ((Xe.f s0_0 bt432.2.1 bt432.2.2 bt432.1).bind fun bt437 => (some (bt437.1, bt437.2.1, bt437.2.2)))
theorem Xbr.mono a0 a1 a2 k : LeO (Xbr.f k a0 a1 a2) (Xbr.f (k + 1) a0 a1 a2) := by unfold Xbr.f; have := Xa.mono; exact mW
theorem Xbr.calls (k : Nat) (g : Nat) (s0_0 : List Int) (s0_1 : Int) (s0_2 : Int) (r1 : List Int) (r2 : Int) (r3 : Int) (w0 w : World) (hI : IsS121 w0 w g s0_0 s0_1 s0_2) (hB : Below w0.heap.size w0 w) (h : Xbr.f k s0_0 s0_1 s0_2 = some (r1, r2, r3)) :
  Calls Try.prog 98 #[.pointer (some ⟨g, 0, none⟩)] w fun e w' => ∃ v0_ : Value, e = .returned (.agg #[v0_]) ∧ Kd.R (Kd.int .i64) 2 w' w.heap.size (fun _ => True) v0_ r1 ∧ IsS121 w0 w' g s0_0 r2 r3 ∧ Below w0.heap.size w0 w' ∧ KeepBut w w' g none := by
 have hu26 := Try.underlying26; have af := A_ hI; have HK := A_ (KeepBut.refl w g none); have HL := A_ hB.size; clear hI; have HW0 := A_ hB.size; have HB := A_ hB; clear hB; unfold Xbr.f at h; have H := h; clear h; replace H := oB H; obtain ⟨⟨ae, aj, ak⟩, A2, H⟩ := H; (try dsimp only at H); replace H := oB H; obtain ⟨⟨ai, an, ao⟩, A3, H⟩ := H; (try dsimp only at H); simp only [Option.some.injEq, Prod.mk.injEq] at H; obtain ⟨rfl, rfl, rfl⟩ := H
 go_enter Try.func98, Try.ntmps98
 go_wp2_with (first | ((with_reducible refine gD 2 ?_); refine bx 2 #[.slice none 0 0] 26 ?_; intro ab hg w4 hbox hb; replace HB := A_ (below_step (em121 HB) hb); have aa := A_ hbox; have ar := A_ ((by rw [hg]; exact (keep_size (w := w) (g := g) (row := none) (ek HK)) : w.heap.size ≤ ab)); have au := A_ ((Nat.le_trans HW0.out (by rw [hg]; exact (keep_size (w := w) (g := g) (row := none) (ek HK)) : w.heap.size ≤ ab) : w0.heap.size ≤ ab)); replace HK := A_ (KeepBut.trans (ek HK) (KeepBut.of_below hb g none) (.inl rfl)); have ag := A_ ((by rw [hg]; exact Nat.ne_of_lt (IsS121.lt (show IsS121 w0 _ g s0_0 s0_1 s0_2 from ei121 af)) : g ≠ ab)); have ad := A_ ((by rw [hg]; exact Nat.ne_of_gt (IsS121.lt (show IsS121 w0 _ g s0_0 s0_1 s0_2 from ei121 af)) : ab ≠ g)); replace af := A_ (IsS121.below (ei121 af) hb); clear hb hbox hg) | ((with_reducible refine gC 122 ?_); refine gL 5 Try.func122 #[.pointer (some ⟨g, 0, none⟩)] ((Xa.calls k g s0_0 s0_1 s0_2 ae aj ak w0 _ (ei121 af) (em121 HB) A2.out).mono ?_); rintro e w5 ⟨ax, rfl, ho0, hi, hb, hk⟩; refine ⟨_, rfl, ?_⟩; replace aa := A_ (KeepBut.blk hk (g' := ab) (o := .cells #[.slice none 0 0] 26 (0, 0)) (eb aa) ad.out (by simp)); have ac := A_ (Kd.R_lower ho0 (keep_size (w := w) (g := g) (row := none) (ek HK))); replace HK := A_ (KeepBut.trans (ek HK) hk (.inl rfl)); replace HB := A_ hb; replace af := A_ hi; obtain ⟨ap, aq, ay⟩ := Kd.R_slice ac.out; subst ay) | ((with_reducible refine gC 128 ?_); refine gL 6 Try.func128 #[.pointer (some ⟨g, 0, none⟩), .agg #[.slice ap ae.length aq]] ((Xe.calls g s0_0 aj ak (fun k_ => some k_ = (.slice ap ae.length aq : Value).ownBlock) (.slice ap ae.length aq) ae ai an ao w0 _ (ei121 af) (em121 HB) (Kd.R_lower (Kd.R_tight rfl ac.out) HL.out) A3.out).mono ?_); rintro e w7 ⟨az, rfl, ho0, hi, hb, hkp⟩; refine ⟨_, rfl, ?_⟩; replace af := A_ hi; replace aa := A_ (blk_kept (eb aa) hkp (fun hs_ => Or.elim hs_ (fun hs_ => (fun e_ => (Kd.R_ne ac.out aa.out (by decide)) e_) hs_) (fun e_ => ad.out e_))); have ah := A_ (Kd.R_mono (ok' := fun k_ => True) (Kd.R_raise (d := (Kd.int .i64)) (b := w0.heap.size) (b' := w.heap.size) (fun _ _ _ _ h_ => h_) ho0 (fun k_ e_ => Or.elim (ho0.1 k_ e_) (fun hs_ => (fun e_ => Kd.R_base ac.out k_ e_.symm) hs_) (fun hn_ => Nat.le_trans (keep_size (w := w) (g := g) (row := none) (ek HK)) hn_))) (fun k_ hk_ => trivial)); replace HK := A_ (Kept.keepG (ek HK) hkp (fun k_ hs_ => Or.elim hs_ (fun hs_ => (fun e_ => .inr (Kd.R_base ac.out k_ e_.symm)) hs_) (fun e_ => .inl e_))); replace HB := A_ hb; clear ac; (try clear hkp); obtain ⟨av, aw, aA⟩ := Kd.R_slice ah.out; subst aA; have aB := ad.out; have aC := ag.out; have al := bC aa; have am := bF aa))
 refine bodyPost_ret (results_cell_row rfl _ _ ab 26 #[.slice av ai.length aw] (0, 0) _ rfl (eP aa) Try.underlying26 rfl (by kernel_rfl)) rfl ?_; exact ⟨_, er, rX (Kd.R_mono (rF ah.out aa (.slice av ai.length aw)) (fun _ hk => trivial)), ei121 af, em121 HB, ek HK⟩

/-! ### spec_DrawMirrorOf: function 43 -/
def Xbl.f (k : Nat) (l0 : List Int) : Option (List Int) := (Xt.f k l0).bind fun bt443 => ((Xbr.f k bt443.1 bt443.2.1 bt443.2.2).bind fun bt447 => (some bt447.1))
theorem Xbl.mono a0 k : LeO (Xbl.f k a0) (Xbl.f (k + 1) a0) := by unfold Xbl.f; have := Xt.mono; have := Xbr.mono; exact mW
theorem Xbl.calls (k : Nat) (A0 : Option Addr) (c0 : Nat) (l0 : List Int) (r : List Int) (w : World) (hr0 : Kd.C (Kd.int .u8) w A0 l0.length l0) (hc0 : l0.length ≤ c0) (h : Xbl.f k l0 = some r) :
  Calls Try.prog 43 #[.slice A0 l0.length c0] w fun e w' => ∃ v0_ : Value, e = .returned (.agg #[v0_]) ∧ Kd.R (Kd.int .i64) 2 w' w.heap.size (fun _ => True) v0_ r ∧ Below w.heap.size w w' := by
 have hu26 := Try.underlying26; have HR0 := A_ hr0; have HC0 := A_ hc0; clear hr0 hc0; have HB := A_ (Below.refl w.heap.size w); unfold Xbl.f at h; have H := h; clear h; replace H := oB H; obtain ⟨⟨ah, ai, aj⟩, A2, H⟩ := H; (try dsimp only at H); replace H := oB H; obtain ⟨⟨ag, ak, al⟩, A3, H⟩ := H; (try dsimp only at H); obtain rfl := Option.some.inj H
 go_enter Try.func43, Try.ntmps43
 go_wp2_with (first | ((with_reducible refine gD 2 ?_); refine bX 2 #[.slice none 0 0] 26 HB ?_; clear HB; intro ac w4 aa ao HB hb hg; clear hb hg) | ((with_reducible refine gC 99 ?_); refine gL 4 Try.func99 #[.slice A0 l0.length c0] ((Xt.calls k _ _ l0 ah ai aj w _ (el HB) HR0.out HC0.out A2.out).mono ?_); rintro e w5 ⟨g446, rfl, hi, hb, hb2⟩; refine ⟨_, rfl, ?_⟩; replace HB := A_ hb; have ae := A_ hi; have ad := A_ (IsS121.ne_blk hi (blk_below (g := ac) (o := .cells #[.slice none 0 0] 26 (0, 0)) (eb aa) hb2) (by decide)); have ab := A_ (Ne.symm (IsS121.ne_blk hi (blk_below (g := ac) (o := .cells #[.slice none 0 0] 26 (0, 0)) (eb aa) hb2) (by decide))); replace aa := A_ (blk_below (g := ac) (o := .cells #[.slice none 0 0] 26 (0, 0)) (eb aa) hb2)) | ((with_reducible refine gC 98 ?_); refine gL 5 Try.func98 #[.pointer (some ⟨g446, 0, none⟩)] ((Xbr.calls k g446 ah ai aj ag ak al w _ (ei121 ae) (em121 HB) A3.out).mono ?_); rintro e w6 ⟨ar, rfl, ho0, hi, hb, hk⟩; refine ⟨_, rfl, ?_⟩; replace aa := A_ (KeepBut.blk hk (g' := ac) (o := .cells #[.slice none 0 0] 26 (0, 0)) (eb aa) ab.out (by simp)); have af := A_ (Kd.R_lower ho0 (below_size (em121 HB))); replace HB := A_ hb; replace ae := A_ hi; obtain ⟨ap, aq, au⟩ := Kd.R_slice af.out; subst au; have av := ab.out; have aw := ad.out; have am := bC aa; have an := bF aa))
 refine bodyPost_ret (results_cell_row rfl _ _ ac 26 #[.slice ap ag.length aq] (0, 0) _ rfl (eP aa) Try.underlying26 rfl (by kernel_rfl)) rfl ?_; exact ⟨_, er, rX (Kd.R_mono (rF af.out aa (.slice ap ag.length aq)) (fun _ hk => trivial)), em121 HB⟩

/-! ### impl_mirrored: function 137 -/
mutual
def Xab.l0 : Nat → List Int → List Int → List Int → Int → Int → Option (List Int)
  | 0, _, _, _, _, _ => none
  | k + 1, x0, x5, x19, x20, x21 => if x21 < x20 then (if 0 ≤ x21 then (if x21 < (x19.length : Int) then ((Xab.f k x0 (rd x19 x21)).bind fun t461 => (if x5.length + t461.length < 17592186044416 then (Xab.l0 k x0 (x5 ++ t461) x19 x20 (wrap64 (x21 + 1))) else (none))) else (none)) else (none)) else (some x5)
def Xab.f : Nat → List Int → Int → Option (List Int)
  | 0, _, _ => none
  | k + 1, l0, a1 => if 0 ≤ a1 then (if a1 < (l0.length : Int) then ((Xam.f k l0 a1).bind fun t456 => ((Xd.f k t456).bind fun t459 => (Xab.l0 k l0 (([rd l0 a1] : List Int)) t459 (t456.length : Int) 0))) else (none)) else (none)
end
theorem Xab.mono_l : ∀ k, (∀ y0 y1, LeO (Xab.f k y0 y1) (Xab.f (k + 1) y0 y1)) ∧ (∀ y0 y1 y2 y3 y4, LeO (Xab.l0 k y0 y1 y2 y3 y4) (Xab.l0 (k + 1) y0 y1 y2 y3 y4))
  | 0 => ⟨fun _ _ r h => by simp [Xab.f] at h, fun _ _ _ _ _ r h => by simp [Xab.l0] at h⟩
  | k + 1 => by
    obtain ⟨ih0, ih1⟩ := Xab.mono_l k
    refine ⟨?_, ?_⟩
    · intro y0 y1
      unfold Xab.f
      have := Xam.mono; have := Xd.mono; exact mW
    · intro y0 y1 y2 y3 y4
      unfold Xab.l0
      have := Xam.mono; have := Xd.mono; exact mW
theorem Xab.mono : ∀ a0 a1 k, LeO (Xab.f k a0 a1) (Xab.f (k + 1) a0 a1) := by
  intro a0 a1 k
  obtain ⟨ih0, ih1⟩ := Xab.mono_l k
  exact ih0 a0 a1
def Xab.T1 : Bool × List (List Nat × List Nat) := (true, [([], []), ([], []), ([0, 1], [0, 1]), ([2], [2]), ([3], [3]), ([], []), ([], []), ([5, 6], [5, 6]), ([4, 7, 0, 1, 2, 3, 4], [4]), ([7, 8, 0, 1, 2, 3, 4, 5, 6, 7, 8], [7])])
def Xab.B1 : List Nat := [0, 0, 3, 7, 15, 0, 0, 96, 255, 511]
theorem Xab.tab1 : rtab .any (opsOf Try.f137 1) = Xab.T1 := by kernel_rfl
theorem Xab.bits1 : waitsOk Xab.T1.2 Xab.B1 = true := by kernel_rfl
theorem Xab.Z0 {p : Prop} (h : p := by first | (with_reducible assumption) | assumption) : p := h
theorem Xab.Z1 {p : Prop} (h : p := by first | rfl | (simp; done) | (simp [*]; done)) : p := h
theorem Xab.calls (k : Nat) : ∀ (A0 : Option Addr) (c0 : Nat) (l0 : List Int) (a1 : Int) (r : List Int) (w : World) (hr0 : Kd.C (Kd.int .i64) w A0 l0.length l0) (hc0 : l0.length ≤ c0) (h : Xab.f k l0 a1 = some r),
  Calls Try.prog 137 #[.slice A0 l0.length c0, .int .i64 a1] w fun e w' => ∃ v0_ : Value, e = .returned (v0_) ∧ Kd.R (Kd.int .i64) 2 w' w.heap.size (fun _ => True) v0_ r ∧ Below w.heap.size w w' := by
 induction k using Nat.strongRecOn with
 | _ k ih =>
 intro A0 c0 l0 a1 r w hr0 hc0 h
 cases k with
 | zero => exact absurd h (by simp [Xab.f])
 | succ k =>
 have HR0 := A_ hr0; have HC0 := A_ hc0; clear hr0 hc0; have HB := A_ (Below.refl w.heap.size w); unfold Xab.f at h; have H := h; clear h
 by_cases c3 : 0 ≤ a1
 ·rw [if_pos c3] at H; have aM := decide_eq_true c3; clear c3
  replace H := iD H; obtain ⟨aN, H⟩ := H; obtain ⟨au, ao⟩ : ∃ y_ : List Int, y_ = (([rd l0 a1] : List Int)) := ⟨_, rfl⟩; replace H : ((Xam.f k l0 a1).bind fun ae => ((Xd.f k ae).bind fun ai => (Xab.l0 k l0 au ai (ae.length : Int) 0))) = some r := eH ao H; have av := A_ ao; clear ao; replace H := oB H; obtain ⟨ae, A5, H⟩ := H; replace H := oB H; obtain ⟨ai, A6, H⟩ := H; have H' := A_ H; clear H
  go_enter Try.func137, Try.ntmps137
  try go_wp2
  replace HB := wD HB; have p452 : 0 ≤ (a1 : Int) := of_decide_eq_true Xab.Z0; have q452 : a1 < (l0.length : Int) := of_decide_eq_true Xab.Z0; obtain ⟨af, e452, ad⟩ := Kd.at_int HR0.out a1 p452 q452; have hw452_0 := ad; cases e452; replace ad := (HB.out.cell (World.block_lt_of_cell? w _ ad)).trans ad; replace p452 := eq_true p452; replace q452 := eq_true q452; refine sT 10 (fun w' => True) (bM 10 0) Xab.tab1 Xab.bits1 trivial (fun hHeld HT_ HW_ => ?_)
  generalize w.drew = w7 at HB ad hHeld ⊢; refine pA 0 9 (bM 10 1) HT_ ?_; refine pA 1 10 (bM 10 3) HT_ ?_; refine pA 5 14 (bM 10 35) HT_ ?_; refine pA 6 15 (bM 10 99) HT_ ?_; refine inv_at [2, 3, 4, 7, 8, 9] (fun a0_ b a w' => ∃ (aa : Value) (ab : Value) (m8_ : Value) (m9_ : Value), a = putSel a0_ b [(2, 11, .pointer (some (af.add (a1).toNat))), (3, 12, .int .i64 (rd l0 a1)), (4, 13, aa), (7, 16, ab), (8, 5, m8_), (9, 6, m9_)] ∧ (Below w.heap.size w w') ∧ (b 4 = true → Kd.R (Kd.int .i64) 2 w' w.heap.size (fun k_ => b 7 = true → some k_ ≠ (ab : Value).ownBlock) aa au) ∧ (b 7 = true → Kd.R (Kd.int .i64) 2 w' w.heap.size (fun k_ => b 4 = true → some k_ ≠ (aa : Value).ownBlock) ab ae) ∧ (b 8 = true → (m8_ : Value) = aa) ∧ (b 9 = true → (m9_ : Value) = ab)) HT_.out HW_.out (by kernel_rfl) (by kernel_rfl) ?_ ?_ ?_
  ·exact ⟨.bool false, .bool false, .bool false, .bool false, by simp only [putSel, Bool.false_eq_true, if_false], HB.out, fun h_ => absurd h_ (by decide), fun h_ => absurd h_ (by decide), fun h_ => absurd h_ (by decide), fun h_ => absurd h_ (by decide)⟩
  ·clear HB; refine steps_cons ?_ ?_
   ·rintro b a w' ⟨aa, ab, m8_, m9_, ha, Q_HB, Q_HO455, Q_HO458, Q_X8_, Q_X9_⟩ hb_ hon hoff; refine ⟨_, rfl, fun K hK => ?_⟩; have e9 : a.tmps[9]? = some (.slice (some af) l0.length c0) := by rw [ha]; exact (putSel_off rfl).trans rfl
    have e10 : a.tmps[10]? = some (.int .i64 a1) := by rw [ha]; exact (putSel_off rfl).trans rfl
    replace ha := A_ ha; have HB := A_ Q_HB; have hs0_ : w'.cell? (af.add (a1).toNat) = some (.int .i64 (rd l0 a1)) := ((HB.out.cell (World.block_lt_of_cell? w _ hw452_0)).trans hw452_0); refine value_ (w1 := w') (v := .pointer (some (af.add (a1).toNat))) (by rfl) rfl ?_ ?_
    ·go_simp; (try simp only [i64_w])
     try rfl
    refine hK.out _ _ ⟨aa, ab, m8_, m9_, (by rw [ha.out]; exact putSel_upk 0 hb_ rfl rfl rfl), Q_HB, fun h0_ => absurd ((hoff 4 (by kernel_rfl)).symm.trans h0_) (by decide), Q_HO458, fun h0_ => absurd ((hoff 8 (by kernel_rfl)).symm.trans h0_) (by decide), fun h0_ => absurd ((hoff 9 (by kernel_rfl)).symm.trans h0_) (by decide)⟩
   refine steps_cons ?_ ?_
   ·rintro b a w' ⟨aa, ab, m8_, m9_, ha, Q_HB, Q_HO455, Q_HO458, Q_X8_, Q_X9_⟩ hb_ hon hoff; refine ⟨_, rfl, fun K hK => ?_⟩; have e11 : a.tmps[11]? = some (.pointer (some (af.add (a1).toNat))) := by rw [ha]; exact putSel_on (e := (2, 11, .pointer (some (af.add (a1).toNat)))) 0 rfl rfl (hon 2 (by kernel_rfl)) rfl
    replace ha := A_ ha; have HB := A_ Q_HB; have hs0_ : w'.cell? (af.add (a1).toNat) = some (.int .i64 (rd l0 a1)) := ((HB.out.cell (World.block_lt_of_cell? w _ hw452_0)).trans hw452_0); refine value_ (w1 := w') (v := .int .i64 (rd l0 a1)) (by rfl) rfl ?_ ?_
    ·go_simp; (try simp only [i64_w])
     try rfl
    refine hK.out _ _ ⟨aa, ab, m8_, m9_, (by rw [ha.out]; exact putSel_upk 1 hb_ rfl rfl rfl), Q_HB, fun h0_ => absurd ((hoff 4 (by kernel_rfl)).symm.trans h0_) (by decide), Q_HO458, fun h0_ => absurd ((hoff 8 (by kernel_rfl)).symm.trans h0_) (by decide), fun h0_ => absurd ((hoff 9 (by kernel_rfl)).symm.trans h0_) (by decide)⟩
   refine steps_cons ?_ ?_
   ·rintro b a w' ⟨aa, ab, m8_, m9_, ha, Q_HB, Q_HO455, Q_HO458, Q_X8_, Q_X9_⟩ hb_ hon hoff; refine ⟨_, rfl, fun K hK => ?_⟩; have e12 : a.tmps[12]? = some (.int .i64 (rd l0 a1)) := by rw [ha]; exact putSel_on (e := (3, 12, .int .i64 (rd l0 a1))) 1 rfl rfl (hon 3 (by kernel_rfl)) rfl
    replace ha := A_ ha; have HB := A_ Q_HB; refine Kd.R_lit_step (Kd.int .i64) _ 2 ?hg (N := 13) ?hd (xs := ([rd l0 a1] : List Int)) (inner := [.int .i64 (rd l0 a1)]) (ok := fun _ => True) (okp := fun _ => True) ?hr ?hp (fun _ hk => hk) trivial (Below.refl _ _) (Nat.le_refl _) (by simp) ?_; (case hd => rfl); (case hg => rfl); (case hr => first | (go_simp; done) | (go_simp; rfl)); (case hp => exact (Reps.one (show Kd.M (Kd.int .i64) _ _ _ (rd l0 a1) [.int .i64 (rd l0 a1)] from rfl) (Reps.none _ _))); intro aa w8 ho9 hb hg_ hnew_; clear hg_ hnew_; (first | rw [← av.out] at ho9 | (simp only [Int.reduceToNat] at ho9; rw [← av.out] at ho9)); have n0_ := A_ (Kd.R_lower (apart_new (p := b 7 = true) ho9 (fun h0_ => Q_HO458 h0_)) (below_size (el HB))); have n1_ := A_ (below_step (el HB) hb); have z_HO458 := fun (h0_ : b 7 = true) => (show Kd.R (Kd.int .i64) 2 w8 w.heap.size (fun k_ => true = true → some k_ ≠ (aa : Value).ownBlock) ab ae from Kd.R_mono (Kd.R_elder' (rX (Q_HO458 h0_)) (Kd.R_base ho9) hb) (fun _ h_ _ => h_.2))
    clear HB; have aj := n0_; have HB := n1_; clear n0_ n1_; clear hb ho9; refine hK.out _ _ ⟨aa, ab, m8_, m9_, (by rw [ha.out]; exact putSel_upk 2 hb_ rfl rfl rfl), (el HB), fun _ => (ea aj), z_HO458, fun h0_ => absurd ((hoff 8 (by kernel_rfl)).symm.trans h0_) (by decide), fun h0_ => absurd ((hoff 9 (by kernel_rfl)).symm.trans h0_) (by decide)⟩
   refine steps_cons ?_ ?_
   ·rintro b a w' ⟨aa, ab, m8_, m9_, ha, Q_HB, Q_HO455, Q_HO458, Q_X8_, Q_X9_⟩ hb_ hon hoff; refine ⟨_, rfl, fun K hK => ?_⟩; have e14 : a.tmps[14]? = some (.slice (some af) l0.length c0) := by rw [ha]; exact (putSel_off rfl).trans rfl
    have e15 : a.tmps[15]? = some (.int .i64 a1) := by rw [ha]; exact (putSel_off rfl).trans rfl
    replace ha := A_ ha; have HB := A_ Q_HB; refine goes_ Try.func118 (by kernel_rfl) rfl #[.slice (some af) l0.length c0, .int .i64 a1] (by rfl) rfl rfl (by first | (simp only [List.map_toArray, List.map_cons, List.map_nil, Act.eval, Array.getD_eq_getD_getElem?, Option.getD_some, e14, e15]; done) | (simp only [List.map_toArray, List.map_cons, List.map_nil, Act.eval, Array.getD_eq_getD_getElem?, Option.getD_some, e14, e15]; rfl)) ?_; with_reducible refine (Xam.calls k _ _ l0 a1 ae _ ?side1 ?side2 A5.out).mono ?_
    (case side1 => exact cS (Kd.C_below HR0.out HB.out)); (case side2 => exact HC0.out); rintro e w8 ⟨ab, rfl, ho0, hb⟩; refine ⟨_, rfl, ?_⟩; have n0_ := A_ (Kd.R_lower (apart_new (p := b 4 = true) ho0 (fun h0_ => Q_HO455 h0_)) (below_size (el HB))); have n1_ := A_ (below_step (el HB) hb); have z_HO455 := fun (h0_ : b 4 = true) => (show Kd.R (Kd.int .i64) 2 w8 w.heap.size (fun k_ => true = true → some k_ ≠ (ab : Value).ownBlock) aa au from Kd.R_mono (Kd.R_elder' (rX (Q_HO455 h0_)) (Kd.R_base ho0) hb) (fun _ h_ _ => h_.2))
    clear HB; have ah := n0_; have HB := n1_; clear n0_ n1_
    refine hK.out _ _ ⟨aa, ab, m8_, m9_, (by rw [ha.out]; exact putSel_upk 3 hb_ rfl rfl rfl), (el HB), z_HO455, fun _ => (ea ah), fun h0_ => absurd ((hoff 8 (by kernel_rfl)).symm.trans h0_) (by decide), fun h0_ => absurd ((hoff 9 (by kernel_rfl)).symm.trans h0_) (by decide)⟩
   refine steps_cons ?_ ?_
   ·rintro b a w' ⟨aa, ab, m8_, m9_, ha, Q_HB, Q_HO455, Q_HO458, Q_X8_, Q_X9_⟩ hb_ hon hoff; refine ⟨_, rfl, fun K hK => ?_⟩; have e13 : a.tmps[13]? = some (aa) := by rw [ha]; exact putSel_on (e := (4, 13, aa)) 2 rfl rfl (hon 4 (by kernel_rfl)) rfl
    replace ha := A_ ha; have HB := A_ Q_HB; have aj := A_ (Q_HO455 (hon 4 (by kernel_rfl))); have ah := A_ (Q_HO458 (hon 7 (by kernel_rfl))); refine value_ (w1 := w') (v := aa) (by rfl) rfl ?_ ?_
    ·go_simp; (try simp only [i64_w])
     try rfl
    refine hK.out _ _ ⟨aa, ab, (aa), m9_, (by rw [ha.out]; exact putSel_upk 4 hb_ rfl rfl rfl), Q_HB, Q_HO455, Q_HO458, fun _ => rfl, fun h0_ => absurd ((hoff 9 (by kernel_rfl)).symm.trans h0_) (by decide)⟩
   refine steps_cons ?_ ?_
   ·rintro b a w' ⟨aa, ab, m8_, m9_, ha, Q_HB, Q_HO455, Q_HO458, Q_X8_, Q_X9_⟩ hb_ hon hoff; refine ⟨_, rfl, fun K hK => ?_⟩; have e16 : a.tmps[16]? = some (ab) := by rw [ha]; exact putSel_on (e := (7, 16, ab)) 3 rfl rfl (hon 7 (by kernel_rfl)) rfl
    replace ha := A_ ha; have HB := A_ Q_HB; have aj := A_ (Q_HO455 (hon 4 (by kernel_rfl))); have ah := A_ (Q_HO458 (hon 7 (by kernel_rfl))); refine value_ (w1 := w') (v := ab) (by rfl) rfl ?_ ?_
    ·go_simp; (try simp only [i64_w])
     try rfl
    refine hK.out _ _ ⟨aa, ab, m8_, (ab), (by rw [ha.out]; exact putSel_upk 5 hb_ rfl rfl rfl), Q_HB, Q_HO455, Q_HO458, Q_X8_, fun _ => rfl⟩
   exact steps_nil
  rintro b a w11 hall ⟨aa, ab, m8_, m9_, ha, Q_HB, Q_HO455, Q_HO458, Q_X8_, Q_X9_⟩; clear HB; have hb2_ := hall 2 (by kernel_rfl); have hb3_ := hall 3 (by kernel_rfl); have hb4_ := hall 4 (by kernel_rfl); have hb7_ := hall 7 (by kernel_rfl); have hb8_ := hall 8 (by kernel_rfl); have hb9_ := hall 9 (by kernel_rfl); subst ha; obtain rfl := Q_X8_ hb8_; obtain rfl := Q_X9_ hb9_; simp only [putSel, hb2_, hb3_, hb4_, hb7_, hb8_, hb9_, if_true, Act.put, List.setIfInBounds_toArray, List.set_cons_zero, List.set_cons_succ]; have HB := A_ Q_HB; clear Q_HB; have aj := A_ (Kd.R_mono (Q_HO455 hb4_) (fun _ h_ => h_ hb7_)); clear Q_HO455; have ah := A_ (Kd.R_mono (Q_HO458 hb7_) (fun _ h_ => h_ hb4_)); clear Q_HO458; clear hall hb2_ hb3_ hb4_ hb7_ hb8_ hb9_; obtain ⟨an, ak, aH⟩ := Kd.R_slice ah.out; subst aH
  try go_wp2_with (first | ((with_reducible refine gC 136 ?_); refine gL 18 Try.func136 #[.slice an ae.length ak] ((Xd.calls k (fun k_ => some k_ = (.slice an ae.length ak : Value).ownBlock) (.slice an ae.length ak) ae ai w _ (el HB) (Kd.R_tight rfl ah.out) A6.out).mono ?_); rintro e w13 ⟨rfl, hy0, hb, hkp⟩; refine ⟨_, rfl, ?_⟩; replace aj := A_ (Kd.R_mono (ok' := fun k_ => some k_ ≠ (.slice an ae.length ak : Value).ownBlock) (Kd.R_keptB (aj.out) hkp (fun k_ hk_ hs_ => (hk_) hs_)) (fun k_ hk_ => hk_.1)); replace ah := A_ (Kd.R_reok rfl hy0 (fun k_ e_ => ah.out.1 k_ e_)); replace HB := A_ hb; (try clear hkp); (try clear hy0)))
  go_loopg [5, 21] k (fun kq v5 v21 w' => ∃ (ap : List Int) (ac : Int), v21 = .int .i64 ac ∧ Aside0 (Xab.l0 kq l0 ap ai (ae.length : Int) ac = some r) ∧ Aside0 (kq ≤ k) ∧ Aside0 (Kd.R (Kd.int .i64) 2 w' w.heap.size (fun k_ => some k_ ≠ ((.slice an ae.length ak) : Value).ownBlock) v5 ap) ∧ Aside0 (Kd.R (Kd.int .i64) 2 w' w.heap.size (fun k_ => some k_ ≠ (v5 : Value).ownBlock) (.slice an ae.length ak) ai) ∧ Aside0 (Below w.heap.size w w'))
  case atStart => exact ⟨(au), (0), Xab.Z1, H', ⟨Nat.le_refl _⟩, ⟨ea aj⟩, ⟨ea ah⟩, ⟨el HB⟩⟩
  case round =>
   clear H'
   try clear hx4
   try clear ad
   obtain ⟨ap, ac, rfl, HA, HK1, am, ag, HB⟩ := hrel; have hl19_1 := (Kd.R_reads' ag.out).1; rw [hl19_1] at ag; (try simp only [hl19_1]); (try simp only [hl19_1] at am)
   cases gk with
   | zero => exact absurd HA.out (by simp [Xab.l0])
   | succ k1 =>
    have H := HA.out; clear HA; simp only [Xab.l0] at H
    by_cases c14 : ac < (ae.length : Int)
    ·rw [if_pos c14] at H; have aw := decide_eq_true c14; clear c14
     replace H := iD H; obtain ⟨aJ, H⟩ := H
     replace H := iD H; obtain ⟨aK, H⟩ := H; replace H := oB H; obtain ⟨aq, A17, H⟩ := H
     replace H := iL H; obtain ⟨ay, H⟩ := H; obtain ⟨az, ar⟩ : ∃ y_ : List Int, y_ = (ap ++ aq) := ⟨_, rfl⟩; replace H : (Xab.l0 k1 l0 az ai (ae.length : Int) (wrap64 (ac + 1))) = some r := eH ar H; have aA := A_ ar; clear ar; have H' := A_ H; clear H; have p460 : 0 ≤ (ac : Int) := of_decide_eq_true Xab.Z0; have q460 : ac < (ai.length : Int) := of_decide_eq_true Xab.Z0; obtain ⟨ax, e460, aG⟩ := Kd.at_int (Kd.R_reads' ag.out).2.2 ac p460 q460; cases e460; replace p460 := eq_true p460; replace q460 := eq_true q460
     go_wp2_with (first | ((with_reducible refine gC 137 ?_); refine gL 28 Try.func137 #[.slice (some af) l0.length c0, .int .i64 (rd ai ac)] ((ih k1 (by have := HK1.out; omega) _ _ l0 (rd ai ac) aq _ (cS (Kd.C_below HR0.out HB.out)) HC0.out A17.out).mono ?_); rintro e w19 ⟨aP, rfl, ho0, hb⟩; refine ⟨_, rfl, ?_⟩; have al := A_ (Kd.R_lower (Kd.R_new' (Kd.R_new' ho0 (Kd.R_lt (ea am))) (Kd.R_lt (ea ag))) (below_size (el HB))); replace am := eE am ho0 hb; replace ag := eE ag ho0 hb; replace HB := eS HB hb; obtain ⟨aC, aD, aI⟩ := Kd.R_slice al.out; subst aI) | ((with_reducible refine gate_builtin (b := .append) (xs := #[.tmp 25, .tmp 28]) rfl ?_); at_builtin; refine Kd.R_append_rows (Kd.int .i64) (w0 := w) w.heap.size rfl (.tmp 25) (.tmp 28) 24 2 (.int .i64 0) 8 rfl Try.underlying24 info2 rfl (by decide) (by omega) u5 ap aq _ _ _ (fun k_ => some k_ ≠ (.slice (some ax) ai.length ak : Value).ownBlock ∧ some k_ ≠ (.slice aC aq.length aD : Value).ownBlock) (fun _ => False) rfl rfl ?aO ?aR (fun _ _ h => h) (fun _ h => h.elim) ?aF ?aB ?aS ?aL ?_; (case aR => repeat (first | exact (Kd.R_reads' al.out).2.2 | (with_reducible refine Kd.C_alloc ?_ _) | (with_reducible refine Kd.C_drewN ?_ _) | (with_reducible refine Kd.C_drew ?_))); (case aB => exact (el HB)); (case aF => exact (fun k_ hk => ⟨Kd.fresh' (Kd.R_lt (ea ag)) k_ hk, Kd.fresh' (Kd.R_lt (ea al)) k_ hk⟩)); (case aO => exact (ea am)); (case aS => exact (below_size (el HB))); (case aL => have := ay.out; omega); intro aQ w20 ho hb hg hat; rw [← aA.out] at ho; replace ag := A_ (Kd.R_after (ok := (fun k_ => some k_ ≠ (.slice aC aq.length aD : Value).ownBlock)) (rX (Kd.R_mono ag.out (fun _ hk => ⟨hk.2, hk.1⟩))) hg hat); replace al := A_ (Kd.R_after (ok := (fun k_ => some k_ ≠ (.slice (some ax) ai.length ak : Value).ownBlock)) (rX (Kd.R_mono al.out (fun _ hk => ⟨hk.2, hk.1.2⟩))) hg hat); replace HB := A_ hb; have aE := A_ ho; clear am; clear ho hb hg hat))
     (try simp only [← hl19_1])
     go_roundg k1
     case measure => have := HK1.out; omega
     case rel => exact ⟨(az), (wrap64 (ac + 1)), Xab.Z1, H', ⟨by have := HK1.out; omega⟩, ⟨by (try simp only [hl19_1]); (with_reducible repeat (first | apply Kd.R_alloc | apply Kd.R_drewN | apply Kd.R_drew)); exact Kd.R_mono aE.out (fun _ hk => hk.1)⟩, ⟨by (try simp only [hl19_1]); (with_reducible repeat (first | apply Kd.R_alloc | apply Kd.R_drewN | apply Kd.R_drew)); exact Kd.R_mono ag.out (fun _ hk => hk.2)⟩, ⟨el HB⟩⟩
    ·rw [if_neg c14] at H; have aw := decide_eq_false c14; (try simp only [hl19_1] at aw); clear c14; obtain rfl := Option.some.inj H
     go_wp2
     go_ret
     exact ⟨_, er, rX (Kd.R_mono am.out (fun _ hk => trivial)), el HB⟩
 ·rw [if_neg c3] at H; exact absurd H (by simp)

/-! ### impl_MirrorOf: function 44 -/
def Xbe.f (k : Nat) (l0_0 : List Int) : Option (List Int × Int) := (Xav.f k l0_0).bind fun t469 => (if t469 = true then ((Xab.f k l0_0 0).bind fun t470 => (some (t470, 0))) else (some (([] : List Int), 1)))
theorem Xbe.mono a0 k : LeO (Xbe.f k a0) (Xbe.f (k + 1) a0) := by unfold Xbe.f; have := Xav.mono; have := Xab.mono; exact mW
theorem Xbe.Z0 {p : Prop} (h : p := by exact eP ab) : p := h
theorem Xbe.calls (k : Nat) (A0_0 : Option Addr) (c0_0 : Nat) (l0_0 : List Int) (r1 : List Int) (r2 : Int) (w : World) (hr0_0 : Kd.C (Kd.int .i64) w A0_0 l0_0.length l0_0) (hc0_0 : l0_0.length ≤ c0_0) (h : Xbe.f k l0_0 = some (r1, r2)) :
  Calls Try.prog 44 #[.agg #[.slice A0_0 l0_0.length c0_0]] w fun e w' => ∃ v0_ : Value, e = .returned (.tuple #[.agg #[v0_], .int .i64 r2]) ∧ Kd.R (Kd.int .i64) 2 w' w.heap.size (fun _ => True) v0_ r1 ∧ Below w.heap.size w w' := by
 have hu26 := Try.underlying26; have ae := A_ hr0_0; have af := A_ hc0_0; clear hr0_0 hc0_0; have HB := A_ (Below.refl w.heap.size w); unfold Xbe.f at h; have H := h; clear h; replace H := oB H; obtain ⟨ay, A2, H⟩ := H
 by_cases c3 : ay = true
 ·subst c3; rw [if_pos rfl] at H; replace H := oB H; obtain ⟨ai, A4, H⟩ := H; simp only [Option.some.injEq, Prod.mk.injEq] at H; obtain ⟨rfl, rfl⟩ := H
  go_enter Try.func44, Try.ntmps44
  go_wp2_with (first | ((with_reducible refine gD 1 ?_); refine bX 1 #[.slice A0_0 l0_0.length c0_0] 26 HB ?_; clear HB; intro aj w5 aa ak HB hb hg; clear hb hg) | ((with_reducible refine gD 2 ?_); refine bX 2 #[.slice none 0 0] 26 HB ?_; clear HB; intro ag w6 ab al HB hb hg; obtain ⟨ac, ad⟩ := nN hg aa; replace aa := eK aa hb; clear hb hg; have aE := ac.out; have aF := ad.out; have az := bC aa; have aA := bF aa) | ((with_reducible refine gC 24 ?_); refine gL 5 Try.func24 #[.agg #[.slice A0_0 l0_0.length c0_0]] ((Xav.calls k _ _ l0_0 true _ (cS (Kd.C_below ae.out HB.out)) af.out A2.out).mono ?_); rintro e w9 ⟨rfl, hb⟩; refine ⟨_, rfl, ?_⟩; replace aa := eK aa hb; replace ab := eK ab hb; replace HB := eS HB hb; have ao := bC aa; have ap := bF aa) | ((with_reducible refine gC 137 ?_); refine gL 10 Try.func137 #[.slice A0_0 l0_0.length c0_0, .int .i64 0] ((Xab.calls k _ _ l0_0 0 ai _ (cS (Kd.C_below ae.out HB.out)) af.out A4.out).mono ?_); rintro e w11 ⟨aG, rfl, ho0, hb⟩; refine ⟨_, rfl, ?_⟩; have ah := eV ho0 HB; replace aa := eK aa hb; replace ab := eK ab hb; replace HB := eS HB hb; obtain ⟨am, an, aB⟩ := Kd.R_slice ah.out; subst aB; have aq := bC ab; have ar := bF ab))
  refine bodyPost_ret (results_ct rfl _ _ ag 26 #[.slice am ai.length an] (0, 0) _ rfl Xbe.Z0 Try.underlying26 rfl (by kernel_rfl)) rfl ?_; exact ⟨_, er, rX (Kd.R_mono (rF ah.out ab (.slice am ai.length an)) (fun _ hk => trivial)), el HB⟩
 ·replace c3 := Bool.eq_false_iff.mpr c3; subst c3; rw [if_neg nF] at H; simp only [Option.some.injEq, Prod.mk.injEq] at H; obtain ⟨rfl, rfl⟩ := H
  go_enter Try.func44, Try.ntmps44
  go_wp2_with (first | ((with_reducible refine gD 1 ?_); refine bX 1 #[.slice A0_0 l0_0.length c0_0] 26 HB ?_; clear HB; intro aj w14 aa ak HB hb hg; clear hb hg) | ((with_reducible refine gD 2 ?_); refine bX 2 #[.slice none 0 0] 26 HB ?_; clear HB; intro ag w15 ab al HB hb hg; obtain ⟨ac, ad⟩ := nN hg aa; replace aa := eK aa hb; clear hb hg; have aC := ac.out; have aD := ad.out; have au := bC aa; have av := bF aa) | ((with_reducible refine gC 24 ?_); refine gL 5 Try.func24 #[.agg #[.slice A0_0 l0_0.length c0_0]] ((Xav.calls k _ _ l0_0 false _ (cS (Kd.C_below ae.out HB.out)) af.out A2.out).mono ?_); rintro e w18 ⟨rfl, hb⟩; refine ⟨_, rfl, ?_⟩; replace aa := eK aa hb; replace ab := eK ab hb; replace HB := eS HB hb; have aw := bC ab; have ax := bF ab))
  refine bodyPost_ret (results_ct rfl _ _ ag 26 #[.slice none 0 0] (0, 0) _ rfl Xbe.Z0 Try.underlying26 rfl (by kernel_rfl)) rfl ?_; exact ⟨_, er, by first | exact Kd.R_nil _ _ _ _ _ | exact Kd.N_nil _ _ _ _ _ | exact Kd.V_nil _ _ _ _ _ | exact Kd.Q_nil _ _ _ _ _ | exact Kd.S_nil _ _ _ _ _, el HB⟩

/-! ### spec_l01Children: function 111 -/
def Xn.l0 : Nat → List Int → Int → Int → List Int → Option (List Int)
  | 0, _, _, _, _ => none
  | k + 1, x5, x6, x7, x474000 => if x7 > 0 then (if x5.length < 17592186044416 then ((Xx.f k x474000 x6).bind fun t481 => (Xn.l0 k (x5 ++ [x6]) t481 (wrap64 (x7 - 1)) x474000)) else (none)) else (some x5)
def Xn.f (k : Nat) (l0_0 : List Int) (a1 : Int) : Option (List Int) := if 0 ≤ a1 then (if a1 < (l0_0.length : Int) then (Xn.l0 k (([] : List Int)) (wrap64 (a1 + 1)) (rd l0_0 a1) l0_0) else (none)) else (none)
theorem Xn.mono_l : ∀ k, (∀ y0 y1 y2 y3, LeO (Xn.l0 k y0 y1 y2 y3) (Xn.l0 (k + 1) y0 y1 y2 y3))
  | 0 => fun _ _ _ _ r h => by simp [Xn.l0] at h
  | k + 1 => by
    have ih0 := Xn.mono_l k
    · intro y0 y1 y2 y3
      unfold Xn.l0
      have := Xx.mono; exact mW
theorem Xn.mono a0 a1 k : LeO (Xn.f k a0 a1) (Xn.f (k + 1) a0 a1) := by have ih0 := Xn.mono_l k; unfold Xn.f; have := Xx.mono; exact mW
theorem Xn.Z0 {p : Prop} (h : p := by first | (with_reducible assumption) | assumption) : p := h
theorem Xn.Z1 {p : Prop} (h : p := by first | rfl | (simp; done) | (simp [*]; done)) : p := h
theorem Xn.calls (k : Nat) (A0_0 : Option Addr) (c0_0 : Nat) (l0_0 : List Int) (a1 : Int) (r : List Int) (w : World) (hr0_0 : Kd.C (Kd.int .i64) w A0_0 l0_0.length l0_0) (hc0_0 : l0_0.length ≤ c0_0) (h : Xn.f k l0_0 a1 = some r) :
  Calls Try.prog 111 #[.agg #[.slice A0_0 l0_0.length c0_0], .int .i64 a1] w fun e w' => ∃ v0_ : Value, e = .returned (v0_) ∧ Kd.R (Kd.int .i64) 2 w' w.heap.size (fun _ => True) v0_ r ∧ Below w.heap.size w w' := by
 have hu26 := Try.underlying26; have al := A_ hr0_0; have ao := A_ hc0_0; clear hr0_0 hc0_0; have HB := A_ (Below.refl w.heap.size w); unfold Xn.f at h; have H := h; clear h; obtain ⟨ap, ae⟩ : ∃ y_ : List Int, y_ = (([] : List Int)) := ⟨_, rfl⟩; replace H : (if 0 ≤ a1 then (if a1 < (l0_0.length : Int) then (Xn.l0 k ap (wrap64 (a1 + 1)) (rd l0_0 a1) l0_0) else (none)) else (none)) = some r := eH ae H; have am := A_ ae; clear ae
 by_cases c3 : 0 ≤ a1
 ·rw [if_pos c3] at H; have aD := decide_eq_true c3; clear c3
  replace H := iD H; obtain ⟨aE, H⟩ := H; have H' := A_ H; clear H
  go_enter Try.func111, Try.ntmps111
  go_wp2_with (first | ((with_reducible refine gD 2 ?_); refine bX 2 #[.slice A0_0 l0_0.length c0_0] 26 HB ?_; clear HB; intro an w5 aa aC HB hb hg; clear hb hg) | ((with_reducible refine gD 8 ?_); refine Kd.R_lit (Kd.int .i64) _ 2 ?hg (N := 8) ?hd (xs := ([] : List Int)) (inner := []) (ok := fun _ => True) (okp := fun _ => True) ?hr ?hp (fun _ hk => hk) trivial (Below.refl _ _) (Nat.le_refl _) (by simp) ?_; (case hd => rfl); (case hg => rfl); (case hr => first | (go_simp; done) | (go_simp; rfl)); (case hp => exact (Reps.none _ _)); intro aG w6 ho7 hb hg_ hnew_; clear hg_ hnew_; (first | rw [← am.out] at ho7 | (simp only [Int.reduceToNat] at ho7; rw [← am.out] at ho7)); have aq := eV ho7 HB; replace aa := eK aa hb; replace HB := eS HB hb; clear hb ho7; have ay := bC aa; have az := bF aa; have p477 : 0 ≤ (a1 : Int) := of_decide_eq_true Xn.Z0; have q477 : a1 < (l0_0.length : Int) := of_decide_eq_true Xn.Z0; obtain ⟨af, e477, ab⟩ := Kd.at_int al.out a1 p477 q477; cases e477; replace ab := (HB.out.cell (World.block_lt_of_cell? w _ ab)).trans ab; replace p477 := eq_true p477; replace q477 := eq_true q477))
  go_loopg [5, 6, 7] k (fun kq v5 v6 v7 w' => ∃ (ag : List Int) (ac : Int) (ad : Int), v6 = .int .i64 ac ∧ v7 = .int .i64 ad ∧ Aside0 (Xn.l0 kq ag ac ad l0_0 = some r) ∧ Aside0 (kq ≤ k) ∧ Aside0 (Kd.R (Kd.int .i64) 2 w' w.heap.size (fun _ => True) v5 ag) ∧ Aside0 (w'.heap[an]? = some (.cells #[(.slice (some af) l0_0.length c0_0)] 26 (0, 0))) ∧ Aside0 (Below w.heap.size w w'))
  case atStart => exact ⟨(ap), (wrap64 (a1 + 1)), (rd l0_0 a1), Xn.Z1, Xn.Z1, H', ⟨Nat.le_refl _⟩, ⟨ea aq⟩, ⟨eb aa⟩, ⟨el HB⟩⟩
  case round =>
   clear H'
   try clear hx4
   try clear ab
   obtain ⟨ag, ac, ad, rfl, rfl, HA, HK1, aj, aa, HB⟩ := hrel
   cases gk with
   | zero => exact absurd HA.out (by simp [Xn.l0])
   | succ k1 =>
    have H := HA.out; clear HA; simp only [Xn.l0] at H
    by_cases c9 : ad > 0
    ·rw [if_pos c9] at H; have aA := decide_eq_true c9; clear c9
     replace H := iL H; obtain ⟨ar, H⟩ := H; obtain ⟨au, ah⟩ : ∃ y_ : List Int, y_ = (ag ++ [ac]) := ⟨_, rfl⟩; replace H : ((Xx.f k1 l0_0 ac).bind fun ak => (Xn.l0 k1 au ak (wrap64 (ad - 1)) l0_0)) = some r := eH ah H; have av := A_ ah; clear ah; replace H := oB H; obtain ⟨ak, A11, H⟩ := H; have H' := A_ H; clear H
     go_wp2_with (first | ((with_reducible refine gate_builtin (b := .append) (xs := #[.tmp 20, .tmp 22]) rfl ?_); at_builtin; refine Kd.R_append (Kd.int .i64) (w0 := w) w.heap.size rfl (.tmp 20) (.tmp 22) 24 2 (.int .i64 0) 8 rfl Try.underlying24 info2 rfl (by decide) (by omega) u5 ag ac [.int .i64 ac] (fun _ => True) (fun _ => False) rfl rfl ?aP (fun _ hk => hk.elim) ?aF ?aO ?aB ?aS ?aL ?_; (case aP => exact rfl); (case aB => exact (el HB)); (case aF => exact (fun _ _ => trivial)); (case aO => exact (ea aj)); (case aS => exact (below_size (el HB))); (case aL => have := ar.out; omega); intro aH w12 ho hb hg hat; rw [← av.out] at ho; replace aa := A_ (blk_grown (g := an) (o := .cells #[.slice (some af) l0_0.length c0_0] 26 (0, 0)) (eb aa) hg (Kd.R_ne aj.out aa.out (by decide))); replace HB := A_ hb; have ai := A_ ho; clear aj; clear ho hb hg hat; have aw := bC aa; have ax := bF aa) | ((with_reducible refine gC 103 ?_); refine gL 26 Try.func103 #[.agg #[.slice (some af) l0_0.length c0_0], .int .i64 ac] ((Xx.calls k1 _ _ l0_0 ac ak _ (cS (Kd.C_below al.out HB.out)) ao.out A11.out).mono ?_); rintro e w14 ⟨rfl, hb⟩; refine ⟨_, rfl, ?_⟩; replace ai := eR ai hb; replace aa := eK aa hb; replace HB := eS HB hb))
     go_roundg k1
     case measure => have := HK1.out; omega
     case rel => exact ⟨(au), (ak), (wrap64 (ad - 1)), Xn.Z1, Xn.Z1, H', ⟨by have := HK1.out; omega⟩, ⟨es ai⟩, ⟨eb aa⟩, ⟨el HB⟩⟩
    ·rw [if_neg c9] at H; have aA := decide_eq_false c9; clear c9; obtain rfl := Option.some.inj H
     go_wp2
     go_ret
     exact ⟨_, er, rX (aj.out), el HB⟩
 ·rw [if_neg c3] at H; exact absurd H (by simp)

/-! ### spec_l01Subtree: function 148 -/
def Xar.f (k : Nat) (l0_0 : List Int) (a1 : Int) : Option (List Int) := (Xx.f k l0_0 a1).bind fun t484 => (if 0 ≤ a1 then (if a1 ≤ t484 then (if t484 ≤ (l0_0.length : Int) then ((Xby.f ((l0_0.take (t484 : Int).toNat).drop (a1 : Int).toNat)).bind fun t486 => (some t486)) else (none)) else (none)) else (none))
theorem Xar.mono a0 a1 k : LeO (Xar.f k a0 a1) (Xar.f (k + 1) a0 a1) := by unfold Xar.f; have := Xx.mono; exact mW
def Xar.T1 : Bool × List (List Nat × List Nat) := (true, [([], []), ([0], [0]), ([], []), ([], []), ([], []), ([3, 4], [3, 4]), ([1, 2, 5], [1, 2, 5]), ([6, 5], [6]), ([7, 7, 0, 1, 2, 3, 4, 5, 6, 7], [7])])
def Xar.B1 : List Nat := [0, 1, 0, 0, 0, 24, 63, 127, 255]
theorem Xar.tab1 : rtab .any (opsOf Try.f148 1) = Xar.T1 := by kernel_rfl
theorem Xar.bits1 : waitsOk Xar.T1.2 Xar.B1 = true := by kernel_rfl
theorem Xar.Z0 {p : Prop} (h : p := by first | (with_reducible assumption) | assumption) : p := h
theorem Xar.calls (k : Nat) (A0_0 : Option Addr) (c0_0 : Nat) (l0_0 : List Int) (a1 : Int) (r : List Int) (w : World) (hr0_0 : Kd.C (Kd.int .i64) w A0_0 l0_0.length l0_0) (hc0_0 : l0_0.length ≤ c0_0) (h : Xar.f k l0_0 a1 = some r) :
  Calls Try.prog 148 #[.agg #[.slice A0_0 l0_0.length c0_0], .int .i64 a1] w fun e w' => ∃ v0_ : Value, e = .returned (.agg #[v0_]) ∧ Kd.R (Kd.int .i64) 2 w' w.heap.size (fun _ => True) v0_ r ∧ Below w.heap.size w w' := by
 have hu26 := Try.underlying26; have ag := A_ hr0_0; have ah := A_ hc0_0; clear hr0_0 hc0_0; have HB := A_ (Below.refl w.heap.size w); unfold Xar.f at h; have H := h; clear h; replace H := oB H; obtain ⟨ad, A3, H⟩ := H
 by_cases c4 : 0 ≤ a1
 ·rw [if_pos c4] at H; have au := eq_true c4; have av := decide_eq_true c4; clear c4
  replace H := iE H; obtain ⟨aw, ax, H⟩ := H
  replace H := iE H; obtain ⟨ay, az, H⟩ := H; replace H := oB H; obtain ⟨aj, A7, H⟩ := H; obtain rfl := Option.some.inj H
  go_enter Try.func148, Try.ntmps148
  try go_wp2_with (first | ((with_reducible refine gD 2 ?_); refine bX 2 #[.slice A0_0 l0_0.length c0_0] 26 HB ?_; clear HB; intro ak w8 aa aq HB hb hg; clear hb hg) | ((with_reducible refine gD 4 ?_); refine bX 4 #[.slice none 0 0] 26 HB ?_; clear HB; intro af w9 ab ar HB hb hg; obtain ⟨ac, ae⟩ := nN hg aa; replace aa := eK aa hb; clear hb hg))
  replace aa := bD aa; replace ab := bD ab; replace HB := wD HB; refine sT 9 (fun w' => w'.cell? ⟨ak, 0, none⟩ = some (.slice A0_0 l0_0.length c0_0)) (bM 9 0) Xar.tab1 Xar.bits1 (bc aa) (fun hHeld HT_ HW_ => ?_)
  generalize w9.drew = w10 at aa ab HB hHeld ⊢; refine pA 0 5 (bM 9 1) HT_ ?_; refine pA 2 7 (bM 9 5) HT_ ?_; refine pA 4 9 (bM 9 21) HT_ ?_; refine tA 1 6 (bM 9 23) HT_ HW_ hHeld ?_; refine tA 3 8 (bM 9 31) HT_ HW_ hHeld ?_; refine oN 5 (some 10) (bM 9 63) HT_ (fun K hK => ?_); refine gS Try.func103 #[.agg #[.slice A0_0 l0_0.length c0_0], .int .i64 a1] ((Xx.calls k _ _ l0_0 a1 ad _ (cS (Kd.C_below ag.out HB.out)) ah.out A3.out).mono ?_); rintro e w11 ⟨rfl, hb⟩; refine ⟨_, rfl, ?_⟩; replace aa := eK aa hb; replace ab := eK ab hb; replace HB := eS HB hb
  obtain ⟨i012, hi012, _, hsz12, _⟩ := info_parts info2; obtain ⟨A12, hcut12, hA12, hC12⟩ := print_mid_of (P := Try.prog) (Value.int .i64) 0 24 2 .i64 .i64 Try.underlying24 hi012 hsz12 A0_0 c0_0 l0_0 a1 ad (of_decide_eq_true Xar.Z0) (by first | omega | exact of_decide_eq_true Xar.Z0) (of_decide_eq_true Xar.Z0) ah.out; have HR485 := A_ (Kd.C_of_reads (h1 := fun _ => rfl) (hA12 _ (Kd.reads_of_C ag.out))); have HC485 := A_ hC12; clear hA12 hC12 hi012 hsz12; refine hK.out _ _ (bc aa) (fun hHeld => ?_); clear hK K; refine nM (some 10) ?_; refine pA 6 11 (bM 9 127) HT_ ?_; refine oN 7 (some 12) (bM 9 255) HT_ (fun K hK => ?_); refine goes_ Try.func173 (by kernel_rfl) rfl #[.slice A12 ((l0_0.take (ad : Int).toNat).drop (a1 : Int).toNat).length (c0_0 - a1.toNat)] (by rfl) rfl rfl (by (try simp only [List.map_toArray, List.map_cons, List.map_nil]); first | done | (rw [show ((l0_0.take (ad : Int).toNat).drop (a1 : Int).toNat).length = (ad.toNat - a1.toNat) from (by rw [List.length_drop, List.length_take]; have h_ : (ad : Int) ≤ (l0_0.length : Int) := of_decide_eq_true Xar.Z0; omega)] <;> rfl) | rfl | (simp only [List.length_drop, List.length_take]; rfl)) ?_; with_reducible refine (Xby.calls _ _ ((l0_0.take (ad : Int).toNat).drop (a1 : Int).toNat) aj _ ?side1 ?side2 A7.out).mono ?_
  (case side1 => exact cS (Kd.C_below HR485.out HB.out)); (case side2 => exact HC485.out); rintro e w13 ⟨aA, rfl, ho0, hb⟩; refine ⟨_, rfl, ?_⟩; have ai := eV ho0 HB; replace aa := eK aa hb; replace ab := eK ab hb; replace HB := eS HB hb
  obtain ⟨al, am, an⟩ := Kd.R_slice ai.out; (first | subst an | (injection an with f1_ f2_ f3_; have f4_ := f1_.symm; have f5_ := f3_.symm; clear f1_ f2_ f3_; subst f4_; subst f5_)); refine hK.out _ _ (bc aa) (fun hHeld => ?_); clear hK K; refine nM (some 12) ?_; refine oN 8 none (bM 9 511) HT_ (fun K hK => ?_); have hs15 : w13.cell? ⟨af, 0, none⟩ = some (.slice none 0 0) := bc ab; have hfs15 := blk_frozen ab.out 0; have ao := ac.out; have ap := ae.out; refine skip_ (w1 := ?_) (by rfl) rfl ?_ ?_; rotate_left
  ·go_simp; rfl
  refine hK.out _ _ (((cell_far (p := ⟨af, _, none⟩) ac.out _).trans (hHeld))) (fun hHeld => ?_); clear hK K; refine done_ (done_of HT_.out (by kernel_rfl)) ?_
  try go_wp2
  refine bodyPost_ret (results_cell_row rfl _ _ af 26 #[.slice al aj.length am] (0, 0) _ rfl (eP ab) Try.underlying26 rfl (by kernel_rfl)) rfl ?_; exact ⟨_, er, rX (Kd.R_mono (rF ai.out ab (.slice al aj.length am)) (fun _ hk => trivial)), el HB⟩
 ·rw [if_neg c4] at H; exact absurd H (by simp)

/-! ### spec_l01Mirror: function 138 -/
theorem fldT (A : Option Addr) (n c : Nat) (w' : World) : (Sem.run Try.prog (Instr.field 26 (.agg #[.slice A n c]) 0) w').andThen (fun a w' => Result.ok (Next.value a) w') = Result.ok (Next.value (.slice A n c)) w' := by kernel_rfl
theorem pF {P : Program} {ops : Array Oper} {Q : Exit → Act → World → Prop} {md : Region.Mode} {S : World → Prop} {ds : List Nat} {oi : Oper} {v : Value} {fuel : Nat} {l : Array Bool} {a a' : Act} {w : World} {T : Bool × List (List Nat × List Nat)} (i N : Nat) (l' : Array Bool) (hT : Aside0 (rtab md ops = T)) (h : wpAnyLast P md ops Q S ds fuel l' a' w)
    (hi : ops[i]? = some oi := by rfl) (hN : oi.dst = some N := by rfl) (hc : anyT T l.toList l'.toList i = true := by kernel_rfl) (hQ : ∀ c a w, Q (.panic c) (a.put oi.dst v) w → Q (.panic c) a w := by exact fun _ _ _ h => h)
    (h1 : Region.wanted oi (yielded ops a.tmps) = true := by rfl) (h2 : ∀ w', (execOp a.eval oi).run P w' = .ok (.value v) w' := by (intro w'; go_simp; first | with_reducible rfl | exact fldT _ _ _ _)) (ha : a.put (some N) v = a' := by (simp only [Act.put, List.setIfInBounds_toArray, List.set_cons_zero, List.set_cons_succ, i64_w, i32_w]; rfl)) : wpAnyLast P md ops Q S ds (fuel + 1) l a w := pA i N l' hT h hi hN hc hQ h1 h2 ha
mutual
def Xq.l0 : Nat → List Int → List Int → Int → List Int → Option (List Int)
  | 0, _, _, _, _ => none
  | k + 1, x3, x4, x5, x490000 => if x5 ≥ 0 then (if 0 ≤ x5 then (if x5 < (x4.length : Int) then ((Xar.f k x490000 (rd x4 x5)).bind fun t499 => ((Xq.f k t499).bind fun t502 => (if x3.length + t502.length < 17592186044416 then (Xq.l0 k (x3 ++ t502) x4 (wrap64 (x5 - 1)) x490000) else (none)))) else (none)) else (none)) else (some x3)
def Xq.f : Nat → List Int → Option (List Int)
  | 0, _ => none
  | k + 1, l0_0 => if 0 < (l0_0.length : Int) then ((Xn.f k l0_0 0).bind fun t495 => (Xq.l0 k (([rd l0_0 0] : List Int)) t495 (wrap64 ((t495.length : Int) - 1)) l0_0)) else (none)
end
theorem Xq.mono_l : ∀ k, (∀ y0, LeO (Xq.f k y0) (Xq.f (k + 1) y0)) ∧ (∀ y0 y1 y2 y3, LeO (Xq.l0 k y0 y1 y2 y3) (Xq.l0 (k + 1) y0 y1 y2 y3))
  | 0 => ⟨fun _ r h => by simp [Xq.f] at h, fun _ _ _ _ r h => by simp [Xq.l0] at h⟩
  | k + 1 => by
    obtain ⟨ih0, ih1⟩ := Xq.mono_l k
    refine ⟨?_, ?_⟩
    · intro y0
      unfold Xq.f
      have := Xn.mono; have := Xar.mono; exact mW
    · intro y0 y1 y2 y3
      unfold Xq.l0
      have := Xn.mono; have := Xar.mono; exact mW
theorem Xq.mono : ∀ a0 k, LeO (Xq.f k a0) (Xq.f (k + 1) a0) := by
  intro a0 k
  obtain ⟨ih0, ih1⟩ := Xq.mono_l k
  exact ih0 a0
def Xq.T1 : Bool × List (List Nat × List Nat) := (true, [([], []), ([0], [0]), ([1], [1]), ([2], [2]), ([3], [3]), ([], []), ([5], [5]), ([4, 6, 0, 1, 2, 3, 4], [4]), ([6, 7, 0, 1, 2, 3, 4, 5, 6, 7], [6])])
def Xq.B1 : List Nat := [0, 1, 3, 7, 15, 0, 32, 127, 255]
theorem Xq.tab1 : rtab .any (opsOf Try.f138 1) = Xq.T1 := by kernel_rfl
theorem Xq.bits1 : waitsOk Xq.T1.2 Xq.B1 = true := by kernel_rfl
def Xq.T5 : Bool × List (List Nat × List Nat) := (true, [([], []), ([], []), ([], []), ([], []), ([2, 3], [2, 3]), ([4], [4]), ([1, 5], [1, 5]), ([6, 6], [6]), ([7], [7]), ([0, 8, 7], [0, 8]), ([9, 9, 0, 1, 2, 3, 4, 5, 6, 7, 8, 9], [0, 9])])
def Xq.B5 : List Nat := [0, 0, 0, 0, 12, 28, 62, 126, 254, 511, 1023]
theorem Xq.tab5 : rtab .any (opsOf Try.f138 5) = Xq.T5 := by kernel_rfl
theorem Xq.bits5 : waitsOk Xq.T5.2 Xq.B5 = true := by kernel_rfl
theorem Xq.Z0 {p : Prop} (h : p := by first | (with_reducible assumption) | assumption) : p := h
theorem Xq.Z1 {p : Prop} (h : p := by first | rfl | (simp; done) | (simp [*]; done)) : p := h
theorem Xq.calls (k : Nat) : ∀ (A0_0 : Option Addr) (c0_0 : Nat) (l0_0 : List Int) (r : List Int) (w : World) (hr0_0 : Kd.C (Kd.int .i64) w A0_0 l0_0.length l0_0) (hc0_0 : l0_0.length ≤ c0_0) (h : Xq.f k l0_0 = some r),
  Calls Try.prog 138 #[.agg #[.slice A0_0 l0_0.length c0_0]] w fun e w' => ∃ v0_ : Value, e = .returned (.agg #[v0_]) ∧ Kd.R (Kd.int .i64) 2 w' w.heap.size (fun _ => True) v0_ r ∧ Below w.heap.size w w' := by
 induction k using Nat.strongRecOn with
 | _ k ih =>
 intro A0_0 c0_0 l0_0 r w hr0_0 hc0_0 h
 cases k with
 | zero => exact absurd h (by simp [Xq.f])
 | succ k =>
 have hu26 := Try.underlying26; have az := A_ hr0_0; have aI := A_ hc0_0; clear hr0_0 hc0_0; have HB := A_ (Below.refl w.heap.size w); unfold Xq.f at h; have H := h; clear h
 by_cases c2 : 0 < (l0_0.length : Int)
 ·rw [if_pos c2] at H; have ba := decide_eq_true c2; have bb : decide (0 < l0_0.length) = true := decide_eq_true (by omega); clear c2; obtain ⟨aE, aA⟩ : ∃ y_ : List Int, y_ = (([rd l0_0 0] : List Int)) := ⟨_, rfl⟩; replace H : ((Xn.f k l0_0 0).bind fun ag => (Xq.l0 k aE ag (wrap64 ((ag.length : Int) - 1)) l0_0)) = some r := eH aA H; have aJ := A_ aA; clear aA; replace H := oB H; obtain ⟨ag, A3, H⟩ := H; have H' := A_ H; clear H
  go_enter Try.func138, Try.ntmps138
  try go_wp2_with (first | ((with_reducible refine gD 1 ?_); refine bX 1 #[.slice A0_0 l0_0.length c0_0] 26 HB ?_; clear HB; intro al w4 aa a4 HB hb hg; clear hb hg) | ((with_reducible refine gD 2 ?_); refine bX 2 #[.slice none 0 0] 26 HB ?_; clear HB; intro aq w5 ab a5 HB hb hg; obtain ⟨av, aw⟩ := nN hg aa; replace aa := eK aa hb; clear hb hg))
  replace aa := bD aa; replace ab := bD ab; replace HB := wD HB; have p491 : 0 ≤ (0 : Int) := (by omega); have q491 : 0 < (l0_0.length : Int) := of_decide_eq_true Xq.Z0; obtain ⟨ac, e491, af⟩ := Kd.at_int az.out 0 p491 q491; have hw491_0 := af; (try rw [show ((0 : Int)).toNat = 0 from rfl] at hw491_0); (try rw [show 0 * 1 = 0 from rfl] at hw491_0); (try rw [Addr.add_zero'] at hw491_0); cases e491; have qi491 : (0 < l0_0.length) = True := eq_true (by omega); (try rw [show ((0 : Int)).toNat = 0 from rfl] at af); (try rw [Addr.add_zero'] at af); replace af := (HB.out.cell (World.block_lt_of_cell? w _ af)).trans af; replace p491 := eq_true p491; replace q491 := eq_true q491; refine sT 9 (fun w' => True) (bM 9 0) Xq.tab1 Xq.bits1 trivial (fun hHeld HT_ HW_ => ?_)
  generalize w5.drew = w6 at aa ab HB af hHeld ⊢; refine pF 0 6 (bM 9 1) HT_ ?_; refine inv_at [1, 2, 3, 4, 5, 6, 7, 8] (fun a0_ b a w' => ∃ (ad : Value) (ae : Value) (m7_ : Value) (m8_ : Value), a = putSel a0_ b [(1, 7, .slice (some ac) l0_0.length c0_0), (2, 8, .pointer (some ac)), (3, 9, .int .i64 (rd l0_0 0)), (4, 10, ad), (5, 11, .agg #[.slice (some ac) l0_0.length c0_0]), (6, 12, ae), (7, 3, m7_), (8, 4, m8_)] ∧ (w'.heap[al]? = some (.cells #[.slice (some ac) l0_0.length c0_0] 26 (0, 0))) ∧ (w'.heap[aq]? = some (.cells #[.slice none 0 0] 26 (0, 0))) ∧ (Below w.heap.size w w') ∧ (b 4 = true → Kd.R (Kd.int .i64) 2 w' w.heap.size (fun k_ => b 6 = true → some k_ ≠ (ae : Value).ownBlock) ad aE) ∧ (b 6 = true → Kd.R (Kd.int .i64) 2 w' w.heap.size (fun k_ => b 4 = true → some k_ ≠ (ad : Value).ownBlock) ae ag) ∧ (b 7 = true → (m7_ : Value) = ad) ∧ (b 8 = true → (m8_ : Value) = ae)) HT_.out HW_.out (by kernel_rfl) (by kernel_rfl) ?_ ?_ ?_
  ·exact ⟨.bool false, .bool false, .bool false, .bool false, by simp only [putSel, Bool.false_eq_true, if_false], aa.out, ab.out, HB.out, fun h_ => absurd h_ (by decide), fun h_ => absurd h_ (by decide), fun h_ => absurd h_ (by decide), fun h_ => absurd h_ (by decide)⟩
  ·clear aa ab HB; refine steps_cons ?_ ?_
   ·rintro b a w' ⟨ad, ae, m7_, m8_, ha, Q_BK489, Q_BK490, Q_HB, Q_HO494, Q_HO497, Q_X7_, Q_X8_⟩ hb_ hon hoff; refine ⟨_, rfl, fun K hK => ?_⟩; have e6 : a.tmps[6]? = some (.pointer (some ⟨al, 0, none⟩)) := by rw [ha]; exact (putSel_off rfl).trans rfl
    replace ha := A_ ha; have aa := A_ Q_BK489; have ab := A_ Q_BK490; have HB := A_ Q_HB; have hc0_ : w'.cell? ⟨al, 0, none⟩ = some (.slice (some ac) l0_0.length c0_0) := bc aa; refine value_ (w1 := w') (v := .slice (some ac) l0_0.length c0_0) (by rfl) rfl ?_ ?_
    ·go_simp; (try simp only [i64_w])
     try rfl
    refine hK.out _ _ ⟨ad, ae, m7_, m8_, (by rw [ha.out]; exact putSel_upk 0 hb_ rfl rfl rfl), Q_BK489, Q_BK490, Q_HB, fun h0_ => absurd ((hoff 4 (by kernel_rfl)).symm.trans h0_) (by decide), Q_HO497, fun h0_ => absurd ((hoff 7 (by kernel_rfl)).symm.trans h0_) (by decide), fun h0_ => absurd ((hoff 8 (by kernel_rfl)).symm.trans h0_) (by decide)⟩
   refine steps_cons ?_ ?_
   ·rintro b a w' ⟨ad, ae, m7_, m8_, ha, Q_BK489, Q_BK490, Q_HB, Q_HO494, Q_HO497, Q_X7_, Q_X8_⟩ hb_ hon hoff; refine ⟨_, rfl, fun K hK => ?_⟩; have e7 : a.tmps[7]? = some (.slice (some ac) l0_0.length c0_0) := by rw [ha]; exact putSel_on (e := (1, 7, .slice (some ac) l0_0.length c0_0)) 0 rfl rfl (hon 1 (by kernel_rfl)) rfl
    replace ha := A_ ha; have aa := A_ Q_BK489; have ab := A_ Q_BK490; have HB := A_ Q_HB; have hs0_ : w'.cell? ac = some (.int .i64 (rd l0_0 0)) := ((HB.out.cell (World.block_lt_of_cell? w _ hw491_0)).trans hw491_0); refine value_ (w1 := w') (v := .pointer (some ac)) (by rfl) rfl ?_ ?_
    ·go_simp; (try simp only [i64_w])
     try rfl
    refine hK.out _ _ ⟨ad, ae, m7_, m8_, (by rw [ha.out]; exact putSel_upk 1 hb_ rfl rfl rfl), Q_BK489, Q_BK490, Q_HB, fun h0_ => absurd ((hoff 4 (by kernel_rfl)).symm.trans h0_) (by decide), Q_HO497, fun h0_ => absurd ((hoff 7 (by kernel_rfl)).symm.trans h0_) (by decide), fun h0_ => absurd ((hoff 8 (by kernel_rfl)).symm.trans h0_) (by decide)⟩
   refine steps_cons ?_ ?_
   ·rintro b a w' ⟨ad, ae, m7_, m8_, ha, Q_BK489, Q_BK490, Q_HB, Q_HO494, Q_HO497, Q_X7_, Q_X8_⟩ hb_ hon hoff; refine ⟨_, rfl, fun K hK => ?_⟩; have e8 : a.tmps[8]? = some (.pointer (some ac)) := by rw [ha]; exact putSel_on (e := (2, 8, .pointer (some ac))) 1 rfl rfl (hon 2 (by kernel_rfl)) rfl
    replace ha := A_ ha; have aa := A_ Q_BK489; have ab := A_ Q_BK490; have HB := A_ Q_HB; have hs0_ : w'.cell? ac = some (.int .i64 (rd l0_0 0)) := ((HB.out.cell (World.block_lt_of_cell? w _ hw491_0)).trans hw491_0); refine value_ (w1 := w') (v := .int .i64 (rd l0_0 0)) (by rfl) rfl ?_ ?_
    ·go_simp; (try simp only [i64_w])
     try rfl
    refine hK.out _ _ ⟨ad, ae, m7_, m8_, (by rw [ha.out]; exact putSel_upk 2 hb_ rfl rfl rfl), Q_BK489, Q_BK490, Q_HB, fun h0_ => absurd ((hoff 4 (by kernel_rfl)).symm.trans h0_) (by decide), Q_HO497, fun h0_ => absurd ((hoff 7 (by kernel_rfl)).symm.trans h0_) (by decide), fun h0_ => absurd ((hoff 8 (by kernel_rfl)).symm.trans h0_) (by decide)⟩
   refine steps_cons ?_ ?_
   ·rintro b a w' ⟨ad, ae, m7_, m8_, ha, Q_BK489, Q_BK490, Q_HB, Q_HO494, Q_HO497, Q_X7_, Q_X8_⟩ hb_ hon hoff; refine ⟨_, rfl, fun K hK => ?_⟩; have e9 : a.tmps[9]? = some (.int .i64 (rd l0_0 0)) := by rw [ha]; exact putSel_on (e := (3, 9, .int .i64 (rd l0_0 0))) 2 rfl rfl (hon 3 (by kernel_rfl)) rfl
    replace ha := A_ ha; have aa := A_ Q_BK489; have ab := A_ Q_BK490; have HB := A_ Q_HB; refine Kd.R_lit_step (Kd.int .i64) _ 2 ?hg (N := 10) ?hd (xs := ([rd l0_0 0] : List Int)) (inner := [.int .i64 (rd l0_0 0)]) (ok := fun _ => True) (okp := fun _ => True) ?hr ?hp (fun _ hk => hk) trivial (Below.refl _ _) (Nat.le_refl _) (by simp) ?_; (case hd => rfl); (case hg => rfl); (case hr => first | (go_simp; done) | (go_simp; rfl)); (case hp => exact (Reps.one (show Kd.M (Kd.int .i64) _ _ _ (rd l0_0 0) [.int .i64 (rd l0_0 0)] from rfl) (Reps.none _ _))); intro ad w7 ho8 hb hg_ hnew_; clear hg_ hnew_; (first | rw [← aJ.out] at ho8 | (simp only [Int.reduceToNat] at ho8; rw [← aJ.out] at ho8)); have n0_ := A_ (Kd.R_lower (apart_new (p := b 6 = true) ho8 (fun h0_ => Q_HO497 h0_)) (below_size (el HB))); have n1_ := A_ (eB aa hb); have n2_ := A_ (eB ab hb); have n3_ := A_ (below_step (el HB) hb); have z_HO497 := fun (h0_ : b 6 = true) => (show Kd.R (Kd.int .i64) 2 w7 w.heap.size (fun k_ => true = true → some k_ ≠ (ad : Value).ownBlock) ae ag from Kd.R_mono (Kd.R_elder' (rX (Q_HO497 h0_)) (Kd.R_base ho8) hb) (fun _ h_ _ => h_.2))
    clear aa; clear ab; clear HB; have an := n0_; have aa := n1_; have ab := n2_; have HB := n3_; clear n0_ n1_ n2_ n3_; clear hb ho8; refine hK.out _ _ ⟨ad, ae, m7_, m8_, (by rw [ha.out]; exact putSel_upk 3 hb_ rfl rfl rfl), (eb aa), (eb ab), (el HB), fun _ => (ea an), z_HO497, fun h0_ => absurd ((hoff 7 (by kernel_rfl)).symm.trans h0_) (by decide), fun h0_ => absurd ((hoff 8 (by kernel_rfl)).symm.trans h0_) (by decide)⟩
   refine steps_cons ?_ ?_
   ·rintro b a w' ⟨ad, ae, m7_, m8_, ha, Q_BK489, Q_BK490, Q_HB, Q_HO494, Q_HO497, Q_X7_, Q_X8_⟩ hb_ hon hoff; refine ⟨_, rfl, fun K hK => ?_⟩; have e1 : a.tmps[1]? = some (.pointer (some ⟨al, 0, none⟩)) := by rw [ha]; exact (putSel_off rfl).trans rfl
    replace ha := A_ ha; have aa := A_ Q_BK489; have ab := A_ Q_BK490; have HB := A_ Q_HB; have hc0_ : w'.cell? ⟨al, 0, none⟩ = some (.slice (some ac) l0_0.length c0_0) := bc aa; refine value_ (w1 := w') (v := .agg #[.slice (some ac) l0_0.length c0_0]) (by rfl) rfl ?_ ?_
    ·go_simp; (try simp only [i64_w])
     try rfl
    refine hK.out _ _ ⟨ad, ae, m7_, m8_, (by rw [ha.out]; exact putSel_upk 4 hb_ rfl rfl rfl), Q_BK489, Q_BK490, Q_HB, Q_HO494, fun h0_ => absurd ((hoff 6 (by kernel_rfl)).symm.trans h0_) (by decide), fun h0_ => absurd ((hoff 7 (by kernel_rfl)).symm.trans h0_) (by decide), fun h0_ => absurd ((hoff 8 (by kernel_rfl)).symm.trans h0_) (by decide)⟩
   refine steps_cons ?_ ?_
   ·rintro b a w' ⟨ad, ae, m7_, m8_, ha, Q_BK489, Q_BK490, Q_HB, Q_HO494, Q_HO497, Q_X7_, Q_X8_⟩ hb_ hon hoff; refine ⟨_, rfl, fun K hK => ?_⟩; have e11 : a.tmps[11]? = some (.agg #[.slice (some ac) l0_0.length c0_0]) := by rw [ha]; exact putSel_on (e := (5, 11, .agg #[.slice (some ac) l0_0.length c0_0])) 4 rfl rfl (hon 5 (by kernel_rfl)) rfl
    replace ha := A_ ha; have aa := A_ Q_BK489; have ab := A_ Q_BK490; have HB := A_ Q_HB; refine goes_ Try.func111 (by kernel_rfl) rfl #[.agg #[.slice (some ac) l0_0.length c0_0], .int .i64 0] (by rfl) rfl rfl (by first | (simp only [List.map_toArray, List.map_cons, List.map_nil, Act.eval, Array.getD_eq_getD_getElem?, Option.getD_some, e11]; done) | (simp only [List.map_toArray, List.map_cons, List.map_nil, Act.eval, Array.getD_eq_getD_getElem?, Option.getD_some, e11]; rfl)) ?_; with_reducible refine (Xn.calls k _ _ l0_0 0 ag _ ?side1 ?side2 A3.out).mono ?_
    (case side1 => exact cS (Kd.C_below az.out HB.out)); (case side2 => exact aI.out); rintro e w7 ⟨ae, rfl, ho0, hb⟩; refine ⟨_, rfl, ?_⟩; have n0_ := A_ (Kd.R_lower (apart_new (p := b 4 = true) ho0 (fun h0_ => Q_HO494 h0_)) (below_size (el HB))); have n1_ := A_ (eB aa hb); have n2_ := A_ (eB ab hb); have n3_ := A_ (below_step (el HB) hb); have z_HO494 := fun (h0_ : b 4 = true) => (show Kd.R (Kd.int .i64) 2 w7 w.heap.size (fun k_ => true = true → some k_ ≠ (ae : Value).ownBlock) ad aE from Kd.R_mono (Kd.R_elder' (rX (Q_HO494 h0_)) (Kd.R_base ho0) hb) (fun _ h_ _ => h_.2))
    clear aa; clear ab; clear HB; have am := n0_; have aa := n1_; have ab := n2_; have HB := n3_; clear n0_ n1_ n2_ n3_
    refine hK.out _ _ ⟨ad, ae, m7_, m8_, (by rw [ha.out]; exact putSel_upk 5 hb_ rfl rfl rfl), (eb aa), (eb ab), (el HB), z_HO494, fun _ => (ea am), fun h0_ => absurd ((hoff 7 (by kernel_rfl)).symm.trans h0_) (by decide), fun h0_ => absurd ((hoff 8 (by kernel_rfl)).symm.trans h0_) (by decide)⟩
   refine steps_cons ?_ ?_
   ·rintro b a w' ⟨ad, ae, m7_, m8_, ha, Q_BK489, Q_BK490, Q_HB, Q_HO494, Q_HO497, Q_X7_, Q_X8_⟩ hb_ hon hoff; refine ⟨_, rfl, fun K hK => ?_⟩; have e10 : a.tmps[10]? = some (ad) := by rw [ha]; exact putSel_on (e := (4, 10, ad)) 3 rfl rfl (hon 4 (by kernel_rfl)) rfl
    replace ha := A_ ha; have aa := A_ Q_BK489; have ab := A_ Q_BK490; have HB := A_ Q_HB; have an := A_ (Q_HO494 (hon 4 (by kernel_rfl))); have am := A_ (Q_HO497 (hon 6 (by kernel_rfl))); refine value_ (w1 := w') (v := ad) (by rfl) rfl ?_ ?_
    ·go_simp; (try simp only [i64_w])
     try rfl
    refine hK.out _ _ ⟨ad, ae, (ad), m8_, (by rw [ha.out]; exact putSel_upk 6 hb_ rfl rfl rfl), Q_BK489, Q_BK490, Q_HB, Q_HO494, Q_HO497, fun _ => rfl, fun h0_ => absurd ((hoff 8 (by kernel_rfl)).symm.trans h0_) (by decide)⟩
   refine steps_cons ?_ ?_
   ·rintro b a w' ⟨ad, ae, m7_, m8_, ha, Q_BK489, Q_BK490, Q_HB, Q_HO494, Q_HO497, Q_X7_, Q_X8_⟩ hb_ hon hoff; refine ⟨_, rfl, fun K hK => ?_⟩; have e12 : a.tmps[12]? = some (ae) := by rw [ha]; exact putSel_on (e := (6, 12, ae)) 5 rfl rfl (hon 6 (by kernel_rfl)) rfl
    replace ha := A_ ha; have aa := A_ Q_BK489; have ab := A_ Q_BK490; have HB := A_ Q_HB; have an := A_ (Q_HO494 (hon 4 (by kernel_rfl))); have am := A_ (Q_HO497 (hon 6 (by kernel_rfl))); refine value_ (w1 := w') (v := ae) (by rfl) rfl ?_ ?_
    ·go_simp; (try simp only [i64_w])
     try rfl
    refine hK.out _ _ ⟨ad, ae, m7_, (ae), (by rw [ha.out]; exact putSel_upk 7 hb_ rfl rfl rfl), Q_BK489, Q_BK490, Q_HB, Q_HO494, Q_HO497, Q_X7_, fun _ => rfl⟩
   exact steps_nil
  rintro b a w10 hall ⟨ad, ae, m7_, m8_, ha, Q_BK489, Q_BK490, Q_HB, Q_HO494, Q_HO497, Q_X7_, Q_X8_⟩; clear aa ab HB; have hb1_ := hall 1 (by kernel_rfl); have hb2_ := hall 2 (by kernel_rfl); have hb3_ := hall 3 (by kernel_rfl); have hb4_ := hall 4 (by kernel_rfl); have hb5_ := hall 5 (by kernel_rfl); have hb6_ := hall 6 (by kernel_rfl); have hb7_ := hall 7 (by kernel_rfl); have hb8_ := hall 8 (by kernel_rfl); subst ha; obtain rfl := Q_X7_ hb7_; obtain rfl := Q_X8_ hb8_; simp only [putSel, hb1_, hb2_, hb3_, hb4_, hb5_, hb6_, hb7_, hb8_, if_true, Act.put, List.setIfInBounds_toArray, List.set_cons_zero, List.set_cons_succ]; have aa := A_ Q_BK489; clear Q_BK489; have ab := A_ Q_BK490; clear Q_BK490; have HB := A_ Q_HB; clear Q_HB; have an := A_ (Kd.R_mono (Q_HO494 hb4_) (fun _ h_ => h_ hb6_)); clear Q_HO494; have am := A_ (Kd.R_mono (Q_HO497 hb6_) (fun _ h_ => h_ hb4_)); clear Q_HO497; clear hall hb1_ hb2_ hb3_ hb4_ hb5_ hb6_ hb7_ hb8_; obtain ⟨aN, aC, a2⟩ := Kd.R_slice am.out; subst a2
  try go_wp2
  go_loopg [3, 5] k (fun kq v3 v5 w' => ∃ (ap : List Int) (ak : Int), v5 = .int .i64 ak ∧ Aside0 (Xq.l0 kq ap ag ak l0_0 = some r) ∧ Aside0 (kq ≤ k) ∧ Aside0 (Kd.R (Kd.int .i64) 2 w' w.heap.size (fun k_ => some k_ ≠ ((.slice aN ag.length aC) : Value).ownBlock) v3 ap) ∧ Aside0 (Kd.R (Kd.int .i64) 2 w' w.heap.size (fun k_ => some k_ ≠ (v3 : Value).ownBlock) (.slice aN ag.length aC) ag) ∧ Aside0 (w'.heap[al]? = some (.cells #[(.slice (some ac) l0_0.length c0_0)] 26 (0, 0))) ∧ Aside0 (w'.heap[aq]? = some (.cells #[(.slice none 0 0)] 26 (0, 0))) ∧ Aside0 (Below w.heap.size w w'))
  case atStart => exact ⟨(aE), (wrap64 ((ag.length : Int) - 1)), Xq.Z1, H', ⟨Nat.le_refl _⟩, ⟨ea an⟩, ⟨ea am⟩, ⟨eb aa⟩, ⟨eb ab⟩, ⟨el HB⟩⟩
  case round =>
   clear H'
   try clear hx4
   try clear qi4
   try clear af
   obtain ⟨ap, ak, rfl, HA, HK1, ah, ai, aa, ab, HB⟩ := hrel
   cases gk with
   | zero => exact absurd HA.out (by simp [Xq.l0])
   | succ k1 =>
    have H := HA.out; clear HA; simp only [Xq.l0] at H
    by_cases c12 : ak ≥ 0
    ·rw [if_pos c12] at H; have aP := decide_eq_true c12; clear c12
     replace H := iD H; obtain ⟨a6, H⟩ := H
     replace H := iD H; obtain ⟨a7, H⟩ := H; replace H := oB H; obtain ⟨ax, A15, H⟩ := H; replace H := oB H; obtain ⟨ay, A16, H⟩ := H
     replace H := iL H; obtain ⟨aQ, H⟩ := H; obtain ⟨aT, aD⟩ : ∃ y_ : List Int, y_ = (ap ++ ay) := ⟨_, rfl⟩; replace H : (Xq.l0 k1 aT ag (wrap64 (ak - 1)) l0_0) = some r := eH aD H; have aU := A_ aD; clear aD; have H' := A_ H; clear H
     try go_wp2
     replace ah := rD ah; replace ai := rD ai; replace aa := bD aa; replace ab := bD ab; replace HB := wD HB; have p498 : 0 ≤ (ak : Int) := of_decide_eq_true Xq.Z0; have q498 : ak < (ag.length : Int) := of_decide_eq_true Xq.Z0; obtain ⟨ar, e498, au⟩ := Kd.at_int (Kd.R_reads' ai.out).2.2 ak p498 q498; cases e498; replace p498 := eq_true p498; replace q498 := eq_true q498; refine start_ (n := 11) (S := fun w' => w'.cell? ⟨al, 0, none⟩ = some (.slice (some ac) l0_0.length c0_0) ∧ w'.cell? (ar.add (ak).toNat) = some (.int .i64 (rd ag ak))) (ds := [9]) (bM 11 0) (by kernel_rfl) rfl rfl ⟨bc aa, au⟩ (fun hHeld => ?_); refine with_tabW Xq.tab5 Xq.bits5 (fun HT_ HW_ => ?_)
     generalize wr.drew = w18 at ah ai aa ab HB au hHeld ⊢; refine pF 0 20 (bM 11 1) HT_ ?_; refine pF 2 22 (bM 11 5) HT_ ?_; refine pF 3 23 (bM 11 13) HT_ ?_; refine pF 4 24 (bM 11 29) HT_ ?_; refine tA 1 21 (bM 11 31) HT_ HW_ hHeld ?_; refine tA 5 25 (bM 11 63) HT_ HW_ hHeld ?_; refine oN 6 (some 26) (bM 11 127) HT_ (fun K hK => ?_); refine gS Try.func148 #[.agg #[.slice (some ac) l0_0.length c0_0], .int .i64 (rd ag ak)] ((Xar.calls k1 _ _ l0_0 (rd ag ak) ax _ (cS (Kd.C_below az.out HB.out)) aI.out A15.out).mono ?_); rintro e w19 ⟨bd, rfl, ho0, hb⟩; have HS1_ := (hb.cell (World.block_lt_of_cell? _ _ (hHeld.2))).trans (hHeld.2); refine ⟨_, rfl, ?_⟩; have aj := A_ (Kd.R_lower (Kd.R_new' (Kd.R_new' ho0 (Kd.R_lt (ea ah))) (Kd.R_lt (ea ai))) (below_size (el HB))); replace ah := eE ah ho0 hb; replace ai := eE ai ho0 hb; replace aa := eK aa hb; replace ab := eK ab hb; replace HB := eS HB hb
     obtain ⟨aG, aH, aV⟩ := Kd.R_slice aj.out; (first | subst aV | (injection aV with f1_ f2_ f3_; have f4_ := f1_.symm; have f5_ := f3_.symm; clear f1_ f2_ f3_; subst f4_; subst f5_)); refine hK.out _ _ ⟨bc aa, HS1_⟩ (fun hHeld => ?_); clear hK K; refine nM (some 26) ?_; refine oN 7 (some 27) (bM 11 255) HT_ (fun K hK => ?_); refine goes_ Try.func138 (by kernel_rfl) rfl #[.agg #[.slice aG ax.length aH]] (by rfl) rfl rfl eg ?_; with_reducible refine (ih k1 (by have := HK1.out; omega) _ _ ax ay _ ?side1 ?side2 A16.out).mono ?_
     (case side1 => exact cS ((Kd.R_reads' aj.out).2.2)); (case side2 => exact (Kd.R_reads' aj.out).2.1); rintro e w21 ⟨be, rfl, ho0, hb⟩; have HS1_ := (hb.cell (World.block_lt_of_cell? _ _ (hHeld.2))).trans (hHeld.2); refine ⟨_, rfl, ?_⟩; have ao := A_ (Kd.R_lower (Kd.R_new' (Kd.R_new' (Kd.R_new' ho0 (Kd.R_lt (ea ah))) (Kd.R_lt (ea ai))) (Kd.R_lt (ea aj))) (below_size (el HB))); replace ah := eE ah ho0 hb; replace ai := eE ai ho0 hb; replace aj := eE aj ho0 hb; replace aa := eK aa hb; replace ab := eK ab hb; replace HB := eS HB hb
     obtain ⟨aK, aM, aW⟩ := Kd.R_slice ao.out; (first | subst aW | (injection aW with f1_ f2_ f3_; have f4_ := f1_.symm; have f5_ := f3_.symm; clear f1_ f2_ f3_; subst f4_; subst f5_)); refine hK.out _ _ ⟨bc aa, HS1_⟩ (fun hHeld => ?_); clear hK K; refine nM (some 27) ?_; refine pF 8 28 (bM 11 511) HT_ ?_; refine last_ (i := 9) (N := some 29) (bM 11 1023) rfl rfl (one_of HT_.out (by kernel_rfl)) (by decide) (fun K hK => ?_); refine Kd.R_append_rows_step (Kd.int .i64) (w0 := w) w.heap.size (by rfl) (.tmp 20) (.tmp 28) 24 2 (.int .i64 0) 8 rfl Try.underlying24 info2 rfl (by decide) (by omega) u3 ap ay _ _ _ (fun k_ => some k_ ≠ (.slice (some ar) ag.length aC : Value).ownBlock ∧ some k_ ≠ (.slice aG ax.length aH : Value).ownBlock ∧ some k_ ≠ (.slice aK ay.length aM : Value).ownBlock) (fun _ => False) rfl rfl ?aO ?aR (fun _ _ h => h) (fun _ h => h.elim) ?aF ?aB ?aS ?aL ?_; (case aR => repeat (first | exact (Kd.R_reads' ao.out).2.2 | (with_reducible refine Kd.C_alloc ?_ _) | (with_reducible refine Kd.C_drewN ?_ _) | (with_reducible refine Kd.C_drew ?_))); (case aB => exact (el HB)); (case aF => exact (fun k_ hk => ⟨Kd.fresh' (Kd.R_lt (ea ai)) k_ hk, Kd.fresh' (Kd.R_lt (ea aj)) k_ hk, Kd.fresh' (Kd.R_lt (ea ao)) k_ hk⟩)); (case aO => exact (rX (Kd.R_mono ah.out (fun _ hk => ⟨hk.1.1, ⟨hk.1.2, hk.2⟩⟩)))); (case aS => exact (below_size (el HB))); (case aL => have := aQ.out; omega); intro bf w22 ho hb hg hat; rw [← aU.out] at ho; replace ai := A_ (Kd.R_after (ok := (fun k_ => some k_ ≠ (.slice aG ax.length aH : Value).ownBlock ∧ some k_ ≠ (.slice aK ay.length aM : Value).ownBlock)) (rX (Kd.R_mono ai.out (fun _ hk => ⟨⟨hk.1.2, hk.2⟩, hk.1.1⟩))) hg hat); replace aa := A_ (blk_grown (g := al) (o := .cells #[.slice (some ac) l0_0.length c0_0] 26 (0, 0)) (eb aa) hg (Kd.R_ne ah.out aa.out (by decide))); replace ab := A_ (blk_grown (g := aq) (o := .cells #[.slice none 0 0] 26 (0, 0)) (eb ab) hg (Kd.R_ne ah.out ab.out (by decide))); replace aj := A_ (Kd.R_after (ok := (fun k_ => some k_ ≠ (.slice (some ar) ag.length aC : Value).ownBlock ∧ some k_ ≠ (.slice aK ay.length aM : Value).ownBlock)) (rX (Kd.R_mono aj.out (fun _ hk => ⟨⟨hk.1.2, hk.2⟩, hk.1.1.2⟩))) hg hat); replace ao := A_ (Kd.R_after (ok := (fun k_ => some k_ ≠ (.slice (some ar) ag.length aC : Value).ownBlock ∧ some k_ ≠ (.slice aG ax.length aH : Value).ownBlock)) (rX (Kd.R_mono ao.out (fun _ hk => ⟨⟨hk.1.2, hk.2⟩, hk.1.1.2⟩))) hg hat); replace HB := A_ hb; have aX := A_ ho; clear ah; clear ho hb hg hat; refine hK.out _ _ ?_; clear hK K; refine nM (some 29) ?_; refine pF 10 3 (bM 11 2047) HT_ ?_; refine done_ (done_of HT_.out (by kernel_rfl)) ?_
     try go_wp2
     go_roundg k1
     case measure => have := HK1.out; omega
     case rel => exact ⟨(aT), (wrap64 (ak - 1)), Xq.Z1, H', ⟨by have := HK1.out; omega⟩, ⟨rX (Kd.R_mono aX.out (fun _ hk => hk.1))⟩, ⟨rX (Kd.R_mono ai.out (fun _ hk => hk.2))⟩, ⟨eb aa⟩, ⟨eb ab⟩, ⟨el HB⟩⟩
    ·rw [if_neg c12] at H; have aP := decide_eq_false c12; clear c12; obtain rfl := Option.some.inj H; obtain ⟨aY, aZ, a3⟩ := Kd.R_slice ah.out; subst a3; have a8 := aw.out; have a9 := av.out; have a0 := bC ab; have a1 := bF ab
     go_wp2
     refine bodyPost_ret (results_cell_row rfl _ _ aq 26 #[.slice aY ap.length aZ] (0, 0) _ rfl (eP ab) Try.underlying26 rfl (by kernel_rfl)) rfl ?_; exact ⟨_, er, rX (Kd.R_mono (rF ah.out ab (.slice aY ap.length aZ)) (fun _ hk => trivial)), el HB⟩
 ·rw [if_neg c2] at H; exact absurd H (by simp)

/-! ### spec_MirrorOf: function 45 -/
def Xbn.f (k : Nat) (l0_0 : List Int) : Option (List Int × Int) := (Xw.f k l0_0).bind fun t510 => (if t510 = true then ((Xq.f k l0_0).bind fun t511 => (some (t511, 0))) else (some (([] : List Int), 1)))
theorem Xbn.mono a0 k : LeO (Xbn.f k a0) (Xbn.f (k + 1) a0) := by unfold Xbn.f; have := Xw.mono; have := Xq.mono; exact mW
theorem Xbn.Z0 {p : Prop} (h : p := by exact eP ab) : p := h
theorem Xbn.calls (k : Nat) (A0_0 : Option Addr) (c0_0 : Nat) (l0_0 : List Int) (r1 : List Int) (r2 : Int) (w : World) (hr0_0 : Kd.C (Kd.int .i64) w A0_0 l0_0.length l0_0) (hc0_0 : l0_0.length ≤ c0_0) (h : Xbn.f k l0_0 = some (r1, r2)) :
  Calls Try.prog 45 #[.agg #[.slice A0_0 l0_0.length c0_0]] w fun e w' => ∃ v0_ : Value, e = .returned (.tuple #[.agg #[v0_], .int .i64 r2]) ∧ Kd.R (Kd.int .i64) 2 w' w.heap.size (fun _ => True) v0_ r1 ∧ Below w.heap.size w w' := by
 have hu26 := Try.underlying26; have ae := A_ hr0_0; have af := A_ hc0_0; clear hr0_0 hc0_0; have HB := A_ (Below.refl w.heap.size w); unfold Xbn.f at h; have H := h; clear h; replace H := oB H; obtain ⟨ay, A2, H⟩ := H
 by_cases c3 : ay = true
 ·subst c3; rw [if_pos rfl] at H; replace H := oB H; obtain ⟨ai, A4, H⟩ := H; simp only [Option.some.injEq, Prod.mk.injEq] at H; obtain ⟨rfl, rfl⟩ := H
  go_enter Try.func45, Try.ntmps45
  go_wp2_with (first | ((with_reducible refine gD 1 ?_); refine bX 1 #[.slice A0_0 l0_0.length c0_0] 26 HB ?_; clear HB; intro aj w5 aa ak HB hb hg; clear hb hg) | ((with_reducible refine gD 2 ?_); refine bX 2 #[.slice none 0 0] 26 HB ?_; clear HB; intro ag w6 ab al HB hb hg; obtain ⟨ac, ad⟩ := nN hg aa; replace aa := eK aa hb; clear hb hg; have aE := ac.out; have aF := ad.out; have az := bC aa; have aA := bF aa) | ((with_reducible refine gC 101 ?_); refine gL 5 Try.func101 #[.agg #[.slice A0_0 l0_0.length c0_0]] ((Xw.calls k _ _ l0_0 true _ (cS (Kd.C_below ae.out HB.out)) af.out A2.out).mono ?_); rintro e w9 ⟨rfl, hb⟩; refine ⟨_, rfl, ?_⟩; replace aa := eK aa hb; replace ab := eK ab hb; replace HB := eS HB hb; have ao := bC aa; have ap := bF aa) | ((with_reducible refine gC 138 ?_); refine gL 9 Try.func138 #[.agg #[.slice A0_0 l0_0.length c0_0]] ((Xq.calls k _ _ l0_0 ai _ (cS (Kd.C_below ae.out HB.out)) af.out A4.out).mono ?_); rintro e w11 ⟨aG, rfl, ho0, hb⟩; refine ⟨_, rfl, ?_⟩; have ah := eV ho0 HB; replace aa := eK aa hb; replace ab := eK ab hb; replace HB := eS HB hb; obtain ⟨am, an, aB⟩ := Kd.R_slice ah.out; subst aB; have aq := bC ab; have ar := bF ab))
  refine bodyPost_ret (results_ct rfl _ _ ag 26 #[.slice am ai.length an] (0, 0) _ rfl Xbn.Z0 Try.underlying26 rfl (by kernel_rfl)) rfl ?_; exact ⟨_, er, rX (Kd.R_mono (rF ah.out ab (.slice am ai.length an)) (fun _ hk => trivial)), el HB⟩
 ·replace c3 := Bool.eq_false_iff.mpr c3; subst c3; rw [if_neg nF] at H; simp only [Option.some.injEq, Prod.mk.injEq] at H; obtain ⟨rfl, rfl⟩ := H
  go_enter Try.func45, Try.ntmps45
  go_wp2_with (first | ((with_reducible refine gD 1 ?_); refine bX 1 #[.slice A0_0 l0_0.length c0_0] 26 HB ?_; clear HB; intro aj w14 aa ak HB hb hg; clear hb hg) | ((with_reducible refine gD 2 ?_); refine bX 2 #[.slice none 0 0] 26 HB ?_; clear HB; intro ag w15 ab al HB hb hg; obtain ⟨ac, ad⟩ := nN hg aa; replace aa := eK aa hb; clear hb hg; have aC := ac.out; have aD := ad.out; have au := bC aa; have av := bF aa) | ((with_reducible refine gC 101 ?_); refine gL 5 Try.func101 #[.agg #[.slice A0_0 l0_0.length c0_0]] ((Xw.calls k _ _ l0_0 false _ (cS (Kd.C_below ae.out HB.out)) af.out A2.out).mono ?_); rintro e w18 ⟨rfl, hb⟩; refine ⟨_, rfl, ?_⟩; replace aa := eK aa hb; replace ab := eK ab hb; replace HB := eS HB hb; have aw := bC ab; have ax := bF ab))
  refine bodyPost_ret (results_ct rfl _ _ ag 26 #[.slice none 0 0] (0, 0) _ rfl Xbn.Z0 Try.underlying26 rfl (by kernel_rfl)) rfl ?_; exact ⟨_, er, by first | exact Kd.R_nil _ _ _ _ _ | exact Kd.N_nil _ _ _ _ _ | exact Kd.V_nil _ _ _ _ _ | exact Kd.Q_nil _ _ _ _ _ | exact Kd.S_nil _ _ _ _ _, el HB⟩

/-! ### cmp_isNaN_int64: function 179 -/
def Xax.f (a0 : Int) : Option (Bool) := some (a0 != a0)
theorem Xax.calls (a0 : Int) (r : Bool) (w : World) (h : Xax.f a0 = some r) :
  Calls Try.prog 179 #[.int .i64 a0] w fun e w' => e = .returned (.bool r) ∧ Drawn0 w w' := by
 unfold Xax.f at h; have H := h; clear h; obtain rfl := Option.some.inj H
 go_enter Try.func179, Try.ntmps179
 go_wp2
 go_ret
 exact ⟨by first | rfl | (simp; done) | (simp [*]; done), by repeat (first | exact Drawn0.refl _ | apply Drawn0.step)⟩

/-! ### cmp_Compare_int64: function 176 -/
def Xca.f (a0 : Int) (a1 : Int) : Option (Int) := (Xax.f a0).bind fun t514 => ((Xax.f a1).bind fun t515 => (if t514 = true then (if t515 = true then (some 0) else (some (-1))) else (if t515 = true then (some 1) else (if a0 < a1 then (some (-1)) else (if a0 > a1 then (some 1) else (some 0))))))
theorem Xca.calls (a0 : Int) (a1 : Int) (r : Int) (w : World) (h : Xca.f a0 a1 = some r) :
  Calls Try.prog 176 #[.int .i64 a0, .int .i64 a1] w fun e w' => e = .returned (.int .i64 r) ∧ Drawn0 w w' := by
 unfold Xca.f at h; have H := h; clear h; replace H := oB H; obtain ⟨ab, A3, H⟩ := H; replace H := oB H; obtain ⟨aa, A4, H⟩ := H
 by_cases c5 : ab = true
 ·subst c5; rw [if_pos rfl] at H
  by_cases c6 : aa = true
  ·subst c6; rw [if_pos rfl] at H; obtain rfl := Option.some.inj H
   go_enter Try.func176, Try.ntmps176
   go_wp2_with (first | ((with_reducible refine gC 179 ?_); refine gL 8 Try.func179 #[.int .i64 a0] ((Xax.calls a0 true _ A3.out).mono ?_); rintro e w' ⟨rfl, ⟨nd, rfl⟩⟩; refine ⟨_, rfl, ?_⟩) | ((with_reducible refine gC 179 ?_); refine gL 10 Try.func179 #[.int .i64 a1] ((Xax.calls a1 true _ A4.out).mono ?_); rintro e w' ⟨rfl, ⟨nd, rfl⟩⟩; refine ⟨_, rfl, ?_⟩))
   go_ret
   exact ⟨by first | rfl | (simp; done) | (simp [*]; done), by repeat (first | exact Drawn0.refl _ | apply Drawn0.step)⟩
  ·replace c6 := Bool.eq_false_iff.mpr c6; subst c6; rw [if_neg nF] at H; obtain rfl := Option.some.inj H
   go_enter Try.func176, Try.ntmps176
   go_wp2_with (first | ((with_reducible refine gC 179 ?_); refine gL 8 Try.func179 #[.int .i64 a0] ((Xax.calls a0 true _ A3.out).mono ?_); rintro e w' ⟨rfl, ⟨nd, rfl⟩⟩; refine ⟨_, rfl, ?_⟩) | ((with_reducible refine gC 179 ?_); refine gL 10 Try.func179 #[.int .i64 a1] ((Xax.calls a1 false _ A4.out).mono ?_); rintro e w' ⟨rfl, ⟨nd, rfl⟩⟩; refine ⟨_, rfl, ?_⟩))
   go_ret
   exact ⟨by first | rfl | (simp; done) | (simp [*]; done), by repeat (first | exact Drawn0.refl _ | apply Drawn0.step)⟩
 ·replace c5 := Bool.eq_false_iff.mpr c5; subst c5; rw [if_neg nF] at H
  by_cases c7 : aa = true
  ·subst c7; rw [if_pos rfl] at H; obtain rfl := Option.some.inj H
   go_enter Try.func176, Try.ntmps176
   go_wp2_with (first | ((with_reducible refine gC 179 ?_); refine gL 8 Try.func179 #[.int .i64 a0] ((Xax.calls a0 false _ A3.out).mono ?_); rintro e w' ⟨rfl, ⟨nd, rfl⟩⟩; refine ⟨_, rfl, ?_⟩) | ((with_reducible refine gC 179 ?_); refine gL 10 Try.func179 #[.int .i64 a1] ((Xax.calls a1 true _ A4.out).mono ?_); rintro e w' ⟨rfl, ⟨nd, rfl⟩⟩; refine ⟨_, rfl, ?_⟩))
   go_ret
   exact ⟨by first | rfl | (simp; done) | (simp [*]; done), by repeat (first | exact Drawn0.refl _ | apply Drawn0.step)⟩
  ·replace c7 := Bool.eq_false_iff.mpr c7; subst c7; rw [if_neg nF] at H
   by_cases c8 : a0 < a1
   ·rw [if_pos c8] at H; have ac := decide_eq_true c8; clear c8; obtain rfl := Option.some.inj H
    go_enter Try.func176, Try.ntmps176
    go_wp2_with (first | ((with_reducible refine gC 179 ?_); refine gL 8 Try.func179 #[.int .i64 a0] ((Xax.calls a0 false _ A3.out).mono ?_); rintro e w' ⟨rfl, ⟨nd, rfl⟩⟩; refine ⟨_, rfl, ?_⟩) | ((with_reducible refine gC 179 ?_); refine gL 10 Try.func179 #[.int .i64 a1] ((Xax.calls a1 false _ A4.out).mono ?_); rintro e w' ⟨rfl, ⟨nd, rfl⟩⟩; refine ⟨_, rfl, ?_⟩))
    go_ret
    exact ⟨by first | rfl | (simp; done) | (simp [*]; done), by repeat (first | exact Drawn0.refl _ | apply Drawn0.step)⟩
   ·rw [if_neg c8] at H; have ac := decide_eq_false c8; clear c8
    by_cases c9 : a0 > a1
    ·rw [if_pos c9] at H; have ad := decide_eq_true c9; clear c9; obtain rfl := Option.some.inj H
     go_enter Try.func176, Try.ntmps176
     go_wp2_with (first | ((with_reducible refine gC 179 ?_); refine gL 8 Try.func179 #[.int .i64 a0] ((Xax.calls a0 false _ A3.out).mono ?_); rintro e w' ⟨rfl, ⟨nd, rfl⟩⟩; refine ⟨_, rfl, ?_⟩) | ((with_reducible refine gC 179 ?_); refine gL 10 Try.func179 #[.int .i64 a1] ((Xax.calls a1 false _ A4.out).mono ?_); rintro e w' ⟨rfl, ⟨nd, rfl⟩⟩; refine ⟨_, rfl, ?_⟩))
     go_ret
     exact ⟨by first | rfl | (simp; done) | (simp [*]; done), by repeat (first | exact Drawn0.refl _ | apply Drawn0.step)⟩
    ·rw [if_neg c9] at H; have ad := decide_eq_false c9; clear c9; obtain rfl := Option.some.inj H
     go_enter Try.func176, Try.ntmps176
     go_wp2_with (first | ((with_reducible refine gC 179 ?_); refine gL 8 Try.func179 #[.int .i64 a0] ((Xax.calls a0 false _ A3.out).mono ?_); rintro e w' ⟨rfl, ⟨nd, rfl⟩⟩; refine ⟨_, rfl, ?_⟩) | ((with_reducible refine gC 179 ?_); refine gL 10 Try.func179 #[.int .i64 a1] ((Xax.calls a1 false _ A4.out).mono ?_); rintro e w' ⟨rfl, ⟨nd, rfl⟩⟩; refine ⟨_, rfl, ?_⟩))
     go_ret
     exact ⟨by first | rfl | (simp; done) | (simp [*]; done), by repeat (first | exact Drawn0.refl _ | apply Drawn0.step)⟩

end Go.Proofs.Ytocachknmgefaaa.QFnTreeParts
