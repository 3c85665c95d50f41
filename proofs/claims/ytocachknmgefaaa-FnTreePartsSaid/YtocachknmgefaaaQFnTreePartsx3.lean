/- Functions of the program as plain Lean functions, each with a proof that the machine's call answers what it answers. Conditions: none. -/
import Derived.Test.YtocachknmgefaaaQFnTreePartsx0
import Derived.Test.YtocachknmgefaaaQFnTreePartsx2
namespace Go.Proofs.Ytocachknmgefaaa.QFnTreeParts
open Go.RowKit Go.Proofs.YtocachknmgefaaaW.PrintWords Go.Proofs.YtocachknmgefaaaW.PrintLast Go.Proofs.YtocachknmgefaaaW.PrintMore
attribute [local go_sem] max2_int min2_int max_two min_two max_three min_three max_four min_four   -- for this text's walks alone
set_option linter.unusedVariables false
set_option maxHeartbeats 8000000
set_option maxRecDepth 100000
set_option linter.unusedSimpArgs false

/-! ### impl_ReplaceAt: function 38 -/
def Xf.f (k : Nat) (l0_0 : List Int) (a1 : Int) (l2_0 : List Int) : Option (List Int × Int) := (Xz.f k (([(⟨l0_0⟩ : S26), (⟨l2_0⟩ : S26)] : List (S26)))).bind fun t294 => (if t294 = true then ((Xj.f k l0_0 (([a1] : List Int))).bind fun t298 => (if t298 = 0 then (if 0 ≤ a1 then (if a1 ≤ (l0_0.length : Int) then ((Xah.f k l0_0 a1).bind fun t304 => (if 0 ≤ t304 then (if t304 ≤ (l0_0.length : Int) then ((Xb.f k (([(l0_0.take (a1 : Int).toNat), l2_0, (l0_0.drop (t304 : Int).toNat)] : List (List Int)))).bind fun t313 => ((Xba.f t313).bind fun bt316 => (some (bt316.1, bt316.2)))) else (none)) else (none))) else (none)) else (none)) else (some (([] : List Int), t298)))) else (some (([] : List Int), 1)))
theorem Xf.mono a0 a1 a2 k : LeO (Xf.f k a0 a1 a2) (Xf.f (k + 1) a0 a1 a2) := by unfold Xf.f; have := Xz.mono; have := Xah.mono; have := Xj.mono; have := Xb.mono; exact mW
def Xf.T6 : Bool × List (List Nat × List Nat) := (true, [([], []), ([0], [0]), ([], []), ([1, 2], [1, 2]), ([], []), ([4], [4]), ([], []), ([6], [6]), ([], []), ([8], [8]), ([], []), ([9, 10], [9, 10]), ([7, 11], [7, 11]), ([3, 5, 12], [3, 5, 12]), ([13, 11], [13]), ([14, 14], [14]), ([15], [15]), ([15], [15]), ([16, 15, 0, 1, 2, 3, 4, 5, 6, 7, 8, 9, 10, 11, 12, 13, 14, 15, 16, 17], [16]), ([17, 18, 0, 1, 2, 3, 4, 5, 6, 7, 8, 9, 10, 11, 12, 13, 14, 15, 16, 17, 18], [17])])
def Xf.B6 : List Nat := [0, 1, 0, 7, 0, 16, 0, 64, 0, 256, 0, 1792, 4032, 8191, 16383, 32767, 65535, 65535, 262143, 524287]
theorem Xf.tab6 : rtab .any (opsOf Try.f38 6) = Xf.T6 := by kernel_rfl
theorem Xf.bits6 : waitsOk Xf.T6.2 Xf.B6 = true := by kernel_rfl
theorem Xf.Z0 {p : Prop} (h : p := by exact eP af) : p := h
theorem Xf.Z1 {p : Prop} (h : p := by (with_reducible repeat (first | apply Kd.V_alloc | apply Kd.V_drewN | apply Kd.V_drew)); exact aA.out) : p := h
theorem Xf.Z2 {p : Prop} (h : p := by (with_reducible repeat (first | apply Kd.V_alloc | apply Kd.V_drewN | apply Kd.V_drew)); exact aB.out) : p := h
theorem Xf.Z3 {p : Prop} (h : p := by (with_reducible repeat (first | apply Kd.N_alloc | apply Kd.N_drewN | apply Kd.N_drew)); exact ag.out) : p := h
theorem Xf.Z4 {p : Prop} (h : p := by (with_reducible repeat (first | apply Kd.V_alloc | apply Kd.V_drewN | apply Kd.V_drew)); exact HO0_0.out) : p := h
theorem Xf.Z5 {p : Prop} (h : p := by (with_reducible repeat (first | apply Kd.V_alloc | apply Kd.V_drewN | apply Kd.V_drew)); exact HO2_0.out) : p := h
theorem Xf.Z6 {p : Prop} (h : p := by first | (with_reducible assumption) | assumption) : p := h
theorem Xf.calls (k : Nat) (P0_0_ : Nat → Prop) (A0_0 : Option Addr) (c0_0 : Nat) (l0_0 : List Int) (a1 : Int) (P2_0_ : Nat → Prop) (A2_0 : Option Addr) (c2_0 : Nat) (l2_0 : List Int) (r1 : List Int) (r2 : Int) (w : World) (hs0_0 : Kd.V (Kd.int .i64) 2 w w.heap.size (fun k_ => P0_0_ k_) (.slice A0_0 l0_0.length c0_0) l0_0) (hs2_0 : Kd.V (Kd.int .i64) 2 w w.heap.size (fun k_ => P2_0_ k_) (.slice A2_0 l2_0.length c2_0) l2_0) (h : Xf.f k l0_0 a1 l2_0 = some (r1, r2)) :
  Calls Try.prog 38 #[.agg #[.slice A0_0 l0_0.length c0_0], .int .i64 a1, .agg #[.slice A2_0 l2_0.length c2_0]] w fun e w' => ∃ v0_ : Value, e = .returned (.tuple #[.agg #[v0_], .int .i64 r2]) ∧ Kd.R (Kd.int .i64) 2 w' w.heap.size (fun k_ => (w.heap.size ≤ k_)) v0_ r1 ∧ Below w.heap.size w w' := by
 have hu26 := Try.underlying26; have HO0_0 := A_ (show Kd.V (Kd.int .i64) 2 w w.heap.size (fun k_ => ((P0_0_ k_ ∨ P2_0_ k_) ∨ w.heap.size ≤ k_)) (.slice A0_0 l0_0.length c0_0) l0_0 from Kd.V_mono hs0_0 (fun k_ hk => .inl (.inl hk))); have HO2_0 := A_ (show Kd.V (Kd.int .i64) 2 w w.heap.size (fun k_ => ((P0_0_ k_ ∨ P2_0_ k_) ∨ w.heap.size ≤ k_)) (.slice A2_0 l2_0.length c2_0) l2_0 from Kd.V_mono hs2_0 (fun k_ hk => .inl (.inr hk))); have HB := A_ (Below.refl w.heap.size w); unfold Xf.f at h; have H := h; clear h; obtain ⟨ao, aM⟩ : ∃ y_ : List (S26), y_ = (([(⟨l0_0⟩ : S26), (⟨l2_0⟩ : S26)] : List (S26))) := ⟨_, rfl⟩; replace H : ((Xz.f k ao).bind fun aY => (if aY = true then ((Xj.f k l0_0 (([a1] : List Int))).bind fun aG => (if aG = 0 then (if 0 ≤ a1 then (if a1 ≤ (l0_0.length : Int) then ((Xah.f k l0_0 a1).bind fun am => (if 0 ≤ am then (if am ≤ (l0_0.length : Int) then ((Xb.f k (([(l0_0.take (a1 : Int).toNat), l2_0, (l0_0.drop (am : Int).toNat)] : List (List Int)))).bind fun aw => ((Xba.f aw).bind fun an => (some (an.1, an.2)))) else (none)) else (none))) else (none)) else (none)) else (some (([] : List Int), aG)))) else (some (([] : List Int), 1)))) = some (r1, r2) := eH aM H; have aF := A_ aM; clear aM; replace H := oB H; obtain ⟨aY, A4, H⟩ := H
 by_cases c5 : aY = true
 ·subst c5; rw [if_pos rfl] at H; obtain ⟨ap, aN⟩ : ∃ y_ : List Int, y_ = (([a1] : List Int)) := ⟨_, rfl⟩; replace H : ((Xj.f k l0_0 ap).bind fun aG => (if aG = 0 then (if 0 ≤ a1 then (if a1 ≤ (l0_0.length : Int) then ((Xah.f k l0_0 a1).bind fun am => (if 0 ≤ am then (if am ≤ (l0_0.length : Int) then ((Xb.f k (([(l0_0.take (a1 : Int).toNat), l2_0, (l0_0.drop (am : Int).toNat)] : List (List Int)))).bind fun aw => ((Xba.f aw).bind fun an => (some (an.1, an.2)))) else (none)) else (none))) else (none)) else (none)) else (some (([] : List Int), aG)))) = some (r1, r2) := eH aN H; have aJ := A_ aN; clear aN; replace H := oB H; obtain ⟨aG, A6, H⟩ := H
  by_cases c7 : aG = 0
  ·rw [if_pos c7] at H; obtain ⟨bA, bB⟩ := bT c7; clear c7
   replace H := iE H; obtain ⟨ck, cl, H⟩ := H
   replace H := iE H; obtain ⟨cm, cn, H⟩ := H; obtain ⟨aC, aO⟩ : ∃ y_ : List Int, y_ = (l0_0.take (a1 : Int).toNat) := ⟨_, rfl⟩; replace H : ((Xah.f k l0_0 a1).bind fun am => (if 0 ≤ am then (if am ≤ (l0_0.length : Int) then ((Xb.f k (([aC, l2_0, (l0_0.drop (am : Int).toNat)] : List (List Int)))).bind fun aw => ((Xba.f aw).bind fun an => (some (an.1, an.2)))) else (none)) else (none))) = some (r1, r2) := eH aO H; have aR := A_ aO; clear aO; replace H := oB H; obtain ⟨am, A10, H⟩ := H
   replace H := iE H; obtain ⟨bY, bZ, H⟩ := H
   replace H := iE H; obtain ⟨b0, b1, H⟩ := H; obtain ⟨az, aP⟩ : ∃ y_ : List Int, y_ = (l0_0.drop (am : Int).toNat) := ⟨_, rfl⟩; replace H : ((Xb.f k (([aC, l2_0, az] : List (List Int)))).bind fun aw => ((Xba.f aw).bind fun an => (some (an.1, an.2)))) = some (r1, r2) := eH aP H; have aS := A_ aP; clear aP; obtain ⟨aH, aQ⟩ : ∃ y_ : List (List Int), y_ = (([aC, l2_0, az] : List (List Int))) := ⟨_, rfl⟩; replace H : ((Xb.f k aH).bind fun aw => ((Xba.f aw).bind fun an => (some (an.1, an.2)))) = some (r1, r2) := eH aQ H; have aT := A_ aQ; clear aQ; replace H := oB H; obtain ⟨aw, A13, H⟩ := H; replace H := oB H; obtain ⟨⟨aZ, bE⟩, A14, H⟩ := H; (try dsimp only at H); simp only [Option.some.injEq, Prod.mk.injEq] at H; obtain ⟨rfl, rfl⟩ := H
   go_enter Try.func38, Try.ntmps38
   try go_wp2_with (first | ((with_reducible refine gD 3 ?_); refine bX 3 #[.slice A0_0 l0_0.length c0_0] 26 HB ?_; clear HB; intro ad w15 aa aU HB hb hg; replace HO0_0 := A_ (Kd.V_below (Kd.V_elderB Xf.Z4 ad (Nat.le_of_eq hg.symm)) hb); replace HO2_0 := A_ (Kd.V_below (Kd.V_elderB Xf.Z5 ad (Nat.le_of_eq hg.symm)) hb); clear hb hg) | ((with_reducible refine gD 5 ?_); refine bX 5 #[.slice A2_0 l2_0.length c2_0] 26 HB ?_; clear HB; intro ae w16 ab aV HB hb hg; replace HO0_0 := A_ (Kd.V_below (Kd.V_elderB Xf.Z4 ae (Nat.le_of_eq hg.symm)) hb); replace HO2_0 := A_ (Kd.V_below (Kd.V_elderB Xf.Z5 ae (Nat.le_of_eq hg.symm)) hb); obtain ⟨aq, ar⟩ := nN hg aa; replace aa := eK aa hb; clear hb hg) | ((with_reducible refine gD 6 ?_); refine bX 6 #[.slice none 0 0] 26 HB ?_; clear HB; intro ac w17 af aW HB hb hg; replace HO0_0 := A_ (Kd.V_below (Kd.V_elderB Xf.Z4 ac (Nat.le_of_eq hg.symm)) hb); replace HO2_0 := A_ (Kd.V_below (Kd.V_elderB Xf.Z5 ac (Nat.le_of_eq hg.symm)) hb); obtain ⟨ai, ak⟩ := nN hg aa; replace aa := eK aa hb; obtain ⟨aj, al⟩ := nN hg ab; replace ab := eK ab hb; clear hb hg; have b2 := aq.out; have b3 := ar.out; have b4 := ai.out; have b5 := ak.out; have a9 := bC aa; have ba := bF aa; have b6 := aj.out; have b7 := al.out; have bb := bC ab; have bd := bF ab) | ((with_reducible refine gD 11 ?_); refine Kd.N_lit k26 _ 26 ?hg (N' := 11) ?hd (xs := ([(⟨l0_0⟩ : S26), (⟨l2_0⟩ : S26)] : List (S26))) (inner := [.slice A0_0 l0_0.length c0_0, .slice A2_0 l2_0.length c2_0]) (ok := (fun k_ => ((P0_0_ k_ ∨ P2_0_ k_) ∨ w.heap.size ≤ k_) ∧ k_ ≠ ad ∧ k_ ≠ ae ∧ k_ ≠ ac)) (okp := (fun k_ => ((P0_0_ k_ ∨ P2_0_ k_) ∨ w.heap.size ≤ k_) ∧ k_ ≠ ad ∧ k_ ≠ ae ∧ k_ ≠ ac)) ?hr ?hp (fun _ hk => hk) ((show ∀ k_, w17.heap.size ≤ k_ → (fun k_ => ((P0_0_ k_ ∨ P2_0_ k_) ∨ w.heap.size ≤ k_) ∧ k_ ≠ ad ∧ k_ ≠ ae ∧ k_ ≠ ac) k_ from fun k_ hk => ⟨(.inr (Nat.le_trans (below_size (el HB)) hk)), Kd.freshB (g := ad) (o := .cells #[.slice A0_0 l0_0.length c0_0] 26 (0, 0)) (eb aa) k_ hk, Kd.freshB (g := ae) (o := .cells #[.slice A2_0 l2_0.length c2_0] 26 (0, 0)) (eb ab) k_ hk, Kd.freshB (g := ac) (o := .cells #[.slice none 0 0] 26 (0, 0)) (eb af) k_ hk⟩) _ (Nat.le_refl _)) (Below.refl _ _) (Nat.le_refl _) (by simp) ?_; (case hd => rfl); (case hg => rfl); (case hr => first | (go_simp; done) | (go_simp; rfl)); (case hp => exact (Reps.one (show Kd.FK k26 _ _ (⟨l0_0⟩ : S26) [.slice A0_0 l0_0.length c0_0] from (k26_mkF _ _ (⟨l0_0⟩ : S26) (Kd.V_reads' (Kd.V_mono (e := 2) (base := w.heap.size) (ok' := (fun k_ => ((P0_0_ k_ ∨ P2_0_ k_) ∨ w.heap.size ≤ k_) ∧ k_ ≠ ad ∧ k_ ≠ ae ∧ k_ ≠ ac)) (HO0_0.out) (fun k_ hk => ⟨hk.1.1.1, ⟨hk.1.1.2, ⟨hk.1.2, hk.2⟩⟩⟩))).2.1 (Kd.V_F (Kd.V_mono (e := 2) (base := w.heap.size) (ok' := (fun k_ => ((P0_0_ k_ ∨ P2_0_ k_) ∨ w.heap.size ≤ k_) ∧ k_ ≠ ad ∧ k_ ≠ ae ∧ k_ ≠ ac)) (HO0_0.out) (fun k_ hk => ⟨hk.1.1.1, ⟨hk.1.1.2, ⟨hk.1.2, hk.2⟩⟩⟩))))) (Reps.one (show Kd.FK k26 _ _ (⟨l2_0⟩ : S26) [.slice A2_0 l2_0.length c2_0] from (k26_mkF _ _ (⟨l2_0⟩ : S26) (Kd.V_reads' (Kd.V_mono (e := 2) (base := w.heap.size) (ok' := (fun k_ => ((P0_0_ k_ ∨ P2_0_ k_) ∨ w.heap.size ≤ k_) ∧ k_ ≠ ad ∧ k_ ≠ ae ∧ k_ ≠ ac)) (HO2_0.out) (fun k_ hk => ⟨hk.1.1.1, ⟨hk.1.1.2, ⟨hk.1.2, hk.2⟩⟩⟩))).2.1 (Kd.V_F (Kd.V_mono (e := 2) (base := w.heap.size) (ok' := (fun k_ => ((P0_0_ k_ ∨ P2_0_ k_) ∨ w.heap.size ≤ k_) ∧ k_ ≠ ad ∧ k_ ≠ ae ∧ k_ ≠ ac)) (HO2_0.out) (fun k_ hk => ⟨hk.1.1.1, ⟨hk.1.1.2, ⟨hk.1.2, hk.2⟩⟩⟩))))) (Reps.none _ _)))); intro a3 w23 ho24 hb hg_ hnew_; clear hg_ hnew_; (first | rw [← aF.out] at ho24 | (simp only [Int.reduceToNat] at ho24; rw [← aF.out] at ho24)); replace HO0_0 := A_ (Kd.V_elder' Xf.Z4 (Kd.N_base ho24) hb); replace HO2_0 := A_ (Kd.V_elder' Xf.Z5 (Kd.N_base ho24) hb); have ag := A_ (Kd.N_lower ho24 (below_size (el HB))); replace aa := eK aa hb; replace ab := eK ab hb; replace af := eK af hb; replace HB := eS HB hb; clear hb ho24; obtain ⟨ax, ay, bG⟩ := Kd.N_slice ag.out; subst bG) | ((with_reducible refine gC 129 ?_); refine gL 12 Try.func129 #[.slice ax ao.length ay] ((Xz.calls k _ _ ao true _ (cS ((Kd.N_reads' ag.out).2.2)) ((Kd.N_reads' ag.out).2.1) A4.out).mono ?_); rintro e w26 ⟨rfl, hb⟩; refine ⟨_, rfl, ?_⟩; replace HO0_0 := A_ (Kd.V_below Xf.Z4 hb); replace HO2_0 := A_ (Kd.V_below Xf.Z5 hb); replace ag := A_ (Kd.N_below Xf.Z3 hb); replace aa := eK aa hb; replace ab := eK ab hb; replace af := eK af hb; replace HB := eS HB hb; have be := bC aa; have bf := bF aa) | ((with_reducible refine gD 17 ?_); refine Kd.R_lit (Kd.int .i64) _ 2 ?hg (N := 17) ?hd (xs := ([a1] : List Int)) (inner := [.int .i64 a1]) (ok := fun _ => True) (okp := fun _ => True) ?hr ?hp (fun _ hk => hk) trivial (Below.refl _ _) (Nat.le_refl _) (by simp) ?_; (case hd => rfl); (case hg => rfl); (case hr => first | (go_simp; done) | (go_simp; rfl)); (case hp => exact (Reps.one (show Kd.M (Kd.int .i64) _ _ _ a1 [.int .i64 a1] from rfl) (Reps.none _ _))); intro bH w28 ho29 hb hg_ hnew_; clear hg_ hnew_; (first | rw [← aJ.out] at ho29 | (simp only [Int.reduceToNat] at ho29; rw [← aJ.out] at ho29)); replace HO0_0 := A_ (Kd.V_elder' Xf.Z4 (Kd.R_base ho29) hb); replace HO2_0 := A_ (Kd.V_elder' Xf.Z5 (Kd.R_base ho29) hb); replace ag := A_ (Kd.N_elder' Xf.Z3 (Kd.R_base ho29) hb); have ah := A_ (Kd.R_lower (Kd.R_newM (M := fun k_ => (w.heap.size ≤ k_)) ho29 (below_size (el HB)) (fun k_ h_ => h_)) (below_size (el HB))); replace aa := eK aa hb; replace ab := eK ab hb; replace af := eK af hb; replace HB := eS HB hb; clear hb ho29; obtain ⟨au, av, bI⟩ := Kd.R_slice ah.out; subst bI) | ((with_reducible refine gC 117 ?_); refine gL 18 Try.func117 #[.agg #[.slice A0_0 l0_0.length c0_0], .slice au ap.length av] ((Xj.calls k _ _ l0_0 _ _ ap aG _ (cS ((Kd.V_reads' HO0_0.out).2.2)) ((Kd.V_reads' HO0_0.out).2.1) (cS ((Kd.R_reads' ah.out).2.2)) ((Kd.R_reads' ah.out).2.1) A6.out).mono ?_); rintro e w31 ⟨rfl, hb⟩; refine ⟨_, rfl, ?_⟩; replace HO0_0 := A_ (Kd.V_below Xf.Z4 hb); replace HO2_0 := A_ (Kd.V_below Xf.Z5 hb); replace ag := A_ (Kd.N_below Xf.Z3 hb); replace ah := eR ah hb; replace aa := eK aa hb; replace ab := eK ab hb; replace af := eK af hb; replace HB := eS HB hb))
   replace HO0_0 := A_ (Kd.V_drew HO0_0.out); replace HO2_0 := A_ (Kd.V_drew HO2_0.out); replace ag := A_ (Kd.N_drew ag.out); replace ah := rD ah; replace aa := bD aa; replace ab := bD ab; replace af := bD af; replace HB := wD HB; have q33 : (a1 : Int) ≤ ((l0_0.length : Int) : Int) := of_decide_eq_true Xf.Z6; obtain ⟨i033, hi033, _, hsz33, _⟩ := info_parts info2; have hroom33 : l0_0.length ≤ c0_0 := (Kd.V_reads' HO0_0.out).2.1; have hC33 : Kd.F (Kd.int .i64) _ _ A0_0 l0_0.length l0_0 := (Kd.V_at (base := w.heap.size) HO0_0.out).2.2; have hcut33 := cut_to (P := Try.prog) 24 2 .i64 Try.underlying24 hi033 A0_0 l0_0.length c0_0 a1 (of_decide_eq_true Xf.Z6) q33 hroom33; have hr33 := Kd.F_take (m := (a1 : Int).toNat) hC33 (by omega); have hy33 : aC.length = (a1 : Int).toNat := (by rw [aR.out, List.length_take]; omega); rw [← aR.out] at hr33; rw [← hy33] at hcut33; have aA := A_ (show Kd.V (Kd.int .i64) 2 _ w.heap.size _ (.slice A0_0 aC.length c0_0) aC from Kd.V_mk (by omega) hr33); have HC303 := A_ (show aC.length ≤ c0_0 from by omega); clear hr33 hC33 hroom33 hi033 hsz33; have KY33 := A_ hy33; clear hy33; replace q33 := eq_true q33; refine sT 20 (fun w' => w'.cell? ⟨ad, 0, none⟩ = some (.slice A0_0 l0_0.length c0_0) ∧ w'.cell? ⟨ae, 0, none⟩ = some (.slice A2_0 l2_0.length c2_0)) (bM 20 0) Xf.tab6 Xf.bits6 ⟨bc aa, bc ab⟩ (fun hHeld HT_ HW_ => ?_)
   generalize w31.drew = w32 at HO0_0 HO2_0 ag ah aa ab af HB aA hHeld ⊢; refine pA 0 23 (bM 20 1) HT_ ?_; refine pA 2 25 (bM 20 5) HT_ ?_; refine pA 4 27 (bM 20 21) HT_ ?_; refine pA 6 29 (bM 20 85) HT_ ?_; refine pA 8 31 (bM 20 341) HT_ ?_; refine pA 10 33 (bM 20 1365) HT_ ?_; refine tA 1 24 (bM 20 1367) HT_ HW_ hHeld ?_; refine pA 3 26 (bM 20 1375) HT_ ?_; refine tA 5 28 (bM 20 1407) HT_ HW_ hHeld ?_; refine tA 7 30 (bM 20 1535) HT_ HW_ hHeld ?_; refine tA 9 32 (bM 20 2047) HT_ HW_ hHeld ?_; refine oN 11 (some 34) (bM 20 4095) HT_ (fun K hK => ?_); refine gS Try.func132 #[.slice A0_0 l0_0.length c0_0, .int .i64 a1] ((Xah.calls k _ _ l0_0 a1 am _ (cS ((Kd.V_reads' HO0_0.out).2.2)) ((Kd.V_reads' HO0_0.out).2.1) A10.out).mono ?_); rintro e w' ⟨rfl, ⟨nd, rfl⟩⟩; refine ⟨_, rfl, ?_⟩; have q34 : (am : Int) ≤ ((l0_0.length : Int) : Int) := of_decide_eq_true Xf.Z6; obtain ⟨i034, hi034, _, hsz34, _⟩ := info_parts info2; have hroom34 : l0_0.length ≤ c0_0 := (Kd.V_reads' HO0_0.out).2.1; have hC34 : Kd.F (Kd.int .i64) _ _ A0_0 l0_0.length l0_0 := (Kd.V_at (base := w.heap.size) HO0_0.out).2.2; have q034 : (0 : Int) ≤ (am : Int) := of_decide_eq_true Xf.Z6; have hcut34 := cut_from (P := Try.prog) 24 2 .i64 Try.underlying24 hi034 1 hsz34 A0_0 l0_0.length c0_0 am q034 q34; have hr34 := Kd.F_cut (m := (am : Int).toNat) (c := c0_0) hC34 (by omega) hroom34; obtain ⟨A34, hA34⟩ : ∃ A1, A1 = (if c0_0 = (am : Int).toNat then A0_0 else (A0_0 : Option Addr).map (·.add ((am : Int).toNat * 1))) := ⟨_, rfl⟩; obtain ⟨c34, hc34⟩ : ∃ c1, c1 = c0_0 - (am : Int).toNat := ⟨_, rfl⟩; have hy34 : az.length = l0_0.length - (am : Int).toNat := (by rw [aS.out, List.length_drop] <;> omega); rw [show (l0_0).drop (am : Int).toNat = az from aS.out.symm] at hr34; replace hr34 : Kd.F (Kd.int .i64) _ _ A34 az.length az := (by rw [hA34]; exact hr34); rw [← hy34, ← hA34, ← hc34] at hcut34; have aB := A_ (show Kd.V (Kd.int .i64) 2 _ w.heap.size _ (.slice A34 az.length c34) az from Kd.V_mk (by rw [hy34, hc34]; exact Nat.sub_le_sub_right hroom34 _) hr34); have HC309 := A_ (show az.length ≤ c34 from by rw [hy34, hc34]; exact Nat.sub_le_sub_right hroom34 _); clear hr34 hC34 hroom34 hi034 hsz34 hc34; have KY34 := A_ hy34; have KA34 := A_ hA34; clear hy34 hA34; replace q34 := eq_true q34; refine hK.out _ _ ⟨bc aa, bc ab⟩ (fun hHeld => ?_); clear hK K; refine nM (some 34) ?_; refine pA 12 35 (bM 20 8191) HT_ ?_; refine oN 13 (some 36) (bM 20 16383) HT_ (fun K hK => ?_); refine Kd.N_lit_step (Kd.slice 2 (Kd.int .i64)) _ 24 ?hg (N' := 36) ?hd (xs := ([aC, l2_0, az] : List (List Int))) (inner := [.slice A0_0 aC.length c0_0, .slice A2_0 l2_0.length c2_0, .slice A34 az.length c34]) (ok := (fun k_ => ((P0_0_ k_ ∨ P2_0_ k_) ∨ w.heap.size ≤ k_) ∧ some k_ ≠ (.slice ax ao.length ay : Value).ownBlock ∧ some k_ ≠ (.slice au ap.length av : Value).ownBlock ∧ k_ ≠ ad ∧ k_ ≠ ae ∧ k_ ≠ ac)) (okp := (fun k_ => ((P0_0_ k_ ∨ P2_0_ k_) ∨ w.heap.size ≤ k_) ∧ some k_ ≠ (.slice ax ao.length ay : Value).ownBlock ∧ some k_ ≠ (.slice au ap.length av : Value).ownBlock ∧ k_ ≠ ad ∧ k_ ≠ ae ∧ k_ ≠ ac)) ?hr ?hp (fun _ hk => hk) ((show ∀ k_, w32.heap.size ≤ k_ → (fun k_ => ((P0_0_ k_ ∨ P2_0_ k_) ∨ w.heap.size ≤ k_) ∧ some k_ ≠ (.slice ax ao.length ay : Value).ownBlock ∧ some k_ ≠ (.slice au ap.length av : Value).ownBlock ∧ k_ ≠ ad ∧ k_ ≠ ae ∧ k_ ≠ ac) k_ from fun k_ hk => ⟨(.inr (Nat.le_trans (below_size (el HB)) hk)), Kd.fresh' (Kd.N_lt Xf.Z3) k_ hk, Kd.fresh' (Kd.R_lt (ea ah)) k_ hk, Kd.freshB (g := ad) (o := .cells #[.slice A0_0 l0_0.length c0_0] 26 (0, 0)) (eb aa) k_ hk, Kd.freshB (g := ae) (o := .cells #[.slice A2_0 l2_0.length c2_0] 26 (0, 0)) (eb ab) k_ hk, Kd.freshB (g := ac) (o := .cells #[.slice none 0 0] 26 (0, 0)) (eb af) k_ hk⟩) _ (Nat.le_refl _)) (Below.refl _ _) (Nat.le_refl _) (by simp) ?_; (case hd => rfl); (case hg => rfl); (case hr => first | (go_simp; done) | (go_simp; rfl)); (case hp => exact (Reps.one (show Kd.FK (Kd.slice 2 (Kd.int .i64)) _ _ aC [.slice A0_0 aC.length c0_0] from (Kd.FK_slice_mk (Kd.V_reads' (Kd.V_mono (e := 2) (base := w.heap.size) (ok' := (fun k_ => ((P0_0_ k_ ∨ P2_0_ k_) ∨ w.heap.size ≤ k_) ∧ some k_ ≠ (.slice ax ao.length ay : Value).ownBlock ∧ some k_ ≠ (.slice au ap.length av : Value).ownBlock ∧ k_ ≠ ad ∧ k_ ≠ ae ∧ k_ ≠ ac)) (aA.out) (fun k_ hk => ⟨hk.1.1.1.1.1, ⟨hk.1.2, ⟨hk.2, ⟨hk.1.1.1.1.2, ⟨hk.1.1.1.2, hk.1.1.2⟩⟩⟩⟩⟩))).2.1 (Kd.V_F (Kd.V_mono (e := 2) (base := w.heap.size) (ok' := (fun k_ => ((P0_0_ k_ ∨ P2_0_ k_) ∨ w.heap.size ≤ k_) ∧ some k_ ≠ (.slice ax ao.length ay : Value).ownBlock ∧ some k_ ≠ (.slice au ap.length av : Value).ownBlock ∧ k_ ≠ ad ∧ k_ ≠ ae ∧ k_ ≠ ac)) (aA.out) (fun k_ hk => ⟨hk.1.1.1.1.1, ⟨hk.1.2, ⟨hk.2, ⟨hk.1.1.1.1.2, ⟨hk.1.1.1.2, hk.1.1.2⟩⟩⟩⟩⟩))))) (Reps.one (show Kd.FK (Kd.slice 2 (Kd.int .i64)) _ _ l2_0 [.slice A2_0 l2_0.length c2_0] from (Kd.FK_slice_mk (Kd.V_reads' (Kd.V_mono (e := 2) (base := w.heap.size) (ok' := (fun k_ => ((P0_0_ k_ ∨ P2_0_ k_) ∨ w.heap.size ≤ k_) ∧ some k_ ≠ (.slice ax ao.length ay : Value).ownBlock ∧ some k_ ≠ (.slice au ap.length av : Value).ownBlock ∧ k_ ≠ ad ∧ k_ ≠ ae ∧ k_ ≠ ac)) (HO2_0.out) (fun k_ hk => ⟨hk.1.1.1.1.1, ⟨hk.1.2, ⟨hk.2, ⟨hk.1.1.1.1.2, ⟨hk.1.1.1.2, hk.1.1.2⟩⟩⟩⟩⟩))).2.1 (Kd.V_F (Kd.V_mono (e := 2) (base := w.heap.size) (ok' := (fun k_ => ((P0_0_ k_ ∨ P2_0_ k_) ∨ w.heap.size ≤ k_) ∧ some k_ ≠ (.slice ax ao.length ay : Value).ownBlock ∧ some k_ ≠ (.slice au ap.length av : Value).ownBlock ∧ k_ ≠ ad ∧ k_ ≠ ae ∧ k_ ≠ ac)) (HO2_0.out) (fun k_ hk => ⟨hk.1.1.1.1.1, ⟨hk.1.2, ⟨hk.2, ⟨hk.1.1.1.1.2, ⟨hk.1.1.1.2, hk.1.1.2⟩⟩⟩⟩⟩))))) (Reps.one (show Kd.FK (Kd.slice 2 (Kd.int .i64)) _ _ az [.slice A34 az.length c34] from (Kd.FK_slice_mk (Kd.V_reads' (Kd.V_mono (e := 2) (base := w.heap.size) (ok' := (fun k_ => ((P0_0_ k_ ∨ P2_0_ k_) ∨ w.heap.size ≤ k_) ∧ some k_ ≠ (.slice ax ao.length ay : Value).ownBlock ∧ some k_ ≠ (.slice au ap.length av : Value).ownBlock ∧ k_ ≠ ad ∧ k_ ≠ ae ∧ k_ ≠ ac)) (aB.out) (fun k_ hk => ⟨hk.1.1.1.1.1, ⟨hk.1.2, ⟨hk.2, ⟨hk.1.1.1.1.2, ⟨hk.1.1.1.2, hk.1.1.2⟩⟩⟩⟩⟩))).2.1 (Kd.V_F (Kd.V_mono (e := 2) (base := w.heap.size) (ok' := (fun k_ => ((P0_0_ k_ ∨ P2_0_ k_) ∨ w.heap.size ≤ k_) ∧ some k_ ≠ (.slice ax ao.length ay : Value).ownBlock ∧ some k_ ≠ (.slice au ap.length av : Value).ownBlock ∧ k_ ≠ ad ∧ k_ ≠ ae ∧ k_ ≠ ac)) (aB.out) (fun k_ hk => ⟨hk.1.1.1.1.1, ⟨hk.1.2, ⟨hk.2, ⟨hk.1.1.1.1.2, ⟨hk.1.1.1.2, hk.1.1.2⟩⟩⟩⟩⟩))))) (Reps.none _ _))))); intro co w35 ho36 hb hg_ hnew_; clear hg_ hnew_; (first | rw [← aT.out] at ho36 | (simp only [Int.reduceToNat] at ho36; rw [← aT.out] at ho36)); replace HO0_0 := A_ (Kd.V_elder' Xf.Z4 (Kd.N_base ho36) hb); replace HO2_0 := A_ (Kd.V_elder' Xf.Z5 (Kd.N_base ho36) hb); replace ag := A_ (Kd.N_elder' Xf.Z3 (Kd.N_base ho36) hb); replace ah := eR ah hb; replace aA := A_ (Kd.V_elder' Xf.Z1 (Kd.N_base ho36) hb); replace aB := A_ (Kd.V_elder' Xf.Z2 (Kd.N_base ho36) hb); have aD := A_ (Kd.N_lower ho36 (below_size (el HB))); replace aa := eK aa hb; replace ab := eK ab hb; replace af := eK af hb; replace HB := eS HB hb; clear hb ho36; obtain ⟨aK, aL, a4⟩ := Kd.N_slice aD.out; (first | subst a4 | (injection a4 with f1_ f2_ f3_; have f4_ := f1_.symm; have f5_ := f3_.symm; clear f1_ f2_ f3_; subst f4_; subst f5_)); refine hK.out _ _ ⟨bc aa, bc ab⟩ (fun hHeld => ?_); clear hK K; refine nM (some 36) ?_; refine oN 14 (some 37) (bM 20 32767) HT_ (fun K hK => ?_); refine gS Try.func131 #[.slice aK aH.length aL] ((Xb.calls k _ _ aH aw _ (cS ((Kd.N_reads' aD.out).2.2)) ((Kd.N_reads' aD.out).2.1) A13.out).mono ?_); rintro e w38 ⟨cp, rfl, ho0, hb⟩; refine ⟨_, rfl, ?_⟩; replace HO0_0 := A_ (Kd.V_elder' Xf.Z4 (Kd.R_base ho0) hb); replace HO2_0 := A_ (Kd.V_elder' Xf.Z5 (Kd.R_base ho0) hb); replace ag := A_ (Kd.N_elder' Xf.Z3 (Kd.R_base ho0) hb); replace aA := A_ (Kd.V_elder' Xf.Z1 (Kd.R_base ho0) hb); replace aB := A_ (Kd.V_elder' Xf.Z2 (Kd.R_base ho0) hb); replace aD := A_ (Kd.N_elder' (by (with_reducible repeat (first | apply Kd.N_alloc | apply Kd.N_drewN | apply Kd.N_drew)); exact aD.out) (Kd.R_base ho0) hb); have aE := A_ (Kd.R_lower (Kd.R_new' (Kd.R_newM (M := fun k_ => (w.heap.size ≤ k_)) ho0 (below_size (el HB)) (fun k_ h_ => h_)) (Kd.R_lt (ea ah))) (below_size (el HB))); replace ah := eE ah ho0 hb; replace aa := eK aa hb; replace ab := eK ab hb; replace af := eK af hb; replace HB := eS HB hb
   obtain ⟨a0, a2, a5⟩ := Kd.R_slice aE.out; (first | subst a5 | (injection a5 with f1_ f2_ f3_; have f4_ := f1_.symm; have f5_ := f3_.symm; clear f1_ f2_ f3_; subst f4_; subst f5_)); refine hK.out _ _ ⟨bc aa, bc ab⟩ (fun hHeld => ?_); clear hK K; refine nM (some 37) ?_; refine oN 15 (some 38) (bM 20 65535) HT_ (fun K hK => ?_); refine gS Try.func130 #[.slice a0 aw.length a2] ((Xba.calls (fun k_ => some k_ = (.slice a0 aw.length a2 : Value).ownBlock) (.slice a0 aw.length a2) aw aZ bE w _ (el HB) (Kd.R_tight rfl aE.out) A14.out).mono ?_); rintro e w40 ⟨aI, rfl, ho0, hb, hkp⟩; refine ⟨_, rfl, ?_⟩; replace HO0_0 := A_ (Kd.V_mono (e := 2) (base := w.heap.size) (ok' := fun k_ => ((P0_0_ k_ ∨ P2_0_ k_) ∨ w.heap.size ≤ k_) ∧ some k_ ≠ (.slice ax ao.length ay : Value).ownBlock ∧ some k_ ≠ (.slice au ap.length av : Value).ownBlock ∧ some k_ ≠ (.slice aK aH.length aL : Value).ownBlock ∧ k_ ≠ ad ∧ k_ ≠ ae ∧ k_ ≠ ac ∧ some k_ ≠ (aI : Value).ownBlock) (Kd.V_keptB (HO0_0.out) hkp (fun k_ hk_ hs_ => (hk_.2) hs_)) (fun k_ hk_ => ⟨hk_.1.1.1.1.1.1.1.1, hk_.1.1.1.1.2, hk_.1.1.1.2, hk_.1.1.2, hk_.1.1.1.1.1.1.1.2, hk_.1.1.1.1.1.1.2, hk_.1.1.1.1.1.2, fun e_ => Or.elim (ho0.1 k_ e_.symm) (fun hs_ => hk_.2.1 hs_) (fun hn_ => Nat.not_le.2 hk_.2.2 hn_)⟩)); replace HO2_0 := A_ (Kd.V_mono (e := 2) (base := w.heap.size) (ok' := fun k_ => ((P0_0_ k_ ∨ P2_0_ k_) ∨ w.heap.size ≤ k_) ∧ some k_ ≠ (.slice ax ao.length ay : Value).ownBlock ∧ some k_ ≠ (.slice au ap.length av : Value).ownBlock ∧ some k_ ≠ (.slice aK aH.length aL : Value).ownBlock ∧ k_ ≠ ad ∧ k_ ≠ ae ∧ k_ ≠ ac ∧ some k_ ≠ (aI : Value).ownBlock) (Kd.V_keptB (HO2_0.out) hkp (fun k_ hk_ hs_ => (hk_.2) hs_)) (fun k_ hk_ => ⟨hk_.1.1.1.1.1.1.1.1, hk_.1.1.1.1.2, hk_.1.1.1.2, hk_.1.1.2, hk_.1.1.1.1.1.1.1.2, hk_.1.1.1.1.1.1.2, hk_.1.1.1.1.1.2, fun e_ => Or.elim (ho0.1 k_ e_.symm) (fun hs_ => hk_.2.1 hs_) (fun hn_ => Nat.not_le.2 hk_.2.2 hn_)⟩)); replace aa := A_ (blk_kept (eb aa) hkp (fun hs_ => (fun e_ => (Kd.R_ne aE.out aa.out (by decide)) e_) hs_)); replace ab := A_ (blk_kept (eb ab) hkp (fun hs_ => (fun e_ => (Kd.R_ne aE.out ab.out (by decide)) e_) hs_)); replace af := A_ (blk_kept (eb af) hkp (fun hs_ => (fun e_ => (Kd.R_ne aE.out af.out (by decide)) e_) hs_)); replace ag := A_ (Kd.N_mono (ok' := fun k_ => ((P0_0_ k_ ∨ P2_0_ k_) ∨ w.heap.size ≤ k_) ∧ some k_ ≠ (.slice au ap.length av : Value).ownBlock ∧ some k_ ≠ (.slice aK aH.length aL : Value).ownBlock ∧ k_ ≠ ad ∧ k_ ≠ ae ∧ k_ ≠ ac ∧ some k_ ≠ (aI : Value).ownBlock) (Kd.N_keptB (ag.out) hkp (fun k_ hk_ hs_ => (hk_.2) hs_)) (fun k_ hk_ => ⟨hk_.1.1.1.1.1, hk_.1.1.1.2, hk_.1.1.2, hk_.1.1.1.1.2.1, hk_.1.1.1.1.2.2.1, hk_.1.1.1.1.2.2.2, fun e_ => Or.elim (ho0.1 k_ e_.symm) (fun hs_ => hk_.2.1 hs_) (fun hn_ => Nat.not_le.2 hk_.2.2 hn_)⟩)); replace aA := A_ (Kd.V_mono (e := 2) (base := w.heap.size) (ok' := fun k_ => ((P0_0_ k_ ∨ P2_0_ k_) ∨ w.heap.size ≤ k_) ∧ some k_ ≠ (.slice ax ao.length ay : Value).ownBlock ∧ some k_ ≠ (.slice au ap.length av : Value).ownBlock ∧ some k_ ≠ (.slice aK aH.length aL : Value).ownBlock ∧ k_ ≠ ad ∧ k_ ≠ ae ∧ k_ ≠ ac ∧ some k_ ≠ (aI : Value).ownBlock) (Kd.V_keptB (aA.out) hkp (fun k_ hk_ hs_ => (hk_.2) hs_)) (fun k_ hk_ => ⟨hk_.1.1.1.1.1.1.1.1, hk_.1.1.1.1.2, hk_.1.1.1.2, hk_.1.1.2, hk_.1.1.1.1.1.1.1.2, hk_.1.1.1.1.1.1.2, hk_.1.1.1.1.1.2, fun e_ => Or.elim (ho0.1 k_ e_.symm) (fun hs_ => hk_.2.1 hs_) (fun hn_ => Nat.not_le.2 hk_.2.2 hn_)⟩)); replace aB := A_ (Kd.V_mono (e := 2) (base := w.heap.size) (ok' := fun k_ => ((P0_0_ k_ ∨ P2_0_ k_) ∨ w.heap.size ≤ k_) ∧ some k_ ≠ (.slice ax ao.length ay : Value).ownBlock ∧ some k_ ≠ (.slice au ap.length av : Value).ownBlock ∧ some k_ ≠ (.slice aK aH.length aL : Value).ownBlock ∧ k_ ≠ ad ∧ k_ ≠ ae ∧ k_ ≠ ac ∧ some k_ ≠ (aI : Value).ownBlock) (Kd.V_keptB (aB.out) hkp (fun k_ hk_ hs_ => (hk_.2) hs_)) (fun k_ hk_ => ⟨hk_.1.1.1.1.1.1.1.1, hk_.1.1.1.1.2, hk_.1.1.1.2, hk_.1.1.2, hk_.1.1.1.1.1.1.1.2, hk_.1.1.1.1.1.1.2, hk_.1.1.1.1.1.2, fun e_ => Or.elim (ho0.1 k_ e_.symm) (fun hs_ => hk_.2.1 hs_) (fun hn_ => Nat.not_le.2 hk_.2.2 hn_)⟩)); replace aD := A_ (Kd.N_mono (ok' := fun k_ => ((P0_0_ k_ ∨ P2_0_ k_) ∨ w.heap.size ≤ k_) ∧ some k_ ≠ (.slice ax ao.length ay : Value).ownBlock ∧ some k_ ≠ (.slice au ap.length av : Value).ownBlock ∧ k_ ≠ ad ∧ k_ ≠ ae ∧ k_ ≠ ac ∧ some k_ ≠ (aI : Value).ownBlock) (Kd.N_keptB (aD.out) hkp (fun k_ hk_ hs_ => (hk_.2) hs_)) (fun k_ hk_ => ⟨hk_.1.1.1, hk_.1.1.2.1, hk_.1.1.2.2.1, hk_.1.1.2.2.2.1, hk_.1.1.2.2.2.2.1, hk_.1.1.2.2.2.2.2, fun e_ => Or.elim (ho0.1 k_ e_.symm) (fun hs_ => hk_.2.1 hs_) (fun hn_ => Nat.not_le.2 hk_.2.2 hn_)⟩)); have aX := A_ (Kd.R_mono (ok' := fun k_ => (w.heap.size ≤ k_) ∧ some k_ ≠ (.slice au ap.length av : Value).ownBlock) ho0 (fun k_ hk_ => ⟨Or.elim hk_ (fun hs_ => (aE.out.1 k_ (hs_).symm).1.1) (fun hn_ => (Nat.le_trans (below_size (el HB)) hn_)), Or.elim hk_ (fun hs_ => fun e_ => (((ah.out).1 k_ e_.symm).2) hs_) (fun hn_ => (Kd.fresh' (Kd.R_lt (ea ah)) k_ hn_))⟩)); replace ah := A_ (Kd.R_mono (ok' := fun k_ => (w.heap.size ≤ k_) ∧ some k_ ≠ (aI : Value).ownBlock) (Kd.R_keptB (ah.out) hkp (fun k_ hk_ hs_ => (hk_.2) hs_)) (fun k_ hk_ => ⟨hk_.1.1.1, fun e_ => Or.elim (ho0.1 k_ e_.symm) (fun hs_ => hk_.2.1 hs_) (fun hn_ => Nat.not_le.2 hk_.2.2 hn_)⟩)); replace HB := A_ hb; clear aE
   (try clear hkp)
   obtain ⟨a6, a7, a8⟩ := Kd.R_slice aX.out; (first | subst a8 | (injection a8 with f1_ f2_ f3_; have f4_ := f1_.symm; have f5_ := f3_.symm; clear f1_ f2_ f3_; subst f4_; subst f5_)); refine hK.out _ _ ⟨bc aa, bc ab⟩ (fun hHeld => ?_); clear hK K; refine nM (some 38) ?_; refine pA 16 39 (bM 20 131071) HT_ ?_; refine pA 17 40 (bM 20 262143) HT_ ?_; refine oN 18 none (bM 20 524287) HT_ (fun K hK => ?_); have hs42 : w40.cell? ⟨ac, 0, none⟩ = some (.slice none 0 0) := bc af; have hfs42 := blk_frozen af.out 0; have bg := ai.out; have bh := aj.out; have bi := ak.out; have bj := al.out; refine skip_ (w1 := ?_) (by rfl) rfl ?_ ?_; rotate_left
   ·go_simp; rfl
   refine hK.out _ _ ⟨((cell_far (p := ⟨ac, _, none⟩) ai.out _).trans (hHeld.1)), ((cell_far (p := ⟨ac, _, none⟩) aj.out _).trans (hHeld.2))⟩ (fun hHeld => ?_); clear hK K; refine pA 19 7 (bM 20 1048575) HT_ ?_; refine done_ (done_of HT_.out (by kernel_rfl)) ?_
   try go_wp2
   refine bodyPost_ret (results_ct rfl _ _ ac 26 #[.slice a6 aZ.length a7] (0, 0) _ rfl Xf.Z0 Try.underlying26 rfl (by kernel_rfl)) rfl ?_; exact ⟨_, er, rX (Kd.R_mono (rF aX.out af (.slice a6 aZ.length a7)) (fun _ hk => hk.1.1)), el HB⟩
  ·rw [if_neg c7] at H; obtain ⟨bA, bB⟩ := bN c7; simp only [Option.some.injEq, Prod.mk.injEq] at H; obtain ⟨rfl, rfl⟩ := H
   go_enter Try.func38, Try.ntmps38
   go_wp2_with (first | ((with_reducible refine gD 3 ?_); refine bX 3 #[.slice A0_0 l0_0.length c0_0] 26 HB ?_; clear HB; intro ad w43 aa aU HB hb hg; replace HO0_0 := A_ (Kd.V_below (Kd.V_elderB Xf.Z4 ad (Nat.le_of_eq hg.symm)) hb); replace HO2_0 := A_ (Kd.V_below (Kd.V_elderB Xf.Z5 ad (Nat.le_of_eq hg.symm)) hb); clear hb hg) | ((with_reducible refine gD 5 ?_); refine bX 5 #[.slice A2_0 l2_0.length c2_0] 26 HB ?_; clear HB; intro ae w44 ab aV HB hb hg; replace HO0_0 := A_ (Kd.V_below (Kd.V_elderB Xf.Z4 ae (Nat.le_of_eq hg.symm)) hb); replace HO2_0 := A_ (Kd.V_below (Kd.V_elderB Xf.Z5 ae (Nat.le_of_eq hg.symm)) hb); obtain ⟨aq, ar⟩ := nN hg aa; replace aa := eK aa hb; clear hb hg) | ((with_reducible refine gD 6 ?_); refine bX 6 #[.slice none 0 0] 26 HB ?_; clear HB; intro ac w45 af aW HB hb hg; replace HO0_0 := A_ (Kd.V_below (Kd.V_elderB Xf.Z4 ac (Nat.le_of_eq hg.symm)) hb); replace HO2_0 := A_ (Kd.V_below (Kd.V_elderB Xf.Z5 ac (Nat.le_of_eq hg.symm)) hb); obtain ⟨ai, ak⟩ := nN hg aa; replace aa := eK aa hb; obtain ⟨aj, al⟩ := nN hg ab; replace ab := eK ab hb; clear hb hg; have b8 := aq.out; have b9 := ar.out; have ca := ai.out; have cb := ak.out; have bk := bC aa; have bl := bF aa; have cc := aj.out; have cd := al.out; have bm := bC ab; have bn := bF ab) | ((with_reducible refine gD 11 ?_); refine Kd.N_lit k26 _ 26 ?hg (N' := 11) ?hd (xs := ([(⟨l0_0⟩ : S26), (⟨l2_0⟩ : S26)] : List (S26))) (inner := [.slice A0_0 l0_0.length c0_0, .slice A2_0 l2_0.length c2_0]) (ok := (fun k_ => ((P0_0_ k_ ∨ P2_0_ k_) ∨ w.heap.size ≤ k_) ∧ k_ ≠ ad ∧ k_ ≠ ae ∧ k_ ≠ ac)) (okp := (fun k_ => ((P0_0_ k_ ∨ P2_0_ k_) ∨ w.heap.size ≤ k_) ∧ k_ ≠ ad ∧ k_ ≠ ae ∧ k_ ≠ ac)) ?hr ?hp (fun _ hk => hk) ((show ∀ k_, w45.heap.size ≤ k_ → (fun k_ => ((P0_0_ k_ ∨ P2_0_ k_) ∨ w.heap.size ≤ k_) ∧ k_ ≠ ad ∧ k_ ≠ ae ∧ k_ ≠ ac) k_ from fun k_ hk => ⟨(.inr (Nat.le_trans (below_size (el HB)) hk)), Kd.freshB (g := ad) (o := .cells #[.slice A0_0 l0_0.length c0_0] 26 (0, 0)) (eb aa) k_ hk, Kd.freshB (g := ae) (o := .cells #[.slice A2_0 l2_0.length c2_0] 26 (0, 0)) (eb ab) k_ hk, Kd.freshB (g := ac) (o := .cells #[.slice none 0 0] 26 (0, 0)) (eb af) k_ hk⟩) _ (Nat.le_refl _)) (Below.refl _ _) (Nat.le_refl _) (by simp) ?_; (case hd => rfl); (case hg => rfl); (case hr => first | (go_simp; done) | (go_simp; rfl)); (case hp => exact (Reps.one (show Kd.FK k26 _ _ (⟨l0_0⟩ : S26) [.slice A0_0 l0_0.length c0_0] from (k26_mkF _ _ (⟨l0_0⟩ : S26) (Kd.V_reads' (Kd.V_mono (e := 2) (base := w.heap.size) (ok' := (fun k_ => ((P0_0_ k_ ∨ P2_0_ k_) ∨ w.heap.size ≤ k_) ∧ k_ ≠ ad ∧ k_ ≠ ae ∧ k_ ≠ ac)) (HO0_0.out) (fun k_ hk => ⟨hk.1.1.1, ⟨hk.1.1.2, ⟨hk.1.2, hk.2⟩⟩⟩))).2.1 (Kd.V_F (Kd.V_mono (e := 2) (base := w.heap.size) (ok' := (fun k_ => ((P0_0_ k_ ∨ P2_0_ k_) ∨ w.heap.size ≤ k_) ∧ k_ ≠ ad ∧ k_ ≠ ae ∧ k_ ≠ ac)) (HO0_0.out) (fun k_ hk => ⟨hk.1.1.1, ⟨hk.1.1.2, ⟨hk.1.2, hk.2⟩⟩⟩))))) (Reps.one (show Kd.FK k26 _ _ (⟨l2_0⟩ : S26) [.slice A2_0 l2_0.length c2_0] from (k26_mkF _ _ (⟨l2_0⟩ : S26) (Kd.V_reads' (Kd.V_mono (e := 2) (base := w.heap.size) (ok' := (fun k_ => ((P0_0_ k_ ∨ P2_0_ k_) ∨ w.heap.size ≤ k_) ∧ k_ ≠ ad ∧ k_ ≠ ae ∧ k_ ≠ ac)) (HO2_0.out) (fun k_ hk => ⟨hk.1.1.1, ⟨hk.1.1.2, ⟨hk.1.2, hk.2⟩⟩⟩))).2.1 (Kd.V_F (Kd.V_mono (e := 2) (base := w.heap.size) (ok' := (fun k_ => ((P0_0_ k_ ∨ P2_0_ k_) ∨ w.heap.size ≤ k_) ∧ k_ ≠ ad ∧ k_ ≠ ae ∧ k_ ≠ ac)) (HO2_0.out) (fun k_ hk => ⟨hk.1.1.1, ⟨hk.1.1.2, ⟨hk.1.2, hk.2⟩⟩⟩))))) (Reps.none _ _)))); intro a3 w51 ho52 hb hg_ hnew_; clear hg_ hnew_; (first | rw [← aF.out] at ho52 | (simp only [Int.reduceToNat] at ho52; rw [← aF.out] at ho52)); replace HO0_0 := A_ (Kd.V_elder' Xf.Z4 (Kd.N_base ho52) hb); replace HO2_0 := A_ (Kd.V_elder' Xf.Z5 (Kd.N_base ho52) hb); have ag := A_ (Kd.N_lower ho52 (below_size (el HB))); replace aa := eK aa hb; replace ab := eK ab hb; replace af := eK af hb; replace HB := eS HB hb; clear hb ho52; obtain ⟨bJ, bK, bO⟩ := Kd.N_slice ag.out; subst bO) | ((with_reducible refine gC 129 ?_); refine gL 12 Try.func129 #[.slice bJ ao.length bK] ((Xz.calls k _ _ ao true _ (cS ((Kd.N_reads' ag.out).2.2)) ((Kd.N_reads' ag.out).2.1) A4.out).mono ?_); rintro e w54 ⟨rfl, hb⟩; refine ⟨_, rfl, ?_⟩; replace HO0_0 := A_ (Kd.V_below Xf.Z4 hb); replace HO2_0 := A_ (Kd.V_below Xf.Z5 hb); replace ag := A_ (Kd.N_below Xf.Z3 hb); replace aa := eK aa hb; replace ab := eK ab hb; replace af := eK af hb; replace HB := eS HB hb; have bo := bC aa; have bp := bF aa) | ((with_reducible refine gD 17 ?_); refine Kd.R_lit (Kd.int .i64) _ 2 ?hg (N := 17) ?hd (xs := ([a1] : List Int)) (inner := [.int .i64 a1]) (ok := fun _ => True) (okp := fun _ => True) ?hr ?hp (fun _ hk => hk) trivial (Below.refl _ _) (Nat.le_refl _) (by simp) ?_; (case hd => rfl); (case hg => rfl); (case hr => first | (go_simp; done) | (go_simp; rfl)); (case hp => exact (Reps.one (show Kd.M (Kd.int .i64) _ _ _ a1 [.int .i64 a1] from rfl) (Reps.none _ _))); intro bH w56 ho57 hb hg_ hnew_; clear hg_ hnew_; (first | rw [← aJ.out] at ho57 | (simp only [Int.reduceToNat] at ho57; rw [← aJ.out] at ho57)); replace HO0_0 := A_ (Kd.V_elder' Xf.Z4 (Kd.R_base ho57) hb); replace HO2_0 := A_ (Kd.V_elder' Xf.Z5 (Kd.R_base ho57) hb); replace ag := A_ (Kd.N_elder' Xf.Z3 (Kd.R_base ho57) hb); have ah := A_ (Kd.R_lower (Kd.R_newM (M := fun k_ => (w.heap.size ≤ k_)) ho57 (below_size (el HB)) (fun k_ h_ => h_)) (below_size (el HB))); replace aa := eK aa hb; replace ab := eK ab hb; replace af := eK af hb; replace HB := eS HB hb; clear hb ho57; obtain ⟨bQ, bR, bS⟩ := Kd.R_slice ah.out; subst bS) | ((with_reducible refine gC 117 ?_); refine gL 18 Try.func117 #[.agg #[.slice A0_0 l0_0.length c0_0], .slice bQ ap.length bR] ((Xj.calls k _ _ l0_0 _ _ ap aG _ (cS ((Kd.V_reads' HO0_0.out).2.2)) ((Kd.V_reads' HO0_0.out).2.1) (cS ((Kd.R_reads' ah.out).2.2)) ((Kd.R_reads' ah.out).2.1) A6.out).mono ?_); rintro e w59 ⟨rfl, hb⟩; refine ⟨_, rfl, ?_⟩; replace HO0_0 := A_ (Kd.V_below Xf.Z4 hb); replace HO2_0 := A_ (Kd.V_below Xf.Z5 hb); replace ag := A_ (Kd.N_below Xf.Z3 hb); replace ah := eR ah hb; replace aa := eK aa hb; replace ab := eK ab hb; replace af := eK af hb; replace HB := eS HB hb; have bq := bC af; have br := bF af))
   refine bodyPost_ret (results_ct rfl _ _ ac 26 #[.slice none 0 0] (0, 0) _ rfl Xf.Z0 Try.underlying26 rfl (by kernel_rfl)) rfl ?_; exact ⟨_, er, by first | exact Kd.R_nil _ _ _ _ _ | exact Kd.N_nil _ _ _ _ _ | exact Kd.V_nil _ _ _ _ _ | exact Kd.Q_nil _ _ _ _ _ | exact Kd.S_nil _ _ _ _ _, el HB⟩
 ·replace c5 := Bool.eq_false_iff.mpr c5; subst c5; rw [if_neg nF] at H; simp only [Option.some.injEq, Prod.mk.injEq] at H; obtain ⟨rfl, rfl⟩ := H
  go_enter Try.func38, Try.ntmps38
  go_wp2_with (first | ((with_reducible refine gD 3 ?_); refine bX 3 #[.slice A0_0 l0_0.length c0_0] 26 HB ?_; clear HB; intro ad w61 aa aU HB hb hg; replace HO0_0 := A_ (Kd.V_below (Kd.V_elderB Xf.Z4 ad (Nat.le_of_eq hg.symm)) hb); replace HO2_0 := A_ (Kd.V_below (Kd.V_elderB Xf.Z5 ad (Nat.le_of_eq hg.symm)) hb); clear hb hg) | ((with_reducible refine gD 5 ?_); refine bX 5 #[.slice A2_0 l2_0.length c2_0] 26 HB ?_; clear HB; intro ae w62 ab aV HB hb hg; replace HO0_0 := A_ (Kd.V_below (Kd.V_elderB Xf.Z4 ae (Nat.le_of_eq hg.symm)) hb); replace HO2_0 := A_ (Kd.V_below (Kd.V_elderB Xf.Z5 ae (Nat.le_of_eq hg.symm)) hb); obtain ⟨aq, ar⟩ := nN hg aa; replace aa := eK aa hb; clear hb hg) | ((with_reducible refine gD 6 ?_); refine bX 6 #[.slice none 0 0] 26 HB ?_; clear HB; intro ac w63 af aW HB hb hg; replace HO0_0 := A_ (Kd.V_below (Kd.V_elderB Xf.Z4 ac (Nat.le_of_eq hg.symm)) hb); replace HO2_0 := A_ (Kd.V_below (Kd.V_elderB Xf.Z5 ac (Nat.le_of_eq hg.symm)) hb); obtain ⟨ai, ak⟩ := nN hg aa; replace aa := eK aa hb; obtain ⟨aj, al⟩ := nN hg ab; replace ab := eK ab hb; clear hb hg; have ce := aq.out; have cf := ar.out; have cg := ai.out; have ch := ak.out; have bs := bC aa; have bt := bF aa; have ci := aj.out; have cj := al.out; have bu := bC ab; have bv := bF ab) | ((with_reducible refine gD 11 ?_); refine Kd.N_lit k26 _ 26 ?hg (N' := 11) ?hd (xs := ([(⟨l0_0⟩ : S26), (⟨l2_0⟩ : S26)] : List (S26))) (inner := [.slice A0_0 l0_0.length c0_0, .slice A2_0 l2_0.length c2_0]) (ok := (fun k_ => ((P0_0_ k_ ∨ P2_0_ k_) ∨ w.heap.size ≤ k_) ∧ k_ ≠ ad ∧ k_ ≠ ae ∧ k_ ≠ ac)) (okp := (fun k_ => ((P0_0_ k_ ∨ P2_0_ k_) ∨ w.heap.size ≤ k_) ∧ k_ ≠ ad ∧ k_ ≠ ae ∧ k_ ≠ ac)) ?hr ?hp (fun _ hk => hk) ((show ∀ k_, w63.heap.size ≤ k_ → (fun k_ => ((P0_0_ k_ ∨ P2_0_ k_) ∨ w.heap.size ≤ k_) ∧ k_ ≠ ad ∧ k_ ≠ ae ∧ k_ ≠ ac) k_ from fun k_ hk => ⟨(.inr (Nat.le_trans (below_size (el HB)) hk)), Kd.freshB (g := ad) (o := .cells #[.slice A0_0 l0_0.length c0_0] 26 (0, 0)) (eb aa) k_ hk, Kd.freshB (g := ae) (o := .cells #[.slice A2_0 l2_0.length c2_0] 26 (0, 0)) (eb ab) k_ hk, Kd.freshB (g := ac) (o := .cells #[.slice none 0 0] 26 (0, 0)) (eb af) k_ hk⟩) _ (Nat.le_refl _)) (Below.refl _ _) (Nat.le_refl _) (by simp) ?_; (case hd => rfl); (case hg => rfl); (case hr => first | (go_simp; done) | (go_simp; rfl)); (case hp => exact (Reps.one (show Kd.FK k26 _ _ (⟨l0_0⟩ : S26) [.slice A0_0 l0_0.length c0_0] from (k26_mkF _ _ (⟨l0_0⟩ : S26) (Kd.V_reads' (Kd.V_mono (e := 2) (base := w.heap.size) (ok' := (fun k_ => ((P0_0_ k_ ∨ P2_0_ k_) ∨ w.heap.size ≤ k_) ∧ k_ ≠ ad ∧ k_ ≠ ae ∧ k_ ≠ ac)) (HO0_0.out) (fun k_ hk => ⟨hk.1.1.1, ⟨hk.1.1.2, ⟨hk.1.2, hk.2⟩⟩⟩))).2.1 (Kd.V_F (Kd.V_mono (e := 2) (base := w.heap.size) (ok' := (fun k_ => ((P0_0_ k_ ∨ P2_0_ k_) ∨ w.heap.size ≤ k_) ∧ k_ ≠ ad ∧ k_ ≠ ae ∧ k_ ≠ ac)) (HO0_0.out) (fun k_ hk => ⟨hk.1.1.1, ⟨hk.1.1.2, ⟨hk.1.2, hk.2⟩⟩⟩))))) (Reps.one (show Kd.FK k26 _ _ (⟨l2_0⟩ : S26) [.slice A2_0 l2_0.length c2_0] from (k26_mkF _ _ (⟨l2_0⟩ : S26) (Kd.V_reads' (Kd.V_mono (e := 2) (base := w.heap.size) (ok' := (fun k_ => ((P0_0_ k_ ∨ P2_0_ k_) ∨ w.heap.size ≤ k_) ∧ k_ ≠ ad ∧ k_ ≠ ae ∧ k_ ≠ ac)) (HO2_0.out) (fun k_ hk => ⟨hk.1.1.1, ⟨hk.1.1.2, ⟨hk.1.2, hk.2⟩⟩⟩))).2.1 (Kd.V_F (Kd.V_mono (e := 2) (base := w.heap.size) (ok' := (fun k_ => ((P0_0_ k_ ∨ P2_0_ k_) ∨ w.heap.size ≤ k_) ∧ k_ ≠ ad ∧ k_ ≠ ae ∧ k_ ≠ ac)) (HO2_0.out) (fun k_ hk => ⟨hk.1.1.1, ⟨hk.1.1.2, ⟨hk.1.2, hk.2⟩⟩⟩))))) (Reps.none _ _)))); intro a3 w69 ho70 hb hg_ hnew_; clear hg_ hnew_; (first | rw [← aF.out] at ho70 | (simp only [Int.reduceToNat] at ho70; rw [← aF.out] at ho70)); replace HO0_0 := A_ (Kd.V_elder' Xf.Z4 (Kd.N_base ho70) hb); replace HO2_0 := A_ (Kd.V_elder' Xf.Z5 (Kd.N_base ho70) hb); have ag := A_ (Kd.N_lower ho70 (below_size (el HB))); replace aa := eK aa hb; replace ab := eK ab hb; replace af := eK af hb; replace HB := eS HB hb; clear hb ho70; obtain ⟨bU, bV, bW⟩ := Kd.N_slice ag.out; subst bW) | ((with_reducible refine gC 129 ?_); refine gL 12 Try.func129 #[.slice bU ao.length bV] ((Xz.calls k _ _ ao false _ (cS ((Kd.N_reads' ag.out).2.2)) ((Kd.N_reads' ag.out).2.1) A4.out).mono ?_); rintro e w72 ⟨rfl, hb⟩; refine ⟨_, rfl, ?_⟩; replace HO0_0 := A_ (Kd.V_below Xf.Z4 hb); replace HO2_0 := A_ (Kd.V_below Xf.Z5 hb); replace ag := A_ (Kd.N_below Xf.Z3 hb); replace aa := eK aa hb; replace ab := eK ab hb; replace af := eK af hb; replace HB := eS HB hb; have bw := bC af; have bz := bF af))
  refine bodyPost_ret (results_ct rfl _ _ ac 26 #[.slice none 0 0] (0, 0) _ rfl Xf.Z0 Try.underlying26 rfl (by kernel_rfl)) rfl ?_; exact ⟨_, er, by first | exact Kd.R_nil _ _ _ _ _ | exact Kd.N_nil _ _ _ _ _ | exact Kd.V_nil _ _ _ _ _ | exact Kd.Q_nil _ _ _ _ _ | exact Kd.S_nil _ _ _ _ _, el HB⟩

/-! ### spec_l01In: function 162 -/
def Xbw.f (a0 : Int) (a1 : Int) (a2 : Int) : Option (Bool) := if a0 ≥ a1 then (some (decide (a0 ≤ a2))) else (some false)
theorem Xbw.calls (a0 : Int) (a1 : Int) (a2 : Int) (r : Bool) (w : World) (h : Xbw.f a0 a1 a2 = some r) :
  Calls Try.prog 162 #[.int .i64 a0, .int .i64 a1, .int .i64 a2] w fun e w' => e = .returned (.bool r) ∧ Drawn0 w w' := by
 unfold Xbw.f at h; have H := h; clear h
 by_cases c4 : a0 ≥ a1
 ·rw [if_pos c4] at H; have aa := decide_eq_true c4; clear c4; obtain rfl := Option.some.inj H
  go_enter Try.func162, Try.ntmps162
  go_wp2
  go_ret
  exact ⟨by first | rfl | (simp; done) | (simp [*]; done), by repeat (first | exact Drawn0.refl _ | apply Drawn0.step)⟩
 ·rw [if_neg c4] at H; have aa := decide_eq_false c4; clear c4; obtain rfl := Option.some.inj H
  go_enter Try.func162, Try.ntmps162
  go_wp2
  go_ret
  exact ⟨by first | rfl | (simp; done) | (simp [*]; done), by repeat (first | exact Drawn0.refl _ | apply Drawn0.step)⟩

/-! ### spec_l01Is: function 101 -/
def Xw.l0 : Nat → Int → Int → List Int → Option (Bool)
  | 0, _, _, _ => none
  | k + 1, x3, x4, x321000 => if x4 < (x321000.length : Int) then (if x3 = 0 then (some false) else (if 0 ≤ x4 then ((Xbw.f (rd x321000 x4) 0 24).bind fun t324 => (if t324 = true then (Xw.l0 k (wrap64 ((wrap64 (x3 - 1)) + (rd x321000 x4))) (wrap64 (x4 + 1)) x321000) else (some false))) else (none))) else (some (x3 == 0))
def Xw.f (k : Nat) (l0_0 : List Int) : Option (Bool) := (Xay.f l0_0).bind fun t321 => ((Xbw.f t321 1 24).bind fun t322 => (if t322 = true then (Xw.l0 k 1 0 l0_0) else (some false)))
theorem Xw.mono_l : ∀ k, (∀ y0 y1 y2, LeO (Xw.l0 k y0 y1 y2) (Xw.l0 (k + 1) y0 y1 y2))
  | 0 => fun _ _ _ r h => by simp [Xw.l0] at h
  | k + 1 => by
    have ih0 := Xw.mono_l k
    · intro y0 y1 y2
      unfold Xw.l0
      exact mW
theorem Xw.mono a0 k : LeO (Xw.f k a0) (Xw.f (k + 1) a0) := by have ih0 := Xw.mono_l k; unfold Xw.f; exact mW
theorem Xw.Z0 {p : Prop} (h : p := by first | (with_reducible assumption) | assumption) : p := h
theorem Xw.Z1 {p : Prop} (h : p := by first | rfl | (simp; done) | (simp [*]; done)) : p := h
theorem Xw.calls (k : Nat) (A0_0 : Option Addr) (c0_0 : Nat) (l0_0 : List Int) (r : Bool) (w : World) (hr0_0 : Kd.C (Kd.int .i64) w A0_0 l0_0.length l0_0) (hc0_0 : l0_0.length ≤ c0_0) (h : Xw.f k l0_0 = some r) :
  Calls Try.prog 101 #[.agg #[.slice A0_0 l0_0.length c0_0]] w fun e w' => e = .returned (.bool r) ∧ Below w.heap.size w w' := by
 have hu26 := Try.underlying26; have ae := A_ hr0_0; have ah := A_ hc0_0; clear hr0_0 hc0_0; have HB := A_ (Below.refl w.heap.size w); unfold Xw.f at h; have H := h; clear h; replace H := oB H; obtain ⟨af, A2, H⟩ := H; replace H := oB H; obtain ⟨ay, A3, H⟩ := H
 by_cases c4 : ay = true
 ·subst c4; rw [if_pos rfl] at H; have H' := A_ H; clear H
  go_enter Try.func101, Try.ntmps101
  go_wp2_with (first | ((with_reducible refine gD 1 ?_); refine bX 1 #[.slice A0_0 l0_0.length c0_0] 26 HB ?_; clear HB; intro ai w5 aa ak HB hb hg; clear hb hg; have az := bC aa; have aA := bF aa) | ((with_reducible refine gC 102 ?_); refine gL 6 Try.func102 #[.agg #[.slice A0_0 l0_0.length c0_0]] ((Xay.calls _ _ l0_0 af _ (cS (Kd.C_below ae.out HB.out)) ah.out A2.out).mono ?_); rintro e w7 ⟨rfl, hb⟩; refine ⟨_, rfl, ?_⟩; replace aa := eK aa hb; replace HB := eS HB hb) | ((with_reducible refine gC 162 ?_); refine gL 7 Try.func162 #[.int .i64 af, .int .i64 1, .int .i64 24] ((Xbw.calls af 1 24 true _ A3.out).mono ?_); rintro e w' ⟨rfl, ⟨nd, rfl⟩⟩; refine ⟨_, rfl, ?_⟩))
  go_loopg [3, 4] k (fun kq v3 v4 w' => ∃ (ag : Int) (ac : Int), v3 = .int .i64 ag ∧ v4 = .int .i64 ac ∧ Aside0 (Xw.l0 kq ag ac l0_0 = some r) ∧ Aside0 (kq ≤ k) ∧ Aside0 (w'.heap[ai]? = some (.cells #[(.slice A0_0 l0_0.length c0_0)] 26 (0, 0))) ∧ Aside0 (Below w.heap.size w w'))
  case atStart => exact ⟨(1), (0), Xw.Z1, Xw.Z1, H', ⟨Nat.le_refl _⟩, ⟨eb aa⟩, ⟨el HB⟩⟩
  case round =>
   clear H'; obtain ⟨ag, ac, rfl, rfl, HA, HK1, aa, HB⟩ := hrel
   cases gk with
   | zero => exact absurd HA.out (by simp [Xw.l0])
   | succ k1 =>
    have H := HA.out; clear HA; simp only [Xw.l0] at H
    by_cases c8 : ac < (l0_0.length : Int)
    ·rw [if_pos c8] at H; have aB := decide_eq_true c8; clear c8
     by_cases c9 : ag = 0
     ·rw [if_pos c9] at H; obtain ⟨aC, aD⟩ := bT c9; clear c9; obtain rfl := Option.some.inj H; have am := bC aa; have an := bF aa
      go_wp2
      go_ret
      exact ⟨er, el HB⟩
     ·rw [if_neg c9] at H; obtain ⟨aC, aD⟩ := bN c9
      replace H := iD H; obtain ⟨aF, H⟩ := H; replace H := oB H; obtain ⟨aE, A12, H⟩ := H
      by_cases c13 : aE = true
      ·subst c13; rw [if_pos rfl] at H; have H' := A_ H; clear H; have ao := bC aa; have ap := bF aa; have p323 : 0 ≤ (ac : Int) := of_decide_eq_true Xw.Z0; have q323 : ac < (l0_0.length : Int) := of_decide_eq_true Xw.Z0; obtain ⟨aj, e323, ab⟩ := Kd.at_int ae.out ac p323 q323; cases e323; replace ab := (HB.out.cell (World.block_lt_of_cell? w _ ab)).trans ab; replace p323 := eq_true p323; replace q323 := eq_true q323
       go_wp2_with (first | (go_at_call 162; (with_reducible refine (Xbw.calls (rd l0_0 ac) 0 24 true _ A12.out).mono ?_); rintro e w' ⟨rfl, ⟨nd, rfl⟩⟩; have p325 : 0 ≤ (ac : Int) := of_decide_eq_true Xw.Z0; have q325 : ac < (l0_0.length : Int) := of_decide_eq_true Xw.Z0; obtain ⟨al, e325, ad⟩ := Kd.at_int ae.out ac p325 q325; obtain rfl : aj = al := (by injection e325); replace ad := (HB.out.cell (World.block_lt_of_cell? w _ ad)).trans ad; replace p325 := eq_true p325; replace q325 := eq_true q325))
       go_roundg k1
       case measure => have := HK1.out; omega
       case rel => exact ⟨(wrap64 ((wrap64 (ag - 1)) + (rd l0_0 ac))), (wrap64 (ac + 1)), Xw.Z1, Xw.Z1, H', ⟨by have := HK1.out; omega⟩, ⟨eb aa⟩, ⟨el HB⟩⟩
      ·replace c13 := Bool.eq_false_iff.mpr c13; subst c13; rw [if_neg nF] at H; obtain rfl := Option.some.inj H; have aq := bC aa; have ar := bF aa; have p323 : 0 ≤ (ac : Int) := of_decide_eq_true Xw.Z0; have q323 : ac < (l0_0.length : Int) := of_decide_eq_true Xw.Z0; obtain ⟨aj, e323, ab⟩ := Kd.at_int ae.out ac p323 q323; cases e323; replace ab := (HB.out.cell (World.block_lt_of_cell? w _ ab)).trans ab; replace p323 := eq_true p323; replace q323 := eq_true q323
       go_wp2_with (first | (go_at_call 162; (with_reducible refine (Xbw.calls (rd l0_0 ac) 0 24 false _ A12.out).mono ?_); rintro e w' ⟨rfl, ⟨nd, rfl⟩⟩))
       go_ret
       exact ⟨er, el HB⟩
    ·rw [if_neg c8] at H; have aB := decide_eq_false c8; clear c8; obtain rfl := Option.some.inj H; have au := bC aa; have av := bF aa
     go_wp2
     go_ret
     exact ⟨er, el HB⟩
 ·replace c4 := Bool.eq_false_iff.mpr c4; subst c4; rw [if_neg nF] at H; obtain rfl := Option.some.inj H
  go_enter Try.func101, Try.ntmps101
  go_wp2_with (first | ((with_reducible refine gD 1 ?_); refine bX 1 #[.slice A0_0 l0_0.length c0_0] 26 HB ?_; clear HB; intro ai w17 aa ak HB hb hg; clear hb hg; have aw := bC aa; have ax := bF aa) | ((with_reducible refine gC 102 ?_); refine gL 6 Try.func102 #[.agg #[.slice A0_0 l0_0.length c0_0]] ((Xay.calls _ _ l0_0 af _ (cS (Kd.C_below ae.out HB.out)) ah.out A2.out).mono ?_); rintro e w19 ⟨rfl, hb⟩; refine ⟨_, rfl, ?_⟩; replace aa := eK aa hb; replace HB := eS HB hb) | ((with_reducible refine gC 162 ?_); refine gL 7 Try.func162 #[.int .i64 af, .int .i64 1, .int .i64 24] ((Xbw.calls af 1 24 false _ A3.out).mono ?_); rintro e w' ⟨rfl, ⟨nd, rfl⟩⟩; refine ⟨_, rfl, ?_⟩))
  go_ret
  exact ⟨er, el HB⟩

/-! ### spec_l01Nodes: function 120 -/
def Xi.l0 : Nat → List Int → Int → List Int → Option (Int)
  | 0, _, _, _ => none
  | k + 1, x1, x5, x327000 => if x5 < (x1.length : Int) then (if 0 ≤ x5 then ((Xay.f x327000).bind fun t329 => ((Xbw.f (rd x1 x5) 0 (wrap64 (t329 - 1))).bind fun t330 => (if t330 = true then (Xi.l0 k x1 (wrap64 (x5 + 1)) x327000) else (some 2)))) else (none)) else (some 0)
def Xi.f (k : Nat) (l0_0 : List Int) (l1 : List Int) : Option (Int) := (Xw.f k l0_0).bind fun t327 => (if t327 = true then (Xi.l0 k l1 0 l0_0) else (some 1))
theorem Xi.mono_l : ∀ k, (∀ y0 y1 y2, LeO (Xi.l0 k y0 y1 y2) (Xi.l0 (k + 1) y0 y1 y2))
  | 0 => fun _ _ _ r h => by simp [Xi.l0] at h
  | k + 1 => by
    have ih0 := Xi.mono_l k
    · intro y0 y1 y2
      unfold Xi.l0
      have := Xw.mono; exact mW
theorem Xi.mono a0 a1 k : LeO (Xi.f k a0 a1) (Xi.f (k + 1) a0 a1) := by have ih0 := Xi.mono_l k; unfold Xi.f; have := Xw.mono; exact mW
def Xi.T6 : Bool × List (List Nat × List Nat) := (true, [([], []), ([], []), ([0, 1], [0, 1]), ([2], [2]), ([], []), ([4], [4]), ([5], [5]), ([3, 6, 5], [3, 6]), ([7], [7])])
def Xi.B6 : List Nat := [0, 0, 3, 7, 0, 16, 48, 127, 255]
theorem Xi.tab6 : rtab .any (opsOf Try.f120 6) = Xi.T6 := by kernel_rfl
theorem Xi.bits6 : waitsOk Xi.T6.2 Xi.B6 = true := by kernel_rfl
theorem Xi.Z0 {p : Prop} (h : p := by first | (with_reducible assumption) | assumption) : p := h
theorem Xi.Z1 {p : Prop} (h : p := by first | rfl | (simp; done) | (simp [*]; done)) : p := h
theorem Xi.calls (k : Nat) (A0_0 : Option Addr) (c0_0 : Nat) (l0_0 : List Int) (A1 : Option Addr) (c1 : Nat) (l1 : List Int) (r : Int) (w : World) (hr0_0 : Kd.C (Kd.int .i64) w A0_0 l0_0.length l0_0) (hc0_0 : l0_0.length ≤ c0_0) (hr1 : Kd.C (Kd.int .i64) w A1 l1.length l1) (hc1 : l1.length ≤ c1) (h : Xi.f k l0_0 l1 = some r) :
  Calls Try.prog 120 #[.agg #[.slice A0_0 l0_0.length c0_0], .slice A1 l1.length c1] w fun e w' => e = .returned (.int .i64 r) ∧ Below w.heap.size w w' := by
 have hu26 := Try.underlying26; have ad := A_ hr0_0; have ae := A_ hc0_0; clear hr0_0 hc0_0; have HR1 := A_ hr1; have HC1 := A_ hc1; clear hr1 hc1; have HB := A_ (Below.refl w.heap.size w); unfold Xi.f at h; have H := h; clear h; replace H := oB H; obtain ⟨al, A3, H⟩ := H
 by_cases c4 : al = true
 ·subst c4; rw [if_pos rfl] at H; have H' := A_ H; clear H
  go_enter Try.func120, Try.ntmps120
  go_wp2_with (first | ((with_reducible refine gD 2 ?_); refine bX 2 #[.slice A0_0 l0_0.length c0_0] 26 HB ?_; clear HB; intro af w5 aa ai HB hb hg; clear hb hg; have am := bC aa; have an := bF aa) | ((with_reducible refine gC 101 ?_); refine gL 7 Try.func101 #[.agg #[.slice A0_0 l0_0.length c0_0]] ((Xw.calls k _ _ l0_0 true _ (cS (Kd.C_below ad.out HB.out)) ae.out A3.out).mono ?_); rintro e w7 ⟨rfl, hb⟩; refine ⟨_, rfl, ?_⟩; replace aa := eK aa hb; replace HB := eS HB hb))
  go_loopg [5] k (fun kq v5 w' => ∃ (ac : Int), v5 = .int .i64 ac ∧ Aside0 (Xi.l0 kq l1 ac l0_0 = some r) ∧ Aside0 (kq ≤ k) ∧ Aside0 (w'.heap[af]? = some (.cells #[(.slice A0_0 l0_0.length c0_0)] 26 (0, 0))) ∧ Aside0 (Below w.heap.size w w'))
  case atStart => exact ⟨(0), Xi.Z1, H', ⟨Nat.le_refl _⟩, ⟨eb aa⟩, ⟨el HB⟩⟩
  case round =>
   clear H'; obtain ⟨ac, rfl, HA, HK1, aa, HB⟩ := hrel
   cases gk with
   | zero => exact absurd HA.out (by simp [Xi.l0])
   | succ k1 =>
    have H := HA.out; clear HA; simp only [Xi.l0] at H
    by_cases c8 : ac < (l1.length : Int)
    ·rw [if_pos c8] at H; have ao := decide_eq_true c8; clear c8
     replace H := iD H; obtain ⟨aq, H⟩ := H; replace H := oB H; obtain ⟨ag, A10, H⟩ := H; replace H := oB H; obtain ⟨ap, A11, H⟩ := H
     by_cases c12 : ap = true
     ·subst c12; rw [if_pos rfl] at H; have H' := A_ H; clear H
      try go_wp2
      replace aa := bD aa; replace HB := wD HB; have p328 : 0 ≤ (ac : Int) := of_decide_eq_true Xi.Z0; have q328 : ac < (l1.length : Int) := of_decide_eq_true Xi.Z0; obtain ⟨ah, e328, ab⟩ := Kd.at_int HR1.out ac p328 q328; have hw328_0 := ab; cases e328; replace ab := (HB.out.cell (World.block_lt_of_cell? w _ ab)).trans ab; replace p328 := eq_true p328; replace q328 := eq_true q328; refine sT 9 (fun w' => w'.cell? ⟨af, 0, none⟩ = some (.slice A0_0 l0_0.length c0_0) ∧ w'.cell? (ah.add (ac).toNat) = some (.int .i64 (rd l1 ac))) (bM 9 0) Xi.tab6 Xi.bits6 ⟨bc aa, ((HB.out.cell (World.block_lt_of_cell? w _ hw328_0)).trans hw328_0)⟩ (fun hHeld HT_ HW_ => ?_)
      generalize wr.drew = w13 at aa HB ab hHeld ⊢; refine pA 0 15 (bM 9 1) HT_ ?_; refine pA 1 16 (bM 9 3) HT_ ?_; refine pA 2 17 (bM 9 7) HT_ ?_; refine tA 3 18 (bM 9 15) HT_ HW_ hHeld ?_; refine tA 4 19 (bM 9 31) HT_ HW_ hHeld ?_; refine oN 5 (some 20) (bM 9 63) HT_ (fun K hK => ?_); refine gS Try.func102 #[.agg #[.slice A0_0 l0_0.length c0_0]] ((Xay.calls _ _ l0_0 ag _ (cS (Kd.C_below ad.out HB.out)) ae.out A10.out).mono ?_); rintro e w14 ⟨rfl, hb⟩; refine ⟨_, rfl, ?_⟩; replace aa := eK aa hb; replace HB := eS HB hb
      refine hK.out _ _ ⟨bc aa, ((HB.out.cell (World.block_lt_of_cell? w _ hw328_0)).trans hw328_0)⟩ (fun hHeld => ?_); clear hK K; refine nM (some 20) ?_; refine pA 6 21 (bM 9 127) HT_ ?_; refine oN 7 (some 22) (bM 9 255) HT_ (fun K hK => ?_); refine goes_ Try.func162 (by kernel_rfl) rfl #[.int .i64 (rd l1 ac), .int .i64 0, .int .i64 (wrap64 (ag - 1))] (by rfl) rfl rfl eg ?_; with_reducible refine (Xbw.calls (rd l1 ac) 0 (wrap64 (ag - 1)) true _ A11.out).mono ?_
      rintro e w' ⟨rfl, ⟨nd, rfl⟩⟩; refine ⟨_, rfl, ?_⟩; refine hK.out _ _ ⟨bc aa, ((HB.out.cell (World.block_lt_of_cell? w _ hw328_0)).trans hw328_0)⟩ (fun hHeld => ?_); clear hK K; refine nM (some 22) ?_; refine pA 8 23 (bM 9 511) HT_ ?_; refine done_ (done_of HT_.out (by kernel_rfl)) ?_
      try go_wp2
      go_roundg k1
      case measure => have := HK1.out; omega
      case rel => exact ⟨(wrap64 (ac + 1)), Xi.Z1, H', ⟨by have := HK1.out; omega⟩, ⟨eb aa⟩, ⟨el HB⟩⟩
     ·replace c12 := Bool.eq_false_iff.mpr c12; subst c12; rw [if_neg nF] at H; obtain rfl := Option.some.inj H
      try go_wp2
      replace aa := bD aa; replace HB := wD HB; have p328 : 0 ≤ (ac : Int) := of_decide_eq_true Xi.Z0; have q328 : ac < (l1.length : Int) := of_decide_eq_true Xi.Z0; obtain ⟨ah, e328, ab⟩ := Kd.at_int HR1.out ac p328 q328; have hw328_0 := ab; cases e328; replace ab := (HB.out.cell (World.block_lt_of_cell? w _ ab)).trans ab; replace p328 := eq_true p328; replace q328 := eq_true q328; refine sT 9 (fun w' => w'.cell? ⟨af, 0, none⟩ = some (.slice A0_0 l0_0.length c0_0) ∧ w'.cell? (ah.add (ac).toNat) = some (.int .i64 (rd l1 ac))) (bM 9 0) Xi.tab6 Xi.bits6 ⟨bc aa, ((HB.out.cell (World.block_lt_of_cell? w _ hw328_0)).trans hw328_0)⟩ (fun hHeld HT_ HW_ => ?_)
      generalize wr.drew = w15 at aa HB ab hHeld ⊢; refine pA 0 15 (bM 9 1) HT_ ?_; refine pA 1 16 (bM 9 3) HT_ ?_; refine pA 2 17 (bM 9 7) HT_ ?_; refine tA 3 18 (bM 9 15) HT_ HW_ hHeld ?_; refine tA 4 19 (bM 9 31) HT_ HW_ hHeld ?_; refine oN 5 (some 20) (bM 9 63) HT_ (fun K hK => ?_); refine gS Try.func102 #[.agg #[.slice A0_0 l0_0.length c0_0]] ((Xay.calls _ _ l0_0 ag _ (cS (Kd.C_below ad.out HB.out)) ae.out A10.out).mono ?_); rintro e w16 ⟨rfl, hb⟩; refine ⟨_, rfl, ?_⟩; replace aa := eK aa hb; replace HB := eS HB hb
      refine hK.out _ _ ⟨bc aa, ((HB.out.cell (World.block_lt_of_cell? w _ hw328_0)).trans hw328_0)⟩ (fun hHeld => ?_); clear hK K; refine nM (some 20) ?_; refine pA 6 21 (bM 9 127) HT_ ?_; refine oN 7 (some 22) (bM 9 255) HT_ (fun K hK => ?_); refine goes_ Try.func162 (by kernel_rfl) rfl #[.int .i64 (rd l1 ac), .int .i64 0, .int .i64 (wrap64 (ag - 1))] (by rfl) rfl rfl eg ?_; with_reducible refine (Xbw.calls (rd l1 ac) 0 (wrap64 (ag - 1)) false _ A11.out).mono ?_
      rintro e w' ⟨rfl, ⟨nd, rfl⟩⟩; refine ⟨_, rfl, ?_⟩; refine hK.out _ _ ⟨bc aa, ((HB.out.cell (World.block_lt_of_cell? w _ hw328_0)).trans hw328_0)⟩ (fun hHeld => ?_); clear hK K; refine nM (some 22) ?_; refine pA 8 23 (bM 9 511) HT_ ?_; refine done_ (done_of HT_.out (by kernel_rfl)) ?_
      try go_wp2
      go_ret
      exact ⟨er, el HB⟩
    ·rw [if_neg c8] at H; have ao := decide_eq_false c8; clear c8; obtain rfl := Option.some.inj H
     go_wp2
     go_ret
     exact ⟨er, el HB⟩
 ·replace c4 := Bool.eq_false_iff.mpr c4; subst c4; rw [if_neg nF] at H; obtain rfl := Option.some.inj H
  go_enter Try.func120, Try.ntmps120
  go_wp2_with (first | ((with_reducible refine gD 2 ?_); refine bX 2 #[.slice A0_0 l0_0.length c0_0] 26 HB ?_; clear HB; intro af w17 aa ai HB hb hg; clear hb hg; have aj := bC aa; have ak := bF aa) | ((with_reducible refine gC 101 ?_); refine gL 7 Try.func101 #[.agg #[.slice A0_0 l0_0.length c0_0]] ((Xw.calls k _ _ l0_0 false _ (cS (Kd.C_below ad.out HB.out)) ae.out A3.out).mono ?_); rintro e w19 ⟨rfl, hb⟩; refine ⟨_, rfl, ?_⟩; replace aa := eK aa hb; replace HB := eS HB hb))
  go_ret
  exact ⟨er, el HB⟩

/-! ### spec_l01End: function 103 -/
def Xx.l0 : Nat → Int → Int → List Int → Option (Int)
  | 0, _, _, _ => none
  | k + 1, x1, x5, x332000 => if x5 > 0 then (if 0 ≤ x1 then (if x1 < (x332000.length : Int) then (Xx.l0 k (wrap64 (x1 + 1)) (wrap64 ((wrap64 (x5 - 1)) + (rd x332000 x1))) x332000) else (none)) else (none)) else (some x1)
def Xx.f (k : Nat) (l0_0 : List Int) (a1 : Int) : Option (Int) := Xx.l0 k a1 1 l0_0
theorem Xx.mono_l : ∀ k, (∀ y0 y1 y2, LeO (Xx.l0 k y0 y1 y2) (Xx.l0 (k + 1) y0 y1 y2))
  | 0 => fun _ _ _ r h => by simp [Xx.l0] at h
  | k + 1 => by
    have ih0 := Xx.mono_l k
    · intro y0 y1 y2
      unfold Xx.l0
      exact mW
theorem Xx.mono a0 a1 k : LeO (Xx.f k a0 a1) (Xx.f (k + 1) a0 a1) := by have ih0 := Xx.mono_l k; unfold Xx.f; exact mW
theorem Xx.Z0 {p : Prop} (h : p := by first | (with_reducible assumption) | assumption) : p := h
theorem Xx.Z1 {p : Prop} (h : p := by first | rfl | (simp; done) | (simp [*]; done)) : p := h
theorem Xx.calls (k : Nat) (A0_0 : Option Addr) (c0_0 : Nat) (l0_0 : List Int) (a1 : Int) (r : Int) (w : World) (hr0_0 : Kd.C (Kd.int .i64) w A0_0 l0_0.length l0_0) (hc0_0 : l0_0.length ≤ c0_0) (h : Xx.f k l0_0 a1 = some r) :
  Calls Try.prog 103 #[.agg #[.slice A0_0 l0_0.length c0_0], .int .i64 a1] w fun e w' => e = .returned (.int .i64 r) ∧ Below w.heap.size w w' := by
 have hu26 := Try.underlying26; have ae := A_ hr0_0; have aj := A_ hc0_0; clear hr0_0 hc0_0; have HB := A_ (Below.refl w.heap.size w); unfold Xx.f at h; have H := h; clear h; have H' := A_ H; clear H
 go_enter Try.func103, Try.ntmps103
 go_wp2_with (first | ((with_reducible refine gD 2 ?_); refine bX 2 #[.slice A0_0 l0_0.length c0_0] 26 HB ?_; clear HB; intro af w3 ab ak HB hb hg; clear hb hg))
 go_loopg [1, 5] k (fun kq v1 v5 w' => ∃ (ac : Int) (ad : Int), v1 = .int .i64 ac ∧ v5 = .int .i64 ad ∧ Aside0 (Xx.l0 kq ac ad l0_0 = some r) ∧ Aside0 (kq ≤ k) ∧ Aside0 (w'.heap[af]? = some (.cells #[(.slice A0_0 l0_0.length c0_0)] 26 (0, 0))) ∧ Aside0 (Below w.heap.size w w'))
 case atStart => exact ⟨(a1), (1), Xx.Z1, Xx.Z1, H', ⟨Nat.le_refl _⟩, ⟨eb ab⟩, ⟨el HB⟩⟩
 case round =>
  clear H'; obtain ⟨ac, ad, rfl, rfl, HA, HK1, ab, HB⟩ := hrel
  cases gk with
  | zero => exact absurd HA.out (by simp [Xx.l0])
  | succ k1 =>
   have H := HA.out; clear HA; simp only [Xx.l0] at H
   by_cases c4 : ad > 0
   ·rw [if_pos c4] at H; have ag := decide_eq_true c4; clear c4
    replace H := iD H; obtain ⟨am, H⟩ := H
    replace H := iD H; obtain ⟨an, H⟩ := H; have H' := A_ H; clear H; have ah := bC ab; have ai := bF ab; have p332 : 0 ≤ (ac : Int) := of_decide_eq_true Xx.Z0; have q332 : ac < (l0_0.length : Int) := of_decide_eq_true Xx.Z0; obtain ⟨al, e332, aa⟩ := Kd.at_int ae.out ac p332 q332; cases e332; replace aa := (HB.out.cell (World.block_lt_of_cell? w _ aa)).trans aa; replace p332 := eq_true p332; replace q332 := eq_true q332
    go_wp2
    go_roundg k1
    case measure => have := HK1.out; omega
    case rel => exact ⟨(wrap64 (ac + 1)), (wrap64 ((wrap64 (ad - 1)) + (rd l0_0 ac))), Xx.Z1, Xx.Z1, H', ⟨by have := HK1.out; omega⟩, ⟨eb ab⟩, ⟨el HB⟩⟩
   ·rw [if_neg c4] at H; have ag := decide_eq_false c4; clear c4; obtain rfl := Option.some.inj H
    go_wp2
    go_ret
    exact ⟨er, el HB⟩

/-! ### spec_l01Replace: function 133 -/
def Xaa.f (k : Nat) (l0_0 : List Int) (a1 : Int) (l2_0 : List Int) : Option (List Int × Bool) := if 0 ≤ a1 then (if a1 ≤ (l0_0.length : Int) then ((Xbd.f (l0_0.take (a1 : Int).toNat)).bind fun t337 => (if t337.length + l2_0.length < 17592186044416 then ((some (t337 ++ l2_0 : List Int)).bind fun y340 => ((Xx.f k l0_0 a1).bind fun t343 => (if 0 ≤ t343 then (if t343 ≤ (l0_0.length : Int) then (if y340.length + (l0_0.drop (t343 : Int).toNat).length < 17592186044416 then ((some (y340 ++ (l0_0.drop (t343 : Int).toNat) : List Int)).bind fun y345 => (if (y345.length : Int) > 24 then (some (([] : List Int), false)) else (some (y345, true)))) else (none)) else (none)) else (none)))) else (none))) else (none)) else (none)
theorem Xaa.mono a0 a1 a2 k : LeO (Xaa.f k a0 a1 a2) (Xaa.f (k + 1) a0 a1 a2) := by unfold Xaa.f; have := Xx.mono; exact mW
def Xaa.T1 : Bool × List (List Nat × List Nat) := (true, [([], []), ([0], [0]), ([], []), ([1, 2], [1, 2]), ([3], [3]), ([], []), ([5], [5]), ([4, 6, 4], [4, 6]), ([7, 7, 0, 1, 2, 3, 4, 5, 6, 7], [7])])
def Xaa.B1 : List Nat := [0, 1, 0, 7, 15, 0, 32, 127, 255]
theorem Xaa.tab1 : rtab .any (opsOf Try.f133 1) = Xaa.T1 := by kernel_rfl
theorem Xaa.bits1 : waitsOk Xaa.T1.2 Xaa.B1 = true := by kernel_rfl
def Xaa.T2 : Bool × List (List Nat × List Nat) := (true, [([], []), ([], []), ([1], [1]), ([], []), ([], []), ([3, 4], [3, 4]), ([2, 5], [2, 5]), ([0, 6, 5], [0, 6]), ([7, 7, 0, 1, 2, 3, 4, 5, 6, 7], [0, 7])])
def Xaa.B2 : List Nat := [0, 0, 2, 0, 0, 24, 62, 127, 255]
theorem Xaa.tab2 : rtab .any (opsOf Try.f133 2) = Xaa.T2 := by kernel_rfl
theorem Xaa.bits2 : waitsOk Xaa.T2.2 Xaa.B2 = true := by kernel_rfl
theorem Xaa.Z0 {p : Prop} (h : p := by (try simp only [List.map_toArray, List.map_cons, List.map_nil]); first | done | (rw [show (l0_0.take (a1 : Int).toNat).length = a1.toNat from (by rw [List.length_take]; have h_ : (a1 : Int) ≤ (l0_0.length : Int) := of_decide_eq_true (by first | (with_reducible assumption) | assumption); omega)] <;> rfl) | rfl | (simp only [List.length_drop, List.length_take]; rfl)) : p := h
theorem Xaa.Z1 {p : Prop} (h : p := by exact eP ac) : p := h
theorem Xaa.Z2 {p : Prop} (h : p := by first | (with_reducible assumption) | assumption) : p := h
theorem Xaa.calls (k : Nat) (A0_0 : Option Addr) (c0_0 : Nat) (l0_0 : List Int) (a1 : Int) (A2_0 : Option Addr) (c2_0 : Nat) (l2_0 : List Int) (r1 : List Int) (r2 : Bool) (w : World) (hr0_0 : Kd.C (Kd.int .i64) w A0_0 l0_0.length l0_0) (hc0_0 : l0_0.length ≤ c0_0) (hr2_0 : Kd.C (Kd.int .i64) w A2_0 l2_0.length l2_0) (hc2_0 : l2_0.length ≤ c2_0) (h : Xaa.f k l0_0 a1 l2_0 = some (r1, r2)) :
  Calls Try.prog 133 #[.agg #[.slice A0_0 l0_0.length c0_0], .int .i64 a1, .agg #[.slice A2_0 l2_0.length c2_0]] w fun e w' => ∃ v0_ : Value, e = .returned (.tuple #[.agg #[v0_], .bool r2]) ∧ Kd.R (Kd.int .i64) 2 w' w.heap.size (fun _ => True) v0_ r1 ∧ Below w.heap.size w w' := by
 have hu26 := Try.underlying26; have an := A_ hr0_0; have ao := A_ hc0_0; clear hr0_0 hc0_0; have aw := A_ hr2_0; have aY := A_ hc2_0; clear hr2_0 hc2_0; have HB := A_ (Below.refl w.heap.size w); unfold Xaa.f at h; have H := h; clear h
 by_cases c4 : 0 ≤ a1
 ·rw [if_pos c4] at H; have ba := eq_true c4; have bb := decide_eq_true c4; clear c4
  replace H := iE H; obtain ⟨bd, be, H⟩ := H; replace H := oB H; obtain ⟨av, A6, H⟩ := H
  replace H := iL H; obtain ⟨aD, H⟩ := H; replace H := oY H; obtain ⟨aE, ax, H⟩ := H; replace H := oB H; obtain ⟨af, A8, H⟩ := H
  replace H := iE H; obtain ⟨bf, bg, H⟩ := H
  replace H := iE H; obtain ⟨aZ, a0, H⟩ := H
  replace H := iL H; obtain ⟨ay, H⟩ := H; replace H := oY H; obtain ⟨au, az, H⟩ := H
  by_cases c12 : (au.length : Int) > 24
  ·rw [if_pos c12] at H; have aG := decide_eq_true c12; have aH : decide (24 < au.length) = true := decide_eq_true (by omega); clear c12; simp only [Option.some.injEq, Prod.mk.injEq] at H; obtain ⟨rfl, rfl⟩ := H
   go_enter Try.func133, Try.ntmps133
   try go_wp2_with (first | ((with_reducible refine gD 3 ?_); refine bX 3 #[.slice A0_0 l0_0.length c0_0] 26 HB ?_; clear HB; intro ag w13 aa aI HB hb hg; clear hb hg) | ((with_reducible refine gD 5 ?_); refine bX 5 #[.slice A2_0 l2_0.length c2_0] 26 HB ?_; clear HB; intro al w14 ab aJ HB hb hg; obtain ⟨aq, ar⟩ := nN hg aa; replace aa := eK aa hb; clear hb hg) | ((with_reducible refine gD 6 ?_); refine bX 6 #[.slice none 0 0] 26 HB ?_; clear HB; intro am w15 ac aK HB hb hg; obtain ⟨ah, ai⟩ := nN hg aa; replace aa := eK aa hb; obtain ⟨aj, ak⟩ := nN hg ab; replace ab := eK ab hb; clear hb hg))
   replace aa := bD aa; replace ab := bD ab; replace ac := bD ac; replace HB := wD HB; obtain ⟨i017, hi017, _, hsz17, _⟩ := info_parts info2; obtain ⟨hcut17, hA17, hC17⟩ := print_take_of (P := Try.prog) (Value.int .i64) 0 24 2 .i64 Try.underlying24 hi017 hsz17 A0_0 c0_0 l0_0 a1 (of_decide_eq_true Xaa.Z2) (of_decide_eq_true Xaa.Z2) ao.out; have HR336 := A_ (Kd.C_of_reads (h1 := fun _ => rfl) (hA17 _ (Kd.reads_of_C an.out))); have HC336 := A_ hC17; clear hA17 hC17 hi017 hsz17; refine sT 9 (fun w' => w'.cell? ⟨ag, 0, none⟩ = some (.slice A0_0 l0_0.length c0_0) ∧ w'.cell? ⟨al, 0, none⟩ = some (.slice A2_0 l2_0.length c2_0)) (bM 9 0) Xaa.tab1 Xaa.bits1 ⟨bc aa, bc ab⟩ (fun hHeld HT_ HW_ => ?_)
   generalize w15.drew = w16 at aa ab ac HB HR336 hHeld ⊢; refine pA 0 9 (bM 9 1) HT_ ?_; refine pA 2 11 (bM 9 5) HT_ ?_; refine pA 5 14 (bM 9 37) HT_ ?_; refine tA 1 10 (bM 9 39) HT_ HW_ hHeld ?_; refine pA 3 12 (bM 9 47) HT_ ?_; refine tA 6 15 (bM 9 111) HT_ HW_ hHeld ?_; refine oN 4 (some 13) (bM 9 127) HT_ (fun K hK => ?_); refine gS Try.func145 #[.slice A0_0 (l0_0.take (a1 : Int).toNat).length c0_0] ((Xbd.calls _ _ (l0_0.take (a1 : Int).toNat) av _ (cS (Kd.C_below HR336.out HB.out)) HC336.out A6.out).mono ?_) (hargs := Xaa.Z0); rintro e w18 ⟨aA, rfl, ho0, hb⟩; refine ⟨_, rfl, ?_⟩; have ae := eV ho0 HB; replace aa := eK aa hb; replace ab := eK ab hb; replace ac := eK ac hb; replace HB := eS HB hb
   refine hK.out _ _ ⟨bc aa, bc ab⟩ (fun hHeld => ?_); clear hK K; refine nM (some 13) ?_; refine oN 7 (some 16) (bM 9 255) HT_ (fun K hK => ?_); refine Kd.R_append_rows_step (Kd.int .i64) (w0 := w) w.heap.size (by rfl) (.tmp 13) (.tmp 15) 24 2 (.int .i64 0) 8 rfl Try.underlying24 info2 rfl (by decide) (by omega) aA av l2_0 _ _ _ (fun _ => True) (fun _ => False) rfl rfl ?aO ?aR (fun _ _ h => h) (fun _ h => h.elim) ?aF ?aB ?aS ?aL ?_; (case aR => repeat (first | exact (Kd.C_below aw.out HB.out) | (with_reducible refine Kd.C_alloc ?_ _) | (with_reducible refine Kd.C_drewN ?_ _) | (with_reducible refine Kd.C_drew ?_))); (case aB => exact (el HB)); (case aF => exact (fun _ _ => trivial)); (case aO => exact (ea ae)); (case aS => exact (below_size (el HB))); (case aL => have := aD.out; omega); intro aC w19 ho hb hg hat; rw [← ax.out] at ho; replace aa := A_ (blk_grown (g := ag) (o := .cells #[.slice A0_0 l0_0.length c0_0] 26 (0, 0)) (eb aa) hg (Kd.R_ne ae.out aa.out (by decide))); replace ab := A_ (blk_grown (g := al) (o := .cells #[.slice A2_0 l2_0.length c2_0] 26 (0, 0)) (eb ab) hg (Kd.R_ne ae.out ab.out (by decide))); replace ac := A_ (blk_grown (g := am) (o := .cells #[.slice none 0 0] 26 (0, 0)) (eb ac) hg (Kd.R_ne ae.out ac.out (by decide))); replace HB := A_ hb; have ad := A_ ho; clear ae; clear ho hb hg hat; refine hK.out _ _ ⟨bc aa, bc ab⟩ (fun hHeld => ?_); clear hK K; refine nM (some 16) ?_; refine pA 8 8 (bM 9 511) HT_ ?_; refine done_ (done_of HT_.out (by kernel_rfl)) ?_
   try go_wp2
   replace ad := rD ad; replace aa := bD aa; replace ab := bD ab; replace ac := bD ac; replace HB := wD HB; refine sT 9 (fun w' => w'.cell? ⟨ag, 0, none⟩ = some (.slice A0_0 l0_0.length c0_0)) (bM 9 0) Xaa.tab2 Xaa.bits2 (bc aa) (fun hHeld HT_ HW_ => ?_)
   generalize w19.drew = w20 at ad aa ab ac HB hHeld ⊢; refine pA 0 17 (bM 9 1) HT_ ?_; refine pA 1 18 (bM 9 3) HT_ ?_; refine pA 4 21 (bM 9 19) HT_ ?_; refine tA 2 19 (bM 9 23) HT_ HW_ hHeld ?_; refine tA 3 20 (bM 9 31) HT_ HW_ hHeld ?_; refine oN 5 (some 22) (bM 9 63) HT_ (fun K hK => ?_); refine gS Try.func103 #[.agg #[.slice A0_0 l0_0.length c0_0], .int .i64 a1] ((Xx.calls k _ _ l0_0 a1 af _ (cS (Kd.C_below an.out HB.out)) ao.out A8.out).mono ?_); rintro e w21 ⟨rfl, hb⟩; refine ⟨_, rfl, ?_⟩; replace ad := eR ad hb; replace aa := eK aa hb; replace ab := eK ab hb; replace ac := eK ac hb; replace HB := eS HB hb
   obtain ⟨i022, hi022, _, hsz22, _⟩ := info_parts info2; obtain ⟨A22, hcut22, hA22, hC22⟩ := print_drop_of (P := Try.prog) (Value.int .i64) 0 24 2 .i64 Try.underlying24 hi022 hsz22 A0_0 c0_0 l0_0 af (of_decide_eq_true Xaa.Z2) (of_decide_eq_true Xaa.Z2) ao.out; have HR344 := A_ (Kd.C_of_reads (h1 := fun _ => rfl) (hA22 _ (Kd.reads_of_C an.out))); have HC344 := A_ hC22; clear hA22 hC22 hi022 hsz22; refine hK.out _ _ (bc aa) (fun hHeld => ?_); clear hK K; refine nM (some 22) ?_; refine pA 6 23 (bM 9 127) HT_ ?_; refine oN 7 (some 24) (bM 9 255) HT_ (fun K hK => ?_); refine Kd.R_append_rows_step (Kd.int .i64) (w0 := w) w.heap.size (by rfl) (.tmp 17) (.tmp 23) 24 2 (.int .i64 0) 8 rfl Try.underlying24 info2 rfl (by decide) (by omega) aC aE (l0_0.drop (af : Int).toNat) _ _ _ (fun _ => True) (fun _ => False) rfl rfl ?aO ?aR (fun _ _ h => h) (fun _ h => h.elim) ?aF ?aB ?aS ?aL ?_; (case aR => first | (rw [← show (l0_0.drop (af : Int).toNat).length = (l0_0.length - af.toNat) from List.length_drop]; repeat (first | exact (Kd.C_below HR344.out HB.out) | (with_reducible refine Kd.C_alloc ?_ _) | (with_reducible refine Kd.C_drewN ?_ _) | (with_reducible refine Kd.C_drew ?_))) | (repeat (first | exact (Kd.C_below HR344.out HB.out) | (with_reducible refine Kd.C_alloc ?_ _) | (with_reducible refine Kd.C_drewN ?_ _) | (with_reducible refine Kd.C_drew ?_)))); (case aB => exact (el HB)); (case aF => exact (fun _ _ => trivial)); (case aO => exact (ea ad)); (case aS => exact (below_size (el HB))); (case aL => have := ay.out; have hlx_ := (show (l0_0.drop (af : Int).toNat).length = (l0_0.length - af.toNat) from List.length_drop); omega); intro aV w23 ho hb hg hat; rw [← az.out] at ho; replace aa := A_ (blk_grown (g := ag) (o := .cells #[.slice A0_0 l0_0.length c0_0] 26 (0, 0)) (eb aa) hg (Kd.R_ne ad.out aa.out (by decide))); replace ab := A_ (blk_grown (g := al) (o := .cells #[.slice A2_0 l2_0.length c2_0] 26 (0, 0)) (eb ab) hg (Kd.R_ne ad.out ab.out (by decide))); replace ac := A_ (blk_grown (g := am) (o := .cells #[.slice none 0 0] 26 (0, 0)) (eb ac) hg (Kd.R_ne ad.out ac.out (by decide))); replace HB := A_ hb; have ap := A_ ho; clear ad; clear ho hb hg hat; refine hK.out _ _ (bc aa) (fun hHeld => ?_); clear hK K; refine nM (some 24) ?_; refine pA 8 8 (bM 9 511) HT_ ?_; refine done_ (done_of HT_.out (by kernel_rfl)) ?_; obtain ⟨bh, bi, aW⟩ := Kd.R_slice ap.out; subst aW; have a2 := ai.out; have a3 := ah.out; have a4 := ak.out; have a5 := aj.out; have aP := bC ac; have aQ := bF ac
   try go_wp2
   refine bodyPost_ret (results_ct rfl _ _ am 26 #[.slice none 0 0] (0, 0) _ rfl Xaa.Z1 Try.underlying26 rfl (by kernel_rfl)) rfl ?_; exact ⟨_, er, by first | exact Kd.R_nil _ _ _ _ _ | exact Kd.N_nil _ _ _ _ _ | exact Kd.V_nil _ _ _ _ _ | exact Kd.Q_nil _ _ _ _ _ | exact Kd.S_nil _ _ _ _ _, el HB⟩
  ·rw [if_neg c12] at H; have aG := decide_eq_false c12; have aH : decide (24 < au.length) = false := decide_eq_false (by omega); clear c12; simp only [Option.some.injEq, Prod.mk.injEq] at H; obtain ⟨rfl, rfl⟩ := H
   go_enter Try.func133, Try.ntmps133
   try go_wp2_with (first | ((with_reducible refine gD 3 ?_); refine bX 3 #[.slice A0_0 l0_0.length c0_0] 26 HB ?_; clear HB; intro ag w28 aa aI HB hb hg; clear hb hg) | ((with_reducible refine gD 5 ?_); refine bX 5 #[.slice A2_0 l2_0.length c2_0] 26 HB ?_; clear HB; intro al w29 ab aJ HB hb hg; obtain ⟨aq, ar⟩ := nN hg aa; replace aa := eK aa hb; clear hb hg) | ((with_reducible refine gD 6 ?_); refine bX 6 #[.slice none 0 0] 26 HB ?_; clear HB; intro am w30 ac aK HB hb hg; obtain ⟨ah, ai⟩ := nN hg aa; replace aa := eK aa hb; obtain ⟨aj, ak⟩ := nN hg ab; replace ab := eK ab hb; clear hb hg))
   replace aa := bD aa; replace ab := bD ab; replace ac := bD ac; replace HB := wD HB; obtain ⟨i032, hi032, _, hsz32, _⟩ := info_parts info2; obtain ⟨hcut32, hA32, hC32⟩ := print_take_of (P := Try.prog) (Value.int .i64) 0 24 2 .i64 Try.underlying24 hi032 hsz32 A0_0 c0_0 l0_0 a1 (of_decide_eq_true Xaa.Z2) (of_decide_eq_true Xaa.Z2) ao.out; have HR336 := A_ (Kd.C_of_reads (h1 := fun _ => rfl) (hA32 _ (Kd.reads_of_C an.out))); have HC336 := A_ hC32; clear hA32 hC32 hi032 hsz32; refine sT 9 (fun w' => w'.cell? ⟨ag, 0, none⟩ = some (.slice A0_0 l0_0.length c0_0) ∧ w'.cell? ⟨al, 0, none⟩ = some (.slice A2_0 l2_0.length c2_0)) (bM 9 0) Xaa.tab1 Xaa.bits1 ⟨bc aa, bc ab⟩ (fun hHeld HT_ HW_ => ?_)
   generalize w30.drew = w31 at aa ab ac HB HR336 hHeld ⊢; refine pA 0 9 (bM 9 1) HT_ ?_; refine pA 2 11 (bM 9 5) HT_ ?_; refine pA 5 14 (bM 9 37) HT_ ?_; refine tA 1 10 (bM 9 39) HT_ HW_ hHeld ?_; refine pA 3 12 (bM 9 47) HT_ ?_; refine tA 6 15 (bM 9 111) HT_ HW_ hHeld ?_; refine oN 4 (some 13) (bM 9 127) HT_ (fun K hK => ?_); refine gS Try.func145 #[.slice A0_0 (l0_0.take (a1 : Int).toNat).length c0_0] ((Xbd.calls _ _ (l0_0.take (a1 : Int).toNat) av _ (cS (Kd.C_below HR336.out HB.out)) HC336.out A6.out).mono ?_) (hargs := Xaa.Z0); rintro e w33 ⟨aA, rfl, ho0, hb⟩; refine ⟨_, rfl, ?_⟩; have ae := eV ho0 HB; replace aa := eK aa hb; replace ab := eK ab hb; replace ac := eK ac hb; replace HB := eS HB hb
   refine hK.out _ _ ⟨bc aa, bc ab⟩ (fun hHeld => ?_); clear hK K; refine nM (some 13) ?_; refine oN 7 (some 16) (bM 9 255) HT_ (fun K hK => ?_); refine Kd.R_append_rows_step (Kd.int .i64) (w0 := w) w.heap.size (by rfl) (.tmp 13) (.tmp 15) 24 2 (.int .i64 0) 8 rfl Try.underlying24 info2 rfl (by decide) (by omega) aA av l2_0 _ _ _ (fun _ => True) (fun _ => False) rfl rfl ?aO ?aR (fun _ _ h => h) (fun _ h => h.elim) ?aF ?aB ?aS ?aL ?_; (case aR => repeat (first | exact (Kd.C_below aw.out HB.out) | (with_reducible refine Kd.C_alloc ?_ _) | (with_reducible refine Kd.C_drewN ?_ _) | (with_reducible refine Kd.C_drew ?_))); (case aB => exact (el HB)); (case aF => exact (fun _ _ => trivial)); (case aO => exact (ea ae)); (case aS => exact (below_size (el HB))); (case aL => have := aD.out; omega); intro aC w34 ho hb hg hat; rw [← ax.out] at ho; replace aa := A_ (blk_grown (g := ag) (o := .cells #[.slice A0_0 l0_0.length c0_0] 26 (0, 0)) (eb aa) hg (Kd.R_ne ae.out aa.out (by decide))); replace ab := A_ (blk_grown (g := al) (o := .cells #[.slice A2_0 l2_0.length c2_0] 26 (0, 0)) (eb ab) hg (Kd.R_ne ae.out ab.out (by decide))); replace ac := A_ (blk_grown (g := am) (o := .cells #[.slice none 0 0] 26 (0, 0)) (eb ac) hg (Kd.R_ne ae.out ac.out (by decide))); replace HB := A_ hb; have ad := A_ ho; clear ae; clear ho hb hg hat; refine hK.out _ _ ⟨bc aa, bc ab⟩ (fun hHeld => ?_); clear hK K; refine nM (some 16) ?_; refine pA 8 8 (bM 9 511) HT_ ?_; refine done_ (done_of HT_.out (by kernel_rfl)) ?_
   try go_wp2
   replace ad := rD ad; replace aa := bD aa; replace ab := bD ab; replace ac := bD ac; replace HB := wD HB; refine sT 9 (fun w' => w'.cell? ⟨ag, 0, none⟩ = some (.slice A0_0 l0_0.length c0_0)) (bM 9 0) Xaa.tab2 Xaa.bits2 (bc aa) (fun hHeld HT_ HW_ => ?_)
   generalize w34.drew = w35 at ad aa ab ac HB hHeld ⊢; refine pA 0 17 (bM 9 1) HT_ ?_; refine pA 1 18 (bM 9 3) HT_ ?_; refine pA 4 21 (bM 9 19) HT_ ?_; refine tA 2 19 (bM 9 23) HT_ HW_ hHeld ?_; refine tA 3 20 (bM 9 31) HT_ HW_ hHeld ?_; refine oN 5 (some 22) (bM 9 63) HT_ (fun K hK => ?_); refine gS Try.func103 #[.agg #[.slice A0_0 l0_0.length c0_0], .int .i64 a1] ((Xx.calls k _ _ l0_0 a1 af _ (cS (Kd.C_below an.out HB.out)) ao.out A8.out).mono ?_); rintro e w36 ⟨rfl, hb⟩; refine ⟨_, rfl, ?_⟩; replace ad := eR ad hb; replace aa := eK aa hb; replace ab := eK ab hb; replace ac := eK ac hb; replace HB := eS HB hb
   obtain ⟨i037, hi037, _, hsz37, _⟩ := info_parts info2; obtain ⟨A37, hcut37, hA37, hC37⟩ := print_drop_of (P := Try.prog) (Value.int .i64) 0 24 2 .i64 Try.underlying24 hi037 hsz37 A0_0 c0_0 l0_0 af (of_decide_eq_true Xaa.Z2) (of_decide_eq_true Xaa.Z2) ao.out; have HR344 := A_ (Kd.C_of_reads (h1 := fun _ => rfl) (hA37 _ (Kd.reads_of_C an.out))); have HC344 := A_ hC37; clear hA37 hC37 hi037 hsz37; refine hK.out _ _ (bc aa) (fun hHeld => ?_); clear hK K; refine nM (some 22) ?_; refine pA 6 23 (bM 9 127) HT_ ?_; refine oN 7 (some 24) (bM 9 255) HT_ (fun K hK => ?_); refine Kd.R_append_rows_step (Kd.int .i64) (w0 := w) w.heap.size (by rfl) (.tmp 17) (.tmp 23) 24 2 (.int .i64 0) 8 rfl Try.underlying24 info2 rfl (by decide) (by omega) aC aE (l0_0.drop (af : Int).toNat) _ _ _ (fun _ => True) (fun _ => False) rfl rfl ?aO ?aR (fun _ _ h => h) (fun _ h => h.elim) ?aF ?aB ?aS ?aL ?_; (case aR => first | (rw [← show (l0_0.drop (af : Int).toNat).length = (l0_0.length - af.toNat) from List.length_drop]; repeat (first | exact (Kd.C_below HR344.out HB.out) | (with_reducible refine Kd.C_alloc ?_ _) | (with_reducible refine Kd.C_drewN ?_ _) | (with_reducible refine Kd.C_drew ?_))) | (repeat (first | exact (Kd.C_below HR344.out HB.out) | (with_reducible refine Kd.C_alloc ?_ _) | (with_reducible refine Kd.C_drewN ?_ _) | (with_reducible refine Kd.C_drew ?_)))); (case aB => exact (el HB)); (case aF => exact (fun _ _ => trivial)); (case aO => exact (ea ad)); (case aS => exact (below_size (el HB))); (case aL => have := ay.out; have hlx_ := (show (l0_0.drop (af : Int).toNat).length = (l0_0.length - af.toNat) from List.length_drop); omega); intro aV w38 ho hb hg hat; rw [← az.out] at ho; replace aa := A_ (blk_grown (g := ag) (o := .cells #[.slice A0_0 l0_0.length c0_0] 26 (0, 0)) (eb aa) hg (Kd.R_ne ad.out aa.out (by decide))); replace ab := A_ (blk_grown (g := al) (o := .cells #[.slice A2_0 l2_0.length c2_0] 26 (0, 0)) (eb ab) hg (Kd.R_ne ad.out ab.out (by decide))); replace ac := A_ (blk_grown (g := am) (o := .cells #[.slice none 0 0] 26 (0, 0)) (eb ac) hg (Kd.R_ne ad.out ac.out (by decide))); replace HB := A_ hb; have ap := A_ ho; clear ad; clear ho hb hg hat; refine hK.out _ _ (bc aa) (fun hHeld => ?_); clear hK K; refine nM (some 24) ?_; refine pA 8 8 (bM 9 511) HT_ ?_; refine done_ (done_of HT_.out (by kernel_rfl)) ?_; obtain ⟨aM, aN, aX⟩ := Kd.R_slice ap.out; subst aX; have a6 := ai.out; have a7 := ah.out; have a8 := ak.out; have a9 := aj.out; have aT := bC ac; have aU := bF ac
   try go_wp2
   refine bodyPost_ret (results_ct rfl _ _ am 26 #[.slice aM au.length aN] (0, 0) _ rfl Xaa.Z1 Try.underlying26 rfl (by kernel_rfl)) rfl ?_; exact ⟨_, er, rX (Kd.R_mono (rF ap.out ac (.slice aM au.length aN)) (fun _ hk => trivial)), el HB⟩
 ·rw [if_neg c4] at H; exact absurd H (by simp)

/-! ### spec_ReplaceAt: function 39 -/
def Xal.j0 : Nat → Int → Int → List Int → List Int → Option (List Int × Int)
  | 0, _, _, _, _ => none
  | k + 1, x1, x8, x349000, x350000 => if x8 = 0 then ((Xaa.f k x349000 x1 x350000).bind fun bt356 => (if bt356.2 = true then (some (bt356.1, 0)) else (some (([] : List Int), 3)))) else (some (([] : List Int), x8))
def Xal.f (k : Nat) (l0_0 : List Int) (a1 : Int) (l2_0 : List Int) : Option (List Int × Int) := (Xi.f k l0_0 (([a1] : List Int))).bind fun t354 => ((Xw.f k l2_0).bind fun t355 => (if t355 = true then (Xal.j0 k a1 t354 l0_0 l2_0) else (Xal.j0 k a1 1 l0_0 l2_0)))
theorem Xal.mono_l : ∀ k, (∀ y0 y1 y2 y3, LeO (Xal.j0 k y0 y1 y2 y3) (Xal.j0 (k + 1) y0 y1 y2 y3))
  | 0 => fun _ _ _ _ r h => by simp [Xal.j0] at h
  | k + 1 => by
    have ih0 := Xal.mono_l k
    · intro y0 y1 y2 y3
      unfold Xal.j0
      have := Xw.mono; have := Xi.mono; have := Xaa.mono; exact mW
theorem Xal.mono a0 a1 a2 k : LeO (Xal.f k a0 a1 a2) (Xal.f (k + 1) a0 a1 a2) := by have ih0 := Xal.mono_l k; unfold Xal.f; have := Xw.mono; have := Xi.mono; have := Xaa.mono; exact mW
theorem Xal.Z0 {p : Prop} (h : p := by exact eP ab) : p := h
theorem Xal.Z1 {p : Prop} (h : p := by first | rfl | (simp; done) | (simp [*]; done)) : p := h
theorem Xal.calls (k : Nat) (A0_0 : Option Addr) (c0_0 : Nat) (l0_0 : List Int) (a1 : Int) (A2_0 : Option Addr) (c2_0 : Nat) (l2_0 : List Int) (r1 : List Int) (r2 : Int) (w : World) (hr0_0 : Kd.C (Kd.int .i64) w A0_0 l0_0.length l0_0) (hc0_0 : l0_0.length ≤ c0_0) (hr2_0 : Kd.C (Kd.int .i64) w A2_0 l2_0.length l2_0) (hc2_0 : l2_0.length ≤ c2_0) (h : Xal.f k l0_0 a1 l2_0 = some (r1, r2)) :
  Calls Try.prog 39 #[.agg #[.slice A0_0 l0_0.length c0_0], .int .i64 a1, .agg #[.slice A2_0 l2_0.length c2_0]] w fun e w' => ∃ v0_ : Value, e = .returned (.tuple #[.agg #[v0_], .int .i64 r2]) ∧ Kd.R (Kd.int .i64) 2 w' w.heap.size (fun _ => True) v0_ r1 ∧ Below w.heap.size w w' := by
 have hu26 := Try.underlying26; have av := A_ hr0_0; have aw := A_ hc0_0; clear hr0_0 hc0_0; have ax := A_ hr2_0; have ay := A_ hc2_0; clear hr2_0 hc2_0; have HB := A_ (Below.refl w.heap.size w); unfold Xal.f at h; have H := h; clear h; obtain ⟨aF, az⟩ : ∃ y_ : List Int, y_ = (([a1] : List Int)) := ⟨_, rfl⟩; replace H : ((Xi.f k l0_0 aF).bind fun aB => ((Xw.f k l2_0).bind fun aC => (if aC = true then (Xal.j0 k a1 aB l0_0 l2_0) else (Xal.j0 k a1 1 l0_0 l2_0)))) = some (r1, r2) := eH az H; have aE := A_ az; clear az; replace H := oB H; obtain ⟨aB, A4, H⟩ := H; replace H := oB H; obtain ⟨aC, A5, H⟩ := H; have HC6 := A_ H; clear H
 go_enter Try.func39, Try.ntmps39
 go_upto_if 17 with (first | ((with_reducible refine gD 3 ?_); refine bX 3 #[.slice A0_0 l0_0.length c0_0] 26 HB ?_; clear HB; intro aI w7 aa bj HB hb hg; clear hb hg) | ((with_reducible refine gD 5 ?_); refine bX 5 #[.slice A2_0 l2_0.length c2_0] 26 HB ?_; clear HB; intro aJ w8 ac bk HB hb hg; obtain ⟨ah, ai⟩ := nN hg aa; replace aa := eK aa hb; clear hb hg) | ((with_reducible refine gD 6 ?_); refine bX 6 #[.slice none 0 0] 26 HB ?_; clear HB; intro au w9 ab bl HB hb hg; obtain ⟨ad, ae⟩ := nN hg aa; replace aa := eK aa hb; obtain ⟨af, ag⟩ := nN hg ac; replace ac := eK ac hb; clear hb hg; have bm := ah.out; have bn := ai.out; have bo := ad.out; have bp := ae.out; have aO := bC aa; have aP := bF aa) | ((with_reducible refine gD 13 ?_); refine Kd.R_lit (Kd.int .i64) _ 2 ?hg (N := 13) ?hd (xs := ([a1] : List Int)) (inner := [.int .i64 a1]) (ok := fun _ => True) (okp := fun _ => True) ?hr ?hp (fun _ hk => hk) trivial (Below.refl _ _) (Nat.le_refl _) (by simp) ?_; (case hd => rfl); (case hg => rfl); (case hr => first | (go_simp; done) | (go_simp; rfl)); (case hp => exact (Reps.one (show Kd.M (Kd.int .i64) _ _ _ a1 [.int .i64 a1] from rfl) (Reps.none _ _))); intro b5 w13 ho14 hb hg_ hnew_; clear hg_ hnew_; (first | rw [← aE.out] at ho14 | (simp only [Int.reduceToNat] at ho14; rw [← aE.out] at ho14)); have aq := eV ho14 HB; replace aa := eK aa hb; replace ac := eK ac hb; replace ab := eK ab hb; replace HB := eS HB hb; clear hb ho14; obtain ⟨bb, bd, be⟩ := Kd.R_slice aq.out; subst be) | ((with_reducible refine gC 120 ?_); refine gL 14 Try.func120 #[.agg #[.slice A0_0 l0_0.length c0_0], .slice bb aF.length bd] ((Xi.calls k _ _ l0_0 _ _ aF aB _ (cS (Kd.C_below av.out HB.out)) aw.out (cS ((Kd.R_reads' aq.out).2.2)) ((Kd.R_reads' aq.out).2.1) A4.out).mono ?_); rintro e w16 ⟨rfl, hb⟩; refine ⟨_, rfl, ?_⟩; replace aq := eR aq hb; replace aa := eK aa hb; replace ac := eK ac hb; replace ab := eK ab hb; replace HB := eS HB hb; have bq := af.out; have br := ag.out; have aQ := bC ac; have aR := bF ac) | ((with_reducible refine gC 101 ?_); refine gL 16 Try.func101 #[.agg #[.slice A2_0 l2_0.length c2_0]] ((Xw.calls k _ _ l2_0 aC _ (cS (Kd.C_below ax.out HB.out)) ay.out A5.out).mono ?_); rintro e w19 ⟨rfl, hb⟩; refine ⟨_, rfl, ?_⟩; replace aq := eR aq hb; replace aa := eK aa hb; replace ac := eK ac hb; replace ab := eK ab hb; replace HB := eS HB hb))
 (try simp only [Act.put, List.setIfInBounds_toArray, List.set_cons_zero, List.set_cons_succ])
 go_cut [8] (fun v8 wc => ∃ (kq : Nat) (aD : Int), v8 = .int .i64 aD ∧ Aside0 (Xal.j0 kq a1 aD l0_0 l2_0 = some (r1, r2)) ∧ Aside0 (kq ≤ k) ∧ Aside0 (wc.heap[aI]? = some (.cells #[(.slice A0_0 l0_0.length c0_0)] 26 (0, 0))) ∧ Aside0 (wc.heap[aJ]? = some (.cells #[(.slice A2_0 l2_0.length c2_0)] 26 (0, 0))) ∧ Aside0 (wc.heap[au]? = some (.cells #[(.slice none 0 0)] 26 (0, 0))) ∧ Aside0 (Below w.heap.size w wc))
 case first =>
  have H := HC6.out; clear HC6
  by_cases c20 : aC = true
  ·subst c20; rw [if_pos rfl] at H; have H' := A_ H; clear H
   go_wp2
   go_meet
   case rel => exact ⟨_, (aB), Xal.Z1, H', ⟨by first | omega | exact Nat.le_refl _⟩, ⟨eb aa⟩, ⟨eb ac⟩, ⟨eb ab⟩, ⟨el HB⟩⟩
  ·replace c20 := Bool.eq_false_iff.mpr c20; subst c20; rw [if_neg nF] at H; have H' := A_ H; clear H
   go_wp2
   go_meet
   case rel => exact ⟨_, (1), Xal.Z1, H', ⟨by first | omega | exact Nat.le_refl _⟩, ⟨eb aa⟩, ⟨eb ac⟩, ⟨eb ab⟩, ⟨el HB⟩⟩
 case rest =>
  clear HC6; obtain ⟨kq, aD, rfl, HA, HJ5, aa, ac, ab, HB⟩ := hcut
  cases kq with
  | zero => exact absurd HA.out (by simp [Xal.j0])
  | succ kj5 =>
   have H := HA.out; clear HA; simp only [Xal.j0] at H
   by_cases c21 : aD = 0
   ·rw [if_pos c21] at H; obtain ⟨aK, aL⟩ := bT c21; clear c21; replace H := oB H; obtain ⟨⟨aA, bf⟩, A22, H⟩ := H; (try dsimp only at H)
    by_cases c23 : bf = true
    ·subst c23; rw [if_pos rfl] at H; simp only [Option.some.injEq, Prod.mk.injEq] at H; obtain ⟨rfl, rfl⟩ := H; have bs := ah.out; have bt := ai.out; have bu := ad.out; have bv := ae.out; have aS := bC aa; have aT := bF aa; have bw := af.out; have bz := ag.out; have aU := bC ac; have aV := bF ac
     go_wp2_with (first | ((with_reducible refine gC 133 ?_); refine gL 26 Try.func133 #[.agg #[.slice A0_0 l0_0.length c0_0], .int .i64 a1, .agg #[.slice A2_0 l2_0.length c2_0]] ((Xaa.calls kj5 _ _ l0_0 a1 _ _ l2_0 aA true _ (cS (Kd.C_below av.out HB.out)) aw.out (cS (Kd.C_below ax.out HB.out)) ay.out A22.out).mono ?_); rintro e w29 ⟨bg, rfl, ho0, hb⟩; refine ⟨_, rfl, ?_⟩; have ap := eV ho0 HB; replace aa := eK aa hb; replace ac := eK ac hb; replace ab := eK ab hb; replace HB := eS HB hb) | ((with_reducible refine gD 9 ?_); refine bX 9 #[.slice none 0 0] 26 HB ?_; clear HB; intro aM w30 ar aN HB hb hg; replace ap := eR ap hb; obtain ⟨aj, ak⟩ := nN hg aa; replace aa := eK aa hb; obtain ⟨al, am⟩ := nN hg ac; replace ac := eK ac hb; obtain ⟨an, ao⟩ := nN hg ab; replace ab := eK ab hb; clear hb hg; obtain ⟨aG, aH, bh⟩ := Kd.R_slice ap.out; subst bh; have bA := ak.out; have bB := aj.out; have bE := am.out; have bG := al.out; have bH := ao.out; have bI := an.out; have aW := bC ar; have aX := bF ar; have aY := bC ab; have aZ := bF ab))
     refine bodyPost_ret (results_ct rfl _ _ au 26 #[.slice aG aA.length aH] (0, 0) _ rfl Xal.Z0 Try.underlying26 rfl (by kernel_rfl)) rfl ?_; exact ⟨_, er, rX (Kd.R_mono (rG ap.out ar ab (.slice aG aA.length aH) (.slice aG aA.length aH)) (fun _ hk => trivial)), el HB⟩
    ·replace c23 := Bool.eq_false_iff.mpr c23; subst c23; rw [if_neg nF] at H; simp only [Option.some.injEq, Prod.mk.injEq] at H; obtain ⟨rfl, rfl⟩ := H; have bJ := ah.out; have bK := ai.out; have bO := ad.out; have bQ := ae.out; have a0 := bC aa; have a2 := bF aa; have bR := af.out; have bS := ag.out; have a3 := bC ac; have a4 := bF ac
     go_wp2_with (first | ((with_reducible refine gC 133 ?_); refine gL 26 Try.func133 #[.agg #[.slice A0_0 l0_0.length c0_0], .int .i64 a1, .agg #[.slice A2_0 l2_0.length c2_0]] ((Xaa.calls kj5 _ _ l0_0 a1 _ _ l2_0 aA false _ (cS (Kd.C_below av.out HB.out)) aw.out (cS (Kd.C_below ax.out HB.out)) ay.out A22.out).mono ?_); rintro e w42 ⟨bg, rfl, ho0, hb⟩; refine ⟨_, rfl, ?_⟩; have ap := eV ho0 HB; replace aa := eK aa hb; replace ac := eK ac hb; replace ab := eK ab hb; replace HB := eS HB hb) | ((with_reducible refine gD 9 ?_); refine bX 9 #[.slice none 0 0] 26 HB ?_; clear HB; intro aM w43 ar aN HB hb hg; replace ap := eR ap hb; obtain ⟨aj, ak⟩ := nN hg aa; replace aa := eK aa hb; obtain ⟨al, am⟩ := nN hg ac; replace ac := eK ac hb; obtain ⟨an, ao⟩ := nN hg ab; replace ab := eK ab hb; clear hb hg; obtain ⟨b6, b7, bi⟩ := Kd.R_slice ap.out; subst bi; have bU := ak.out; have bV := aj.out; have bW := am.out; have bY := al.out; have bZ := ao.out; have b0 := an.out; have a5 := bC ar; have a6 := bF ar; have a7 := bC ab; have a8 := bF ab))
     refine bodyPost_ret (results_ct rfl _ _ au 26 #[.slice none 0 0] (0, 0) _ rfl Xal.Z0 Try.underlying26 rfl (by kernel_rfl)) rfl ?_; exact ⟨_, er, by first | exact Kd.R_nil _ _ _ _ _ | exact Kd.N_nil _ _ _ _ _ | exact Kd.V_nil _ _ _ _ _ | exact Kd.Q_nil _ _ _ _ _ | exact Kd.S_nil _ _ _ _ _, el HB⟩
   ·rw [if_neg c21] at H; obtain ⟨aK, aL⟩ := bN c21; simp only [Option.some.injEq, Prod.mk.injEq] at H; obtain ⟨rfl, rfl⟩ := H; have b1 := ae.out; have b2 := ad.out; have b3 := ag.out; have b4 := af.out; have a9 := bC ab; have ba := bF ab
    go_wp2
    refine bodyPost_ret (results_ct rfl _ _ au 26 #[.slice none 0 0] (0, 0) _ rfl (eP ab) Try.underlying26 rfl (by kernel_rfl)) rfl ?_; exact ⟨_, er, by first | exact Kd.R_nil _ _ _ _ _ | exact Kd.N_nil _ _ _ _ _ | exact Kd.V_nil _ _ _ _ _ | exact Kd.Q_nil _ _ _ _ _ | exact Kd.S_nil _ _ _ _ _, el HB⟩

/-! ### slices_Clone_int64_int64: function 171 -/
def Xbp.f (l0 : List Int) : Option (List Int) := if 0 < l0.length then (if l0.length ≤ 1000000 then some l0 else none) else none
theorem Xbp.calls (A0 : Option Addr) (c0 : Nat) (l0 : List Int) (r : List Int) (w : World) (hr0 : Kd.C (Kd.int .i64) w A0 l0.length l0) (hc0 : l0.length ≤ c0) (h : Xbp.f l0 = some r) :
  Calls Try.prog 171 #[.slice A0 l0.length c0] w fun e w' => ∃ v0_ : Value, e = .returned (v0_) ∧ Kd.R (Kd.int .i64) 2 w' w.heap.size (fun _ => True) v0_ r ∧ Below w.heap.size w w' := by
 unfold Xbp.f at h
 by_cases c1 : 0 < l0.length
 ·rw [if_pos c1] at h
  by_cases c2 : l0.length ≤ 1000000
  ·rw [if_pos c2] at h; obtain rfl := Option.some.inj h; clear h; obtain ⟨ad, e0, _⟩ := Kd.at_int hr0 0 (by omega) (by omega); subst e0; have HR0 := A_ hr0; have HC0 := A_ hc0; have C1 := A_ c1; have C2 := A_ c2; clear hr0 hc0 c1 c2; have q22 : ∀ (w : World) (a : Option Addr) (n c n' c' : Nat), (binOp .eql 24 (.slice a n c) (.slice none n' c')).run Try.prog w = .ok (.bool a.isNone) w := fun w a n c n' c' => Lib.run_eql_slice_nil w _ _ a n c n' c' Try.underlying24
   go_enter Try.func171, Try.ntmps171
   go_wp2_with (first | ((with_reducible refine gD 5 ?_); refine Kd.R_lit (Kd.int .i64) _ 2 ?hg (N := 5) ?hd (xs := ([] : List Int)) (inner := []) (ok := fun _ => True) (okp := fun _ => True) ?hr ?hp (fun _ hk => hk) trivial (Below.refl _ w) (Nat.le_refl _) (by simp) ?_; (case hd => rfl); (case hg => rfl); (case hr => first | (go_simp; done) | (go_simp; rfl)); (case hp => exact (Reps.none _ _)); intro aa w3 ho4 hb hg_ hnew_; clear hg_ hnew_; have HO := A_ ho4; have HB := A_ hb; clear ho4 hb) | ((with_reducible refine gate_builtin (b := .append) (xs := #[.tmp 5, .tmp 6]) rfl ?_); at_builtin; refine Kd.R_append_rows (Kd.int .i64) (w0 := w) w.heap.size rfl (.tmp 5) (.tmp 6) 24 2 (.int .i64 0) 8 rfl Try.underlying24 (by kernel_rfl) rfl (by decide) (by omega) aa [] l0 _ _ _ (fun _ => True) (fun _ => False) rfl rfl ?aO ?aR (fun _ _ h => h) (fun _ h => h.elim) ?aF ?aB ?aS ?aL ?_; (case aR => exact (Kd.C_below HR0.out HB.out)); (case aB => exact HB.out); (case aF => exact (fun _ _ => trivial)); (case aO => exact HO.out); (case aS => exact (below_size HB.out)); (case aL => have := C2.out; simp; omega); intro ab w5 ho hb hg hat; clear hg hat; have ac := A_ ho; have HB2 := A_ hb; clear ho hb))
   go_ret
   exact ⟨_, by first | rfl | (simp; done) | (simp [*]; done), ac.out, HB2.out⟩
  ·rw [if_neg c2] at h
   cases h
 ·rw [if_neg c1] at h
  cases h


/-! ### impl_subtree: function 134 -/
def Xbg.f (k : Nat) (l0 : List Int) (a1 : Int) : Option (List Int) := (Xah.f k l0 a1).bind fun t362 => (if 0 ≤ a1 then (if a1 ≤ t362 then (if t362 ≤ (l0.length : Int) then ((Xbp.f ((l0.take (t362 : Int).toNat).drop (a1 : Int).toNat)).bind fun t364 => (some t364)) else (none)) else (none)) else (none))
theorem Xbg.mono a0 a1 k : LeO (Xbg.f k a0 a1) (Xbg.f (k + 1) a0 a1) := by unfold Xbg.f; have := Xah.mono; exact mW
theorem Xbg.Z0 {p : Prop} (h : p := by first | (with_reducible assumption) | assumption) : p := h
theorem Xbg.calls (k : Nat) (A0 : Option Addr) (c0 : Nat) (l0 : List Int) (a1 : Int) (r : List Int) (w : World) (hr0 : Kd.C (Kd.int .i64) w A0 l0.length l0) (hc0 : l0.length ≤ c0) (h : Xbg.f k l0 a1 = some r) :
  Calls Try.prog 134 #[.slice A0 l0.length c0, .int .i64 a1] w fun e w' => ∃ v0_ : Value, e = .returned (.agg #[v0_]) ∧ Kd.R (Kd.int .i64) 2 w' w.heap.size (fun _ => True) v0_ r ∧ Below w.heap.size w w' := by
 have hu26 := Try.underlying26; have HR0 := A_ hr0; have HC0 := A_ hc0; clear hr0 hc0; have HB := A_ (Below.refl w.heap.size w); unfold Xbg.f at h; have H := h; clear h; replace H := oB H; obtain ⟨ab, A3, H⟩ := H
 by_cases c4 : 0 ≤ a1
 ·rw [if_pos c4] at H; have al := eq_true c4; have am := decide_eq_true c4; clear c4
  replace H := iE H; obtain ⟨an, ao, H⟩ := H
  replace H := iE H; obtain ⟨ap, aq, H⟩ := H; replace H := oB H; obtain ⟨ae, A7, H⟩ := H; obtain rfl := Option.some.inj H
  go_enter Try.func134, Try.ntmps134
  go_wp2_with (first | ((with_reducible refine gD 4 ?_); refine bX 4 #[.slice none 0 0] 26 HB ?_; clear HB; intro ac w8 aa ak HB hb hg; clear hb hg) | ((with_reducible refine gC 132 ?_); refine gL 9 Try.func132 #[.slice A0 l0.length c0, .int .i64 a1] ((Xah.calls k _ _ l0 a1 ab _ (cS (Kd.C_below HR0.out HB.out)) HC0.out A3.out).mono ?_); rintro e w' ⟨rfl, ⟨nd, rfl⟩⟩; refine ⟨_, rfl, ?_⟩; (try (rw [drewN_self w8]; generalize hq_ : World.drewN w8 _ = w8; replace aa : Aside0 (w8.heap[ac]? = some (.cells #[.slice none 0 0] 26 (0, 0))) := ⟨by rw [← hq_]; exact (eb aa)⟩; replace HB : Aside0 (Below w.heap.size w w8) := ⟨by rw [← hq_]; exact (el HB)⟩; clear hq_)); obtain ⟨i09, hi09, _, hsz9, _⟩ := info_parts info2; obtain ⟨A9, hcut9, hA9, hC9⟩ := print_mid_of (P := Try.prog) (Value.int .i64) 0 24 2 .i64 .i64 Try.underlying24 hi09 hsz9 A0 c0 l0 a1 ab (of_decide_eq_true Xbg.Z0) (by first | omega | exact of_decide_eq_true Xbg.Z0) (of_decide_eq_true Xbg.Z0) HC0.out; have HR363 := A_ (Kd.C_of_reads (h1 := fun _ => rfl) (hA9 _ (Kd.reads_of_C HR0.out))); have HC363 := A_ hC9; clear hA9 hC9 hi09 hsz9) | ((with_reducible refine gC 171 ?_); refine goesL_ (some 11) rfl rfl Try.func171 (by kernel_rfl) rfl #[.slice A9 ((l0.take (ab : Int).toNat).drop (a1 : Int).toNat).length (c0 - a1.toNat)] rfl (by (try simp only [List.map_toArray, List.map_cons, List.map_nil]); first | done | (rw [show ((l0.take (ab : Int).toNat).drop (a1 : Int).toNat).length = (ab.toNat - a1.toNat) from (by rw [List.length_drop, List.length_take]; have h_ : (ab : Int) ≤ (l0.length : Int) := of_decide_eq_true Xbg.Z0; omega)] <;> rfl) | rfl | (simp only [List.length_drop, List.length_take]; rfl)) ?_; (with_reducible refine (Xbp.calls _ _ ((l0.take (ab : Int).toNat).drop (a1 : Int).toNat) ae _ ?side1 ?side2 A7.out).mono ?_); (case side1 => exact cS (Kd.C_below HR363.out HB.out)); (case side2 => exact HC363.out); rintro e w10 ⟨ar, rfl, ho0, hb⟩; refine ⟨_, rfl, ?_⟩; have ad := eV ho0 HB; replace aa := eK aa hb; replace HB := eS HB hb; obtain ⟨af, ag, aj⟩ := Kd.R_slice ad.out; subst aj; have ah := bC aa; have ai := bF aa))
  refine bodyPost_ret (results_cell_row rfl _ _ ac 26 #[.slice af ae.length ag] (0, 0) _ rfl (eP aa) Try.underlying26 rfl (by kernel_rfl)) rfl ?_; exact ⟨_, er, rX (Kd.R_mono (rF ad.out aa (.slice af ae.length ag)) (fun _ hk => trivial)), el HB⟩
 ·rw [if_neg c4] at H; exact absurd H (by simp)

/-! ### impl_SubtreeAt: function 40 -/
def Xaz.f (k : Nat) (l0_0 : List Int) (a1 : Int) : Option (List Int × Int) := (Xj.f k l0_0 (([a1] : List Int))).bind fun t372 => (if t372 = 0 then ((Xbg.f k l0_0 a1).bind fun t373 => (some (t373, 0))) else (some (([] : List Int), t372)))
theorem Xaz.mono a0 a1 k : LeO (Xaz.f k a0 a1) (Xaz.f (k + 1) a0 a1) := by unfold Xaz.f; have := Xbg.mono; have := Xj.mono; exact mW
theorem Xaz.Z0 {p : Prop} (h : p := by exact eP ab) : p := h
theorem Xaz.calls (k : Nat) (A0_0 : Option Addr) (c0_0 : Nat) (l0_0 : List Int) (a1 : Int) (r1 : List Int) (r2 : Int) (w : World) (hr0_0 : Kd.C (Kd.int .i64) w A0_0 l0_0.length l0_0) (hc0_0 : l0_0.length ≤ c0_0) (h : Xaz.f k l0_0 a1 = some (r1, r2)) :
  Calls Try.prog 40 #[.agg #[.slice A0_0 l0_0.length c0_0], .int .i64 a1] w fun e w' => ∃ v0_ : Value, e = .returned (.tuple #[.agg #[v0_], .int .i64 r2]) ∧ Kd.R (Kd.int .i64) 2 w' w.heap.size (fun _ => True) v0_ r1 ∧ Below w.heap.size w w' := by
 have hu26 := Try.underlying26; have ah := A_ hr0_0; have ai := A_ hc0_0; clear hr0_0 hc0_0; have HB := A_ (Below.refl w.heap.size w); unfold Xaz.f at h; have H := h; clear h; obtain ⟨aj, ak⟩ : ∃ y_ : List Int, y_ = (([a1] : List Int)) := ⟨_, rfl⟩; replace H : ((Xj.f k l0_0 aj).bind fun ag => (if ag = 0 then ((Xbg.f k l0_0 a1).bind fun al => (some (al, 0))) else (some (([] : List Int), ag)))) = some (r1, r2) := eH ak H; have af := A_ ak; clear ak; replace H := oB H; obtain ⟨ag, A3, H⟩ := H
 by_cases c4 : ag = 0
 ·rw [if_pos c4] at H; obtain ⟨aD, aE⟩ := bT c4; clear c4; replace H := oB H; obtain ⟨al, A5, H⟩ := H; simp only [Option.some.injEq, Prod.mk.injEq] at H; obtain ⟨rfl, rfl⟩ := H
  go_enter Try.func40, Try.ntmps40
  go_wp2_with (first | ((with_reducible refine gD 2 ?_); refine bX 2 #[.slice A0_0 l0_0.length c0_0] 26 HB ?_; clear HB; intro ao w6 aa ap HB hb hg; clear hb hg) | ((with_reducible refine gD 4 ?_); refine bX 4 #[.slice none 0 0] 26 HB ?_; clear HB; intro am w7 ab aq HB hb hg; obtain ⟨ad, ae⟩ := nN hg aa; replace aa := eK aa hb; clear hb hg; have aR := ad.out; have aS := ae.out; have aF := bC aa; have aG := bF aa) | ((with_reducible refine gD 9 ?_); refine Kd.R_lit (Kd.int .i64) _ 2 ?hg (N := 9) ?hd (xs := ([a1] : List Int)) (inner := [.int .i64 a1]) (ok := fun _ => True) (okp := fun _ => True) ?hr ?hp (fun _ hk => hk) trivial (Below.refl _ _) (Nat.le_refl _) (by simp) ?_; (case hd => rfl); (case hg => rfl); (case hr => first | (go_simp; done) | (go_simp; rfl)); (case hp => exact (Reps.one (show Kd.M (Kd.int .i64) _ _ _ a1 [.int .i64 a1] from rfl) (Reps.none _ _))); intro aH w10 ho11 hb hg_ hnew_; clear hg_ hnew_; (first | rw [← af.out] at ho11 | (simp only [Int.reduceToNat] at ho11; rw [← af.out] at ho11)); have ac := eV ho11 HB; replace aa := eK aa hb; replace ab := eK ab hb; replace HB := eS HB hb; clear hb ho11; obtain ⟨aI, aJ, aK⟩ := Kd.R_slice ac.out; subst aK) | ((with_reducible refine gC 117 ?_); refine gL 10 Try.func117 #[.agg #[.slice A0_0 l0_0.length c0_0], .slice aI aj.length aJ] ((Xj.calls k _ _ l0_0 _ _ aj ag _ (cS (Kd.C_below ah.out HB.out)) ai.out (cS ((Kd.R_reads' ac.out).2.2)) ((Kd.R_reads' ac.out).2.1) A3.out).mono ?_); rintro e w13 ⟨rfl, hb⟩; refine ⟨_, rfl, ?_⟩; replace ac := eR ac hb; replace aa := eK aa hb; replace ab := eK ab hb; replace HB := eS HB hb; have av := bC aa; have aw := bF aa) | ((with_reducible refine gC 134 ?_); refine gL 18 Try.func134 #[.slice A0_0 l0_0.length c0_0, .int .i64 a1] ((Xbg.calls k _ _ l0_0 a1 al _ (cS (Kd.C_below ah.out HB.out)) ai.out A5.out).mono ?_); rintro e w15 ⟨aT, rfl, ho0, hb⟩; refine ⟨_, rfl, ?_⟩; have an := A_ (Kd.R_lower (Kd.R_new' ho0 (Kd.R_lt (ea ac))) (below_size (el HB))); replace ac := eE ac ho0 hb; replace aa := eK aa hb; replace ab := eK ab hb; replace HB := eS HB hb; obtain ⟨ar, au, aL⟩ := Kd.R_slice an.out; subst aL; have ax := bC ab; have ay := bF ab))
  refine bodyPost_ret (results_ct rfl _ _ am 26 #[.slice ar al.length au] (0, 0) _ rfl Xaz.Z0 Try.underlying26 rfl (by kernel_rfl)) rfl ?_; exact ⟨_, er, rX (Kd.R_mono (rF an.out ab (.slice ar al.length au)) (fun _ hk => trivial)), el HB⟩
 ·rw [if_neg c4] at H; obtain ⟨aD, aE⟩ := bN c4; simp only [Option.some.injEq, Prod.mk.injEq] at H; obtain ⟨rfl, rfl⟩ := H
  go_enter Try.func40, Try.ntmps40
  go_wp2_with (first | ((with_reducible refine gD 2 ?_); refine bX 2 #[.slice A0_0 l0_0.length c0_0] 26 HB ?_; clear HB; intro ao w18 aa ap HB hb hg; clear hb hg) | ((with_reducible refine gD 4 ?_); refine bX 4 #[.slice none 0 0] 26 HB ?_; clear HB; intro am w19 ab aq HB hb hg; obtain ⟨ad, ae⟩ := nN hg aa; replace aa := eK aa hb; clear hb hg; have aP := ad.out; have aQ := ae.out; have az := bC aa; have aA := bF aa) | ((with_reducible refine gD 9 ?_); refine Kd.R_lit (Kd.int .i64) _ 2 ?hg (N := 9) ?hd (xs := ([a1] : List Int)) (inner := [.int .i64 a1]) (ok := fun _ => True) (okp := fun _ => True) ?hr ?hp (fun _ hk => hk) trivial (Below.refl _ _) (Nat.le_refl _) (by simp) ?_; (case hd => rfl); (case hg => rfl); (case hr => first | (go_simp; done) | (go_simp; rfl)); (case hp => exact (Reps.one (show Kd.M (Kd.int .i64) _ _ _ a1 [.int .i64 a1] from rfl) (Reps.none _ _))); intro aH w22 ho23 hb hg_ hnew_; clear hg_ hnew_; (first | rw [← af.out] at ho23 | (simp only [Int.reduceToNat] at ho23; rw [← af.out] at ho23)); have ac := eV ho23 HB; replace aa := eK aa hb; replace ab := eK ab hb; replace HB := eS HB hb; clear hb ho23; obtain ⟨aM, aN, aO⟩ := Kd.R_slice ac.out; subst aO) | ((with_reducible refine gC 117 ?_); refine gL 10 Try.func117 #[.agg #[.slice A0_0 l0_0.length c0_0], .slice aM aj.length aN] ((Xj.calls k _ _ l0_0 _ _ aj ag _ (cS (Kd.C_below ah.out HB.out)) ai.out (cS ((Kd.R_reads' ac.out).2.2)) ((Kd.R_reads' ac.out).2.1) A3.out).mono ?_); rintro e w25 ⟨rfl, hb⟩; refine ⟨_, rfl, ?_⟩; replace ac := eR ac hb; replace aa := eK aa hb; replace ab := eK ab hb; replace HB := eS HB hb; have aB := bC ab; have aC := bF ab))
  refine bodyPost_ret (results_ct rfl _ _ am 26 #[.slice none 0 0] (0, 0) _ rfl Xaz.Z0 Try.underlying26 rfl (by kernel_rfl)) rfl ?_; exact ⟨_, er, by first | exact Kd.R_nil _ _ _ _ _ | exact Kd.N_nil _ _ _ _ _ | exact Kd.V_nil _ _ _ _ _ | exact Kd.Q_nil _ _ _ _ _ | exact Kd.S_nil _ _ _ _ _, el HB⟩

/-! ### impl_kidsOf: function 118 -/
def Xam.l0 : Nat → List Int → List Int → Int → Int → Int → Option (List Int)
  | 0, _, _, _, _, _ => none
  | k + 1, x0, x5, x6, x13, x14 => if x14 < x13 then (if x5.length < 17592186044416 then ((Xah.f k x0 x6).bind fun t383 => (Xam.l0 k x0 (x5 ++ [x6]) t383 x13 (wrap64 (x14 + 1)))) else (none)) else (some x5)
def Xam.f (k : Nat) (l0 : List Int) (a1 : Int) : Option (List Int) := if 0 ≤ a1 then (if a1 < (l0.length : Int) then (Xam.l0 k l0 (([] : List Int)) (wrap64 (a1 + 1)) (rd l0 a1) 0) else (none)) else (none)
theorem Xam.mono_l : ∀ k, (∀ y0 y1 y2 y3 y4, LeO (Xam.l0 k y0 y1 y2 y3 y4) (Xam.l0 (k + 1) y0 y1 y2 y3 y4))
  | 0 => fun _ _ _ _ _ r h => by simp [Xam.l0] at h
  | k + 1 => by
    have ih0 := Xam.mono_l k
    · intro y0 y1 y2 y3 y4
      unfold Xam.l0
      have := Xah.mono; exact mW
theorem Xam.mono a0 a1 k : LeO (Xam.f k a0 a1) (Xam.f (k + 1) a0 a1) := by have ih0 := Xam.mono_l k; unfold Xam.f; have := Xah.mono; exact mW
theorem Xam.Z0 {p : Prop} (h : p := by first | (with_reducible assumption) | assumption) : p := h
theorem Xam.Z1 {p : Prop} (h : p := by first | rfl | (simp; done) | (simp [*]; done)) : p := h
theorem Xam.calls (k : Nat) (A0 : Option Addr) (c0 : Nat) (l0 : List Int) (a1 : Int) (r : List Int) (w : World) (hr0 : Kd.C (Kd.int .i64) w A0 l0.length l0) (hc0 : l0.length ≤ c0) (h : Xam.f k l0 a1 = some r) :
  Calls Try.prog 118 #[.slice A0 l0.length c0, .int .i64 a1] w fun e w' => ∃ v0_ : Value, e = .returned (v0_) ∧ Kd.R (Kd.int .i64) 2 w' w.heap.size (fun _ => True) v0_ r ∧ Below w.heap.size w w' := by
 have HR0 := A_ hr0; have HC0 := A_ hc0; clear hr0 hc0; have HB := A_ (Below.refl w.heap.size w); unfold Xam.f at h; have H := h; clear h; obtain ⟨aj, ad⟩ : ∃ y_ : List Int, y_ = (([] : List Int)) := ⟨_, rfl⟩; replace H : (if 0 ≤ a1 then (if a1 < (l0.length : Int) then (Xam.l0 k l0 aj (wrap64 (a1 + 1)) (rd l0 a1) 0) else (none)) else (none)) = some r := eH ad H; have ah := A_ ad; clear ad
 by_cases c3 : 0 ≤ a1
 ·rw [if_pos c3] at H; have ar := decide_eq_true c3; clear c3
  replace H := iD H; obtain ⟨au, H⟩ := H; have H' := A_ H; clear H
  go_enter Try.func118, Try.ntmps118
  go_wp2_with (first | ((with_reducible refine gD 7 ?_); refine Kd.R_lit (Kd.int .i64) _ 2 ?hg (N := 7) ?hd (xs := ([] : List Int)) (inner := []) (ok := fun _ => True) (okp := fun _ => True) ?hr ?hp (fun _ hk => hk) trivial (Below.refl _ _) (Nat.le_refl _) (by simp) ?_; (case hd => rfl); (case hg => rfl); (case hr => first | (go_simp; done) | (go_simp; rfl)); (case hp => exact (Reps.none _ _)); intro av w5 ho6 hb hg_ hnew_; clear hg_ hnew_; (first | rw [← ah.out] at ho6 | (simp only [Int.reduceToNat] at ho6; rw [← ah.out] at ho6)); have ak := eV ho6 HB; replace HB := eS HB hb; clear hb ho6; have p379 : 0 ≤ (a1 : Int) := of_decide_eq_true Xam.Z0; have q379 : a1 < (l0.length : Int) := of_decide_eq_true Xam.Z0; obtain ⟨al, e379, aa⟩ := Kd.at_int HR0.out a1 p379 q379; cases e379; replace aa := (HB.out.cell (World.block_lt_of_cell? w _ aa)).trans aa; replace p379 := eq_true p379; replace q379 := eq_true q379))
  go_loopg [5, 6, 14] k (fun kq v5 v6 v14 w' => ∃ (ae : List Int) (ac : Int) (ab : Int), v6 = .int .i64 ac ∧ v14 = .int .i64 ab ∧ Aside0 (Xam.l0 kq l0 ae ac (rd l0 a1) ab = some r) ∧ Aside0 (kq ≤ k) ∧ Aside0 (Kd.R (Kd.int .i64) 2 w' w.heap.size (fun _ => True) v5 ae) ∧ Aside0 (Below w.heap.size w w'))
  case atStart => exact ⟨(aj), (wrap64 (a1 + 1)), (0), Xam.Z1, Xam.Z1, H', ⟨Nat.le_refl _⟩, ⟨ea ak⟩, ⟨el HB⟩⟩
  case round =>
   clear H'
   try clear hx3
   try clear aa
   obtain ⟨ae, ac, ab, rfl, rfl, HA, HK1, ai, HB⟩ := hrel
   cases gk with
   | zero => exact absurd HA.out (by simp [Xam.l0])
   | succ k1 =>
    have H := HA.out; clear HA; simp only [Xam.l0] at H
    by_cases c7 : ab < (rd l0 a1)
    ·rw [if_pos c7] at H; have ap := decide_eq_true c7; clear c7
     replace H := iL H; obtain ⟨aq, H⟩ := H; obtain ⟨am, af⟩ : ∃ y_ : List Int, y_ = (ae ++ [ac]) := ⟨_, rfl⟩; replace H : ((Xah.f k1 l0 ac).bind fun ag => (Xam.l0 k1 l0 am ag (rd l0 a1) (wrap64 (ab + 1)))) = some r := eH af H; have an := A_ af; clear af; replace H := oB H; obtain ⟨ag, A9, H⟩ := H; have H' := A_ H; clear H
     go_wp2_with (first | ((with_reducible refine gate_builtin (b := .append) (xs := #[.tmp 16, .tmp 18]) rfl ?_); at_builtin; refine Kd.R_append (Kd.int .i64) (w0 := w) w.heap.size rfl (.tmp 16) (.tmp 18) 24 2 (.int .i64 0) 8 rfl Try.underlying24 info2 rfl (by decide) (by omega) u5 ae ac [.int .i64 ac] (fun _ => True) (fun _ => False) rfl rfl ?aP (fun _ hk => hk.elim) ?aF ?aO ?aB ?aS ?aL ?_; (case aP => exact rfl); (case aB => exact (el HB)); (case aF => exact (fun _ _ => trivial)); (case aO => exact (ea ai)); (case aS => exact (below_size (el HB))); (case aL => have := aq.out; omega); intro aw w10 ho hb hg hat; rw [← an.out] at ho; replace HB := A_ hb; have ao := A_ ho; clear ai; clear ho hb hg hat) | ((with_reducible refine gC 132 ?_); refine gL 22 Try.func132 #[.slice (some al) l0.length c0, .int .i64 ac] ((Xah.calls k1 _ _ l0 ac ag _ (cS (Kd.C_below HR0.out HB.out)) HC0.out A9.out).mono ?_); rintro e w' ⟨rfl, ⟨nd, rfl⟩⟩; refine ⟨_, rfl, ?_⟩))
     go_roundg k1
     case measure => have := HK1.out; omega
     case rel => exact ⟨(am), (ag), (wrap64 (ab + 1)), Xam.Z1, Xam.Z1, H', ⟨by have := HK1.out; omega⟩, ⟨es ao⟩, ⟨el HB⟩⟩
    ·rw [if_neg c7] at H; have ap := decide_eq_false c7; clear c7; obtain rfl := Option.some.inj H
     go_wp2
     go_ret
     exact ⟨_, er, rX (ai.out), el HB⟩
 ·rw [if_neg c3] at H; exact absurd H (by simp)

/-! ### bits_Mul32: function 177 -/
def bits_Mul32.f (a0 : Int) (a1 : Int) : Option (Int × Int) := some (((IntKind.u64.wrap ((IntKind.u64.wrap (a0)) * (IntKind.u64.wrap (a1)))) / 4294967296) % 4294967296, (IntKind.u64.wrap ((IntKind.u64.wrap (a0)) * (IntKind.u64.wrap (a1)))) % 4294967296)
theorem bits_Mul32.calls (a0 : Int) (a1 : Int) (r1 : Int) (r2 : Int) (w : World) (h : bits_Mul32.f a0 a1 = some (r1, r2)) :
  Calls Try.prog 177 #[.int .u32 a0, .int .u32 a1] w fun e w' => e = .returned (.tuple #[.int .u32 r1, .int .u32 r2]) ∧ Drawn0 w w' := by
 unfold bits_Mul32.f at h; have H := h; clear h; simp only [Option.some.injEq, Prod.mk.injEq] at H; obtain ⟨rfl, rfl⟩ := H
 go_enter Try.func177, Try.ntmps177
 go_wp2
 go_ret2
 exact ⟨by first | rfl | (simp; done) | (simp [*]; done), by repeat (first | exact Drawn0.refl _ | apply Drawn0.step)⟩

/-! ### bits_Mul64: function 178 -/
def bits_Mul64.f (a0 : Int) (a1 : Int) : Option (Int × Int) := some (IntKind.u64.wrap ((IntKind.u64.wrap ((IntKind.u64.wrap ((a0 / 4294967296) * (a1 / 4294967296))) + ((IntKind.u64.wrap ((IntKind.u64.wrap ((a0 / 4294967296) * (Go.bits .and .u64 a1 4294967295))) + ((IntKind.u64.wrap ((Go.bits .and .u64 a0 4294967295) * (Go.bits .and .u64 a1 4294967295))) / 4294967296))) / 4294967296))) + ((IntKind.u64.wrap ((Go.bits .and .u64 (IntKind.u64.wrap ((IntKind.u64.wrap ((a0 / 4294967296) * (Go.bits .and .u64 a1 4294967295))) + ((IntKind.u64.wrap ((Go.bits .and .u64 a0 4294967295) * (Go.bits .and .u64 a1 4294967295))) / 4294967296))) 4294967295) + (IntKind.u64.wrap ((Go.bits .and .u64 a0 4294967295) * (a1 / 4294967296))))) / 4294967296)), IntKind.u64.wrap (a0 * a1))
theorem bits_Mul64.calls (a0 : Int) (a1 : Int) (r1 : Int) (r2 : Int) (w : World) (h : bits_Mul64.f a0 a1 = some (r1, r2)) :
  Calls Try.prog 178 #[.int .u64 a0, .int .u64 a1] w fun e w' => e = .returned (.tuple #[.int .u64 r1, .int .u64 r2]) ∧ Drawn0 w w' := by
 unfold bits_Mul64.f at h; have H := h; clear h; simp only [Option.some.injEq, Prod.mk.injEq] at H; obtain ⟨rfl, rfl⟩ := H
 go_enter Try.func178, Try.ntmps178
 go_wp2
 go_ret2
 exact ⟨by first | rfl | (simp; done) | (simp [*]; done), by repeat (first | exact Drawn0.refl _ | apply Drawn0.step)⟩

/-! ### bits_Mul: function 175 -/
def bits_Mul.f (a0 : Int) (a1 : Int) : Option (Int × Int) := (bits_Mul64.f a0 a1).bind fun bt384 => (some (bt384.1, bt384.2))
theorem bits_Mul.calls (a0 : Int) (a1 : Int) (r1 : Int) (r2 : Int) (w : World) (h : bits_Mul.f a0 a1 = some (r1, r2)) :
  Calls Try.prog 175 #[.int .u64 a0, .int .u64 a1] w fun e w' => e = .returned (.tuple #[.int .u64 r1, .int .u64 r2]) ∧ Drawn0 w w' := by
 unfold bits_Mul.f at h; have H := h; clear h; replace H := oB H; obtain ⟨⟨aa, ab⟩, A3, H⟩ := H; (try dsimp only at H); simp only [Option.some.injEq, Prod.mk.injEq] at H; obtain ⟨rfl, rfl⟩ := H
 go_enter Try.func175, Try.ntmps175
 go_wp2_with (first | ((with_reducible refine gC 178 ?_); refine gL 25 Try.func178 #[.int .u64 a0, .int .u64 a1] ((bits_Mul64.calls a0 a1 aa ab _ A3.out).mono ?_); rintro e w' ⟨rfl, ⟨nd, rfl⟩⟩; refine ⟨_, rfl, ?_⟩))
 go_ret2
 exact ⟨by first | rfl | (simp; done) | (simp [*]; done), by repeat (first | exact Drawn0.refl _ | apply Drawn0.step)⟩

/-! ### slices_Repeat_int64_int64: function 167 -/
def Xbb.f (l0 : List Int) (a1 : Int) : Option (List Int) := if l0.length = 1 then (if 1 ≤ a1 then (if a1 ≤ 24 then some (List.replicate a1.toNat (rd l0 0)) else none) else none) else none
theorem Xbb.mul : ((List.range 25).all fun n => decide (bits_Mul.f 1 (n : Int) = some (0, (n : Int)))) = true := by decide +kernel
theorem Xbb.calls (A0 : Option Addr) (c0 : Nat) (l0 : List Int) (a1 : Int) (r : List Int) (w : World) (hr0 : Kd.C (Kd.int .i64) w A0 l0.length l0) (hc0 : l0.length ≤ c0) (h : Xbb.f l0 a1 = some r) :
  Calls Try.prog 167 #[.slice A0 l0.length c0, .int .i64 a1] w fun e w' => ∃ v0_ : Value, e = .returned (v0_) ∧ Kd.R (Kd.int .i64) 2 w' w.heap.size (fun _ => True) v0_ r ∧ Below w.heap.size w w' := by
 unfold Xbb.f at h
 by_cases c1 : l0.length = 1
 ·rw [if_pos c1] at h
  by_cases c2 : 1 ≤ a1
  ·rw [if_pos c2] at h
   by_cases c3 : a1 ≤ 24
   ·rw [if_pos c3] at h; obtain rfl := Option.some.inj h; clear h; obtain ⟨n, rfl⟩ : ∃ n : Nat, a1 = n := ⟨a1.toNat, by omega⟩; obtain ⟨x0, rfl⟩ : ∃ x0, l0 = [x0] := by
     match l0, c1 with
     | [x], _ => exact ⟨x, rfl⟩
    obtain ⟨ad, e0, hx⟩ := Kd.at_int hr0 0 (by omega) (by simp); subst e0; have hmul : bits_Mul.f 1 (n : Int) = some (0, (n : Int)) := of_decide_eq_true (List.all_eq_true.1 Xbb.mul n (List.mem_range.2 (by omega))); have HM := A_ hmul; have HX := A_ hx; have HC := A_ hc0; clear hmul hx hr0 hc0 c1; have hn1 : decide ((n : Int) < 0) = false := decide_eq_false (by omega); have hn2 : decide ((9223372036854775807 : Int) < (n : Int)) = false := decide_eq_false (by omega); obtain ⟨i0, hi, hz0, hz1, hz2⟩ := info_parts (show (Try.prog.info? 2).map (fun i => (i.zero, i.size, i.bytes)) = some (some (.int .i64 0), 1, 8) by kernel_rfl); have hsz1 : (Try.prog.info? 2).map (·.size) = some 1 := by kernel_rfl
    go_enter Try.func167, Try.ntmps167
    go_wp2_with (first | (go_at_call 175; (with_reducible refine (bits_Mul.calls 1 n 0 n _ HM.out).mono ?_); rintro e w' ⟨rfl, ⟨nd, rfl⟩⟩) | ((with_reducible refine gD 30 ?_); refine wpList_make_full _ rfl (.tmp 29) (.tmp 29) 24 rfl w.heap.size 2 i0 (.int .i64 0) 1 Try.underlying24 hi hz0 hz1 _ _ _ _ n rfl rfl rfl rfl ?m1 ?m2 ?m3 ?_))
    case m1 => rw [hz2]; omega
    case m2 => unfold maxLen; omega
    case m3 => simp
    intro w1 hown hgr; obtain ⟨_, ⟨hv, _⟩ | ⟨g, cap, cur, hv, hg0, hcells, _, _, hsz, _⟩⟩ := hown
    ·cases hv
    obtain ⟨eg, ecap⟩ : w.heap.size = g ∧ n = cap := by
     simp only [Value.slice.injEq, Option.some.injEq, Addr.mk.injEq, true_and, and_true] at hv
     simpa using hv
    subst ecap; have HV := A_ eg; have HW1 := A_ hgr; have HB : Aside0 (Below w.heap.size w w1) := ⟨(((Below.refl w.heap.size w).trans (show Below w.heap.size w (w.drewN nd) from ⟨rfl, rfl, rfl, Nat.le_refl _, fun _ _ => rfl⟩)).grown hgr (Nat.le_refl _) (fun k hk => by cases hk))⟩; have HX1 : Aside0 (w1.cell? (ad.add 0) = some (Value.int IntKind.i64 x0)) := ⟨hgr.cell (show (w.drewN nd).cell? (ad.add 0) = _ from HX.out) (by simp)⟩; have HG : Hid (w1.heap[w.heap.size]? = some (.cells cur.toList.toArray 2 (0, 0))) := by
     rw [eg]
     simpa [Hid] using hcells
    have HL : Aside0 (cur.toList.length = n) := ⟨by simpa using hsz⟩; clear hcells hv hsz hgr hg0; generalize cur.toList = C0 at HG HL
    go_wp2_with (first | ((with_reducible refine gD 33 ?_); refine wpList_copy_splice rfl (.tmp 31) (.tmp 32) 24 24 rfl 2 Try.underlying24 hsz1 (some ⟨w.heap.size, 0, none⟩) (some ad) n n 1 c0 rfl rfl w.heap.size 0 C0 2 HG [.int .i64 x0] ?s1 ?s2 ?s3 ?s4 w.heap.size w HB.out (Nat.le_refl _) ?_))
    case s1 => simp [Nat.min_def]; omega
    case s2 =>
     intro j v hj
     match j, hj with
     | 0, hj =>
      obtain rfl := Option.some.inj hj; exact HX1.out
    case s3 => have := HL.out; simp; omega
    case s4 => simp [Value.oneCell']
    intro w2 HG2 HB2
    go_wp2
    obtain ⟨HB3⟩ : Aside0 (Below g w w2) := ⟨HB2⟩; have HC1 : ∃ C : List Value, Hid (w2.heap[g]? = some (.cells C.toArray 2 (0, 0))) ∧ C.length = n ∧ C.take 1 = List.replicate 1 (Value.int .i64 x0) := by
     refine ⟨_, HG2, ?_, ?_⟩
     ·rw [length_splice _ _ _ (by have := HL.out; simp; omega)]; exact HL.out
     ·simp [splice]
    have HGB : Aside0 (w.heap.size = g) := ⟨eg⟩; clear HG HG2 HL HX1 HB HB2 eg
    go_loopw [8] (fun v8 wq => ∃ (m : Nat) (C : List Value), v8 = .int .i64 (m : Int) ∧ 1 ≤ m ∧ m ≤ n ∧ Hid (wq.heap[g]? = some (.cells C.toArray 2 (0, 0))) ∧ C.length = n ∧ C.take m = List.replicate m (Value.int .i64 x0) ∧ Hid (Below g w wq)) (fun v8 _ => n - (intOf v8).toNat)
    case atStart =>
     obtain ⟨C, h1, h2, h3⟩ := HC1; exact ⟨1, C, rfl, by omega, by omega, h1, h2, h3, HB3⟩
    case round =>
     clear HC1 HB3; obtain ⟨m, C, rfl, hm1, hmn, HG, hCl, hCt, HB⟩ := hrel
     by_cases hlt : m < n
     ·have hcut1 : ∀ W : World, (Instr.slice 24 (.slice (some ⟨g, 0, none⟩) n n) (some (.int .i64 (m : Int))) none none).run Try.prog W = .ok (.slice (some ⟨g, m, none⟩) (n - m) (n - m)) W := by
       intro W; have := cut_from 24 2 .i64 Try.underlying24 hi 1 hz1 (some ⟨g, 0, none⟩) n n (m : Int) (by omega) (by omega) W; rw [this]; rw [if_neg (by simp; omega)]
       simp [Addr.add]
       omega
      have hcut2 : ∀ W : World, (Instr.slice 24 (.slice (some ⟨g, 0, none⟩) n n) none (some (.int .i64 (m : Int))) none).run Try.prog W = .ok (.slice (some ⟨g, 0, none⟩) m n) W := by
       intro W; have := cut_to 24 2 .i64 Try.underlying24 hi (some ⟨g, 0, none⟩) n n (m : Int) (by omega) (by omega) (by omega) W; rw [this]
       simp
      have hdm : decide ((m : Int) < (n : Int)) = true := decide_eq_true (by omega); obtain ⟨L, hL⟩ : ∃ L, L = Nat.min m (n - m) := ⟨_, rfl⟩; have hL1 : 1 ≤ L ∧ m + L ≤ n ∧ L ≤ m := by rw [hL]; simp only [Nat.min_def]; split <;> omega
      have hlen : (C.take L).length = L := by rw [List.length_take]; omega
      have HCt := A_ hCt; have HCl := A_ hCl; have HL := A_ hL; have hLr : (m : Int) + (L : Int) ≤ 9223372036854775807 := by omega
      clear hCt hCl hL
      go_wp2
      have T1 : ∀ j v, (C.take L)[j]? = some v → wr.drew.cell? ((⟨g, 0, none⟩ : Addr).add j) = some v := by
       intro j v hj; have hjL : j < (C.take L).length := (List.getElem?_eq_some_iff.1 hj).1; have hjC : C[j]? = some v := by
        rw [List.getElem?_take] at hj
        split at hj
        ·exact hj
        ·cases hj
       have hb : ((⟨g, 0, none⟩ : Addr).add j) = ⟨g, j, none⟩ := by
        unfold Addr.add
        split
        ·rename_i h0
         have : j = 0 := by simpa using h0
         rw [this]
        ·simp
       rw [hb]; have e1 : wr.drew.heap[g]? = some (.cells C.toArray 2 (0, 0)) := HG.out
       unfold World.cell?
       simp only [e1]
       simpa using hjC
      have T2 : ∀ v ∈ C.take L, v.oneCell' = true := by
       intro v hv; have h2 : C.take L = List.replicate L (Value.int .i64 x0) := by
        have := congrArg (List.take L) HCt.out; rw [List.take_take, List.take_replicate, Nat.min_eq_left (by omega)] at this; exact this
       rw [h2] at hv; rw [List.eq_of_mem_replicate hv]; rfl
      have HBd : Below g w wr.drew := HB.out.drew; have HGd : wr.drew.heap[g]? = some (.cells C.toArray 2 (0, 0)) := HG.out; refine wp_region_any (by kernel_rfl) ?_
      try (change wpAny _ _ _ _ _ _ _ (World.drew _))
      refine wpAny_take (i := 0) (v := ?_) rfl (by kernel_rfl) (by kernel_rfl) (by kernel_rfl) (fun _ _ _ h => h) (Or.inl ⟨by rfl, ?hy0⟩) ?rest0
      case hy0 =>
       intro W; go_simp
       try with_reducible rfl
      refine wpAny_take (i := 1) (v := ?_) rfl (by kernel_rfl) (by kernel_rfl) (by kernel_rfl) (fun _ _ _ h => h) (Or.inl ⟨by rfl, ?hy1⟩) ?rest1
      case hy1 =>
       intro W; go_simp
       try with_reducible rfl
      refine wpAny_take (i := 2) (v := ?_) rfl (by kernel_rfl) (by kernel_rfl) (by kernel_rfl) (fun _ _ _ h => h) (Or.inl ⟨by rfl, ?hy2⟩) ?rest2
      case hy2 =>
       intro W; go_simp
       try with_reducible rfl
      refine wpAny_take (i := 3) (v := ?_) rfl (by kernel_rfl) (by kernel_rfl) (by kernel_rfl) (fun _ _ _ h => h) (Or.inl ⟨by rfl, ?hy3⟩) ?rest3
      case hy3 =>
       intro W; go_simp
       try with_reducible rfl
      refine wpAny_take (i := 4) (v := ?_) rfl (by kernel_rfl) (by kernel_rfl) (by kernel_rfl) (fun _ _ _ h => h) (Or.inl ⟨by rfl, ?hy4⟩) ?rest4
      case hy4 =>
       intro W; go_simp
       try with_reducible rfl
      refine wpAny_take (i := 5) (v := ?_) rfl (by kernel_rfl) (by kernel_rfl) (by kernel_rfl) (fun _ _ _ h => h) (Or.inl ⟨by rfl, ?hy5⟩) ?rest5
      case hy5 =>
       intro W; go_simp
       try with_reducible rfl
      refine wpAny_take (i := 6) (v := ?_) rfl (by kernel_rfl) (by kernel_rfl) (by kernel_rfl) (fun _ _ _ h => h) (Or.inl ⟨by rfl, ?hy6⟩) ?rest6
      case hy6 =>
       intro W; go_simp
       try with_reducible rfl
      refine wpAny_ready (rs := [7]) (by kernel_rfl) (by simp) ?_; refine AllReady.cons (o := { dst := some 45, op := Op.call { callee := .builtin .copy, args := #[.tmp 41, .tmp 44], argTypes := #[24, 24] }, type := 3, pos := "slices.go:528", after := #[{ on := 3, ground := .data }, { on := 6, ground := .data }], guard := none }) rfl (fun K hK => ?_) AllReady.nil; refine step_copy_splice rfl (.tmp 41) (.tmp 44) 24 24 rfl 2 Try.underlying24 hsz1 (some ⟨g, m, none⟩) (some ⟨g, 0, none⟩) (n - m) (n - m) m n ?hd ?hs g m C 2 HGd (C.take L) (by rw [hlen]; exact HL.out) (fun _ => ⟨rfl, _, rfl, T1⟩) (by rw [hlen, HCl.out]; omega) T2 g w HBd (Nat.le_refl _) ?_
      case hd => go_simp
      case hs => go_simp
      intro w4 HG4 HB4; rw [hlen]; refine hK _ _ ?_; clear hK K; refine wpAny_take (i := 8) (v := ?_) rfl (by kernel_rfl) (by kernel_rfl) (by kernel_rfl) (fun _ _ _ h => h) (Or.inl ⟨by rfl, ?hy8⟩) ?rest8
      case hy8 =>
       intro W; go_simp
       try with_reducible rfl
      refine wpAny_take (i := 9) (v := ?_) rfl (by kernel_rfl) (by kernel_rfl) (by kernel_rfl) (fun _ _ _ h => h) (Or.inl ⟨by rfl, ?hy9⟩) ?rest9
      case hy9 =>
       intro W; go_simp
       try with_reducible rfl
      refine wpAny_done (by kernel_rfl) ?_ _; go_simp; have hw8 : IntKind.i64.wrap ((m : Int) + (L : Int)) = ((m + L : Nat) : Int) := by
       rw [Go.IntWalk.i64_in _ ⟨by omega, hLr⟩]
       omega
      have HW8 := A_ hw8; clear hw8; have HK := A_ (show 1 ≤ m + L ∧ m + L ≤ n ∧ n - (m + L) < n - m by omega); have hsp : (splice C m (C.take L)).length = n := by
       rw [length_splice _ _ _ (by rw [hlen, HCl.out]; omega)]; exact HCl.out
      have hst : (splice C m (C.take L)).take (m + L) = List.replicate (m + L) (Value.int .i64 x0) := by
       have h2 : C.take L = List.replicate L (Value.int .i64 x0) := by
        have := congrArg (List.take L) HCt.out; rw [List.take_take, List.take_replicate, Nat.min_eq_left (by omega)] at this; exact this
       have hcm : (C.take m ++ C.take L).length = m + L := by
        rw [List.length_append, hlen, List.length_take, HCl.out]
        omega
       unfold splice
       rw [← List.append_assoc, List.take_append_of_le_length (Nat.le_of_eq hcm.symm), List.take_of_length_le (Nat.le_of_eq hcm), HCt.out, h2, List.replicate_append_replicate]
      go_wp2
      go_roundw
      case rel =>
       exact ⟨m + L, _, congrArg (Value.int .i64) HW8.out, HK.out.1, HK.out.2.1, HG4, hsp, hst, HB4⟩
      case measure =>
       have hk := HK.out; rw [HW8.out]
       show n - (((m + L : Nat) : Int)).toNat < n - ((m : Int)).toNat
       rw [Int.toNat_natCast, Int.toNat_natCast]; exact hk.2.2
     ·obtain rfl : m = n := by omega
      have hdm : decide ((m : Int) < (m : Int)) = false := decide_eq_false (by omega); have HGB' := HGB; have HCt := A_ hCt; have HCl := A_ hCl; clear hCt hCl
      go_wp2
      go_ret
      have hCe : C = List.replicate m (Value.int .i64 x0) := by
       have := HCt.out; rw [List.take_of_length_le (by rw [HCl.out]; omega)] at this; exact this
      have hrep : List.replicate (m : Int).toNat (rd [x0] 0) = List.replicate m x0 := by simp [rd]
      have hR : Kd.R (Kd.int .i64) 2 wr w.heap.size (fun _ => True) (.slice (some ⟨g, 0, none⟩) m m) (List.replicate m x0) := by
       refine ⟨fun _ _ => trivial, C, ?_, ?_⟩
       ·rw [List.length_replicate]; refine ⟨by rw [HCl.out]; exact (Nat.mul_one m).symm, .inr ⟨g, m, C.toArray, rfl, by rw [HGB.out]; exact Nat.le_refl _, HG.out, Nat.le_refl _, by unfold maxLen; omega, ?_, ?_⟩⟩
        ·show C.toArray.size = m * 1
         rw [List.size_toArray, HCl.out, Nat.mul_one]
        ·show C.take (m * 1) = C
         rw [List.take_of_length_le (by rw [HCl.out, Nat.mul_one]; exact Nat.le_refl _)]
       ·subst hCe; refine ⟨by rw [List.length_replicate, List.length_replicate]; exact (Nat.mul_one m).symm, ?_⟩; intro j p hj; have hjm : j < m := by
         have := (List.getElem?_eq_some_iff.1 hj).1
         simpa using this
        obtain rfl : x0 = p := by
         rw [List.getElem?_replicate, if_pos hjm] at hj; exact Option.some.inj hj
        show ((List.replicate m (Value.int .i64 x0)).drop (j * 1)).take 1 = [Value.int .i64 x0]
        rw [List.drop_replicate, List.take_replicate, Nat.mul_one, Nat.min_eq_left (by omega)]; rfl
      rw [hrep, HGB.out]; rw [HGB.out] at hR; exact ⟨_, rfl, hR, HB.out⟩
   ·rw [if_neg c3] at h
    cases h
  ·rw [if_neg c2] at h
   cases h
 ·rw [if_neg c1] at h
  cases h

end Go.Proofs.Ytocachknmgefaaa.QFnTreeParts
