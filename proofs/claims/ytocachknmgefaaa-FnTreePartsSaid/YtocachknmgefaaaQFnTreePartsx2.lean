/- Functions of the program as plain Lean functions, each with a proof that the machine's call answers what it answers. Conditions: none. -/
import Derived.Test.YtocachknmgefaaaQFnTreePartsx0
import Derived.Test.YtocachknmgefaaaQFnTreePartsx1
namespace Go.Proofs.Ytocachknmgefaaa.QFnTreeParts
open Go.RowKit Go.Proofs.YtocachknmgefaaaW.PrintWords Go.Proofs.YtocachknmgefaaaW.PrintLast Go.Proofs.YtocachknmgefaaaW.PrintMore
attribute [local go_sem] max2_int min2_int max_two min_two max_three min_three max_four min_four   -- for this text's walks alone
set_option linter.unusedVariables false
set_option maxHeartbeats 8000000
set_option maxRecDepth 100000
set_option linter.unusedSimpArgs false

/-! ### spec_l01Bad: function 128 -/
def Xe.f (s0_0 : List Int) (s0_1 : Int) (s0_2 : Int) (l1_0 : List Int) : Option (List Int × Int × Int) := (Xbz.f l1_0).bind fun t208 => ((Xu.f s0_0 s0_1 s0_2 50).bind fun bt212 => (if bt212.1 = 0 then (some (([] : List Int), bt212.2.1, bt212.2.2)) else (if bt212.1 = 1 then ((Xay.f l1_0).bind fun t215 => ((Xu.f s0_0 bt212.2.1 bt212.2.2 t215).bind fun bt216 => ((Xaw.f s0_0 bt216.2.1 bt216.2.2 (([(-1), 0, 1, 2, 25] : List Int))).bind fun bt222 => (if 0 ≤ bt216.1 then (if bt216.1 < (t208.length : Int) then (some ((t208.set (bt216.1 : Int).toNat bt222.1), bt222.2.1, bt222.2.2)) else (none)) else (none))))) else (if bt212.1 = 2 then (if t208.length < 17592186044416 then (some ((t208 ++ [0]), bt212.2.1, bt212.2.2)) else (none)) else (some (l1_0, bt212.2.1, bt212.2.2))))))
def Xe.T6 : Bool × List (List Nat × List Nat) := (true, [([], []), ([0], [0]), ([], []), ([], []), ([3], [3]), ([2, 4, 4], [2, 4]), ([], []), ([], []), ([6, 7, 5], [6, 7]), ([1, 5, 0, 1, 2, 3, 4, 5, 6, 7, 8], [1, 5]), ([9, 8, 8, 0, 1, 2, 3, 4, 5, 6, 7, 8], [8, 9])])
def Xe.B6 : List Nat := [0, 1, 0, 0, 8, 28, 0, 0, 252, 511, 1023]
theorem Xe.tab6 : rtab .any (opsOf Try.f128 6) = Xe.T6 := by kernel_rfl
theorem Xe.bits6 : waitsOk Xe.T6.2 Xe.B6 = true := by kernel_rfl
theorem Xe.Z0 {p : Prop} (h : p := by first | exact HK.out.1 | exact (show Kept w _ (fun k_ => (P1_0_ k_) ∨ k_ = g) from by repeat (first | (with_reducible first | exact HK.out | apply Kept.alloc | apply Kept.drewN | apply Kept.drew | refine Kept.setCell ?_ (.inl (.inr rfl)) _ | refine Kept.setCell ?_ (.inr az.out) _ | refine Kept.setCell ?_ (.inr aE.out) _ | refine Kept.setCell ?_ (.inr aJ.out) _) | exact HK.out)).1) : p := h
theorem Xe.Z1 {p : Prop} (h : p := by first | exact HK.out.1 | exact (show Kept w _ (fun k_ => (P1_0_ k_) ∨ k_ = g) from by repeat (first | (with_reducible first | exact HK.out | apply Kept.alloc | apply Kept.drewN | apply Kept.drew | refine Kept.setCell ?_ (.inl (.inr rfl)) _ | refine Kept.setCell ?_ (.inr az.out) _ | refine Kept.setCell ?_ (.inr aE.out) _) | exact HK.out)).1) : p := h
theorem Xe.Z2 {p : Prop} (h : p := by first | exact HK.out.1 | exact (show Kept w _ (fun k_ => (P1_0_ k_) ∨ k_ = g) from by repeat (first | (with_reducible first | exact HK.out | apply Kept.alloc | apply Kept.drewN | apply Kept.drew | refine Kept.setCell ?_ (.inl (.inr rfl)) _ | refine Kept.setCell ?_ (.inr az.out) _) | exact HK.out)).1) : p := h
theorem Xe.Z3 {p : Prop} (h : p := by repeat (first | (with_reducible first | exact HK.out | apply Kept.alloc | apply Kept.drewN | apply Kept.drew | refine Kept.setCell ?_ (.inl (.inr rfl)) _ | refine Kept.setCell ?_ (.inr az.out) _ | refine Kept.setCell ?_ (.inr aE.out) _ | refine Kept.setCell ?_ (.inr aJ.out) _) | exact HK.out)) : p := h
theorem Xe.Z4 {p : Prop} (h : p := by exact eP ab) : p := h
theorem Xe.Z5 {p : Prop} (h : p := by exact eP ac) : p := h
theorem Xe.Z6 {p : Prop} (h : p := by first | exact HK.out.1 | exact (show Kept w _ (fun k_ => (P1_0_ k_) ∨ k_ = g) from by repeat (first | (with_reducible first | exact HK.out | apply Kept.alloc | apply Kept.drewN | apply Kept.drew | refine Kept.setCell ?_ (.inl (.inr rfl)) _) | exact HK.out)).1) : p := h
theorem Xe.Z7 {p : Prop} (h : p := by repeat (first | (with_reducible first | exact HK.out | apply Kept.alloc | apply Kept.drewN | apply Kept.drew | refine Kept.setCell ?_ (.inl (.inr rfl)) _ | refine Kept.setCell ?_ (.inr az.out) _ | refine Kept.setCell ?_ (.inr aE.out) _) | exact HK.out)) : p := h
theorem Xe.Z8 {p : Prop} (h : p := by repeat (first | (with_reducible first | exact HK.out | apply Kept.alloc | apply Kept.drewN | apply Kept.drew | refine Kept.setCell ?_ (.inl (.inr rfl)) _ | refine Kept.setCell ?_ (.inr az.out) _) | exact HK.out)) : p := h
theorem Xe.Z9 {p : Prop} (h : p := by repeat (first | (with_reducible first | exact HK.out | apply Kept.alloc | apply Kept.drewN | apply Kept.drew | refine Kept.setCell ?_ (.inl (.inr rfl)) _) | exact HK.out)) : p := h
theorem Xe.Z10 {p : Prop} (h : p := by exact rX (Kd.R_mono ad.out (fun _ hk => ⟨hk.1.1.1, ⟨hk.1.2, hk.2⟩⟩))) : p := h
theorem Xe.Z11 {p : Prop} (h : p := by exact rX (Kd.R_mono am.out (fun _ hk => ⟨hk.1.1.1, ⟨hk.1.2, hk.2⟩⟩))) : p := h
theorem Xe.Z12 {p : Prop} (h : p := by exact rX (Kd.R_mono HO1_0.out (fun _ hk => ⟨hk.1.1, ⟨hk.1.2, hk.2⟩⟩))) : p := h
theorem Xe.Z13 {p : Prop} (h : p := by simp only [putAll, Act.put, List.setIfInBounds_toArray, List.set_cons_zero, List.set_cons_succ]) : p := h
theorem Xe.Z14 {p : Prop} (h : p := by first | (with_reducible assumption) | assumption) : p := h
theorem Xe.calls2 (g : Nat) (s0_0 : List Int) (s0_1 : Int) (s0_2 : Int) (P1_0_ : Nat → Prop) (u9000_ : Value) (l1_0 : List Int) (r1 : List Int) (r2 : Int) (r3 : Int) (w0 w : World) (hI : IsS121 w0 w g s0_0 s0_1 s0_2) (hB : Below w0.heap.size w0 w) (ho1_0 : Kd.R (Kd.int .i64) 2 w w0.heap.size P1_0_ u9000_ l1_0) (hT : ∀ k_, P1_0_ k_ → some k_ = (u9000_ : Value).ownBlock) (h : Xe.f s0_0 s0_1 s0_2 l1_0 = some (r1, r2, r3)) :
  Calls Try.prog 128 #[.pointer (some ⟨g, 0, none⟩), .agg #[u9000_]] w fun e w' => ∃ v0_ : Value, e = .returned (.agg #[v0_]) ∧ Kd.R (Kd.int .i64) 2 w' w0.heap.size (fun k_ => (P1_0_ k_ ∨ w.heap.size ≤ k_)) v0_ r1 ∧ IsS121 w0 w' g s0_0 r2 r3 ∧ Below w0.heap.size w0 w' ∧ Kept w w' (fun k_ => False ∨ k_ = g) := by
 have hu26 := Try.underlying26
 have HO1_0 := A_ (show Kd.R (Kd.int .i64) 2 w w0.heap.size (fun k_ => (P1_0_ k_ ∨ w.heap.size ≤ k_)) u9000_ l1_0 from Kd.R_mono ho1_0 (fun k_ hk => (.inl hk)))
 have ae := A_ hI
 have HL := A_ hB.size
 clear hI
 have HK := A_ (Kept.refl w (fun k_ => False ∨ k_ = g))
 have HW0 := A_ hB.size
 have HB := A_ hB
 clear hB
 unfold Xe.f at h; have H := h
 clear h
 replace H := Option.bind_eq_some_iff.mp H
 obtain ⟨ai, A30, H⟩ := H
 (try dsimp only at H)
 have A3 := A_ A30
 clear A30
 replace H := Option.bind_eq_some_iff.mp H
 obtain ⟨⟨aV, aH, aI⟩, A40, H⟩ := H
 (try dsimp only at H)
 have A4 := A_ A40
 clear A40
 by_cases c5 : aV = 0
 ·rw [if_pos c5] at H
  obtain ⟨cg, ch⟩ := bT c5
  clear c5
  simp only [Option.some.injEq, Prod.mk.injEq] at H
  obtain ⟨rfl, rfl, rfl⟩ := H
  obtain ⟨ci, cj, dh⟩ := Kd.R_slice HO1_0.out
  subst dh
  go_enter Try.func128, Try.ntmps128
  go_wp2_with (first | ((with_reducible refine gD 3 ?_); refine bx 3 #[.slice ci l1_0.length cj] 26 ?_; intro ag hg w7 hbox hb; replace HO1_0 := eR HO1_0 hb; have aa := A_ hbox; have az := A_ ((by rw [hg]; exact Xe.Z6 : w.heap.size ≤ ag)); replace HK := A_ (Kept.below (S := (fun k_ => False ∨ k_ = g)) Xe.Z9 hb); have aW := A_ ((by rw [hg]; exact (below_size (em121 HB)) : w0.heap.size ≤ ag)); replace HB := A_ (below_step (em121 HB) hb); have aA := A_ ((by rw [hg]; exact Nat.ne_of_lt (IsS121.lt (show IsS121 w0 _ g s0_0 s0_1 s0_2 from ei121 ae)) : g ≠ ag)); have aj := A_ ((by rw [hg]; exact Nat.ne_of_gt (IsS121.lt (show IsS121 w0 _ g s0_0 s0_1 s0_2 from ei121 ae)) : ag ≠ g)); replace ae := A_ (IsS121.below (ei121 ae) hb); clear hb hbox hg) | ((with_reducible refine gD 4 ?_); refine bx 4 #[.slice none 0 0] 26 ?_; intro af hg w8 hbox hb; replace HO1_0 := eR HO1_0 hb; have ab := A_ hbox; have aE := A_ ((by rw [hg]; exact Xe.Z2 : w.heap.size ≤ af)); replace HK := A_ (Kept.below (S := (fun k_ => False ∨ k_ = g)) Xe.Z8 hb); have aX := A_ ((by rw [hg]; exact (below_size (em121 HB)) : w0.heap.size ≤ af)); replace HB := A_ (below_step (em121 HB) hb); obtain ⟨an, ao⟩ := nN hg aa; replace aa := eK aa hb; have aC := A_ ((by rw [hg]; exact Nat.ne_of_lt (IsS121.lt (show IsS121 w0 _ g s0_0 s0_1 s0_2 from ei121 ae)) : g ≠ af)); have ak := A_ ((by rw [hg]; exact Nat.ne_of_gt (IsS121.lt (show IsS121 w0 _ g s0_0 s0_1 s0_2 from ei121 ae)) : af ≠ g)); replace ae := A_ (IsS121.below (ei121 ae) hb); clear hb hbox hg; have di := an.out; have dj := ao.out; have ct := aj.out; have cu := aA.out; have bB := bC aa; have bE := bF aa) | ((with_reducible refine gC 169 ?_); refine gL 7 Try.func169 #[.agg #[.slice ci l1_0.length cj]] ((Xbz.calls _ _ l1_0 ai _ (cS ((Kd.R_reads' HO1_0.out).2.2)) ((Kd.R_reads' HO1_0.out).2.1) A3.out).mono ?_); rintro e w12 ⟨be, rfl, ho0, hb⟩; refine ⟨_, rfl, ?_⟩; have ad := A_ (Kd.R_lower (Kd.R_new' (Kd.R_newM (M := fun k_ => (P1_0_ k_ ∨ w.heap.size ≤ k_)) ho0 Xe.Z1 (fun k_ h_ => .inr h_)) (Kd.R_lt (ea HO1_0))) (below_size (em121 HB))); replace HO1_0 := eE HO1_0 ho0 hb; replace ae := A_ (IsS121.below (ei121 ae) hb); replace aa := eK aa hb; replace ab := eK ab hb; replace HK := A_ (Kept.below (S := (fun k_ => False ∨ k_ = g)) Xe.Z7 hb); replace HB := A_ (below_step (em121 HB) hb)) | ((with_reducible refine gD 5 ?_); refine bx 5 #[.slice none 0 0] 26 ?_; intro ah hg w13 hbox hb; replace HO1_0 := eR HO1_0 hb; replace ad := eR ad hb; have ac := A_ hbox; have aJ := A_ ((by rw [hg]; exact Xe.Z1 : w.heap.size ≤ ah)); replace HK := A_ (Kept.below (S := (fun k_ => False ∨ k_ = g)) Xe.Z7 hb); have aY := A_ ((by rw [hg]; exact (below_size (em121 HB)) : w0.heap.size ≤ ah)); replace HB := A_ (below_step (em121 HB) hb); obtain ⟨ap, aq⟩ := nN hg aa; replace aa := eK aa hb; obtain ⟨ar, au⟩ := nN hg ab; replace ab := eK ab hb; have aD := A_ ((by rw [hg]; exact Nat.ne_of_lt (IsS121.lt (show IsS121 w0 _ g s0_0 s0_1 s0_2 from ei121 ae)) : g ≠ ah)); have al := A_ ((by rw [hg]; exact Nat.ne_of_gt (IsS121.lt (show IsS121 w0 _ g s0_0 s0_1 s0_2 from ei121 ae)) : ah ≠ g)); replace ae := A_ (IsS121.below (ei121 ae) hb); clear hb hbox hg; obtain ⟨bf, bg, ck⟩ := Kd.R_slice ad.out; subst ck; have cv := aq.out; have cw := ap.out; have cx := au.out; have cy := ar.out; have cz := al.out; have cA := aD.out; have bG := bC ac; have bH := bF ac) | ((with_reducible refine gC 123 ?_); refine gL 9 Try.func123 #[.pointer (some ⟨g, 0, none⟩), .int .i64 50] ((Xu.calls g s0_0 s0_1 s0_2 50 aV aH aI w0 _ (ei121 ae) (em121 HB) A4.out).mono ?_); rintro e w19 ⟨rfl, hi, hb, hk⟩; refine ⟨_, rfl, ?_⟩; replace HO1_0 := A_ (Kd.R_mono (Kd.R_keep (IsS121.apart (show IsS121 w0 _ g s0_0 s0_1 s0_2 from ei121 ae) (rX (Kd.R_mono (rF HO1_0.out ac (.slice bf ai.length bg)) (fun _ h_ => h_.1))) (by decide)) hk (fun _ h => h.2)) (fun _ h => h.1)); replace aa := A_ (KeepBut.blk hk (g' := ag) (o := .cells #[.slice ci l1_0.length cj] 26 (0, 0)) (eb aa) aj.out (by simp)); replace ab := A_ (KeepBut.blk hk (g' := af) (o := .cells #[.slice none 0 0] 26 (0, 0)) (eb ab) ak.out (by simp)); replace ad := A_ (Kd.R_mono (Kd.R_keep (IsS121.apart (show IsS121 w0 _ g s0_0 s0_1 s0_2 from ei121 ae) (rX (Kd.R_mono (rF ad.out ac (.slice bf ai.length bg)) (fun _ h_ => h_.1))) (by decide)) hk (fun _ h => h.2)) (fun _ h => h.1)); replace ac := A_ (KeepBut.blk hk (g' := ah) (o := .cells #[.slice bf ai.length bg] 26 (0, 0)) Xe.Z5 al.out (by simp)); replace HK := A_ (Kept.of_keep (S := (fun k_ => False ∨ k_ = g)) Xe.Z3 hk (.inl (.inr rfl))); replace HB := A_ hb; replace ae := A_ hi; have cB := ak.out; have cC := aC.out; have bI := bC ab; have bJ := bF ab))
  refine bodyPost_ret (results_cell_row rfl _ _ af 26 #[.slice none 0 0] (0, 0) _ rfl Xe.Z4 Try.underlying26 rfl (by kernel_rfl)) rfl ?_
  exact ⟨_, er, by first | exact Kd.R_nil _ _ _ _ _ | exact Kd.N_nil _ _ _ _ _ | exact Kd.V_nil _ _ _ _ _ | exact Kd.Q_nil _ _ _ _ _ | exact Kd.S_nil _ _ _ _ _, ei121 ae, em121 HB, by repeat (first | (with_reducible first | exact HK.out | apply Kept.alloc | apply Kept.drewN | apply Kept.drew | refine Kept.setCell ?_ (.inl (.inr rfl)) _ | refine Kept.setCell ?_ (.inr az.out) _ | refine Kept.setCell ?_ (.inr aE.out) _ | refine Kept.setCell ?_ (.inr aJ.out) _) | exact HK.out)⟩
 ·rw [if_neg c5] at H
  obtain ⟨cg, ch⟩ := bN c5
  by_cases c22 : aV = 1
  ·rw [if_pos c22] at H
   obtain ⟨bo, bp⟩ := bT c22
   clear c22
   replace H := Option.bind_eq_some_iff.mp H
   obtain ⟨aR, A230, H⟩ := H
   (try dsimp only at H)
   have A23 := A_ A230
   clear A230
   replace H := Option.bind_eq_some_iff.mp H
   obtain ⟨⟨av, aM, aN⟩, A240, H⟩ := H
   (try dsimp only at H)
   have A24 := A_ A240
   clear A240
   obtain ⟨aT, aZ⟩ : ∃ y_ : List Int, y_ = (([(-1), 0, 1, 2, 25] : List Int)) := ⟨_, rfl⟩
   replace H : ((Xaw.f s0_0 aM aN aT).bind fun a0 => (if 0 ≤ av then (if av < (ai.length : Int) then (some ((ai.set (av : Int).toNat a0.1), a0.2.1, a0.2.2)) else (none)) else (none))) = some (r1, r2, r3) := eH aZ H
   have aQ := A_ aZ
   clear aZ
   replace H := Option.bind_eq_some_iff.mp H
   obtain ⟨⟨aK, bh, bi⟩, A250, H⟩ := H
   (try dsimp only at H)
   have A25 := A_ A250
   clear A250
   by_cases c26 : 0 ≤ av
   rotate_left
   ·rw [if_neg c26] at H
    exact absurd H (by simp)
   rw [if_pos c26] at H
   have cD := decide_eq_true c26
   clear c26
   by_cases c27 : av < (ai.length : Int)
   rotate_left
   ·rw [if_neg c27] at H
    exact absurd H (by simp)
   rw [if_pos c27] at H
   have cE := decide_eq_true c27
   clear c27
   obtain ⟨bq, a1⟩ : ∃ y_ : List Int, y_ = (ai.set (av : Int).toNat aK) := ⟨_, rfl⟩
   replace H : (some (bq, bh, bi)) = some (r1, r2, r3) := eH a1 H
   have br := A_ a1
   clear a1
   simp only [Option.some.injEq, Prod.mk.injEq] at H
   obtain ⟨rfl, rfl, rfl⟩ := H
   obtain ⟨aw, ax, cl⟩ := Kd.R_slice HO1_0.out
   subst cl
   go_enter Try.func128, Try.ntmps128
   try go_wp2_with (first | ((with_reducible refine gD 3 ?_); refine bx 3 #[.slice aw l1_0.length ax] 26 ?_; intro ag hg w30 hbox hb; replace HO1_0 := eR HO1_0 hb; have aa := A_ hbox; have az := A_ ((by rw [hg]; exact Xe.Z6 : w.heap.size ≤ ag)); replace HK := A_ (Kept.below (S := (fun k_ => False ∨ k_ = g)) Xe.Z9 hb); have aW := A_ ((by rw [hg]; exact (below_size (em121 HB)) : w0.heap.size ≤ ag)); replace HB := A_ (below_step (em121 HB) hb); have aA := A_ ((by rw [hg]; exact Nat.ne_of_lt (IsS121.lt (show IsS121 w0 _ g s0_0 s0_1 s0_2 from ei121 ae)) : g ≠ ag)); have aj := A_ ((by rw [hg]; exact Nat.ne_of_gt (IsS121.lt (show IsS121 w0 _ g s0_0 s0_1 s0_2 from ei121 ae)) : ag ≠ g)); replace ae := A_ (IsS121.below (ei121 ae) hb); clear hb hbox hg) | ((with_reducible refine gD 4 ?_); refine bx 4 #[.slice none 0 0] 26 ?_; intro af hg w31 hbox hb; replace HO1_0 := eR HO1_0 hb; have ab := A_ hbox; have aE := A_ ((by rw [hg]; exact Xe.Z2 : w.heap.size ≤ af)); replace HK := A_ (Kept.below (S := (fun k_ => False ∨ k_ = g)) Xe.Z8 hb); have aX := A_ ((by rw [hg]; exact (below_size (em121 HB)) : w0.heap.size ≤ af)); replace HB := A_ (below_step (em121 HB) hb); obtain ⟨an, ao⟩ := nN hg aa; replace aa := eK aa hb; have aC := A_ ((by rw [hg]; exact Nat.ne_of_lt (IsS121.lt (show IsS121 w0 _ g s0_0 s0_1 s0_2 from ei121 ae)) : g ≠ af)); have ak := A_ ((by rw [hg]; exact Nat.ne_of_gt (IsS121.lt (show IsS121 w0 _ g s0_0 s0_1 s0_2 from ei121 ae)) : af ≠ g)); replace ae := A_ (IsS121.below (ei121 ae) hb); clear hb hbox hg; have cF := an.out; have cG := ao.out; have cH := aj.out; have cI := aA.out; have bK := bC aa; have bO := bF aa) | ((with_reducible refine gC 169 ?_); refine gL 7 Try.func169 #[.agg #[.slice aw l1_0.length ax]] ((Xbz.calls _ _ l1_0 ai _ (cS ((Kd.R_reads' HO1_0.out).2.2)) ((Kd.R_reads' HO1_0.out).2.1) A3.out).mono ?_); rintro e w35 ⟨be, rfl, ho0, hb⟩; refine ⟨_, rfl, ?_⟩; have ad := A_ (Kd.R_lower (Kd.R_new' (Kd.R_newM (M := fun k_ => (P1_0_ k_ ∨ w.heap.size ≤ k_)) ho0 Xe.Z1 (fun k_ h_ => .inr h_)) (Kd.R_lt (ea HO1_0))) (below_size (em121 HB))); replace HO1_0 := eE HO1_0 ho0 hb; replace ae := A_ (IsS121.below (ei121 ae) hb); replace aa := eK aa hb; replace ab := eK ab hb; replace HK := A_ (Kept.below (S := (fun k_ => False ∨ k_ = g)) Xe.Z7 hb); replace HB := A_ (below_step (em121 HB) hb)) | ((with_reducible refine gD 5 ?_); refine bx 5 #[.slice none 0 0] 26 ?_; intro ah hg w36 hbox hb; replace HO1_0 := eR HO1_0 hb; replace ad := eR ad hb; have ac := A_ hbox; have aJ := A_ ((by rw [hg]; exact Xe.Z1 : w.heap.size ≤ ah)); replace HK := A_ (Kept.below (S := (fun k_ => False ∨ k_ = g)) Xe.Z7 hb); have aY := A_ ((by rw [hg]; exact (below_size (em121 HB)) : w0.heap.size ≤ ah)); replace HB := A_ (below_step (em121 HB) hb); obtain ⟨ap, aq⟩ := nN hg aa; replace aa := eK aa hb; obtain ⟨ar, au⟩ := nN hg ab; replace ab := eK ab hb; have aD := A_ ((by rw [hg]; exact Nat.ne_of_lt (IsS121.lt (show IsS121 w0 _ g s0_0 s0_1 s0_2 from ei121 ae)) : g ≠ ah)); have al := A_ ((by rw [hg]; exact Nat.ne_of_gt (IsS121.lt (show IsS121 w0 _ g s0_0 s0_1 s0_2 from ei121 ae)) : ah ≠ g)); replace ae := A_ (IsS121.below (ei121 ae) hb); clear hb hbox hg; obtain ⟨aG, ay, cm⟩ := Kd.R_slice ad.out; subst cm; have cJ := aq.out; have cK := ap.out; have cL := au.out; have cM := ar.out; have cN := al.out; have cO := aD.out; have bQ := bC ac; have bR := bF ac) | ((with_reducible refine gC 123 ?_); refine gL 9 Try.func123 #[.pointer (some ⟨g, 0, none⟩), .int .i64 50] ((Xu.calls g s0_0 s0_1 s0_2 50 aV aH aI w0 _ (ei121 ae) (em121 HB) A4.out).mono ?_); rintro e w42 ⟨rfl, hi, hb, hk⟩; refine ⟨_, rfl, ?_⟩; replace HO1_0 := A_ (Kd.R_mono (Kd.R_keep (IsS121.apart (show IsS121 w0 _ g s0_0 s0_1 s0_2 from ei121 ae) (rX (Kd.R_mono (rF HO1_0.out ac (.slice aG ai.length ay)) (fun _ h_ => h_.1))) (by decide)) hk (fun _ h => h.2)) (fun _ h => h.1)); replace aa := A_ (KeepBut.blk hk (g' := ag) (o := .cells #[.slice aw l1_0.length ax] 26 (0, 0)) (eb aa) aj.out (by simp)); replace ab := A_ (KeepBut.blk hk (g' := af) (o := .cells #[.slice none 0 0] 26 (0, 0)) (eb ab) ak.out (by simp)); replace ad := A_ (Kd.R_mono (Kd.R_keep (IsS121.apart (show IsS121 w0 _ g s0_0 s0_1 s0_2 from ei121 ae) (rX (Kd.R_mono (rF ad.out ac (.slice aG ai.length ay)) (fun _ h_ => h_.1))) (by decide)) hk (fun _ h => h.2)) (fun _ h => h.1)); replace ac := A_ (KeepBut.blk hk (g' := ah) (o := .cells #[.slice aG ai.length ay] 26 (0, 0)) Xe.Z5 al.out (by simp)); replace HK := A_ (Kept.of_keep (S := (fun k_ => False ∨ k_ = g)) Xe.Z3 hk (.inl (.inr rfl))); replace HB := A_ hb; replace ae := A_ hi))
   replace HO1_0 := rD HO1_0
   replace ad := rD ad
   replace aa := bD aa
   replace ab := bD ab
   replace ac := bD ac
   replace ae := A_ (IsS121.drew ae.out)
   replace HK := A_ (Kept.drew HK.out)
   replace HB := wD HB
   refine start_ (n := 11) (S := fun w' => w'.cell? ⟨ah, 0, none⟩ = some (.slice aG ai.length ay) ∧ w'.cell? ⟨ag, 0, none⟩ = some (.slice aw l1_0.length ax)) (ds := [10]) (bM 11 0) (by kernel_rfl) rfl rfl ⟨bc ac, bc aa⟩ (fun hHeld => ?_); refine with_tabW Xe.tab6 Xe.bits6 (fun HT_ HW_ => ?_)
   generalize w42.drew = w43 at HO1_0 ad aa ab ac ae HK HB hHeld ⊢
   refine pA 0 15 (bM 11 1) HT_ ?_
   refine pA 2 17 (bM 11 5) HT_ ?_
   refine pA 6 21 (bM 11 69) HT_ ?_
   refine tA 1 16 (bM 11 71) HT_ HW_ hHeld ?_; refine tA 3 18 (bM 11 79) HT_ HW_ hHeld ?_; refine join_ (σ := Value) 3 (bM 11 255) (fun s_ => [(19, .int .i64 aR), (20, .int .i64 av), (22, s_)]) (fun s_ w' => (w'.cell? ⟨ah, 0, none⟩ = some (.slice aG ai.length ay) ∧ w'.cell? ⟨ag, 0, none⟩ = some (.slice aw l1_0.length ax)) ∧ (Kd.R (Kd.int .i64) 2 w' w0.heap.size (fun k_ => (P1_0_ k_ ∨ w.heap.size ≤ k_) ∧ some k_ ≠ (.slice aG ai.length ay : Value).ownBlock ∧ some k_ ≠ (s_ : Value).ownBlock) (.slice aw l1_0.length ax) l1_0) ∧ (Kd.R (Kd.int .i64) 2 w' w0.heap.size (fun k_ => (P1_0_ k_ ∨ w.heap.size ≤ k_) ∧ some k_ ≠ (.slice aw l1_0.length ax : Value).ownBlock ∧ some k_ ≠ (s_ : Value).ownBlock) (.slice aG ai.length ay) ai) ∧ (Kd.R (Kd.int .i64) 2 w' w0.heap.size (fun k_ => (P1_0_ k_ ∨ w.heap.size ≤ k_) ∧ some k_ ≠ (.slice aw l1_0.length ax : Value).ownBlock ∧ some k_ ≠ (.slice aG ai.length ay : Value).ownBlock) s_ aT) ∧ (w'.heap[ag]? = some (.cells #[.slice aw l1_0.length ax] 26 (0, 0))) ∧ (w'.heap[af]? = some (.cells #[.slice none 0 0] 26 (0, 0))) ∧ (w'.heap[ah]? = some (.cells #[.slice aG ai.length ay] 26 (0, 0))) ∧ (IsS121 w0 w' g s0_0 aM aN) ∧ (Kept w w' (fun k_ => False ∨ k_ = g)) ∧ (Below w0.heap.size w0 w')) ?_ ?_
   rotate_left
   ·intro hCont
    refine two_ (i := 4) (j := 7) (Ni := some 19) (Nj := some 22) (bM 11 95) (bM 11 207) rfl rfl rfl rfl (two_of HT_.out (by kernel_rfl)) (by decide) (by decide) (fun K hK => ?_) (fun K hK => ?_)
    ·refine gS Try.func102 #[.agg #[.slice aw l1_0.length ax]] ((Xay.calls _ _ l1_0 aR _ (cS ((Kd.R_reads' HO1_0.out).2.2)) ((Kd.R_reads' HO1_0.out).2.1) A23.out).mono ?_); rintro e w44 ⟨rfl, hb⟩
     refine ⟨_, rfl, ?_⟩
     replace HO1_0 := eR HO1_0 hb
     replace ad := eR ad hb
     replace ae := A_ (IsS121.below (ei121 ae) hb)
     replace aa := eK aa hb
     replace ab := eK ab hb
     replace ac := eK ac hb
     replace HK := A_ (Kept.below (S := (fun k_ => False ∨ k_ = g)) Xe.Z3 hb)
     replace HB := A_ (below_step (em121 HB) hb)
     refine hK.out _ _ ⟨bc ac, bc aa⟩ (fun hHeld => ?_)
     clear hK K
     refine nM (some 19) ?_; refine two_ (i := 5) (j := 7) (Ni := some 20) (Nj := some 22) (bM 11 127) (bM 11 223) rfl rfl rfl rfl (two_of HT_.out (by kernel_rfl)) (by decide) (by decide) (fun K hK => ?_) (fun K hK => ?_)
     ·refine gS Try.func123 #[.pointer (some ⟨g, 0, none⟩), .int .i64 aR] ((Xu.calls g s0_0 aH aI aR av aM aN w0 _ (ei121 ae) (em121 HB) A24.out).mono ?_); rintro e w45 ⟨rfl, hi, hb, hk⟩
      refine ⟨_, rfl, ?_⟩
      replace HO1_0 := A_ (Kd.R_mono (Kd.R_keep (IsS121.apart (show IsS121 w0 _ g s0_0 aH aI from ei121 ae) (ea HO1_0) (by decide)) hk (fun _ h => h.2)) (fun _ h => h.1))
      replace aa := A_ (KeepBut.blk hk (g' := ag) (o := .cells #[.slice aw l1_0.length ax] 26 (0, 0)) (eb aa) aj.out (by simp))
      replace ab := A_ (KeepBut.blk hk (g' := af) (o := .cells #[.slice none 0 0] 26 (0, 0)) (eb ab) ak.out (by simp))
      replace ad := A_ (Kd.R_mono (Kd.R_keep (IsS121.apart (show IsS121 w0 _ g s0_0 aH aI from ei121 ae) (ea ad) (by decide)) hk (fun _ h => h.2)) (fun _ h => h.1))
      replace ac := A_ (KeepBut.blk hk (g' := ah) (o := .cells #[.slice aG ai.length ay] 26 (0, 0)) (eb ac) al.out (by simp))
      replace HK := A_ (Kept.of_keep (S := (fun k_ => False ∨ k_ = g)) Xe.Z3 hk (.inl (.inr rfl)))
      replace HB := A_ hb
      replace ae := A_ hi
      refine hK.out _ _ ⟨bc ac, bc aa⟩ (fun hHeld => ?_)
      clear hK K
      refine nM (some 20) ?_; refine oN 7 (some 22) (bM 11 255) HT_ (fun K hK => ?_)
      refine Kd.R_lit_step (Kd.int .i64) _ 2 ?hg (N := 22) ?hd (xs := ([(-1), 0, 1, 2, 25] : List Int)) (inner := [.int .i64 (-1), .int .i64 0, .int .i64 1, .int .i64 2, .int .i64 25]) (ok := fun _ => True) (okp := fun _ => True) ?hr ?hp (fun _ hk => hk) trivial (Below.refl _ _) (Nat.le_refl _) (by simp) ?_; (case hd => rfl); (case hg => rfl); (case hr => first | (go_simp; done) | (go_simp; rfl)); (case hp => exact (Reps.one (show Kd.M (Kd.int .i64) _ _ _ (-1) [.int .i64 (-1)] from rfl) (Reps.one (show Kd.M (Kd.int .i64) _ _ _ 0 [.int .i64 0] from rfl) (Reps.one (show Kd.M (Kd.int .i64) _ _ _ 1 [.int .i64 1] from rfl) (Reps.one (show Kd.M (Kd.int .i64) _ _ _ 2 [.int .i64 2] from rfl) (Reps.one (show Kd.M (Kd.int .i64) _ _ _ 25 [.int .i64 25] from rfl) (Reps.none _ _)))))))
      intro aU w46 ho47 hb hg_ hnew_
      clear hg_ hnew_
      (first | rw [← aQ.out] at ho47 | (simp only [Int.reduceToNat] at ho47; rw [← aQ.out] at ho47))
      have am := A_ (Kd.R_lower (Kd.R_new' (Kd.R_new' (Kd.R_newM (M := fun k_ => (P1_0_ k_ ∨ w.heap.size ≤ k_)) ho47 Xe.Z0 (fun k_ h_ => .inr h_)) (Kd.R_lt (ea HO1_0))) (Kd.R_lt (ea ad))) (below_size (em121 HB)))
      replace HO1_0 := eE HO1_0 ho47 hb
      replace ad := eE ad ho47 hb
      replace ae := A_ (IsS121.below (ei121 ae) hb)
      replace aa := eK aa hb
      replace ab := eK ab hb
      replace ac := eK ac hb
      replace HK := A_ (Kept.below (S := (fun k_ => False ∨ k_ = g)) Xe.Z3 hb)
      replace HB := A_ (below_step (em121 HB) hb)
      clear hb ho47
      refine hK.out _ _ ⟨bc ac, bc aa⟩ (fun hHeld => ?_)
      clear hK K
      refine nM (some 22) ?_; exact norm_ Xe.Z13 (hCont (aU) _ ⟨hHeld, Xe.Z12, Xe.Z10, Xe.Z11, (eb aa), (eb ab), (eb ac), (ei121 ae), Xe.Z3, (em121 HB)⟩)
     ·refine Kd.R_lit_step (Kd.int .i64) _ 2 ?hg (N := 22) ?hd (xs := ([(-1), 0, 1, 2, 25] : List Int)) (inner := [.int .i64 (-1), .int .i64 0, .int .i64 1, .int .i64 2, .int .i64 25]) (ok := fun _ => True) (okp := fun _ => True) ?hr ?hp (fun _ hk => hk) trivial (Below.refl _ _) (Nat.le_refl _) (by simp) ?_; (case hd => rfl); (case hg => rfl); (case hr => first | (go_simp; done) | (go_simp; rfl)); (case hp => exact (Reps.one (show Kd.M (Kd.int .i64) _ _ _ (-1) [.int .i64 (-1)] from rfl) (Reps.one (show Kd.M (Kd.int .i64) _ _ _ 0 [.int .i64 0] from rfl) (Reps.one (show Kd.M (Kd.int .i64) _ _ _ 1 [.int .i64 1] from rfl) (Reps.one (show Kd.M (Kd.int .i64) _ _ _ 2 [.int .i64 2] from rfl) (Reps.one (show Kd.M (Kd.int .i64) _ _ _ 25 [.int .i64 25] from rfl) (Reps.none _ _)))))))
      intro aU w45 ho46 hb hg_ hnew_
      clear hg_ hnew_
      (first | rw [← aQ.out] at ho46 | (simp only [Int.reduceToNat] at ho46; rw [← aQ.out] at ho46))
      have am := A_ (Kd.R_lower (Kd.R_new' (Kd.R_new' (Kd.R_newM (M := fun k_ => (P1_0_ k_ ∨ w.heap.size ≤ k_)) ho46 Xe.Z0 (fun k_ h_ => .inr h_)) (Kd.R_lt (ea HO1_0))) (Kd.R_lt (ea ad))) (below_size (em121 HB)))
      replace HO1_0 := eE HO1_0 ho46 hb
      replace ad := eE ad ho46 hb
      replace ae := A_ (IsS121.below (ei121 ae) hb)
      replace aa := eK aa hb
      replace ab := eK ab hb
      replace ac := eK ac hb
      replace HK := A_ (Kept.below (S := (fun k_ => False ∨ k_ = g)) Xe.Z3 hb)
      replace HB := A_ (below_step (em121 HB) hb)
      clear hb ho46
      refine hK.out _ _ ⟨bc ac, bc aa⟩ (fun hHeld => ?_)
      clear hK K
      refine nM (some 22) ?_; refine oN 5 (some 20) (bM 11 255) HT_ (fun K hK => ?_)
      refine gS Try.func123 #[.pointer (some ⟨g, 0, none⟩), .int .i64 aR] ((Xu.calls g s0_0 aH aI aR av aM aN w0 _ (ei121 ae) (em121 HB) A24.out).mono ?_); rintro e w47 ⟨rfl, hi, hb, hk⟩
      refine ⟨_, rfl, ?_⟩
      replace HO1_0 := A_ (Kd.R_mono (Kd.R_keep (IsS121.apart (show IsS121 w0 _ g s0_0 aH aI from ei121 ae) (ea HO1_0) (by decide)) hk (fun _ h => h.2)) (fun _ h => h.1))
      replace aa := A_ (KeepBut.blk hk (g' := ag) (o := .cells #[.slice aw l1_0.length ax] 26 (0, 0)) (eb aa) aj.out (by simp))
      replace ab := A_ (KeepBut.blk hk (g' := af) (o := .cells #[.slice none 0 0] 26 (0, 0)) (eb ab) ak.out (by simp))
      replace ad := A_ (Kd.R_mono (Kd.R_keep (IsS121.apart (show IsS121 w0 _ g s0_0 aH aI from ei121 ae) (ea ad) (by decide)) hk (fun _ h => h.2)) (fun _ h => h.1))
      replace ac := A_ (KeepBut.blk hk (g' := ah) (o := .cells #[.slice aG ai.length ay] 26 (0, 0)) (eb ac) al.out (by simp))
      replace am := A_ (Kd.R_mono (Kd.R_keep (IsS121.apart (show IsS121 w0 _ g s0_0 aH aI from ei121 ae) (ea am) (by decide)) hk (fun _ h => h.2)) (fun _ h => h.1))
      replace HK := A_ (Kept.of_keep (S := (fun k_ => False ∨ k_ = g)) Xe.Z3 hk (.inl (.inr rfl)))
      replace HB := A_ hb
      replace ae := A_ hi
      refine hK.out _ _ ⟨bc ac, bc aa⟩ (fun hHeld => ?_)
      clear hK K
      refine nM (some 20) ?_; exact norm_ Xe.Z13 (hCont (aU) _ ⟨hHeld, Xe.Z12, Xe.Z10, Xe.Z11, (eb aa), (eb ab), (eb ac), (ei121 ae), Xe.Z3, (em121 HB)⟩)
    ·refine Kd.R_lit_step (Kd.int .i64) _ 2 ?hg (N := 22) ?hd (xs := ([(-1), 0, 1, 2, 25] : List Int)) (inner := [.int .i64 (-1), .int .i64 0, .int .i64 1, .int .i64 2, .int .i64 25]) (ok := fun _ => True) (okp := fun _ => True) ?hr ?hp (fun _ hk => hk) trivial (Below.refl _ _) (Nat.le_refl _) (by simp) ?_; (case hd => rfl); (case hg => rfl); (case hr => first | (go_simp; done) | (go_simp; rfl)); (case hp => exact (Reps.one (show Kd.M (Kd.int .i64) _ _ _ (-1) [.int .i64 (-1)] from rfl) (Reps.one (show Kd.M (Kd.int .i64) _ _ _ 0 [.int .i64 0] from rfl) (Reps.one (show Kd.M (Kd.int .i64) _ _ _ 1 [.int .i64 1] from rfl) (Reps.one (show Kd.M (Kd.int .i64) _ _ _ 2 [.int .i64 2] from rfl) (Reps.one (show Kd.M (Kd.int .i64) _ _ _ 25 [.int .i64 25] from rfl) (Reps.none _ _)))))))
     intro aU w44 ho45 hb hg_ hnew_
     clear hg_ hnew_
     (first | rw [← aQ.out] at ho45 | (simp only [Int.reduceToNat] at ho45; rw [← aQ.out] at ho45))
     have am := A_ (Kd.R_lower (Kd.R_new' (Kd.R_new' (Kd.R_newM (M := fun k_ => (P1_0_ k_ ∨ w.heap.size ≤ k_)) ho45 Xe.Z0 (fun k_ h_ => .inr h_)) (Kd.R_lt (ea HO1_0))) (Kd.R_lt (ea ad))) (below_size (em121 HB)))
     replace HO1_0 := eE HO1_0 ho45 hb
     replace ad := eE ad ho45 hb
     replace ae := A_ (IsS121.below (ei121 ae) hb)
     replace aa := eK aa hb
     replace ab := eK ab hb
     replace ac := eK ac hb
     replace HK := A_ (Kept.below (S := (fun k_ => False ∨ k_ = g)) Xe.Z3 hb)
     replace HB := A_ (below_step (em121 HB) hb)
     clear hb ho45
     refine hK.out _ _ ⟨bc ac, bc aa⟩ (fun hHeld => ?_)
     clear hK K
     refine nM (some 22) ?_; refine oN 4 (some 19) (bM 11 223) HT_ (fun K hK => ?_)
     refine gS Try.func102 #[.agg #[.slice aw l1_0.length ax]] ((Xay.calls _ _ l1_0 aR _ (cS ((Kd.R_reads' HO1_0.out).2.2)) ((Kd.R_reads' HO1_0.out).2.1) A23.out).mono ?_); rintro e w46 ⟨rfl, hb⟩
     refine ⟨_, rfl, ?_⟩
     replace HO1_0 := eR HO1_0 hb
     replace ad := eR ad hb
     replace am := eR am hb
     replace ae := A_ (IsS121.below (ei121 ae) hb)
     replace aa := eK aa hb
     replace ab := eK ab hb
     replace ac := eK ac hb
     replace HK := A_ (Kept.below (S := (fun k_ => False ∨ k_ = g)) Xe.Z3 hb)
     replace HB := A_ (below_step (em121 HB) hb)
     refine hK.out _ _ ⟨bc ac, bc aa⟩ (fun hHeld => ?_)
     clear hK K
     refine nM (some 19) ?_; refine oN 5 (some 20) (bM 11 255) HT_ (fun K hK => ?_)
     refine gS Try.func123 #[.pointer (some ⟨g, 0, none⟩), .int .i64 aR] ((Xu.calls g s0_0 aH aI aR av aM aN w0 _ (ei121 ae) (em121 HB) A24.out).mono ?_); rintro e w47 ⟨rfl, hi, hb, hk⟩
     refine ⟨_, rfl, ?_⟩
     replace HO1_0 := A_ (Kd.R_mono (Kd.R_keep (IsS121.apart (show IsS121 w0 _ g s0_0 aH aI from ei121 ae) (ea HO1_0) (by decide)) hk (fun _ h => h.2)) (fun _ h => h.1))
     replace aa := A_ (KeepBut.blk hk (g' := ag) (o := .cells #[.slice aw l1_0.length ax] 26 (0, 0)) (eb aa) aj.out (by simp))
     replace ab := A_ (KeepBut.blk hk (g' := af) (o := .cells #[.slice none 0 0] 26 (0, 0)) (eb ab) ak.out (by simp))
     replace ad := A_ (Kd.R_mono (Kd.R_keep (IsS121.apart (show IsS121 w0 _ g s0_0 aH aI from ei121 ae) (ea ad) (by decide)) hk (fun _ h => h.2)) (fun _ h => h.1))
     replace ac := A_ (KeepBut.blk hk (g' := ah) (o := .cells #[.slice aG ai.length ay] 26 (0, 0)) (eb ac) al.out (by simp))
     replace am := A_ (Kd.R_mono (Kd.R_keep (IsS121.apart (show IsS121 w0 _ g s0_0 aH aI from ei121 ae) (ea am) (by decide)) hk (fun _ h => h.2)) (fun _ h => h.1))
     replace HK := A_ (Kept.of_keep (S := (fun k_ => False ∨ k_ = g)) Xe.Z3 hk (.inl (.inr rfl)))
     replace HB := A_ hb
     replace ae := A_ hi
     refine hK.out _ _ ⟨bc ac, bc aa⟩ (fun hHeld => ?_)
     clear hK K
     refine nM (some 20) ?_; exact norm_ Xe.Z13 (hCont (aU) _ ⟨hHeld, Xe.Z12, Xe.Z10, Xe.Z11, (eb aa), (eb ab), (eb ac), (ei121 ae), Xe.Z3, (em121 HB)⟩)
   rintro aU w48 ⟨hS_, h0_, h1_, h2_, h3_, h4_, h5_, h6_, h7_, h8_⟩
   replace HO1_0 : Aside0 (Kd.R (Kd.int .i64) 2 w48 w0.heap.size (fun k_ => (P1_0_ k_ ∨ w.heap.size ≤ k_) ∧ some k_ ≠ (.slice aG ai.length ay : Value).ownBlock ∧ some k_ ≠ (aU : Value).ownBlock) (.slice aw l1_0.length ax) l1_0) := ⟨h0_⟩
   replace ad : Aside0 (Kd.R (Kd.int .i64) 2 w48 w0.heap.size (fun k_ => (P1_0_ k_ ∨ w.heap.size ≤ k_) ∧ some k_ ≠ (.slice aw l1_0.length ax : Value).ownBlock ∧ some k_ ≠ (aU : Value).ownBlock) (.slice aG ai.length ay) ai) := ⟨h1_⟩
   have am : Aside0 (Kd.R (Kd.int .i64) 2 w48 w0.heap.size (fun k_ => (P1_0_ k_ ∨ w.heap.size ≤ k_) ∧ some k_ ≠ (.slice aw l1_0.length ax : Value).ownBlock ∧ some k_ ≠ (.slice aG ai.length ay : Value).ownBlock) aU aT) := ⟨h2_⟩
   replace aa : Aside0 (w48.heap[ag]? = some (.cells #[.slice aw l1_0.length ax] 26 (0, 0))) := ⟨h3_⟩
   replace ab : Aside0 (w48.heap[af]? = some (.cells #[.slice none 0 0] 26 (0, 0))) := ⟨h4_⟩
   replace ac : Aside0 (w48.heap[ah]? = some (.cells #[.slice aG ai.length ay] 26 (0, 0))) := ⟨h5_⟩
   replace ae : Aside0 (IsS121 w0 w48 g s0_0 aM aN) := ⟨h6_⟩
   replace HK : Aside0 (Kept w w48 (fun k_ => False ∨ k_ = g)) := ⟨h7_⟩
   replace HB : Aside0 (Below w0.heap.size w0 w48) := ⟨h8_⟩
   clear h0_ h1_ h2_ h3_ h4_ h5_ h6_ h7_ h8_
   have hHeld : w48.cell? ⟨ah, 0, none⟩ = some (.slice aG ai.length ay) ∧ w48.cell? ⟨ag, 0, none⟩ = some (.slice aw l1_0.length ax) := hS_
   obtain ⟨a9, ba, bs⟩ := Kd.R_slice am.out
   (first | subst bs | (injection bs with f1_ f2_ f3_; have f4_ := f1_.symm; have f5_ := f3_.symm; clear f1_ f2_ f3_; subst f4_; subst f5_))
   refine norm_ (a' := ?_) ?_ ?_
   rotate_left
   ·simp only [putAll, Act.put, List.setIfInBounds_toArray, List.set_cons_zero, List.set_cons_succ]
    rfl
   refine oN 8 (some 23) (bM 11 511) HT_ (fun K hK => ?_)
   refine gS Try.func147 #[.pointer (some ⟨g, 0, none⟩), .slice a9 aT.length ba] ((Xaw.calls g s0_0 aM aN _ _ aT aK bh bi w0 _ (ei121 ae) (em121 HB) (cS ((Kd.R_reads' am.out).2.2)) ((Kd.R_reads' am.out).2.1) (far_slice (IsS121.own_ne ae.out am.out (by decide))) A25.out).mono ?_); rintro e w50 ⟨rfl, hi, hb, hk⟩
   refine ⟨_, rfl, ?_⟩
   replace HO1_0 := A_ (Kd.R_mono (Kd.R_keep (IsS121.apart (show IsS121 w0 _ g s0_0 aM aN from ei121 ae) (ea HO1_0) (by decide)) hk (fun _ h => h.2)) (fun _ h => h.1))
   replace aa := A_ (KeepBut.blk hk (g' := ag) (o := .cells #[.slice aw l1_0.length ax] 26 (0, 0)) (eb aa) aj.out (by simp))
   replace ab := A_ (KeepBut.blk hk (g' := af) (o := .cells #[.slice none 0 0] 26 (0, 0)) (eb ab) ak.out (by simp))
   replace ad := A_ (Kd.R_mono (Kd.R_keep (IsS121.apart (show IsS121 w0 _ g s0_0 aM aN from ei121 ae) (ea ad) (by decide)) hk (fun _ h => h.2)) (fun _ h => h.1))
   replace ac := A_ (KeepBut.blk hk (g' := ah) (o := .cells #[.slice aG ai.length ay] 26 (0, 0)) (eb ac) al.out (by simp))
   replace am := A_ (Kd.R_mono (Kd.R_keep (IsS121.apart (show IsS121 w0 _ g s0_0 aM aN from ei121 ae) (ea am) (by decide)) hk (fun _ h => h.2)) (fun _ h => h.1))
   replace HK := A_ (Kept.of_keep (S := (fun k_ => False ∨ k_ = g)) Xe.Z3 hk (.inl (.inr rfl)))
   replace HB := A_ hb
   replace ae := A_ hi
   have p28 : 0 ≤ (av : Int) := of_decide_eq_true Xe.Z14
   have q28 : (av : Int) < ((ai.length : Int) : Int) := of_decide_eq_true Xe.Z14
   obtain ⟨go28, dk, bt, bu, gl28, cl28, HG28⟩ := Kd.R_form ad.out (by omega)
   (first | cases bt | (injection bt with ea_ en_ ec_; (first | subst ea_ | (injection ea_ with ea_; subst ea_)); subst ec_; clear en_))
   have dl := A_ bu
   have dm := A_ HG28
   clear bu gl28 HG28
   have bj := A_ (show w.heap.size ≤ go28 from (ad.out.1 _ rfl).1.elim (fun hp_ => absurd (hT _ hp_) (by have h_ := (ad.out.1 _ rfl); first | exact h_.2 | exact h_.2.1 | exact h_.2.2)) id)
   obtain ⟨cn, hf28_0⟩ := Kd.R_celln 0 ad.out (av : Int) p28 q28
   replace p28 := eq_true p28
   replace q28 := eq_true q28
   have HN0_go28 := A_ (show g ≠ go28 from by have h_ := IsS121.own_ne ae.out ad.out (by decide); intro e_; exact h_ (by rw [e_]; rfl))
   have HP51 := Kd.R_putn ad.out (av : Int) aK
   rw [← br.out] at HP51
   have HQ51 := A_ HP51
   clear HP51
   refine hK.out _ _ ⟨bc ac, bc aa⟩ (fun hHeld => ?_)
   clear hK K
   refine nM (some 23) ?_; refine pA 9 24 (bM 11 1023) HT_ ?_
   refine last_ (i := 10) (N := none) (bM 11 2047) rfl rfl (one_of HT_.out (by kernel_rfl)) (by decide) (fun K hK => ?_)
   refine skip_ (w1 := ?_) (by rfl) rfl ?_ ?_
   rotate_left
   ·go_simp
    rfl
   refine hK.out _ _ ?_
   clear hK K
   refine done_ (done_of HT_.out (by kernel_rfl)) ?_
   have n0_ : Aside0 (Kd.R (Kd.int .i64) 2 (w50.setCell ⟨go28, (av : Int).toNat, none⟩ (.int .i64 aK)) w0.heap.size (fun k_ => (P1_0_ k_ ∨ w.heap.size ≤ k_) ∧ some k_ ≠ (.slice (some ⟨go28, 0, none⟩) ai.length ay : Value).ownBlock ∧ some k_ ≠ (.slice a9 aT.length ba : Value).ownBlock) (.slice aw l1_0.length ax) l1_0) := ⟨rX (Kd.R_mono (Kd.R_far (p := ⟨go28, (av : Int).toNat, none⟩) (Kd.R_mono HO1_0.out (fun k_ hk => (⟨hk, fun e_ => hk.2.1 (by rw [e_]; rfl)⟩ : _ ∧ k_ ≠ go28))) (fun _ hk => hk.2) (.int .i64 aK)) (fun _ hk => ⟨hk.1.1, ⟨hk.1.2.1, hk.1.2.2⟩⟩))⟩
   have n1_ : Aside0 (Kd.R (Kd.int .i64) 2 (w50.setCell ⟨go28, (av : Int).toNat, none⟩ (.int .i64 aK)) w0.heap.size (fun k_ => (P1_0_ k_ ∨ w.heap.size ≤ k_) ∧ some k_ ≠ (.slice aw l1_0.length ax : Value).ownBlock ∧ some k_ ≠ (.slice a9 aT.length ba : Value).ownBlock) (.slice (some ⟨go28, 0, none⟩) ai.length ay) bq) := ⟨ea HQ51⟩
   have n2_ : Aside0 (Kd.R (Kd.int .i64) 2 (w50.setCell ⟨go28, (av : Int).toNat, none⟩ (.int .i64 aK)) w0.heap.size (fun k_ => (P1_0_ k_ ∨ w.heap.size ≤ k_) ∧ some k_ ≠ (.slice aw l1_0.length ax : Value).ownBlock ∧ some k_ ≠ (.slice (some ⟨go28, 0, none⟩) ai.length ay : Value).ownBlock) (.slice a9 aT.length ba) aT) := ⟨rX (Kd.R_mono (Kd.R_far (p := ⟨go28, (av : Int).toNat, none⟩) (Kd.R_mono am.out (fun k_ hk => (⟨hk, fun e_ => hk.2.2 (by rw [e_]; rfl)⟩ : _ ∧ k_ ≠ go28))) (fun _ hk => hk.2) (.int .i64 aK)) (fun _ hk => ⟨hk.1.1, ⟨hk.1.2.1, hk.1.2.2⟩⟩))⟩
   have n3_ : Aside0 ((w50.setCell ⟨go28, (av : Int).toNat, none⟩ (.int .i64 aK)).heap[ag]? = some (.cells #[.slice aw l1_0.length ax] 26 (0, 0))) := ⟨by (with_reducible repeat (first | refine blk_drewN ?_ _ | refine blk_drew ?_ | refine blk_alloc ?_ _)); refine blk_far ?_ (by have h_ := Kd.R_ne ad.out aa.out (by decide); intro e_; exact h_ (by rw [e_]; rfl)) _; (with_reducible repeat (first | refine blk_drewN ?_ _ | refine blk_drew ?_ | refine blk_alloc ?_ _)); exact aa.out⟩
   have n4_ : Aside0 ((w50.setCell ⟨go28, (av : Int).toNat, none⟩ (.int .i64 aK)).heap[af]? = some (.cells #[.slice none 0 0] 26 (0, 0))) := ⟨by (with_reducible repeat (first | refine blk_drewN ?_ _ | refine blk_drew ?_ | refine blk_alloc ?_ _)); refine blk_far ?_ (by have h_ := Kd.R_ne ad.out ab.out (by decide); intro e_; exact h_ (by rw [e_]; rfl)) _; (with_reducible repeat (first | refine blk_drewN ?_ _ | refine blk_drew ?_ | refine blk_alloc ?_ _)); exact ab.out⟩
   have n5_ : Aside0 ((w50.setCell ⟨go28, (av : Int).toNat, none⟩ (.int .i64 aK)).heap[ah]? = some (.cells #[.slice (some ⟨go28, 0, none⟩) ai.length ay] 26 (0, 0))) := ⟨by (with_reducible repeat (first | refine blk_drewN ?_ _ | refine blk_drew ?_ | refine blk_alloc ?_ _)); refine blk_far ?_ (by have h_ := Kd.R_ne ad.out ac.out (by decide); intro e_; exact h_ (by rw [e_]; rfl)) _; (with_reducible repeat (first | refine blk_drewN ?_ _ | refine blk_drew ?_ | refine blk_alloc ?_ _)); exact ac.out⟩
   have n6_ : Aside0 (IsS121 w0 (w50.setCell ⟨go28, (av : Int).toNat, none⟩ (.int .i64 aK)) g s0_0 bh bi) := ⟨ei121 ae⟩
   have n7_ : Aside0 (Kept w (w50.setCell ⟨go28, (av : Int).toNat, none⟩ (.int .i64 aK)) (fun k_ => False ∨ k_ = g)) := ⟨by repeat (first | (with_reducible first | exact HK.out | apply Kept.alloc | apply Kept.drewN | apply Kept.drew | refine Kept.setCell ?_ (.inr bj.out) _ | refine Kept.setCell ?_ (.inl (.inr rfl)) _ | refine Kept.setCell ?_ (.inr az.out) _ | refine Kept.setCell ?_ (.inr aE.out) _ | refine Kept.setCell ?_ (.inr aJ.out) _) | exact HK.out)⟩
   have n8_ : Aside0 (Below w0.heap.size w0 (w50.setCell ⟨go28, (av : Int).toNat, none⟩ (.int .i64 aK))) := ⟨em121 HB⟩
   (try clear HO1_0)
   (try clear ad)
   (try clear am)
   (try clear aa)
   (try clear ab)
   (try clear ac)
   (try clear ae)
   (try clear HK)
   (try clear HB)
   generalize (w50.setCell ⟨go28, (av : Int).toNat, none⟩ (.int .i64 aK)) = w52 at n0_ n1_ n2_ n3_ n4_ n5_ n6_ n7_ n8_ ⊢
   have HO1_0 := n0_
   have ad := n1_
   have am := n2_
   have aa := n3_
   have ab := n4_
   have ac := n5_
   have ae := n6_
   have HK := n7_
   have HB := n8_
   clear n0_ n1_ n2_ n3_ n4_ n5_ n6_ n7_ n8_
   have bS := bC ac
   have bU := bF ac
   have cP := ak.out
   have cQ := aC.out
   have bV := bC ab
   have bW := bF ab
   try go_wp2
   refine bodyPost_ret (results_cell_row rfl _ _ af 26 #[.slice (some ⟨go28, 0, none⟩) ai.length ay] (0, 0) _ rfl Xe.Z4 Try.underlying26 rfl (by kernel_rfl)) rfl ?_
   exact ⟨_, er, rX (Kd.R_mono (Kd.R_far (p := ⟨af, 0, none⟩) (Kd.R_types ad.out ab.out (by decide)) (fun _ hk => hk.2) (.slice (some ⟨go28, 0, none⟩) ai.length ay)) (fun _ hk => hk.1.1)), ei121 ae, em121 HB, by repeat (first | (with_reducible first | exact HK.out | apply Kept.alloc | apply Kept.drewN | apply Kept.drew | refine Kept.setCell ?_ (.inl (.inr rfl)) _ | refine Kept.setCell ?_ (.inr az.out) _ | refine Kept.setCell ?_ (.inr aE.out) _ | refine Kept.setCell ?_ (.inr aJ.out) _) | exact HK.out)⟩
  ·rw [if_neg c22] at H
   obtain ⟨bo, bp⟩ := bN c22
   by_cases c56 : aV = 2
   ·rw [if_pos c56] at H
    obtain ⟨bv, bw⟩ := bT c56
    clear c56
    by_cases c57 : ai.length < 17592186044416
    rotate_left
    ·rw [if_neg c57] at H
     exact absurd H (by simp)
    rw [if_pos c57] at H
    have bz := A_ c57
    clear c57
    obtain ⟨bb, a2⟩ : ∃ y_ : List Int, y_ = (ai ++ [0]) := ⟨_, rfl⟩
    replace H : (some (bb, aH, aI)) = some (r1, r2, r3) := eH a2 H
    have bA := A_ a2
    clear a2
    simp only [Option.some.injEq, Prod.mk.injEq] at H
    obtain ⟨rfl, rfl, rfl⟩ := H
    obtain ⟨a3, a4, co⟩ := Kd.R_slice HO1_0.out
    subst co
    go_enter Try.func128, Try.ntmps128
    go_wp2_with (first | ((with_reducible refine gD 3 ?_); refine bx 3 #[.slice a3 l1_0.length a4] 26 ?_; intro ag hg w59 hbox hb; replace HO1_0 := eR HO1_0 hb; have aa := A_ hbox; have az := A_ ((by rw [hg]; exact Xe.Z6 : w.heap.size ≤ ag)); replace HK := A_ (Kept.below (S := (fun k_ => False ∨ k_ = g)) Xe.Z9 hb); have aW := A_ ((by rw [hg]; exact (below_size (em121 HB)) : w0.heap.size ≤ ag)); replace HB := A_ (below_step (em121 HB) hb); have aA := A_ ((by rw [hg]; exact Nat.ne_of_lt (IsS121.lt (show IsS121 w0 _ g s0_0 s0_1 s0_2 from ei121 ae)) : g ≠ ag)); have aj := A_ ((by rw [hg]; exact Nat.ne_of_gt (IsS121.lt (show IsS121 w0 _ g s0_0 s0_1 s0_2 from ei121 ae)) : ag ≠ g)); replace ae := A_ (IsS121.below (ei121 ae) hb); clear hb hbox hg) | ((with_reducible refine gD 4 ?_); refine bx 4 #[.slice none 0 0] 26 ?_; intro af hg w60 hbox hb; replace HO1_0 := eR HO1_0 hb; have ab := A_ hbox; have aE := A_ ((by rw [hg]; exact Xe.Z2 : w.heap.size ≤ af)); replace HK := A_ (Kept.below (S := (fun k_ => False ∨ k_ = g)) Xe.Z8 hb); have aX := A_ ((by rw [hg]; exact (below_size (em121 HB)) : w0.heap.size ≤ af)); replace HB := A_ (below_step (em121 HB) hb); obtain ⟨an, ao⟩ := nN hg aa; replace aa := eK aa hb; have aC := A_ ((by rw [hg]; exact Nat.ne_of_lt (IsS121.lt (show IsS121 w0 _ g s0_0 s0_1 s0_2 from ei121 ae)) : g ≠ af)); have ak := A_ ((by rw [hg]; exact Nat.ne_of_gt (IsS121.lt (show IsS121 w0 _ g s0_0 s0_1 s0_2 from ei121 ae)) : af ≠ g)); replace ae := A_ (IsS121.below (ei121 ae) hb); clear hb hbox hg; have cR := an.out; have cT := ao.out; have cU := aj.out; have cV := aA.out; have bY := bC aa; have bZ := bF aa) | ((with_reducible refine gC 169 ?_); refine gL 7 Try.func169 #[.agg #[.slice a3 l1_0.length a4]] ((Xbz.calls _ _ l1_0 ai _ (cS ((Kd.R_reads' HO1_0.out).2.2)) ((Kd.R_reads' HO1_0.out).2.1) A3.out).mono ?_); rintro e w64 ⟨be, rfl, ho0, hb⟩; refine ⟨_, rfl, ?_⟩; have ad := A_ (Kd.R_lower (Kd.R_new' (Kd.R_newM (M := fun k_ => (P1_0_ k_ ∨ w.heap.size ≤ k_)) ho0 Xe.Z1 (fun k_ h_ => .inr h_)) (Kd.R_lt (ea HO1_0))) (below_size (em121 HB))); replace HO1_0 := eE HO1_0 ho0 hb; replace ae := A_ (IsS121.below (ei121 ae) hb); replace aa := eK aa hb; replace ab := eK ab hb; replace HK := A_ (Kept.below (S := (fun k_ => False ∨ k_ = g)) Xe.Z7 hb); replace HB := A_ (below_step (em121 HB) hb)) | ((with_reducible refine gD 5 ?_); refine bx 5 #[.slice none 0 0] 26 ?_; intro ah hg w65 hbox hb; replace HO1_0 := eR HO1_0 hb; replace ad := eR ad hb; have ac := A_ hbox; have aJ := A_ ((by rw [hg]; exact Xe.Z1 : w.heap.size ≤ ah)); replace HK := A_ (Kept.below (S := (fun k_ => False ∨ k_ = g)) Xe.Z7 hb); have aY := A_ ((by rw [hg]; exact (below_size (em121 HB)) : w0.heap.size ≤ ah)); replace HB := A_ (below_step (em121 HB) hb); obtain ⟨ap, aq⟩ := nN hg aa; replace aa := eK aa hb; obtain ⟨ar, au⟩ := nN hg ab; replace ab := eK ab hb; have aD := A_ ((by rw [hg]; exact Nat.ne_of_lt (IsS121.lt (show IsS121 w0 _ g s0_0 s0_1 s0_2 from ei121 ae)) : g ≠ ah)); have al := A_ ((by rw [hg]; exact Nat.ne_of_gt (IsS121.lt (show IsS121 w0 _ g s0_0 s0_1 s0_2 from ei121 ae)) : ah ≠ g)); replace ae := A_ (IsS121.below (ei121 ae) hb); clear hb hbox hg; obtain ⟨a5, a6, cp⟩ := Kd.R_slice ad.out; subst cp; have cW := aq.out; have cX := ap.out; have cY := au.out; have cZ := ar.out; have c0 := al.out; have c1 := aD.out; have b0 := bC ac; have b1 := bF ac) | ((with_reducible refine gC 123 ?_); refine gL 9 Try.func123 #[.pointer (some ⟨g, 0, none⟩), .int .i64 50] ((Xu.calls g s0_0 s0_1 s0_2 50 aV aH aI w0 _ (ei121 ae) (em121 HB) A4.out).mono ?_); rintro e w71 ⟨rfl, hi, hb, hk⟩; refine ⟨_, rfl, ?_⟩; replace HO1_0 := A_ (Kd.R_mono (Kd.R_keep (IsS121.apart (show IsS121 w0 _ g s0_0 s0_1 s0_2 from ei121 ae) (rX (Kd.R_mono (rF HO1_0.out ac (.slice a5 ai.length a6)) (fun _ h_ => h_.1))) (by decide)) hk (fun _ h => h.2)) (fun _ h => h.1)); replace aa := A_ (KeepBut.blk hk (g' := ag) (o := .cells #[.slice a3 l1_0.length a4] 26 (0, 0)) (eb aa) aj.out (by simp)); replace ab := A_ (KeepBut.blk hk (g' := af) (o := .cells #[.slice none 0 0] 26 (0, 0)) (eb ab) ak.out (by simp)); replace ad := A_ (Kd.R_mono (Kd.R_keep (IsS121.apart (show IsS121 w0 _ g s0_0 s0_1 s0_2 from ei121 ae) (rX (Kd.R_mono (rF ad.out ac (.slice a5 ai.length a6)) (fun _ h_ => h_.1))) (by decide)) hk (fun _ h => h.2)) (fun _ h => h.1)); replace ac := A_ (KeepBut.blk hk (g' := ah) (o := .cells #[.slice a5 ai.length a6] 26 (0, 0)) Xe.Z5 al.out (by simp)); replace HK := A_ (Kept.of_keep (S := (fun k_ => False ∨ k_ = g)) Xe.Z3 hk (.inl (.inr rfl))); replace HB := A_ hb; replace ae := A_ hi; have b2 := bC ac; have b3 := bF ac) | ((with_reducible refine gate_builtin (b := .append) (xs := #[.tmp 29, .tmp 30]) rfl ?_); at_builtin; refine Kd.R_append (Kd.int .i64) (w0 := w0) w0.heap.size rfl (.tmp 29) (.tmp 30) 24 2 (.int .i64 0) 8 rfl Try.underlying24 info2 rfl (by decide) (by omega) (.slice a5 ai.length a6) ai 0 [.int .i64 0] (fun k_ => (P1_0_ k_ ∨ w.heap.size ≤ k_) ∧ some k_ ≠ (.slice a3 l1_0.length a4 : Value).ownBlock) (fun _ => False) rfl rfl ?aP (fun _ hk => hk.elim) ?aF ?aO ?aB ?aS ?aL ?_; (case aP => exact rfl); (case aB => exact (em121 HB)); (case aF => exact (fun k_ hk => ⟨(.inr (Nat.le_trans Xe.Z0 hk)), Kd.fresh' (Kd.R_lt (ea HO1_0)) k_ hk⟩)); (case aO => exact (rX (Kd.R_mono ad.out (fun _ hk => ⟨hk.1.1, hk.2⟩)))); (case aS => exact (below_size (em121 HB))); (case aL => have := bz.out; omega); intro dn w73 ho hb hg hat; rw [← bA.out] at ho; replace ae := A_ (IsS121.grown (ei121 ae) hg (IsS121.own_ne ae.out ad.out (by decide))); replace HO1_0 := A_ (Kd.R_after (ok := (fun k_ => (P1_0_ k_ ∨ w.heap.size ≤ k_))) (ea HO1_0) hg hat); replace aa := A_ (blk_grown (g := ag) (o := .cells #[.slice a3 l1_0.length a4] 26 (0, 0)) (eb aa) hg (Kd.R_ne ad.out aa.out (by decide))); replace ab := A_ (blk_grown (g := af) (o := .cells #[.slice none 0 0] 26 (0, 0)) (eb ab) hg (Kd.R_ne ad.out ab.out (by decide))); replace ac := A_ (blk_grown (g := ah) (o := .cells #[.slice a5 ai.length a6] 26 (0, 0)) (eb ac) hg (Kd.R_ne ad.out ac.out (by decide))); replace HB := A_ hb; replace HK := A_ (Kept.of_grown (S := (fun k_ => False ∨ k_ = g)) hg Xe.Z3 (fun k_ e_ => .inr ((ad.out.1 k_ e_).1.1.elim (fun hp_ => absurd (hT _ hp_) (by have h_ := (ad.out.1 k_ e_); first | exact h_.2 | exact h_.1.2 | exact h_.2.1)) id))); have bd := A_ ho; clear ad; clear ho hb hg hat; obtain ⟨bk, bl, cq⟩ := Kd.R_slice bd.out; subst cq; have b4 := bC ac; have b5 := bF ac; have c2 := ak.out; have c3 := aC.out; have b6 := bC ab; have b7 := bF ab))
    refine bodyPost_ret (results_cell_row rfl _ _ af 26 #[.slice bk bb.length bl] (0, 0) _ rfl (eP ab) Try.underlying26 rfl (by kernel_rfl)) rfl ?_
    exact ⟨_, er, rX (Kd.R_mono (rG bd.out ac ab (.slice bk bb.length bl) (.slice bk bb.length bl)) (fun _ hk => hk.1.1.1)), ei121 ae, em121 HB, by repeat (first | (with_reducible first | exact HK.out | apply Kept.alloc | apply Kept.drewN | apply Kept.drew | refine Kept.setCell ?_ (.inl (.inr rfl)) _ | refine Kept.setCell ?_ (.inr az.out) _ | refine Kept.setCell ?_ (.inr aE.out) _ | refine Kept.setCell ?_ (.inr aJ.out) _) | exact HK.out)⟩
   ·rw [if_neg c56] at H
    obtain ⟨bv, bw⟩ := bN c56
    simp only [Option.some.injEq, Prod.mk.injEq] at H
    obtain ⟨rfl, rfl, rfl⟩ := H
    obtain ⟨a7, a8, cr⟩ := Kd.R_slice HO1_0.out
    subst cr
    go_enter Try.func128, Try.ntmps128
    go_wp2_with (first | ((with_reducible refine gD 3 ?_); refine bx 3 #[.slice a7 l1_0.length a8] 26 ?_; intro ag hg w79 hbox hb; replace HO1_0 := eR HO1_0 hb; have aa := A_ hbox; have az := A_ ((by rw [hg]; exact Xe.Z6 : w.heap.size ≤ ag)); replace HK := A_ (Kept.below (S := (fun k_ => False ∨ k_ = g)) Xe.Z9 hb); have aW := A_ ((by rw [hg]; exact (below_size (em121 HB)) : w0.heap.size ≤ ag)); replace HB := A_ (below_step (em121 HB) hb); have aA := A_ ((by rw [hg]; exact Nat.ne_of_lt (IsS121.lt (show IsS121 w0 _ g s0_0 s0_1 s0_2 from ei121 ae)) : g ≠ ag)); have aj := A_ ((by rw [hg]; exact Nat.ne_of_gt (IsS121.lt (show IsS121 w0 _ g s0_0 s0_1 s0_2 from ei121 ae)) : ag ≠ g)); replace ae := A_ (IsS121.below (ei121 ae) hb); clear hb hbox hg) | ((with_reducible refine gD 4 ?_); refine bx 4 #[.slice none 0 0] 26 ?_; intro af hg w80 hbox hb; replace HO1_0 := eR HO1_0 hb; have ab := A_ hbox; have aE := A_ ((by rw [hg]; exact Xe.Z2 : w.heap.size ≤ af)); replace HK := A_ (Kept.below (S := (fun k_ => False ∨ k_ = g)) Xe.Z8 hb); have aX := A_ ((by rw [hg]; exact (below_size (em121 HB)) : w0.heap.size ≤ af)); replace HB := A_ (below_step (em121 HB) hb); obtain ⟨an, ao⟩ := nN hg aa; replace aa := eK aa hb; have aC := A_ ((by rw [hg]; exact Nat.ne_of_lt (IsS121.lt (show IsS121 w0 _ g s0_0 s0_1 s0_2 from ei121 ae)) : g ≠ af)); have ak := A_ ((by rw [hg]; exact Nat.ne_of_gt (IsS121.lt (show IsS121 w0 _ g s0_0 s0_1 s0_2 from ei121 ae)) : af ≠ g)); replace ae := A_ (IsS121.below (ei121 ae) hb); clear hb hbox hg; have c4 := an.out; have c6 := ao.out; have c7 := aj.out; have c8 := aA.out; have b8 := bC aa; have b9 := bF aa) | ((with_reducible refine gC 169 ?_); refine gL 7 Try.func169 #[.agg #[.slice a7 l1_0.length a8]] ((Xbz.calls _ _ l1_0 ai _ (cS ((Kd.R_reads' HO1_0.out).2.2)) ((Kd.R_reads' HO1_0.out).2.1) A3.out).mono ?_); rintro e w84 ⟨be, rfl, ho0, hb⟩; refine ⟨_, rfl, ?_⟩; have ad := A_ (Kd.R_lower (Kd.R_new' (Kd.R_newM (M := fun k_ => (P1_0_ k_ ∨ w.heap.size ≤ k_)) ho0 Xe.Z1 (fun k_ h_ => .inr h_)) (Kd.R_lt (ea HO1_0))) (below_size (em121 HB))); replace HO1_0 := eE HO1_0 ho0 hb; replace ae := A_ (IsS121.below (ei121 ae) hb); replace aa := eK aa hb; replace ab := eK ab hb; replace HK := A_ (Kept.below (S := (fun k_ => False ∨ k_ = g)) Xe.Z7 hb); replace HB := A_ (below_step (em121 HB) hb)) | ((with_reducible refine gD 5 ?_); refine bx 5 #[.slice none 0 0] 26 ?_; intro ah hg w85 hbox hb; replace HO1_0 := eR HO1_0 hb; replace ad := eR ad hb; have ac := A_ hbox; have aJ := A_ ((by rw [hg]; exact Xe.Z1 : w.heap.size ≤ ah)); replace HK := A_ (Kept.below (S := (fun k_ => False ∨ k_ = g)) Xe.Z7 hb); have aY := A_ ((by rw [hg]; exact (below_size (em121 HB)) : w0.heap.size ≤ ah)); replace HB := A_ (below_step (em121 HB) hb); obtain ⟨ap, aq⟩ := nN hg aa; replace aa := eK aa hb; obtain ⟨ar, au⟩ := nN hg ab; replace ab := eK ab hb; have aD := A_ ((by rw [hg]; exact Nat.ne_of_lt (IsS121.lt (show IsS121 w0 _ g s0_0 s0_1 s0_2 from ei121 ae)) : g ≠ ah)); have al := A_ ((by rw [hg]; exact Nat.ne_of_gt (IsS121.lt (show IsS121 w0 _ g s0_0 s0_1 s0_2 from ei121 ae)) : ah ≠ g)); replace ae := A_ (IsS121.below (ei121 ae) hb); clear hb hbox hg; obtain ⟨bm, bn, cs⟩ := Kd.R_slice ad.out; subst cs; have c9 := aq.out; have da := ap.out; have db := au.out; have dc := ar.out; have dd := al.out; have de := aD.out; have ca := bC ac; have cb := bF ac) | ((with_reducible refine gC 123 ?_); refine gL 9 Try.func123 #[.pointer (some ⟨g, 0, none⟩), .int .i64 50] ((Xu.calls g s0_0 s0_1 s0_2 50 aV aH aI w0 _ (ei121 ae) (em121 HB) A4.out).mono ?_); rintro e w91 ⟨rfl, hi, hb, hk⟩; refine ⟨_, rfl, ?_⟩; replace HO1_0 := A_ (Kd.R_mono (Kd.R_keep (IsS121.apart (show IsS121 w0 _ g s0_0 s0_1 s0_2 from ei121 ae) (rX (Kd.R_mono (rF HO1_0.out ac (.slice bm ai.length bn)) (fun _ h_ => h_.1))) (by decide)) hk (fun _ h => h.2)) (fun _ h => h.1)); replace aa := A_ (KeepBut.blk hk (g' := ag) (o := .cells #[.slice a7 l1_0.length a8] 26 (0, 0)) (eb aa) aj.out (by simp)); replace ab := A_ (KeepBut.blk hk (g' := af) (o := .cells #[.slice none 0 0] 26 (0, 0)) (eb ab) ak.out (by simp)); replace ad := A_ (Kd.R_mono (Kd.R_keep (IsS121.apart (show IsS121 w0 _ g s0_0 s0_1 s0_2 from ei121 ae) (rX (Kd.R_mono (rF ad.out ac (.slice bm ai.length bn)) (fun _ h_ => h_.1))) (by decide)) hk (fun _ h => h.2)) (fun _ h => h.1)); replace ac := A_ (KeepBut.blk hk (g' := ah) (o := .cells #[.slice bm ai.length bn] 26 (0, 0)) Xe.Z5 al.out (by simp)); replace HK := A_ (Kept.of_keep (S := (fun k_ => False ∨ k_ = g)) Xe.Z3 hk (.inl (.inr rfl))); replace HB := A_ hb; replace ae := A_ hi; have cc := bC aa; have cd := bF aa; have df := ak.out; have dg := aC.out; have ce := bC ab; have cf := bF ab))
    refine bodyPost_ret (results_cell_row rfl _ _ af 26 #[.slice a7 l1_0.length a8] (0, 0) _ rfl Xe.Z4 Try.underlying26 rfl (by kernel_rfl)) rfl ?_
    exact ⟨_, er, rX (Kd.R_mono (rF HO1_0.out ab (.slice a7 l1_0.length a8)) (fun _ hk => hk.1.1)), ei121 ae, em121 HB, by repeat (first | (with_reducible first | exact HK.out | apply Kept.alloc | apply Kept.drewN | apply Kept.drew | refine Kept.setCell ?_ (.inl (.inr rfl)) _ | refine Kept.setCell ?_ (.inr az.out) _ | refine Kept.setCell ?_ (.inr aE.out) _ | refine Kept.setCell ?_ (.inr aJ.out) _) | exact HK.out)⟩
theorem Xe.calls (g : Nat) (s0_0 : List Int) (s0_1 : Int) (s0_2 : Int) (P1_0_ : Nat → Prop) (u9000_ : Value) (l1_0 : List Int) (r1 : List Int) (r2 : Int) (r3 : Int) (w0 w : World) (hI : IsS121 w0 w g s0_0 s0_1 s0_2) (hB : Below w0.heap.size w0 w) (ho1_0 : Kd.R (Kd.int .i64) 2 w w0.heap.size P1_0_ u9000_ l1_0) (h : Xe.f s0_0 s0_1 s0_2 l1_0 = some (r1, r2, r3)) :
  Calls Try.prog 128 #[.pointer (some ⟨g, 0, none⟩), .agg #[u9000_]] w fun e w' => ∃ v0_ : Value, e = .returned (.agg #[v0_]) ∧ Kd.R (Kd.int .i64) 2 w' w0.heap.size (fun k_ => (P1_0_ k_ ∨ w.heap.size ≤ k_)) v0_ r1 ∧ IsS121 w0 w' g s0_0 r2 r3 ∧ Below w0.heap.size w0 w' ∧ Kept w w' (fun k_ => (P1_0_ k_) ∨ k_ = g) :=
  (Xe.calls2 g s0_0 s0_1 s0_2 (fun k_ => some k_ = (u9000_ : Value).ownBlock) u9000_ l1_0 r1 r2 r3 w0 w hI hB (Kd.R_tight rfl ho1_0) (fun _ h_ => h_) h).mono (by rintro e w' ⟨v, h1, h2, h3, h4, h5⟩; exact ⟨v, h1, Kd.R_mono h2 (fun k hk => hk.imp_left (fun hp => ho1_0.1 k hp.symm)), h3, h4, h5.mono (fun k hk => hk.elim False.elim .inr)⟩)

/-! ### spec_DrawReplaceAt: function 37 -/
def Xv.j0 : Nat → Int → List Int → Int → Int → List Int → List Int → Option (List Int × Int × List Int)
  | 0, _, _, _, _, _, _ => none
  | k + 1, x8, x235000, x235001, x235002, x246000, x247000 => (Xe.f x235000 x235001 x235002 x246000).bind fun bt259 => ((Xe.f x235000 bt259.2.1 bt259.2.2 x247000).bind fun bt264 => (some (bt259.1, x8, bt264.1)))
def Xv.f (k : Nat) (l0 : List Int) : Option (List Int × Int × List Int) := (Xt.f k l0).bind fun bt231 => ((Xa.f k bt231.1 bt231.2.1 bt231.2.2).bind fun bt235 => ((Xbk.f k bt231.1 bt235.2.1 bt235.2.2).bind fun bt240 => ((Xay.f bt235.1).bind fun t247 => ((Xbu.f bt231.1 bt240.2.1 bt240.2.2 (wrap64 (t247 - 1))).bind fun bt248 => ((Xu.f bt231.1 bt248.2.1 bt248.2.2 6).bind fun bt251 => (if bt251.1 = 0 then ((Xa.f k bt231.1 bt251.2.1 bt251.2.2).bind fun bt254 => (Xv.j0 k bt248.1 bt231.1 bt254.2.1 bt254.2.2 bt235.1 bt254.1)) else (Xv.j0 k bt248.1 bt231.1 bt251.2.1 bt251.2.2 bt235.1 bt240.1)))))))
theorem Xv.mono_l : ∀ k, (∀ y0 y1 y2 y3 y4 y5, LeO (Xv.j0 k y0 y1 y2 y3 y4 y5) (Xv.j0 (k + 1) y0 y1 y2 y3 y4 y5))
  | 0 => fun _ _ _ _ _ _ r h => by simp [Xv.j0] at h
  | k + 1 => by
    have ih0 := Xv.mono_l k
    · intro y0 y1 y2 y3 y4 y5
      unfold Xv.j0
      have := Xa.mono; have := Xt.mono; have := Xbk.mono; exact mW
theorem Xv.mono a0 k : LeO (Xv.f k a0) (Xv.f (k + 1) a0) := by have ih0 := Xv.mono_l k; unfold Xv.f; have := Xa.mono; have := Xt.mono; have := Xbk.mono; exact mW
def Xv.T6 : Bool × List (List Nat × List Nat) := (true, [([], []), ([], []), ([0, 1], [0, 1]), ([], []), ([], []), ([], []), ([4, 5, 2], [4, 5]), ([2, 6, 0, 1, 2], [2]), ([3, 7, 0, 1, 2, 3, 7], [3]), ([6, 8, 0, 1, 2, 3, 4, 5, 6, 7, 8], [6])])
def Xv.B6 : List Nat := [0, 0, 3, 0, 0, 0, 55, 119, 255, 511]
theorem Xv.tab6 : rtab .any (opsOf Try.f37 6) = Xv.T6 := by kernel_rfl
theorem Xv.bits6 : waitsOk Xv.T6.2 Xv.B6 = true := by kernel_rfl
theorem Xv.Z0 {p : Prop} (h : p := by exact rX (Kd.R_mono (Kd.R_mono (rG ah.out af ae (.slice az ap.length aA) (.slice aS aH.length aT)) (fun _ h_ => h_.1)) (fun _ h_ => h_.1))) : p := h
theorem Xv.calls (k : Nat) (A0 : Option Addr) (c0 : Nat) (l0 : List Int) (r1 : List Int) (r2 : Int) (r3 : List Int) (w : World) (hr0 : Kd.C (Kd.int .u8) w A0 l0.length l0) (hc0 : l0.length ≤ c0) (h : Xv.f k l0 = some (r1, r2, r3)) :
  Calls Try.prog 37 #[.slice A0 l0.length c0] w fun e w' => ∃ v0_ v2_ : Value, e = .returned (.tuple #[.agg #[v0_], .int .i64 r2, .agg #[v2_]]) ∧ Kd.R (Kd.int .i64) 2 w' w.heap.size (fun k_ => some k_ ≠ (v2_ : Value).ownBlock) v0_ r1 ∧ Kd.R (Kd.int .i64) 2 w' w.heap.size (fun k_ => some k_ ≠ (v0_ : Value).ownBlock) v2_ r3 ∧ Below w.heap.size w w' := by
 have hu26 := Try.underlying26; have HR0 := A_ hr0; have HC0 := A_ hc0; clear hr0 hc0; have HB := A_ (Below.refl w.heap.size w); unfold Xv.f at h; have H := h; clear h; replace H := oB H; obtain ⟨⟨ao, bj, bk⟩, A2, H⟩ := H; (try dsimp only at H); replace H := oB H; obtain ⟨⟨ap, a5, a6⟩, A3, H⟩ := H; (try dsimp only at H); replace H := oB H; obtain ⟨⟨aH, aQ, aR⟩, A4, H⟩ := H; (try dsimp only at H); replace H := oB H; obtain ⟨a7, A5, H⟩ := H; replace H := oB H; obtain ⟨⟨bl, aZ, a0⟩, A6, H⟩ := H; (try dsimp only at H); replace H := oB H; obtain ⟨⟨bm, aW, aX⟩, A7, H⟩ := H; (try dsimp only at H); have HC8 := A_ H; clear H
 go_enter Try.func37, Try.ntmps37
 go_upto_if 22 with (first | ((with_reducible refine gD 2 ?_); refine bX 2 #[.slice none 0 0] 26 HB ?_; clear HB; intro aq w9 aa b5 HB hb hg; clear hb hg) | ((with_reducible refine gD 4 ?_); refine bX 4 #[.slice none 0 0] 26 HB ?_; clear HB; intro ar w10 ac b6 HB hb hg; obtain ⟨aI, aJ⟩ := nN hg aa; replace aa := eK aa hb; clear hb hg) | ((with_reducible refine gC 99 ?_); refine gL 10 Try.func99 #[.slice A0 l0.length c0] ((Xt.calls k _ _ l0 ao bj bk w _ (el HB) HR0.out HC0.out A2.out).mono ?_); rintro e w11 ⟨g234, rfl, hi, hb, hb2⟩; refine ⟨_, rfl, ?_⟩; replace HB := A_ hb; have ab := A_ hi; have bh := A_ (IsS121.ne_blk hi (blk_below (g := aq) (o := .cells #[.slice none 0 0] 26 (0, 0)) (eb aa) hb2) (by decide)); have ai := A_ (Ne.symm (IsS121.ne_blk hi (blk_below (g := aq) (o := .cells #[.slice none 0 0] 26 (0, 0)) (eb aa) hb2) (by decide))); replace aa := A_ (blk_below (g := aq) (o := .cells #[.slice none 0 0] 26 (0, 0)) (eb aa) hb2); have bi := A_ (IsS121.ne_blk hi (blk_below (g := ar) (o := .cells #[.slice none 0 0] 26 (0, 0)) (eb ac) hb2) (by decide)); have aj := A_ (Ne.symm (IsS121.ne_blk hi (blk_below (g := ar) (o := .cells #[.slice none 0 0] 26 (0, 0)) (eb ac) hb2) (by decide))); replace ac := A_ (blk_below (g := ar) (o := .cells #[.slice none 0 0] 26 (0, 0)) (eb ac) hb2)) | ((with_reducible refine gC 122 ?_); refine gL 12 Try.func122 #[.pointer (some ⟨g234, 0, none⟩)] ((Xa.calls k g234 ao bj bk ap a5 a6 w _ (ei121 ab) (em121 HB) A3.out).mono ?_); rintro e w12 ⟨cv, rfl, ho0, hi, hb, hk⟩; refine ⟨_, rfl, ?_⟩; replace aa := A_ (KeepBut.blk hk (g' := aq) (o := .cells #[.slice none 0 0] 26 (0, 0)) (eb aa) ai.out (by simp)); replace ac := A_ (KeepBut.blk hk (g' := ar) (o := .cells #[.slice none 0 0] 26 (0, 0)) (eb ac) aj.out (by simp)); have ah := A_ (Kd.R_lower ho0 (below_size (em121 HB))); replace HB := A_ hb; replace ab := A_ hi) | ((with_reducible refine gC 126 ?_); refine gL 14 Try.func126 #[.pointer (some ⟨g234, 0, none⟩)] ((Xbk.calls k g234 ao a5 a6 aH aQ aR w _ (ei121 ab) (em121 HB) A4.out).mono ?_); rintro e w13 ⟨cw, rfl, ho0, hi, hb, hk⟩; refine ⟨_, rfl, ?_⟩; replace aa := A_ (KeepBut.blk hk (g' := aq) (o := .cells #[.slice none 0 0] 26 (0, 0)) (eb aa) ai.out (by simp)); replace ac := A_ (KeepBut.blk hk (g' := ar) (o := .cells #[.slice none 0 0] 26 (0, 0)) (eb ac) aj.out (by simp)); have an := A_ (Kd.R_lower (Kd.R_new' ho0 (Kd.R_lt (ea ah))) (below_size (em121 HB))); replace ah := A_ (Kd.R_mono (Kd.R_told (Kd.R_oldK (IsS121.apart (show IsS121 w _ g234 ao a5 a6 from ei121 ab) (ea ah) (by decide)) hk) (Kd.R_base ho0)) (fun _ h_ => h_.1)); replace HB := A_ hb; replace ab := A_ hi) | ((with_reducible refine gD 6 ?_); refine bx 6 #[.slice none 0 0] 26 ?_; intro aB hg w14 hbox hb; replace ah := eR ah hb; replace an := eR an hb; have af := A_ hbox; have b7 := A_ (eG hg (below_size (em121 HB)) : w.heap.size ≤ aB); replace HB := A_ (below_step (em121 HB) hb); obtain ⟨aK, aD⟩ := nN hg aa; replace aa := eK aa hb; obtain ⟨aL, aE⟩ := nN hg ac; replace ac := eK ac hb; have aV := A_ ((by rw [hg]; exact Nat.ne_of_lt (IsS121.lt (show IsS121 w _ g234 ao aQ aR from ei121 ab)) : g234 ≠ aB)); have am := A_ ((by rw [hg]; exact Nat.ne_of_gt (IsS121.lt (show IsS121 w _ g234 ao aQ aR from ei121 ab)) : aB ≠ g234)); replace ab := A_ (IsS121.below (ei121 ab) hb); clear hb hbox hg) | ((with_reducible refine gD 7 ?_); refine bx 7 #[.slice none 0 0] 26 ?_; intro aC hg w15 hbox hb; replace ah := eR ah hb; replace an := eR an hb; have ae := A_ hbox; have b8 := A_ (eG hg (below_size (em121 HB)) : w.heap.size ≤ aC); replace HB := A_ (below_step (em121 HB) hb); obtain ⟨aF, au⟩ := nN hg aa; replace aa := eK aa hb; obtain ⟨aG, av⟩ := nN hg ac; replace ac := eK ac hb; obtain ⟨aM, aN⟩ := nN hg af; replace af := eK af hb; have aO := A_ ((by rw [hg]; exact Nat.ne_of_lt (IsS121.lt (show IsS121 w _ g234 ao aQ aR from ei121 ab)) : g234 ≠ aC)); have ak := A_ ((by rw [hg]; exact Nat.ne_of_gt (IsS121.lt (show IsS121 w _ g234 ao aQ aR from ei121 ab)) : aC ≠ g234)); replace ab := A_ (IsS121.below (ei121 ab) hb); clear hb hbox hg; obtain ⟨az, aA, bZ⟩ := Kd.R_slice ah.out; subst bZ; have b9 := aD.out; have ca := aK.out; have cb := aE.out; have cc := aL.out; have cd := aM.out; have ce := aN.out; have cf := am.out; have cg := aV.out; have bw := bC af; have bz := bF af; obtain ⟨aS, aT, b0⟩ := Kd.R_slice an.out; subst b0; have ch := au.out; have ci := aF.out; have cj := av.out; have ck := aG.out; have cl := ak.out; have cm := aO.out; have bA := bC ae; have bB := bF ae) | ((with_reducible refine gC 102 ?_); refine gL 17 Try.func102 #[.agg #[.slice az ap.length aA]] ((Xay.calls _ _ ap a7 _ ((Kd.R_reads' Xv.Z0).2.2) ((Kd.R_reads' ah.out).2.1) A5.out).mono ?_); rintro e w27 ⟨rfl, hb⟩; refine ⟨_, rfl, ?_⟩; replace ah := A_ (Kd.R_below Xv.Z0 hb); replace an := A_ (Kd.R_below (rX (Kd.R_mono (Kd.R_mono (rG an.out af ae (.slice az ap.length aA) (.slice aS aH.length aT)) (fun _ h_ => h_.1)) (fun _ h_ => h_.1))) hb); replace aa := eK aa hb; replace ac := eK ac hb; replace ab := A_ (IsS121.below (show IsS121 w ((w15.setCell ⟨aB, 0, none⟩ (.slice az ap.length aA)).setCell ⟨aC, 0, none⟩ (.slice aS aH.length aT)) g234 ao aQ aR from ei121 ab) hb); replace af := eU (.slice az ap.length aA) af hb; replace ae := eU (.slice aS aH.length aT) ae hb; replace HB := A_ (below_step (em121 HB) hb)) | ((with_reducible refine gC 127 ?_); refine gL 19 Try.func127 #[.pointer (some ⟨g234, 0, none⟩), .int .i64 (wrap64 (a7 - 1))] ((Xbu.calls g234 ao aQ aR (wrap64 (a7 - 1)) bl aZ a0 w _ (ei121 ab) (em121 HB) A6.out).mono ?_); rintro e w28 ⟨rfl, hi, hb, hk⟩; refine ⟨_, rfl, ?_⟩; replace aa := A_ (KeepBut.blk hk (g' := aq) (o := .cells #[.slice none 0 0] 26 (0, 0)) (eb aa) ai.out (by simp)); replace ac := A_ (KeepBut.blk hk (g' := ar) (o := .cells #[.slice none 0 0] 26 (0, 0)) (eb ac) aj.out (by simp)); replace ah := A_ (Kd.R_mono (Kd.R_keep (IsS121.apart (show IsS121 w _ g234 ao aQ aR from ei121 ab) (ea ah) (by decide)) hk (fun _ h => h.2)) (fun _ h => h.1)); replace an := A_ (Kd.R_mono (Kd.R_keep (IsS121.apart (show IsS121 w _ g234 ao aQ aR from ei121 ab) (ea an) (by decide)) hk (fun _ h => h.2)) (fun _ h => h.1)); replace af := A_ (KeepBut.blk hk (g' := aB) (o := .cells #[.slice az ap.length aA] 26 (0, 0)) (eb af) am.out (by simp)); replace ae := A_ (KeepBut.blk hk (g' := aC) (o := .cells #[.slice aS aH.length aT] 26 (0, 0)) (eb ae) ak.out (by simp)); replace HB := A_ hb; replace ab := A_ hi) | ((with_reducible refine gC 123 ?_); refine gL 21 Try.func123 #[.pointer (some ⟨g234, 0, none⟩), .int .i64 6] ((Xu.calls g234 ao aZ a0 6 bm aW aX w _ (ei121 ab) (em121 HB) A7.out).mono ?_); rintro e w29 ⟨rfl, hi, hb, hk⟩; refine ⟨_, rfl, ?_⟩; replace aa := A_ (KeepBut.blk hk (g' := aq) (o := .cells #[.slice none 0 0] 26 (0, 0)) (eb aa) ai.out (by simp)); replace ac := A_ (KeepBut.blk hk (g' := ar) (o := .cells #[.slice none 0 0] 26 (0, 0)) (eb ac) aj.out (by simp)); replace ah := A_ (Kd.R_mono (Kd.R_keep (IsS121.apart (show IsS121 w _ g234 ao aZ a0 from ei121 ab) (ea ah) (by decide)) hk (fun _ h => h.2)) (fun _ h => h.1)); replace an := A_ (Kd.R_mono (Kd.R_keep (IsS121.apart (show IsS121 w _ g234 ao aZ a0 from ei121 ab) (ea an) (by decide)) hk (fun _ h => h.2)) (fun _ h => h.1)); replace af := A_ (KeepBut.blk hk (g' := aB) (o := .cells #[.slice az ap.length aA] 26 (0, 0)) (eb af) am.out (by simp)); replace ae := A_ (KeepBut.blk hk (g' := aC) (o := .cells #[.slice aS aH.length aT] 26 (0, 0)) (eb ae) ak.out (by simp)); replace HB := A_ hb; replace ab := A_ hi))
 (try simp only [Act.put, List.setIfInBounds_toArray, List.set_cons_zero, List.set_cons_succ])
 go_cut [] (fun wc => ∃ (kq : Nat) (aw : Int) (ax : Int) (al : List Int) (ay : Value), Aside0 (Xv.j0 kq bl ao aw ax ap al = some (r1, r2, r3)) ∧ Aside0 (kq ≤ k) ∧ Aside0 (Kd.R (Kd.int .i64) 2 wc w.heap.size (fun k_ => some k_ ≠ (ay : Value).ownBlock) (.slice az ap.length aA) ap) ∧ Aside0 (Kd.R (Kd.int .i64) 2 wc w.heap.size (fun k_ => some k_ ≠ ((.slice az ap.length aA) : Value).ownBlock) ay al) ∧ Aside0 (wc.heap[aq]? = some (.cells #[(.slice none 0 0)] 26 (0, 0))) ∧ Aside0 (wc.heap[ar]? = some (.cells #[(.slice none 0 0)] 26 (0, 0))) ∧ Aside0 (wc.heap[aB]? = some (.cells #[(.slice az ap.length aA)] 26 (0, 0))) ∧ Aside0 (wc.heap[aC]? = some (.cells #[ay] 26 (0, 0))) ∧ Aside0 (IsS121 w wc g234 ao aw ax) ∧ Aside0 (Below w.heap.size w wc))
 case first =>
  have H := HC8.out; clear HC8
  by_cases c30 : bm = 0
  ·rw [if_pos c30] at H; obtain ⟨aU, bn⟩ := bT c30; clear c30; (first | rw [aU] | (simp only [i64_w, i32_w]; rw [aU]) | skip); replace H := oB H; obtain ⟨⟨aY, bo, bp⟩, A31, H⟩ := H; (try dsimp only at H); have H' := A_ H; clear H
   go_wp2_with (first | ((with_reducible refine gC 122 ?_); refine gL 24 Try.func122 #[.pointer (some ⟨g234, 0, none⟩)] ((Xa.calls k g234 ao aW aX aY bo bp w _ (ei121 ab) (em121 HB) A31.out).mono ?_); rintro e w32 ⟨cx, rfl, ho0, hi, hb, hk⟩; refine ⟨_, rfl, ?_⟩; replace aa := A_ (KeepBut.blk hk (g' := aq) (o := .cells #[.slice none 0 0] 26 (0, 0)) (eb aa) ai.out (by simp)); replace ac := A_ (KeepBut.blk hk (g' := ar) (o := .cells #[.slice none 0 0] 26 (0, 0)) (eb ac) aj.out (by simp)); replace af := A_ (KeepBut.blk hk (g' := aB) (o := .cells #[.slice az ap.length aA] 26 (0, 0)) (eb af) am.out (by simp)); replace ae := A_ (KeepBut.blk hk (g' := aC) (o := .cells #[.slice aS aH.length aT] 26 (0, 0)) (eb ae) ak.out (by simp)); have a3 := A_ (Kd.R_lower (Kd.R_new' (Kd.R_new' ho0 (Kd.R_lt (ea ah))) (Kd.R_lt (ea an))) (below_size (em121 HB))); replace ah := A_ (Kd.R_mono (Kd.R_told (Kd.R_oldK (IsS121.apart (show IsS121 w _ g234 ao aW aX from ei121 ab) (ea ah) (by decide)) hk) (Kd.R_base ho0)) (fun _ h_ => h_.1)); replace an := A_ (Kd.R_mono (Kd.R_told (Kd.R_oldK (IsS121.apart (show IsS121 w _ g234 ao aW aX from ei121 ab) (ea an) (by decide)) hk) (Kd.R_base ho0)) (fun _ h_ => h_.1)); replace HB := A_ hb; replace ab := A_ hi; obtain ⟨a8, a9, b1⟩ := Kd.R_slice a3.out; subst b1; have cn := au.out; have co := aF.out; have cp := av.out; have cq := aG.out; have cr := aN.out; have cs := aM.out; have ct := ak.out; have cu := aO.out; have bE := bC ae; have bG := bF ae))
   go_meet
   case rel => exact ⟨_, (bo), (bp), (aY), (.slice a8 aY.length a9), H', ⟨by first | omega | exact Nat.le_refl _⟩, ⟨rX (Kd.R_mono (rF ah.out ae (.slice a8 aY.length a9)) (fun _ hk => hk.1.2))⟩, ⟨rX (Kd.R_mono (rF a3.out ae (.slice a8 aY.length a9)) (fun _ hk => hk.1.1.2))⟩, ⟨eb aa⟩, ⟨eb ac⟩, ⟨eb af⟩, ⟨eP ae⟩, ⟨ei121 ab⟩, ⟨em121 HB⟩⟩
  ·rw [if_neg c30] at H; obtain ⟨aU, bn⟩ := bN c30; (first | rw [aU] | (simp only [i64_w, i32_w]; rw [aU]) | skip); have H' := A_ H; clear H
   go_wp2
   go_meet
   case rel => exact ⟨_, (aW), (aX), (aH), (.slice aS aH.length aT), H', ⟨by first | omega | exact Nat.le_refl _⟩, ⟨rX (Kd.R_mono ah.out (fun _ hk => hk.2))⟩, ⟨rX (Kd.R_mono an.out (fun _ hk => hk.2))⟩, ⟨eb aa⟩, ⟨eb ac⟩, ⟨eb af⟩, ⟨eb ae⟩, ⟨ei121 ab⟩, ⟨em121 HB⟩⟩
 case rest =>
  clear HC8; obtain ⟨kq, aw, ax, al, ay, HA, HJ7, ag, ad, aa, ac, af, ae, ab, HB⟩ := hcut
  cases kq with
  | zero => exact absurd HA.out (by simp [Xv.j0])
  | succ kj7 =>
   have H := HA.out; clear HA; simp only [Xv.j0] at H; replace H := oB H; obtain ⟨⟨a1, bq, br⟩, A39, H⟩ := H; (try dsimp only at H); replace H := oB H; obtain ⟨⟨a2, b2, b3⟩, A40, H⟩ := H; (try dsimp only at H); simp only [Option.some.injEq, Prod.mk.injEq] at H; obtain ⟨rfl, rfl, rfl⟩ := H
   try go_wp2
   replace ag := rD ag; replace ad := rD ad; replace aa := bD aa; replace ac := bD ac; replace af := bD af; replace ae := bD ae; replace ab := A_ (IsS121.drew ab.out); replace HB := wD HB; refine sT 10 (fun w' => w'.cell? ⟨aB, 0, none⟩ = some (.slice az ap.length aA) ∧ w'.cell? ⟨aC, 0, none⟩ = some (ay)) (bM 10 0) Xv.tab6 Xv.bits6 ⟨bc af, bc ae⟩ (fun hHeld HT_ HW_ => ?_)
   generalize wc.drew = w41 at ag ad aa ac af ae ab HB hHeld ⊢; refine pA 0 25 (bM 10 1) HT_ ?_; refine pA 3 28 (bM 10 9) HT_ ?_; refine pA 4 29 (bM 10 25) HT_ ?_; refine tA 1 26 (bM 10 27) HT_ HW_ hHeld ?_; refine tA 5 30 (bM 10 59) HT_ HW_ hHeld ?_; refine oN 2 (some 27) (bM 10 63) HT_ (fun K hK => ?_); refine gS Try.func128 #[.pointer (some ⟨g234, 0, none⟩), .agg #[.slice az ap.length aA]] ((Xe.calls g234 ao aw ax (fun k_ => some k_ = (.slice az ap.length aA : Value).ownBlock) (.slice az ap.length aA) ap a1 bq br w _ (ei121 ab) (em121 HB) (Kd.R_tight rfl ag.out) A39.out).mono ?_); rintro e w42 ⟨bs, rfl, ho0, hi, hb, hkp⟩; refine ⟨_, rfl, ?_⟩; replace aa := A_ (blk_kept (eb aa) hkp (fun hs_ => Or.elim hs_ (fun hs_ => (fun e_ => (Kd.R_ne ag.out aa.out (by decide)) e_) hs_) (fun e_ => ai.out e_))); replace ac := A_ (blk_kept (eb ac) hkp (fun hs_ => Or.elim hs_ (fun hs_ => (fun e_ => (Kd.R_ne ag.out ac.out (by decide)) e_) hs_) (fun e_ => aj.out e_))); replace af := A_ (blk_kept (eb af) hkp (fun hs_ => Or.elim hs_ (fun hs_ => (fun e_ => (Kd.R_ne ag.out af.out (by decide)) e_) hs_) (fun e_ => am.out e_))); replace ae := A_ (blk_kept (eb ae) hkp (fun hs_ => Or.elim hs_ (fun hs_ => (fun e_ => (Kd.R_ne ag.out ae.out (by decide)) e_) hs_) (fun e_ => ak.out e_))); have aP := A_ (Kd.R_mono (ok' := fun k_ => some k_ ≠ (ay : Value).ownBlock) ho0 (fun k_ hk_ => Or.elim hk_ (fun hs_ => fun e_ => ((((IsS121.apart ab.out ad.out (by decide))).1 k_ e_.symm).1) hs_) (fun hn_ => (Kd.fresh' (Kd.R_lt (ea ad)) k_ hn_)))); replace ad := A_ (Kd.R_mono (ok' := fun k_ => some k_ ≠ (bs : Value).ownBlock) (Kd.R_keptB ((IsS121.apart ab.out ad.out (by decide))) hkp (fun k_ hk_ hs_ => Or.elim hs_ (fun hs_ => (hk_.1) hs_) (fun e_ => (hk_.2) e_))) (fun k_ hk_ => fun e_ => Or.elim (ho0.1 k_ e_.symm) (fun hs_ => hk_.2.1 (Or.inl hs_)) (fun hn_ => Nat.not_le.2 hk_.2.2 hn_))); replace ab := A_ hi; replace HB := A_ hb; clear ag
   (try clear hkp)
   obtain ⟨ba, bb, bt⟩ := Kd.R_slice ad.out; (first | subst bt | (injection bt with f1_ f2_ f3_; have f4_ := f1_.symm; have f5_ := f3_.symm; clear f1_ f2_ f3_; subst f4_; subst f5_)); refine hK.out _ _ ⟨bc af, bc ae⟩ (fun hHeld => ?_); clear hK K; refine nM (some 27) ?_; refine oN 6 (some 31) (bM 10 127) HT_ (fun K hK => ?_); refine gS Try.func128 #[.pointer (some ⟨g234, 0, none⟩), .agg #[.slice ba al.length bb]] ((Xe.calls g234 ao bq br (fun k_ => some k_ = (.slice ba al.length bb : Value).ownBlock) (.slice ba al.length bb) al a2 b2 b3 w _ (ei121 ab) (em121 HB) (Kd.R_tight rfl ad.out) A40.out).mono ?_); rintro e w44 ⟨b4, rfl, ho0, hi, hb, hkp⟩; refine ⟨_, rfl, ?_⟩; replace aa := A_ (blk_kept (eb aa) hkp (fun hs_ => Or.elim hs_ (fun hs_ => (fun e_ => (Kd.R_ne ad.out aa.out (by decide)) e_) hs_) (fun e_ => ai.out e_))); replace ac := A_ (blk_kept (eb ac) hkp (fun hs_ => Or.elim hs_ (fun hs_ => (fun e_ => (Kd.R_ne ad.out ac.out (by decide)) e_) hs_) (fun e_ => aj.out e_))); replace af := A_ (blk_kept (eb af) hkp (fun hs_ => Or.elim hs_ (fun hs_ => (fun e_ => (Kd.R_ne ad.out af.out (by decide)) e_) hs_) (fun e_ => am.out e_))); replace ae := A_ (blk_kept (eb ae) hkp (fun hs_ => Or.elim hs_ (fun hs_ => (fun e_ => (Kd.R_ne ad.out ae.out (by decide)) e_) hs_) (fun e_ => ak.out e_))); have a4 := A_ (Kd.R_mono (ok' := fun k_ => some k_ ≠ (bs : Value).ownBlock) ho0 (fun k_ hk_ => Or.elim hk_ (fun hs_ => fun e_ => ((((IsS121.apart ab.out aP.out (by decide))).1 k_ e_.symm).1) hs_) (fun hn_ => (Kd.fresh' (Kd.R_lt (ea aP)) k_ hn_)))); replace aP := A_ (Kd.R_mono (ok' := fun k_ => some k_ ≠ (b4 : Value).ownBlock) (Kd.R_keptB ((IsS121.apart ab.out aP.out (by decide))) hkp (fun k_ hk_ hs_ => Or.elim hs_ (fun hs_ => (hk_.1) hs_) (fun e_ => (hk_.2) e_))) (fun k_ hk_ => fun e_ => Or.elim (ho0.1 k_ e_.symm) (fun hs_ => hk_.2.1 (Or.inl hs_)) (fun hn_ => Nat.not_le.2 hk_.2.2 hn_))); replace ab := A_ hi; replace HB := A_ hb; clear ad
   (try clear hkp)
   obtain ⟨bd, be, bu⟩ := Kd.R_slice aP.out; (first | subst bu | (injection bu with f1_ f2_ f3_; have f4_ := f1_.symm; have f5_ := f3_.symm; clear f1_ f2_ f3_; subst f4_; subst f5_)); obtain ⟨bf, bg, bv⟩ := Kd.R_slice a4.out; (first | subst bv | (injection bv with f1_ f2_ f3_; have f4_ := f1_.symm; have f5_ := f3_.symm; clear f1_ f2_ f3_; subst f4_; subst f5_)); refine hK.out _ _ ⟨bc af, bc ae⟩ (fun hHeld => ?_); clear hK K; refine nM (some 31) ?_; refine oN 7 none (bM 10 255) HT_ (fun K hK => ?_); have hs46 : w44.cell? ⟨aq, 0, none⟩ = some (.slice none 0 0) := bc aa; have hfs46 := blk_frozen aa.out 0; have bH := aJ.out; have bI := aD.out; have bJ := au.out; have bK := aI.out; have bO := aK.out; have bQ := aF.out; refine skip_ (w1 := ?_) (by rfl) rfl ?_ ?_; rotate_left
   ·go_simp; rfl
   refine hK.out _ _ ⟨((cell_far (p := ⟨aq, _, none⟩) aD.out _).trans (hHeld.1)), ((cell_far (p := ⟨aq, _, none⟩) au.out _).trans (hHeld.2))⟩ (fun hHeld => ?_); clear hK K; refine pA 8 3 (bM 10 511) HT_ ?_; refine oN 9 none (bM 10 1023) HT_ (fun K hK => ?_); have hs48 : w44.cell? ⟨ar, 0, none⟩ = some (.slice none 0 0) := bc ac; have hfs48 := blk_frozen ac.out 0; have bR := aI.out; have bS := aE.out; have bU := av.out; have bV := aJ.out; have bW := aL.out; have bY := aG.out; refine skip_ (w1 := ?_) (by rfl) rfl ?_ ?_; rotate_left
   ·go_simp; rfl
   refine hK.out _ _ ⟨((cell_far (p := ⟨ar, _, none⟩) aE.out _).trans (hHeld.1)), ((cell_far (p := ⟨ar, _, none⟩) av.out _).trans (hHeld.2))⟩ (fun hHeld => ?_); clear hK K; refine done_ (done_of HT_.out (by kernel_rfl)) ?_
   try go_wp2
   refine bodyPost_ret (results_list (rs := [.cell 2 26, .tmp 3, .cell 4 26]) rfl (by simp) (.cell aq 26 #[.slice bd a1.length be] (0, 0) _ rfl (eP aa) Try.underlying26 rfl (by kernel_rfl) (.tmp (.cell ar 26 #[.slice bf a2.length bg] (0, 0) _ rfl (eP ac) Try.underlying26 rfl (by kernel_rfl) .nil)))) rfl ?_; exact ⟨_, _, er, rX (Kd.R_mono (rG aP.out aa ac (.slice bd a1.length be) (.slice bf a2.length bg)) (fun _ hk => hk.1.1)), rX (Kd.R_mono (rG a4.out aa ac (.slice bd a1.length be) (.slice bf a2.length bg)) (fun _ hk => hk.1.1)), em121 HB⟩

/-! ### impl_isTree: function 114 -/
mutual
def Xy.j0 : Nat → List Int → Bool → Option (Bool)
  | 0, _, _ => none
  | k + 1, x0, x13 => if x13 = true then (some false) else (Xy.l0 k 1 x0 (x0.length : Int) 0)
def Xy.l0 : Nat → Int → List Int → Int → Int → Option (Bool)
  | 0, _, _, _, _ => none
  | k + 1, x3, x14, x15, x16 => if x16 < x15 then (if 0 ≤ x16 then (if x16 < (x14.length : Int) then (if x3 = 0 then (Xy.j2 k x3 (rd x14 x16) x14 x15 x16 true) else (if (rd x14 x16) < 0 then (Xy.j2 k x3 (rd x14 x16) x14 x15 x16 true) else (Xy.j2 k x3 (rd x14 x16) x14 x15 x16 (decide ((rd x14 x16) ≥ 24))))) else (none)) else (none)) else (some (x3 == 0))
def Xy.j2 : Nat → Int → Int → List Int → Int → Int → Bool → Option (Bool)
  | 0, _, _, _, _, _, _ => none
  | k + 1, x3, x5, x14, x15, x16, x29 => if x29 = true then (some false) else (Xy.l0 k (wrap64 (x3 + (wrap64 (x5 - 1)))) x14 x15 (wrap64 (x16 + 1)))
end
def Xy.f (k : Nat) (l0 : List Int) : Option (Bool) := if (l0.length : Int) < 1 then (Xy.j0 k l0 true) else (Xy.j0 k l0 (decide ((l0.length : Int) > 24)))
theorem Xy.mono_l : ∀ k, (∀ y0 y1, LeO (Xy.j0 k y0 y1) (Xy.j0 (k + 1) y0 y1)) ∧ (∀ y0 y1 y2 y3, LeO (Xy.l0 k y0 y1 y2 y3) (Xy.l0 (k + 1) y0 y1 y2 y3)) ∧ (∀ y0 y1 y2 y3 y4 y5, LeO (Xy.j2 k y0 y1 y2 y3 y4 y5) (Xy.j2 (k + 1) y0 y1 y2 y3 y4 y5))
  | 0 => ⟨fun _ _ r h => by simp [Xy.j0] at h, fun _ _ _ _ r h => by simp [Xy.l0] at h, fun _ _ _ _ _ _ r h => by simp [Xy.j2] at h⟩
  | k + 1 => by
    obtain ⟨ih0, ih1, ih2⟩ := Xy.mono_l k
    refine ⟨?_, ?_, ?_⟩
    · intro y0 y1
      unfold Xy.j0
      exact mW
    · intro y0 y1 y2 y3
      unfold Xy.l0
      exact mW
    · intro y0 y1 y2 y3 y4 y5
      unfold Xy.j2
      exact mW
theorem Xy.mono : ∀ a0 k, LeO (Xy.f k a0) (Xy.f (k + 1) a0) := by
  intro a0 k
  obtain ⟨ih0, ih1, ih2⟩ := Xy.mono_l k
  unfold Xy.f
  exact mW
theorem Xy.Z0 {p : Prop} (h : p := by first | (with_reducible assumption) | assumption) : p := h
theorem Xy.Z1 {p : Prop} (h : p := by first | rfl | (simp; done) | (simp [*]; done)) : p := h
theorem Xy.calls (k : Nat) (A0 : Option Addr) (c0 : Nat) (l0 : List Int) (r : Bool) (w : World) (hr0 : Kd.C (Kd.int .i64) w A0 l0.length l0) (hc0 : l0.length ≤ c0) (h : Xy.f k l0 = some r) :
  Calls Try.prog 114 #[.slice A0 l0.length c0] w fun e w' => e = .returned (.bool r) ∧ Drawn0 w w' := by
 have HR0 := A_ hr0; have HC0 := A_ hc0; clear hr0 hc0; unfold Xy.f at h; have H := h; clear h; have HC2 := A_ H; clear H
 go_enter Try.func114, Try.ntmps114
 go_upto_region 1 with (fail)
 go_cut [13] (fun v13 wc => ∃ (kq : Nat) (ab : Bool), v13 = .bool ab ∧ Aside0 (Xy.j0 kq l0 ab = some r) ∧ Aside0 (kq ≤ k) ∧ Drawn0 w wc)
 case first =>
  have H := HC2.out; clear HC2
  by_cases c3 : (l0.length : Int) < 1
  ·rw [if_pos c3] at H; have ae := decide_eq_true c3; have ai : decide (l0.length < 1) = true := decide_eq_true (by omega); clear c3; (first | rw [ae] | (simp only [i64_w, i32_w]; rw [ae]) | skip); have H' := A_ H; clear H
   go_wp2
   go_meet
   case rel => exact ⟨_, (true), Xy.Z1, H', ⟨by first | omega | exact Nat.le_refl _⟩, by repeat (first | exact Drawn0.refl _ | apply Drawn0.step)⟩
  ·rw [if_neg c3] at H; have ae := decide_eq_false c3; have ai : decide (l0.length < 1) = false := decide_eq_false (by omega); clear c3; (first | rw [ae] | (simp only [i64_w, i32_w]; rw [ae]) | skip); have H' := A_ H; clear H
   go_wp2
   go_meet
   case rel => exact ⟨_, (decide ((l0.length : Int) > 24)), Xy.Z1, H', ⟨by first | omega | exact Nat.le_refl _⟩, by repeat (first | exact Drawn0.refl _ | apply Drawn0.step)⟩
 case rest =>
  clear HC2; obtain ⟨kq, ab, rfl, HA, HJ1, ⟨mc1, rfl⟩⟩ := hcut
  cases kq with
  | zero => exact absurd HA.out (by simp [Xy.j0])
  | succ kj1 =>
   have H := HA.out; clear HA; simp only [Xy.j0] at H
   by_cases c4 : ab = true
   ·subst c4; rw [if_pos rfl] at H; obtain rfl := Option.some.inj H
    go_wp2
    go_ret
    exact ⟨by first | rfl | (simp; done) | (simp [*]; done), by repeat (first | exact Drawn0.refl _ | apply Drawn0.step)⟩
   ·replace c4 := Bool.eq_false_iff.mpr c4; subst c4; rw [if_neg nF] at H; have H' := A_ H; clear H
    go_wp2
    go_loopg [3, 16] kj1 (fun kq v3 v16 w' => ∃ (ad : Int) (aa : Int), v3 = .int .i64 ad ∧ v16 = .int .i64 aa ∧ Aside0 (Xy.l0 kq ad l0 (l0.length : Int) aa = some r) ∧ Aside0 (kq ≤ kj1) ∧ Drawn0 w w')
    case atStart => exact ⟨(1), (0), Xy.Z1, Xy.Z1, H', ⟨Nat.le_refl _⟩, by repeat (first | exact Drawn0.refl _ | apply Drawn0.step)⟩
    case round =>
     clear H'; obtain ⟨ad, aa, rfl, rfl, HA, HK2, ⟨m2, rfl⟩⟩ := hrel
     cases gk with
     | zero => exact absurd HA.out (by simp [Xy.l0])
     | succ k2 =>
      have H := HA.out; clear HA; simp only [Xy.l0] at H
      by_cases c5 : aa < (l0.length : Int)
      ·rw [if_pos c5] at H; have aj := decide_eq_true c5; clear c5
       replace H := iD H; obtain ⟨am, H⟩ := H
       replace H := iD H; obtain ⟨an, H⟩ := H; have HC8 := A_ H; clear H; have p269 : 0 ≤ (aa : Int) := of_decide_eq_true Xy.Z0; have q269 : aa < (l0.length : Int) := of_decide_eq_true Xy.Z0; obtain ⟨al, e269, ag⟩ := Kd.at_int HR0.out aa p269 q269; cases e269; replace p269 := eq_true p269; replace q269 := eq_true q269
       go_upto_region 7 with (fail)
       go_cut [29] (fun v29 wc => ∃ (kq : Nat) (ac : Bool), v29 = .bool ac ∧ Aside0 (Xy.j2 kq ad (rd l0 aa) l0 (l0.length : Int) aa ac = some r) ∧ Aside0 (kq ≤ k2) ∧ Drawn0 w wc)
       case first =>
        have H := HC8.out; clear HC8
        by_cases c9 : ad = 0
        ·rw [if_pos c9] at H; obtain ⟨af, ak⟩ := bT c9; clear c9; (first | rw [af] | (simp only [i64_w, i32_w]; rw [af]) | skip); have H' := A_ H; clear H
         go_wp2
         go_meet
         case rel => exact ⟨_, (true), Xy.Z1, H', ⟨by have := HJ1.out; have := HK2.out; first | omega | exact Nat.le_refl _⟩, by repeat (first | exact Drawn0.refl _ | apply Drawn0.step)⟩
        ·rw [if_neg c9] at H; obtain ⟨af, ak⟩ := bN c9; (first | rw [af] | (simp only [i64_w, i32_w]; rw [af]) | skip)
         by_cases c10 : (rd l0 aa) < 0
         ·rw [if_pos c10] at H; have ah := decide_eq_true c10; clear c10; have H' := A_ H; clear H
          go_wp2
          go_meet
          case rel => exact ⟨_, (true), Xy.Z1, H', ⟨by have := HJ1.out; have := HK2.out; first | omega | exact Nat.le_refl _⟩, by repeat (first | exact Drawn0.refl _ | apply Drawn0.step)⟩
         ·rw [if_neg c10] at H; have ah := decide_eq_false c10; clear c10; have H' := A_ H; clear H
          go_wp2
          go_meet
          case rel => exact ⟨_, (decide ((rd l0 aa) ≥ 24)), Xy.Z1, H', ⟨by have := HJ1.out; have := HK2.out; first | omega | exact Nat.le_refl _⟩, by repeat (first | exact Drawn0.refl _ | apply Drawn0.step)⟩
       case rest =>
        clear HC8
        try clear hx2
        try clear ag
        obtain ⟨kq, ac, rfl, HA, HJ7, ⟨mc7, rfl⟩⟩ := hcut
        cases kq with
        | zero => exact absurd HA.out (by simp [Xy.j2])
        | succ kj7 =>
         have H := HA.out; clear HA; simp only [Xy.j2] at H
         by_cases c11 : ac = true
         ·subst c11; rw [if_pos rfl] at H; obtain rfl := Option.some.inj H
          go_wp2
          go_ret
          exact ⟨by first | rfl | (simp; done) | (simp [*]; done), by repeat (first | exact Drawn0.refl _ | apply Drawn0.step)⟩
         ·replace c11 := Bool.eq_false_iff.mpr c11; subst c11; rw [if_neg nF] at H; have H' := A_ H; clear H
          go_wp2
          go_roundg kj7
          case measure => have := HJ1.out; have := HK2.out; have := HJ7.out; omega
          case rel => exact ⟨(wrap64 (ad + (wrap64 ((rd l0 aa) - 1)))), (wrap64 (aa + 1)), Xy.Z1, Xy.Z1, H', ⟨by have := HJ1.out; have := HK2.out; have := HJ7.out; omega⟩, by repeat (first | exact Drawn0.refl _ | apply Drawn0.step)⟩
      ·rw [if_neg c5] at H; have aj := decide_eq_false c5; clear c5; obtain rfl := Option.some.inj H
       go_wp2
       go_ret
       exact ⟨by first | rfl | (simp; done) | (simp [*]; done), by repeat (first | exact Drawn0.refl _ | apply Drawn0.step)⟩

/-! ### impl_IsTree: function 24 -/
def Xav.f (k : Nat) (l0_0 : List Int) : Option (Bool) := (Xy.f k l0_0).bind fun t271 => (some t271)
theorem Xav.mono a0 k : LeO (Xav.f k a0) (Xav.f (k + 1) a0) := by unfold Xav.f; have := Xy.mono; exact mW
theorem Xav.calls (k : Nat) (A0_0 : Option Addr) (c0_0 : Nat) (l0_0 : List Int) (r : Bool) (w : World) (hr0_0 : Kd.C (Kd.int .i64) w A0_0 l0_0.length l0_0) (hc0_0 : l0_0.length ≤ c0_0) (h : Xav.f k l0_0 = some r) :
  Calls Try.prog 24 #[.agg #[.slice A0_0 l0_0.length c0_0]] w fun e w' => e = .returned (.bool r) ∧ Below w.heap.size w w' := by
 have hu26 := Try.underlying26; have ab := A_ hr0_0; have ac := A_ hc0_0; clear hr0_0 hc0_0; have HB := A_ (Below.refl w.heap.size w); unfold Xav.f at h; have H := h; clear h; replace H := oB H; obtain ⟨ad, A2, H⟩ := H; obtain rfl := Option.some.inj H
 go_enter Try.func24, Try.ntmps24
 go_wp2_with (first | ((with_reducible refine gD 1 ?_); refine bX 1 #[.slice A0_0 l0_0.length c0_0] 26 HB ?_; clear HB; intro ag w3 aa ah HB hb hg; clear hb hg; have ae := bC aa; have af := bF aa) | ((with_reducible refine gC 114 ?_); refine gL 5 Try.func114 #[.slice A0_0 l0_0.length c0_0] ((Xy.calls k _ _ l0_0 ad _ (cS (Kd.C_below ab.out HB.out)) ac.out A2.out).mono ?_); rintro e w' ⟨rfl, ⟨nd, rfl⟩⟩; refine ⟨_, rfl, ?_⟩))
 go_ret
 exact ⟨er, el HB⟩

/-! ### impl_treeCode: function 117 -/
def Xj.l0 : Nat → List Int → Int → Int → List Int → Option (Int)
  | 0, _, _, _, _ => none
  | k + 1, x10, x11, x12, x273000 => if x12 < x11 then (if 0 ≤ x12 then (if x12 < (x10.length : Int) then (if (rd x10 x12) < 0 then (some 2) else (if (rd x10 x12) ≥ (x273000.length : Int) then (some 2) else (Xj.l0 k x10 x11 (wrap64 (x12 + 1)) x273000))) else (none)) else (none)) else (some 0)
def Xj.f (k : Nat) (l0_0 : List Int) (l1 : List Int) : Option (Int) := (Xav.f k l0_0).bind fun t273 => (if t273 = true then (Xj.l0 k l1 (l1.length : Int) 0 l0_0) else (some 1))
theorem Xj.mono_l : ∀ k, (∀ y0 y1 y2 y3, LeO (Xj.l0 k y0 y1 y2 y3) (Xj.l0 (k + 1) y0 y1 y2 y3))
  | 0 => fun _ _ _ _ r h => by simp [Xj.l0] at h
  | k + 1 => by
    have ih0 := Xj.mono_l k
    · intro y0 y1 y2 y3
      unfold Xj.l0
      have := Xav.mono; exact mW
theorem Xj.mono a0 a1 k : LeO (Xj.f k a0 a1) (Xj.f (k + 1) a0 a1) := by have ih0 := Xj.mono_l k; unfold Xj.f; have := Xav.mono; exact mW
theorem Xj.Z0 {p : Prop} (h : p := by first | (with_reducible assumption) | assumption) : p := h
theorem Xj.Z1 {p : Prop} (h : p := by first | rfl | (simp; done) | (simp [*]; done)) : p := h
theorem Xj.calls (k : Nat) (A0_0 : Option Addr) (c0_0 : Nat) (l0_0 : List Int) (A1 : Option Addr) (c1 : Nat) (l1 : List Int) (r : Int) (w : World) (hr0_0 : Kd.C (Kd.int .i64) w A0_0 l0_0.length l0_0) (hc0_0 : l0_0.length ≤ c0_0) (hr1 : Kd.C (Kd.int .i64) w A1 l1.length l1) (hc1 : l1.length ≤ c1) (h : Xj.f k l0_0 l1 = some r) :
  Calls Try.prog 117 #[.agg #[.slice A0_0 l0_0.length c0_0], .slice A1 l1.length c1] w fun e w' => e = .returned (.int .i64 r) ∧ Below w.heap.size w w' := by
 have hu26 := Try.underlying26; have ad := A_ hr0_0; have ae := A_ hc0_0; clear hr0_0 hc0_0; have HR1 := A_ hr1; have HC1 := A_ hc1; clear hr1 hc1; have HB := A_ (Below.refl w.heap.size w); unfold Xj.f at h; have H := h; clear h; replace H := oB H; obtain ⟨aq, A3, H⟩ := H
 by_cases c4 : aq = true
 ·subst c4; rw [if_pos rfl] at H; have H' := A_ H; clear H
  go_enter Try.func117, Try.ntmps117
  go_wp2_with (first | ((with_reducible refine gD 2 ?_); (try (refine gate_guard (by rfl) ?_; dsimp only)); refine bX 2 #[.slice A0_0 l0_0.length c0_0] 26 HB ?_; clear HB; intro af w5 ab ah HB hb hg; clear hb hg; have ar := bC ab; have au := bF ab) | ((with_reducible refine gC 24 ?_); refine gL 8 Try.func24 #[.agg #[.slice A0_0 l0_0.length c0_0]] ((Xav.calls k _ _ l0_0 true _ (cS (Kd.C_below ad.out HB.out)) ae.out A3.out).mono ?_); rintro e w7 ⟨rfl, hb⟩; refine ⟨_, rfl, ?_⟩; replace ab := eK ab hb; replace HB := eS HB hb))
  go_loopg [12] k (fun kq v12 w' => ∃ (ac : Int), v12 = .int .i64 ac ∧ Aside0 (Xj.l0 kq l1 (l1.length : Int) ac l0_0 = some r) ∧ Aside0 (kq ≤ k) ∧ Aside0 (w'.heap[af]? = some (.cells #[(.slice A0_0 l0_0.length c0_0)] 26 (0, 0))) ∧ Aside0 (Below w.heap.size w w'))
  case atStart => exact ⟨(0), Xj.Z1, H', ⟨Nat.le_refl _⟩, ⟨eb ab⟩, ⟨el HB⟩⟩
  case round =>
   clear H'; obtain ⟨ac, rfl, HA, HK1, ab, HB⟩ := hrel
   cases gk with
   | zero => exact absurd HA.out (by simp [Xj.l0])
   | succ k1 =>
    have H := HA.out; clear HA; simp only [Xj.l0] at H
    by_cases c8 : ac < (l1.length : Int)
    ·rw [if_pos c8] at H; have av := decide_eq_true c8; clear c8
     replace H := iD H; obtain ⟨ax, H⟩ := H
     replace H := iD H; obtain ⟨aw, H⟩ := H
     by_cases c11 : (rd l1 ac) < 0
     ·rw [if_pos c11] at H; have ai := decide_eq_true c11; clear c11; obtain rfl := Option.some.inj H; have p274 : 0 ≤ (ac : Int) := of_decide_eq_true Xj.Z0; have q274 : ac < (l1.length : Int) := of_decide_eq_true Xj.Z0; obtain ⟨ag, e274, aa⟩ := Kd.at_int HR1.out ac p274 q274; cases e274; replace aa := (HB.out.cell (World.block_lt_of_cell? w _ aa)).trans aa; replace p274 := eq_true p274; replace q274 := eq_true q274
      go_wp2
      go_ret
      exact ⟨er, el HB⟩
     ·rw [if_neg c11] at H; have ai := decide_eq_false c11; clear c11
      by_cases c12 : (rd l1 ac) ≥ (l0_0.length : Int)
      ·rw [if_pos c12] at H; have aj := decide_eq_true c12; clear c12; obtain rfl := Option.some.inj H; have p274 : 0 ≤ (ac : Int) := of_decide_eq_true Xj.Z0; have q274 : ac < (l1.length : Int) := of_decide_eq_true Xj.Z0; obtain ⟨ag, e274, aa⟩ := Kd.at_int HR1.out ac p274 q274; cases e274; replace aa := (HB.out.cell (World.block_lt_of_cell? w _ aa)).trans aa; replace p274 := eq_true p274; replace q274 := eq_true q274; have ak := bC ab; have al := bF ab
       go_wp2
       go_ret
       exact ⟨er, el HB⟩
      ·rw [if_neg c12] at H; have aj := decide_eq_false c12; clear c12; have H' := A_ H; clear H; have p274 : 0 ≤ (ac : Int) := of_decide_eq_true Xj.Z0; have q274 : ac < (l1.length : Int) := of_decide_eq_true Xj.Z0; obtain ⟨ag, e274, aa⟩ := Kd.at_int HR1.out ac p274 q274; cases e274; replace aa := (HB.out.cell (World.block_lt_of_cell? w _ aa)).trans aa; replace p274 := eq_true p274; replace q274 := eq_true q274; have am := bC ab; have an := bF ab
       go_wp2
       go_roundg k1
       case measure => have := HK1.out; omega
       case rel => exact ⟨(wrap64 (ac + 1)), Xj.Z1, H', ⟨by have := HK1.out; omega⟩, ⟨eb ab⟩, ⟨el HB⟩⟩
    ·rw [if_neg c8] at H; have av := decide_eq_false c8; clear c8; obtain rfl := Option.some.inj H
     go_wp2
     go_ret
     exact ⟨er, el HB⟩
 ·replace c4 := Bool.eq_false_iff.mpr c4; subst c4; rw [if_neg nF] at H; obtain rfl := Option.some.inj H
  go_enter Try.func117, Try.ntmps117
  go_wp2_with (first | ((with_reducible refine gD 2 ?_); (try (refine gate_guard (by rfl) ?_; dsimp only)); refine bX 2 #[.slice A0_0 l0_0.length c0_0] 26 HB ?_; clear HB; intro af w15 ab ah HB hb hg; clear hb hg; have ao := bC ab; have ap := bF ab) | ((with_reducible refine gC 24 ?_); refine gL 8 Try.func24 #[.agg #[.slice A0_0 l0_0.length c0_0]] ((Xav.calls k _ _ l0_0 false _ (cS (Kd.C_below ad.out HB.out)) ae.out A3.out).mono ?_); rintro e w17 ⟨rfl, hb⟩; refine ⟨_, rfl, ?_⟩; replace ab := eK ab hb; replace HB := eS HB hb))
  go_ret
  exact ⟨er, el HB⟩

/-! ### impl_areTrees: function 129 -/
def Xz.l0 : Nat → List (S26) → Int → Int → Option (Bool)
  | 0, _, _, _ => none
  | k + 1, x5, x6, x7 => if x7 < x6 then (if 0 ≤ x7 then (if x7 < (x5.length : Int) then ((Xav.f k ((rd_T26 x5 x7).f0)).bind fun t277 => (if t277 = true then (Xz.l0 k x5 x6 (wrap64 (x7 + 1))) else (some false))) else (none)) else (none)) else (some true)
def Xz.f (k : Nat) (l0 : List (S26)) : Option (Bool) := Xz.l0 k l0 (l0.length : Int) 0
theorem Xz.mono_l : ∀ k, (∀ y0 y1 y2, LeO (Xz.l0 k y0 y1 y2) (Xz.l0 (k + 1) y0 y1 y2))
  | 0 => fun _ _ _ r h => by simp [Xz.l0] at h
  | k + 1 => by
    have ih0 := Xz.mono_l k
    · intro y0 y1 y2
      unfold Xz.l0
      have := Xav.mono; exact mW
theorem Xz.mono a0 k : LeO (Xz.f k a0) (Xz.f (k + 1) a0) := by have ih0 := Xz.mono_l k; unfold Xz.f; have := Xav.mono; exact mW
theorem Xz.Z0 {p : Prop} (h : p := by exact eP ac) : p := h
theorem Xz.Z1 {p : Prop} (h : p := by first | (with_reducible assumption) | assumption) : p := h
theorem Xz.Z2 {p : Prop} (h : p := by first | rfl | (simp; done) | (simp [*]; done)) : p := h
theorem Xz.calls (k : Nat) (A0 : Option Addr) (c0 : Nat) (l0 : List (S26)) (r : Bool) (w : World) (hr0 : Kd.C k26 w A0 l0.length l0) (hc0 : l0.length ≤ c0) (h : Xz.f k l0 = some r) :
  Calls Try.prog 129 #[.slice A0 l0.length c0] w fun e w' => e = .returned (.bool r) ∧ Below w.heap.size w w' := by
 have hu26 := Try.underlying26; have HR0 := A_ hr0; have HC0 := A_ hc0; clear hr0 hc0; have HB := A_ (Below.refl w.heap.size w); unfold Xz.f at h; have H := h; clear h; have H' := A_ H; clear H
 go_enter Try.func129, Try.ntmps129
 go_wp2
 go_loopg [7] k (fun kq v7 w' => ∃ (ab : Int), v7 = .int .i64 ab ∧ Aside0 (Xz.l0 kq l0 (l0.length : Int) ab = some r) ∧ Aside0 (kq ≤ k) ∧ Aside0 (Below w.heap.size w w'))
 case atStart => exact ⟨(0), Xz.Z2, H', ⟨Nat.le_refl _⟩, ⟨el HB⟩⟩
 case round =>
  clear H'; obtain ⟨ab, rfl, HA, HK1, HB⟩ := hrel
  cases gk with
  | zero => exact absurd HA.out (by simp [Xz.l0])
  | succ k1 =>
   have H := HA.out; clear HA; simp only [Xz.l0] at H
   by_cases c2 : ab < (l0.length : Int)
   ·rw [if_pos c2] at H; have ak := decide_eq_true c2; clear c2
    replace H := iD H; obtain ⟨ao, H⟩ := H
    replace H := iD H; obtain ⟨ap, H⟩ := H; replace H := oB H; obtain ⟨al, A5, H⟩ := H
    by_cases c6 : al = true
    ·subst c6; rw [if_pos rfl] at H; have H' := A_ H; clear H; have p275 : 0 ≤ (ab : Int) := of_decide_eq_true Xz.Z1; have q275 : ab < (l0.length : Int) := of_decide_eq_true Xz.Z1; obtain ⟨ag, A275_0, c275_0, e275, aa, hl275_0, hi275_0⟩ := at_T26 HR0.out ab p275 q275; cases e275; replace aa := (HB.out.cell (World.block_lt_of_cell? w _ aa)).trans aa; have ad := A_ hi275_0; have ae := A_ hl275_0; clear hi275_0 hl275_0; replace p275 := eq_true p275; replace q275 := eq_true q275
     go_wp2_with (first | ((with_reducible refine gD 4 ?_); refine bX 4 #[.slice none 0 0] 26 HB ?_; clear HB; intro af w7 ac ah HB hb hg; clear hb hg; have am := bC ac; have an := bF ac) | ((with_reducible refine gC 24 ?_); refine gL 12 Try.func24 #[.agg #[.slice A275_0 ((rd_T26 l0 ab).f0).length c275_0]] ((Xav.calls k1 _ _ ((rd_T26 l0 ab).f0) true _ (Kd.C_below ad.out (el HB)) ae.out A5.out).mono ?_); rintro e w9 ⟨rfl, hb⟩; refine ⟨_, rfl, ?_⟩; replace ac := A_ (blk_below (g := af) (o := .cells #[.slice A275_0 ((rd_T26 l0 ab).f0).length c275_0] 26 (0, 0)) Xz.Z0 hb); replace HB := eS HB hb))
     go_roundg k1
     case measure => have := HK1.out; omega
     case rel => exact ⟨(wrap64 (ab + 1)), Xz.Z2, H', ⟨by have := HK1.out; omega⟩, ⟨el HB⟩⟩
    ·replace c6 := Bool.eq_false_iff.mpr c6; subst c6; rw [if_neg nF] at H; obtain rfl := Option.some.inj H; have p275 : 0 ≤ (ab : Int) := of_decide_eq_true Xz.Z1; have q275 : ab < (l0.length : Int) := of_decide_eq_true Xz.Z1; obtain ⟨ag, A275_0, c275_0, e275, aa, hl275_0, hi275_0⟩ := at_T26 HR0.out ab p275 q275; cases e275; replace aa := (HB.out.cell (World.block_lt_of_cell? w _ aa)).trans aa; have ad := A_ hi275_0; have ae := A_ hl275_0; clear hi275_0 hl275_0; replace p275 := eq_true p275; replace q275 := eq_true q275
     go_wp2_with (first | ((with_reducible refine gD 4 ?_); refine bX 4 #[.slice none 0 0] 26 HB ?_; clear HB; intro af w10 ac ah HB hb hg; clear hb hg; have ai := bC ac; have aj := bF ac) | ((with_reducible refine gC 24 ?_); refine gL 12 Try.func24 #[.agg #[.slice A275_0 ((rd_T26 l0 ab).f0).length c275_0]] ((Xav.calls k1 _ _ ((rd_T26 l0 ab).f0) false _ (Kd.C_below ad.out (el HB)) ae.out A5.out).mono ?_); rintro e w12 ⟨rfl, hb⟩; refine ⟨_, rfl, ?_⟩; replace ac := A_ (blk_below (g := af) (o := .cells #[.slice A275_0 ((rd_T26 l0 ab).f0).length c275_0] 26 (0, 0)) Xz.Z0 hb); replace HB := eS HB hb))
     go_ret
     exact ⟨er, el HB⟩
   ·rw [if_neg c2] at H; have ak := decide_eq_false c2; clear c2; obtain rfl := Option.some.inj H
    go_wp2
    go_ret
    exact ⟨er, el HB⟩

/-! ### impl_limited: function 130 -/
def Xba.f (l0 : List Int) : Option (List Int × Int) := if (l0.length : Int) > 24 then (some (([] : List Int), 3)) else (some (l0, 0))
theorem Xba.Z0 {p : Prop} (h : p := by exact eP aa) : p := h
theorem Xba.Z1 {p : Prop} (h : p := by first | exact HK.out.1 | exact (show Kept w _ (fun k_ => P0_ k_) from by repeat (first | (with_reducible first | exact HK.out | apply Kept.alloc | apply Kept.drewN | apply Kept.drew) | exact HK.out)).1) : p := h
theorem Xba.Z2 {p : Prop} (h : p := by repeat (first | (with_reducible first | exact HK.out | apply Kept.alloc | apply Kept.drewN | apply Kept.drew) | exact HK.out)) : p := h
theorem Xba.calls (P0_ : Nat → Prop) (u9000_ : Value) (l0 : List Int) (r1 : List Int) (r2 : Int) (w0 w : World) (hB : Below w0.heap.size w0 w) (ho0 : Kd.R (Kd.int .i64) 2 w w0.heap.size P0_ u9000_ l0) (h : Xba.f l0 = some (r1, r2)) :
  Calls Try.prog 130 #[u9000_] w fun e w' => ∃ v0_ : Value, e = .returned (.tuple #[.agg #[v0_], .int .i64 r2]) ∧ Kd.R (Kd.int .i64) 2 w' w0.heap.size (fun k_ => (P0_ k_ ∨ w.heap.size ≤ k_)) v0_ r1 ∧ Below w0.heap.size w0 w' ∧ Kept w w' (fun k_ => P0_ k_) := by
 have hu26 := Try.underlying26; have ad := A_ (show Kd.R (Kd.int .i64) 2 w w0.heap.size (fun k_ => (P0_ k_ ∨ w.heap.size ≤ k_)) u9000_ l0 from Kd.R_mono ho0 (fun k_ hk => (.inl hk))); have HK := A_ (Kept.refl w (fun k_ => P0_ k_)); have HW0 := A_ hB.size; have HB := A_ hB; clear hB; unfold Xba.f at h; have H := h; clear h
 by_cases c2 : (l0.length : Int) > 24
 ·rw [if_pos c2] at H; have af := decide_eq_true c2; have ag : decide (24 < l0.length) = true := decide_eq_true (by omega); clear c2; simp only [Option.some.injEq, Prod.mk.injEq] at H; obtain ⟨rfl, rfl⟩ := H
  go_enter Try.func130, Try.ntmps130
  go_wp2_with (first | ((with_reducible refine gD 2 ?_); refine bx 2 #[.slice none 0 0] 26 ?_; intro ab hg w3 hbox hb; replace ad := eR ad hb; have aa := A_ hbox; have ac := A_ ((by rw [hg]; exact Xba.Z1 : w.heap.size ≤ ab)); replace HK := A_ (Kept.below (S := (fun k_ => P0_ k_)) Xba.Z2 hb); have ae := A_ ((by rw [hg]; exact (below_size (el HB)) : w0.heap.size ≤ ab)); replace HB := eS HB hb; clear hb hbox hg; obtain ⟨ap, aq, an⟩ := Kd.R_slice ad.out; subst an; have ah := bC aa; have ai := bF aa))
  refine bodyPost_ret (results_ct rfl _ _ ab 26 #[.slice none 0 0] (0, 0) _ rfl Xba.Z0 Try.underlying26 rfl (by kernel_rfl)) rfl ?_; exact ⟨_, er, by first | exact Kd.R_nil _ _ _ _ _ | exact Kd.N_nil _ _ _ _ _ | exact Kd.V_nil _ _ _ _ _ | exact Kd.Q_nil _ _ _ _ _ | exact Kd.S_nil _ _ _ _ _, el HB, by repeat (first | (with_reducible first | exact HK.out | apply Kept.alloc | apply Kept.drewN | apply Kept.drew | refine Kept.setCell ?_ (.inr ac.out) _) | exact HK.out)⟩
 ·rw [if_neg c2] at H; have af := decide_eq_false c2; have ag : decide (24 < l0.length) = false := decide_eq_false (by omega); clear c2; simp only [Option.some.injEq, Prod.mk.injEq] at H; obtain ⟨rfl, rfl⟩ := H
  go_enter Try.func130, Try.ntmps130
  go_wp2_with (first | ((with_reducible refine gD 2 ?_); refine bx 2 #[.slice none 0 0] 26 ?_; intro ab hg w6 hbox hb; replace ad := eR ad hb; have aa := A_ hbox; have ac := A_ ((by rw [hg]; exact Xba.Z1 : w.heap.size ≤ ab)); replace HK := A_ (Kept.below (S := (fun k_ => P0_ k_)) Xba.Z2 hb); have ae := A_ ((by rw [hg]; exact (below_size (el HB)) : w0.heap.size ≤ ab)); replace HB := eS HB hb; clear hb hbox hg; obtain ⟨al, am, ao⟩ := Kd.R_slice ad.out; subst ao; have aj := bC aa; have ak := bF aa))
  refine bodyPost_ret (results_ct rfl _ _ ab 26 #[.slice al l0.length am] (0, 0) _ rfl Xba.Z0 Try.underlying26 rfl (by kernel_rfl)) rfl ?_; exact ⟨_, er, rX (Kd.R_mono (rF ad.out aa (.slice al l0.length am)) (fun _ hk => hk.1)), el HB, by repeat (first | (with_reducible first | exact HK.out | apply Kept.alloc | apply Kept.drewN | apply Kept.drew | refine Kept.setCell ?_ (.inr ac.out) _) | exact HK.out)⟩

/-! ### slices_Grow_int64_int64: function 170 -/
def Xbt.f (l0 : List Int) (a1 : Int) : Option (List Int) := if l0 = [] then (if 0 ≤ a1 then (if a1 ≤ 1000000 then some [] else none) else none) else none
theorem Xbt.calls (A0 : Option Addr) (c0 : Nat) (l0 : List Int) (a1 : Int) (r : List Int) (w : World) (hr0 : Kd.C (Kd.int .i64) w A0 l0.length l0) (hc0 : l0.length ≤ c0) (h : Xbt.f l0 a1 = some r) (hA : A0 = none := by rfl) (hC : c0 = 0 := by rfl) :
  Calls Try.prog 170 #[.slice A0 l0.length c0, .int .i64 a1] w fun e w' => ∃ v0_ : Value, e = .returned (v0_) ∧ Kd.R (Kd.int .i64) 2 w' w.heap.size (fun _ => True) v0_ r ∧ Below w.heap.size w w' := by
 subst hA; subst hC; clear hr0 hc0
 unfold Xbt.f at h
 by_cases c1 : l0 = []
 ·rw [if_pos c1] at h; subst c1
  by_cases c2 : 0 ≤ a1
  ·rw [if_pos c2] at h
   by_cases c3 : a1 ≤ 1000000
   ·rw [if_pos c3] at h; obtain rfl := Option.some.inj h; clear h; obtain ⟨n, rfl⟩ : ∃ n : Nat, a1 = n := ⟨a1.toNat, by omega⟩
    by_cases c4 : n = 0
    ·subst c4; clear c2 c3
     go_enter Try.func170, Try.ntmps170
     go_wp2
     go_ret
     exact ⟨_, rfl, ⟨fun _ _ => trivial, ⟨[], World.ownsRow_nil _ _ _ _, Reps.none _ _⟩⟩, Below.refl _ _⟩
    ·have h1 : ¬ ((n : Int) < 0) := by omega
     have h4 : (n : Int) > 0 := by omega
     have hrz : ∀ ty, (Builtin.append_ #[24, 3] ty #[.slice none 0 0, .int .i64 (n : Int)]).run Try.prog w = .ok (.slice (some ⟨w.heap.size, 0, none⟩) n (grownCap w n 0 2)) (w.drew.alloc (.cells (Builtin.zeroCells (Value.int .i64 0).cells n ++ Builtin.zeroCells (Value.int .i64 0).cells (grownCap w n 0 2 - n)) 2)) := fun ty => by
      obtain ⟨i0, hi, hz0, hz1, hz2⟩ := info_parts (show (Try.prog.info? 2).map (fun i => (i.zero, i.size, i.bytes)) = some (some (.int .i64 0), 1, 8) by kernel_rfl); exact Lib.run_append_nil_zeros w 24 3 ty 2 i0 (.int .i64 0) .i64 .i64 Try.underlying24 Try.underlying3 hi hz0 n (by omega) (by omega) (by omega) (by rw [hz2]; omega)
     have hG := grownCap_ge w n 0 2; have hGm := grownCap_le_maxLen w n 0 2 (by unfold maxLen; omega); obtain ⟨G, eG⟩ : ∃ G, G = grownCap w n 0 2 := ⟨_, rfl⟩; rw [← eG] at hrz hG hGm; have HG := A_ hG; have HGm := A_ hGm; have hG63 : G ≤ 9223372036854775807 := by unfold maxLen at hGm; omega
     clear eG c4 hGm
     go_enter Try.func170, Try.ntmps170
     go_wp2_with (at_builtin; refine Lib.wpList_append_run _ rfl _ _ _ _ rfl _ _ rfl rfl _ _ (hrz _) ?_)
     all_goals
      go_ret
      refine ⟨_, rfl, ⟨fun _ _ => trivial, ⟨[], ?_, Reps.none _ _⟩⟩, ?_⟩
      ·have := World.ownsRow_made (base := w.heap.size) (e := 2) (size := 1) w.drew (Builtin.zeroCells (Value.int .i64 0).cells n ++ Builtin.zeroCells (Value.int .i64 0).cells (G - n)) G (Nat.le_refl _) HGm.out (by have := HG.out; simp [Builtin.zeroCells, show (Value.int .i64 0).cells.size = 1 from rfl]; omega); exact this
      ·exact (Below.refl _ w).drew.alloc (Nat.le_refl _) _
   ·rw [if_neg c3] at h
    cases h
  ·rw [if_neg c2] at h
   cases h
 ·rw [if_neg c1] at h
  cases h


/-! ### slices_Concat_int64_int64: function 131 -/
mutual
def Xb.l0 : Nat → List (List Int) → Int → List (List Int) → Int → Int → Option (List Int)
  | 0, _, _, _, _, _ => none
  | k + 1, x0, x3, x9, x10, x11 => if x11 < x10 then (if 0 ≤ x11 then (if x11 < (x9.length : Int) then (if (wrap64 (x3 + ((rd_L2 x9 x11).length : Int))) < 0 then (none) else (Xb.l0 k x0 (wrap64 (x3 + ((rd_L2 x9 x11).length : Int))) x9 x10 (wrap64 (x11 + 1)))) else (none)) else (none)) else ((Xbt.f ([] : List Int) x3).bind fun t280 => (Xb.l1 k t280 x0 (x0.length : Int) 0))
def Xb.l1 : Nat → List Int → List (List Int) → Int → Int → Option (List Int)
  | 0, _, _, _, _ => none
  | k + 1, x6, x25, x26, x27 => if x27 < x26 then (if 0 ≤ x27 then (if x27 < (x25.length : Int) then (if x6.length + (rd_L2 x25 x27).length < 17592186044416 then (Xb.l1 k (x6 ++ (rd_L2 x25 x27)) x25 x26 (wrap64 (x27 + 1))) else (none)) else (none)) else (none)) else (some x6)
end
def Xb.f (k : Nat) (l0 : List (List Int)) : Option (List Int) := Xb.l0 k l0 0 l0 (l0.length : Int) 0
theorem Xb.mono_l : ∀ k, (∀ y0 y1 y2 y3 y4, LeO (Xb.l0 k y0 y1 y2 y3 y4) (Xb.l0 (k + 1) y0 y1 y2 y3 y4)) ∧ (∀ y0 y1 y2 y3, LeO (Xb.l1 k y0 y1 y2 y3) (Xb.l1 (k + 1) y0 y1 y2 y3))
  | 0 => ⟨fun _ _ _ _ _ r h => by simp [Xb.l0] at h, fun _ _ _ _ r h => by simp [Xb.l1] at h⟩
  | k + 1 => by
    obtain ⟨ih0, ih1⟩ := Xb.mono_l k
    refine ⟨?_, ?_⟩
    · intro y0 y1 y2 y3 y4
      unfold Xb.l0
      exact mW
    · intro y0 y1 y2 y3
      unfold Xb.l1
      exact mW
theorem Xb.mono : ∀ a0 k, LeO (Xb.f k a0) (Xb.f (k + 1) a0) := by
  intro a0 k
  obtain ⟨ih0, ih1⟩ := Xb.mono_l k
  unfold Xb.f
  exact mW
theorem Xb.Z0 {p : Prop} (h : p := by first | (with_reducible assumption) | assumption) : p := h
theorem Xb.Z1 {p : Prop} (h : p := by first | rfl | (simp; done) | (simp [*]; done)) : p := h
theorem Xb.calls (k : Nat) (A0 : Option Addr) (c0 : Nat) (l0 : List (List Int)) (r : List Int) (w : World) (hr0 : Kd.C (Kd.slice 2 (Kd.int .i64)) w A0 l0.length l0) (hc0 : l0.length ≤ c0) (h : Xb.f k l0 = some r) :
  Calls Try.prog 131 #[.slice A0 l0.length c0] w fun e w' => ∃ v0_ : Value, e = .returned (v0_) ∧ Kd.R (Kd.int .i64) 2 w' w.heap.size (fun _ => True) v0_ r ∧ Below w.heap.size w w' := by
 have HR0 := A_ hr0; have HC0 := A_ hc0; clear hr0 hc0; have HB := A_ (Below.refl w.heap.size w); unfold Xb.f at h; have H := h; clear h; have H' := A_ H; clear H
 go_enter Try.func131, Try.ntmps131
 go_wp2
 go_loopg [3, 11] k (fun kq v3 v11 w' => ∃ (ae : Int) (ab : Int), v3 = .int .i64 ae ∧ v11 = .int .i64 ab ∧ Aside0 (Xb.l0 kq l0 ae l0 (l0.length : Int) ab = some r) ∧ Aside0 (kq ≤ k) ∧ Aside0 (Below w.heap.size w w'))
 case atStart => exact ⟨(0), (0), Xb.Z1, Xb.Z1, H', ⟨Nat.le_refl _⟩, ⟨el HB⟩⟩
 case round =>
  clear H'; obtain ⟨ae, ab, rfl, rfl, HA, HK1, HB⟩ := hrel
  cases gk with
  | zero => exact absurd HA.out (by simp [Xb.l0])
  | succ k1 =>
   have H := HA.out; clear HA; simp only [Xb.l0] at H
   by_cases c2 : ab < (l0.length : Int)
   ·rw [if_pos c2] at H; have au := decide_eq_true c2; clear c2
    replace H := iD H; obtain ⟨az, H⟩ := H
    replace H := iD H; obtain ⟨aA, H⟩ := H
    replace H := iN H; obtain ⟨c5, H⟩ := H; have aC := decide_eq_false c5; clear c5; have H' := A_ H; clear H; have p279 : 0 ≤ (ab : Int) := of_decide_eq_true Xb.Z0; have q279 : ab < (l0.length : Int) := of_decide_eq_true Xb.Z0; obtain ⟨aw, A279_0, c279_0, e279, ac, hl279_0, hi279_0⟩ := at_L2 HR0.out ab p279 q279; cases e279; replace ac := (HB.out.cell (World.block_lt_of_cell? w _ ac)).trans ac; have ap := A_ hi279_0; have aq := A_ hl279_0; clear hi279_0 hl279_0; replace p279 := eq_true p279; replace q279 := eq_true q279
    go_wp2
    go_roundg k1
    case measure => have := HK1.out; omega
    case rel => exact ⟨(wrap64 (ae + ((rd_L2 l0 ab).length : Int))), (wrap64 (ab + 1)), Xb.Z1, Xb.Z1, H', ⟨by have := HK1.out; omega⟩, ⟨el HB⟩⟩
   ·rw [if_neg c2] at H; have au := decide_eq_false c2; clear c2; replace H := oB H; obtain ⟨aj, A6, H⟩ := H; have H' := A_ H; clear H
    go_wp2_with (first | ((with_reducible refine gC 170 ?_); refine goesL_ (some 24) rfl rfl Try.func170 (by kernel_rfl) rfl #[.slice none 0 0, .int .i64 ae] rfl eg ?_; (refine (Xbt.calls _ _ ([] : List Int) ae aj _ ?side1 ?side2 A6.out).mono ?_); (case side1 => exact Kd.C_nil _ _); (case side2 => exact Nat.le_refl _); rintro e w7 ⟨aD, rfl, ho0, hb⟩; refine ⟨_, rfl, ?_⟩; have ak := eV ho0 HB; replace HB := eS HB hb))
    go_loopg [6, 27] k1 (fun kq v6 v27 w' => ∃ (af : List Int) (aa : Int), v27 = .int .i64 aa ∧ Aside0 (Xb.l1 kq af l0 (l0.length : Int) aa = some r) ∧ Aside0 (kq ≤ k1) ∧ Aside0 (Kd.R (Kd.int .i64) 2 w' w.heap.size (fun _ => True) v6 af) ∧ Aside0 (Below w.heap.size w w'))
    case atStart => exact ⟨(aj), (0), Xb.Z1, H', ⟨Nat.le_refl _⟩, ⟨ea ak⟩, ⟨el HB⟩⟩
    case round =>
     clear H'
     try clear hx2
     try clear ac
     obtain ⟨af, aa, rfl, HA, HK2, ai, HB⟩ := hrel
     cases gk with
     | zero => exact absurd HA.out (by simp [Xb.l1])
     | succ k2 =>
      have H := HA.out; clear HA; simp only [Xb.l1] at H
      by_cases c8 : aa < (l0.length : Int)
      ·rw [if_pos c8] at H; have av := decide_eq_true c8; clear c8
       replace H := iD H; obtain ⟨aE, H⟩ := H
       replace H := iD H; obtain ⟨ax, H⟩ := H
       replace H := iL H; obtain ⟨al, H⟩ := H; obtain ⟨am, ag⟩ : ∃ y_ : List Int, y_ = (af ++ (rd_L2 l0 aa)) := ⟨_, rfl⟩; replace H : (Xb.l1 k2 am l0 (l0.length : Int) (wrap64 (aa + 1))) = some r := eH ag H; have an := A_ ag; clear ag; have H' := A_ H; clear H; have p283 : 0 ≤ (aa : Int) := of_decide_eq_true Xb.Z0; have q283 : aa < (l0.length : Int) := of_decide_eq_true Xb.Z0; obtain ⟨ay, A283_0, c283_0, e283, ad, hl283_0, hi283_0⟩ := at_L2 HR0.out aa p283 q283; cases e283; replace ad := (HB.out.cell (World.block_lt_of_cell? w _ ad)).trans ad; have ah := A_ hi283_0; have ar := A_ hl283_0; clear hi283_0 hl283_0; replace p283 := eq_true p283; replace q283 := eq_true q283
       go_wp2_with (first | ((with_reducible refine gate_builtin (b := .append) (xs := #[.tmp 31, .tmp 32]) rfl ?_); at_builtin; refine Kd.R_append_rows (Kd.int .i64) (w0 := w) w.heap.size rfl (.tmp 31) (.tmp 32) 24 2 (.int .i64 0) 8 rfl Try.underlying24 info2 rfl (by decide) (by omega) u6 af (rd_L2 l0 aa) _ _ _ (fun _ => True) (fun _ => False) rfl rfl ?aO ?aR (fun _ _ h => h) (fun _ h => h.elim) ?aF ?aB ?aS ?aL ?_; (case aR => repeat (first | exact (Kd.C_below ah.out HB.out) | (with_reducible refine Kd.C_alloc ?_ _) | (with_reducible refine Kd.C_drewN ?_ _) | (with_reducible refine Kd.C_drew ?_))); (case aB => exact (el HB)); (case aF => exact (fun _ _ => trivial)); (case aO => exact (ea ai)); (case aS => exact (below_size (el HB))); (case aL => have := al.out; omega); intro aG w12 ho hb hg hat; rw [← an.out] at ho; replace HB := A_ hb; have ao := A_ ho; clear ai; clear ho hb hg hat))
       go_roundg k2
       case measure => have := HK1.out; have := HK2.out; omega
       case rel => exact ⟨(am), (wrap64 (aa + 1)), Xb.Z1, H', ⟨by have := HK1.out; have := HK2.out; omega⟩, ⟨es ao⟩, ⟨el HB⟩⟩
      ·rw [if_neg c8] at H; have av := decide_eq_false c8; clear c8; obtain rfl := Option.some.inj H
       go_wp2
       go_ret
       exact ⟨_, er, rX (ai.out), el HB⟩

/-! ### impl_endOf: function 132 -/
def Xah.l0 : Nat → List Int → Int → Int → Option (Int)
  | 0, _, _, _ => none
  | k + 1, x0, x1, x5 => if x5 > 0 then (if 0 ≤ x1 then (if x1 < (x0.length : Int) then (Xah.l0 k x0 (wrap64 (x1 + 1)) (wrap64 (x5 + (wrap64 ((rd x0 x1) - 1))))) else (none)) else (none)) else (some x1)
def Xah.f (k : Nat) (l0 : List Int) (a1 : Int) : Option (Int) := Xah.l0 k l0 a1 1
theorem Xah.mono_l : ∀ k, (∀ y0 y1 y2, LeO (Xah.l0 k y0 y1 y2) (Xah.l0 (k + 1) y0 y1 y2))
  | 0 => fun _ _ _ r h => by simp [Xah.l0] at h
  | k + 1 => by
    have ih0 := Xah.mono_l k
    · intro y0 y1 y2
      unfold Xah.l0
      exact mW
theorem Xah.mono a0 a1 k : LeO (Xah.f k a0 a1) (Xah.f (k + 1) a0 a1) := by have ih0 := Xah.mono_l k; unfold Xah.f; exact mW
theorem Xah.Z0 {p : Prop} (h : p := by first | (with_reducible assumption) | assumption) : p := h
theorem Xah.Z1 {p : Prop} (h : p := by first | rfl | (simp; done) | (simp [*]; done)) : p := h
theorem Xah.calls (k : Nat) (A0 : Option Addr) (c0 : Nat) (l0 : List Int) (a1 : Int) (r : Int) (w : World) (hr0 : Kd.C (Kd.int .i64) w A0 l0.length l0) (hc0 : l0.length ≤ c0) (h : Xah.f k l0 a1 = some r) :
  Calls Try.prog 132 #[.slice A0 l0.length c0, .int .i64 a1] w fun e w' => e = .returned (.int .i64 r) ∧ Drawn0 w w' := by
 have HR0 := A_ hr0; have HC0 := A_ hc0; clear hr0 hc0; unfold Xah.f at h; have H := h; clear h; have H' := A_ H; clear H
 go_enter Try.func132, Try.ntmps132
 go_wp2
 go_loopg [1, 5] k (fun kq v1 v5 w' => ∃ (aa : Int) (ab : Int), v1 = .int .i64 aa ∧ v5 = .int .i64 ab ∧ Aside0 (Xah.l0 kq l0 aa ab = some r) ∧ Aside0 (kq ≤ k) ∧ Drawn0 w w')
 case atStart => exact ⟨(a1), (1), Xah.Z1, Xah.Z1, H', ⟨Nat.le_refl _⟩, by repeat (first | exact Drawn0.refl _ | apply Drawn0.step)⟩
 case round =>
  clear H'; obtain ⟨aa, ab, rfl, rfl, HA, HK1, ⟨m1, rfl⟩⟩ := hrel
  cases gk with
  | zero => exact absurd HA.out (by simp [Xah.l0])
  | succ k1 =>
   have H := HA.out; clear HA; simp only [Xah.l0] at H
   by_cases c3 : ab > 0
   ·rw [if_pos c3] at H; have ad := decide_eq_true c3; clear c3
    replace H := iD H; obtain ⟨af, H⟩ := H
    replace H := iD H; obtain ⟨ag, H⟩ := H; have H' := A_ H; clear H; have p287 : 0 ≤ (aa : Int) := of_decide_eq_true Xah.Z0; have q287 : aa < (l0.length : Int) := of_decide_eq_true Xah.Z0; obtain ⟨ae, e287, ac⟩ := Kd.at_int HR0.out aa p287 q287; cases e287; replace p287 := eq_true p287; replace q287 := eq_true q287
    go_wp2
    go_roundg k1
    case measure => have := HK1.out; omega
    case rel => exact ⟨(wrap64 (aa + 1)), (wrap64 (ab + (wrap64 ((rd l0 aa) - 1)))), Xah.Z1, Xah.Z1, H', ⟨by have := HK1.out; omega⟩, by repeat (first | exact Drawn0.refl _ | apply Drawn0.step)⟩
   ·rw [if_neg c3] at H; have ad := decide_eq_false c3; clear c3; obtain rfl := Option.some.inj H
    go_wp2
    go_ret
    exact ⟨by first | rfl | (simp; done) | (simp [*]; done), by repeat (first | exact Drawn0.refl _ | apply Drawn0.step)⟩

end Go.Proofs.Ytocachknmgefaaa.QFnTreeParts
