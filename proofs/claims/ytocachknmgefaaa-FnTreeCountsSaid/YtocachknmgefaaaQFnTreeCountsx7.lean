/- Functions of the program as plain Lean functions, each with a proof that the machine's call answers what it answers. Conditions: none. -/
import Derived.Test.YtocachknmgefaaaQFnTreeCountsx0
import Derived.Test.YtocachknmgefaaaQFnTreeCountsx2
import Derived.Test.YtocachknmgefaaaQFnTreeCountsx5
import Derived.Test.YtocachknmgefaaaQFnTreeCountsx6
namespace Go.Proofs.Ytocachknmgefaaa.QFnTreeCounts
open Go.RowKit Go.Proofs.YtocachknmgefaaaW.PrintWords Go.Proofs.YtocachknmgefaaaW.PrintLast Go.Proofs.YtocachknmgefaaaW.PrintMore
attribute [local go_sem] max2_int min2_int max_two min_two max_three min_three max_four min_four   -- for this text's walks alone
set_option linter.unusedVariables false
set_option linter.unusedSimpArgs false

/-! ### impl_treeOfRank: function 165 -/
/-- the degree of the next node: how many ways lie before it -/
def torI (row : Nat) : Nat → Nat → Nat → Int → Option (Int × Nat)
  | 0, _, _, _ => none
  | fu + 1, b, k, r => if b + k < 32 then (if r ≥ tab row (b + k) then torI row fu b (k + 1) (wrap64 (r - tab row (b + k))) else some (r, k)) else none
def torO : Nat → Nat → Int → List Int → Option (List Int)
  | 0, _, _, d => some d
  | left + 1, need, r, d => if need = 0 then none else (torI left 33 (need - 1) 0 r).bind fun p => torO left (need - 1 + p.2) p.1 (d ++ [(p.2 : Int)])
theorem torI_bound (row : Nat) : ∀ (fu b k : Nat) (r : Int) (p : Int × Nat), torI row fu b k r = some p → b + p.2 < 32 := by
  intro fu
  induction fu with
  | zero => intro b k r p h; simp [torI] at h
  | succ fu ih =>
    intro b k r p h
    simp only [torI] at h
    by_cases c : b + k < 32
    · rw [if_pos c] at h
      by_cases c2 : r ≥ tab row (b + k)
      · rw [if_pos c2] at h
        exact ih _ _ _ _ h
      · rw [if_neg c2] at h
        obtain rfl := Option.some.inj h
        exact c
    · rw [if_neg c] at h
      cases h
def impl_treeOfRank.f (a0 : Int) (a1 : Int) : Option (List Int × Bool) := if 0 ≤ a0 then (if a0 ≤ 30 then (if a1 ≥ tab a0.toNat 1 then some ([], false) else (torO a0.toNat 1 a1 []).bind fun d => some (d, true)) else none) else none
theorem impl_treeOfRank.Z0 {p : Prop} (h : p := by refine blk_put (cs := #[.slice none 0 0]) ?_ 0 _ rfl; exact BK.out) : p := h
set_option maxHeartbeats 8000000 in
set_option maxRecDepth 100000 in
theorem impl_treeOfRank.calls (a0 : Int) (a1 : Int) (r1 : List Int) (r2 : Bool) (w : World) (h : impl_treeOfRank.f a0 a1 = some (r1, r2)) :
  Calls Try.prog 165 #[.int .i64 a0, .int .i64 a1] w fun e w' => ∃ v0_ : Value, e = .returned (.tuple #[.agg #[v0_], .bool r2]) ∧ Kd.R (Kd.int .i64) 2 w' w.heap.size (fun _ => True) v0_ r1 ∧ Below w.heap.size w w' := by
 have hu := Try.underlying26
 have HB := A_ (Below.refl w.heap.size w)
 unfold impl_treeOfRank.f at h
 by_cases c1 : 0 ≤ a0
 ·rw [if_pos c1] at h
  by_cases c2 : a0 ≤ 30
  ·rw [if_pos c2] at h
   obtain ⟨n, rfl⟩ : ∃ n : Nat, a0 = n := ⟨a0.toNat, by omega⟩
   have hn : n ≤ 30 := by omega
   clear c1 c2
   rw [Int.toNat_natCast] at h
   by_cases c3 : a1 ≥ tab n 1
   ·rw [if_pos c3] at h
    have c3b : decide (tab n 1 ≤ a1) = true := decide_eq_true c3
    clear c3
    simp only [Option.some.injEq, Prod.mk.injEq] at h
    obtain ⟨rfl, rfl⟩ := h
    go_enter Try.func165, Try.ntmps165
    go_wp2_with (first | ((with_reducible refine gate_dst (N := 4) rfl ?_); refine box_event ?hg (N := 4) ?hd (cs := #[.slice none 0 0]) (t := 26) ?hr ?_; (case hd => rfl); (case hg => rfl); (case hr => first | (go_simp; done) | (go_simp; rfl)); intro gb hg w8 hbox hb; have n0_ := A_ (below_step HB.out hb); have n1_ := A_ hbox; have n2_ := A_ ((by rw [hg]; exact below_size HB.out) : w.heap.size ≤ gb); clear HB; have HB := n0_; have BK := n1_; have GE := n2_; clear n0_ n1_ n2_; clear hb hbox hg) | (go_at_call 156; (with_reducible refine (impl_countForests.calls _).mono ?_); rintro e w1 ⟨g, rfl, hg, ⟨C, hC, hS⟩, hb⟩; have hcell := forests_cell hC hS n 1 (by omega) (by omega); have n1_ := A_ (blk_below (g := gb) (o := .cells #[.slice none 0 0] 26 (0, 0)) BK.out hb); have n2_ := A_ (below_step HB.out hb); clear BK; clear HB; have BK := n1_; have HB := n2_; clear n1_ n2_; clear hg hC hS hb; have hcz : w1.cell? ⟨gb, 0, none⟩ = some (.slice none 0 0) := (blk_cell BK.out 0).trans rfl; have hfz := blk_frozen BK.out 0))
    refine bodyPost_ret (results_ct rfl _ _ gb 26 #[.slice none 0 0] (0, 0) _ rfl impl_treeOfRank.Z0 Try.underlying26 rfl (by kernel_rfl)) rfl ?_
    exact ⟨_, by first | rfl | (simp; done), Kd.R_nil _ _ _ _ _, el HB⟩
   ·rw [if_neg c3] at h
    have c3b : decide (tab n 1 ≤ a1) = false := decide_eq_false c3
    clear c3
    obtain ⟨d0, hO, h⟩ := Option.bind_eq_some_iff.mp h
    simp only [Option.some.injEq, Prod.mk.injEq] at h
    obtain ⟨rfl, rfl⟩ := h
    have HT := A_ hO
    clear hO
    go_enter Try.func165, Try.ntmps165
    go_wp2_with (first | ((with_reducible refine gate_dst (N := 4) rfl ?_); refine box_event ?hg (N := 4) ?hd (cs := #[.slice none 0 0]) (t := 26) ?hr ?_; (case hd => rfl); (case hg => rfl); (case hr => first | (go_simp; done) | (go_simp; rfl)); intro gb hg w8 hbox hb; have n0_ := A_ (below_step HB.out hb); have n1_ := A_ hbox; have n2_ := A_ ((by rw [hg]; exact below_size HB.out) : w.heap.size ≤ gb); clear HB; have HB := n0_; have BK := n1_; have GE := n2_; clear n0_ n1_ n2_; clear hb hbox hg) | (go_at_call 156; (with_reducible refine (impl_countForests.calls _).mono ?_); rintro e w1 ⟨g, rfl, hg, ⟨C, hC, hS⟩, hb⟩; have hcell := forests_cell hC hS n 1 (by omega) (by omega); have n1_ := A_ (blk_below (g := gb) (o := .cells #[.slice none 0 0] 26 (0, 0)) BK.out hb); have n2_ := A_ (below_step HB.out hb); have HG := A_ hC; have HS := A_ hS; clear BK; clear HB; have BK := n1_; have HB := n2_; clear n1_ n2_; clear hg hC hS hb) | ((with_reducible refine gate_dst (N := 21) rfl ?_); refine Kd.R_lit (Kd.int .i64) _ 2 ?hg (N := 21) ?hd (xs := ([] : List Int)) (inner := []) (ok := fun _ => True) (okp := fun _ => True) ?hr ?hp (fun _ hk => hk) trivial (Below.refl _ _) (Nat.le_refl _) (by simp) ?_; (case hd => rfl); (case hg => rfl); (case hr => first | (go_simp; done) | (go_simp; rfl)); (case hp => exact (Reps.none _ _)); intro v0 w2 ho hb hg_ hnew_; clear hg_ hnew_; have n0_ := A_ (Kd.R_lower ho (below_size HB.out)); have n1_ := A_ (blk_below (g := gb) (o := .cells #[.slice none 0 0] 26 (0, 0)) BK.out hb); have n2_ := A_ (blk_below (g := g) (o := .cells C.toArray 131 (0, 0)) HG.out hb); have n3_ := A_ (below_step HB.out hb); clear BK; clear HB; clear HG; have HO := n0_; have BK := n1_; have HG := n2_; have HB := n3_; clear n0_ n1_ n2_ n3_; clear hb ho hcell c3b))
    go_loopw [1, 7, 8, 9] (fun v1 v7 v8 v9 wq => ∃ (m need : Nat) (x1 x9 : Int) (d : List Int), v1 = .int .i64 x1 ∧ v8 = .int .i64 (need : Int) ∧ v9 = .int .i64 x9 ∧ x9 + 1 = (m : Int) ∧ m ≤ 30 ∧ need ≤ 32 ∧ Aside0 (d.length + m ≤ 30) ∧ Aside0 (torO m need x1 d = some d0) ∧ Aside0 (Kd.R (Kd.int .i64) 2 wq w.heap.size (fun _ => True) v7 d) ∧ Aside0 (wq.heap[g]? = some (.cells C.toArray 131 (0, 0))) ∧ Aside0 (wq.heap[gb]? = some (.cells #[.slice none 0 0] 26 (0, 0))) ∧ Aside0 (Below w.heap.size w wq)) (fun _ _ _ v9 _ => (intOf v9 + 1).toNat)
    case atStart => exact ⟨n, 1, a1, (n : Int) - 1, [], rfl, rfl, rfl, by omega, hn, by omega, ⟨by simp; omega⟩, HT, HO, HG, BK, HB⟩
    case round =>
     clear HT HO HG BK HB
     obtain ⟨m, need, x1, x9, d, rfl, rfl, rfl, h9, hm, hneed, HL, HT, HO, HG, BK, HB⟩ := hrel
     cases m with
     | zero =>
      obtain rfl : x9 = -1 := by omega
      clear h9
      have hd : d = d0 := by have h_ := HT.out; simp only [torO] at h_; exact Option.some.inj h_
      subst hd
      obtain ⟨Ao, co, eo⟩ := Kd.R_slice HO.out
      subst eo
      have hcz : wr.cell? ⟨gb, 0, none⟩ = some (.slice none 0 0) := (blk_cell BK.out 0).trans rfl
      have hfz := blk_frozen BK.out 0
      go_wp2
      refine bodyPost_ret (results_ct rfl _ _ gb 26 #[.slice Ao d.length co] (0, 0) _ rfl impl_treeOfRank.Z0 Try.underlying26 rfl (by kernel_rfl)) rfl ?_
      exact ⟨_, by first | rfl | (simp; done), Kd.R_mono (Kd.R_far (p := ⟨gb, 0, none⟩) (Kd.R_types HO.out BK.out (by decide)) (fun _ hk => hk.2) (.slice Ao d.length co)) (fun _ hk => trivial), by repeat (first | (with_reducible first | exact HB.out | refine below_set ?_ GE.out) | exact HB.out)⟩
     | succ m =>
      obtain rfl : x9 = (m : Int) := by omega
      clear h9
      have h1 := HT.out
      clear HT
      simp only [torO] at h1
      by_cases cn : need = 0
      ·rw [if_pos cn] at h1
       cases h1
      ·rw [if_neg cn] at h1
       obtain ⟨⟨rq, kq⟩, hI, hO⟩ := Option.bind_eq_some_iff.mp h1
       have hneed1 : 1 ≤ need := by omega
       clear cn h1
       have HI := A_ hI
       have HT := A_ hO
       clear hI hO
       have hm30 : m ≤ 29 := by omega
       clear hm
       have hdm : decide (0 ≤ (m : Int)) = true := decide_eq_true (by omega)
       go_wp2
       go_loop [1, 10] (fun v1 v10 => ∃ (k : Nat) (x : Int), v1 = .int .i64 x ∧ v10 = .int .i64 (k : Int) ∧ k ≤ 32 ∧ Aside0 (torI m (33 - k) (need - 1) k x = some (rq, kq))) (fun _ v10 => 33 - (intOf v10).toNat)
       case atStart => exact ⟨0, x1, rfl, rfl, by omega, HI⟩
       case round =>
        clear HI
        obtain ⟨k, x, rfl, rfl, hk, HI⟩ := hrel
        have h1 := HI.out
        clear HI
        rw [show 33 - k = (32 - k) + 1 by omega] at h1
        simp only [torI] at h1
        by_cases cb : need - 1 + k < 32
        ·rw [if_pos cb] at h1
         have hcell := forests_cell HG.out HS.out m (need - 1 + k) (by omega) cb
         by_cases ct : x ≥ tab m (need - 1 + k)
         ·rw [if_pos ct] at h1
          have ctb : decide (tab m (need - 1 + k) ≤ x) = true := decide_eq_true ct
          clear ct
          generalize tab m (need - 1 + k) = E at hcell ctb h1
          have HI := A_ h1
          clear h1
          go_wp2
          go_round
          case rel => exact ⟨k + 1, wrap64 (x - E), rfl, by go_num, by omega, ⟨by rw [show 33 - (k + 1) = 32 - k by omega]; exact HI.out⟩⟩
          case measure => simp [intOf]; omega
         ·rw [if_neg ct] at h1
          have ctb : decide (tab m (need - 1 + k) ≤ x) = false := decide_eq_false ct
          clear ct
          generalize tab m (need - 1 + k) = E at hcell ctb
          simp only [Option.some.injEq, Prod.mk.injEq] at h1
          obtain ⟨rfl, rfl⟩ := h1
          go_wp2_with (first | ((with_reducible refine gate_builtin (b := .append) (xs := #[.tmp 54, .tmp 56]) rfl ?_); at_builtin; refine Kd.R_append (Kd.int .i64) (w0 := w) w.heap.size rfl (.tmp 54) (.tmp 56) 24 2 (.int .i64 0) 8 rfl Try.underlying24 info2 rfl (by decide) (by omega) u7 d (k : Int) [.int .i64 (k : Int)] (fun _ => True) (fun _ => False) rfl rfl ?aP (fun _ hk => hk.elim) ?aF ?aO ?aB ?aS ?aL ?_; (case aP => exact rfl); (case aB => exact (el HB)); (case aF => exact (fun _ _ => trivial)); (case aO => exact (ea HO)); (case aS => exact (below_size (el HB))); (case aL => have := HL.out; omega); intro v3 w3 ho hb hg hat; have n1_ := A_ (blk_grown (g := gb) (o := .cells #[.slice none 0 0] 26 (0, 0)) (eb BK) hg (Kd.R_ne HO.out BK.out (by decide))); have n2_ := A_ (blk_grown (g := g) (o := .cells C.toArray 131 (0, 0)) (eb HG) hg (Kd.R_ne HO.out HG.out (by decide))); have n3_ := A_ hb; have n4_ := A_ ho; clear BK; clear HG; clear HB; clear HO; have BK := n1_; have HG := n2_; have HB := n3_; have HO := n4_; clear n1_ n2_ n3_ n4_; clear ho hb hg hat hcell ctb))
          refine ⟨⟨m, need - 1 + k, x, (m : Int) - 1, d ++ [(k : Int)], rfl, by go_num, rfl, by omega, by omega, by omega, ⟨by have := HL.out; simp only [List.length_append, List.length_cons, List.length_nil]; omega⟩, HT, HO, HG, BK, HB⟩, by simp [intOf]⟩
        ·rw [if_neg cb] at h1
         cases h1
  ·rw [if_neg c2] at h
   cases h
 ·rw [if_neg c1] at h
  cases h


/-! ### impl_treesOf: function 159 -/
def impl_treesOf.l0 : Nat → Int → List (S26) → Int → Option ((List (S26)))
  | 0, _, _, _ => none
  | k + 1, x0, x3, x4 => (impl_treeOfRank.f x0 x4).bind fun bt244 => (if bt244.2 = true then (if x3.length < 5864062014805 then (impl_treesOf.l0 k x0 (x3 ++ [(⟨bt244.1⟩ : S26)]) (wrap64 (x4 + 1))) else (none)) else (some x3))
def impl_treesOf.f (k : Nat) (a0 : Int) : Option ((List (S26))) := impl_treesOf.l0 k a0 (([] : List (S26))) 0
theorem impl_treesOf.mono_l : ∀ k, (∀ y0 y1 y2, LeO (impl_treesOf.l0 k y0 y1 y2) (impl_treesOf.l0 (k + 1) y0 y1 y2))
  | 0 => fun _ _ _ r h => by simp [impl_treesOf.l0] at h
  | k + 1 => by
    have ih0 := impl_treesOf.mono_l k
    · intro y0 y1 y2
      unfold impl_treesOf.l0
      repeat' first
      | (with_reducible exact ih0 _ _ _)
      | (with_reducible exact LeO.refl _)
      | (with_reducible exact LeO.none _)
      | (with_reducible refine LeO.ite ?_ ?_)
      | (with_reducible refine LeO.bind ?_ (fun _ => ?_))
      | exact ih0 _ _ _
      | exact LeO.none _
      | refine LeO.ite ?_ ?_
      | refine LeO.bind ?_ (fun _ => ?_)
theorem impl_treesOf.mono : ∀ a0 k, LeO (impl_treesOf.f k a0) (impl_treesOf.f (k + 1) a0) := by
  intro a0 k
  have ih0 := impl_treesOf.mono_l k
  unfold impl_treesOf.f
  repeat' first
      | (with_reducible exact ih0 _ _ _)
      | (with_reducible exact LeO.refl _)
      | (with_reducible exact LeO.none _)
      | (with_reducible refine LeO.ite ?_ ?_)
      | (with_reducible refine LeO.bind ?_ (fun _ => ?_))
      | exact ih0 _ _ _
      | exact LeO.none _
      | refine LeO.ite ?_ ?_
      | refine LeO.bind ?_ (fun _ => ?_)
theorem impl_treesOf.Z0 {p : Prop} (h : p := by (with_reducible repeat (first | apply Kd.S_alloc | apply Kd.S_drewN | apply Kd.S_drew)); exact HO_3.out) : p := h
theorem impl_treesOf.Z1 {p : Prop} (h : p := by first | rfl | (simp; done) | (simp [*]; done)) : p := h
set_option maxHeartbeats 8000000 in
set_option maxRecDepth 100000 in
theorem impl_treesOf.calls (k : Nat) (a0 : Int) (r : List (S26)) (w : World) (h : impl_treesOf.f k a0 = some r) :
  Calls Try.prog 159 #[.int .i64 a0] w fun e w' => ∃ v0_ : Value, e = .returned (v0_) ∧ Kd.S k26 26 w' w.heap.size (fun _ => True) v0_ r ∧ Below w.heap.size w w' := by
 have hu26 := Try.underlying26
 have HB := A_ (Below.refl w.heap.size w)
 have H : (impl_treesOf.l0 k a0 (([] : List (S26))) 0) = some r := h
 clear h
 obtain ⟨y241, hy241⟩ : ∃ y_ : List (S26), y_ = (([] : List (S26))) := ⟨_, rfl⟩
 replace H : (impl_treesOf.l0 k a0 y241 0) = some r := by first | (rw [hy241]; with_reducible exact H) | (have H2_ := (Option.bind_some _ _).symm.trans H; rw [hy241]; with_reducible exact H2_) | (have H2_ := (Option.bind_some _ _).symm.trans H; with_reducible exact H2_) | with_reducible exact H | (rw [hy241]; exact H) | exact H
 have Ny241 := A_ hy241
 clear hy241
 have H' := A_ H
 clear H
 go_enter Try.func159, Try.ntmps159
 go_wp2_with (first | ((with_reducible refine gate_dst (N := 7) rfl ?_); refine Kd.S_lit k26 _ 26 ?hg (N := 7) ?hd (xs := ([] : List (S26))) (inner := []) (ok := fun _ => True) (okp := fun _ => True) ?hr ?hp (fun _ hk => hk) trivial (Below.refl _ _) (Nat.le_refl _) (by simp) ?_; (case hd => rfl); (case hg => rfl); (case hr => first | (go_simp; done) | (go_simp; rfl)); (case hp => exact (Reps.none _ _)); intro v242 w2 ho3 hb hg_ hnew_; clear hg_ hnew_; (first | rw [← Ny241.out] at ho3 | (simp only [Int.reduceToNat] at ho3; rw [← Ny241.out] at ho3)); have n0_ := A_ (Kd.S_lower ho3 (below_size (el HB))); have n1_ := A_ (below_step (el HB) hb); clear HB; have HO243 := n0_; have HB := n1_; clear n0_ n1_; clear hb ho3))
 go_loopg [3, 4] k (fun kq v3 v4 w' => ∃ (x3_1 : List (S26)) (x4_1 : Int), v4 = .int .i64 x4_1 ∧ Aside0 (impl_treesOf.l0 kq a0 x3_1 x4_1 = some r) ∧ Aside0 (kq ≤ k) ∧ Aside0 (Kd.S k26 26 w' w.heap.size (fun _ => True) v3 x3_1) ∧ Aside0 (Below w.heap.size w w'))
 case atStart => exact ⟨(y241), (0), impl_treesOf.Z1, H', ⟨Nat.le_refl _⟩, ⟨by (with_reducible repeat (first | apply Kd.S_alloc | apply Kd.S_drewN | apply Kd.S_drew)); exact HO243.out⟩, ⟨el HB⟩⟩
 case round =>
  clear H'
  try clear c1
  try clear p2
  obtain ⟨x3_1, x4_1, rfl, HA, HK1, HO_3, HB⟩ := hrel
  cases gk with
  | zero => exact absurd HA.out (by simp [impl_treesOf.l0])
  | succ k1 =>
   have H := HA.out
   clear HA
   simp only [impl_treesOf.l0] at H
   replace H := Option.bind_eq_some_iff.mp H
   obtain ⟨⟨t244, t247⟩, A40, H⟩ := H
   replace H : (if t247 = true then (if x3_1.length < 5864062014805 then (impl_treesOf.l0 k1 a0 (x3_1 ++ [(⟨t244⟩ : S26)]) (wrap64 (x4_1 + 1))) else (none)) else (some x3_1)) = some r := H
   have A4 := A_ A40
   clear A40
   by_cases c5 : t247 = true
   ·subst c5
    have H1 : (if x3_1.length < 5864062014805 then (impl_treesOf.l0 k1 a0 (x3_1 ++ [(⟨t244⟩ : S26)]) (wrap64 (x4_1 + 1))) else (none)) = some r := by rw [if_pos rfl] at H; exact H
    clear H
    have H := H1
    clear H1
    by_cases c6 : x3_1.length < 5864062014805
    rotate_left
    ·rw [if_neg c6] at H
     exact absurd H (by simp)
    rw [if_pos c6] at H
    have LMc6 := A_ c6
    clear c6
    obtain ⟨y249, hy249⟩ : ∃ y_ : List (S26), y_ = (x3_1 ++ [(⟨t244⟩ : S26)]) := ⟨_, rfl⟩
    replace H : (impl_treesOf.l0 k1 a0 y249 (wrap64 (x4_1 + 1))) = some r := by first | (rw [hy249]; with_reducible exact H) | (have H2_ := (Option.bind_some _ _).symm.trans H; rw [hy249]; with_reducible exact H2_) | (have H2_ := (Option.bind_some _ _).symm.trans H; with_reducible exact H2_) | with_reducible exact H | (rw [hy249]; exact H) | exact H
    have Ny249 := A_ hy249
    clear hy249
    have H' := A_ H
    clear H
    go_wp2_with (first | ((with_reducible refine gate_callee (f := 165) rfl ?_); refine goesL_ (some 13) rfl rfl Try.func165 (by kernel_rfl) rfl #[.int .i64 a0, .int .i64 x4_1] rfl eg ?_; (with_reducible refine (impl_treeOfRank.calls a0 x4_1 t244 true _ A4.out).mono ?_); rintro e w7 ⟨v245, rfl, ho0, hb⟩; refine ⟨_, rfl, ?_⟩; have n0_ := A_ (Kd.S_elder' impl_treesOf.Z0 (Kd.R_base ho0) hb); have n1_ := A_ (Kd.R_lower ho0 (below_size (el HB))); have n2_ := A_ (below_step (el HB) hb); clear HO_3; clear HB; have HO_3 := n0_; have HO246 := n1_; have HB := n2_; clear n0_ n1_ n2_; (try clear hb); (try clear hb2); (try clear hk); (try clear hi); (try clear ho0)) | ((with_reducible refine gate_dst (N := 5) rfl ?_); refine box_event ?hg (N := 5) ?hd (cs := #[.slice none 0 0]) (t := 26) ?hr ?_; (case hd => rfl); (case hg => rfl); (case hr => first | (go_simp; done) | (go_simp; rfl)); intro gb248 hg w8 hbox hb; have n0_ := A_ (Kd.S_below (Kd.S_elderB impl_treesOf.Z0 gb248 (Nat.le_of_eq hg.symm)) hb); have n1_ := A_ (Kd.R_below (ea HO246) hb); have n2_ := A_ (below_step (el HB) hb); have n3_ := A_ (hbox); have n4_ := A_ ((by rw [hg]; exact (below_size (el HB)) : w.heap.size ≤ gb248)); have n5_ := A_ ((by rw [hg]; exact (below_size (el HB)) : w.heap.size ≤ gb248)); clear HO_3; clear HO246; clear HB; have HO_3 := n0_; have HO246 := n1_; have HB := n2_; have BK248 := n3_; have GW248 := n4_; have GE248 := n5_; clear n0_ n1_ n2_ n3_ n4_ n5_; clear hb hbox hg; obtain ⟨Ao9, co9, eo9⟩ := Kd.R_slice HO246.out; subst eo9; have hcz10_0 : w8.cell? ⟨gb248, 0, none⟩ = some (.slice none 0 0) := (blk_cell BK248.out 0).trans rfl; have hfz10_0 := blk_frozen BK248.out 0) | ((with_reducible refine gate_store (t := 26) (p := 5) rfl ?_); refine store_event (t := 26) (p := 5) (v := ?vo_w11) (w1 := (w8.setCell ⟨gb248, 0, none⟩ (.slice Ao9 t244.length co9))) ?hg ?ho ?hn ?hr ?_; (case ho => rfl); (case hg => rfl); (case hn => rfl); (case hr => first | (go_simp; done) | (go_simp; rfl)); intro w11 hw; have n0_ : Aside0 (Kd.S k26 26 w11 w.heap.size (fun k_ => some k_ ≠ (.slice Ao9 t244.length co9 : Value).ownBlock ∧ k_ ≠ gb248) u3 x3_1) := ⟨(by rw [hw]; exact (by (with_reducible repeat (first | apply Kd.S_alloc | apply Kd.S_drewN | apply Kd.S_drew)); exact Kd.S_mono (Kd.S_far (p := ⟨gb248, 0, none⟩) (Kd.S_mono HO_3.out (fun k_ hk => (⟨hk, hk.2⟩ : _ ∧ k_ ≠ gb248))) (fun _ hk => hk.2) (.slice Ao9 t244.length co9)) (fun _ hk => ⟨hk.1.1.2, hk.1.2⟩)))⟩; have n1_ : Aside0 (Kd.R (Kd.int .i64) 2 w11 w.heap.size (fun _ => True) (.slice Ao9 t244.length co9) t244) := ⟨(by rw [hw]; exact (by (with_reducible repeat (first | apply Kd.R_alloc | apply Kd.R_drewN | apply Kd.R_drew)); exact Kd.R_mono (Kd.R_far (p := ⟨gb248, 0, none⟩) (Kd.R_types HO246.out BK248.out (by decide)) (fun _ hk => hk.2) (.slice Ao9 t244.length co9)) (fun _ hk => trivial)))⟩; have n2_ : Aside0 (w11.heap[gb248]? = some (.cells #[.slice Ao9 t244.length co9] 26 (0, 0))) := ⟨(by rw [hw]; exact (by (with_reducible repeat (first | refine blk_drewN ?_ _ | refine blk_drew ?_ | refine blk_alloc ?_ _)); refine blk_put (cs := #[.slice none 0 0]) ?_ 0 _ rfl; (with_reducible repeat (first | refine blk_drewN ?_ _ | refine blk_drew ?_ | refine blk_alloc ?_ _)); exact BK248.out))⟩; have n3_ : Aside0 (Below w.heap.size w w11) := ⟨(by rw [hw]; exact (el HB))⟩; clear hw; clear HO_3; clear HO246; clear BK248; clear HB; have HO_3 := n0_; have HO246 := n1_; have BK248 := n2_; have HB := n3_; clear n0_ n1_ n2_ n3_; have hcz12_0 : w11.cell? ⟨gb248, 0, none⟩ = some (.slice Ao9 t244.length co9) := (blk_cell BK248.out 0).trans rfl; have hfz12_0 := blk_frozen BK248.out 0) | ((with_reducible refine gate_builtin (b := .append) (xs := #[.tmp 19, .tmp 21]) rfl ?_); at_builtin; refine Kd.S_append k26 (w0 := w) w.heap.size rfl (.tmp 19) (.tmp 21) 56 26 (.agg #[(.slice none 0 0)]) 24 rfl Try.underlying56 info26 rfl (by decide) (by omega) u3 x3_1 (⟨t244⟩ : S26) [.slice Ao9 t244.length co9] (fun k_ => k_ ≠ gb248) (fun k_ => some k_ = (.slice Ao9 t244.length co9 : Value).ownBlock) rfl rfl ?aP (fun k_ hk_ => ((Kd.R_mono (ok' := fun k_ => ((fun k_ => k_ ≠ gb248)) k_ ∧ some k_ ≠ (u3 : Value).ownBlock) (Kd.R_types (Kd.R_apart' (HO246.out) (Kd.S_typed HO_3.out) (by decide)) BK248.out (by decide)) (fun k_ hk => ⟨hk.2, hk.1.2⟩))).1 k_ hk_.symm) ?aF ?aO ?aB ?aS ?aL ?_; (case aP => exact k26_mkM _ _ _ (⟨t244⟩ : S26) (Kd.R_mono (Kd.R_tight rfl (Kd.R_mono (ok' := fun k_ => ((fun k_ => k_ ≠ gb248)) k_ ∧ some k_ ≠ (u3 : Value).ownBlock) (Kd.R_types (Kd.R_apart' (HO246.out) (Kd.S_typed HO_3.out) (by decide)) BK248.out (by decide)) (fun k_ hk => ⟨hk.2, hk.1.2⟩))) (fun _ h_ => h_))); (case aB => exact (el HB)); (case aF => exact (fun k_ hk => Kd.freshB (g := gb248) (o := .cells #[.slice Ao9 t244.length co9] 26 (0, 0)) (eb BK248) k_ hk)); (case aO => exact (by (with_reducible repeat (first | apply Kd.S_alloc | apply Kd.S_drewN | apply Kd.S_drew)); exact Kd.S_mono HO_3.out (fun k_ hk => ⟨hk.2, fun e_ => hk.1 e_⟩))); (case aS => exact (below_size (el HB))); (case aL => have := LMc6.out; omega); intro v250 w13 ho hb hg hat; rw [← Ny249.out] at ho; have n0_ := A_ (blk_grown (g := gb248) (o := .cells #[.slice Ao9 t244.length co9] 26 (0, 0)) (eb BK248) hg (Kd.S_away HO_3.out (fun _ hk => hk.2))); have n1_ := A_ (hb); have n2_ := A_ (ho); clear BK248; clear HB; clear HO_3; clear HO246; have BK248 := n0_; have HB := n1_; have HO251 := n2_; clear n0_ n1_ n2_; clear ho hb hg hat))
    go_roundg k1
    case measure => have := HK1.out; omega
    case rel => exact ⟨(y249), (wrap64 (x4_1 + 1)), impl_treesOf.Z1, H', ⟨by have := HK1.out; omega⟩, ⟨by (with_reducible repeat (first | apply Kd.S_alloc | apply Kd.S_drewN | apply Kd.S_drew)); exact Kd.S_mono HO251.out (fun _ hk => trivial)⟩, ⟨el HB⟩⟩
   ·replace c5 := Bool.eq_false_iff.mpr c5
    subst c5
    have H1 : (some x3_1) = some r := by rw [if_neg (show ¬ (false = true) by decide)] at H; exact H
    clear H
    have H := H1
    clear H1
    obtain rfl := Option.some.inj H
    go_wp2_with (first | ((with_reducible refine gate_callee (f := 165) rfl ?_); refine goesL_ (some 13) rfl rfl Try.func165 (by kernel_rfl) rfl #[.int .i64 a0, .int .i64 x4_1] rfl eg ?_; (with_reducible refine (impl_treeOfRank.calls a0 x4_1 t244 false _ A4.out).mono ?_); rintro e w14 ⟨v245, rfl, ho0, hb⟩; refine ⟨_, rfl, ?_⟩; have n0_ := A_ (Kd.S_elder' impl_treesOf.Z0 (Kd.R_base ho0) hb); have n1_ := A_ (Kd.R_lower ho0 (below_size (el HB))); have n2_ := A_ (below_step (el HB) hb); clear HO_3; clear HB; have HO_3 := n0_; have HO246 := n1_; have HB := n2_; clear n0_ n1_ n2_; (try clear hb); (try clear hb2); (try clear hk); (try clear hi); (try clear ho0)) | ((with_reducible refine gate_dst (N := 5) rfl ?_); refine box_event ?hg (N := 5) ?hd (cs := #[.slice none 0 0]) (t := 26) ?hr ?_; (case hd => rfl); (case hg => rfl); (case hr => first | (go_simp; done) | (go_simp; rfl)); intro gb248 hg w15 hbox hb; have n0_ := A_ (Kd.S_below (Kd.S_elderB impl_treesOf.Z0 gb248 (Nat.le_of_eq hg.symm)) hb); have n1_ := A_ (Kd.R_below (ea HO246) hb); have n2_ := A_ (below_step (el HB) hb); have n3_ := A_ (hbox); have n4_ := A_ ((by rw [hg]; exact (below_size (el HB)) : w.heap.size ≤ gb248)); have n5_ := A_ ((by rw [hg]; exact (below_size (el HB)) : w.heap.size ≤ gb248)); clear HO_3; clear HO246; clear HB; have HO_3 := n0_; have HO246 := n1_; have HB := n2_; have BK248 := n3_; have GW248 := n4_; have GE248 := n5_; clear n0_ n1_ n2_ n3_ n4_ n5_; clear hb hbox hg; obtain ⟨Ao16, co16, eo16⟩ := Kd.R_slice HO246.out; subst eo16; have hcz17_0 : w15.cell? ⟨gb248, 0, none⟩ = some (.slice none 0 0) := (blk_cell BK248.out 0).trans rfl; have hfz17_0 := blk_frozen BK248.out 0))
    go_ret
    exact ⟨_, er, by (with_reducible repeat (first | apply Kd.S_alloc | apply Kd.S_drewN | apply Kd.S_drew)); exact Kd.S_mono (Kd.S_far (p := ⟨gb248, 0, none⟩) (Kd.S_mono HO_3.out (fun k_ hk => (⟨hk, hk.2⟩ : _ ∧ k_ ≠ gb248))) (fun _ hk => hk.2) (.slice Ao16 t244.length co16)) (fun _ hk => trivial), el HB⟩

/-! ### impl_TreesOf: function 74 -/
def impl_TreesOf.f (k : Nat) (a0 : Int) : Option ((List (S26)) × Int) := (impl_isNodes.f a0).bind fun t252 => (if t252 = true then (if a0 > 7 then (some (([] : List (S26)), 3)) else ((impl_treesOf.f k a0).bind fun t253 => (some (t253, 0)))) else (some (([] : List (S26)), 2)))
theorem impl_TreesOf.mono : ∀ a0 k, LeO (impl_TreesOf.f k a0) (impl_TreesOf.f (k + 1) a0) := by
  intro a0 k
  unfold impl_TreesOf.f
  repeat' first
      | (with_reducible exact impl_treesOf.mono _ _)
      | (with_reducible exact LeO.refl _)
      | (with_reducible exact LeO.none _)
      | (with_reducible refine LeO.ite ?_ ?_)
      | (with_reducible refine LeO.bind ?_ (fun _ => ?_))
      | exact impl_treesOf.mono _ _
      | exact LeO.none _
      | refine LeO.ite ?_ ?_
      | refine LeO.bind ?_ (fun _ => ?_)
set_option maxHeartbeats 8000000 in
set_option maxRecDepth 100000 in
theorem impl_TreesOf.calls (k : Nat) (a0 : Int) (r1 : List (S26)) (r2 : Int) (w : World) (h : impl_TreesOf.f k a0 = some (r1, r2)) :
  Calls Try.prog 74 #[.int .i64 a0] w fun e w' => ∃ v0_ : Value, e = .returned (.tuple #[v0_, .int .i64 r2]) ∧ Kd.S k26 26 w' w.heap.size (fun _ => True) v0_ r1 ∧ Below w.heap.size w w' := by
 have HB := A_ (Below.refl w.heap.size w)
 have H : ((impl_isNodes.f a0).bind fun t252 => (if t252 = true then (if a0 > 7 then (some (([] : List (S26)), 3)) else ((impl_treesOf.f k a0).bind fun t253 => (some (t253, 0)))) else (some (([] : List (S26)), 2)))) = some (r1, r2) := h
 clear h
 replace H := Option.bind_eq_some_iff.mp H
 obtain ⟨t252, A20, H⟩ := H
 replace H : (if t252 = true then (if a0 > 7 then (some (([] : List (S26)), 3)) else ((impl_treesOf.f k a0).bind fun t253 => (some (t253, 0)))) else (some (([] : List (S26)), 2))) = some (r1, r2) := H
 have A2 := A_ A20
 clear A20
 by_cases c3 : t252 = true
 ·subst c3
  have H1 : (if a0 > 7 then (some (([] : List (S26)), 3)) else ((impl_treesOf.f k a0).bind fun t253 => (some (t253, 0)))) = some (r1, r2) := by rw [if_pos rfl] at H; exact H
  clear H
  have H := H1
  clear H1
  by_cases c4 : a0 > 7
  ·rw [if_pos c4] at H
   have c4b0 : decide (7 < a0) = true := decide_eq_true c4
   clear c4
   simp only [Option.some.injEq, Prod.mk.injEq] at H
   obtain ⟨rfl, rfl⟩ := H
   go_enter Try.func74, Try.ntmps74
   go_wp2_with (first | ((with_reducible refine gate_callee (f := 158) rfl ?_); refine goesL_ (some 6) rfl rfl Try.func158 (by kernel_rfl) rfl #[.int .i64 a0] rfl eg ?_; (with_reducible refine (impl_isNodes.calls a0 true _ A2.out).mono ?_); rintro e w' ⟨rfl, ⟨nd, rfl⟩⟩; refine ⟨_, rfl, ?_⟩))
   go_ret2
   exact ⟨_, er, by first | exact Kd.S_nil _ _ _ _ _ | exact Kd.N_nil _ _ _ _ _ | exact Kd.V_nil _ _ _ _ _ | exact Kd.Q_nil _ _ _ _ _ | exact Kd.R_nil _ _ _ _ _, el HB⟩
  ·rw [if_neg c4] at H
   have c4b0 : decide (7 < a0) = false := decide_eq_false c4
   clear c4
   replace H := Option.bind_eq_some_iff.mp H
   obtain ⟨t253, A50, H⟩ := H
   replace H : (some (t253, 0)) = some (r1, r2) := H
   have A5 := A_ A50
   clear A50
   simp only [Option.some.injEq, Prod.mk.injEq] at H
   obtain ⟨rfl, rfl⟩ := H
   go_enter Try.func74, Try.ntmps74
   go_wp2_with (first | ((with_reducible refine gate_callee (f := 158) rfl ?_); refine goesL_ (some 6) rfl rfl Try.func158 (by kernel_rfl) rfl #[.int .i64 a0] rfl eg ?_; (with_reducible refine (impl_isNodes.calls a0 true _ A2.out).mono ?_); rintro e w' ⟨rfl, ⟨nd, rfl⟩⟩; refine ⟨_, rfl, ?_⟩) | ((with_reducible refine gate_callee (f := 159) rfl ?_); refine goesL_ (some 12) rfl rfl Try.func159 (by kernel_rfl) rfl #[.int .i64 a0] rfl eg ?_; (with_reducible refine (impl_treesOf.calls k a0 t253 _ A5.out).mono ?_); rintro e w6 ⟨v254, rfl, ho0, hb⟩; refine ⟨_, rfl, ?_⟩; have n0_ := A_ (Kd.S_lower ho0 (below_size (el HB))); have n1_ := A_ (below_step (el HB) hb); clear HB; have HO255 := n0_; have HB := n1_; clear n0_ n1_; (try clear hb); (try clear hb2); (try clear hk); (try clear hi); (try clear ho0)))
   go_ret2
   exact ⟨_, er, by (with_reducible repeat (first | apply Kd.S_alloc | apply Kd.S_drewN | apply Kd.S_drew)); exact HO255.out, el HB⟩
 ·replace c3 := Bool.eq_false_iff.mpr c3
  subst c3
  have H1 : (some (([] : List (S26)), 2)) = some (r1, r2) := by rw [if_neg (show ¬ (false = true) by decide)] at H; exact H
  clear H
  have H := H1
  clear H1
  simp only [Option.some.injEq, Prod.mk.injEq] at H
  obtain ⟨rfl, rfl⟩ := H
  go_enter Try.func74, Try.ntmps74
  go_wp2_with (first | ((with_reducible refine gate_callee (f := 158) rfl ?_); refine goesL_ (some 6) rfl rfl Try.func158 (by kernel_rfl) rfl #[.int .i64 a0] rfl eg ?_; (with_reducible refine (impl_isNodes.calls a0 false _ A2.out).mono ?_); rintro e w' ⟨rfl, ⟨nd, rfl⟩⟩; refine ⟨_, rfl, ?_⟩))
  go_ret2
  exact ⟨_, er, by first | exact Kd.S_nil _ _ _ _ _ | exact Kd.N_nil _ _ _ _ _ | exact Kd.V_nil _ _ _ _ _ | exact Kd.Q_nil _ _ _ _ _ | exact Kd.R_nil _ _ _ _ _, el HB⟩

/-! ### spec_l02Whole: function 160 -/
def spec_l02Whole.f (a0 : Int) : Option (Bool) := (spec_l01In.f a0 1 24).bind fun t256 => (some t256)
set_option maxHeartbeats 8000000 in
set_option maxRecDepth 100000 in
theorem spec_l02Whole.calls (a0 : Int) (r : Bool) (w : World) (h : spec_l02Whole.f a0 = some r) :
  Calls Try.prog 160 #[.int .i64 a0] w fun e w' => e = .returned (.bool r) ∧ Drawn0 w w' := by
 have H : ((spec_l01In.f a0 1 24).bind fun t256 => (some t256)) = some r := h
 clear h
 replace H := Option.bind_eq_some_iff.mp H
 obtain ⟨t256, A20, H⟩ := H
 replace H : (some t256) = some r := H
 have A2 := A_ A20
 clear A20
 obtain rfl := Option.some.inj H
 go_enter Try.func160, Try.ntmps160
 go_wp2_with (first | ((with_reducible refine gate_callee (f := 162) rfl ?_); refine goesL_ (some 4) rfl rfl Try.func162 (by kernel_rfl) rfl #[.int .i64 a0, .int .i64 1, .int .i64 24] rfl eg ?_; (with_reducible refine (spec_l01In.calls a0 1 24 t256 _ A2.out).mono ?_); rintro e w' ⟨rfl, ⟨nd, rfl⟩⟩; refine ⟨_, rfl, ?_⟩))
 go_ret
 exact ⟨by first | rfl | (simp; done) | (simp [*]; done), by repeat (first | exact Drawn0.refl _ | apply Drawn0.step)⟩

/-! ### spec_l02Table: function 174 -/
mutual
def spec_l02Table.l0 : Nat → Int → List (List Int) → Int → Option ((List (List Int)))
  | 0, _, _, _ => none
  | k + 1, x0, x3, x4 => if x4 ≤ x0 then (if 0 ≤ (wrap64 (x0 + 2)) then (if (wrap64 (x0 + 2) : Int).toNat ≤ 35184372088832 then ((some (List.replicate (wrap64 (x0 + 2) : Int).toNat 0 : List Int)).bind fun y260 => (if x4 = 0 then (if 0 < (y260.length : Int) then (if x3.length < 5864062014805 then (spec_l02Table.l0 k x0 (x3 ++ [(y260.set (0 : Int).toNat 1)]) (wrap64 (x4 + 1))) else (none)) else (none)) else (spec_l02Table.l1 k x0 x3 x4 y260 0 x4))) else (none)) else (none)) else (some x3)
def spec_l02Table.l1 : Nat → Int → List (List Int) → Int → List Int → Int → Int → Option ((List (List Int)))
  | 0, _, _, _, _, _, _ => none
  | k + 1, x0, x3, x4, x5, x6, x7 => if x7 ≥ 0 then (if 0 ≤ (wrap64 (x4 - 1)) then (if (wrap64 (x4 - 1)) < (x3.length : Int) then (if 0 ≤ x7 then (if x7 < ((rd_L2 x3 (wrap64 (x4 - 1))).length : Int) then (if (wrap64 (x7 + 1)) ≤ x0 then (if 0 ≤ (wrap64 (x7 + 1)) then (if (wrap64 (x7 + 1)) < (x5.length : Int) then (spec_l02Table.l1 k x0 x3 x4 (x5.set ((wrap64 (x7 + 1)) : Int).toNat (wrap64 (x6 + (rd (rd_L2 x3 (wrap64 (x4 - 1))) x7)))) (wrap64 (x6 + (rd (rd_L2 x3 (wrap64 (x4 - 1))) x7))) (wrap64 (x7 - 1))) else (none)) else (none)) else (spec_l02Table.l1 k x0 x3 x4 x5 (wrap64 (x6 + (rd (rd_L2 x3 (wrap64 (x4 - 1))) x7))) (wrap64 (x7 - 1)))) else (none)) else (none)) else (none)) else (none)) else (if x3.length < 5864062014805 then (spec_l02Table.l0 k x0 (x3 ++ [x5]) (wrap64 (x4 + 1))) else (none))
end
def spec_l02Table.f (k : Nat) (a0 : Int) : Option ((List (List Int))) := spec_l02Table.l0 k a0 (([] : List (List Int))) 0
theorem spec_l02Table.mono_l : ∀ k, (∀ y0 y1 y2, LeO (spec_l02Table.l0 k y0 y1 y2) (spec_l02Table.l0 (k + 1) y0 y1 y2)) ∧ (∀ y0 y1 y2 y3 y4 y5, LeO (spec_l02Table.l1 k y0 y1 y2 y3 y4 y5) (spec_l02Table.l1 (k + 1) y0 y1 y2 y3 y4 y5))
  | 0 => ⟨fun _ _ _ r h => by simp [spec_l02Table.l0] at h, fun _ _ _ _ _ _ r h => by simp [spec_l02Table.l1] at h⟩
  | k + 1 => by
    obtain ⟨ih0, ih1⟩ := spec_l02Table.mono_l k
    refine ⟨?_, ?_⟩
    · intro y0 y1 y2
      unfold spec_l02Table.l0
      repeat' first
      | (with_reducible exact ih0 _ _ _)
      | (with_reducible exact ih1 _ _ _ _ _ _)
      | (with_reducible exact LeO.refl _)
      | (with_reducible exact LeO.none _)
      | (with_reducible refine LeO.ite ?_ ?_)
      | (with_reducible refine LeO.bind ?_ (fun _ => ?_))
      | exact ih0 _ _ _
      | exact ih1 _ _ _ _ _ _
      | exact LeO.none _
      | refine LeO.ite ?_ ?_
      | refine LeO.bind ?_ (fun _ => ?_)
    · intro y0 y1 y2 y3 y4 y5
      unfold spec_l02Table.l1
      repeat' first
      | (with_reducible exact ih0 _ _ _)
      | (with_reducible exact ih1 _ _ _ _ _ _)
      | (with_reducible exact LeO.refl _)
      | (with_reducible exact LeO.none _)
      | (with_reducible refine LeO.ite ?_ ?_)
      | (with_reducible refine LeO.bind ?_ (fun _ => ?_))
      | exact ih0 _ _ _
      | exact ih1 _ _ _ _ _ _
      | exact LeO.none _
      | refine LeO.ite ?_ ?_
      | refine LeO.bind ?_ (fun _ => ?_)
theorem spec_l02Table.mono : ∀ a0 k, LeO (spec_l02Table.f k a0) (spec_l02Table.f (k + 1) a0) := by
  intro a0 k
  obtain ⟨ih0, ih1⟩ := spec_l02Table.mono_l k
  unfold spec_l02Table.f
  repeat' first
      | (with_reducible exact ih0 _ _ _)
      | (with_reducible exact ih1 _ _ _ _ _ _)
      | (with_reducible exact LeO.refl _)
      | (with_reducible exact LeO.none _)
      | (with_reducible refine LeO.ite ?_ ?_)
      | (with_reducible refine LeO.bind ?_ (fun _ => ?_))
      | exact ih0 _ _ _
      | exact ih1 _ _ _ _ _ _
      | exact LeO.none _
      | refine LeO.ite ?_ ?_
      | refine LeO.bind ?_ (fun _ => ?_)
theorem spec_l02Table.Z0 {p : Prop} (h : p := by repeat (first | (with_reducible exact HR267_0.out) | (with_reducible refine Kd.C_alloc ?_ _) | (with_reducible refine Kd.C_drewN ?_ _) | (with_reducible refine Kd.C_drew ?_) | exact HR267_0.out)) : p := h
theorem spec_l02Table.Z1 {p : Prop} (h : p := by first | exact q267 | exact of_decide_eq_true (by first | (with_reducible assumption) | assumption) | (have e_ := (Kd.S_reads' HO_3.out).1; omega)) : p := h
theorem spec_l02Table.Z2 {p : Prop} (h : p := by (with_reducible repeat (first | apply Kd.S_alloc | apply Kd.S_drewN | apply Kd.S_drew)); exact HO_3.out) : p := h
theorem spec_l02Table.Z3 {p : Prop} (h : p := by first | rfl | (simp; done) | (simp only [← hji20] <;> (first | rfl | simp)) | (simp [*]; done)) : p := h
theorem spec_l02Table.Z4 {p : Prop} (h : p := by first | (with_reducible assumption) | assumption) : p := h
theorem spec_l02Table.Z5 {p : Prop} (h : p := by first | rfl | (simp; done) | (simp [*]; done)) : p := h
set_option maxHeartbeats 8000000 in
set_option maxRecDepth 100000 in
theorem spec_l02Table.calls (k : Nat) (a0 : Int) (r : List (List Int)) (w : World) (h : spec_l02Table.f k a0 = some r) :
  Calls Try.prog 174 #[.int .i64 a0] w fun e w' => ∃ v0_ : Value, e = .returned (v0_) ∧ Kd.S (Kd.slice 2 (Kd.int .i64)) 24 w' w.heap.size (fun _ => True) v0_ r ∧ Below w.heap.size w w' := by
 have HB := A_ (Below.refl w.heap.size w)
 have H : (spec_l02Table.l0 k a0 (([] : List (List Int))) 0) = some r := h
 clear h
 obtain ⟨y257, hy257⟩ : ∃ y_ : List (List Int), y_ = (([] : List (List Int))) := ⟨_, rfl⟩
 replace H : (spec_l02Table.l0 k a0 y257 0) = some r := by first | (rw [hy257]; with_reducible exact H) | (have H2_ := (Option.bind_some _ _).symm.trans H; rw [hy257]; with_reducible exact H2_) | (have H2_ := (Option.bind_some _ _).symm.trans H; with_reducible exact H2_) | with_reducible exact H | (rw [hy257]; exact H) | exact H
 have Ny257 := A_ hy257
 clear hy257
 have H' := A_ H
 clear H
 go_enter Try.func174, Try.ntmps174
 go_wp2_with (first | ((with_reducible refine gate_dst (N := 8) rfl ?_); refine Kd.S_lit (Kd.slice 2 (Kd.int .i64)) _ 24 ?hg (N := 8) ?hd (xs := ([] : List (List Int))) (inner := []) (ok := fun _ => True) (okp := fun _ => True) ?hr ?hp (fun _ hk => hk) trivial (Below.refl _ _) (Nat.le_refl _) (by simp) ?_; (case hd => rfl); (case hg => rfl); (case hr => first | (go_simp; done) | (go_simp; rfl)); (case hp => exact (Reps.none _ _)); intro v258 w2 ho3 hb hg_ hnew_; clear hg_ hnew_; (first | rw [← Ny257.out] at ho3 | (simp only [Int.reduceToNat] at ho3; rw [← Ny257.out] at ho3)); have n0_ := A_ (Kd.S_lower ho3 (below_size (el HB))); have n1_ := A_ (below_step (el HB) hb); clear HB; have HO259 := n0_; have HB := n1_; clear n0_ n1_; clear hb ho3))
 go_loopg [3, 4] k (fun kq v3 v4 w' => ∃ (x3_1 : List (List Int)) (x4_1 : Int), v4 = .int .i64 x4_1 ∧ Aside0 (spec_l02Table.l0 kq a0 x3_1 x4_1 = some r) ∧ Aside0 (kq ≤ k) ∧ Aside0 (Kd.S (Kd.slice 2 (Kd.int .i64)) 24 w' w.heap.size (fun _ => True) v3 x3_1) ∧ Aside0 (Below w.heap.size w w'))
 case atStart => exact ⟨(y257), (0), spec_l02Table.Z5, H', ⟨Nat.le_refl _⟩, ⟨by (with_reducible repeat (first | apply Kd.S_alloc | apply Kd.S_drewN | apply Kd.S_drew)); exact HO259.out⟩, ⟨el HB⟩⟩
 case round =>
  clear H'
  try clear c1
  try clear p2
  obtain ⟨x3_1, x4_1, rfl, HA, HK1, HO_3, HB⟩ := hrel
  cases gk with
  | zero => exact absurd HA.out (by simp [spec_l02Table.l0])
  | succ k1 =>
   have H := HA.out
   clear HA
   simp only [spec_l02Table.l0] at H
   by_cases c4 : x4_1 ≤ a0
   ·rw [if_pos c4] at H
    have c4b0 : decide (x4_1 ≤ a0) = true := decide_eq_true c4
    clear c4
    obtain ⟨ji5, hji5⟩ : ∃ j_ : Int, (wrap64 (a0 + 2)) = j_ := ⟨_, rfl⟩
    replace H : (if 0 ≤ (ji5) then (if (ji5 : Int).toNat ≤ 35184372088832 then ((some (List.replicate (ji5 : Int).toNat 0 : List Int)).bind fun y260 => (if x4_1 = 0 then (if 0 < (y260.length : Int) then (if x3_1.length < 5864062014805 then (spec_l02Table.l0 k1 a0 (x3_1 ++ [(y260.set (0 : Int).toNat 1)]) (wrap64 (x4_1 + 1))) else (none)) else (none)) else (spec_l02Table.l1 k1 a0 x3_1 x4_1 y260 0 x4_1))) else (none)) else (none)) = some r := by first | (rw [hji5] at H; exact H) | (simp only [hji5] at H ⊢; exact H)
    have hji5w : (IntKind.i64.wrap (a0 + 2)) = ji5 := (i64_w _).trans hji5
    by_cases c6 : 0 ≤ (ji5)
    rotate_left
    ·rw [if_neg c6] at H
     exact absurd H (by simp)
    rw [if_pos c6] at H
    have c6b0 := eq_true c6
    have c6b1 : decide (0 ≤ (ji5)) = true := decide_eq_true c6
    clear c6
    by_cases c7 : (ji5 : Int).toNat ≤ 35184372088832
    rotate_left
    ·rw [if_neg c7] at H
     exact absurd H (by simp)
    rw [if_pos c7] at H
    have c7b0 := eq_true c7
    have c7b1 : decide ((ji5 : Int).toNat ≤ 35184372088832) = true := decide_eq_true c7
    clear c7
    obtain ⟨y260, hy260⟩ : ∃ y_ : List Int, y_ = (List.replicate (ji5 : Int).toNat 0) := ⟨_, rfl⟩
    replace H : (if x4_1 = 0 then (if 0 < (y260.length : Int) then (if x3_1.length < 5864062014805 then (spec_l02Table.l0 k1 a0 (x3_1 ++ [(y260.set (0 : Int).toNat 1)]) (wrap64 (x4_1 + 1))) else (none)) else (none)) else (spec_l02Table.l1 k1 a0 x3_1 x4_1 y260 0 x4_1)) = some r := by first | (rw [hy260]; with_reducible exact H) | (have H2_ := (Option.bind_some _ _).symm.trans H; rw [hy260]; with_reducible exact H2_) | (have H2_ := (Option.bind_some _ _).symm.trans H; with_reducible exact H2_) | with_reducible exact H | (rw [hy260]; exact H) | exact H
    have Ny260 := A_ hy260
    clear hy260
    by_cases c8 : x4_1 = 0
    ·rw [if_pos c8] at H
     have c8b0 : (x4_1 == 0) = true := beq_iff_eq.mpr c8
     have c8b1 : (x4_1 != 0) = false := bne_eq_false_iff_eq.mpr c8
     clear c8
     by_cases c9 : 0 < (y260.length : Int)
     rotate_left
     ·rw [if_neg c9] at H
      exact absurd H (by simp)
     rw [if_pos c9] at H
     have c9b0 : decide (0 < (y260.length : Int)) = true := decide_eq_true c9
     have c9b1 : decide (0 < y260.length) = true := decide_eq_true (by omega)
     clear c9
     obtain ⟨y263, hy263⟩ : ∃ y_ : List Int, y_ = (y260.set (0 : Int).toNat 1) := ⟨_, rfl⟩
     replace H : (if x3_1.length < 5864062014805 then (spec_l02Table.l0 k1 a0 (x3_1 ++ [y263]) (wrap64 (x4_1 + 1))) else (none)) = some r := by first | (rw [hy263]; with_reducible exact H) | (have H2_ := (Option.bind_some _ _).symm.trans H; rw [hy263]; with_reducible exact H2_) | (have H2_ := (Option.bind_some _ _).symm.trans H; with_reducible exact H2_) | with_reducible exact H | (rw [hy263]; exact H) | exact H
     have Ny263 := A_ hy263
     clear hy263
     by_cases c11 : x3_1.length < 5864062014805
     rotate_left
     ·rw [if_neg c11] at H
      exact absurd H (by simp)
     rw [if_pos c11] at H
     have LMc11 := A_ c11
     clear c11
     obtain ⟨y264, hy264⟩ : ∃ y_ : List (List Int), y_ = (x3_1 ++ [y263]) := ⟨_, rfl⟩
     replace H : (spec_l02Table.l0 k1 a0 y264 (wrap64 (x4_1 + 1))) = some r := by first | (rw [hy264]; with_reducible exact H) | (have H2_ := (Option.bind_some _ _).symm.trans H; rw [hy264]; with_reducible exact H2_) | (have H2_ := (Option.bind_some _ _).symm.trans H; with_reducible exact H2_) | with_reducible exact H | (rw [hy264]; exact H) | exact H
     have Ny264 := A_ hy264
     clear hy264
     have H' := A_ H
     clear H
     go_wp2_with (first | ((with_reducible refine gate_dst (N := 16) rfl ?_); refine Kd.R_make (Kd.int .i64) _ 2 rfl (N := 16) rfl 24 _ _ rfl ji5 rfl rfl Try.underlying24 (.int .i64 0) 8 info2 rfl (by decide) (by omega) 0 (ok := fun _ => True) (okp := fun _ => True) rfl (fun _ hk => hk) trivial (of_decide_eq_true spec_l02Table.Z4) (Nat.le_trans (Nat.mul_le_mul_right _ (of_decide_eq_true spec_l02Table.Z4 : ji5.toNat ≤ 35184372088832)) (by omega)) (Below.refl _ _) (Nat.le_refl _) ?_; intro v261 w12 ho13 hb hg_ hnew_; clear hg_ hnew_; (first | rw [← Ny260.out] at ho13 | (simp only [Int.reduceToNat] at ho13; rw [← Ny260.out] at ho13)); have n0_ := A_ (Kd.S_elder' spec_l02Table.Z2 (Kd.R_base ho13) hb); have n1_ := A_ (Kd.R_lower ho13 (below_size (el HB))); have n2_ := A_ (below_step (el HB) hb); clear HO_3; clear HB; have HO_3 := n0_; have HO262 := n1_; have HB := n2_; clear n0_ n1_ n2_; clear hb ho13; have p10 : 0 ≤ (0 : Int) := (by omega); have q10 : (0 : Int) < ((y260.length : Int) : Int) := of_decide_eq_true spec_l02Table.Z4; have qi10 : (0 < y260.length) = True := eq_true (by omega); obtain ⟨go10, co10, eo10, gb10, gl10, cl10, HG10⟩ := Kd.R_form HO262.out (by omega); (first | cases eo10 | (injection eo10 with ea_ en_ ec_; (first | subst ea_ | (injection ea_ with ea_; subst ea_)); subst ec_; clear en_)); have GB10 := A_ gb10; have GG10 := A_ HG10; clear gb10 gl10 HG10; obtain ⟨hx10_0, hf10_0⟩ := Kd.R_celln 0 HO262.out (0 : Int) p10 q10; (try rw [show ((0 : Int)).toNat = 0 from rfl] at hx10_0); (try simp only [Nat.reduceMul, Nat.zero_mul, Nat.zero_add, Nat.reduceAdd] at hx10_0); (try rw [show ((0 : Int)).toNat = 0 from rfl] at hf10_0); (try simp only [Nat.reduceMul, Nat.zero_mul, Nat.zero_add, Nat.reduceAdd] at hf10_0); replace p10 := eq_true p10; replace q10 := eq_true q10; obtain ⟨hy14_, hz14_⟩ := Kd.R_celln 0 HO262.out (0 : Int) (by omega) (of_decide_eq_true spec_l02Table.Z4); (try simp only [Int.reduceToNat, Int.toNat_zero, Int.toNat_ofNat, Nat.reduceMul, Nat.zero_mul, Nat.zero_add] at hy14_ hz14_); (try rw [show ((0 : Int)).toNat = 0 from rfl] at hy14_); (try rw [show ((0 : Int)).toNat = 0 from rfl] at hz14_); have HP14 := Kd.R_putg HO262.out (0 : Int) 1) | ((with_reducible refine gate_store (t := 2) (p := 20) rfl ?_); refine store_event (t := 2) (p := 20) (v := ?vo_w15) (w1 := (w12.setCell ⟨go10, (0 : Int).toNat, none⟩ (.int .i64 1))) ?hg ?ho ?hn ?hr ?_; (case ho => rfl); (case hg => rfl); (case hn => rfl); (case hr => first | (go_simp; done) | (go_simp; rfl)); intro w15 hw; have hg : w12.grownBy w15 (some go10) := (by rw [hw]; exact HP14.2); have hp_ : Kd.R (Kd.int .i64) 2 w15 w.heap.size (fun _ => True) (.slice (some ⟨go10, 0, none⟩) y260.length co10) y263 := (by rw [hw, Ny263.out]; exact HP14.1); clear HP14; have n0_ := A_ (Kd.S_after (v := (.slice (some ⟨go10, 0, none⟩) y260.length co10)) (v1 := (.slice (some ⟨go10, 0, none⟩) y260.length co10)) (ok := (fun _ => True)) spec_l02Table.Z2 hg (.inl rfl)); have n1_ := A_ (hp_); have n2_ := A_ ((by rw [hw]; exact below_set (HB.out) GB10.out : Below w.heap.size w w15)); clear HO_3; clear HO262; clear HB; have HO_3 := n0_; have HO262 := n1_; have HB := n2_; clear n0_ n1_ n2_; clear hg hw hp_) | ((with_reducible refine gate_builtin (b := .append) (xs := #[.tmp 45, .tmp 47]) rfl ?_); at_builtin; refine Kd.S_append (Kd.slice 2 (Kd.int .i64)) (w0 := w) w.heap.size rfl (.tmp 45) (.tmp 47) 127 24 (.slice none 0 0) 24 rfl Try.underlying127 info24 rfl (by decide) (by omega) u3 x3_1 y263 [.slice (some ⟨go10, 0, none⟩) y260.length co10] (fun _ => True) (fun k_ => some k_ = (.slice (some ⟨go10, 0, none⟩) y260.length co10 : Value).ownBlock) rfl rfl ?aP (fun k_ hk_ => ((Kd.R_mono (ok' := fun k_ => ((fun _ => True)) k_ ∧ some k_ ≠ (u3 : Value).ownBlock) (Kd.R_apart' (HO262.out) (Kd.S_typed HO_3.out) (by decide)) (fun k_ hk => ⟨trivial, hk.2⟩))).1 k_ hk_.symm) ?aF ?aO ?aB ?aS ?aL ?_; (case aP => exact Kd.M_row (Kd.R_mono (Kd.R_tight rfl (Kd.R_mono (ok' := fun k_ => ((fun _ => True)) k_ ∧ some k_ ≠ (u3 : Value).ownBlock) (Kd.R_apart' (HO262.out) (Kd.S_typed HO_3.out) (by decide)) (fun k_ hk => ⟨trivial, hk.2⟩))) (fun _ h_ => h_))); (case aB => exact (el HB)); (case aF => exact (fun _ _ => trivial)); (case aO => exact (by (with_reducible repeat (first | apply Kd.S_alloc | apply Kd.S_drewN | apply Kd.S_drew)); exact Kd.S_mono HO_3.out (fun k_ hk => ⟨trivial, fun e_ => hk.2 e_⟩))); (case aS => exact (below_size (el HB))); (case aL => have := LMc11.out; omega); intro v265 w16 ho hb hg hat; rw [← Ny264.out] at ho; have n0_ := A_ (hb); have n1_ := A_ (ho); clear HB; clear HO_3; clear HO262; have HB := n0_; have HO266 := n1_; clear n0_ n1_; clear ho hb hg hat))
     go_roundg k1
     case measure => have := HK1.out; omega
     case rel => exact ⟨(y264), (wrap64 (x4_1 + 1)), spec_l02Table.Z5, H', ⟨by have := HK1.out; omega⟩, ⟨by (with_reducible repeat (first | apply Kd.S_alloc | apply Kd.S_drewN | apply Kd.S_drew)); first | exact HO266.out | (have h_ := HO266.out; simpa only [ownBlock_slice] using h_)⟩, ⟨el HB⟩⟩
    ·rw [if_neg c8] at H
     have c8b0 : (x4_1 == 0) = false := beq_eq_false_iff_ne.mpr c8
     have c8b1 : (x4_1 != 0) = true := bne_iff_ne.mpr c8
     have H' := A_ H
     clear H
     go_wp2_with (first | ((with_reducible refine gate_dst (N := 16) rfl ?_); refine Kd.R_make (Kd.int .i64) _ 2 rfl (N := 16) rfl 24 _ _ rfl ji5 rfl rfl Try.underlying24 (.int .i64 0) 8 info2 rfl (by decide) (by omega) 0 (ok := fun _ => True) (okp := fun _ => True) rfl (fun _ hk => hk) trivial (of_decide_eq_true spec_l02Table.Z4) (Nat.le_trans (Nat.mul_le_mul_right _ (of_decide_eq_true spec_l02Table.Z4 : ji5.toNat ≤ 35184372088832)) (by omega)) (Below.refl _ _) (Nat.le_refl _) ?_; intro v261 w17 ho18 hb hg_ hnew_; clear hg_ hnew_; (first | rw [← Ny260.out] at ho18 | (simp only [Int.reduceToNat] at ho18; rw [← Ny260.out] at ho18)); have n0_ := A_ (Kd.S_elder' spec_l02Table.Z2 (Kd.R_base ho18) hb); have n1_ := A_ (Kd.R_lower ho18 (below_size (el HB))); have n2_ := A_ (below_step (el HB) hb); clear HO_3; clear HB; have HO_3 := n0_; have HO262 := n1_; have HB := n2_; clear n0_ n1_ n2_; clear hb ho18))
     go_loopg [6, 7] k1 (fun kq v6 v7 w' => ∃ (x5_2 : List Int) (x6_2 : Int) (x7_2 : Int), v6 = .int .i64 x6_2 ∧ v7 = .int .i64 x7_2 ∧ Aside0 (spec_l02Table.l1 kq a0 x3_1 x4_1 x5_2 x6_2 x7_2 = some r) ∧ Aside0 (kq ≤ k1) ∧ Aside0 (Kd.S (Kd.slice 2 (Kd.int .i64)) 24 w' w.heap.size (fun k_ => some k_ ≠ (v261 : Value).ownBlock) u3 x3_1) ∧ Aside0 (Kd.R (Kd.int .i64) 2 w' w.heap.size (fun _ => True) v261 x5_2) ∧ Aside0 (Below w.heap.size w w'))
     case atStart => exact ⟨(y260), (0), (x4_1), spec_l02Table.Z5, spec_l02Table.Z5, H', ⟨Nat.le_refl _⟩, ⟨by (with_reducible repeat (first | apply Kd.S_alloc | apply Kd.S_drewN | apply Kd.S_drew)); exact Kd.S_mono HO_3.out (fun _ hk => hk.2)⟩, ⟨ea HO262⟩, ⟨el HB⟩⟩
     case round =>
      clear H'
      try clear c1
      try clear p1
      try clear q1
      try clear hx1
      try clear qi1
      try clear hf1
      try clear p2
      try clear c4
      try clear c4b0
      try clear c6
      try clear c6b0
      try clear c6b1
      try clear p6
      try clear c7
      try clear c7b0
      try clear c7b1
      try clear c8
      try clear c8b0
      try clear c8b1
      try clear c9
      try clear c9b0
      try clear c9b1
      try clear p10
      try clear q10
      try clear hx10
      try clear qi10
      try clear hf10
      try clear c11
      try clear c17
      try clear hx10_0
      try clear p10
      try clear p2
      try clear q10
      obtain ⟨x5_2, x6_2, x7_2, rfl, rfl, HA, HK2, HO_3, HO_5, HB⟩ := hrel
      cases gk with
      | zero => exact absurd HA.out (by simp [spec_l02Table.l1])
      | succ k2 =>
       have H := HA.out
       clear HA
       simp only [spec_l02Table.l1] at H
       by_cases c19 : x7_2 ≥ 0
       ·rw [if_pos c19] at H
        have c19b0 : decide (0 ≤ x7_2) = true := decide_eq_true c19
        clear c19
        obtain ⟨ji20, hji20⟩ : ∃ j_ : Int, (wrap64 (x4_1 - 1)) = j_ := ⟨_, rfl⟩
        replace H : (if 0 ≤ (ji20) then (if (ji20) < (x3_1.length : Int) then (if 0 ≤ x7_2 then (if x7_2 < ((rd_L2 x3_1 (ji20)).length : Int) then (if (wrap64 (x7_2 + 1)) ≤ a0 then (if 0 ≤ (wrap64 (x7_2 + 1)) then (if (wrap64 (x7_2 + 1)) < (x5_2.length : Int) then (spec_l02Table.l1 k2 a0 x3_1 x4_1 (x5_2.set ((wrap64 (x7_2 + 1)) : Int).toNat (wrap64 (x6_2 + (rd (rd_L2 x3_1 (ji20)) x7_2)))) (wrap64 (x6_2 + (rd (rd_L2 x3_1 (ji20)) x7_2))) (wrap64 (x7_2 - 1))) else (none)) else (none)) else (spec_l02Table.l1 k2 a0 x3_1 x4_1 x5_2 (wrap64 (x6_2 + (rd (rd_L2 x3_1 (ji20)) x7_2))) (wrap64 (x7_2 - 1)))) else (none)) else (none)) else (none)) else (none)) = some r := by first | (rw [hji20] at H; exact H) | (simp only [hji20] at H ⊢; exact H)
        have hji20w : (IntKind.i64.wrap (x4_1 - 1)) = ji20 := (i64_w _).trans hji20
        by_cases c21 : 0 ≤ (ji20)
        rotate_left
        ·rw [if_neg c21] at H
         exact absurd H (by simp)
        rw [if_pos c21] at H
        have c21b0 : decide (0 ≤ (ji20)) = true := decide_eq_true c21
        clear c21
        by_cases c22 : (ji20) < (x3_1.length : Int)
        rotate_left
        ·rw [if_neg c22] at H
         exact absurd H (by simp)
        rw [if_pos c22] at H
        have c22b0 : decide ((ji20) < (x3_1.length : Int)) = true := decide_eq_true c22
        clear c22
        by_cases c23 : 0 ≤ x7_2
        rotate_left
        ·rw [if_neg c23] at H
         exact absurd H (by simp)
        rw [if_pos c23] at H
        have c23b0 : decide (0 ≤ x7_2) = true := decide_eq_true c23
        clear c23
        by_cases c24 : x7_2 < ((rd_L2 x3_1 (ji20)).length : Int)
        rotate_left
        ·rw [if_neg c24] at H
         exact absurd H (by simp)
        rw [if_pos c24] at H
        have c24b0 : decide (x7_2 < ((rd_L2 x3_1 (ji20)).length : Int)) = true := decide_eq_true c24
        clear c24
        by_cases c25 : (wrap64 (x7_2 + 1)) ≤ a0
        ·rw [if_pos c25] at H
         have c25b0 : decide ((wrap64 (x7_2 + 1)) ≤ a0) = true := decide_eq_true c25
         clear c25
         obtain ⟨ji26, hji26⟩ : ∃ j_ : Int, (wrap64 (x7_2 + 1)) = j_ := ⟨_, rfl⟩
         replace H : (if 0 ≤ (ji26) then (if (ji26) < (x5_2.length : Int) then (spec_l02Table.l1 k2 a0 x3_1 x4_1 (x5_2.set ((ji26) : Int).toNat (wrap64 (x6_2 + (rd (rd_L2 x3_1 (ji20)) x7_2)))) (wrap64 (x6_2 + (rd (rd_L2 x3_1 (ji20)) x7_2))) (wrap64 (x7_2 - 1))) else (none)) else (none)) = some r := by first | (rw [hji26] at H; exact H) | (simp only [hji26] at H ⊢; exact H)
         (try rw [hji26] at c25b0)
         have hji26w : (IntKind.i64.wrap (x7_2 + 1)) = ji26 := (i64_w _).trans hji26
         by_cases c27 : 0 ≤ (ji26)
         rotate_left
         ·rw [if_neg c27] at H
          exact absurd H (by simp)
         rw [if_pos c27] at H
         have c27b0 : decide (0 ≤ (ji26)) = true := decide_eq_true c27
         clear c27
         by_cases c28 : (ji26) < (x5_2.length : Int)
         rotate_left
         ·rw [if_neg c28] at H
          exact absurd H (by simp)
         rw [if_pos c28] at H
         have c28b0 : decide ((ji26) < (x5_2.length : Int)) = true := decide_eq_true c28
         clear c28
         obtain ⟨y269, hy269⟩ : ∃ y_ : List Int, y_ = (x5_2.set ((ji26) : Int).toNat (wrap64 (x6_2 + (rd (rd_L2 x3_1 (ji20)) x7_2)))) := ⟨_, rfl⟩
         replace H : (spec_l02Table.l1 k2 a0 x3_1 x4_1 y269 (wrap64 (x6_2 + (rd (rd_L2 x3_1 (ji20)) x7_2))) (wrap64 (x7_2 - 1))) = some r := by first | (rw [hy269]; with_reducible exact H) | (have H2_ := (Option.bind_some _ _).symm.trans H; rw [hy269]; with_reducible exact H2_) | (have H2_ := (Option.bind_some _ _).symm.trans H; with_reducible exact H2_) | with_reducible exact H | (rw [hy269]; exact H) | exact H
         have Ny269 := A_ hy269
         clear hy269
         have H' := A_ H
         clear H
         obtain ⟨Ao30, co30, eo30⟩ := Kd.S_slice HO_3.out
         subst eo30
         have p267 : 0 ≤ ((ji20) : Int) := of_decide_eq_true spec_l02Table.Z4
         have q267 : (ji20) < (x3_1.length : Int) := of_decide_eq_true spec_l02Table.Z4
         obtain ⟨ad267, A267_0, c267_0, e267, hx267_0, hl267_0, hi267_0⟩ := at_L2 (Kd.S_reads' HO_3.out).2.2 (ji20) p267 q267
         cases e267
         obtain ⟨ce267, hce267, hMe267, hcc267⟩ := Kd.S_get HO_3.out [] (ji20) p267 spec_l02Table.Z1
         obtain ⟨ve267_0, rfl, ge267_0⟩ := hMe267
         have hv267_0 := hcc267 0 _ rfl
         rw [Nat.add_zero, show ((Kd.slice 2 (Kd.int .i64))).sz = 1 from rfl, Nat.mul_one] at hv267_0
         replace hv267_0 := Option.some.inj (hv267_0.symm.trans hx267_0)
         rw [hv267_0] at ge267_0
         have HL267_0 := A_ (show Kd.R (Kd.int .i64) 2 _ _ _ _ (rd_L2 x3_1 (ji20)) from ge267_0)
         clear hv267_0 ge267_0
         clear hcc267 hce267
         have HR267_0 := A_ hi267_0
         have HC267_0 := A_ hl267_0
         clear hi267_0 hl267_0
         replace p267 := eq_true p267
         replace q267 := eq_true q267
         have p268 : 0 ≤ (x7_2 : Int) := of_decide_eq_true spec_l02Table.Z4
         have q268 : x7_2 < ((rd_L2 x3_1 (ji20)).length : Int) := of_decide_eq_true spec_l02Table.Z4
         obtain ⟨ad268, e268, hx268_0⟩ := Kd.at_int spec_l02Table.Z0 x7_2 p268 q268
         cases e268
         replace p268 := eq_true p268
         replace q268 := eq_true q268
         have p29 : 0 ≤ ((ji26) : Int) := of_decide_eq_true spec_l02Table.Z4
         have q29 : ((ji26) : Int) < ((x5_2.length : Int) : Int) := of_decide_eq_true spec_l02Table.Z4
         obtain ⟨go29, co29, eo29, gb29, gl29, cl29, HG29⟩ := Kd.R_form HO_5.out (by omega)
         (first | cases eo29 | (injection eo29 with ea_ en_ ec_; (first | subst ea_ | (injection ea_ with ea_; subst ea_)); subst ec_; clear en_))
         have GB29 := A_ gb29
         have GG29 := A_ HG29
         clear gb29 gl29 HG29
         obtain ⟨hx29_0, hf29_0⟩ := Kd.R_celln 0 HO_5.out ((ji26) : Int) p29 q29
         replace p29 := eq_true p29
         replace q29 := eq_true q29
         have HP31 := Kd.R_putg HO_5.out ((ji26) : Int) (wrap64 (x6_2 + (rd (rd_L2 x3_1 (ji20)) x7_2)))
         go_wp2_with (first | ((with_reducible refine gate_store (t := 2) (p := 44) rfl ?_); refine store_event (t := 2) (p := 44) (v := ?vo_w32) (w1 := (wr.setCell ⟨go29, ((ji26) : Int).toNat, none⟩ (.int .i64 (wrap64 (x6_2 + (rd (rd_L2 x3_1 (ji20)) x7_2)))))) ?hg ?ho ?hn ?hr ?_; (case ho => rfl); (case hg => rfl); (case hn => rfl); (case hr => first | (go_simp; done) | (go_simp; rfl)); intro w32 hw; have hg : wr.grownBy w32 (some go29) := (by rw [hw]; exact HP31.2); have hp_ : Kd.R (Kd.int .i64) 2 w32 w.heap.size (fun _ => True) (.slice (some ⟨go29, 0, none⟩) x5_2.length co29) y269 := (by rw [hw, Ny269.out]; exact HP31.1); clear HP31; have n0_ := A_ (Kd.S_after (v := (.slice (some ⟨go29, 0, none⟩) x5_2.length co29)) (v1 := (.slice (some ⟨go29, 0, none⟩) x5_2.length co29)) (ok := (fun _ => True)) (by (with_reducible repeat (first | apply Kd.S_alloc | apply Kd.S_drewN | apply Kd.S_drew)); exact Kd.S_mono HO_3.out (fun _ hk => ⟨trivial, hk⟩)) hg (.inl rfl)); have n1_ := A_ (hp_); have n2_ := A_ (Kd.R_after (v := (.slice (some ⟨go29, 0, none⟩) x5_2.length co29)) (v1 := (.slice (some ⟨go29, 0, none⟩) x5_2.length co29)) (ok := (fun k_ => some k_ ≠ (.slice (some ad267) x3_1.length co30 : Value).ownBlock)) (by (with_reducible repeat (first | apply Kd.R_alloc | apply Kd.R_drewN | apply Kd.R_drew)); exact Kd.R_mono HL267_0.out (fun _ hk => ⟨hk.2, hk.1⟩)) hg (.inl rfl)); have n3_ := A_ ((by rw [hw]; exact below_set (HB.out) GB29.out : Below w.heap.size w w32)); clear HO_3; clear HO_5; clear HL267_0; clear HB; have HO_3 := n0_; have HO_5 := n1_; have HL267_0 := n2_; have HB := n3_; clear n0_ n1_ n2_ n3_; clear hg hw hp_))
         go_roundg k2
         case measure => have := HK1.out; have := HK2.out; omega
         case rel => exact ⟨(y269), (wrap64 (x6_2 + (rd (rd_L2 x3_1 (ji20)) x7_2))), (wrap64 (x7_2 - 1)), spec_l02Table.Z3, spec_l02Table.Z5, H', ⟨by have := HK1.out; have := HK2.out; omega⟩, ⟨by (with_reducible repeat (first | apply Kd.S_alloc | apply Kd.S_drewN | apply Kd.S_drew)); exact Kd.S_mono HO_3.out (fun _ hk => hk.2)⟩, ⟨es HO_5⟩, ⟨el HB⟩⟩
        ·rw [if_neg c25] at H
         have c25b0 : decide ((wrap64 (x7_2 + 1)) ≤ a0) = false := decide_eq_false c25
         clear c25
         have H' := A_ H
         clear H
         obtain ⟨Ao33, co33, eo33⟩ := Kd.S_slice HO_3.out
         subst eo33
         have p267 : 0 ≤ ((ji20) : Int) := of_decide_eq_true spec_l02Table.Z4
         have q267 : (ji20) < (x3_1.length : Int) := of_decide_eq_true spec_l02Table.Z4
         obtain ⟨ad267, A267_0, c267_0, e267, hx267_0, hl267_0, hi267_0⟩ := at_L2 (Kd.S_reads' HO_3.out).2.2 (ji20) p267 q267
         cases e267
         obtain ⟨ce267, hce267, hMe267, hcc267⟩ := Kd.S_get HO_3.out [] (ji20) p267 spec_l02Table.Z1
         obtain ⟨ve267_0, rfl, ge267_0⟩ := hMe267
         have hv267_0 := hcc267 0 _ rfl
         rw [Nat.add_zero, show ((Kd.slice 2 (Kd.int .i64))).sz = 1 from rfl, Nat.mul_one] at hv267_0
         replace hv267_0 := Option.some.inj (hv267_0.symm.trans hx267_0)
         rw [hv267_0] at ge267_0
         have HL267_0 := A_ (show Kd.R (Kd.int .i64) 2 _ _ _ _ (rd_L2 x3_1 (ji20)) from ge267_0)
         clear hv267_0 ge267_0
         clear hcc267 hce267
         have HR267_0 := A_ hi267_0
         have HC267_0 := A_ hl267_0
         clear hi267_0 hl267_0
         replace p267 := eq_true p267
         replace q267 := eq_true q267
         have p268 : 0 ≤ (x7_2 : Int) := of_decide_eq_true spec_l02Table.Z4
         have q268 : x7_2 < ((rd_L2 x3_1 (ji20)).length : Int) := of_decide_eq_true spec_l02Table.Z4
         obtain ⟨ad268, e268, hx268_0⟩ := Kd.at_int spec_l02Table.Z0 x7_2 p268 q268
         cases e268
         replace p268 := eq_true p268
         replace q268 := eq_true q268
         go_wp2
         go_roundg k2
         case measure => have := HK1.out; have := HK2.out; omega
         case rel => exact ⟨(x5_2), (wrap64 (x6_2 + (rd (rd_L2 x3_1 (ji20)) x7_2))), (wrap64 (x7_2 - 1)), spec_l02Table.Z3, spec_l02Table.Z5, H', ⟨by have := HK1.out; have := HK2.out; omega⟩, ⟨by (with_reducible repeat (first | apply Kd.S_alloc | apply Kd.S_drewN | apply Kd.S_drew)); first | exact HO_3.out | (have h_ := HO_3.out; simpa only [ownBlock_slice] using h_)⟩, ⟨es HO_5⟩, ⟨el HB⟩⟩
       ·rw [if_neg c19] at H
        have c19b0 : decide (0 ≤ x7_2) = false := decide_eq_false c19
        clear c19
        by_cases c34 : x3_1.length < 5864062014805
        rotate_left
        ·rw [if_neg c34] at H
         exact absurd H (by simp)
        rw [if_pos c34] at H
        have LMc34 := A_ c34
        clear c34
        obtain ⟨y270, hy270⟩ : ∃ y_ : List (List Int), y_ = (x3_1 ++ [x5_2]) := ⟨_, rfl⟩
        replace H : (spec_l02Table.l0 k2 a0 y270 (wrap64 (x4_1 + 1))) = some r := by first | (rw [hy270]; with_reducible exact H) | (have H2_ := (Option.bind_some _ _).symm.trans H; rw [hy270]; with_reducible exact H2_) | (have H2_ := (Option.bind_some _ _).symm.trans H; with_reducible exact H2_) | with_reducible exact H | (rw [hy270]; exact H) | exact H
        have Ny270 := A_ hy270
        clear hy270
        have H' := A_ H
        clear H
        obtain ⟨Ao36, co36, eo36⟩ := Kd.R_slice HO_5.out
        subst eo36
        go_wp2_with (first | ((with_reducible refine gate_builtin (b := .append) (xs := #[.tmp 45, .tmp 47]) rfl ?_); at_builtin; refine Kd.S_append (Kd.slice 2 (Kd.int .i64)) (w0 := w) w.heap.size rfl (.tmp 45) (.tmp 47) 127 24 (.slice none 0 0) 24 rfl Try.underlying127 info24 rfl (by decide) (by omega) u3 x3_1 x5_2 [.slice Ao36 x5_2.length co36] (fun _ => True) (fun k_ => some k_ = (.slice Ao36 x5_2.length co36 : Value).ownBlock) rfl rfl ?aP (fun k_ hk_ => ((Kd.R_mono (ok' := fun k_ => ((fun _ => True)) k_ ∧ some k_ ≠ (u3 : Value).ownBlock) (Kd.R_apart' (HO_5.out) (Kd.S_typed HO_3.out) (by decide)) (fun k_ hk => ⟨trivial, hk.2⟩))).1 k_ hk_.symm) ?aF ?aO ?aB ?aS ?aL ?_; (case aP => exact Kd.M_row (Kd.R_mono (Kd.R_tight rfl (Kd.R_mono (ok' := fun k_ => ((fun _ => True)) k_ ∧ some k_ ≠ (u3 : Value).ownBlock) (Kd.R_apart' (HO_5.out) (Kd.S_typed HO_3.out) (by decide)) (fun k_ hk => ⟨trivial, hk.2⟩))) (fun _ h_ => h_))); (case aB => exact (el HB)); (case aF => exact (fun _ _ => trivial)); (case aO => exact (by (with_reducible repeat (first | apply Kd.S_alloc | apply Kd.S_drewN | apply Kd.S_drew)); exact Kd.S_mono HO_3.out (fun k_ hk => ⟨trivial, fun e_ => hk e_⟩))); (case aS => exact (below_size (el HB))); (case aL => have := LMc34.out; omega); intro v271 w35 ho hb hg hat; rw [← Ny270.out] at ho; have n0_ := A_ (hb); have n1_ := A_ (ho); clear HB; clear HO_3; clear HO_5; have HB := n0_; have HO272 := n1_; clear n0_ n1_; clear ho hb hg hat))
        go_roundg k2
        case measure => have := HK1.out; have := HK2.out; omega
        case rel => exact ⟨(y270), (wrap64 (x4_1 + 1)), spec_l02Table.Z5, H', ⟨by have := HK1.out; have := HK2.out; omega⟩, ⟨by (with_reducible repeat (first | apply Kd.S_alloc | apply Kd.S_drewN | apply Kd.S_drew)); first | exact HO272.out | (have h_ := HO272.out; simpa only [ownBlock_slice] using h_)⟩, ⟨el HB⟩⟩
   ·rw [if_neg c4] at H
    have c4b0 : decide (x4_1 ≤ a0) = false := decide_eq_false c4
    clear c4
    obtain rfl := Option.some.inj H
    go_wp2
    go_ret
    exact ⟨_, er, by (with_reducible repeat (first | apply Kd.S_alloc | apply Kd.S_drewN | apply Kd.S_drew)); exact HO_3.out, el HB⟩

end Go.Proofs.Ytocachknmgefaaa.QFnTreeCounts
