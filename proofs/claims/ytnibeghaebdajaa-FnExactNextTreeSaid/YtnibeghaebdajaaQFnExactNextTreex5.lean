/- Functions of the program as plain Lean functions, each with a proof that the machine's call answers what it answers. Conditions: none. -/
import Derived.Test.YtnibeghaebdajaaQFnExactNextTreex0
namespace Go.Proofs.Ytnibeghaebdajaa.QFnExactNextTree
open Go.RowKit Go.Proofs.YtnibeghaebdajaaW.PrintWords Go.Proofs.YtnibeghaebdajaaW.PrintLast Go.Proofs.YtnibeghaebdajaaW.PrintMore
attribute [local go_sem] max2_int min2_int max_two min_two max_three min_three max_four min_four   -- for this text's walks alone
set_option linter.unusedVariables false
set_option linter.unusedSimpArgs false

-- NOT PRINTED: function 49 (impl_countForests)

/-! ### impl_treeOfRank: function 57 -/
/-- so many entries of the row before, from a place on -/
def psum (r : List Int) (k : Nat) : Nat → Int
  | 0 => 0
  | d + 1 => wrap64 (psum r k d + rd r ((k + d : Nat) : Int))
def rowN : Nat → List Int
  | 0 => (List.range 32).map fun k => if k = 0 then 1 else 0
  | n + 1 => (List.range 32).map fun k => if k = 0 then 0 else psum (rowN n) (k - 1) (n + 2 - k)
def tab (n k : Nat) : Int := rd (rowN n) (k : Int)
theorem rd_map (f : Nat → Int) {k : Nat} (h : k < 32) : rd ((List.range 32).map f) (k : Int) = f k := by
  unfold rd
  rw [Int.toNat_natCast, List.getD_eq_getElem?_getD, List.getElem?_map, List.getElem?_range h]
  rfl
theorem tab_zero (k : Nat) (h : k < 32) : tab 0 k = if k = 0 then 1 else 0 := rd_map _ h
theorem tab_first (n : Nat) : tab (n + 1) 0 = 0 := rd_map _ (by omega)
theorem tab_at (n k : Nat) (h : k < 32) (h0 : k ≠ 0) : tab (n + 1) k = psum (rowN n) (k - 1) (n + 2 - k) := by
  have := rd_map (fun k => if k = 0 then 0 else psum (rowN n) (k - 1) (n + 2 - k)) h
  simp only [if_neg h0] at this
  exact this
/-- what stands in the table: rows below n are whole, row n up to k, and of place k so many parts are added -/
def ent (n k d a b : Nat) : Int := if a < n then tab a b else if a = n then (if b < k then tab n b else if b = k then psum (rowN (n - 1)) (k - 1) d else 0) else 0
def Sta (C : List Value) (n k d : Nat) : Prop := C.length = 992 ∧ ∀ a b : Nat, a < 31 → b < 32 → C[a * 32 + b]? = some (.int .i64 (ent n k d a b))
theorem sta_start (C : List Value) (h : C = (List.replicate 992 (Value.int .i64 0)).set 0 (.int .i64 1)) : Sta C 1 1 0 := by
  subst h
  refine ⟨by rw [List.length_set, List.length_replicate], fun a b ha hb => ?_⟩
  have e : (((List.replicate 992 (Value.int .i64 0)).set 0 (.int .i64 1))[a * 32 + b]?) = some (if a * 32 + b = 0 then Value.int .i64 1 else Value.int .i64 0) := by
    rw [List.getElem?_set, List.length_replicate]
    by_cases c : 0 = a * 32 + b
    · rw [if_pos c, if_pos (by omega), if_pos c.symm]
    · rw [if_neg c, if_neg (fun e => c e.symm), List.getElem?_replicate, if_pos (by omega)]
  rw [e]
  unfold ent
  by_cases c : a < 1
  · obtain rfl : a = 0 := by omega
    rw [if_pos c, tab_zero b hb]
    by_cases c2 : b = 0
    · subst c2; rfl
    · rw [if_neg (by omega), if_neg c2]
  · rw [if_neg c, if_neg (by omega)]
    by_cases c2 : a = 1
    · rw [if_pos c2]
      by_cases c3 : b < 1
      · obtain rfl : b = 0 := by omega
        rw [if_pos c3, tab_first]
      · rw [if_neg c3]
        split <;> rfl
    · rw [if_neg c2]
theorem sta_k {C : List Value} {n k : Nat} (h1 : 1 ≤ n) (hk : 1 ≤ k) (hkn : k ≤ n) (hn : n ≤ 30) (h : Sta C n k (n + 1 - k)) : Sta C n (k + 1) 0 := by
  refine ⟨h.1, fun a b ha hb => ?_⟩
  rw [h.2 a b ha hb]
  unfold ent
  by_cases c : a < n
  · rw [if_pos c, if_pos c]
  · rw [if_neg c, if_neg c]
    by_cases c2 : a = n
    · rw [if_pos c2, if_pos c2]
      by_cases c3 : b < k
      · rw [if_pos c3, if_pos (by omega)]
      · rw [if_neg c3]
        by_cases c4 : b = k
        · obtain ⟨m, rfl⟩ : ∃ m, n = m + 1 := ⟨n - 1, by omega⟩
          rw [if_pos c4, if_pos (by omega), tab_at m b hb (by omega), c4]
          rfl
        · rw [if_neg c4, if_neg (by omega)]
          split <;> rfl
    · rw [if_neg c2, if_neg c2]
theorem sta_n {C : List Value} {n : Nat} (h1 : 1 ≤ n) (hn : n ≤ 30) (h : Sta C n (n + 1) 0) : Sta C (n + 1) 1 0 := by
  refine ⟨h.1, fun a b ha hb => ?_⟩
  rw [h.2 a b ha hb]
  unfold ent
  by_cases c : a < n
  · rw [if_pos c, if_pos (by omega)]
  · rw [if_neg c]
    by_cases c2 : a = n
    · rw [if_pos c2, if_pos (show a < n + 1 by omega), c2]
      by_cases c3 : b < n + 1
      · rw [if_pos c3]
      · obtain ⟨m, rfl⟩ : ∃ m, n = m + 1 := ⟨n - 1, by omega⟩
        rw [if_neg c3, tab_at m b hb (by omega), show m + 2 - b = 0 by omega]
        split <;> rfl
    · rw [if_neg c2, if_neg (by omega)]
      by_cases c5 : a = n + 1
      · rw [if_pos c5]
        by_cases c6 : b < 1
        · obtain rfl : b = 0 := by omega
          rw [if_pos c6, tab_first]
        · rw [if_neg c6]
          split <;> rfl
      · rw [if_neg c5]
theorem sta_d {C : List Value} {n k d : Nat} (h1 : 1 ≤ n) (hk : 1 ≤ k) (hn : n ≤ 30) (hd : k + d ≤ n) (h : Sta C n k d) :
    Sta (C.set (n * 32 + k) (.int .i64 (wrap64 (ent n k d n k + ent n k d (n - 1) (k - 1 + d))))) n k (d + 1) := by
  refine ⟨by rw [List.length_set]; exact h.1, fun a b ha hb => ?_⟩
  rw [List.getElem?_set, h.1, h.2 a b ha hb]
  by_cases c : n * 32 + k = a * 32 + b
  · obtain ⟨rfl, rfl⟩ : n = a ∧ k = b := by omega
    rw [if_pos rfl, if_pos (by omega)]
    have e1 : ent n k d n k = psum (rowN (n - 1)) (k - 1) d := by
      unfold ent
      rw [if_neg (by omega), if_pos rfl, if_neg (by omega), if_pos rfl]
    have e2 : ent n k d (n - 1) (k - 1 + d) = tab (n - 1) (k - 1 + d) := by
      unfold ent
      rw [if_pos (by omega)]
    have e3 : ent n k (d + 1) n k = psum (rowN (n - 1)) (k - 1) (d + 1) := by
      unfold ent
      rw [if_neg (by omega), if_pos rfl, if_neg (by omega), if_pos rfl]
    rw [e1, e2, e3]
    rfl
  · rw [if_neg c]
    congr 2
    unfold ent
    by_cases c2 : a < n
    · rw [if_pos c2, if_pos c2]
    · rw [if_neg c2, if_neg c2]
      by_cases c3 : a = n
      · rw [if_pos c3, if_pos c3]
        by_cases c4 : b < k
        · rw [if_pos c4, if_pos c4]
        · rw [if_neg c4, if_neg c4, if_neg (by omega), if_neg (by omega)]
      · rw [if_neg c3, if_neg c3]
theorem zero_row : Try.zeroCells63.setIfInBounds 0 (Value.int .i64 1) = ((List.replicate 992 (Value.int .i64 0)).set 0 (.int .i64 1)).toArray := by kernel_rfl
set_option maxHeartbeats 8000000 in
set_option maxRecDepth 100000 in
theorem impl_countForests.calls (w : World) : Calls Try.prog 49 #[] w fun e w' => ∃ g : Nat, e = .returned (.pointer (some ⟨g, 0, none⟩)) ∧ w.heap.size ≤ g ∧ (∃ C : List Value, w'.heap[g]? = some (.cells C.toArray 63 (0, 0)) ∧ Sta C 31 1 0) ∧ Below w.heap.size w w' := by
  go_enter Try.func49, Try.ntmps49
  go_wp2
  rw [zero_row]
  obtain ⟨C0, hC0⟩ : ∃ C0, C0 = (List.replicate 992 (Value.int .i64 0)).set 0 (.int .i64 1) := ⟨_, rfl⟩
  rw [← hC0]
  obtain ⟨w1, hw1⟩ : ∃ w1, w1 = w.alloc (Obj.cells C0.toArray 63) := ⟨_, rfl⟩
  rw [← hw1]
  obtain ⟨g, hg⟩ : ∃ g, g = w.heap.size := ⟨_, rfl⟩
  rw [← hg]
  have HG : Hid (w1.heap[g]? = some (.cells C0.toArray 63 (0, 0))) := by
    rw [hw1, hg]
    exact blk_new w _
  have HB : Hid (Below g w w1) := by
    rw [hw1, hg]
    exact below_alloc (Below.refl _ _) _
  have HS : Hid (Sta C0 1 1 0) := sta_start C0 hC0
  have HGB := Aside0.mk hg
  clear hC0 hw1 hg
  go_loopw [2] (fun v2 wq => ∃ (n : Nat) (C : List Value), v2 = .int .i64 (n : Int) ∧ 1 ≤ n ∧ n ≤ 31 ∧ Hid (wq.heap[g]? = some (.cells C.toArray 63 (0, 0))) ∧ Hid (Sta C n 1 0) ∧ Hid (Below g w wq)) (fun v2 _ => 31 - (intOf v2).toNat)
  case atStart => exact ⟨1, C0, rfl, by omega, by omega, HG, HS, HB⟩
  case round =>
    clear HG HS HB
    obtain ⟨n, C, rfl, hn1, hn31, HG, HS, HB⟩ := hrel
    by_cases hlt : n ≤ 30
    · have hdn : decide ((n : Int) ≤ 30) = true := decide_eq_true (by omega)
      go_wp2
      go_loopw [3] (fun v3 wq => ∃ (k : Nat) (C : List Value), v3 = .int .i64 (k : Int) ∧ 1 ≤ k ∧ k ≤ n + 1 ∧ Hid (wq.heap[g]? = some (.cells C.toArray 63 (0, 0))) ∧ Hid (Sta C n k 0) ∧ Hid (Below g w wq)) (fun v3 _ => n + 1 - (intOf v3).toNat)
      case atStart => exact ⟨1, C, rfl, by omega, by omega, HG, HS, HB⟩
      case round =>
        clear HG HS HB
        obtain ⟨k, C, rfl, hk1, hkn, HG, HS, HB⟩ := hrel
        by_cases hle : k ≤ n
        · have hdk : decide ((k : Int) ≤ (n : Int)) = true := decide_eq_true (by omega)
          go_wp2
          go_loopw [4] (fun v4 wq => ∃ (d : Nat) (C : List Value), v4 = .int .i64 (d : Int) ∧ k + d ≤ n + 1 ∧ Hid (wq.heap[g]? = some (.cells C.toArray 63 (0, 0))) ∧ Hid (Sta C n k d) ∧ Hid (Below g w wq)) (fun v4 _ => n + 1 - k - (intOf v4).toNat)
          case atStart => exact ⟨0, C, rfl, by omega, HG, HS, HB⟩
          case round =>
            clear HG HS HB
            obtain ⟨d, C, rfl, hd, HG, HS, HB⟩ := hrel
            by_cases hc : k + d ≤ n
            · have hdd : decide ((k : Int) - 1 + (d : Int) ≤ (n : Int) - 1) = true := decide_eq_true (by omega)
              have hcc1 := blk_cell HG.out (n * 32 + k)
              have hcc2 := blk_cell HG.out ((n - 1) * 32 + (k - 1 + d))
              rw [List.getElem?_toArray, HS.out.2 n k (by omega) (by omega)] at hcc1
              rw [List.getElem?_toArray, HS.out.2 (n - 1) (k - 1 + d) (by omega) (by omega)] at hcc2
              have hff := blk_frozen HG.out (n * 32 + k)
              have HC1 := Aside0.mk hcc1
              have HC2 := Aside0.mk hcc2
              have HF := Aside0.mk hff
              clear hcc1 hcc2 hff
              go_wp2
              have hcc1 : wr.drew.cell? ⟨g, n * 32 + k, none⟩ = some (.int .i64 (ent n k d n k)) := HC1.out
              have hcc2 : wr.drew.cell? ⟨g, (n - 1) * 32 + (k - 1 + d), none⟩ = some (.int .i64 (ent n k d (n - 1) (k - 1 + d))) := HC2.out
              have hff : wr.drew.frozen? ⟨g, n * 32 + k, none⟩ = false := HF.out
              have hset := sta_d hn1 hk1 hlt hc HS.out
              have HSET := Aside0.mk hset
              clear hset
              obtain ⟨E1, hE1⟩ : ∃ E1, E1 = ent n k d n k := ⟨_, rfl⟩
              obtain ⟨E2, hE2⟩ : ∃ E2, E2 = ent n k d (n - 1) (k - 1 + d) := ⟨_, rfl⟩
              rw [← hE1] at hcc1
              rw [← hE2] at hcc2
              rw [← hE1, ← hE2] at HSET
              clear hE1 hE2
              go_region
              all_goals
                go_wp2
                refine ⟨⟨d + 1, C.set (n * 32 + k) (.int .i64 (wrap64 (E1 + E2))), by go_num, by omega, ?_, HSET.out, ?_⟩, by simp [intOf]; omega⟩
                · have := heap_setCell_same wr g (n * 32 + k) C.toArray 63 (.int .i64 (wrap64 (E1 + E2))) HG.out
                  rw [List.setIfInBounds_toArray] at this
                  exact this
                · exact below_drew1 (HB.out.setCell (Nat.le_refl _) _)
            · have hdd : decide ((k : Int) - 1 + (d : Int) ≤ (n : Int) - 1) = false := decide_eq_false (by omega)
              go_wp2
              obtain rfl : d = n + 1 - k := by omega
              exact ⟨⟨k + 1, C, by go_num, by omega, by omega, HG, sta_k hn1 hk1 hle hlt HS.out, HB⟩, by simp [intOf]; omega⟩
        · obtain rfl : k = n + 1 := by omega
          have hdk : decide (((n + 1 : Nat) : Int) ≤ (n : Int)) = false := decide_eq_false (by omega)
          go_wp2
          exact ⟨⟨n + 1, C, by go_num, by omega, by omega, HG, sta_n hn1 hlt HS.out, HB⟩, by simp [intOf]; omega⟩
    · obtain rfl : n = 31 := by omega
      have hdn : decide (((31 : Nat) : Int) ≤ 30) = false := rfl
      go_wp2
      go_ret
      exact ⟨g, rfl, by rw [HGB.out]; exact Nat.le_refl _, ⟨C, HG, HS⟩, by rw [← HGB.out]; exact HB⟩

theorem forests_cell {w : World} {g : Nat} {C : List Value} (h : w.heap[g]? = some (.cells C.toArray 63 (0, 0))) (hS : Sta C 31 1 0) (a b : Nat) (ha : a < 31) (hb : b < 32) :
    w.cell? ⟨g, a * 32 + b, none⟩ = some (.int .i64 (tab a b)) := by
  rw [blk_cell h (a * 32 + b), List.getElem?_toArray, hS.2 a b ha hb]
  unfold ent
  rw [if_pos ha]

/-- the degree of the next node: how many ways lie before it -/
def torI (row : Nat) : Nat → Nat → Nat → Int → Option (Int × Nat)
  | 0, _, _, _ => none
  | fu + 1, b, k, r => if b + k < 32 then (if r ≥ tab row (b + k) then torI row fu b (k + 1) (wrap64 (r - tab row (b + k))) else some (r, k)) else none
def torO : Nat → Nat → Int → List Int → Option (List Int)
  | 0, _, _, d => some d
  | left + 1, need, r, d => if need = 0 then none else (torI left 33 (need - 1) 0 r).bind fun p => torO left (need - 1 + p.2) p.1 (d ++ [(p.2 : Int)])
theorem torI_bound (row : Nat) : ∀ (fu b k : Nat) (r : Int) (p : Int × Nat), torI row fu b k r = some p → b + p.2 < 32 := by
  intro fu
  induction fu with
  | zero => intro b k r p h; simp [torI] at h
  | succ fu ih =>
    intro b k r p h
    simp only [torI] at h
    by_cases c : b + k < 32
    · rw [if_pos c] at h
      by_cases c2 : r ≥ tab row (b + k)
      · rw [if_pos c2] at h
        exact ih _ _ _ _ h
      · rw [if_neg c2] at h
        obtain rfl := Option.some.inj h
        exact c
    · rw [if_neg c] at h
      cases h
def impl_treeOfRank.f (a0 : Int) (a1 : Int) : Option (List Int × Bool) := if 0 ≤ a0 then (if a0 ≤ 30 then (if a1 ≥ tab a0.toNat 1 then some ([], false) else (torO a0.toNat 1 a1 []).bind fun d => some (d, true)) else none) else none
set_option maxHeartbeats 8000000 in
set_option maxRecDepth 100000 in
theorem impl_treeOfRank.calls (a0 : Int) (a1 : Int) (r1 : List Int) (r2 : Bool) (w : World) (h : impl_treeOfRank.f a0 a1 = some (r1, r2)) :
    Calls Try.prog 57 #[.int .i64 a0, .int .i64 a1] w fun e w' => ∃ v0_ : Value, e = .returned (.tuple #[.agg #[v0_], .bool r2]) ∧ Kd.R (Kd.int .i64) 2 w' w.heap.size (fun _ => True) v0_ r1 ∧ Below w.heap.size w w' := by
  have hu := Try.underlying35
  have HB := Aside0.mk (Below.refl w.heap.size w)
  unfold impl_treeOfRank.f at h
  by_cases c1 : 0 ≤ a0
  · rw [if_pos c1] at h
    by_cases c2 : a0 ≤ 30
    · rw [if_pos c2] at h
      obtain ⟨n, rfl⟩ : ∃ n : Nat, a0 = n := ⟨a0.toNat, by omega⟩
      have hn : n ≤ 30 := by omega
      clear c1 c2
      rw [Int.toNat_natCast] at h
      by_cases c3 : a1 ≥ tab n 1
      · rw [if_pos c3] at h
        have c3b : decide (tab n 1 ≤ a1) = true := decide_eq_true c3
        clear c3
        simp only [Option.some.injEq, Prod.mk.injEq] at h
        obtain ⟨rfl, rfl⟩ := h
        go_enter Try.func57, Try.ntmps57
        go_wp2_with (first | ((with_reducible refine gate_dst (N := 4) rfl ?_); refine box_event ?hg (N := 4) ?hd (cs := #[.slice none 0 0]) (t := 35) ?hr ?_; (case hd => rfl); (case hg => rfl); (case hr => first | (go_simp; done) | (go_simp; rfl)); intro gb hg w8 hbox hb; have n0_ := Aside0.mk (below_step HB.out hb); have n1_ := Aside0.mk hbox; have n2_ := Aside0.mk ((by rw [hg]; exact below_size HB.out) : w.heap.size ≤ gb); clear HB; have HB := n0_; have BK := n1_; have GE := n2_; clear n0_ n1_ n2_; clear hb hbox hg) | (go_at_call 49; (with_reducible refine (impl_countForests.calls _).mono ?_); rintro e w1 ⟨g, rfl, hg, ⟨C, hC, hS⟩, hb⟩; have hcell := forests_cell hC hS n 1 (by omega) (by omega); have n1_ := Aside0.mk (blk_below (g := gb) (o := .cells #[.slice none 0 0] 35 (0, 0)) BK.out hb); have n2_ := Aside0.mk (below_step HB.out hb); clear BK; clear HB; have BK := n1_; have HB := n2_; clear n1_ n2_; clear hg hC hS hb; have hcz : w1.cell? ⟨gb, 0, none⟩ = some (.slice none 0 0) := (blk_cell BK.out 0).trans rfl; have hfz := blk_frozen BK.out 0))
        refine bodyPost_ret (results_ct rfl _ _ gb 35 #[.slice none 0 0] (0, 0) _ rfl (by refine blk_put (cs := #[.slice none 0 0]) ?_ 0 _ rfl; exact BK.out) Try.underlying35 rfl (by kernel_rfl)) rfl ?_
        exact ⟨_, by first | rfl | (simp; done), Kd.R_nil _ _ _ _ _, by repeat (first | (with_reducible first | exact HB.out | apply below_alloc | apply pw_below_drewN | apply below_drew1 | refine below_set ?_ GE.out) | exact HB.out)⟩
      · rw [if_neg c3] at h
        have c3b : decide (tab n 1 ≤ a1) = false := decide_eq_false c3
        clear c3
        obtain ⟨d0, hO, h⟩ := Option.bind_eq_some_iff.mp h
        simp only [Option.some.injEq, Prod.mk.injEq] at h
        obtain ⟨rfl, rfl⟩ := h
        have HT := Aside0.mk hO
        clear hO
        go_enter Try.func57, Try.ntmps57
        go_wp2_with (first | ((with_reducible refine gate_dst (N := 4) rfl ?_); refine box_event ?hg (N := 4) ?hd (cs := #[.slice none 0 0]) (t := 35) ?hr ?_; (case hd => rfl); (case hg => rfl); (case hr => first | (go_simp; done) | (go_simp; rfl)); intro gb hg w8 hbox hb; have n0_ := Aside0.mk (below_step HB.out hb); have n1_ := Aside0.mk hbox; have n2_ := Aside0.mk ((by rw [hg]; exact below_size HB.out) : w.heap.size ≤ gb); clear HB; have HB := n0_; have BK := n1_; have GE := n2_; clear n0_ n1_ n2_; clear hb hbox hg) | (go_at_call 49; (with_reducible refine (impl_countForests.calls _).mono ?_); rintro e w1 ⟨g, rfl, hg, ⟨C, hC, hS⟩, hb⟩; have hcell := forests_cell hC hS n 1 (by omega) (by omega); have n1_ := Aside0.mk (blk_below (g := gb) (o := .cells #[.slice none 0 0] 35 (0, 0)) BK.out hb); have n2_ := Aside0.mk (below_step HB.out hb); have HG := Aside0.mk hC; have HS := Aside0.mk hS; clear BK; clear HB; have BK := n1_; have HB := n2_; clear n1_ n2_; clear hg hC hS hb) | ((with_reducible refine gate_dst (N := 21) rfl ?_); refine Kd.R_lit (Kd.int .i64) _ 2 ?hg (N := 21) ?hd (xs := ([] : List Int)) (inner := []) (ok := fun _ => True) (okp := fun _ => True) ?hr ?hp (fun _ hk => hk) trivial (Below.refl _ _) (Nat.le_refl _) (by simp) ?_; (case hd => rfl); (case hg => rfl); (case hr => first | (go_simp; done) | (go_simp; rfl)); (case hp => exact (Reps.none _ _)); intro v0 w2 ho hb hg_ hnew_; clear hg_ hnew_; have n0_ := Aside0.mk (Kd.R_lower ho (below_size HB.out)); have n1_ := Aside0.mk (blk_below (g := gb) (o := .cells #[.slice none 0 0] 35 (0, 0)) BK.out hb); have n2_ := Aside0.mk (blk_below (g := g) (o := .cells C.toArray 63 (0, 0)) HG.out hb); have n3_ := Aside0.mk (below_step HB.out hb); clear BK; clear HB; clear HG; have HO := n0_; have BK := n1_; have HG := n2_; have HB := n3_; clear n0_ n1_ n2_ n3_; clear hb ho hcell c3b))
        go_loopw [1, 7, 8, 9] (fun v1 v7 v8 v9 wq => ∃ (m need : Nat) (x1 x9 : Int) (d : List Int), v1 = .int .i64 x1 ∧ v8 = .int .i64 (need : Int) ∧ v9 = .int .i64 x9 ∧ x9 + 1 = (m : Int) ∧ m ≤ 30 ∧ need ≤ 32 ∧ Aside0 (d.length + m ≤ 30) ∧ Aside0 (torO m need x1 d = some d0) ∧ Aside0 (Kd.R (Kd.int .i64) 2 wq w.heap.size (fun _ => True) v7 d) ∧ Aside0 (wq.heap[g]? = some (.cells C.toArray 63 (0, 0))) ∧ Aside0 (wq.heap[gb]? = some (.cells #[.slice none 0 0] 35 (0, 0))) ∧ Aside0 (Below w.heap.size w wq)) (fun _ _ _ v9 _ => (intOf v9 + 1).toNat)
        case atStart => exact ⟨n, 1, a1, (n : Int) - 1, [], rfl, rfl, rfl, by omega, hn, by omega, ⟨by simp; omega⟩, HT, HO, HG, BK, HB⟩
        case round =>
          clear HT HO HG BK HB
          obtain ⟨m, need, x1, x9, d, rfl, rfl, rfl, h9, hm, hneed, HL, HT, HO, HG, BK, HB⟩ := hrel
          cases m with
          | zero =>
            obtain rfl : x9 = -1 := by omega
            clear h9
            have hd : d = d0 := by have h_ := HT.out; simp only [torO] at h_; exact Option.some.inj h_
            subst hd
            obtain ⟨Ao, co, eo⟩ := Kd.R_slice HO.out
            subst eo
            have hcz : wr.cell? ⟨gb, 0, none⟩ = some (.slice none 0 0) := (blk_cell BK.out 0).trans rfl
            have hfz := blk_frozen BK.out 0
            go_wp2
            refine bodyPost_ret (results_ct rfl _ _ gb 35 #[.slice Ao d.length co] (0, 0) _ rfl (by refine blk_put (cs := #[.slice none 0 0]) ?_ 0 _ rfl; exact BK.out) Try.underlying35 rfl (by kernel_rfl)) rfl ?_
            exact ⟨_, by first | rfl | (simp; done), Kd.R_mono (Kd.R_far (p := ⟨gb, 0, none⟩) (Kd.R_types HO.out BK.out (by decide)) (fun _ hk => hk.2) (.slice Ao d.length co)) (fun _ hk => trivial), by repeat (first | (with_reducible first | exact HB.out | refine below_set ?_ GE.out) | exact HB.out)⟩
          | succ m =>
            obtain rfl : x9 = (m : Int) := by omega
            clear h9
            have h1 := HT.out
            clear HT
            simp only [torO] at h1
            by_cases cn : need = 0
            · rw [if_pos cn] at h1
              cases h1
            · rw [if_neg cn] at h1
              obtain ⟨⟨rq, kq⟩, hI, hO⟩ := Option.bind_eq_some_iff.mp h1
              have hneed1 : 1 ≤ need := by omega
              clear cn h1
              have HI := Aside0.mk hI
              have HT := Aside0.mk hO
              clear hI hO
              have hm30 : m ≤ 29 := by omega
              clear hm
              have hdm : decide (0 ≤ (m : Int)) = true := decide_eq_true (by omega)
              go_wp2
              go_loop [1, 10] (fun v1 v10 => ∃ (k : Nat) (x : Int), v1 = .int .i64 x ∧ v10 = .int .i64 (k : Int) ∧ k ≤ 32 ∧ Aside0 (torI m (33 - k) (need - 1) k x = some (rq, kq))) (fun _ v10 => 33 - (intOf v10).toNat)
              case atStart => exact ⟨0, x1, rfl, rfl, by omega, HI⟩
              case round =>
                clear HI
                obtain ⟨k, x, rfl, rfl, hk, HI⟩ := hrel
                have h1 := HI.out
                clear HI
                rw [show 33 - k = (32 - k) + 1 by omega] at h1
                simp only [torI] at h1
                by_cases cb : need - 1 + k < 32
                · rw [if_pos cb] at h1
                  have hcell := forests_cell HG.out HS.out m (need - 1 + k) (by omega) cb
                  by_cases ct : x ≥ tab m (need - 1 + k)
                  · rw [if_pos ct] at h1
                    have ctb : decide (tab m (need - 1 + k) ≤ x) = true := decide_eq_true ct
                    clear ct
                    generalize tab m (need - 1 + k) = E at hcell ctb h1
                    have HI := Aside0.mk h1
                    clear h1
                    go_wp2
                    go_round
                    case rel => exact ⟨k + 1, wrap64 (x - E), rfl, by go_num, by omega, ⟨by rw [show 33 - (k + 1) = 32 - k by omega]; exact HI.out⟩⟩
                    case measure => simp [intOf]; omega
                  · rw [if_neg ct] at h1
                    have ctb : decide (tab m (need - 1 + k) ≤ x) = false := decide_eq_false ct
                    clear ct
                    generalize tab m (need - 1 + k) = E at hcell ctb
                    simp only [Option.some.injEq, Prod.mk.injEq] at h1
                    obtain ⟨rfl, rfl⟩ := h1
                    go_wp2_with (first | ((with_reducible refine gate_builtin (b := .append) (xs := #[.tmp 54, .tmp 56]) rfl ?_); at_builtin; refine Kd.R_append (Kd.int .i64) (w0 := w) w.heap.size rfl (.tmp 54) (.tmp 56) 29 2 (.int .i64 0) 8 rfl Try.underlying29 info2 rfl (by decide) (by omega) u7 d (k : Int) [.int .i64 (k : Int)] (fun _ => True) (fun _ => False) rfl rfl ?aP (fun _ hk => hk.elim) ?aF ?aO ?aB ?aS ?aL ?_; (case aP => exact rfl); (case aB => exact (by repeat (first | (with_reducible first | exact HB.out | apply below_alloc | apply pw_below_drewN | apply below_drew1) | exact HB.out))); (case aF => exact (fun _ _ => trivial)); (case aO => exact (by (with_reducible repeat (first | apply Kd.R_alloc | apply Kd.R_drewN | apply Kd.R_drew)); exact HO.out)); (case aS => exact (below_size (by repeat (first | (with_reducible first | exact HB.out | apply below_alloc | apply pw_below_drewN | apply below_drew1) | exact HB.out)))); (case aL => have := HL.out; omega); intro v3 w3 ho hb hg hat; have n1_ := Aside0.mk (blk_grown (g := gb) (o := .cells #[.slice none 0 0] 35 (0, 0)) (by (with_reducible repeat (first | refine blk_drewN ?_ _ | refine blk_drew ?_ | refine blk_alloc ?_ _)); exact BK.out) hg (Kd.R_ne HO.out BK.out (by decide))); have n2_ := Aside0.mk (blk_grown (g := g) (o := .cells C.toArray 63 (0, 0)) (by (with_reducible repeat (first | refine blk_drewN ?_ _ | refine blk_drew ?_ | refine blk_alloc ?_ _)); exact HG.out) hg (Kd.R_ne HO.out HG.out (by decide))); have n3_ := Aside0.mk hb; have n4_ := Aside0.mk ho; clear BK; clear HG; clear HB; clear HO; have BK := n1_; have HG := n2_; have HB := n3_; have HO := n4_; clear n1_ n2_ n3_ n4_; clear ho hb hg hat hcell ctb))
                    refine ⟨⟨m, need - 1 + k, x, (m : Int) - 1, d ++ [(k : Int)], rfl, by go_num, rfl, by omega, by omega, by omega, ⟨by have := HL.out; simp only [List.length_append, List.length_cons, List.length_nil]; omega⟩, HT, HO, HG, BK, HB⟩, by simp [intOf]⟩
                · rw [if_neg cb] at h1
                  cases h1
    · rw [if_neg c2] at h
      cases h
  · rw [if_neg c1] at h
    cases h


/-! ### impl_isTree: function 69 -/
mutual
def impl_isTree.j0 : Nat → List Int → Bool → Option (Bool)
  | 0, _, _ => none
  | k + 1, x0, x13 => if x13 = true then (some false) else (impl_isTree.l0 k 1 x0 (x0.length : Int) 0)
def impl_isTree.l0 : Nat → Int → List Int → Int → Int → Option (Bool)
  | 0, _, _, _, _ => none
  | k + 1, x3, x14, x15, x16 => if x16 < x15 then (if 0 ≤ x16 then (if x16 < (x14.length : Int) then (if x3 = 0 then (some false) else (if (rd x14 x16) < 0 then (some false) else (if (rd x14 x16) ≥ 24 then (some false) else (impl_isTree.l0 k (wrap64 (x3 + (wrap64 ((rd x14 x16) - 1)))) x14 x15 (wrap64 (x16 + 1)))))) else (none)) else (none)) else (some (x3 == 0))
end
def impl_isTree.f (k : Nat) (l0 : List Int) : Option (Bool) := if (l0.length : Int) < 1 then (impl_isTree.j0 k l0 true) else (impl_isTree.j0 k l0 (decide ((l0.length : Int) > 24)))
theorem impl_isTree.mono_l : ∀ k, (∀ y0 y1, LeO (impl_isTree.j0 k y0 y1) (impl_isTree.j0 (k + 1) y0 y1)) ∧ (∀ y0 y1 y2 y3, LeO (impl_isTree.l0 k y0 y1 y2 y3) (impl_isTree.l0 (k + 1) y0 y1 y2 y3))
  | 0 => ⟨fun _ _ r h => by simp [impl_isTree.j0] at h, fun _ _ _ _ r h => by simp [impl_isTree.l0] at h⟩
  | k + 1 => by
    obtain ⟨ih0, ih1⟩ := impl_isTree.mono_l k
    refine ⟨?_, ?_⟩
    · intro y0 y1
      unfold impl_isTree.j0
      repeat' first
      | (with_reducible exact ih0 _ _)
      | (with_reducible exact ih1 _ _ _ _)
      | (with_reducible exact LeO.refl _)
      | (with_reducible exact LeO.none _)
      | (with_reducible refine LeO.ite ?_ ?_)
      | (with_reducible refine LeO.bind ?_ (fun _ => ?_))
      | exact ih0 _ _
      | exact ih1 _ _ _ _
      | exact LeO.none _
      | refine LeO.ite ?_ ?_
      | refine LeO.bind ?_ (fun _ => ?_)
    · intro y0 y1 y2 y3
      unfold impl_isTree.l0
      repeat' first
      | (with_reducible exact ih0 _ _)
      | (with_reducible exact ih1 _ _ _ _)
      | (with_reducible exact LeO.refl _)
      | (with_reducible exact LeO.none _)
      | (with_reducible refine LeO.ite ?_ ?_)
      | (with_reducible refine LeO.bind ?_ (fun _ => ?_))
      | exact ih0 _ _
      | exact ih1 _ _ _ _
      | exact LeO.none _
      | refine LeO.ite ?_ ?_
      | refine LeO.bind ?_ (fun _ => ?_)
theorem impl_isTree.mono : ∀ a0 k, LeO (impl_isTree.f k a0) (impl_isTree.f (k + 1) a0) := by
  intro a0 k
  obtain ⟨ih0, ih1⟩ := impl_isTree.mono_l k
  unfold impl_isTree.f
  repeat' first
      | (with_reducible exact ih0 _ _)
      | (with_reducible exact ih1 _ _ _ _)
      | (with_reducible exact LeO.refl _)
      | (with_reducible exact LeO.none _)
      | (with_reducible refine LeO.ite ?_ ?_)
      | (with_reducible refine LeO.bind ?_ (fun _ => ?_))
      | exact ih0 _ _
      | exact ih1 _ _ _ _
      | exact LeO.none _
      | refine LeO.ite ?_ ?_
      | refine LeO.bind ?_ (fun _ => ?_)
set_option maxHeartbeats 8000000 in
set_option maxRecDepth 100000 in
theorem impl_isTree.calls (k : Nat) (A0 : Option Addr) (c0 : Nat) (l0 : List Int) (r : Bool) (w : World) (hr0 : Kd.C (Kd.int .i64) w A0 l0.length l0) (hc0 : l0.length ≤ c0) (h : impl_isTree.f k l0 = some r) :
    Calls Try.prog 69 #[.slice A0 l0.length c0] w fun e w' => e = .returned (.bool r) ∧ Drawn0 w w' := by
  have HR0 := Aside0.mk hr0
  have HC0 := Aside0.mk hc0
  clear hr0 hc0
  have H : (if (l0.length : Int) < 1 then (impl_isTree.j0 k l0 true) else (impl_isTree.j0 k l0 (decide ((l0.length : Int) > 24)))) = some r := h
  clear h
  have HC2 := Aside0.mk H
  clear H
  go_enter Try.func69, Try.ntmps69
  go_upto_region 1 with (fail)
  go_cut [13] (fun v13 wc => ∃ (kq : Nat) (x13_1 : Bool), v13 = .bool x13_1 ∧ Aside0 (impl_isTree.j0 kq l0 x13_1 = some r) ∧ Aside0 (kq ≤ k) ∧ Drawn0 w wc)
  case first =>
    have H := HC2.out
    clear HC2
    by_cases c3 : (l0.length : Int) < 1
    · rw [if_pos c3] at H
      have c3b0 : decide ((l0.length : Int) < 1) = true := decide_eq_true c3
      have c3b1 : decide (l0.length < 1) = true := decide_eq_true (by omega)
      clear c3
      (first | rw [c3b0] | (simp only [i64_w, i32_w]; rw [c3b0]) | skip)
      have H' := Aside0.mk H
      clear H
      go_wp2
      go_meet
      case rel => exact ⟨_, (true), (by first | rfl | (simp; done) | (simp [*]; done)), H', ⟨by first | omega | exact Nat.le_refl _⟩, by repeat (first | exact Drawn0.refl _ | apply Drawn0.step)⟩
    · rw [if_neg c3] at H
      have c3b0 : decide ((l0.length : Int) < 1) = false := decide_eq_false c3
      have c3b1 : decide (l0.length < 1) = false := decide_eq_false (by omega)
      clear c3
      (first | rw [c3b0] | (simp only [i64_w, i32_w]; rw [c3b0]) | skip)
      have H' := Aside0.mk H
      clear H
      go_wp2
      go_meet
      case rel => exact ⟨_, (decide ((l0.length : Int) > 24)), (by first | rfl | (simp; done) | (simp [*]; done)), H', ⟨by first | omega | exact Nat.le_refl _⟩, by repeat (first | exact Drawn0.refl _ | apply Drawn0.step)⟩
  case rest =>
    clear HC2
    try clear p2
    try clear c3
    try clear c3b0
    try clear c3b1
    obtain ⟨kq, x13_1, rfl, HA, HJ1, ⟨mc1, rfl⟩⟩ := hcut
    cases kq with
    | zero => exact absurd HA.out (by simp [impl_isTree.j0])
    | succ kj1 =>
      have H := HA.out
      clear HA
      simp only [impl_isTree.j0] at H
      by_cases c4 : x13_1 = true
      · subst c4
        have H1 : (some false) = some r := by rw [if_pos rfl] at H; exact H
        clear H
        have H := H1
        clear H1
        obtain rfl := Option.some.inj H
        go_wp2
        go_ret
        exact ⟨by first | rfl | (simp; done) | (simp [*]; done), by repeat (first | exact Drawn0.refl _ | apply Drawn0.step)⟩
      · replace c4 := Bool.eq_false_iff.mpr c4
        subst c4
        have H1 : (impl_isTree.l0 kj1 1 l0 (l0.length : Int) 0) = some r := by rw [if_neg (show ¬ (false = true) by decide)] at H; exact H
        clear H
        have H := H1
        clear H1
        have H' := Aside0.mk H
        clear H
        go_wp2
        go_loopg [3, 16] kj1 (fun kq v3 v16 w' => ∃ (x3_2 : Int) (x16_2 : Int), v3 = .int .i64 x3_2 ∧ v16 = .int .i64 x16_2 ∧ Aside0 (impl_isTree.l0 kq x3_2 l0 (l0.length : Int) x16_2 = some r) ∧ Aside0 (kq ≤ kj1) ∧ Drawn0 w w')
        case atStart => exact ⟨(1), (0), (by first | rfl | (simp; done) | (simp [*]; done)), (by first | rfl | (simp; done) | (simp [*]; done)), H', ⟨Nat.le_refl _⟩, by repeat (first | exact Drawn0.refl _ | apply Drawn0.step)⟩
        case round =>
          clear H'
          try clear c1
          try clear p2
          try clear c3
          try clear c3b0
          try clear c3b1
          try clear c4
          try clear p2
          obtain ⟨x3_2, x16_2, rfl, rfl, HA, HK2, ⟨m2, rfl⟩⟩ := hrel
          cases gk with
          | zero => exact absurd HA.out (by simp [impl_isTree.l0])
          | succ k2 =>
            have H := HA.out
            clear HA
            simp only [impl_isTree.l0] at H
            by_cases c5 : x16_2 < (l0.length : Int)
            · rw [if_pos c5] at H
              have c5b0 : decide (x16_2 < (l0.length : Int)) = true := decide_eq_true c5
              clear c5
              by_cases c6 : 0 ≤ x16_2
              · rw [if_pos c6] at H
                have c6b0 : decide (0 ≤ x16_2) = true := decide_eq_true c6
                clear c6
                by_cases c7 : x16_2 < (l0.length : Int)
                · rw [if_pos c7] at H
                  have c7b0 : decide (x16_2 < (l0.length : Int)) = true := decide_eq_true c7
                  clear c7
                  by_cases c8 : x3_2 = 0
                  · rw [if_pos c8] at H
                    have c8b0 : (x3_2 == 0) = true := beq_iff_eq.mpr c8
                    have c8b1 : (x3_2 != 0) = false := bne_eq_false_iff_eq.mpr c8
                    clear c8
                    obtain rfl := Option.some.inj H
                    have p184 : 0 ≤ (x16_2 : Int) := of_decide_eq_true (by first | (with_reducible assumption) | assumption)
                    have q184 : x16_2 < (l0.length : Int) := of_decide_eq_true (by first | (with_reducible assumption) | assumption)
                    obtain ⟨ad184, e184, hx184_0⟩ := Kd.at_int HR0.out x16_2 p184 q184
                    cases e184
                    replace p184 := eq_true p184
                    replace q184 := eq_true q184
                    go_wp2
                    go_ret
                    exact ⟨by first | rfl | (simp; done) | (simp [*]; done), by repeat (first | exact Drawn0.refl _ | apply Drawn0.step)⟩
                  · rw [if_neg c8] at H
                    have c8b0 : (x3_2 == 0) = false := beq_eq_false_iff_ne.mpr c8
                    have c8b1 : (x3_2 != 0) = true := bne_iff_ne.mpr c8
                    by_cases c9 : (rd l0 x16_2) < 0
                    · rw [if_pos c9] at H
                      have c9b0 : decide ((rd l0 x16_2) < 0) = true := decide_eq_true c9
                      clear c9
                      obtain rfl := Option.some.inj H
                      have p184 : 0 ≤ (x16_2 : Int) := of_decide_eq_true (by first | (with_reducible assumption) | assumption)
                      have q184 : x16_2 < (l0.length : Int) := of_decide_eq_true (by first | (with_reducible assumption) | assumption)
                      obtain ⟨ad184, e184, hx184_0⟩ := Kd.at_int HR0.out x16_2 p184 q184
                      cases e184
                      replace p184 := eq_true p184
                      replace q184 := eq_true q184
                      go_wp2
                      go_ret
                      exact ⟨by first | rfl | (simp; done) | (simp [*]; done), by repeat (first | exact Drawn0.refl _ | apply Drawn0.step)⟩
                    · rw [if_neg c9] at H
                      have c9b0 : decide ((rd l0 x16_2) < 0) = false := decide_eq_false c9
                      clear c9
                      by_cases c10 : (rd l0 x16_2) ≥ 24
                      · rw [if_pos c10] at H
                        have c10b0 : decide (24 ≤ (rd l0 x16_2)) = true := decide_eq_true c10
                        clear c10
                        obtain rfl := Option.some.inj H
                        have p184 : 0 ≤ (x16_2 : Int) := of_decide_eq_true (by first | (with_reducible assumption) | assumption)
                        have q184 : x16_2 < (l0.length : Int) := of_decide_eq_true (by first | (with_reducible assumption) | assumption)
                        obtain ⟨ad184, e184, hx184_0⟩ := Kd.at_int HR0.out x16_2 p184 q184
                        cases e184
                        replace p184 := eq_true p184
                        replace q184 := eq_true q184
                        go_wp2
                        go_ret
                        exact ⟨by first | rfl | (simp; done) | (simp [*]; done), by repeat (first | exact Drawn0.refl _ | apply Drawn0.step)⟩
                      · rw [if_neg c10] at H
                        have c10b0 : decide (24 ≤ (rd l0 x16_2)) = false := decide_eq_false c10
                        clear c10
                        have H' := Aside0.mk H
                        clear H
                        have p184 : 0 ≤ (x16_2 : Int) := of_decide_eq_true (by first | (with_reducible assumption) | assumption)
                        have q184 : x16_2 < (l0.length : Int) := of_decide_eq_true (by first | (with_reducible assumption) | assumption)
                        obtain ⟨ad184, e184, hx184_0⟩ := Kd.at_int HR0.out x16_2 p184 q184
                        cases e184
                        replace p184 := eq_true p184
                        replace q184 := eq_true q184
                        go_wp2
                        go_roundg k2
                        case measure => have := HJ1.out; have := HK2.out; omega
                        case rel => exact ⟨(wrap64 (x3_2 + (wrap64 ((rd l0 x16_2) - 1)))), (wrap64 (x16_2 + 1)), (by first | rfl | (simp; done) | (simp [*]; done)), (by first | rfl | (simp; done) | (simp [*]; done)), H', ⟨by have := HJ1.out; have := HK2.out; omega⟩, by repeat (first | exact Drawn0.refl _ | apply Drawn0.step)⟩
                · rw [if_neg c7] at H
                  exact absurd H (by simp)
              · rw [if_neg c6] at H
                exact absurd H (by simp)
            · rw [if_neg c5] at H
              have c5b0 : decide (x16_2 < (l0.length : Int)) = false := decide_eq_false c5
              clear c5
              obtain rfl := Option.some.inj H
              go_wp2
              go_ret
              exact ⟨by first | rfl | (simp; done) | (simp [*]; done), by repeat (first | exact Drawn0.refl _ | apply Drawn0.step)⟩

/-! ### impl_IsTree: function 64 -/
def impl_IsTree.f (k : Nat) (l0_0 : List Int) : Option (Bool) := (impl_isTree.f k l0_0).bind fun t186 => (some t186)
theorem impl_IsTree.mono : ∀ a0 k, LeO (impl_IsTree.f k a0) (impl_IsTree.f (k + 1) a0) := by
  intro a0 k
  unfold impl_IsTree.f
  repeat' first
      | (with_reducible exact impl_isTree.mono _ _)
      | (with_reducible exact LeO.refl _)
      | (with_reducible exact LeO.none _)
      | (with_reducible refine LeO.ite ?_ ?_)
      | (with_reducible refine LeO.bind ?_ (fun _ => ?_))
      | exact impl_isTree.mono _ _
      | exact LeO.none _
      | refine LeO.ite ?_ ?_
      | refine LeO.bind ?_ (fun _ => ?_)
set_option maxHeartbeats 8000000 in
set_option maxRecDepth 100000 in
theorem impl_IsTree.calls (k : Nat) (A0_0 : Option Addr) (c0_0 : Nat) (l0_0 : List Int) (r : Bool) (w : World) (hr0_0 : Kd.C (Kd.int .i64) w A0_0 l0_0.length l0_0) (hc0_0 : l0_0.length ≤ c0_0) (h : impl_IsTree.f k l0_0 = some r) :
    Calls Try.prog 64 #[.agg #[.slice A0_0 l0_0.length c0_0]] w fun e w' => e = .returned (.bool r) ∧ Below w.heap.size w w' := by
  have hu35 := Try.underlying35
  have HR0_0 := Aside0.mk hr0_0
  have HC0_0 := Aside0.mk hc0_0
  clear hr0_0 hc0_0
  have HB := Aside0.mk (Below.refl w.heap.size w)
  have H : ((impl_isTree.f k l0_0).bind fun t186 => (some t186)) = some r := h
  clear h
  replace H := Option.bind_eq_some_iff.mp H
  obtain ⟨t186, A20, H⟩ := H
  replace H : (some t186) = some r := H
  have A2 := Aside0.mk A20
  clear A20
  obtain rfl := Option.some.inj H
  go_enter Try.func64, Try.ntmps64
  go_wp2_with (first | ((with_reducible refine gate_dst (N := 1) rfl ?_); refine box_event ?hg (N := 1) ?hd (cs := #[.slice A0_0 l0_0.length c0_0]) (t := 35) ?hr ?_; (case hd => rfl); (case hg => rfl); (case hr => first | (go_simp; done) | (go_simp; rfl)); intro gb185 hg w3 hbox hb; have n0_ := Aside0.mk (below_step (by repeat (first | (with_reducible first | exact HB.out | apply below_alloc | apply pw_below_drewN | apply below_drew1) | exact HB.out)) hb); have n1_ := Aside0.mk (hbox); have n2_ := Aside0.mk ((by rw [hg]; exact (below_size (by repeat (first | (with_reducible first | exact HB.out | apply below_alloc | apply pw_below_drewN | apply below_drew1) | exact HB.out))) : w.heap.size ≤ gb185)); have n3_ := Aside0.mk ((by rw [hg]; exact (below_size (by repeat (first | (with_reducible first | exact HB.out | apply below_alloc | apply pw_below_drewN | apply below_drew1) | exact HB.out))) : w.heap.size ≤ gb185)); clear HB; have HB := n0_; have BK185 := n1_; have GW185 := n2_; have GE185 := n3_; clear n0_ n1_ n2_ n3_; clear hb hbox hg; have hcz4_0 : w3.cell? ⟨gb185, 0, none⟩ = some (.slice A0_0 l0_0.length c0_0) := (blk_cell BK185.out 0).trans rfl; have hfz4_0 := blk_frozen BK185.out 0) | ((with_reducible refine gate_callee (f := 69) rfl ?_); refine goesL_ (some 5) rfl rfl Try.func69 (by kernel_rfl) rfl #[.slice A0_0 l0_0.length c0_0] rfl (by (try simp only [List.map_toArray, List.map_cons, List.map_nil]); first | done | rfl | (simp only [List.length_drop, List.length_take]; rfl)) ?_; (with_reducible refine (impl_isTree.calls k _ _ l0_0 t186 _ ?side1 ?side2 A2.out).mono ?_); (case side1 => repeat (first | exact (Kd.C_below HR0_0.out HB.out) | (with_reducible refine Kd.C_alloc ?_ _) | (with_reducible refine Kd.C_drewN ?_ _) | (with_reducible refine Kd.C_drew ?_))); (case side2 => exact HC0_0.out); rintro e w' ⟨rfl, ⟨nd, rfl⟩⟩; refine ⟨_, rfl, ?_⟩))
  go_ret
  exact ⟨by first | rfl | (simp [errW_none, errW_some] <;> rfl) | (simp [*, errW_none, errW_some] <;> rfl), by repeat (first | (with_reducible first | exact HB.out | apply below_alloc | apply pw_below_drewN | apply below_drew1 | refine below_set ?_ GE185.out) | exact HB.out)⟩

/-! ### impl_rankOfTree: function 65 -/
/-- the numbers of what lies before a node's degree are added up -/
def rkI (row b : Nat) : Nat → Nat → Int → Option Int
  | 0, _, r => some r
  | c + 1, d, r => if b + d < 32 then rkI row b c (d + 1) (wrap64 (r + tab row (b + d))) else none
def rkO : List Int → Nat → Int → Option Int
  | [], _, r => some r
  | x :: xs, need, r => if need = 0 then none else if x < 0 then none else (rkI xs.length (need - 1) x.toNat 0 r).bind fun r' => if need - 1 + x.toNat ≤ 32 then rkO xs (need - 1 + x.toNat) r' else none
def impl_rankOfTree.f (l0 : List Int) : Option Int := if l0.length ≤ 31 then rkO l0 1 0 else none
theorem rk_drop (l : List Int) (i : Nat) (h : i < l.length) : l.drop i = rd l (i : Int) :: l.drop (i + 1) := by
  rw [List.drop_eq_getElem_cons h]
  congr 1
  unfold rd
  rw [Int.toNat_natCast, List.getD_eq_getElem?_getD, List.getElem?_eq_getElem h]
  rfl
set_option maxHeartbeats 8000000 in
set_option maxRecDepth 100000 in
theorem impl_rankOfTree.calls (A0_0 : Option Addr) (c0_0 : Nat) (l0_0 : List Int) (r : Int) (w : World) (hr0_0 : Kd.C (Kd.int .i64) w A0_0 l0_0.length l0_0) (hc0_0 : l0_0.length ≤ c0_0) (h : impl_rankOfTree.f l0_0 = some r) :
    Calls Try.prog 65 #[.agg #[.slice A0_0 l0_0.length c0_0]] w fun e w' => e = .returned (.int .i64 r) ∧ Below w.heap.size w w' := by
  have hu := Try.underlying35
  have HR := Aside0.mk hr0_0
  have HC := Aside0.mk hc0_0
  clear hr0_0 hc0_0
  have HB := Aside0.mk (Below.refl w.heap.size w)
  unfold impl_rankOfTree.f at h
  by_cases c1 : l0_0.length ≤ 31
  · rw [if_pos c1] at h
    have HT := Aside0.mk h
    clear h
    obtain ⟨n, hn⟩ : ∃ n, n = l0_0.length := ⟨_, rfl⟩
    rw [← hn] at c1
    have HN := Aside0.mk hn
    rw [← hn]
    clear hn
    go_enter Try.func65, Try.ntmps65
    go_wp2_with (first | ((with_reducible refine gate_dst (N := 1) rfl ?_); refine box_event ?hg (N := 1) ?hd (cs := #[.slice A0_0 n c0_0]) (t := 35) ?hr ?_; (case hd => rfl); (case hg => rfl); (case hr => first | (go_simp; done) | (go_simp; rfl)); intro gb hg w8 hbox hb; have n0_ := Aside0.mk (below_step HB.out hb); have n1_ := Aside0.mk hbox; have n2_ := Aside0.mk ((by rw [hg]; exact below_size HB.out) : w.heap.size ≤ gb); clear HB; have HB := n0_; have BK := n1_; have GE := n2_; clear n0_ n1_ n2_; clear hb hbox hg) | (go_at_call 49; (with_reducible refine (impl_countForests.calls _).mono ?_); rintro e w1 ⟨g, rfl, hg, ⟨C, hC, hS⟩, hb⟩; have n1_ := Aside0.mk (blk_below (g := gb) (o := .cells #[.slice A0_0 n c0_0] 35 (0, 0)) BK.out hb); have n2_ := Aside0.mk (below_step HB.out hb); have HG := Aside0.mk hC; have HS := Aside0.mk hS; clear BK; clear HB; have BK := n1_; have HB := n2_; clear n1_ n2_; clear hg hC hS hb; have hcz : w1.cell? ⟨gb, 0, none⟩ = some (.slice A0_0 n c0_0) := (blk_cell BK.out 0).trans rfl))
    go_quiet (fail)
    go_wp2
    have HGq : Aside0 ((w1.drewN nq).heap[g]? = some (.cells C.toArray 63 (0, 0))) := ⟨by refine blk_drewN ?_ _; exact HG.out⟩
    have HBq : Aside0 (Below w.heap.size w (w1.drewN nq)) := ⟨by apply pw_below_drewN; exact HB.out⟩
    have HRq : Aside0 (Kd.C (Kd.int .i64) (w1.drewN nq) A0_0 l0_0.length l0_0) := ⟨Kd.C_below HR.out HBq.out⟩
    clear hcz HG HB HR
    generalize w1.drewN nq = wq at HGq HBq HRq ⊢
    have HX : Aside0 (∀ i : Nat, i < n → ∃ ad, A0_0 = some ad ∧ wq.cell? (ad.add i) = some (.int .i64 (rd l0_0 (i : Int)))) := ⟨fun i hi => by
      obtain ⟨ad, e0, hx⟩ := Kd.at_int HRq.out (i : Int) (by omega) (by have := HN.out; omega)
      rw [Int.toNat_natCast] at hx
      exact ⟨ad, e0, hx⟩⟩
    go_loop [4, 5, 17] (fun v4 v5 v17 => ∃ (i need : Nat) (x4 : Int), v4 = .int .i64 x4 ∧ v5 = .int .i64 (need : Int) ∧ v17 = .int .i64 (i : Int) ∧ i ≤ n ∧ need ≤ 32 ∧ Aside0 (rkO (l0_0.drop i) need x4 = some r)) (fun _ _ v17 => n - (intOf v17).toNat)
    case atStart => exact ⟨0, 1, 0, rfl, rfl, rfl, by omega, by omega, HT⟩
    case round =>
      clear HT
      obtain ⟨i, need, x4, rfl, rfl, rfl, hi, hneed, HT⟩ := hrel
      by_cases hlt : i < n
      · obtain ⟨ad, e0, hx⟩ := HX.out i hlt
        cases e0
        have h1 := HT.out
        clear HT
        rw [rk_drop l0_0 i (by have := HN.out; omega)] at h1
        generalize rd l0_0 (i : Int) = x at hx h1
        simp only [rkO] at h1
        by_cases cn : need = 0
        · rw [if_pos cn] at h1
          cases h1
        · rw [if_neg cn] at h1
          have hneed1 : 1 ≤ need := by omega
          clear cn
          by_cases cx : x < 0
          · rw [if_pos cx] at h1
            cases h1
          · rw [if_neg cx] at h1
            obtain ⟨kx, rfl⟩ : ∃ kx : Nat, x = kx := ⟨x.toNat, by omega⟩
            clear cx
            rw [Int.toNat_natCast, show (l0_0.drop (i + 1)).length = n - 1 - i by rw [List.length_drop]; have := HN.out; omega] at h1
            obtain ⟨rq, hI, h1⟩ := Option.bind_eq_some_iff.mp h1
            by_cases cb : need - 1 + kx ≤ 32
            · rw [if_pos cb] at h1
              have HI := Aside0.mk hI
              have HT := Aside0.mk h1
              have HCB := Aside0.mk cb
              clear hI h1 cb
              have hkx : kx ≤ 32 := by have := HCB.out; omega
              go_wp2
              go_loop [4, 23] (fun v4 v23 => ∃ (d : Nat) (x : Int), v4 = .int .i64 x ∧ v23 = .int .i64 (d : Int) ∧ d ≤ kx ∧ Aside0 (rkI (n - 1 - i) (need - 1) (kx - d) d x = some rq)) (fun _ v23 => kx - (intOf v23).toNat)
              case atStart => exact ⟨0, x4, rfl, rfl, by omega, HI⟩
              case round =>
                clear HI
                obtain ⟨d, x, rfl, rfl, hd, HI⟩ := hrel
                have h1 := HI.out
                clear HI
                by_cases hdk : d < kx
                · rw [show kx - d = (kx - (d + 1)) + 1 by omega] at h1
                  simp only [rkI] at h1
                  by_cases cb : need - 1 + d < 32
                  · rw [if_pos cb] at h1
                    have hcell := forests_cell HGq.out HS.out (n - 1 - i) (need - 1 + d) (by omega) cb
                    generalize tab (n - 1 - i) (need - 1 + d) = E at hcell h1
                    have HI := Aside0.mk h1
                    clear h1
                    go_wp2
                    go_round
                    case rel => exact ⟨d + 1, wrap64 (x + E), rfl, by go_num, by omega, HI⟩
                    case measure => simp [intOf]; omega
                  · rw [if_neg cb] at h1
                    cases h1
                · obtain rfl : d = kx := by omega
                  rw [Nat.sub_self] at h1
                  simp only [rkI, Option.some.injEq] at h1
                  subst h1
                  go_wp2
                  go_round
                  case rel => exact ⟨i + 1, need - 1 + d, x, rfl, by go_num, by go_num, by omega, HCB.out, HT⟩
                  case measure => simp [intOf]; omega
            · rw [if_neg cb] at h1
              cases h1
      · obtain rfl : i = n := by omega
        have h1 := HT.out
        clear HT
        rw [List.drop_eq_nil_of_le (by have := HN.out; omega)] at h1
        simp only [rkO, Option.some.injEq] at h1
        subst h1
        go_wp2
        go_ret
        exact ⟨rfl, HBq.out⟩
  · rw [if_neg c1] at h
    cases h


end Go.Proofs.Ytnibeghaebdajaa.QFnExactNextTree
