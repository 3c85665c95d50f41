/- Functions of the program as plain Lean functions, each with a proof that the machine's call answers what it answers. Conditions: none. -/
import Derived.Test.YtnibeghaebdajaaQFnExactCountByRootx0
import Derived.Test.YtnibeghaebdajaaQFnExactCountByRootx2
namespace Go.Proofs.Ytnibeghaebdajaa.QFnExactCountByRoot
open Go.RowKit Go.Proofs.YtnibeghaebdajaaW.PrintWords Go.Proofs.YtnibeghaebdajaaW.PrintLast Go.Proofs.YtnibeghaebdajaaW.PrintMore
attribute [local go_sem] max2_int min2_int max_two min_two max_three min_three max_four min_four   -- for this text's walks alone
set_option linter.unusedVariables false
set_option linter.unusedSimpArgs false

/-! ### impl_CountByRoot: function 24 -/
/-- so many entries of the row before, from a place on -/
def psum (r : List Int) (k : Nat) : Nat → Int
  | 0 => 0
  | d + 1 => wrap64 (psum r k d + rd r ((k + d : Nat) : Int))
def rowN : Nat → List Int
  | 0 => (List.range 32).map fun k => if k = 0 then 1 else 0
  | n + 1 => (List.range 32).map fun k => if k = 0 then 0 else psum (rowN n) (k - 1) (n + 2 - k)
def tab (n k : Nat) : Int := rd (rowN n) (k : Int)
theorem rd_map (f : Nat → Int) {k : Nat} (h : k < 32) : rd ((List.range 32).map f) (k : Int) = f k := by
  unfold rd
  rw [Int.toNat_natCast, List.getD_eq_getElem?_getD, List.getElem?_map, List.getElem?_range h]
  rfl
theorem tab_zero (k : Nat) (h : k < 32) : tab 0 k = if k = 0 then 1 else 0 := rd_map _ h
theorem tab_first (n : Nat) : tab (n + 1) 0 = 0 := rd_map _ (by omega)
theorem tab_at (n k : Nat) (h : k < 32) (h0 : k ≠ 0) : tab (n + 1) k = psum (rowN n) (k - 1) (n + 2 - k) := by
  have := rd_map (fun k => if k = 0 then 0 else psum (rowN n) (k - 1) (n + 2 - k)) h
  simp only [if_neg h0] at this
  exact this
/-- what stands in the table: rows below n are whole, row n up to k, and of place k so many parts are added -/
def ent (n k d a b : Nat) : Int := if a < n then tab a b else if a = n then (if b < k then tab n b else if b = k then psum (rowN (n - 1)) (k - 1) d else 0) else 0
def Sta (C : List Value) (n k d : Nat) : Prop := C.length = 992 ∧ ∀ a b : Nat, a < 31 → b < 32 → C[a * 32 + b]? = some (.int .i64 (ent n k d a b))
theorem sta_start (C : List Value) (h : C = (List.replicate 992 (Value.int .i64 0)).set 0 (.int .i64 1)) : Sta C 1 1 0 := by
  subst h
  refine ⟨by rw [List.length_set, List.length_replicate], fun a b ha hb => ?_⟩
  have e : (((List.replicate 992 (Value.int .i64 0)).set 0 (.int .i64 1))[a * 32 + b]?) = some (if a * 32 + b = 0 then Value.int .i64 1 else Value.int .i64 0) := by
    rw [List.getElem?_set, List.length_replicate]
    by_cases c : 0 = a * 32 + b
    · rw [if_pos c, if_pos (by omega), if_pos c.symm]
    · rw [if_neg c, if_neg (fun e => c e.symm), List.getElem?_replicate, if_pos (by omega)]
  rw [e]
  unfold ent
  by_cases c : a < 1
  · obtain rfl : a = 0 := by omega
    rw [if_pos c, tab_zero b hb]
    by_cases c2 : b = 0
    · subst c2; rfl
    · rw [if_neg (by omega), if_neg c2]
  · rw [if_neg c, if_neg (by omega)]
    by_cases c2 : a = 1
    · rw [if_pos c2]
      by_cases c3 : b < 1
      · obtain rfl : b = 0 := by omega
        rw [if_pos c3, tab_first]
      · rw [if_neg c3]
        split <;> rfl
    · rw [if_neg c2]
theorem sta_k {C : List Value} {n k : Nat} (h1 : 1 ≤ n) (hk : 1 ≤ k) (hkn : k ≤ n) (hn : n ≤ 30) (h : Sta C n k (n + 1 - k)) : Sta C n (k + 1) 0 := by
  refine ⟨h.1, fun a b ha hb => ?_⟩
  rw [h.2 a b ha hb]
  unfold ent
  by_cases c : a < n
  · rw [if_pos c, if_pos c]
  · rw [if_neg c, if_neg c]
    by_cases c2 : a = n
    · rw [if_pos c2, if_pos c2]
      by_cases c3 : b < k
      · rw [if_pos c3, if_pos (by omega)]
      · rw [if_neg c3]
        by_cases c4 : b = k
        · obtain ⟨m, rfl⟩ : ∃ m, n = m + 1 := ⟨n - 1, by omega⟩
          rw [if_pos c4, if_pos (by omega), tab_at m b hb (by omega), c4]
          rfl
        · rw [if_neg c4, if_neg (by omega)]
          split <;> rfl
    · rw [if_neg c2, if_neg c2]
theorem sta_n {C : List Value} {n : Nat} (h1 : 1 ≤ n) (hn : n ≤ 30) (h : Sta C n (n + 1) 0) : Sta C (n + 1) 1 0 := by
  refine ⟨h.1, fun a b ha hb => ?_⟩
  rw [h.2 a b ha hb]
  unfold ent
  by_cases c : a < n
  · rw [if_pos c, if_pos (by omega)]
  · rw [if_neg c]
    by_cases c2 : a = n
    · rw [if_pos c2, if_pos (show a < n + 1 by omega), c2]
      by_cases c3 : b < n + 1
      · rw [if_pos c3]
      · obtain ⟨m, rfl⟩ : ∃ m, n = m + 1 := ⟨n - 1, by omega⟩
        rw [if_neg c3, tab_at m b hb (by omega), show m + 2 - b = 0 by omega]
        split <;> rfl
    · rw [if_neg c2, if_neg (by omega)]
      by_cases c5 : a = n + 1
      · rw [if_pos c5]
        by_cases c6 : b < 1
        · obtain rfl : b = 0 := by omega
          rw [if_pos c6, tab_first]
        · rw [if_neg c6]
          split <;> rfl
      · rw [if_neg c5]
theorem sta_d {C : List Value} {n k d : Nat} (h1 : 1 ≤ n) (hk : 1 ≤ k) (hn : n ≤ 30) (hd : k + d ≤ n) (h : Sta C n k d) :
    Sta (C.set (n * 32 + k) (.int .i64 (wrap64 (ent n k d n k + ent n k d (n - 1) (k - 1 + d))))) n k (d + 1) := by
  refine ⟨by rw [List.length_set]; exact h.1, fun a b ha hb => ?_⟩
  rw [List.getElem?_set, h.1, h.2 a b ha hb]
  by_cases c : n * 32 + k = a * 32 + b
  · obtain ⟨rfl, rfl⟩ : n = a ∧ k = b := by omega
    rw [if_pos rfl, if_pos (by omega)]
    have e1 : ent n k d n k = psum (rowN (n - 1)) (k - 1) d := by
      unfold ent
      rw [if_neg (by omega), if_pos rfl, if_neg (by omega), if_pos rfl]
    have e2 : ent n k d (n - 1) (k - 1 + d) = tab (n - 1) (k - 1 + d) := by
      unfold ent
      rw [if_pos (by omega)]
    have e3 : ent n k (d + 1) n k = psum (rowN (n - 1)) (k - 1) (d + 1) := by
      unfold ent
      rw [if_neg (by omega), if_pos rfl, if_neg (by omega), if_pos rfl]
    rw [e1, e2, e3]
    rfl
  · rw [if_neg c]
    congr 2
    unfold ent
    by_cases c2 : a < n
    · rw [if_pos c2, if_pos c2]
    · rw [if_neg c2, if_neg c2]
      by_cases c3 : a = n
      · rw [if_pos c3, if_pos c3]
        by_cases c4 : b < k
        · rw [if_pos c4, if_pos c4]
        · rw [if_neg c4, if_neg c4, if_neg (by omega), if_neg (by omega)]
      · rw [if_neg c3, if_neg c3]
theorem zero_row : Try.zeroCells63.setIfInBounds 0 (Value.int .i64 1) = ((List.replicate 992 (Value.int .i64 0)).set 0 (.int .i64 1)).toArray := by kernel_rfl
set_option maxHeartbeats 8000000 in
set_option maxRecDepth 100000 in
theorem impl_countForests.calls (w : World) : Calls Try.prog 49 #[] w fun e w' => ∃ g : Nat, e = .returned (.pointer (some ⟨g, 0, none⟩)) ∧ w.heap.size ≤ g ∧ (∃ C : List Value, w'.heap[g]? = some (.cells C.toArray 63 (0, 0)) ∧ Sta C 31 1 0) ∧ Below w.heap.size w w' := by
  go_enter Try.func49, Try.ntmps49
  go_wp2
  rw [zero_row]
  obtain ⟨C0, hC0⟩ : ∃ C0, C0 = (List.replicate 992 (Value.int .i64 0)).set 0 (.int .i64 1) := ⟨_, rfl⟩
  rw [← hC0]
  obtain ⟨w1, hw1⟩ : ∃ w1, w1 = w.alloc (Obj.cells C0.toArray 63) := ⟨_, rfl⟩
  rw [← hw1]
  obtain ⟨g, hg⟩ : ∃ g, g = w.heap.size := ⟨_, rfl⟩
  rw [← hg]
  have HG : Hid (w1.heap[g]? = some (.cells C0.toArray 63 (0, 0))) := by
    rw [hw1, hg]
    exact blk_new w _
  have HB : Hid (Below g w w1) := by
    rw [hw1, hg]
    exact below_alloc (Below.refl _ _) _
  have HS : Hid (Sta C0 1 1 0) := sta_start C0 hC0
  have HGB := Aside0.mk hg
  clear hC0 hw1 hg
  go_loopw [2] (fun v2 wq => ∃ (n : Nat) (C : List Value), v2 = .int .i64 (n : Int) ∧ 1 ≤ n ∧ n ≤ 31 ∧ Hid (wq.heap[g]? = some (.cells C.toArray 63 (0, 0))) ∧ Hid (Sta C n 1 0) ∧ Hid (Below g w wq)) (fun v2 _ => 31 - (intOf v2).toNat)
  case atStart => exact ⟨1, C0, rfl, by omega, by omega, HG, HS, HB⟩
  case round =>
    clear HG HS HB
    obtain ⟨n, C, rfl, hn1, hn31, HG, HS, HB⟩ := hrel
    by_cases hlt : n ≤ 30
    · have hdn : decide ((n : Int) ≤ 30) = true := decide_eq_true (by omega)
      go_wp2
      go_loopw [3] (fun v3 wq => ∃ (k : Nat) (C : List Value), v3 = .int .i64 (k : Int) ∧ 1 ≤ k ∧ k ≤ n + 1 ∧ Hid (wq.heap[g]? = some (.cells C.toArray 63 (0, 0))) ∧ Hid (Sta C n k 0) ∧ Hid (Below g w wq)) (fun v3 _ => n + 1 - (intOf v3).toNat)
      case atStart => exact ⟨1, C, rfl, by omega, by omega, HG, HS, HB⟩
      case round =>
        clear HG HS HB
        obtain ⟨k, C, rfl, hk1, hkn, HG, HS, HB⟩ := hrel
        by_cases hle : k ≤ n
        · have hdk : decide ((k : Int) ≤ (n : Int)) = true := decide_eq_true (by omega)
          go_wp2
          go_loopw [4] (fun v4 wq => ∃ (d : Nat) (C : List Value), v4 = .int .i64 (d : Int) ∧ k + d ≤ n + 1 ∧ Hid (wq.heap[g]? = some (.cells C.toArray 63 (0, 0))) ∧ Hid (Sta C n k d) ∧ Hid (Below g w wq)) (fun v4 _ => n + 1 - k - (intOf v4).toNat)
          case atStart => exact ⟨0, C, rfl, by omega, HG, HS, HB⟩
          case round =>
            clear HG HS HB
            obtain ⟨d, C, rfl, hd, HG, HS, HB⟩ := hrel
            by_cases hc : k + d ≤ n
            · have hdd : decide ((k : Int) - 1 + (d : Int) ≤ (n : Int) - 1) = true := decide_eq_true (by omega)
              have hcc1 := blk_cell HG.out (n * 32 + k)
              have hcc2 := blk_cell HG.out ((n - 1) * 32 + (k - 1 + d))
              rw [List.getElem?_toArray, HS.out.2 n k (by omega) (by omega)] at hcc1
              rw [List.getElem?_toArray, HS.out.2 (n - 1) (k - 1 + d) (by omega) (by omega)] at hcc2
              have hff := blk_frozen HG.out (n * 32 + k)
              have HC1 := Aside0.mk hcc1
              have HC2 := Aside0.mk hcc2
              have HF := Aside0.mk hff
              clear hcc1 hcc2 hff
              go_wp2
              have hcc1 : wr.drew.cell? ⟨g, n * 32 + k, none⟩ = some (.int .i64 (ent n k d n k)) := HC1.out
              have hcc2 : wr.drew.cell? ⟨g, (n - 1) * 32 + (k - 1 + d), none⟩ = some (.int .i64 (ent n k d (n - 1) (k - 1 + d))) := HC2.out
              have hff : wr.drew.frozen? ⟨g, n * 32 + k, none⟩ = false := HF.out
              have hset := sta_d hn1 hk1 hlt hc HS.out
              have HSET := Aside0.mk hset
              clear hset
              obtain ⟨E1, hE1⟩ : ∃ E1, E1 = ent n k d n k := ⟨_, rfl⟩
              obtain ⟨E2, hE2⟩ : ∃ E2, E2 = ent n k d (n - 1) (k - 1 + d) := ⟨_, rfl⟩
              rw [← hE1] at hcc1
              rw [← hE2] at hcc2
              rw [← hE1, ← hE2] at HSET
              clear hE1 hE2
              go_region
              all_goals
                go_wp2
                refine ⟨⟨d + 1, C.set (n * 32 + k) (.int .i64 (wrap64 (E1 + E2))), by go_num, by omega, ?_, HSET.out, ?_⟩, by simp [intOf]; omega⟩
                · have := heap_setCell_same wr g (n * 32 + k) C.toArray 63 (.int .i64 (wrap64 (E1 + E2))) HG.out
                  rw [List.setIfInBounds_toArray] at this
                  exact this
                · exact below_drew1 (HB.out.setCell (Nat.le_refl _) _)
            · have hdd : decide ((k : Int) - 1 + (d : Int) ≤ (n : Int) - 1) = false := decide_eq_false (by omega)
              go_wp2
              obtain rfl : d = n + 1 - k := by omega
              exact ⟨⟨k + 1, C, by go_num, by omega, by omega, HG, sta_k hn1 hk1 hle hlt HS.out, HB⟩, by simp [intOf]; omega⟩
        · obtain rfl : k = n + 1 := by omega
          have hdk : decide (((n + 1 : Nat) : Int) ≤ (n : Int)) = false := decide_eq_false (by omega)
          go_wp2
          exact ⟨⟨n + 1, C, by go_num, by omega, by omega, HG, sta_n hn1 hlt HS.out, HB⟩, by simp [intOf]; omega⟩
    · obtain rfl : n = 31 := by omega
      have hdn : decide (((31 : Nat) : Int) ≤ 30) = false := rfl
      go_wp2
      go_ret
      exact ⟨g, rfl, by rw [HGB.out]; exact Nat.le_refl _, ⟨C, HG, HS⟩, by rw [← HGB.out]; exact HB⟩

theorem forests_cell {w : World} {g : Nat} {C : List Value} (h : w.heap[g]? = some (.cells C.toArray 63 (0, 0))) (hS : Sta C 31 1 0) (a b : Nat) (ha : a < 31) (hb : b < 32) :
    w.cell? ⟨g, a * 32 + b, none⟩ = some (.int .i64 (tab a b)) := by
  rw [blk_cell h (a * 32 + b), List.getElem?_toArray, hS.2 a b ha hb]
  unfold ent
  rw [if_pos ha]

def impl_CountByRoot.f (a0 : Int) (a1 : Int) : Option (Int × Int) := (impl_isCounted.f a0).bind fun t => if t = false ∨ a1 < 0 ∨ a0 < a1 then some (0, 2) else (if 1 ≤ a0 ∧ a0 ≤ 30 then some (tab (a0 - 1).toNat a1.toNat, 0) else none)
set_option maxHeartbeats 8000000 in
set_option maxRecDepth 100000 in
theorem impl_CountByRoot.calls (a0 : Int) (a1 : Int) (r1 : Int) (r2 : Int) (w : World) (h : impl_CountByRoot.f a0 a1 = some (r1, r2)) :
    Calls Try.prog 24 #[.int .i64 a0, .int .i64 a1] w fun e w' => e = .returned (.tuple #[.int .i64 r1, .int .i64 r2]) ∧ Below w.heap.size w w' := by
  unfold impl_CountByRoot.f at h
  obtain ⟨t, ht, h⟩ := Option.bind_eq_some_iff.mp h
  have HT := Aside0.mk ht
  clear ht
  have hW : ∀ nd, Below w.heap.size w (w.drewN nd) := fun nd => (Below.refl w.heap.size w).trans (show Below w.heap.size w (w.drewN nd) from ⟨rfl, rfl, rfl, Nat.le_refl _, fun _ _ => rfl⟩)
  by_cases c0 : t = false
  · subst c0
    rw [if_pos (.inl rfl)] at h
    obtain ⟨rfl, rfl⟩ : 0 = r1 ∧ 2 = r2 := by simpa using h
    clear h
    go_enter Try.func24, Try.ntmps24
    go_wp2_with (first | (go_at_call 48; (with_reducible refine (impl_isCounted.calls a0 false _ HT.out).mono ?_); rintro e w' ⟨rfl, ⟨nd, rfl⟩⟩))
    go_ret2
    exact ⟨rfl, hW _⟩
  · obtain rfl : t = true := by simpa using c0
    clear c0
    by_cases c1 : a1 < 0
    · rw [if_pos (.inr (.inl c1))] at h
      obtain ⟨rfl, rfl⟩ : 0 = r1 ∧ 2 = r2 := by simpa using h
      clear h
      have d1 : decide (a1 < 0) = true := decide_eq_true c1
      clear c1
      go_enter Try.func24, Try.ntmps24
      go_wp2_with (first | (go_at_call 48; (with_reducible refine (impl_isCounted.calls a0 true _ HT.out).mono ?_); rintro e w' ⟨rfl, ⟨nd, rfl⟩⟩))
      go_ret2
      exact ⟨rfl, hW _⟩
    · have d1 : decide (a1 < 0) = false := decide_eq_false c1
      by_cases c2 : a0 < a1
      · rw [if_pos (.inr (.inr c2))] at h
        obtain ⟨rfl, rfl⟩ : 0 = r1 ∧ 2 = r2 := by simpa using h
        clear h
        have d2 : decide (a0 < a1) = true := decide_eq_true c2
        clear c1 c2
        go_enter Try.func24, Try.ntmps24
        go_wp2_with (first | (go_at_call 48; (with_reducible refine (impl_isCounted.calls a0 true _ HT.out).mono ?_); rintro e w' ⟨rfl, ⟨nd, rfl⟩⟩))
        go_ret2
        exact ⟨rfl, hW _⟩
      · have d2 : decide (a0 < a1) = false := decide_eq_false c2
        rw [if_neg (by simp; omega)] at h
        by_cases c3 : 1 ≤ a0 ∧ a0 ≤ 30
        · rw [if_pos c3] at h
          obtain ⟨rfl, rfl⟩ : tab (a0 - 1).toNat a1.toNat = r1 ∧ 0 = r2 := by simpa using h
          obtain ⟨h1, h2⟩ := c3
          have h3 : 0 ≤ a1 := by omega
          have h4 : a1 ≤ a0 := by omega
          have e1 : (a0 - 1).toNat = a0.toNat - 1 := by omega
          rw [e1]
          have hn : a0.toNat - 1 < 31 := by omega
          clear e1 h
          have hk : a1.toNat < 32 := by omega
          clear c1 c2
          go_enter Try.func24, Try.ntmps24
          go_wp2_with (first | (go_at_call 48; (with_reducible refine (impl_isCounted.calls _ true _ HT.out).mono ?_); rintro e w' ⟨rfl, ⟨nd, rfl⟩⟩) | (go_at_call 49; (with_reducible refine (impl_countForests.calls _).mono ?_); rintro e w1 ⟨g, rfl, hg, ⟨C, hC, hS⟩, hB⟩; have hcell := forests_cell hC hS (a0.toNat - 1) a1.toNat hn hk; have HB := Aside0.mk hB; clear hg hC hS hB))
          go_ret2
          exact ⟨by simp, (hW _).trans HB.out⟩
        · rw [if_neg c3] at h
          cases h


/-! ### laws_FnExactCountByRoot: function 8 -/
def laws_FnExactCountByRoot.f (k : Nat) (a0 : Int) (a1 : Int) : Option (Bool) := (spec_CountByRoot.f k a0 a1).bind fun bt127 => ((impl_CountByRoot.f a0 a1).bind fun bt129 => (if bt129.1 = bt127.1 then (if bt129.2 = bt127.2 then (some true) else (some false)) else (some false)))
theorem laws_FnExactCountByRoot.mono : ∀ a0 a1 k, LeO (laws_FnExactCountByRoot.f k a0 a1) (laws_FnExactCountByRoot.f (k + 1) a0 a1) := by
  intro a0 a1 k
  unfold laws_FnExactCountByRoot.f
  repeat' first
      | (with_reducible exact spec_CountByRoot.mono _ _ _)
      | (with_reducible exact LeO.refl _)
      | (with_reducible exact LeO.none _)
      | (with_reducible refine LeO.ite ?_ ?_)
      | (with_reducible refine LeO.bind ?_ (fun _ => ?_))
      | exact spec_CountByRoot.mono _ _ _
      | exact LeO.none _
      | refine LeO.ite ?_ ?_
      | refine LeO.bind ?_ (fun _ => ?_)
set_option maxHeartbeats 8000000 in
set_option maxRecDepth 100000 in
theorem laws_FnExactCountByRoot.calls (k : Nat) (a0 : Int) (a1 : Int) (r : Bool) (w : World) (h : laws_FnExactCountByRoot.f k a0 a1 = some r) :
    Calls Try.prog 8 #[.int .i64 a0, .int .i64 a1] w fun e w' => e = .returned (.bool r) ∧ Below w.heap.size w w' := by
  have HB := Aside0.mk (Below.refl w.heap.size w)
  have H : ((spec_CountByRoot.f k a0 a1).bind fun bt127 => ((impl_CountByRoot.f a0 a1).bind fun bt129 => (if bt129.1 = bt127.1 then (if bt129.2 = bt127.2 then (some true) else (some false)) else (some false)))) = some r := h
  clear h
  replace H := Option.bind_eq_some_iff.mp H
  obtain ⟨⟨t127, t128⟩, A30, H⟩ := H
  replace H : ((impl_CountByRoot.f a0 a1).bind fun bt129 => (if bt129.1 = t127 then (if bt129.2 = t128 then (some true) else (some false)) else (some false))) = some r := H
  have A3 := Aside0.mk A30
  clear A30
  replace H := Option.bind_eq_some_iff.mp H
  obtain ⟨⟨t129, t130⟩, A40, H⟩ := H
  replace H : (if t129 = t127 then (if t130 = t128 then (some true) else (some false)) else (some false)) = some r := H
  have A4 := Aside0.mk A40
  clear A40
  by_cases c5 : t129 = t127
  · rw [if_pos c5] at H
    have c5b0 : (t129 == t127) = true := beq_iff_eq.mpr c5
    have c5b1 : (t129 != t127) = false := bne_eq_false_iff_eq.mpr c5
    clear c5
    by_cases c6 : t130 = t128
    · rw [if_pos c6] at H
      have c6b0 : (t130 == t128) = true := beq_iff_eq.mpr c6
      have c6b1 : (t130 != t128) = false := bne_eq_false_iff_eq.mpr c6
      clear c6
      obtain rfl := Option.some.inj H
      go_enter Try.func8, Try.ntmps8
      go_wp2_with (first | ((with_reducible refine gate_callee (f := 23) rfl ?_); refine goesL_ (some 12) rfl rfl Try.func23 (by kernel_rfl) rfl #[.int .i64 a0, .int .i64 a1] rfl (by (try simp only [List.map_toArray, List.map_cons, List.map_nil]); first | done | rfl | (simp only [List.length_drop, List.length_take]; rfl)) ?_; (with_reducible refine (spec_CountByRoot.calls k a0 a1 t127 t128 _ A3.out).mono ?_); rintro e w7 ⟨rfl, hb⟩; refine ⟨_, rfl, ?_⟩; have n0_ := Aside0.mk (below_step (by repeat (first | (with_reducible first | exact HB.out | apply below_alloc | apply pw_below_drewN | apply below_drew1) | exact HB.out)) hb); clear HB; have HB := n0_; clear n0_; (try clear hb); (try clear hb2); (try clear hk); (try clear hi)) | ((with_reducible refine gate_callee (f := 24) rfl ?_); refine goesL_ (some 18) rfl rfl Try.func24 (by kernel_rfl) rfl #[.int .i64 a0, .int .i64 a1] rfl (by (try simp only [List.map_toArray, List.map_cons, List.map_nil]); first | done | rfl | (simp only [List.length_drop, List.length_take]; rfl)) ?_; (with_reducible refine (impl_CountByRoot.calls a0 a1 t129 t130 _ A4.out).mono ?_); rintro e w8 ⟨rfl, hb⟩; refine ⟨_, rfl, ?_⟩; have n0_ := Aside0.mk (below_step (by repeat (first | (with_reducible first | exact HB.out | apply below_alloc | apply pw_below_drewN | apply below_drew1) | exact HB.out)) hb); clear HB; have HB := n0_; clear n0_; (try clear hb); (try clear hb2); (try clear hk); (try clear hi)))
      go_ret
      exact ⟨by first | rfl | (simp [errW_none, errW_some] <;> rfl) | (simp [*, errW_none, errW_some] <;> rfl), by repeat (first | (with_reducible first | exact HB.out | apply below_alloc | apply pw_below_drewN | apply below_drew1) | exact HB.out)⟩
    · rw [if_neg c6] at H
      have c6b0 : (t130 == t128) = false := beq_eq_false_iff_ne.mpr c6
      have c6b1 : (t130 != t128) = true := bne_iff_ne.mpr c6
      obtain rfl := Option.some.inj H
      go_enter Try.func8, Try.ntmps8
      go_wp2_with (first | ((with_reducible refine gate_callee (f := 23) rfl ?_); refine goesL_ (some 12) rfl rfl Try.func23 (by kernel_rfl) rfl #[.int .i64 a0, .int .i64 a1] rfl (by (try simp only [List.map_toArray, List.map_cons, List.map_nil]); first | done | rfl | (simp only [List.length_drop, List.length_take]; rfl)) ?_; (with_reducible refine (spec_CountByRoot.calls k a0 a1 t127 t128 _ A3.out).mono ?_); rintro e w9 ⟨rfl, hb⟩; refine ⟨_, rfl, ?_⟩; have n0_ := Aside0.mk (below_step (by repeat (first | (with_reducible first | exact HB.out | apply below_alloc | apply pw_below_drewN | apply below_drew1) | exact HB.out)) hb); clear HB; have HB := n0_; clear n0_; (try clear hb); (try clear hb2); (try clear hk); (try clear hi)) | ((with_reducible refine gate_callee (f := 24) rfl ?_); refine goesL_ (some 18) rfl rfl Try.func24 (by kernel_rfl) rfl #[.int .i64 a0, .int .i64 a1] rfl (by (try simp only [List.map_toArray, List.map_cons, List.map_nil]); first | done | rfl | (simp only [List.length_drop, List.length_take]; rfl)) ?_; (with_reducible refine (impl_CountByRoot.calls a0 a1 t129 t130 _ A4.out).mono ?_); rintro e w10 ⟨rfl, hb⟩; refine ⟨_, rfl, ?_⟩; have n0_ := Aside0.mk (below_step (by repeat (first | (with_reducible first | exact HB.out | apply below_alloc | apply pw_below_drewN | apply below_drew1) | exact HB.out)) hb); clear HB; have HB := n0_; clear n0_; (try clear hb); (try clear hb2); (try clear hk); (try clear hi)))
      go_ret
      exact ⟨by first | rfl | (simp [errW_none, errW_some] <;> rfl) | (simp [*, errW_none, errW_some] <;> rfl), by repeat (first | (with_reducible first | exact HB.out | apply below_alloc | apply pw_below_drewN | apply below_drew1) | exact HB.out)⟩
  · rw [if_neg c5] at H
    have c5b0 : (t129 == t127) = false := beq_eq_false_iff_ne.mpr c5
    have c5b1 : (t129 != t127) = true := bne_iff_ne.mpr c5
    obtain rfl := Option.some.inj H
    go_enter Try.func8, Try.ntmps8
    go_wp2_with (first | ((with_reducible refine gate_callee (f := 23) rfl ?_); refine goesL_ (some 12) rfl rfl Try.func23 (by kernel_rfl) rfl #[.int .i64 a0, .int .i64 a1] rfl (by (try simp only [List.map_toArray, List.map_cons, List.map_nil]); first | done | rfl | (simp only [List.length_drop, List.length_take]; rfl)) ?_; (with_reducible refine (spec_CountByRoot.calls k a0 a1 t127 t128 _ A3.out).mono ?_); rintro e w11 ⟨rfl, hb⟩; refine ⟨_, rfl, ?_⟩; have n0_ := Aside0.mk (below_step (by repeat (first | (with_reducible first | exact HB.out | apply below_alloc | apply pw_below_drewN | apply below_drew1) | exact HB.out)) hb); clear HB; have HB := n0_; clear n0_; (try clear hb); (try clear hb2); (try clear hk); (try clear hi)) | ((with_reducible refine gate_callee (f := 24) rfl ?_); refine goesL_ (some 18) rfl rfl Try.func24 (by kernel_rfl) rfl #[.int .i64 a0, .int .i64 a1] rfl (by (try simp only [List.map_toArray, List.map_cons, List.map_nil]); first | done | rfl | (simp only [List.length_drop, List.length_take]; rfl)) ?_; (with_reducible refine (impl_CountByRoot.calls a0 a1 t129 t130 _ A4.out).mono ?_); rintro e w12 ⟨rfl, hb⟩; refine ⟨_, rfl, ?_⟩; have n0_ := Aside0.mk (below_step (by repeat (first | (with_reducible first | exact HB.out | apply below_alloc | apply pw_below_drewN | apply below_drew1) | exact HB.out)) hb); clear HB; have HB := n0_; clear n0_; (try clear hb); (try clear hb2); (try clear hk); (try clear hi)))
    go_ret
    exact ⟨by first | rfl | (simp [errW_none, errW_some] <;> rfl) | (simp [*, errW_none, errW_some] <;> rfl), by repeat (first | (with_reducible first | exact HB.out | apply below_alloc | apply pw_below_drewN | apply below_drew1) | exact HB.out)⟩

/-- THE ONE PURE STATEMENT of laws_FnExactCountByRoot: yours. -/
def laws_FnExactCountByRoot.Pure : Prop := ∀ (a0 : Int) (a1 : Int), (Lit.int .i64 a0).wf = true → (Lit.int .i64 a1).wf = true → ∃ k, laws_FnExactCountByRoot.f k a0 a1 = some true
theorem laws_FnExactCountByRoot.walk (P : laws_FnExactCountByRoot.Pure) (a0 : Int) (a1 : Int) (w : World) (w0 : (Lit.int .i64 a0).wf = true) (w1 : (Lit.int .i64 a1).wf = true) :
    Calls Try.prog 8 #[.int .i64 a0, .int .i64 a1] w fun e w' => e = .returned (.bool true) ∧ Below w.heap.size w w' := by
  obtain ⟨k, h⟩ := P a0 a1 w0 w1
  refine (laws_FnExactCountByRoot.calls k a0 a1 true w h).mono ?_
  rintro e w' ⟨rfl, hd⟩
  exact ⟨rfl, hd⟩

end Go.Proofs.Ytnibeghaebdajaa.QFnExactCountByRoot
