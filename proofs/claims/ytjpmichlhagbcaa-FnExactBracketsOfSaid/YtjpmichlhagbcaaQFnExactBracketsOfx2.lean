/- Functions of the program as plain Lean functions, each with a proof that the machine's call answers what it answers. Conditions: none. -/
import Derived.Test.YtjpmichlhagbcaaQFnExactBracketsOfx0
import Derived.Test.YtjpmichlhagbcaaQFnExactBracketsOfx1
namespace Go.Proofs.Ytjpmichlhagbcaa.QFnExactBracketsOf
open Go.RowKit Go.Proofs.YtjpmichlhagbcaaW.PrintWords Go.Proofs.YtjpmichlhagbcaaW.PrintLast Go.Proofs.YtjpmichlhagbcaaW.PrintMore
attribute [local go_sem] max2_int min2_int max_two min_two max_three min_three max_four min_four   -- for this text's walks alone
set_option linter.unusedVariables false
set_option linter.unusedSimpArgs false

/-! ### impl_sides: function 53 -/
def impl_sides.f (k : Nat) (a0 : ByteArray) : Option (ByteArray × ByteArray) := if 1 ≤ (a0.size : Int) then ((impl_endBinary.f k (a0.extract 1 a0.size)).bind fun bt115 => (if 1 ≤ (wrap64 ((a0.size : Int) - (bt115.1.size : Int))) then (if (wrap64 ((a0.size : Int) - (bt115.1.size : Int))) ≤ (a0.size : Int) then (some (a0.extract 1 ((wrap64 ((a0.size : Int) - (bt115.1.size : Int))) : Int).toNat, bt115.1)) else (none)) else (none))) else (none)
theorem impl_sides.mono : ∀ a0 k, LeO (impl_sides.f k a0) (impl_sides.f (k + 1) a0) := by
  intro a0 k
  unfold impl_sides.f
  repeat' first
      | (with_reducible exact impl_endBinary.mono _ _)
      | (with_reducible exact LeO.refl _)
      | (with_reducible exact LeO.none _)
      | (with_reducible refine LeO.ite ?_ ?_)
      | (with_reducible refine LeO.bind ?_ (fun _ => ?_))
      | exact impl_endBinary.mono _ _
      | exact LeO.none _
      | refine LeO.ite ?_ ?_
      | refine LeO.bind ?_ (fun _ => ?_)
set_option maxHeartbeats 8000000 in
set_option maxRecDepth 100000 in
theorem impl_sides.calls (k : Nat) (a0 : ByteArray) (r1 : ByteArray) (r2 : ByteArray) (w : World) (h : impl_sides.f k a0 = some (r1, r2)) :
    Calls Try.prog 53 #[.string a0] w fun e w' => e = .returned (.tuple #[.string r1, .string r2]) ∧ Drawn0 w w' := by
  have H : (if 1 ≤ (a0.size : Int) then ((impl_endBinary.f k (a0.extract 1 a0.size)).bind fun bt115 => (if 1 ≤ (wrap64 ((a0.size : Int) - (bt115.1.size : Int))) then (if (wrap64 ((a0.size : Int) - (bt115.1.size : Int))) ≤ (a0.size : Int) then (some (a0.extract 1 ((wrap64 ((a0.size : Int) - (bt115.1.size : Int))) : Int).toNat, bt115.1)) else (none)) else (none))) else (none)) = some (r1, r2) := h
  clear h
  by_cases c2 : 1 ≤ (a0.size : Int)
  · rw [if_pos c2] at H
    have c2b0 := eq_true c2
    have c2b1 : decide (1 ≤ (a0.size : Int)) = true := decide_eq_true c2
    clear c2
    replace H := Option.bind_eq_some_iff.mp H
    obtain ⟨⟨t115, t116⟩, A30, H⟩ := H
    replace H : (if 1 ≤ (wrap64 ((a0.size : Int) - (t115.size : Int))) then (if (wrap64 ((a0.size : Int) - (t115.size : Int))) ≤ (a0.size : Int) then (some (a0.extract 1 ((wrap64 ((a0.size : Int) - (t115.size : Int))) : Int).toNat, t115)) else (none)) else (none)) = some (r1, r2) := H
    have A3 := Aside0.mk A30
    clear A30
    by_cases c4 : 1 ≤ (wrap64 ((a0.size : Int) - (t115.size : Int)))
    · rw [if_pos c4] at H
      have c4b0 := eq_true c4
      have c4b1 : decide (1 ≤ (wrap64 ((a0.size : Int) - (t115.size : Int)))) = true := decide_eq_true c4
      clear c4
      by_cases c5 : (wrap64 ((a0.size : Int) - (t115.size : Int))) ≤ (a0.size : Int)
      · rw [if_pos c5] at H
        have c5b0 := eq_true c5
        have c5b1 : decide ((wrap64 ((a0.size : Int) - (t115.size : Int))) ≤ (a0.size : Int)) = true := decide_eq_true c5
        clear c5
        simp only [Option.some.injEq, Prod.mk.injEq] at H
        obtain ⟨rfl, rfl⟩ := H
        go_enter Try.func53, Try.ntmps53
        go_wp2_with (first | ((with_reducible refine gate_callee (f := 84) rfl ?_); refine goesL_ (some 9) rfl rfl Try.func84 (by kernel_rfl) rfl #[.string (a0.extract 1 a0.size)] rfl (by (try simp only [List.map_toArray, List.map_cons, List.map_nil]); first | done | rfl | (simp only [List.length_drop, List.length_take]; rfl)) ?_; (with_reducible refine (impl_endBinary.calls k (a0.extract 1 a0.size) t115 t116 _ A3.out).mono ?_); rintro e w' ⟨rfl, ⟨nd, rfl⟩⟩; refine ⟨_, rfl, ?_⟩))
        go_ret2
        exact ⟨by first | rfl | (simp; done) | (simp [*]; done), by repeat (first | exact Drawn0.refl _ | apply Drawn0.step)⟩
      · rw [if_neg c5] at H
        exact absurd H (by simp)
    · rw [if_neg c4] at H
      exact absurd H (by simp)
  · rw [if_neg c2] at H
    exact absurd H (by simp)

/-! ### impl_nodesOf: function 56 -/
def impl_nodesOf.f (a0 : ByteArray) : Option (Int) := some (wrap64 ((a0.size : Int) / 2))
set_option maxHeartbeats 8000000 in
set_option maxRecDepth 100000 in
theorem impl_nodesOf.calls (a0 : ByteArray) (r : Int) (w : World) (h : impl_nodesOf.f a0 = some r) :
    Calls Try.prog 56 #[.string a0] w fun e w' => e = .returned (.int .i64 r) ∧ Drawn0 w w' := by
  have H : (some (wrap64 ((a0.size : Int) / 2))) = some r := h
  clear h
  obtain rfl := Option.some.inj H
  go_enter Try.func56, Try.ntmps56
  go_wp2
  go_ret
  exact ⟨by first | rfl | (simp; done) | (simp [*]; done), by repeat (first | exact Drawn0.refl _ | apply Drawn0.step)⟩

/-! ### impl_brackets: function 60 -/
def impl_brackets.f : Nat → ByteArray → Int → Option (ByteArray)
  | 0, _, _ => none
  | k + 1, a0, a1 => if a0.toList = ([48] : List UInt8) then (some (Utf8.encode (wrap32 (wrap64 (97 + a1))))) else ((impl_sides.f k a0).bind fun bt117 => ((impl_brackets.f k bt117.1 a1).bind fun t119 => (if 1 + t119.size ≤ 9223372036854775807 then ((impl_nodesOf.f bt117.1).bind fun t120 => ((impl_brackets.f k bt117.2 (wrap64 ((wrap64 (a1 + t120)) + 1))).bind fun t121 => (if ((⟨#[40]⟩ : ByteArray) ++ t119).size + t121.size ≤ 9223372036854775807 then (if (((⟨#[40]⟩ : ByteArray) ++ t119) ++ t121).size + 1 ≤ 9223372036854775807 then (some ((((⟨#[40]⟩ : ByteArray) ++ t119) ++ t121) ++ (⟨#[41]⟩ : ByteArray))) else (none)) else (none)))) else (none))))
theorem impl_brackets.mono_l : ∀ k, (∀ y0 y1, LeO (impl_brackets.f k y0 y1) (impl_brackets.f (k + 1) y0 y1))
  | 0 => fun _ _ r h => by simp [impl_brackets.f] at h
  | k + 1 => by
    have ih0 := impl_brackets.mono_l k
    · intro y0 y1
      unfold impl_brackets.f
      repeat' first
      | (with_reducible exact ih0 _ _)
      | (with_reducible exact impl_sides.mono _ _)
      | (with_reducible exact LeO.refl _)
      | (with_reducible exact LeO.none _)
      | (with_reducible refine LeO.ite ?_ ?_)
      | (with_reducible refine LeO.bind ?_ (fun _ => ?_))
      | exact ih0 _ _
      | exact impl_sides.mono _ _
      | exact LeO.none _
      | refine LeO.ite ?_ ?_
      | refine LeO.bind ?_ (fun _ => ?_)
theorem impl_brackets.mono : ∀ a0 a1 k, LeO (impl_brackets.f k a0 a1) (impl_brackets.f (k + 1) a0 a1) := by
  intro a0 a1 k
  have ih0 := impl_brackets.mono_l k
  exact ih0 a0 a1
set_option maxHeartbeats 8000000 in
set_option maxRecDepth 100000 in
theorem impl_brackets.calls (k : Nat) : ∀ (a0 : ByteArray) (a1 : Int) (r : ByteArray) (w : World) (h : impl_brackets.f k a0 a1 = some r),
    Calls Try.prog 60 #[.string a0, .int .i64 a1] w fun e w' => e = .returned (.string r) ∧ Drawn0 w w' := by
  induction k using Nat.strongRecOn with
  | _ k ih =>
  intro a0 a1 r w h
  cases k with
  | zero => exact absurd h (by simp [impl_brackets.f])
  | succ k =>
  simp only [impl_brackets.f] at h
  have H : (if a0.toList = ([48] : List UInt8) then (some (Utf8.encode (wrap32 (wrap64 (97 + a1))))) else ((impl_sides.f k a0).bind fun bt117 => ((impl_brackets.f k bt117.1 a1).bind fun t119 => (if 1 + t119.size ≤ 9223372036854775807 then ((impl_nodesOf.f bt117.1).bind fun t120 => ((impl_brackets.f k bt117.2 (wrap64 ((wrap64 (a1 + t120)) + 1))).bind fun t121 => (if ((⟨#[40]⟩ : ByteArray) ++ t119).size + t121.size ≤ 9223372036854775807 then (if (((⟨#[40]⟩ : ByteArray) ++ t119) ++ t121).size + 1 ≤ 9223372036854775807 then (some ((((⟨#[40]⟩ : ByteArray) ++ t119) ++ t121) ++ (⟨#[41]⟩ : ByteArray))) else (none)) else (none)))) else (none))))) = some r := h
  clear h
  by_cases c3 : a0.toList = ([48] : List UInt8)
  · rw [if_pos c3] at H
    have c3b0 : (a0.toList == ([48] : List UInt8)) = true := beq_iff_eq.mpr c3
    have c3b1 : (a0.toList != ([48] : List UInt8)) = false := bne_eq_false_iff_eq.mpr c3
    clear c3
    obtain rfl := Option.some.inj H
    go_enter Try.func60, Try.ntmps60
    go_wp2
    go_ret
    exact ⟨by first | rfl | (simp; done) | (simp [*]; done), by repeat (first | exact Drawn0.refl _ | apply Drawn0.step)⟩
  · rw [if_neg c3] at H
    have c3b0 : (a0.toList == ([48] : List UInt8)) = false := beq_eq_false_iff_ne.mpr c3
    have c3b1 : (a0.toList != ([48] : List UInt8)) = true := bne_iff_ne.mpr c3
    replace H := Option.bind_eq_some_iff.mp H
    obtain ⟨⟨t117, t118⟩, A40, H⟩ := H
    replace H : ((impl_brackets.f k t117 a1).bind fun t119 => (if 1 + t119.size ≤ 9223372036854775807 then ((impl_nodesOf.f t117).bind fun t120 => ((impl_brackets.f k t118 (wrap64 ((wrap64 (a1 + t120)) + 1))).bind fun t121 => (if ((⟨#[40]⟩ : ByteArray) ++ t119).size + t121.size ≤ 9223372036854775807 then (if (((⟨#[40]⟩ : ByteArray) ++ t119) ++ t121).size + 1 ≤ 9223372036854775807 then (some ((((⟨#[40]⟩ : ByteArray) ++ t119) ++ t121) ++ (⟨#[41]⟩ : ByteArray))) else (none)) else (none)))) else (none))) = some r := H
    have A4 := Aside0.mk A40
    clear A40
    replace H := Option.bind_eq_some_iff.mp H
    obtain ⟨t119, A50, H⟩ := H
    replace H : (if 1 + t119.size ≤ 9223372036854775807 then ((impl_nodesOf.f t117).bind fun t120 => ((impl_brackets.f k t118 (wrap64 ((wrap64 (a1 + t120)) + 1))).bind fun t121 => (if ((⟨#[40]⟩ : ByteArray) ++ t119).size + t121.size ≤ 9223372036854775807 then (if (((⟨#[40]⟩ : ByteArray) ++ t119) ++ t121).size + 1 ≤ 9223372036854775807 then (some ((((⟨#[40]⟩ : ByteArray) ++ t119) ++ t121) ++ (⟨#[41]⟩ : ByteArray))) else (none)) else (none)))) else (none)) = some r := H
    have A5 := Aside0.mk A50
    clear A50
    by_cases c6 : 1 + t119.size ≤ 9223372036854775807
    · rw [if_pos c6] at H
      have c6b0 := eq_true c6
      have c6b1 : decide (1 + t119.size ≤ 9223372036854775807) = true := decide_eq_true c6
      try have c6b2 : (9223372036854775807 < 1 + t119.size) = False := eq_false (Nat.not_lt.2 c6)
      replace H := Option.bind_eq_some_iff.mp H
      obtain ⟨t120, A70, H⟩ := H
      replace H : ((impl_brackets.f k t118 (wrap64 ((wrap64 (a1 + t120)) + 1))).bind fun t121 => (if ((⟨#[40]⟩ : ByteArray) ++ t119).size + t121.size ≤ 9223372036854775807 then (if (((⟨#[40]⟩ : ByteArray) ++ t119) ++ t121).size + 1 ≤ 9223372036854775807 then (some ((((⟨#[40]⟩ : ByteArray) ++ t119) ++ t121) ++ (⟨#[41]⟩ : ByteArray))) else (none)) else (none))) = some r := H
      have A7 := Aside0.mk A70
      clear A70
      replace H := Option.bind_eq_some_iff.mp H
      obtain ⟨t121, A80, H⟩ := H
      replace H : (if ((⟨#[40]⟩ : ByteArray) ++ t119).size + t121.size ≤ 9223372036854775807 then (if (((⟨#[40]⟩ : ByteArray) ++ t119) ++ t121).size + 1 ≤ 9223372036854775807 then (some ((((⟨#[40]⟩ : ByteArray) ++ t119) ++ t121) ++ (⟨#[41]⟩ : ByteArray))) else (none)) else (none)) = some r := H
      have A8 := Aside0.mk A80
      clear A80
      by_cases c9 : ((⟨#[40]⟩ : ByteArray) ++ t119).size + t121.size ≤ 9223372036854775807
      · rw [if_pos c9] at H
        have c9b0 := eq_true c9
        have c9b1 : decide (((⟨#[40]⟩ : ByteArray) ++ t119).size + t121.size ≤ 9223372036854775807) = true := decide_eq_true c9
        try have c9b2 : (9223372036854775807 < ((⟨#[40]⟩ : ByteArray) ++ t119).size + t121.size) = False := eq_false (Nat.not_lt.2 c9)
        have c9b2x : (9223372036854775807 < 1 + t119.size + t121.size) = False := eq_false (by have h_ := c9; simp only [ByteArray.size_append, show (⟨#[40]⟩ : ByteArray).size = 1 from rfl] at h_; omega)
        by_cases c10 : (((⟨#[40]⟩ : ByteArray) ++ t119) ++ t121).size + 1 ≤ 9223372036854775807
        · rw [if_pos c10] at H
          have c10b0 := eq_true c10
          have c10b1 : decide ((((⟨#[40]⟩ : ByteArray) ++ t119) ++ t121).size + 1 ≤ 9223372036854775807) = true := decide_eq_true c10
          try have c10b2 : (9223372036854775807 < (((⟨#[40]⟩ : ByteArray) ++ t119) ++ t121).size + 1) = False := eq_false (Nat.not_lt.2 c10)
          have c10b2x : (9223372036854775807 < 1 + t119.size + t121.size + 1) = False := eq_false (by have h_ := c10; simp only [ByteArray.size_append, show (⟨#[40]⟩ : ByteArray).size = 1 from rfl] at h_; omega)
          obtain rfl := Option.some.inj H
          go_enter Try.func60, Try.ntmps60
          go_wp2_with (first | ((with_reducible refine gate_callee (f := 53) rfl ?_); refine goesL_ (some 15) rfl rfl Try.func53 (by kernel_rfl) rfl #[.string a0] rfl (by (try simp only [List.map_toArray, List.map_cons, List.map_nil]); first | done | rfl | (simp only [List.length_drop, List.length_take]; rfl)) ?_; (with_reducible refine (impl_sides.calls k a0 t117 t118 _ A4.out).mono ?_); rintro e w' ⟨rfl, ⟨nd, rfl⟩⟩; refine ⟨_, rfl, ?_⟩) | ((with_reducible refine gate_callee (f := 60) rfl ?_); refine goesL_ (some 20) rfl rfl Try.func60 (by kernel_rfl) rfl #[.string t117, .int .i64 a1] rfl (by (try simp only [List.map_toArray, List.map_cons, List.map_nil]); first | done | rfl | (simp only [List.length_drop, List.length_take]; rfl)) ?_; (with_reducible refine (ih k (by omega) t117 a1 t119 _ A5.out).mono ?_); rintro e w' ⟨rfl, ⟨nd, rfl⟩⟩; refine ⟨_, rfl, ?_⟩) | ((with_reducible refine gate_callee (f := 56) rfl ?_); refine goesL_ (some 25) rfl rfl Try.func56 (by kernel_rfl) rfl #[.string t117] rfl (by (try simp only [List.map_toArray, List.map_cons, List.map_nil]); first | done | rfl | (simp only [List.length_drop, List.length_take]; rfl)) ?_; (with_reducible refine (impl_nodesOf.calls t117 t120 _ A7.out).mono ?_); rintro e w' ⟨rfl, ⟨nd, rfl⟩⟩; refine ⟨_, rfl, ?_⟩) | ((with_reducible refine gate_callee (f := 60) rfl ?_); refine goesL_ (some 28) rfl rfl Try.func60 (by kernel_rfl) rfl #[.string t118, .int .i64 (wrap64 ((wrap64 (a1 + t120)) + 1))] rfl (by (try simp only [List.map_toArray, List.map_cons, List.map_nil]); first | done | rfl | (simp only [List.length_drop, List.length_take]; rfl)) ?_; (with_reducible refine (ih k (by omega) t118 (wrap64 ((wrap64 (a1 + t120)) + 1)) t121 _ A8.out).mono ?_); rintro e w' ⟨rfl, ⟨nd, rfl⟩⟩; refine ⟨_, rfl, ?_⟩))
          go_ret
          exact ⟨by first | rfl | (simp; done) | (simp [*]; done), by repeat (first | exact Drawn0.refl _ | apply Drawn0.step)⟩
        · rw [if_neg c10] at H
          exact absurd H (by simp)
      · rw [if_neg c9] at H
        exact absurd H (by simp)
    · rw [if_neg c6] at H
      exact absurd H (by simp)

/-! ### impl_BracketsOf: function 22 -/
def impl_BracketsOf.f (k : Nat) (a0 : ByteArray) : Option (ByteArray × Int) := (impl_IsBinary.f k a0).bind fun t122 => (if t122 = true then ((impl_brackets.f k a0 0).bind fun t123 => (some (t123, 0))) else (some ((⟨#[]⟩ : ByteArray), 1)))
theorem impl_BracketsOf.mono : ∀ a0 k, LeO (impl_BracketsOf.f k a0) (impl_BracketsOf.f (k + 1) a0) := by
  intro a0 k
  unfold impl_BracketsOf.f
  repeat' first
      | (with_reducible exact impl_IsBinary.mono _ _)
      | (with_reducible exact impl_brackets.mono _ _ _)
      | (with_reducible exact LeO.refl _)
      | (with_reducible exact LeO.none _)
      | (with_reducible refine LeO.ite ?_ ?_)
      | (with_reducible refine LeO.bind ?_ (fun _ => ?_))
      | exact impl_IsBinary.mono _ _
      | exact impl_brackets.mono _ _ _
      | exact LeO.none _
      | refine LeO.ite ?_ ?_
      | refine LeO.bind ?_ (fun _ => ?_)
set_option maxHeartbeats 8000000 in
set_option maxRecDepth 100000 in
theorem impl_BracketsOf.calls (k : Nat) (a0 : ByteArray) (r1 : ByteArray) (r2 : Int) (w : World) (h : impl_BracketsOf.f k a0 = some (r1, r2)) :
    Calls Try.prog 22 #[.string a0] w fun e w' => e = .returned (.tuple #[.string r1, .int .i64 r2]) ∧ Drawn0 w w' := by
  have H : ((impl_IsBinary.f k a0).bind fun t122 => (if t122 = true then ((impl_brackets.f k a0 0).bind fun t123 => (some (t123, 0))) else (some ((⟨#[]⟩ : ByteArray), 1)))) = some (r1, r2) := h
  clear h
  replace H := Option.bind_eq_some_iff.mp H
  obtain ⟨t122, A20, H⟩ := H
  replace H : (if t122 = true then ((impl_brackets.f k a0 0).bind fun t123 => (some (t123, 0))) else (some ((⟨#[]⟩ : ByteArray), 1))) = some (r1, r2) := H
  have A2 := Aside0.mk A20
  clear A20
  by_cases c3 : t122 = true
  · subst c3
    have H1 : ((impl_brackets.f k a0 0).bind fun t123 => (some (t123, 0))) = some (r1, r2) := by rw [if_pos rfl] at H; exact H
    clear H
    have H := H1
    clear H1
    replace H := Option.bind_eq_some_iff.mp H
    obtain ⟨t123, A40, H⟩ := H
    replace H : (some (t123, 0)) = some (r1, r2) := H
    have A4 := Aside0.mk A40
    clear A40
    simp only [Option.some.injEq, Prod.mk.injEq] at H
    obtain ⟨rfl, rfl⟩ := H
    go_enter Try.func22, Try.ntmps22
    go_wp2_with (first | ((with_reducible refine gate_callee (f := 52) rfl ?_); refine goesL_ (some 5) rfl rfl Try.func52 (by kernel_rfl) rfl #[.string a0] rfl (by (try simp only [List.map_toArray, List.map_cons, List.map_nil]); first | done | rfl | (simp only [List.length_drop, List.length_take]; rfl)) ?_; (with_reducible refine (impl_IsBinary.calls k a0 true _ A2.out).mono ?_); rintro e w' ⟨rfl, ⟨nd, rfl⟩⟩; refine ⟨_, rfl, ?_⟩) | ((with_reducible refine gate_callee (f := 60) rfl ?_); refine goesL_ (some 8) rfl rfl Try.func60 (by kernel_rfl) rfl #[.string a0, .int .i64 0] rfl (by (try simp only [List.map_toArray, List.map_cons, List.map_nil]); first | done | rfl | (simp only [List.length_drop, List.length_take]; rfl)) ?_; (with_reducible refine (impl_brackets.calls k a0 0 t123 _ A4.out).mono ?_); rintro e w' ⟨rfl, ⟨nd, rfl⟩⟩; refine ⟨_, rfl, ?_⟩))
    go_ret2
    exact ⟨by first | rfl | (simp; done) | (simp [*]; done), by repeat (first | exact Drawn0.refl _ | apply Drawn0.step)⟩
  · replace c3 := Bool.eq_false_iff.mpr c3
    subst c3
    have H1 : (some ((⟨#[]⟩ : ByteArray), 1)) = some (r1, r2) := by rw [if_neg (show ¬ (false = true) by decide)] at H; exact H
    clear H
    have H := H1
    clear H1
    simp only [Option.some.injEq, Prod.mk.injEq] at H
    obtain ⟨rfl, rfl⟩ := H
    go_enter Try.func22, Try.ntmps22
    go_wp2_with (first | ((with_reducible refine gate_callee (f := 52) rfl ?_); refine goesL_ (some 5) rfl rfl Try.func52 (by kernel_rfl) rfl #[.string a0] rfl (by (try simp only [List.map_toArray, List.map_cons, List.map_nil]); first | done | rfl | (simp only [List.length_drop, List.length_take]; rfl)) ?_; (with_reducible refine (impl_IsBinary.calls k a0 false _ A2.out).mono ?_); rintro e w' ⟨rfl, ⟨nd, rfl⟩⟩; refine ⟨_, rfl, ?_⟩))
    go_ret2
    exact ⟨by first | rfl | (simp; done) | (simp [*]; done), by repeat (first | exact Drawn0.refl _ | apply Drawn0.step)⟩

/-! ### laws_FnExactBracketsOf: function 6 -/
def laws_FnExactBracketsOf.f (k : Nat) (a0 : ByteArray) : Option (Bool) := if (a0.size : Int) > 1048576 then (some true) else ((spec_BracketsOf.f k a0).bind fun bt124 => ((impl_BracketsOf.f k a0).bind fun bt126 => (if bt126.1.toList = bt124.1.toList then (if bt126.2 = bt124.2 then (some true) else (some false)) else (some false))))
theorem laws_FnExactBracketsOf.mono : ∀ a0 k, LeO (laws_FnExactBracketsOf.f k a0) (laws_FnExactBracketsOf.f (k + 1) a0) := by
  intro a0 k
  unfold laws_FnExactBracketsOf.f
  repeat' first
      | (with_reducible exact impl_BracketsOf.mono _ _)
      | (with_reducible exact spec_BracketsOf.mono _ _)
      | (with_reducible exact LeO.refl _)
      | (with_reducible exact LeO.none _)
      | (with_reducible refine LeO.ite ?_ ?_)
      | (with_reducible refine LeO.bind ?_ (fun _ => ?_))
      | exact impl_BracketsOf.mono _ _
      | exact spec_BracketsOf.mono _ _
      | exact LeO.none _
      | refine LeO.ite ?_ ?_
      | refine LeO.bind ?_ (fun _ => ?_)
set_option maxHeartbeats 8000000 in
set_option maxRecDepth 100000 in
theorem laws_FnExactBracketsOf.calls (k : Nat) (a0 : ByteArray) (r : Bool) (w : World) (h : laws_FnExactBracketsOf.f k a0 = some r) :
    Calls Try.prog 6 #[.string a0] w fun e w' => e = .returned (.bool r) ∧ Below w.heap.size w w' := by
  have HB := Aside0.mk (Below.refl w.heap.size w)
  have H : (if (a0.size : Int) > 1048576 then (some true) else ((spec_BracketsOf.f k a0).bind fun bt124 => ((impl_BracketsOf.f k a0).bind fun bt126 => (if bt126.1.toList = bt124.1.toList then (if bt126.2 = bt124.2 then (some true) else (some false)) else (some false))))) = some r := h
  clear h
  by_cases c2 : (a0.size : Int) > 1048576
  · rw [if_pos c2] at H
    have c2b0 : decide (1048576 < (a0.size : Int)) = true := decide_eq_true c2
    have c2b1 : decide (1048576 < a0.size) = true := decide_eq_true (by omega)
    clear c2
    obtain rfl := Option.some.inj H
    go_enter Try.func6, Try.ntmps6
    go_wp2
    go_ret
    exact ⟨by first | rfl | (simp [errW_none, errW_some] <;> rfl) | (simp [*, errW_none, errW_some] <;> rfl), by repeat (first | (with_reducible first | exact HB.out | apply below_alloc | apply pw_below_drewN | apply below_drew1) | exact HB.out)⟩
  · rw [if_neg c2] at H
    have c2b0 : decide (1048576 < (a0.size : Int)) = false := decide_eq_false c2
    have c2b1 : decide (1048576 < a0.size) = false := decide_eq_false (by omega)
    clear c2
    replace H := Option.bind_eq_some_iff.mp H
    obtain ⟨⟨t124, t125⟩, A30, H⟩ := H
    replace H : ((impl_BracketsOf.f k a0).bind fun bt126 => (if bt126.1.toList = t124.toList then (if bt126.2 = t125 then (some true) else (some false)) else (some false))) = some r := H
    have A3 := Aside0.mk A30
    clear A30
    replace H := Option.bind_eq_some_iff.mp H
    obtain ⟨⟨t126, t127⟩, A40, H⟩ := H
    replace H : (if t126.toList = t124.toList then (if t127 = t125 then (some true) else (some false)) else (some false)) = some r := H
    have A4 := Aside0.mk A40
    clear A40
    by_cases c5 : t126.toList = t124.toList
    · rw [if_pos c5] at H
      have c5b0 : (t126.toList == t124.toList) = true := beq_iff_eq.mpr c5
      have c5b1 : (t126.toList != t124.toList) = false := bne_eq_false_iff_eq.mpr c5
      clear c5
      by_cases c6 : t127 = t125
      · rw [if_pos c6] at H
        have c6b0 : (t127 == t125) = true := beq_iff_eq.mpr c6
        have c6b1 : (t127 != t125) = false := bne_eq_false_iff_eq.mpr c6
        clear c6
        obtain rfl := Option.some.inj H
        go_enter Try.func6, Try.ntmps6
        go_wp2_with (first | ((with_reducible refine gate_callee (f := 21) rfl ?_); refine goesL_ (some 12) rfl rfl Try.func21 (by kernel_rfl) rfl #[.string a0] rfl (by (try simp only [List.map_toArray, List.map_cons, List.map_nil]); first | done | rfl | (simp only [List.length_drop, List.length_take]; rfl)) ?_; (with_reducible refine (spec_BracketsOf.calls k a0 t124 t125 _ A3.out).mono ?_); rintro e w7 ⟨rfl, hb⟩; refine ⟨_, rfl, ?_⟩; have n0_ := Aside0.mk (below_step (by repeat (first | (with_reducible first | exact HB.out | apply below_alloc | apply pw_below_drewN | apply below_drew1) | exact HB.out)) hb); clear HB; have HB := n0_; clear n0_; (try clear hb); (try clear hb2); (try clear hk); (try clear hi)) | ((with_reducible refine gate_callee (f := 22) rfl ?_); refine goesL_ (some 17) rfl rfl Try.func22 (by kernel_rfl) rfl #[.string a0] rfl (by (try simp only [List.map_toArray, List.map_cons, List.map_nil]); first | done | rfl | (simp only [List.length_drop, List.length_take]; rfl)) ?_; (with_reducible refine (impl_BracketsOf.calls k a0 t126 t127 _ A4.out).mono ?_); rintro e w' ⟨rfl, ⟨nd, rfl⟩⟩; refine ⟨_, rfl, ?_⟩))
        go_ret
        exact ⟨by first | rfl | (simp [errW_none, errW_some] <;> rfl) | (simp [*, errW_none, errW_some] <;> rfl), by repeat (first | (with_reducible first | exact HB.out | apply below_alloc | apply pw_below_drewN | apply below_drew1) | exact HB.out)⟩
      · rw [if_neg c6] at H
        have c6b0 : (t127 == t125) = false := beq_eq_false_iff_ne.mpr c6
        have c6b1 : (t127 != t125) = true := bne_iff_ne.mpr c6
        obtain rfl := Option.some.inj H
        go_enter Try.func6, Try.ntmps6
        go_wp2_with (first | ((with_reducible refine gate_callee (f := 21) rfl ?_); refine goesL_ (some 12) rfl rfl Try.func21 (by kernel_rfl) rfl #[.string a0] rfl (by (try simp only [List.map_toArray, List.map_cons, List.map_nil]); first | done | rfl | (simp only [List.length_drop, List.length_take]; rfl)) ?_; (with_reducible refine (spec_BracketsOf.calls k a0 t124 t125 _ A3.out).mono ?_); rintro e w8 ⟨rfl, hb⟩; refine ⟨_, rfl, ?_⟩; have n0_ := Aside0.mk (below_step (by repeat (first | (with_reducible first | exact HB.out | apply below_alloc | apply pw_below_drewN | apply below_drew1) | exact HB.out)) hb); clear HB; have HB := n0_; clear n0_; (try clear hb); (try clear hb2); (try clear hk); (try clear hi)) | ((with_reducible refine gate_callee (f := 22) rfl ?_); refine goesL_ (some 17) rfl rfl Try.func22 (by kernel_rfl) rfl #[.string a0] rfl (by (try simp only [List.map_toArray, List.map_cons, List.map_nil]); first | done | rfl | (simp only [List.length_drop, List.length_take]; rfl)) ?_; (with_reducible refine (impl_BracketsOf.calls k a0 t126 t127 _ A4.out).mono ?_); rintro e w' ⟨rfl, ⟨nd, rfl⟩⟩; refine ⟨_, rfl, ?_⟩))
        go_ret
        exact ⟨by first | rfl | (simp [errW_none, errW_some] <;> rfl) | (simp [*, errW_none, errW_some] <;> rfl), by repeat (first | (with_reducible first | exact HB.out | apply below_alloc | apply pw_below_drewN | apply below_drew1) | exact HB.out)⟩
    · rw [if_neg c5] at H
      have c5b0 : (t126.toList == t124.toList) = false := beq_eq_false_iff_ne.mpr c5
      have c5b1 : (t126.toList != t124.toList) = true := bne_iff_ne.mpr c5
      obtain rfl := Option.some.inj H
      go_enter Try.func6, Try.ntmps6
      go_wp2_with (first | ((with_reducible refine gate_callee (f := 21) rfl ?_); refine goesL_ (some 12) rfl rfl Try.func21 (by kernel_rfl) rfl #[.string a0] rfl (by (try simp only [List.map_toArray, List.map_cons, List.map_nil]); first | done | rfl | (simp only [List.length_drop, List.length_take]; rfl)) ?_; (with_reducible refine (spec_BracketsOf.calls k a0 t124 t125 _ A3.out).mono ?_); rintro e w9 ⟨rfl, hb⟩; refine ⟨_, rfl, ?_⟩; have n0_ := Aside0.mk (below_step (by repeat (first | (with_reducible first | exact HB.out | apply below_alloc | apply pw_below_drewN | apply below_drew1) | exact HB.out)) hb); clear HB; have HB := n0_; clear n0_; (try clear hb); (try clear hb2); (try clear hk); (try clear hi)) | ((with_reducible refine gate_callee (f := 22) rfl ?_); refine goesL_ (some 17) rfl rfl Try.func22 (by kernel_rfl) rfl #[.string a0] rfl (by (try simp only [List.map_toArray, List.map_cons, List.map_nil]); first | done | rfl | (simp only [List.length_drop, List.length_take]; rfl)) ?_; (with_reducible refine (impl_BracketsOf.calls k a0 t126 t127 _ A4.out).mono ?_); rintro e w' ⟨rfl, ⟨nd, rfl⟩⟩; refine ⟨_, rfl, ?_⟩))
      go_ret
      exact ⟨by first | rfl | (simp [errW_none, errW_some] <;> rfl) | (simp [*, errW_none, errW_some] <;> rfl), by repeat (first | (with_reducible first | exact HB.out | apply below_alloc | apply pw_below_drewN | apply below_drew1) | exact HB.out)⟩

/-- THE ONE PURE STATEMENT of laws_FnExactBracketsOf: yours. -/
def laws_FnExactBracketsOf.Pure : Prop := ∀ (a0 : ByteArray), a0.size ≤ 140737488351232 → ∃ k, laws_FnExactBracketsOf.f k a0 = some true
theorem laws_FnExactBracketsOf.walk (P : laws_FnExactBracketsOf.Pure) (a0 : ByteArray) (w : World) (w0 : a0.size ≤ 140737488351232) :
    Calls Try.prog 6 #[.string a0] w fun e w' => e = .returned (.bool true) ∧ Below w.heap.size w w' := by
  obtain ⟨k, h⟩ := P a0 w0
  refine (laws_FnExactBracketsOf.calls k a0 true w h).mono ?_
  rintro e w' ⟨rfl, hd⟩
  exact ⟨rfl, hd⟩

end Go.Proofs.Ytjpmichlhagbcaa.QFnExactBracketsOf
