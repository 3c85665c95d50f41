/- Functions of the program as plain Lean functions, each with a proof that the machine's call answers what it answers. Conditions: none. -/
import Derived.Test.YtjecelgbfmpnaaaQFnExactReplaceAtx0
import Derived.Test.YtjecelgbfmpnaaaQFnExactReplaceAtx1
import Derived.Test.YtjecelgbfmpnaaaQFnExactReplaceAtx4
import Derived.Test.YtjecelgbfmpnaaaQFnExactReplaceAtx5
namespace Go.Proofs.Ytjecelgbfmpnaaa.QFnExactReplaceAt
open Go.RowKit Go.Proofs.YtjecelgbfmpnaaaW.PrintWords Go.Proofs.YtjecelgbfmpnaaaW.PrintLast Go.Proofs.YtjecelgbfmpnaaaW.PrintMore
attribute [local go_sem] max2_int min2_int max_two min_two max_three min_three max_four min_four   -- for this text's walks alone
set_option linter.unusedVariables false
set_option linter.unusedSimpArgs false

theorem A_ {p : Prop} (h : p) : Aside0 p := ⟨h⟩
/-! ### laws_FnExactReplaceAt: function 6 -/
def laws_FnExactReplaceAt.f (k : Nat) (l0_0 : List Int) (a1 : Int) (l2_0 : List Int) : Option (Bool) := (laws_szTree.f l0_0 1048576).bind fun t227 => (if t227 < 0 then (some true) else ((laws_szTree.f l2_0 t227).bind fun t228 => (if t228 < 0 then (some true) else ((laws_toTree.f k l0_0).bind fun t229 => ((laws_toTree.f k l2_0).bind fun t232 => ((spec_ReplaceAt.f k t229 a1 t232).bind fun bt235 => ((laws_toTree.f k l0_0).bind fun t240 => ((laws_toTree.f k l2_0).bind fun t244 => ((impl_ReplaceAt.f k t240 a1 t244).bind fun bt248 => ((laws_eqTree.f k bt248.1 bt235.1).bind fun t253 => (if t253 = true then (if bt248.2 = bt235.2 then ((laws_toTree.f k l0_0).bind fun t254 => ((laws_eqTree.f k t240 t254).bind fun t257 => (if t257 = true then ((laws_toTree.f k l2_0).bind fun t258 => ((laws_eqTree.f k t244 t258).bind fun t261 => (if t261 = true then ((laws_markTree.f k t240 1).bind fun bt262 => ((laws_markTree.f k t244 bt262.1).bind fun bt264 => (if bt264.1 < 0 then (none) else ((laws_eqTree.f k bt248.1 bt235.1).bind fun t266 => (if t266 = true then ((laws_markTree.f k bt248.1 1).bind fun bt267 => ((laws_heldTree.f k bt267.2 1).bind fun t269 => (if t269 < 0 then (none) else (if t269 = bt267.1 then ((laws_toTree.f k l0_0).bind fun t270 => ((laws_toTree.f k l2_0).bind fun t273 => ((impl_ReplaceAt.f k t270 a1 t273).bind fun bt276 => ((laws_eqTree.f k bt276.1 bt235.1).bind fun t281 => (if t281 = true then (if bt276.2 = bt235.2 then ((laws_heldTree.f k bt267.2 1).bind fun t282 => (if t282 < 0 then (none) else (if t282 = bt267.1 then (some true) else (none)))) else (none)) else (none)))))) else (none))))) else (none)))))) else (none)))) else (none)))) else (none)) else (none))))))))))))
theorem laws_FnExactReplaceAt.mono : ∀ a0 a1 a2 k, LeO (laws_FnExactReplaceAt.f k a0 a1 a2) (laws_FnExactReplaceAt.f (k + 1) a0 a1 a2) := by
  intro a0 a1 a2 k
  unfold laws_FnExactReplaceAt.f
  repeat' first
      | (with_reducible exact impl_ReplaceAt.mono _ _ _ _)
      | (with_reducible exact laws_eqTree.mono _ _ _)
      | (with_reducible exact laws_heldTree.mono _ _ _)
      | (with_reducible exact laws_markTree.mono _ _ _)
      | (with_reducible exact laws_toTree.mono _ _)
      | (with_reducible exact spec_ReplaceAt.mono _ _ _ _)
      | (with_reducible exact LeO.refl _)
      | (with_reducible exact LeO.none _)
      | (with_reducible refine LeO.ite ?_ ?_)
      | (with_reducible refine LeO.bind ?_ (fun _ => ?_))
      | exact impl_ReplaceAt.mono _ _ _ _
      | exact laws_eqTree.mono _ _ _
      | exact laws_heldTree.mono _ _ _
      | exact laws_markTree.mono _ _ _
      | exact laws_toTree.mono _ _
      | exact spec_ReplaceAt.mono _ _ _ _
      | exact LeO.none _
      | refine LeO.ite ?_ ?_
      | refine LeO.bind ?_ (fun _ => ?_)
def laws_FnExactReplaceAt.T8 : Bool × List (List Nat × List Nat) := (true, [([], []), ([0], [0]), ([], []), ([], []), ([3, 1], [3]), ([1, 2, 4, 4], [1, 2, 4]), ([5], [5]), ([6], [6]), ([6], [6]), ([], []), ([9, 7, 5, 0, 1, 2, 3, 4, 5, 6, 7, 9], [7, 9]), ([8, 10, 0, 1, 2, 3, 4, 5, 6, 7, 8, 9, 10], [8])])
def laws_FnExactReplaceAt.B8 : List Nat := [0, 1, 0, 0, 11, 31, 63, 127, 127, 0, 767, 2047]
theorem laws_FnExactReplaceAt.tab8 : rtab .any (opsOf Try.f6 8) = laws_FnExactReplaceAt.T8 := by kernel_rfl
theorem laws_FnExactReplaceAt.bits8 : waitsOk laws_FnExactReplaceAt.T8.2 laws_FnExactReplaceAt.B8 = true := by kernel_rfl
def laws_FnExactReplaceAt.T31 : Bool × List (List Nat × List Nat) := (true, [([], []), ([0], [0]), ([], []), ([], []), ([3, 1], [3]), ([1, 2, 4, 4], [1, 2, 4]), ([5], [5]), ([6], [6]), ([6], [6]), ([], []), ([9, 7, 5, 0, 1, 2, 3, 4, 5, 6, 7, 9], [7, 9]), ([8, 10, 0, 1, 2, 3, 4, 5, 6, 7, 8, 9, 10], [8])])
def laws_FnExactReplaceAt.B31 : List Nat := [0, 1, 0, 0, 11, 31, 63, 127, 127, 0, 767, 2047]
theorem laws_FnExactReplaceAt.tab31 : rtab .any (opsOf Try.f6 31) = laws_FnExactReplaceAt.T31 := by kernel_rfl
theorem laws_FnExactReplaceAt.bits31 : waitsOk laws_FnExactReplaceAt.T31.2 laws_FnExactReplaceAt.B31 = true := by kernel_rfl
theorem Z0 {p : Prop} (h : p := by repeat (first | (with_reducible first | exact HB.out | apply below_alloc | apply pw_below_drewN | apply below_drew1 | refine below_set ?_ GE225.out | refine below_set ?_ GE226.out | refine below_set ?_ GE239.out | refine below_set ?_ GE243.out | refine below_set ?_ GE247.out | refine below_set ?_ GE252.out | refine below_set ?_ GE280.out) | exact HB.out)) : p := h
theorem Z1 {p : Prop} (h : p := by repeat (first | (with_reducible first | exact HB.out | apply below_alloc | apply pw_below_drewN | apply below_drew1 | refine below_set ?_ GE225.out | refine below_set ?_ GE226.out | refine below_set ?_ GE239.out | refine below_set ?_ GE243.out | refine below_set ?_ GE247.out | refine below_set ?_ GE252.out) | exact HB.out)) : p := h
theorem Z2 {p : Prop} (h : p := by (with_reducible repeat (first | apply Kd.R_alloc | apply Kd.R_drewN | apply Kd.R_drew)); exact Kd.R_mono HO272.out (fun _ hk => ⟨hk.1.1.1.1.1.1.1.1.1.2, ⟨hk.1.1.1.1.1.1.1.1.2, ⟨hk.1.1.1.1.1.1.1.2, ⟨hk.1.1.1.1.1.1.2, ⟨hk.1.1.1.1.1.2, ⟨hk.1.1.1.1.2, ⟨hk.1.1.1.2, ⟨hk.1.1.2, ⟨hk.1.2, hk.2⟩⟩⟩⟩⟩⟩⟩⟩⟩)) : p := h
theorem Z3 {p : Prop} (h : p := by (with_reducible repeat (first | apply Kd.R_alloc | apply Kd.R_drewN | apply Kd.R_drew)); exact Kd.R_mono HO275.out (fun _ hk => ⟨hk.1.1.1.1.1.1.1.1.1.2, ⟨hk.1.1.1.1.1.1.1.1.2, ⟨hk.1.1.1.1.1.1.1.2, ⟨hk.1.1.1.1.1.1.2, ⟨hk.1.1.1.1.1.2, ⟨hk.1.1.1.1.2, ⟨hk.1.1.1.2, ⟨hk.1.1.2, ⟨hk.1.2, hk.2⟩⟩⟩⟩⟩⟩⟩⟩⟩)) : p := h
theorem Z4 {p : Prop} (h : p := by (with_reducible repeat (first | apply Kd.R_alloc | apply Kd.R_drewN | apply Kd.R_drew)); exact Kd.R_mono HO278.out (fun _ hk => ⟨hk.1.1.1.1.1.1.1.1.1.2, ⟨hk.1.1.1.1.1.1.1.1.2, ⟨hk.1.1.1.1.1.1.1.2, ⟨hk.1.1.1.1.1.1.2, ⟨hk.1.1.1.1.1.2, ⟨hk.1.1.1.1.2, ⟨hk.1.1.1.2, ⟨hk.1.1.2, ⟨hk.1.2, hk.2⟩⟩⟩⟩⟩⟩⟩⟩⟩)) : p := h
theorem Z5 {p : Prop} (h : p := by (with_reducible repeat (first | apply Kd.R_alloc | apply Kd.R_drewN | apply Kd.R_drew)); exact Kd.R_mono HO231.out (fun _ hk => ⟨hk.1.1.1.1, ⟨hk.1.1.1.2.1, ⟨hk.1.1.1.2.2.1, ⟨hk.1.1.1.2.2.2.1, ⟨hk.1.1.1.2.2.2.2.1, ⟨hk.1.1.1.2.2.2.2.2.1, ⟨hk.1.1.1.2.2.2.2.2.2, ⟨hk.1.1.2, ⟨hk.1.2, hk.2⟩⟩⟩⟩⟩⟩⟩⟩⟩)) : p := h
theorem Z6 {p : Prop} (h : p := by (with_reducible repeat (first | apply Kd.R_alloc | apply Kd.R_drewN | apply Kd.R_drew)); exact Kd.R_mono HO234.out (fun _ hk => ⟨hk.1.1.1.1, ⟨hk.1.1.1.2.1, ⟨hk.1.1.1.2.2.1, ⟨hk.1.1.1.2.2.2.1, ⟨hk.1.1.1.2.2.2.2.1, ⟨hk.1.1.1.2.2.2.2.2.1, ⟨hk.1.1.1.2.2.2.2.2.2, ⟨hk.1.1.2, ⟨hk.1.2, hk.2⟩⟩⟩⟩⟩⟩⟩⟩⟩)) : p := h
theorem Z7 {p : Prop} (h : p := by (with_reducible repeat (first | apply Kd.R_alloc | apply Kd.R_drewN | apply Kd.R_drew)); exact Kd.R_mono HO237.out (fun _ hk => ⟨hk.1.1.1.1, ⟨hk.1.1.1.2.1, ⟨hk.1.1.1.2.2.1, ⟨hk.1.1.1.2.2.2.1, ⟨hk.1.1.1.2.2.2.2.1, ⟨hk.1.1.1.2.2.2.2.2.1, ⟨hk.1.1.1.2.2.2.2.2.2, ⟨hk.1.1.2, ⟨hk.1.2, hk.2⟩⟩⟩⟩⟩⟩⟩⟩⟩)) : p := h
theorem Z8 {p : Prop} (h : p := by (with_reducible repeat (first | apply Kd.R_alloc | apply Kd.R_drewN | apply Kd.R_drew)); exact Kd.R_mono HO242.out (fun _ hk => ⟨hk.1.1.1.1, ⟨hk.1.1.1.2.1, ⟨hk.1.1.1.2.2.1, ⟨hk.1.1.1.2.2.2.1, ⟨hk.1.1.1.2.2.2.2.1, ⟨hk.1.1.1.2.2.2.2.2.1, ⟨hk.1.1.1.2.2.2.2.2.2, ⟨hk.1.1.2, ⟨hk.1.2, hk.2⟩⟩⟩⟩⟩⟩⟩⟩⟩)) : p := h
theorem Z9 {p : Prop} (h : p := by (with_reducible repeat (first | apply Kd.R_alloc | apply Kd.R_drewN | apply Kd.R_drew)); exact Kd.R_mono HO246.out (fun _ hk => ⟨hk.1.1.1.1, ⟨hk.1.1.1.2.1, ⟨hk.1.1.1.2.2.1, ⟨hk.1.1.1.2.2.2.1, ⟨hk.1.1.1.2.2.2.2.1, ⟨hk.1.1.1.2.2.2.2.2.1, ⟨hk.1.1.1.2.2.2.2.2.2, ⟨hk.1.1.2, ⟨hk.1.2, hk.2⟩⟩⟩⟩⟩⟩⟩⟩⟩)) : p := h
theorem Z10 {p : Prop} (h : p := by (with_reducible repeat (first | apply Kd.R_alloc | apply Kd.R_drewN | apply Kd.R_drew)); exact Kd.R_mono HO250.out (fun _ hk => ⟨hk.1.1.1.1, ⟨hk.1.1.1.2.1, ⟨hk.1.1.1.2.2.1, ⟨hk.1.1.1.2.2.2.1, ⟨hk.1.1.1.2.2.2.2.1, ⟨hk.1.1.1.2.2.2.2.2.1, ⟨hk.1.1.1.2.2.2.2.2.2, ⟨hk.1.1.2, ⟨hk.1.2, hk.2⟩⟩⟩⟩⟩⟩⟩⟩⟩)) : p := h
theorem Z11 {p : Prop} (h : p := by (with_reducible repeat (first | apply Kd.R_alloc | apply Kd.R_drewN | apply Kd.R_drew)); exact Kd.R_mono HO256.out (fun _ hk => ⟨hk.1.1.1.1, ⟨hk.1.1.1.2.1, ⟨hk.1.1.1.2.2.1, ⟨hk.1.1.1.2.2.2.1, ⟨hk.1.1.1.2.2.2.2.1, ⟨hk.1.1.1.2.2.2.2.2.1, ⟨hk.1.1.1.2.2.2.2.2.2, ⟨hk.1.1.2, ⟨hk.1.2, hk.2⟩⟩⟩⟩⟩⟩⟩⟩⟩)) : p := h
theorem Z12 {p : Prop} (h : p := by (with_reducible repeat (first | apply Kd.R_alloc | apply Kd.R_drewN | apply Kd.R_drew)); exact Kd.R_mono HO260.out (fun _ hk => ⟨hk.1.1.1.1, ⟨hk.1.1.1.2.1, ⟨hk.1.1.1.2.2.1, ⟨hk.1.1.1.2.2.2.1, ⟨hk.1.1.1.2.2.2.2.1, ⟨hk.1.1.1.2.2.2.2.2.1, ⟨hk.1.1.1.2.2.2.2.2.2, ⟨hk.1.1.2, ⟨hk.1.2, hk.2⟩⟩⟩⟩⟩⟩⟩⟩⟩)) : p := h
theorem Z13 {p : Prop} (h : p := by repeat (first | (with_reducible first | exact HB.out | apply below_alloc | apply pw_below_drewN | apply below_drew1 | refine below_set ?_ GE225.out | refine below_set ?_ GE226.out | refine below_set ?_ GE239.out | refine below_set ?_ GE243.out | refine below_set ?_ GE247.out) | exact HB.out)) : p := h
theorem Z14 {p : Prop} (h : p := by repeat (first | (with_reducible first | exact HB.out | apply below_alloc | apply pw_below_drewN | apply below_drew1 | refine below_set ?_ GE225.out | refine below_set ?_ GE226.out | refine below_set ?_ GE239.out | refine below_set ?_ GE243.out) | exact HB.out)) : p := h
theorem Z15 {p : Prop} (h : p := by (with_reducible repeat (first | apply Kd.R_alloc | apply Kd.R_drewN | apply Kd.R_drew)); exact (Kd.R_mono (Kd.R_far (p := ⟨gb280, 0, none⟩) (Kd.R_types HO237.out BK280.out (by decide)) (fun _ hk => hk.2) (.slice Ao130 t276.length co130)) (fun _ h_ => h_.1))) : p := h
theorem Z16 {p : Prop} (h : p := by (with_reducible repeat (first | apply Kd.R_alloc | apply Kd.R_drewN | apply Kd.R_drew)); exact (Kd.R_mono (Kd.R_far (p := ⟨gb280, 0, none⟩) (Kd.R_types HO278.out BK280.out (by decide)) (fun _ hk => hk.2) (.slice Ao130 t276.length co130)) (fun _ h_ => h_.1))) : p := h
theorem Z17 {p : Prop} (h : p := by (with_reducible repeat (first | apply Kd.R_alloc | apply Kd.R_drewN | apply Kd.R_drew)); exact (Kd.R_mono (Kd.R_far (p := ⟨gb239, 0, none⟩) (Kd.R_types HO231.out BK239.out (by decide)) (fun _ hk => hk.2) (.slice Ao68 t235.length co68)) (fun _ h_ => h_.1))) : p := h
theorem Z18 {p : Prop} (h : p := by (with_reducible repeat (first | apply Kd.R_alloc | apply Kd.R_drewN | apply Kd.R_drew)); exact (Kd.R_mono (Kd.R_far (p := ⟨gb239, 0, none⟩) (Kd.R_types HO234.out BK239.out (by decide)) (fun _ hk => hk.2) (.slice Ao68 t235.length co68)) (fun _ h_ => h_.1))) : p := h
theorem Z19 {p : Prop} (h : p := by (with_reducible repeat (first | apply Kd.R_alloc | apply Kd.R_drewN | apply Kd.R_drew)); exact (Kd.R_mono (Kd.R_far (p := ⟨gb239, 0, none⟩) (Kd.R_types HO237.out BK239.out (by decide)) (fun _ hk => hk.2) (.slice Ao68 t235.length co68)) (fun _ h_ => h_.1))) : p := h
theorem Z20 {p : Prop} (h : p := by (with_reducible repeat (first | apply Kd.R_alloc | apply Kd.R_drewN | apply Kd.R_drew)); exact (Kd.R_mono (Kd.R_far (p := ⟨gb243, 0, none⟩) (Kd.R_types HO231.out BK243.out (by decide)) (fun _ hk => hk.2) (.slice Ao74 t240.length co74)) (fun _ h_ => h_.1))) : p := h
theorem Z21 {p : Prop} (h : p := by (with_reducible repeat (first | apply Kd.R_alloc | apply Kd.R_drewN | apply Kd.R_drew)); exact (Kd.R_mono (Kd.R_far (p := ⟨gb243, 0, none⟩) (Kd.R_types HO234.out BK243.out (by decide)) (fun _ hk => hk.2) (.slice Ao74 t240.length co74)) (fun _ h_ => h_.1))) : p := h
theorem Z22 {p : Prop} (h : p := by (with_reducible repeat (first | apply Kd.R_alloc | apply Kd.R_drewN | apply Kd.R_drew)); exact (Kd.R_mono (Kd.R_far (p := ⟨gb243, 0, none⟩) (Kd.R_types HO237.out BK243.out (by decide)) (fun _ hk => hk.2) (.slice Ao74 t240.length co74)) (fun _ h_ => h_.1))) : p := h
theorem Z23 {p : Prop} (h : p := by (with_reducible repeat (first | apply Kd.R_alloc | apply Kd.R_drewN | apply Kd.R_drew)); exact (Kd.R_mono (Kd.R_far (p := ⟨gb243, 0, none⟩) (Kd.R_types HO242.out BK243.out (by decide)) (fun _ hk => hk.2) (.slice Ao74 t240.length co74)) (fun _ h_ => h_.1))) : p := h
theorem Z24 {p : Prop} (h : p := by (with_reducible repeat (first | apply Kd.R_alloc | apply Kd.R_drewN | apply Kd.R_drew)); exact (Kd.R_mono (Kd.R_far (p := ⟨gb252, 0, none⟩) (Kd.R_types HO237.out BK252.out (by decide)) (fun _ hk => hk.2) (.slice Ao94 t248.length co94)) (fun _ h_ => h_.1))) : p := h
theorem Z25 {p : Prop} (h : p := by (with_reducible repeat (first | apply Kd.R_alloc | apply Kd.R_drewN | apply Kd.R_drew)); exact (Kd.R_mono (Kd.R_far (p := ⟨gb252, 0, none⟩) (Kd.R_types HO250.out BK252.out (by decide)) (fun _ hk => hk.2) (.slice Ao94 t248.length co94)) (fun _ h_ => h_.1))) : p := h
theorem Z26 {p : Prop} (h : p := by repeat (first | (with_reducible first | exact HB.out | apply below_alloc | apply pw_below_drewN | apply below_drew1 | refine below_set ?_ GE225.out | refine below_set ?_ GE226.out | refine below_set ?_ GE239.out) | exact HB.out)) : p := h
theorem Z27 {p : Prop} (h : p := by (try simp only [List.map_toArray, List.map_cons, List.map_nil]); first | done | (rw [show t268.length = t248.length from (Kd.R_reads' HO250.out).1.symm] <;> rfl) | rfl | (simp only [List.length_drop, List.length_take]; rfl)) : p := h
theorem Z28 {p : Prop} (h : p := by repeat (first | (with_reducible first | exact HB.out | apply below_alloc | apply pw_below_drewN | apply below_drew1 | refine below_set ?_ GE225.out | refine below_set ?_ GE226.out) | exact HB.out)) : p := h
theorem Z29 {p : Prop} (h : p := by repeat (first | (with_reducible first | exact HB.out | apply below_alloc | apply pw_below_drewN | apply below_drew1 | refine below_set ?_ GE225.out) | exact HB.out)) : p := h
theorem Z30 {p : Prop} (h : p := by (with_reducible repeat (first | apply Kd.R_alloc | apply Kd.R_drewN | apply Kd.R_drew)); exact Kd.R_mono HO231.out (fun _ hk => ⟨hk.1.2, hk.2⟩)) : p := h
theorem Z31 {p : Prop} (h : p := by (with_reducible repeat (first | apply Kd.R_alloc | apply Kd.R_drewN | apply Kd.R_drew)); exact Kd.R_mono HO234.out (fun _ hk => ⟨hk.1.2, hk.2⟩)) : p := h
theorem Z32 {p : Prop} (h : p := by (with_reducible repeat (first | apply Kd.R_alloc | apply Kd.R_drewN | apply Kd.R_drew)); exact Kd.R_mono HO237.out (fun _ hk => ⟨hk.1.2, hk.2⟩)) : p := h
theorem Z33 {p : Prop} (h : p := by (try simp only [List.map_toArray, List.map_cons, List.map_nil]); first | done | rfl | (simp only [List.length_drop, List.length_take]; rfl)) : p := h
theorem Z34 {p : Prop} (h : p := by repeat (first | (with_reducible first | exact HB.out | apply below_alloc | apply pw_below_drewN | apply below_drew1) | exact HB.out)) : p := h
theorem Z35 {p : Prop} (h : p := by (with_reducible repeat (first | refine blk_drewN ?_ _ | refine blk_drew ?_ | refine blk_alloc ?_ _)); exact BK280.out) : p := h
theorem Z36 {p : Prop} (h : p := by (with_reducible repeat (first | refine blk_drewN ?_ _ | refine blk_drew ?_ | refine blk_alloc ?_ _)); exact BK252.out) : p := h
theorem Z37 {p : Prop} (h : p := by (with_reducible repeat (first | refine blk_drewN ?_ _ | refine blk_drew ?_ | refine blk_alloc ?_ _)); exact BK247.out) : p := h
theorem Z38 {p : Prop} (h : p := by (with_reducible repeat (first | refine blk_drewN ?_ _ | refine blk_drew ?_ | refine blk_alloc ?_ _)); exact BK243.out) : p := h
theorem Z39 {p : Prop} (h : p := by (with_reducible repeat (first | refine blk_drewN ?_ _ | refine blk_drew ?_ | refine blk_alloc ?_ _)); exact BK239.out) : p := h
theorem Z40 {p : Prop} (h : p := by (with_reducible repeat (first | refine blk_drewN ?_ _ | refine blk_drew ?_ | refine blk_alloc ?_ _)); exact BK226.out) : p := h
theorem Z41 {p : Prop} (h : p := by (with_reducible repeat (first | refine blk_drewN ?_ _ | refine blk_drew ?_ | refine blk_alloc ?_ _)); exact BK225.out) : p := h
theorem Z42 {p : Prop} (h : p := by (with_reducible repeat (first | apply Kd.R_alloc | apply Kd.R_drewN | apply Kd.R_drew)); exact HO278.out) : p := h
theorem Z43 {p : Prop} (h : p := by (with_reducible repeat (first | apply Kd.R_alloc | apply Kd.R_drewN | apply Kd.R_drew)); exact HO275.out) : p := h
theorem Z44 {p : Prop} (h : p := by (with_reducible repeat (first | apply Kd.R_alloc | apply Kd.R_drewN | apply Kd.R_drew)); exact HO272.out) : p := h
theorem Z45 {p : Prop} (h : p := by (with_reducible repeat (first | apply Kd.R_alloc | apply Kd.R_drewN | apply Kd.R_drew)); exact HO260.out) : p := h
theorem Z46 {p : Prop} (h : p := by (with_reducible repeat (first | apply Kd.R_alloc | apply Kd.R_drewN | apply Kd.R_drew)); exact HO256.out) : p := h
theorem Z47 {p : Prop} (h : p := by (with_reducible repeat (first | apply Kd.R_alloc | apply Kd.R_drewN | apply Kd.R_drew)); exact HO250.out) : p := h
theorem Z48 {p : Prop} (h : p := by (with_reducible repeat (first | apply Kd.R_alloc | apply Kd.R_drewN | apply Kd.R_drew)); exact HO246.out) : p := h
theorem Z49 {p : Prop} (h : p := by (with_reducible repeat (first | apply Kd.R_alloc | apply Kd.R_drewN | apply Kd.R_drew)); exact HO242.out) : p := h
theorem Z50 {p : Prop} (h : p := by (with_reducible repeat (first | apply Kd.R_alloc | apply Kd.R_drewN | apply Kd.R_drew)); exact HO237.out) : p := h
theorem Z51 {p : Prop} (h : p := by (with_reducible repeat (first | apply Kd.R_alloc | apply Kd.R_drewN | apply Kd.R_drew)); exact HO234.out) : p := h
theorem Z52 {p : Prop} (h : p := by (with_reducible repeat (first | apply Kd.R_alloc | apply Kd.R_drewN | apply Kd.R_drew)); exact HO231.out) : p := h
theorem Z53 {p : Prop} (h : p := by simp only [putAll, Act.put, List.setIfInBounds_toArray, List.set_cons_zero, List.set_cons_succ]) : p := h
set_option maxHeartbeats 8000000 in
set_option maxRecDepth 100000 in
theorem laws_FnExactReplaceAt.calls (k : Nat) (A0_0 : Option Addr) (c0_0 : Nat) (l0_0 : List Int) (a1 : Int) (A2_0 : Option Addr) (c2_0 : Nat) (l2_0 : List Int) (r : Bool) (w : World) (hr0_0 : Kd.C (Kd.int .i64) w A0_0 l0_0.length l0_0) (hc0_0 : l0_0.length ≤ c0_0) (hr2_0 : Kd.C (Kd.int .i64) w A2_0 l2_0.length l2_0) (hc2_0 : l2_0.length ≤ c2_0) (h : laws_FnExactReplaceAt.f k l0_0 a1 l2_0 = some r) :
  Calls Try.prog 6 #[.agg #[.slice A0_0 l0_0.length c0_0], .int .i64 a1, .agg #[.slice A2_0 l2_0.length c2_0]] w fun e w' => e = .returned (.bool r) ∧ Below w.heap.size w w' := by
 have hu24 := Try.underlying24
 have hu26 := Try.underlying26
 have HR0_0 := A_ hr0_0
 have HC0_0 := A_ hc0_0
 clear hr0_0 hc0_0
 have HR2_0 := A_ hr2_0
 have HC2_0 := A_ hc2_0
 clear hr2_0 hc2_0
 have HB := A_ (Below.refl w.heap.size w)
 have H : ((laws_szTree.f l0_0 1048576).bind fun t227 => (if t227 < 0 then (some true) else ((laws_szTree.f l2_0 t227).bind fun t228 => (if t228 < 0 then (some true) else ((laws_toTree.f k l0_0).bind fun t229 => ((laws_toTree.f k l2_0).bind fun t232 => ((spec_ReplaceAt.f k t229 a1 t232).bind fun bt235 => ((laws_toTree.f k l0_0).bind fun t240 => ((laws_toTree.f k l2_0).bind fun t244 => ((impl_ReplaceAt.f k t240 a1 t244).bind fun bt248 => ((laws_eqTree.f k bt248.1 bt235.1).bind fun t253 => (if t253 = true then (if bt248.2 = bt235.2 then ((laws_toTree.f k l0_0).bind fun t254 => ((laws_eqTree.f k t240 t254).bind fun t257 => (if t257 = true then ((laws_toTree.f k l2_0).bind fun t258 => ((laws_eqTree.f k t244 t258).bind fun t261 => (if t261 = true then ((laws_markTree.f k t240 1).bind fun bt262 => ((laws_markTree.f k t244 bt262.1).bind fun bt264 => (if bt264.1 < 0 then (none) else ((laws_eqTree.f k bt248.1 bt235.1).bind fun t266 => (if t266 = true then ((laws_markTree.f k bt248.1 1).bind fun bt267 => ((laws_heldTree.f k bt267.2 1).bind fun t269 => (if t269 < 0 then (none) else (if t269 = bt267.1 then ((laws_toTree.f k l0_0).bind fun t270 => ((laws_toTree.f k l2_0).bind fun t273 => ((impl_ReplaceAt.f k t270 a1 t273).bind fun bt276 => ((laws_eqTree.f k bt276.1 bt235.1).bind fun t281 => (if t281 = true then (if bt276.2 = bt235.2 then ((laws_heldTree.f k bt267.2 1).bind fun t282 => (if t282 < 0 then (none) else (if t282 = bt267.1 then (some true) else (none)))) else (none)) else (none)))))) else (none))))) else (none)))))) else (none)))) else (none)))) else (none)) else (none))))))))))))) = some r := h
 clear h
 replace H := Option.bind_eq_some_iff.mp H
 obtain ⟨t227, A40, H⟩ := H
 replace H : (if t227 < 0 then (some true) else ((laws_szTree.f l2_0 t227).bind fun t228 => (if t228 < 0 then (some true) else ((laws_toTree.f k l0_0).bind fun t229 => ((laws_toTree.f k l2_0).bind fun t232 => ((spec_ReplaceAt.f k t229 a1 t232).bind fun bt235 => ((laws_toTree.f k l0_0).bind fun t240 => ((laws_toTree.f k l2_0).bind fun t244 => ((impl_ReplaceAt.f k t240 a1 t244).bind fun bt248 => ((laws_eqTree.f k bt248.1 bt235.1).bind fun t253 => (if t253 = true then (if bt248.2 = bt235.2 then ((laws_toTree.f k l0_0).bind fun t254 => ((laws_eqTree.f k t240 t254).bind fun t257 => (if t257 = true then ((laws_toTree.f k l2_0).bind fun t258 => ((laws_eqTree.f k t244 t258).bind fun t261 => (if t261 = true then ((laws_markTree.f k t240 1).bind fun bt262 => ((laws_markTree.f k t244 bt262.1).bind fun bt264 => (if bt264.1 < 0 then (none) else ((laws_eqTree.f k bt248.1 bt235.1).bind fun t266 => (if t266 = true then ((laws_markTree.f k bt248.1 1).bind fun bt267 => ((laws_heldTree.f k bt267.2 1).bind fun t269 => (if t269 < 0 then (none) else (if t269 = bt267.1 then ((laws_toTree.f k l0_0).bind fun t270 => ((laws_toTree.f k l2_0).bind fun t273 => ((impl_ReplaceAt.f k t270 a1 t273).bind fun bt276 => ((laws_eqTree.f k bt276.1 bt235.1).bind fun t281 => (if t281 = true then (if bt276.2 = bt235.2 then ((laws_heldTree.f k bt267.2 1).bind fun t282 => (if t282 < 0 then (none) else (if t282 = bt267.1 then (some true) else (none)))) else (none)) else (none)))))) else (none))))) else (none)))))) else (none)))) else (none)))) else (none)) else (none)))))))))))) = some r := H
 have A4 := A_ A40
 clear A40
 by_cases c5 : t227 < 0
 ·rw [if_pos c5] at H
  have c5b0 : decide (t227 < 0) = true := decide_eq_true c5
  clear c5
  obtain rfl := Option.some.inj H
  go_enter Try.func6, Try.ntmps6
  go_wp2_with (first | ((with_reducible refine gate_dst (N := 3) rfl ?_); refine box_event ?hg (N := 3) ?hd (cs := #[.slice A0_0 l0_0.length c0_0]) (t := 24) ?hr ?_; (case hd => rfl); (case hg => rfl); (case hr => first | (go_simp; done) | (go_simp; rfl)); intro gb225 hg w6 hbox hb; have n0_ := A_ (below_step Z34 hb); have n1_ := A_ (hbox); have n2_ := A_ ((by rw [hg]; exact (below_size Z34) : w.heap.size ≤ gb225)); have n3_ := A_ ((by rw [hg]; exact (below_size Z34) : w.heap.size ≤ gb225)); clear HB; have HB := n0_; have BK225 := n1_; have GW225 := n2_; have GE225 := n3_; clear n0_ n1_ n2_ n3_; clear hb hbox hg) | ((with_reducible refine gate_dst (N := 5) rfl ?_); refine box_event ?hg (N := 5) ?hd (cs := #[.slice A2_0 l2_0.length c2_0]) (t := 24) ?hr ?_; (case hd => rfl); (case hg => rfl); (case hr => first | (go_simp; done) | (go_simp; rfl)); intro gb226 hg w7 hbox hb; have n0_ := A_ (blk_below (g := gb225) (o := .cells #[.slice A0_0 l0_0.length c0_0] 24 (0, 0)) Z41 hb); have n1_ := A_ (below_step Z29 hb); have n2_ := A_ (hbox); have n3_ := A_ ((by rw [hg]; exact (below_size Z29) : w.heap.size ≤ gb226)); have n4_ := A_ ((by rw [hg]; exact (below_size Z29) : w.heap.size ≤ gb226)); have n5_ := A_ ((by rw [hg]; exact Nat.ne_of_lt (blk_lt (g := gb225) (o := .cells #[.slice A0_0 l0_0.length c0_0] 24 (0, 0)) Z41) : gb225 ≠ gb226)); have n6_ := A_ ((by rw [hg]; exact Nat.ne_of_gt (blk_lt (g := gb225) (o := .cells #[.slice A0_0 l0_0.length c0_0] 24 (0, 0)) Z41) : gb226 ≠ gb225)); clear BK225; clear HB; have BK225 := n0_; have HB := n1_; have BK226 := n2_; have GW226 := n3_; have GE226 := n4_; have NB225_226 := n5_; have NB226_225 := n6_; clear n0_ n1_ n2_ n3_ n4_ n5_ n6_; clear hb hbox hg; have hnb8 := NB225_226.out; have hnc8 := NB226_225.out; have hcz9_0 : w7.cell? ⟨gb225, 0, none⟩ = some (.slice A0_0 l0_0.length c0_0) := (blk_cell BK225.out 0).trans rfl; have hfz9_0 := blk_frozen BK225.out 0) | ((with_reducible refine gate_callee (f := 12) rfl ?_); refine goesL_ (some 21) rfl rfl Try.func12 (by kernel_rfl) rfl #[.agg #[.slice A0_0 l0_0.length c0_0], .int .i64 1048576] rfl Z33 ?_; (with_reducible refine (laws_szTree.calls _ _ l0_0 1048576 t227 _ ?side1 ?side2 A4.out).mono ?_); (case side1 => repeat (first | exact (Kd.C_below HR0_0.out HB.out) | (with_reducible refine Kd.C_alloc ?_ _) | (with_reducible refine Kd.C_drewN ?_ _) | (with_reducible refine Kd.C_drew ?_))); (case side2 => exact HC0_0.out); rintro e w10 ⟨rfl, hb⟩; refine ⟨_, rfl, ?_⟩; have n0_ := A_ (blk_below (g := gb225) (o := .cells #[.slice A0_0 l0_0.length c0_0] 24 (0, 0)) Z41 hb); have n1_ := A_ (blk_below (g := gb226) (o := .cells #[.slice A2_0 l2_0.length c2_0] 24 (0, 0)) Z40 hb); have n2_ := A_ (below_step Z28 hb); clear BK225; clear BK226; clear HB; have BK225 := n0_; have BK226 := n1_; have HB := n2_; clear n0_ n1_ n2_; (try clear hb); (try clear hb2); (try clear hk); (try clear hi)))
  go_ret
  exact ⟨by first | rfl | (simp [errW_none, errW_some] <;> rfl) | (simp [*, errW_none, errW_some] <;> rfl), by repeat (first | (with_reducible first | exact HB.out | apply below_alloc | apply pw_below_drewN | apply below_drew1 | refine below_set ?_ GE225.out | refine below_set ?_ GE226.out) | exact HB.out)⟩
 ·rw [if_neg c5] at H
  have c5b0 : decide (t227 < 0) = false := decide_eq_false c5
  clear c5
  replace H := Option.bind_eq_some_iff.mp H
  obtain ⟨t228, A110, H⟩ := H
  replace H : (if t228 < 0 then (some true) else ((laws_toTree.f k l0_0).bind fun t229 => ((laws_toTree.f k l2_0).bind fun t232 => ((spec_ReplaceAt.f k t229 a1 t232).bind fun bt235 => ((laws_toTree.f k l0_0).bind fun t240 => ((laws_toTree.f k l2_0).bind fun t244 => ((impl_ReplaceAt.f k t240 a1 t244).bind fun bt248 => ((laws_eqTree.f k bt248.1 bt235.1).bind fun t253 => (if t253 = true then (if bt248.2 = bt235.2 then ((laws_toTree.f k l0_0).bind fun t254 => ((laws_eqTree.f k t240 t254).bind fun t257 => (if t257 = true then ((laws_toTree.f k l2_0).bind fun t258 => ((laws_eqTree.f k t244 t258).bind fun t261 => (if t261 = true then ((laws_markTree.f k t240 1).bind fun bt262 => ((laws_markTree.f k t244 bt262.1).bind fun bt264 => (if bt264.1 < 0 then (none) else ((laws_eqTree.f k bt248.1 bt235.1).bind fun t266 => (if t266 = true then ((laws_markTree.f k bt248.1 1).bind fun bt267 => ((laws_heldTree.f k bt267.2 1).bind fun t269 => (if t269 < 0 then (none) else (if t269 = bt267.1 then ((laws_toTree.f k l0_0).bind fun t270 => ((laws_toTree.f k l2_0).bind fun t273 => ((impl_ReplaceAt.f k t270 a1 t273).bind fun bt276 => ((laws_eqTree.f k bt276.1 bt235.1).bind fun t281 => (if t281 = true then (if bt276.2 = bt235.2 then ((laws_heldTree.f k bt267.2 1).bind fun t282 => (if t282 < 0 then (none) else (if t282 = bt267.1 then (some true) else (none)))) else (none)) else (none)))))) else (none))))) else (none)))))) else (none)))) else (none)))) else (none)) else (none)))))))))) = some r := H
  have A11 := A_ A110
  clear A110
  by_cases c12 : t228 < 0
  ·rw [if_pos c12] at H
   have c12b0 : decide (t228 < 0) = true := decide_eq_true c12
   clear c12
   obtain rfl := Option.some.inj H
   go_enter Try.func6, Try.ntmps6
   go_wp2_with (first | ((with_reducible refine gate_dst (N := 3) rfl ?_); refine box_event ?hg (N := 3) ?hd (cs := #[.slice A0_0 l0_0.length c0_0]) (t := 24) ?hr ?_; (case hd => rfl); (case hg => rfl); (case hr => first | (go_simp; done) | (go_simp; rfl)); intro gb225 hg w13 hbox hb; have n0_ := A_ (below_step Z34 hb); have n1_ := A_ (hbox); have n2_ := A_ ((by rw [hg]; exact (below_size Z34) : w.heap.size ≤ gb225)); have n3_ := A_ ((by rw [hg]; exact (below_size Z34) : w.heap.size ≤ gb225)); clear HB; have HB := n0_; have BK225 := n1_; have GW225 := n2_; have GE225 := n3_; clear n0_ n1_ n2_ n3_; clear hb hbox hg) | ((with_reducible refine gate_dst (N := 5) rfl ?_); refine box_event ?hg (N := 5) ?hd (cs := #[.slice A2_0 l2_0.length c2_0]) (t := 24) ?hr ?_; (case hd => rfl); (case hg => rfl); (case hr => first | (go_simp; done) | (go_simp; rfl)); intro gb226 hg w14 hbox hb; have n0_ := A_ (blk_below (g := gb225) (o := .cells #[.slice A0_0 l0_0.length c0_0] 24 (0, 0)) Z41 hb); have n1_ := A_ (below_step Z29 hb); have n2_ := A_ (hbox); have n3_ := A_ ((by rw [hg]; exact (below_size Z29) : w.heap.size ≤ gb226)); have n4_ := A_ ((by rw [hg]; exact (below_size Z29) : w.heap.size ≤ gb226)); have n5_ := A_ ((by rw [hg]; exact Nat.ne_of_lt (blk_lt (g := gb225) (o := .cells #[.slice A0_0 l0_0.length c0_0] 24 (0, 0)) Z41) : gb225 ≠ gb226)); have n6_ := A_ ((by rw [hg]; exact Nat.ne_of_gt (blk_lt (g := gb225) (o := .cells #[.slice A0_0 l0_0.length c0_0] 24 (0, 0)) Z41) : gb226 ≠ gb225)); clear BK225; clear HB; have BK225 := n0_; have HB := n1_; have BK226 := n2_; have GW226 := n3_; have GE226 := n4_; have NB225_226 := n5_; have NB226_225 := n6_; clear n0_ n1_ n2_ n3_ n4_ n5_ n6_; clear hb hbox hg; have hnb15 := NB225_226.out; have hnc15 := NB226_225.out; have hcz16_0 : w14.cell? ⟨gb225, 0, none⟩ = some (.slice A0_0 l0_0.length c0_0) := (blk_cell BK225.out 0).trans rfl; have hfz16_0 := blk_frozen BK225.out 0) | ((with_reducible refine gate_callee (f := 12) rfl ?_); refine goesL_ (some 21) rfl rfl Try.func12 (by kernel_rfl) rfl #[.agg #[.slice A0_0 l0_0.length c0_0], .int .i64 1048576] rfl Z33 ?_; (with_reducible refine (laws_szTree.calls _ _ l0_0 1048576 t227 _ ?side1 ?side2 A4.out).mono ?_); (case side1 => repeat (first | exact (Kd.C_below HR0_0.out HB.out) | (with_reducible refine Kd.C_alloc ?_ _) | (with_reducible refine Kd.C_drewN ?_ _) | (with_reducible refine Kd.C_drew ?_))); (case side2 => exact HC0_0.out); rintro e w17 ⟨rfl, hb⟩; refine ⟨_, rfl, ?_⟩; have n0_ := A_ (blk_below (g := gb225) (o := .cells #[.slice A0_0 l0_0.length c0_0] 24 (0, 0)) Z41 hb); have n1_ := A_ (blk_below (g := gb226) (o := .cells #[.slice A2_0 l2_0.length c2_0] 24 (0, 0)) Z40 hb); have n2_ := A_ (below_step Z28 hb); clear BK225; clear BK226; clear HB; have BK225 := n0_; have BK226 := n1_; have HB := n2_; clear n0_ n1_ n2_; (try clear hb); (try clear hb2); (try clear hk); (try clear hi); have hcz18_0 : w17.cell? ⟨gb226, 0, none⟩ = some (.slice A2_0 l2_0.length c2_0) := (blk_cell BK226.out 0).trans rfl; have hfz18_0 := blk_frozen BK226.out 0) | ((with_reducible refine gate_callee (f := 12) rfl ?_); refine goesL_ (some 26) rfl rfl Try.func12 (by kernel_rfl) rfl #[.agg #[.slice A2_0 l2_0.length c2_0], .int .i64 t227] rfl Z33 ?_; (with_reducible refine (laws_szTree.calls _ _ l2_0 t227 t228 _ ?side1 ?side2 A11.out).mono ?_); (case side1 => repeat (first | exact (Kd.C_below HR2_0.out HB.out) | (with_reducible refine Kd.C_alloc ?_ _) | (with_reducible refine Kd.C_drewN ?_ _) | (with_reducible refine Kd.C_drew ?_))); (case side2 => exact HC2_0.out); rintro e w19 ⟨rfl, hb⟩; refine ⟨_, rfl, ?_⟩; have n0_ := A_ (blk_below (g := gb225) (o := .cells #[.slice A0_0 l0_0.length c0_0] 24 (0, 0)) Z41 hb); have n1_ := A_ (blk_below (g := gb226) (o := .cells #[.slice A2_0 l2_0.length c2_0] 24 (0, 0)) Z40 hb); have n2_ := A_ (below_step Z28 hb); clear BK225; clear BK226; clear HB; have BK225 := n0_; have BK226 := n1_; have HB := n2_; clear n0_ n1_ n2_; (try clear hb); (try clear hb2); (try clear hk); (try clear hi)))
   go_ret
   exact ⟨by first | rfl | (simp [errW_none, errW_some] <;> rfl) | (simp [*, errW_none, errW_some] <;> rfl), by repeat (first | (with_reducible first | exact HB.out | apply below_alloc | apply pw_below_drewN | apply below_drew1 | refine below_set ?_ GE225.out | refine below_set ?_ GE226.out) | exact HB.out)⟩
  ·rw [if_neg c12] at H
   have c12b0 : decide (t228 < 0) = false := decide_eq_false c12
   clear c12
   replace H := Option.bind_eq_some_iff.mp H
   obtain ⟨t229, A200, H⟩ := H
   replace H : ((laws_toTree.f k l2_0).bind fun t232 => ((spec_ReplaceAt.f k t229 a1 t232).bind fun bt235 => ((laws_toTree.f k l0_0).bind fun t240 => ((laws_toTree.f k l2_0).bind fun t244 => ((impl_ReplaceAt.f k t240 a1 t244).bind fun bt248 => ((laws_eqTree.f k bt248.1 bt235.1).bind fun t253 => (if t253 = true then (if bt248.2 = bt235.2 then ((laws_toTree.f k l0_0).bind fun t254 => ((laws_eqTree.f k t240 t254).bind fun t257 => (if t257 = true then ((laws_toTree.f k l2_0).bind fun t258 => ((laws_eqTree.f k t244 t258).bind fun t261 => (if t261 = true then ((laws_markTree.f k t240 1).bind fun bt262 => ((laws_markTree.f k t244 bt262.1).bind fun bt264 => (if bt264.1 < 0 then (none) else ((laws_eqTree.f k bt248.1 bt235.1).bind fun t266 => (if t266 = true then ((laws_markTree.f k bt248.1 1).bind fun bt267 => ((laws_heldTree.f k bt267.2 1).bind fun t269 => (if t269 < 0 then (none) else (if t269 = bt267.1 then ((laws_toTree.f k l0_0).bind fun t270 => ((laws_toTree.f k l2_0).bind fun t273 => ((impl_ReplaceAt.f k t270 a1 t273).bind fun bt276 => ((laws_eqTree.f k bt276.1 bt235.1).bind fun t281 => (if t281 = true then (if bt276.2 = bt235.2 then ((laws_heldTree.f k bt267.2 1).bind fun t282 => (if t282 < 0 then (none) else (if t282 = bt267.1 then (some true) else (none)))) else (none)) else (none)))))) else (none))))) else (none)))))) else (none)))) else (none)))) else (none)) else (none)))))))) = some r := H
   have A20 := A_ A200
   clear A200
   replace H := Option.bind_eq_some_iff.mp H
   obtain ⟨t232, A210, H⟩ := H
   replace H : ((spec_ReplaceAt.f k t229 a1 t232).bind fun bt235 => ((laws_toTree.f k l0_0).bind fun t240 => ((laws_toTree.f k l2_0).bind fun t244 => ((impl_ReplaceAt.f k t240 a1 t244).bind fun bt248 => ((laws_eqTree.f k bt248.1 bt235.1).bind fun t253 => (if t253 = true then (if bt248.2 = bt235.2 then ((laws_toTree.f k l0_0).bind fun t254 => ((laws_eqTree.f k t240 t254).bind fun t257 => (if t257 = true then ((laws_toTree.f k l2_0).bind fun t258 => ((laws_eqTree.f k t244 t258).bind fun t261 => (if t261 = true then ((laws_markTree.f k t240 1).bind fun bt262 => ((laws_markTree.f k t244 bt262.1).bind fun bt264 => (if bt264.1 < 0 then (none) else ((laws_eqTree.f k bt248.1 bt235.1).bind fun t266 => (if t266 = true then ((laws_markTree.f k bt248.1 1).bind fun bt267 => ((laws_heldTree.f k bt267.2 1).bind fun t269 => (if t269 < 0 then (none) else (if t269 = bt267.1 then ((laws_toTree.f k l0_0).bind fun t270 => ((laws_toTree.f k l2_0).bind fun t273 => ((impl_ReplaceAt.f k t270 a1 t273).bind fun bt276 => ((laws_eqTree.f k bt276.1 bt235.1).bind fun t281 => (if t281 = true then (if bt276.2 = bt235.2 then ((laws_heldTree.f k bt267.2 1).bind fun t282 => (if t282 < 0 then (none) else (if t282 = bt267.1 then (some true) else (none)))) else (none)) else (none)))))) else (none))))) else (none)))))) else (none)))) else (none)))) else (none)) else (none))))))) = some r := H
   have A21 := A_ A210
   clear A210
   replace H := Option.bind_eq_some_iff.mp H
   obtain ⟨⟨t235, t238⟩, A220, H⟩ := H
   replace H : ((laws_toTree.f k l0_0).bind fun t240 => ((laws_toTree.f k l2_0).bind fun t244 => ((impl_ReplaceAt.f k t240 a1 t244).bind fun bt248 => ((laws_eqTree.f k bt248.1 t235).bind fun t253 => (if t253 = true then (if bt248.2 = t238 then ((laws_toTree.f k l0_0).bind fun t254 => ((laws_eqTree.f k t240 t254).bind fun t257 => (if t257 = true then ((laws_toTree.f k l2_0).bind fun t258 => ((laws_eqTree.f k t244 t258).bind fun t261 => (if t261 = true then ((laws_markTree.f k t240 1).bind fun bt262 => ((laws_markTree.f k t244 bt262.1).bind fun bt264 => (if bt264.1 < 0 then (none) else ((laws_eqTree.f k bt248.1 t235).bind fun t266 => (if t266 = true then ((laws_markTree.f k bt248.1 1).bind fun bt267 => ((laws_heldTree.f k bt267.2 1).bind fun t269 => (if t269 < 0 then (none) else (if t269 = bt267.1 then ((laws_toTree.f k l0_0).bind fun t270 => ((laws_toTree.f k l2_0).bind fun t273 => ((impl_ReplaceAt.f k t270 a1 t273).bind fun bt276 => ((laws_eqTree.f k bt276.1 t235).bind fun t281 => (if t281 = true then (if bt276.2 = t238 then ((laws_heldTree.f k bt267.2 1).bind fun t282 => (if t282 < 0 then (none) else (if t282 = bt267.1 then (some true) else (none)))) else (none)) else (none)))))) else (none))))) else (none)))))) else (none)))) else (none)))) else (none)) else (none)))))) = some r := H
   have A22 := A_ A220
   clear A220
   replace H := Option.bind_eq_some_iff.mp H
   obtain ⟨t240, A230, H⟩ := H
   replace H : ((laws_toTree.f k l2_0).bind fun t244 => ((impl_ReplaceAt.f k t240 a1 t244).bind fun bt248 => ((laws_eqTree.f k bt248.1 t235).bind fun t253 => (if t253 = true then (if bt248.2 = t238 then ((laws_toTree.f k l0_0).bind fun t254 => ((laws_eqTree.f k t240 t254).bind fun t257 => (if t257 = true then ((laws_toTree.f k l2_0).bind fun t258 => ((laws_eqTree.f k t244 t258).bind fun t261 => (if t261 = true then ((laws_markTree.f k t240 1).bind fun bt262 => ((laws_markTree.f k t244 bt262.1).bind fun bt264 => (if bt264.1 < 0 then (none) else ((laws_eqTree.f k bt248.1 t235).bind fun t266 => (if t266 = true then ((laws_markTree.f k bt248.1 1).bind fun bt267 => ((laws_heldTree.f k bt267.2 1).bind fun t269 => (if t269 < 0 then (none) else (if t269 = bt267.1 then ((laws_toTree.f k l0_0).bind fun t270 => ((laws_toTree.f k l2_0).bind fun t273 => ((impl_ReplaceAt.f k t270 a1 t273).bind fun bt276 => ((laws_eqTree.f k bt276.1 t235).bind fun t281 => (if t281 = true then (if bt276.2 = t238 then ((laws_heldTree.f k bt267.2 1).bind fun t282 => (if t282 < 0 then (none) else (if t282 = bt267.1 then (some true) else (none)))) else (none)) else (none)))))) else (none))))) else (none)))))) else (none)))) else (none)))) else (none)) else (none))))) = some r := H
   have A23 := A_ A230
   clear A230
   replace H := Option.bind_eq_some_iff.mp H
   obtain ⟨t244, A240, H⟩ := H
   replace H : ((impl_ReplaceAt.f k t240 a1 t244).bind fun bt248 => ((laws_eqTree.f k bt248.1 t235).bind fun t253 => (if t253 = true then (if bt248.2 = t238 then ((laws_toTree.f k l0_0).bind fun t254 => ((laws_eqTree.f k t240 t254).bind fun t257 => (if t257 = true then ((laws_toTree.f k l2_0).bind fun t258 => ((laws_eqTree.f k t244 t258).bind fun t261 => (if t261 = true then ((laws_markTree.f k t240 1).bind fun bt262 => ((laws_markTree.f k t244 bt262.1).bind fun bt264 => (if bt264.1 < 0 then (none) else ((laws_eqTree.f k bt248.1 t235).bind fun t266 => (if t266 = true then ((laws_markTree.f k bt248.1 1).bind fun bt267 => ((laws_heldTree.f k bt267.2 1).bind fun t269 => (if t269 < 0 then (none) else (if t269 = bt267.1 then ((laws_toTree.f k l0_0).bind fun t270 => ((laws_toTree.f k l2_0).bind fun t273 => ((impl_ReplaceAt.f k t270 a1 t273).bind fun bt276 => ((laws_eqTree.f k bt276.1 t235).bind fun t281 => (if t281 = true then (if bt276.2 = t238 then ((laws_heldTree.f k bt267.2 1).bind fun t282 => (if t282 < 0 then (none) else (if t282 = bt267.1 then (some true) else (none)))) else (none)) else (none)))))) else (none))))) else (none)))))) else (none)))) else (none)))) else (none)) else (none)))) = some r := H
   have A24 := A_ A240
   clear A240
   replace H := Option.bind_eq_some_iff.mp H
   obtain ⟨⟨t248, t251⟩, A250, H⟩ := H
   replace H : ((laws_eqTree.f k t248 t235).bind fun t253 => (if t253 = true then (if t251 = t238 then ((laws_toTree.f k l0_0).bind fun t254 => ((laws_eqTree.f k t240 t254).bind fun t257 => (if t257 = true then ((laws_toTree.f k l2_0).bind fun t258 => ((laws_eqTree.f k t244 t258).bind fun t261 => (if t261 = true then ((laws_markTree.f k t240 1).bind fun bt262 => ((laws_markTree.f k t244 bt262.1).bind fun bt264 => (if bt264.1 < 0 then (none) else ((laws_eqTree.f k t248 t235).bind fun t266 => (if t266 = true then ((laws_markTree.f k t248 1).bind fun bt267 => ((laws_heldTree.f k bt267.2 1).bind fun t269 => (if t269 < 0 then (none) else (if t269 = bt267.1 then ((laws_toTree.f k l0_0).bind fun t270 => ((laws_toTree.f k l2_0).bind fun t273 => ((impl_ReplaceAt.f k t270 a1 t273).bind fun bt276 => ((laws_eqTree.f k bt276.1 t235).bind fun t281 => (if t281 = true then (if bt276.2 = t238 then ((laws_heldTree.f k bt267.2 1).bind fun t282 => (if t282 < 0 then (none) else (if t282 = bt267.1 then (some true) else (none)))) else (none)) else (none)))))) else (none))))) else (none)))))) else (none)))) else (none)))) else (none)) else (none))) = some r := H
   have A25 := A_ A250
   clear A250
   replace H := Option.bind_eq_some_iff.mp H
   obtain ⟨t253, A260, H⟩ := H
   replace H : (if t253 = true then (if t251 = t238 then ((laws_toTree.f k l0_0).bind fun t254 => ((laws_eqTree.f k t240 t254).bind fun t257 => (if t257 = true then ((laws_toTree.f k l2_0).bind fun t258 => ((laws_eqTree.f k t244 t258).bind fun t261 => (if t261 = true then ((laws_markTree.f k t240 1).bind fun bt262 => ((laws_markTree.f k t244 bt262.1).bind fun bt264 => (if bt264.1 < 0 then (none) else ((laws_eqTree.f k t248 t235).bind fun t266 => (if t266 = true then ((laws_markTree.f k t248 1).bind fun bt267 => ((laws_heldTree.f k bt267.2 1).bind fun t269 => (if t269 < 0 then (none) else (if t269 = bt267.1 then ((laws_toTree.f k l0_0).bind fun t270 => ((laws_toTree.f k l2_0).bind fun t273 => ((impl_ReplaceAt.f k t270 a1 t273).bind fun bt276 => ((laws_eqTree.f k bt276.1 t235).bind fun t281 => (if t281 = true then (if bt276.2 = t238 then ((laws_heldTree.f k bt267.2 1).bind fun t282 => (if t282 < 0 then (none) else (if t282 = bt267.1 then (some true) else (none)))) else (none)) else (none)))))) else (none))))) else (none)))))) else (none)))) else (none)))) else (none)) else (none)) = some r := H
   have A26 := A_ A260
   clear A260
   by_cases c27 : t253 = true
   ·subst c27
    have H1 : (if t251 = t238 then ((laws_toTree.f k l0_0).bind fun t254 => ((laws_eqTree.f k t240 t254).bind fun t257 => (if t257 = true then ((laws_toTree.f k l2_0).bind fun t258 => ((laws_eqTree.f k t244 t258).bind fun t261 => (if t261 = true then ((laws_markTree.f k t240 1).bind fun bt262 => ((laws_markTree.f k t244 bt262.1).bind fun bt264 => (if bt264.1 < 0 then (none) else ((laws_eqTree.f k t248 t235).bind fun t266 => (if t266 = true then ((laws_markTree.f k t248 1).bind fun bt267 => ((laws_heldTree.f k bt267.2 1).bind fun t269 => (if t269 < 0 then (none) else (if t269 = bt267.1 then ((laws_toTree.f k l0_0).bind fun t270 => ((laws_toTree.f k l2_0).bind fun t273 => ((impl_ReplaceAt.f k t270 a1 t273).bind fun bt276 => ((laws_eqTree.f k bt276.1 t235).bind fun t281 => (if t281 = true then (if bt276.2 = t238 then ((laws_heldTree.f k bt267.2 1).bind fun t282 => (if t282 < 0 then (none) else (if t282 = bt267.1 then (some true) else (none)))) else (none)) else (none)))))) else (none))))) else (none)))))) else (none)))) else (none)))) else (none)) = some r := by rw [if_pos rfl] at H; exact H
    clear H
    have H := H1
    clear H1
    by_cases c28 : t251 = t238
    rotate_left
    ·rw [if_neg c28] at H
     exact absurd H (by simp)
    rw [if_pos c28] at H
    have c28b0 : (t251 == t238) = true := beq_iff_eq.mpr c28
    have c28b1 : (t251 != t238) = false := bne_eq_false_iff_eq.mpr c28
    clear c28
    replace H := Option.bind_eq_some_iff.mp H
    obtain ⟨t254, A290, H⟩ := H
    replace H : ((laws_eqTree.f k t240 t254).bind fun t257 => (if t257 = true then ((laws_toTree.f k l2_0).bind fun t258 => ((laws_eqTree.f k t244 t258).bind fun t261 => (if t261 = true then ((laws_markTree.f k t240 1).bind fun bt262 => ((laws_markTree.f k t244 bt262.1).bind fun bt264 => (if bt264.1 < 0 then (none) else ((laws_eqTree.f k t248 t235).bind fun t266 => (if t266 = true then ((laws_markTree.f k t248 1).bind fun bt267 => ((laws_heldTree.f k bt267.2 1).bind fun t269 => (if t269 < 0 then (none) else (if t269 = bt267.1 then ((laws_toTree.f k l0_0).bind fun t270 => ((laws_toTree.f k l2_0).bind fun t273 => ((impl_ReplaceAt.f k t270 a1 t273).bind fun bt276 => ((laws_eqTree.f k bt276.1 t235).bind fun t281 => (if t281 = true then (if bt276.2 = t238 then ((laws_heldTree.f k bt267.2 1).bind fun t282 => (if t282 < 0 then (none) else (if t282 = bt267.1 then (some true) else (none)))) else (none)) else (none)))))) else (none))))) else (none)))))) else (none)))) else (none))) = some r := H
    have A29 := A_ A290
    clear A290
    replace H := Option.bind_eq_some_iff.mp H
    obtain ⟨t257, A300, H⟩ := H
    replace H : (if t257 = true then ((laws_toTree.f k l2_0).bind fun t258 => ((laws_eqTree.f k t244 t258).bind fun t261 => (if t261 = true then ((laws_markTree.f k t240 1).bind fun bt262 => ((laws_markTree.f k t244 bt262.1).bind fun bt264 => (if bt264.1 < 0 then (none) else ((laws_eqTree.f k t248 t235).bind fun t266 => (if t266 = true then ((laws_markTree.f k t248 1).bind fun bt267 => ((laws_heldTree.f k bt267.2 1).bind fun t269 => (if t269 < 0 then (none) else (if t269 = bt267.1 then ((laws_toTree.f k l0_0).bind fun t270 => ((laws_toTree.f k l2_0).bind fun t273 => ((impl_ReplaceAt.f k t270 a1 t273).bind fun bt276 => ((laws_eqTree.f k bt276.1 t235).bind fun t281 => (if t281 = true then (if bt276.2 = t238 then ((laws_heldTree.f k bt267.2 1).bind fun t282 => (if t282 < 0 then (none) else (if t282 = bt267.1 then (some true) else (none)))) else (none)) else (none)))))) else (none))))) else (none)))))) else (none)))) else (none)) = some r := H
    have A30 := A_ A300
    clear A300
    by_cases c31 : t257 = true
    rotate_left
    ·replace c31 := Bool.eq_false_iff.mpr c31
     subst c31
     have H1 : (none) = some r := by rw [if_neg (show ¬ (false = true) by decide)] at H; exact H
     clear H
     have H := H1
     clear H1
     exact absurd H (by simp)
    subst c31
    have H1 : ((laws_toTree.f k l2_0).bind fun t258 => ((laws_eqTree.f k t244 t258).bind fun t261 => (if t261 = true then ((laws_markTree.f k t240 1).bind fun bt262 => ((laws_markTree.f k t244 bt262.1).bind fun bt264 => (if bt264.1 < 0 then (none) else ((laws_eqTree.f k t248 t235).bind fun t266 => (if t266 = true then ((laws_markTree.f k t248 1).bind fun bt267 => ((laws_heldTree.f k bt267.2 1).bind fun t269 => (if t269 < 0 then (none) else (if t269 = bt267.1 then ((laws_toTree.f k l0_0).bind fun t270 => ((laws_toTree.f k l2_0).bind fun t273 => ((impl_ReplaceAt.f k t270 a1 t273).bind fun bt276 => ((laws_eqTree.f k bt276.1 t235).bind fun t281 => (if t281 = true then (if bt276.2 = t238 then ((laws_heldTree.f k bt267.2 1).bind fun t282 => (if t282 < 0 then (none) else (if t282 = bt267.1 then (some true) else (none)))) else (none)) else (none)))))) else (none))))) else (none)))))) else (none)))) = some r := by rw [if_pos rfl] at H; exact H
    clear H
    have H := H1
    clear H1
    replace H := Option.bind_eq_some_iff.mp H
    obtain ⟨t258, A320, H⟩ := H
    replace H : ((laws_eqTree.f k t244 t258).bind fun t261 => (if t261 = true then ((laws_markTree.f k t240 1).bind fun bt262 => ((laws_markTree.f k t244 bt262.1).bind fun bt264 => (if bt264.1 < 0 then (none) else ((laws_eqTree.f k t248 t235).bind fun t266 => (if t266 = true then ((laws_markTree.f k t248 1).bind fun bt267 => ((laws_heldTree.f k bt267.2 1).bind fun t269 => (if t269 < 0 then (none) else (if t269 = bt267.1 then ((laws_toTree.f k l0_0).bind fun t270 => ((laws_toTree.f k l2_0).bind fun t273 => ((impl_ReplaceAt.f k t270 a1 t273).bind fun bt276 => ((laws_eqTree.f k bt276.1 t235).bind fun t281 => (if t281 = true then (if bt276.2 = t238 then ((laws_heldTree.f k bt267.2 1).bind fun t282 => (if t282 < 0 then (none) else (if t282 = bt267.1 then (some true) else (none)))) else (none)) else (none)))))) else (none))))) else (none)))))) else (none))) = some r := H
    have A32 := A_ A320
    clear A320
    replace H := Option.bind_eq_some_iff.mp H
    obtain ⟨t261, A330, H⟩ := H
    replace H : (if t261 = true then ((laws_markTree.f k t240 1).bind fun bt262 => ((laws_markTree.f k t244 bt262.1).bind fun bt264 => (if bt264.1 < 0 then (none) else ((laws_eqTree.f k t248 t235).bind fun t266 => (if t266 = true then ((laws_markTree.f k t248 1).bind fun bt267 => ((laws_heldTree.f k bt267.2 1).bind fun t269 => (if t269 < 0 then (none) else (if t269 = bt267.1 then ((laws_toTree.f k l0_0).bind fun t270 => ((laws_toTree.f k l2_0).bind fun t273 => ((impl_ReplaceAt.f k t270 a1 t273).bind fun bt276 => ((laws_eqTree.f k bt276.1 t235).bind fun t281 => (if t281 = true then (if bt276.2 = t238 then ((laws_heldTree.f k bt267.2 1).bind fun t282 => (if t282 < 0 then (none) else (if t282 = bt267.1 then (some true) else (none)))) else (none)) else (none)))))) else (none))))) else (none)))))) else (none)) = some r := H
    have A33 := A_ A330
    clear A330
    by_cases c34 : t261 = true
    rotate_left
    ·replace c34 := Bool.eq_false_iff.mpr c34
     subst c34
     have H1 : (none) = some r := by rw [if_neg (show ¬ (false = true) by decide)] at H; exact H
     clear H
     have H := H1
     clear H1
     exact absurd H (by simp)
    subst c34
    have H1 : ((laws_markTree.f k t240 1).bind fun bt262 => ((laws_markTree.f k t244 bt262.1).bind fun bt264 => (if bt264.1 < 0 then (none) else ((laws_eqTree.f k t248 t235).bind fun t266 => (if t266 = true then ((laws_markTree.f k t248 1).bind fun bt267 => ((laws_heldTree.f k bt267.2 1).bind fun t269 => (if t269 < 0 then (none) else (if t269 = bt267.1 then ((laws_toTree.f k l0_0).bind fun t270 => ((laws_toTree.f k l2_0).bind fun t273 => ((impl_ReplaceAt.f k t270 a1 t273).bind fun bt276 => ((laws_eqTree.f k bt276.1 t235).bind fun t281 => (if t281 = true then (if bt276.2 = t238 then ((laws_heldTree.f k bt267.2 1).bind fun t282 => (if t282 < 0 then (none) else (if t282 = bt267.1 then (some true) else (none)))) else (none)) else (none)))))) else (none))))) else (none)))))) = some r := by rw [if_pos rfl] at H; exact H
    clear H
    have H := H1
    clear H1
    replace H := Option.bind_eq_some_iff.mp H
    obtain ⟨⟨t262, t263⟩, A350, H⟩ := H
    replace H : ((laws_markTree.f k t244 t262).bind fun bt264 => (if bt264.1 < 0 then (none) else ((laws_eqTree.f k t248 t235).bind fun t266 => (if t266 = true then ((laws_markTree.f k t248 1).bind fun bt267 => ((laws_heldTree.f k bt267.2 1).bind fun t269 => (if t269 < 0 then (none) else (if t269 = bt267.1 then ((laws_toTree.f k l0_0).bind fun t270 => ((laws_toTree.f k l2_0).bind fun t273 => ((impl_ReplaceAt.f k t270 a1 t273).bind fun bt276 => ((laws_eqTree.f k bt276.1 t235).bind fun t281 => (if t281 = true then (if bt276.2 = t238 then ((laws_heldTree.f k bt267.2 1).bind fun t282 => (if t282 < 0 then (none) else (if t282 = bt267.1 then (some true) else (none)))) else (none)) else (none)))))) else (none))))) else (none))))) = some r := H
    have A35 := A_ A350
    clear A350
    replace H := Option.bind_eq_some_iff.mp H
    obtain ⟨⟨t264, t265⟩, A360, H⟩ := H
    replace H : (if t264 < 0 then (none) else ((laws_eqTree.f k t248 t235).bind fun t266 => (if t266 = true then ((laws_markTree.f k t248 1).bind fun bt267 => ((laws_heldTree.f k bt267.2 1).bind fun t269 => (if t269 < 0 then (none) else (if t269 = bt267.1 then ((laws_toTree.f k l0_0).bind fun t270 => ((laws_toTree.f k l2_0).bind fun t273 => ((impl_ReplaceAt.f k t270 a1 t273).bind fun bt276 => ((laws_eqTree.f k bt276.1 t235).bind fun t281 => (if t281 = true then (if bt276.2 = t238 then ((laws_heldTree.f k bt267.2 1).bind fun t282 => (if t282 < 0 then (none) else (if t282 = bt267.1 then (some true) else (none)))) else (none)) else (none)))))) else (none))))) else (none)))) = some r := H
    have A36 := A_ A360
    clear A360
    by_cases c37 : t264 < 0
    ·rw [if_pos c37] at H
     exact absurd H (by simp)
    rw [if_neg c37] at H
    have c37b0 : decide (t264 < 0) = false := decide_eq_false c37
    clear c37
    replace H := Option.bind_eq_some_iff.mp H
    obtain ⟨t266, A380, H⟩ := H
    replace H : (if t266 = true then ((laws_markTree.f k t248 1).bind fun bt267 => ((laws_heldTree.f k bt267.2 1).bind fun t269 => (if t269 < 0 then (none) else (if t269 = bt267.1 then ((laws_toTree.f k l0_0).bind fun t270 => ((laws_toTree.f k l2_0).bind fun t273 => ((impl_ReplaceAt.f k t270 a1 t273).bind fun bt276 => ((laws_eqTree.f k bt276.1 t235).bind fun t281 => (if t281 = true then (if bt276.2 = t238 then ((laws_heldTree.f k bt267.2 1).bind fun t282 => (if t282 < 0 then (none) else (if t282 = bt267.1 then (some true) else (none)))) else (none)) else (none)))))) else (none))))) else (none)) = some r := H
    have A38 := A_ A380
    clear A380
    by_cases c39 : t266 = true
    rotate_left
    ·replace c39 := Bool.eq_false_iff.mpr c39
     subst c39
     have H1 : (none) = some r := by rw [if_neg (show ¬ (false = true) by decide)] at H; exact H
     clear H
     have H := H1
     clear H1
     exact absurd H (by simp)
    subst c39
    have H1 : ((laws_markTree.f k t248 1).bind fun bt267 => ((laws_heldTree.f k bt267.2 1).bind fun t269 => (if t269 < 0 then (none) else (if t269 = bt267.1 then ((laws_toTree.f k l0_0).bind fun t270 => ((laws_toTree.f k l2_0).bind fun t273 => ((impl_ReplaceAt.f k t270 a1 t273).bind fun bt276 => ((laws_eqTree.f k bt276.1 t235).bind fun t281 => (if t281 = true then (if bt276.2 = t238 then ((laws_heldTree.f k bt267.2 1).bind fun t282 => (if t282 < 0 then (none) else (if t282 = bt267.1 then (some true) else (none)))) else (none)) else (none)))))) else (none))))) = some r := by rw [if_pos rfl] at H; exact H
    clear H
    have H := H1
    clear H1
    replace H := Option.bind_eq_some_iff.mp H
    obtain ⟨⟨t267, t268⟩, A400, H⟩ := H
    replace H : ((laws_heldTree.f k t268 1).bind fun t269 => (if t269 < 0 then (none) else (if t269 = t267 then ((laws_toTree.f k l0_0).bind fun t270 => ((laws_toTree.f k l2_0).bind fun t273 => ((impl_ReplaceAt.f k t270 a1 t273).bind fun bt276 => ((laws_eqTree.f k bt276.1 t235).bind fun t281 => (if t281 = true then (if bt276.2 = t238 then ((laws_heldTree.f k t268 1).bind fun t282 => (if t282 < 0 then (none) else (if t282 = t267 then (some true) else (none)))) else (none)) else (none)))))) else (none)))) = some r := H
    have A40 := A_ A400
    clear A400
    replace H := Option.bind_eq_some_iff.mp H
    obtain ⟨t269, A410, H⟩ := H
    replace H : (if t269 < 0 then (none) else (if t269 = t267 then ((laws_toTree.f k l0_0).bind fun t270 => ((laws_toTree.f k l2_0).bind fun t273 => ((impl_ReplaceAt.f k t270 a1 t273).bind fun bt276 => ((laws_eqTree.f k bt276.1 t235).bind fun t281 => (if t281 = true then (if bt276.2 = t238 then ((laws_heldTree.f k t268 1).bind fun t282 => (if t282 < 0 then (none) else (if t282 = t267 then (some true) else (none)))) else (none)) else (none)))))) else (none))) = some r := H
    have A41 := A_ A410
    clear A410
    by_cases c42 : t269 < 0
    ·rw [if_pos c42] at H
     exact absurd H (by simp)
    rw [if_neg c42] at H
    have c42b0 : decide (t269 < 0) = false := decide_eq_false c42
    clear c42
    by_cases c43 : t269 = t267
    rotate_left
    ·rw [if_neg c43] at H
     exact absurd H (by simp)
    rw [if_pos c43] at H
    have c43b0 : (t269 == t267) = true := beq_iff_eq.mpr c43
    have c43b1 : (t269 != t267) = false := bne_eq_false_iff_eq.mpr c43
    clear c43
    replace H := Option.bind_eq_some_iff.mp H
    obtain ⟨t270, A440, H⟩ := H
    replace H : ((laws_toTree.f k l2_0).bind fun t273 => ((impl_ReplaceAt.f k t270 a1 t273).bind fun bt276 => ((laws_eqTree.f k bt276.1 t235).bind fun t281 => (if t281 = true then (if bt276.2 = t238 then ((laws_heldTree.f k t268 1).bind fun t282 => (if t282 < 0 then (none) else (if t282 = t267 then (some true) else (none)))) else (none)) else (none))))) = some r := H
    have A44 := A_ A440
    clear A440
    replace H := Option.bind_eq_some_iff.mp H
    obtain ⟨t273, A450, H⟩ := H
    replace H : ((impl_ReplaceAt.f k t270 a1 t273).bind fun bt276 => ((laws_eqTree.f k bt276.1 t235).bind fun t281 => (if t281 = true then (if bt276.2 = t238 then ((laws_heldTree.f k t268 1).bind fun t282 => (if t282 < 0 then (none) else (if t282 = t267 then (some true) else (none)))) else (none)) else (none)))) = some r := H
    have A45 := A_ A450
    clear A450
    replace H := Option.bind_eq_some_iff.mp H
    obtain ⟨⟨t276, t279⟩, A460, H⟩ := H
    replace H : ((laws_eqTree.f k t276 t235).bind fun t281 => (if t281 = true then (if t279 = t238 then ((laws_heldTree.f k t268 1).bind fun t282 => (if t282 < 0 then (none) else (if t282 = t267 then (some true) else (none)))) else (none)) else (none))) = some r := H
    have A46 := A_ A460
    clear A460
    replace H := Option.bind_eq_some_iff.mp H
    obtain ⟨t281, A470, H⟩ := H
    replace H : (if t281 = true then (if t279 = t238 then ((laws_heldTree.f k t268 1).bind fun t282 => (if t282 < 0 then (none) else (if t282 = t267 then (some true) else (none)))) else (none)) else (none)) = some r := H
    have A47 := A_ A470
    clear A470
    by_cases c48 : t281 = true
    rotate_left
    ·replace c48 := Bool.eq_false_iff.mpr c48
     subst c48
     have H1 : (none) = some r := by rw [if_neg (show ¬ (false = true) by decide)] at H; exact H
     clear H
     have H := H1
     clear H1
     exact absurd H (by simp)
    subst c48
    have H1 : (if t279 = t238 then ((laws_heldTree.f k t268 1).bind fun t282 => (if t282 < 0 then (none) else (if t282 = t267 then (some true) else (none)))) else (none)) = some r := by rw [if_pos rfl] at H; exact H
    clear H
    have H := H1
    clear H1
    by_cases c49 : t279 = t238
    rotate_left
    ·rw [if_neg c49] at H
     exact absurd H (by simp)
    rw [if_pos c49] at H
    have c49b0 : (t279 == t238) = true := beq_iff_eq.mpr c49
    have c49b1 : (t279 != t238) = false := bne_eq_false_iff_eq.mpr c49
    clear c49
    replace H := Option.bind_eq_some_iff.mp H
    obtain ⟨t282, A500, H⟩ := H
    replace H : (if t282 < 0 then (none) else (if t282 = t267 then (some true) else (none))) = some r := H
    have A50 := A_ A500
    clear A500
    by_cases c51 : t282 < 0
    ·rw [if_pos c51] at H
     exact absurd H (by simp)
    rw [if_neg c51] at H
    have c51b0 : decide (t282 < 0) = false := decide_eq_false c51
    clear c51
    by_cases c52 : t282 = t267
    rotate_left
    ·rw [if_neg c52] at H
     exact absurd H (by simp)
    rw [if_pos c52] at H
    have c52b0 : (t282 == t267) = true := beq_iff_eq.mpr c52
    have c52b1 : (t282 != t267) = false := bne_eq_false_iff_eq.mpr c52
    clear c52
    obtain rfl := Option.some.inj H
    go_enter Try.func6, Try.ntmps6
    try go_wp2_with (first | ((with_reducible refine gate_dst (N := 3) rfl ?_); refine box_event ?hg (N := 3) ?hd (cs := #[.slice A0_0 l0_0.length c0_0]) (t := 24) ?hr ?_; (case hd => rfl); (case hg => rfl); (case hr => first | (go_simp; done) | (go_simp; rfl)); intro gb225 hg w53 hbox hb; have n0_ := A_ (below_step Z34 hb); have n1_ := A_ (hbox); have n2_ := A_ ((by rw [hg]; exact (below_size Z34) : w.heap.size ≤ gb225)); have n3_ := A_ ((by rw [hg]; exact (below_size Z34) : w.heap.size ≤ gb225)); clear HB; have HB := n0_; have BK225 := n1_; have GW225 := n2_; have GE225 := n3_; clear n0_ n1_ n2_ n3_; clear hb hbox hg) | ((with_reducible refine gate_dst (N := 5) rfl ?_); refine box_event ?hg (N := 5) ?hd (cs := #[.slice A2_0 l2_0.length c2_0]) (t := 24) ?hr ?_; (case hd => rfl); (case hg => rfl); (case hr => first | (go_simp; done) | (go_simp; rfl)); intro gb226 hg w54 hbox hb; have n0_ := A_ (blk_below (g := gb225) (o := .cells #[.slice A0_0 l0_0.length c0_0] 24 (0, 0)) Z41 hb); have n1_ := A_ (below_step Z29 hb); have n2_ := A_ (hbox); have n3_ := A_ ((by rw [hg]; exact (below_size Z29) : w.heap.size ≤ gb226)); have n4_ := A_ ((by rw [hg]; exact (below_size Z29) : w.heap.size ≤ gb226)); have n5_ := A_ ((by rw [hg]; exact Nat.ne_of_lt (blk_lt (g := gb225) (o := .cells #[.slice A0_0 l0_0.length c0_0] 24 (0, 0)) Z41) : gb225 ≠ gb226)); have n6_ := A_ ((by rw [hg]; exact Nat.ne_of_gt (blk_lt (g := gb225) (o := .cells #[.slice A0_0 l0_0.length c0_0] 24 (0, 0)) Z41) : gb226 ≠ gb225)); clear BK225; clear HB; have BK225 := n0_; have HB := n1_; have BK226 := n2_; have GW226 := n3_; have GE226 := n4_; have NB225_226 := n5_; have NB226_225 := n6_; clear n0_ n1_ n2_ n3_ n4_ n5_ n6_; clear hb hbox hg; have hnb55 := NB225_226.out; have hnc55 := NB226_225.out; have hcz56_0 : w54.cell? ⟨gb225, 0, none⟩ = some (.slice A0_0 l0_0.length c0_0) := (blk_cell BK225.out 0).trans rfl; have hfz56_0 := blk_frozen BK225.out 0) | ((with_reducible refine gate_callee (f := 12) rfl ?_); refine goesL_ (some 21) rfl rfl Try.func12 (by kernel_rfl) rfl #[.agg #[.slice A0_0 l0_0.length c0_0], .int .i64 1048576] rfl Z33 ?_; (with_reducible refine (laws_szTree.calls _ _ l0_0 1048576 t227 _ ?side1 ?side2 A4.out).mono ?_); (case side1 => repeat (first | exact (Kd.C_below HR0_0.out HB.out) | (with_reducible refine Kd.C_alloc ?_ _) | (with_reducible refine Kd.C_drewN ?_ _) | (with_reducible refine Kd.C_drew ?_))); (case side2 => exact HC0_0.out); rintro e w57 ⟨rfl, hb⟩; refine ⟨_, rfl, ?_⟩; have n0_ := A_ (blk_below (g := gb225) (o := .cells #[.slice A0_0 l0_0.length c0_0] 24 (0, 0)) Z41 hb); have n1_ := A_ (blk_below (g := gb226) (o := .cells #[.slice A2_0 l2_0.length c2_0] 24 (0, 0)) Z40 hb); have n2_ := A_ (below_step Z28 hb); clear BK225; clear BK226; clear HB; have BK225 := n0_; have BK226 := n1_; have HB := n2_; clear n0_ n1_ n2_; (try clear hb); (try clear hb2); (try clear hk); (try clear hi); have hcz58_0 : w57.cell? ⟨gb226, 0, none⟩ = some (.slice A2_0 l2_0.length c2_0) := (blk_cell BK226.out 0).trans rfl; have hfz58_0 := blk_frozen BK226.out 0) | ((with_reducible refine gate_callee (f := 12) rfl ?_); refine goesL_ (some 26) rfl rfl Try.func12 (by kernel_rfl) rfl #[.agg #[.slice A2_0 l2_0.length c2_0], .int .i64 t227] rfl Z33 ?_; (with_reducible refine (laws_szTree.calls _ _ l2_0 t227 t228 _ ?side1 ?side2 A11.out).mono ?_); (case side1 => repeat (first | exact (Kd.C_below HR2_0.out HB.out) | (with_reducible refine Kd.C_alloc ?_ _) | (with_reducible refine Kd.C_drewN ?_ _) | (with_reducible refine Kd.C_drew ?_))); (case side2 => exact HC2_0.out); rintro e w59 ⟨rfl, hb⟩; refine ⟨_, rfl, ?_⟩; have n0_ := A_ (blk_below (g := gb225) (o := .cells #[.slice A0_0 l0_0.length c0_0] 24 (0, 0)) Z41 hb); have n1_ := A_ (blk_below (g := gb226) (o := .cells #[.slice A2_0 l2_0.length c2_0] 24 (0, 0)) Z40 hb); have n2_ := A_ (below_step Z28 hb); clear BK225; clear BK226; clear HB; have BK225 := n0_; have BK226 := n1_; have HB := n2_; clear n0_ n1_ n2_; (try clear hb); (try clear hb2); (try clear hk); (try clear hi)))
    have n0_ := A_ (blk_drew BK225.out)
    have n1_ := A_ (blk_drew BK226.out)
    have n2_ := A_ (below_drew1 HB.out)
    clear BK225
    clear BK226
    clear HB
    have BK225 := n0_
    have BK226 := n1_
    have HB := n2_
    clear n0_ n1_ n2_
    refine start_ (n := 12) (S := fun w' => w'.cell? ⟨gb225, 0, none⟩ = some (.slice A0_0 l0_0.length c0_0) ∧ w'.cell? ⟨gb226, 0, none⟩ = some (.slice A2_0 l2_0.length c2_0)) (ds := []) #[false, false, false, false, false, false, false, false, false, false, false, false] (by kernel_rfl) rfl rfl ⟨(blk_cell BK225.out 0).trans rfl, (blk_cell BK226.out 0).trans rfl⟩ (fun hHeld => ?_); refine with_tabW laws_FnExactReplaceAt.tab8 laws_FnExactReplaceAt.bits8 (fun HT_ HW_ => ?_)
    generalize w59.drew = w60 at BK225 BK226 HB hHeld ⊢
    refine pure_ (i := 2) (N := some 32) (v := ?_) (a' := ?_) #[false, false, true, false, false, false, false, false, false, false, false, false] rfl rfl (any_of HT_.out (by kernel_rfl)) (fun _ _ _ h => h) (Or.inl ⟨by rfl, ?_⟩) ?_ ?_
    rotate_left
    ·intro w'
     go_simp
     with_reducible rfl
    rotate_left
    ·simp only [Act.put, List.setIfInBounds_toArray, List.set_cons_zero, List.set_cons_succ, i64_w, i32_w]
     rfl
    refine take_ (i := 0) (N := some 30) (v := ?_) (a' := ?_) #[true, false, true, false, false, false, false, false, false, false, false, false] rfl rfl (take_ofW HT_.out HW_.out (by kernel_rfl)) (fun _ _ _ h => h) (Or.inl ⟨by rfl, ?_⟩) hHeld ?_ ?_
    rotate_left
    ·rintro w' ⟨s0, s1⟩
     go_simp
     with_reducible rfl
    rotate_left
    ·simp only [Act.put, List.setIfInBounds_toArray, List.set_cons_zero, List.set_cons_succ, i64_w, i32_w]
     rfl
    refine take_ (i := 3) (N := some 33) (v := ?_) (a' := ?_) #[true, false, true, true, false, false, false, false, false, false, false, false] rfl rfl (take_ofW HT_.out HW_.out (by kernel_rfl)) (fun _ _ _ h => h) (Or.inl ⟨by rfl, ?_⟩) hHeld ?_ ?_
    rotate_left
    ·rintro w' ⟨s0, s1⟩
     go_simp
     with_reducible rfl
    rotate_left
    ·simp only [Act.put, List.setIfInBounds_toArray, List.set_cons_zero, List.set_cons_succ, i64_w, i32_w]
     rfl
    refine join_ (σ := Value × Value × Value × Nat) 2 #[true, true, true, true, true, true, true, true, true, true, false, false] (fun s_ => [(31, .agg #[s_.1]), (34, .agg #[s_.2.1]), (35, .tuple #[.agg #[s_.2.2.1], .int .i64 t238]), (8, .pointer (some ⟨s_.2.2.2, 0, none⟩)), (29, .tuple #[.agg #[s_.2.2.1], .int .i64 t238]), (36, .agg #[s_.2.2.1]), (37, .int .i64 t238)]) (fun s_ w' => (w'.cell? ⟨gb225, 0, none⟩ = some (.slice A0_0 l0_0.length c0_0) ∧ w'.cell? ⟨gb226, 0, none⟩ = some (.slice A2_0 l2_0.length c2_0)) ∧ (Kd.R (Kd.int .i64) 2 w' w.heap.size (fun k_ => some k_ ≠ (s_.2.1 : Value).ownBlock ∧ some k_ ≠ (s_.2.2.1 : Value).ownBlock) s_.1 t229) ∧ (Kd.R (Kd.int .i64) 2 w' w.heap.size (fun k_ => some k_ ≠ (s_.1 : Value).ownBlock ∧ some k_ ≠ (s_.2.2.1 : Value).ownBlock) s_.2.1 t232) ∧ (Kd.R (Kd.int .i64) 2 w' w.heap.size (fun k_ => some k_ ≠ (s_.1 : Value).ownBlock ∧ some k_ ≠ (s_.2.1 : Value).ownBlock) s_.2.2.1 t235) ∧ (w'.heap[gb225]? = some (.cells #[.slice A0_0 l0_0.length c0_0] 24 (0, 0))) ∧ (w'.heap[gb226]? = some (.cells #[.slice A2_0 l2_0.length c2_0] 24 (0, 0))) ∧ (w'.heap[s_.2.2.2]? = some (.cells #[.slice none 0 0] 26 (0, 0))) ∧ (w.heap.size ≤ s_.2.2.2) ∧ (w.heap.size ≤ s_.2.2.2) ∧ (gb225 ≠ s_.2.2.2) ∧ (s_.2.2.2 ≠ gb225) ∧ (gb226 ≠ s_.2.2.2) ∧ (s_.2.2.2 ≠ gb226) ∧ (Below w.heap.size w w')) ?_ ?_
    rotate_left
    ·intro hCont
     refine two_ (i := 1) (j := 9) (Ni := some 31) (Nj := some 8) #[true, true, true, true, false, false, false, false, false, false, false, false] #[true, false, true, true, false, false, false, false, false, true, false, false] rfl rfl rfl rfl (two_of HT_.out (by kernel_rfl)) (by decide) (by decide) (fun K hK => ?_) (fun K hK => ?_)
     ·skip
      refine goes_ Try.func14 (by kernel_rfl) rfl #[.agg #[.slice A0_0 l0_0.length c0_0]] (by rfl) rfl rfl Z33 ?_
      with_reducible refine (laws_toTree.calls k _ _ l0_0 t229 _ ?side1 ?side2 A20.out).mono ?_
      (case side1 => repeat (first | exact (Kd.C_below HR0_0.out HB.out) | (with_reducible refine Kd.C_alloc ?_ _) | (with_reducible refine Kd.C_drewN ?_ _) | (with_reducible refine Kd.C_drew ?_)))
      (case side2 => exact HC0_0.out)
      rintro e w61 ⟨v230, rfl, ho0, hb⟩
      refine ⟨_, rfl, ?_⟩
      have n0_ := A_ (Kd.R_lower ho0 (below_size Z28))
      have n1_ := A_ (blk_below (g := gb225) (o := .cells #[.slice A0_0 l0_0.length c0_0] 24 (0, 0)) Z41 hb)
      have n2_ := A_ (blk_below (g := gb226) (o := .cells #[.slice A2_0 l2_0.length c2_0] 24 (0, 0)) Z40 hb)
      have n3_ := A_ (below_step Z28 hb)
      clear BK225
      clear BK226
      clear HB
      have HO231 := n0_
      have BK225 := n1_
      have BK226 := n2_
      have HB := n3_
      clear n0_ n1_ n2_ n3_
      (try clear hb)
      (try clear hb2)
      (try clear hk)
      (try clear hi)
      (try clear ho0)
      refine hK.out _ _ ⟨(blk_cell BK225.out 0).trans rfl, (blk_cell BK226.out 0).trans rfl⟩ (fun hHeld => ?_)
      clear hK K
      refine norm_ (a' := ?_) ?_ ?_
      rotate_left
      ·show Act.put _ (some 31) _ = _
       simp only [Act.put, List.setIfInBounds_toArray, List.set_cons_zero, List.set_cons_succ, i64_w, i32_w]
       rfl
      refine two_ (i := 4) (j := 9) (Ni := some 34) (Nj := some 8) #[true, true, true, true, true, false, false, false, false, false, false, false] #[true, true, true, true, false, false, false, false, false, true, false, false] rfl rfl rfl rfl (two_of HT_.out (by kernel_rfl)) (by decide) (by decide) (fun K hK => ?_) (fun K hK => ?_)
      ·skip
       refine goes_ Try.func14 (by kernel_rfl) rfl #[.agg #[.slice A2_0 l2_0.length c2_0]] (by rfl) rfl rfl Z33 ?_
       with_reducible refine (laws_toTree.calls k _ _ l2_0 t232 _ ?side1 ?side2 A21.out).mono ?_
       (case side1 => repeat (first | exact (Kd.C_below HR2_0.out HB.out) | (with_reducible refine Kd.C_alloc ?_ _) | (with_reducible refine Kd.C_drewN ?_ _) | (with_reducible refine Kd.C_drew ?_)))
       (case side2 => exact HC2_0.out)
       rintro e w62 ⟨v233, rfl, ho0, hb⟩
       refine ⟨_, rfl, ?_⟩
       have n0_ := A_ (Kd.R_elder' Z52 (Kd.R_base ho0) hb)
       have n1_ := A_ (Kd.R_lower (Kd.R_new' ho0 (Kd.R_lt Z52)) (below_size Z28))
       have n2_ := A_ (blk_below (g := gb225) (o := .cells #[.slice A0_0 l0_0.length c0_0] 24 (0, 0)) Z41 hb)
       have n3_ := A_ (blk_below (g := gb226) (o := .cells #[.slice A2_0 l2_0.length c2_0] 24 (0, 0)) Z40 hb)
       have n4_ := A_ (below_step Z28 hb)
       clear HO231
       clear BK225
       clear BK226
       clear HB
       have HO231 := n0_
       have HO234 := n1_
       have BK225 := n2_
       have BK226 := n3_
       have HB := n4_
       clear n0_ n1_ n2_ n3_ n4_
       (try clear hb)
       (try clear hb2)
       (try clear hk)
       (try clear hi)
       (try clear ho0)
       obtain ⟨Ao63, co63, eo63⟩ := Kd.R_slice HO231.out
       (first | subst eo63 | (injection eo63 with f1_ f2_ f3_; have f4_ := f1_.symm; have f5_ := f3_.symm; clear f1_ f2_ f3_; subst f4_; subst f5_))
       obtain ⟨Ao64, co64, eo64⟩ := Kd.R_slice HO234.out
       (first | subst eo64 | (injection eo64 with f1_ f2_ f3_; have f4_ := f1_.symm; have f5_ := f3_.symm; clear f1_ f2_ f3_; subst f4_; subst f5_))
       refine hK.out _ _ ⟨(blk_cell BK225.out 0).trans rfl, (blk_cell BK226.out 0).trans rfl⟩ (fun hHeld => ?_)
       clear hK K
       refine norm_ (a' := ?_) ?_ ?_
       rotate_left
       ·show Act.put _ (some 34) _ = _
        simp only [Act.put, List.setIfInBounds_toArray, List.set_cons_zero, List.set_cons_succ, i64_w, i32_w]
        rfl
       refine two_ (i := 5) (j := 9) (Ni := some 35) (Nj := some 8) #[true, true, true, true, true, true, false, false, false, false, false, false] #[true, true, true, true, true, false, false, false, false, true, false, false] rfl rfl rfl rfl (two_of HT_.out (by kernel_rfl)) (by decide) (by decide) (fun K hK => ?_) (fun K hK => ?_)
       ·skip
        refine goes_ Try.func30 (by kernel_rfl) rfl #[.agg #[.slice Ao63 t229.length co63], .int .i64 a1, .agg #[.slice Ao64 t232.length co64]] (by rfl) rfl rfl Z33 ?_
        with_reducible refine (spec_ReplaceAt.calls k _ _ t229 a1 _ _ t232 t235 t238 _ ?side1 ?side2 ?side3 ?side4 A22.out).mono ?_
        (case side1 => repeat (first | exact (Kd.R_reads' HO231.out).2.2 | (with_reducible refine Kd.C_alloc ?_ _) | (with_reducible refine Kd.C_drewN ?_ _) | (with_reducible refine Kd.C_drew ?_)))
        (case side2 => exact (Kd.R_reads' HO231.out).2.1)
        (case side3 => repeat (first | exact (Kd.R_reads' HO234.out).2.2 | (with_reducible refine Kd.C_alloc ?_ _) | (with_reducible refine Kd.C_drewN ?_ _) | (with_reducible refine Kd.C_drew ?_)))
        (case side4 => exact (Kd.R_reads' HO234.out).2.1)
        rintro e w65 ⟨v236, rfl, ho0, hb⟩
        refine ⟨_, rfl, ?_⟩
        have n0_ := A_ (Kd.R_elder' Z52 (Kd.R_base ho0) hb)
        have n1_ := A_ (Kd.R_elder' Z51 (Kd.R_base ho0) hb)
        have n2_ := A_ (Kd.R_lower (Kd.R_new' (Kd.R_new' ho0 (Kd.R_lt Z52)) (Kd.R_lt Z51)) (below_size Z28))
        have n3_ := A_ (blk_below (g := gb225) (o := .cells #[.slice A0_0 l0_0.length c0_0] 24 (0, 0)) Z41 hb)
        have n4_ := A_ (blk_below (g := gb226) (o := .cells #[.slice A2_0 l2_0.length c2_0] 24 (0, 0)) Z40 hb)
        have n5_ := A_ (below_step Z28 hb)
        clear HO231
        clear HO234
        clear BK225
        clear BK226
        clear HB
        have HO231 := n0_
        have HO234 := n1_
        have HO237 := n2_
        have BK225 := n3_
        have BK226 := n4_
        have HB := n5_
        clear n0_ n1_ n2_ n3_ n4_ n5_
        (try clear hb)
        (try clear hb2)
        (try clear hk)
        (try clear hi)
        (try clear ho0)
        refine hK.out _ _ ⟨(blk_cell BK225.out 0).trans rfl, (blk_cell BK226.out 0).trans rfl⟩ (fun hHeld => ?_)
        clear hK K
        refine norm_ (a' := ?_) ?_ ?_
        rotate_left
        ·show Act.put _ (some 35) _ = _
         simp only [Act.put, List.setIfInBounds_toArray, List.set_cons_zero, List.set_cons_succ, i64_w, i32_w]
         rfl
        refine pure_ (i := 6) (N := some 29) (v := ?_) (a' := ?_) #[true, true, true, true, true, true, true, false, false, false, false, false] rfl rfl (any_of HT_.out (by kernel_rfl)) (fun _ _ _ h => h) (Or.inl ⟨by rfl, ?_⟩) ?_ ?_
        rotate_left
        ·intro w'
         go_simp
         with_reducible rfl
        rotate_left
        ·simp only [Act.put, List.setIfInBounds_toArray, List.set_cons_zero, List.set_cons_succ, i64_w, i32_w]
         rfl
        refine pure_ (i := 7) (N := some 36) (v := ?_) (a' := ?_) #[true, true, true, true, true, true, true, true, false, false, false, false] rfl rfl (any_of HT_.out (by kernel_rfl)) (fun _ _ _ h => h) (Or.inl ⟨by rfl, ?_⟩) ?_ ?_
        rotate_left
        ·intro w'
         go_simp
         with_reducible rfl
        rotate_left
        ·simp only [Act.put, List.setIfInBounds_toArray, List.set_cons_zero, List.set_cons_succ, i64_w, i32_w]
         rfl
        refine pure_ (i := 8) (N := some 37) (v := ?_) (a' := ?_) #[true, true, true, true, true, true, true, true, true, false, false, false] rfl rfl (any_of HT_.out (by kernel_rfl)) (fun _ _ _ h => h) (Or.inl ⟨by rfl, ?_⟩) ?_ ?_
        rotate_left
        ·intro w'
         go_simp
         with_reducible rfl
        rotate_left
        ·simp only [Act.put, List.setIfInBounds_toArray, List.set_cons_zero, List.set_cons_succ, i64_w, i32_w]
         rfl
        refine one_ (i := 9) (N := some 8) #[true, true, true, true, true, true, true, true, true, true, false, false] rfl rfl (one_of HT_.out (by kernel_rfl)) (by decide) (fun K hK => ?_)
        refine box_step ?hg (N := 8) ?hd (cs := #[.slice none 0 0]) (t := 26) ?hr ?_; (case hd => rfl); (case hg => rfl); (case hr => first | (go_simp; done) | (go_simp; rfl))
        intro gb239 hg w66 hbox hb
        have n0_ := A_ (Kd.R_below Z52 hb)
        have n1_ := A_ (Kd.R_below Z51 hb)
        have n2_ := A_ (Kd.R_below Z50 hb)
        have n3_ := A_ (blk_below (g := gb225) (o := .cells #[.slice A0_0 l0_0.length c0_0] 24 (0, 0)) Z41 hb)
        have n4_ := A_ (blk_below (g := gb226) (o := .cells #[.slice A2_0 l2_0.length c2_0] 24 (0, 0)) Z40 hb)
        have n5_ := A_ (below_step Z28 hb)
        have n6_ := A_ (hbox)
        have n7_ := A_ ((by rw [hg]; exact (below_size Z28) : w.heap.size ≤ gb239))
        have n8_ := A_ ((by rw [hg]; exact (below_size Z28) : w.heap.size ≤ gb239))
        have n9_ := A_ ((by rw [hg]; exact Nat.ne_of_lt (blk_lt (g := gb225) (o := .cells #[.slice A0_0 l0_0.length c0_0] 24 (0, 0)) Z41) : gb225 ≠ gb239))
        have n10_ := A_ ((by rw [hg]; exact Nat.ne_of_gt (blk_lt (g := gb225) (o := .cells #[.slice A0_0 l0_0.length c0_0] 24 (0, 0)) Z41) : gb239 ≠ gb225))
        have n11_ := A_ ((by rw [hg]; exact Nat.ne_of_lt (blk_lt (g := gb226) (o := .cells #[.slice A2_0 l2_0.length c2_0] 24 (0, 0)) Z40) : gb226 ≠ gb239))
        have n12_ := A_ ((by rw [hg]; exact Nat.ne_of_gt (blk_lt (g := gb226) (o := .cells #[.slice A2_0 l2_0.length c2_0] 24 (0, 0)) Z40) : gb239 ≠ gb226))
        clear HO231
        clear HO234
        clear HO237
        clear BK225
        clear BK226
        clear HB
        have HO231 := n0_
        have HO234 := n1_
        have HO237 := n2_
        have BK225 := n3_
        have BK226 := n4_
        have HB := n5_
        have BK239 := n6_
        have GW239 := n7_
        have GE239 := n8_
        have NB225_239 := n9_
        have NB239_225 := n10_
        have NB226_239 := n11_
        have NB239_226 := n12_
        clear n0_ n1_ n2_ n3_ n4_ n5_ n6_ n7_ n8_ n9_ n10_ n11_ n12_
        clear hb hbox hg
        refine hK.out _ _ ⟨(blk_cell BK225.out 0).trans rfl, (blk_cell BK226.out 0).trans rfl⟩ (fun hHeld => ?_)
        clear hK K
        refine norm_ (a' := ?_) ?_ ?_
        rotate_left
        ·show Act.put _ (some 8) _ = _
         simp only [Act.put, List.setIfInBounds_toArray, List.set_cons_zero, List.set_cons_succ, i64_w, i32_w]
         rfl
        exact norm_ Z53 (hCont (.slice Ao63 t229.length co63, .slice Ao64 t232.length co64, v236, gb239) _ ⟨hHeld, Z30, Z31, Z32, Z41, Z40, Z39, GW239.out, GE239.out, NB225_239.out, NB239_225.out, NB226_239.out, NB239_226.out, Z26⟩)
       ·skip
        refine box_step ?hg (N := 8) ?hd (cs := #[.slice none 0 0]) (t := 26) ?hr ?_; (case hd => rfl); (case hg => rfl); (case hr => first | (go_simp; done) | (go_simp; rfl))
        intro gb239 hg w63 hbox hb
        have n0_ := A_ (Kd.R_below Z52 hb)
        have n1_ := A_ (Kd.R_below Z51 hb)
        have n2_ := A_ (blk_below (g := gb225) (o := .cells #[.slice A0_0 l0_0.length c0_0] 24 (0, 0)) Z41 hb)
        have n3_ := A_ (blk_below (g := gb226) (o := .cells #[.slice A2_0 l2_0.length c2_0] 24 (0, 0)) Z40 hb)
        have n4_ := A_ (below_step Z28 hb)
        have n5_ := A_ (hbox)
        have n6_ := A_ ((by rw [hg]; exact (below_size Z28) : w.heap.size ≤ gb239))
        have n7_ := A_ ((by rw [hg]; exact (below_size Z28) : w.heap.size ≤ gb239))
        have n8_ := A_ ((by rw [hg]; exact Nat.ne_of_lt (blk_lt (g := gb225) (o := .cells #[.slice A0_0 l0_0.length c0_0] 24 (0, 0)) Z41) : gb225 ≠ gb239))
        have n9_ := A_ ((by rw [hg]; exact Nat.ne_of_gt (blk_lt (g := gb225) (o := .cells #[.slice A0_0 l0_0.length c0_0] 24 (0, 0)) Z41) : gb239 ≠ gb225))
        have n10_ := A_ ((by rw [hg]; exact Nat.ne_of_lt (blk_lt (g := gb226) (o := .cells #[.slice A2_0 l2_0.length c2_0] 24 (0, 0)) Z40) : gb226 ≠ gb239))
        have n11_ := A_ ((by rw [hg]; exact Nat.ne_of_gt (blk_lt (g := gb226) (o := .cells #[.slice A2_0 l2_0.length c2_0] 24 (0, 0)) Z40) : gb239 ≠ gb226))
        clear HO231
        clear HO234
        clear BK225
        clear BK226
        clear HB
        have HO231 := n0_
        have HO234 := n1_
        have BK225 := n2_
        have BK226 := n3_
        have HB := n4_
        have BK239 := n5_
        have GW239 := n6_
        have GE239 := n7_
        have NB225_239 := n8_
        have NB239_225 := n9_
        have NB226_239 := n10_
        have NB239_226 := n11_
        clear n0_ n1_ n2_ n3_ n4_ n5_ n6_ n7_ n8_ n9_ n10_ n11_
        clear hb hbox hg
        obtain ⟨Ao64, co64, eo64⟩ := Kd.R_slice HO231.out
        (first | subst eo64 | (injection eo64 with f1_ f2_ f3_; have f4_ := f1_.symm; have f5_ := f3_.symm; clear f1_ f2_ f3_; subst f4_; subst f5_))
        obtain ⟨Ao65, co65, eo65⟩ := Kd.R_slice HO234.out
        (first | subst eo65 | (injection eo65 with f1_ f2_ f3_; have f4_ := f1_.symm; have f5_ := f3_.symm; clear f1_ f2_ f3_; subst f4_; subst f5_))
        refine hK.out _ _ ⟨(blk_cell BK225.out 0).trans rfl, (blk_cell BK226.out 0).trans rfl⟩ (fun hHeld => ?_)
        clear hK K
        refine norm_ (a' := ?_) ?_ ?_
        rotate_left
        ·show Act.put _ (some 8) _ = _
         simp only [Act.put, List.setIfInBounds_toArray, List.set_cons_zero, List.set_cons_succ, i64_w, i32_w]
         rfl
        refine one_ (i := 5) (N := some 35) #[true, true, true, true, true, true, false, false, false, true, false, false] rfl rfl (one_of HT_.out (by kernel_rfl)) (by decide) (fun K hK => ?_)
        refine goes_ Try.func30 (by kernel_rfl) rfl #[.agg #[.slice Ao64 t229.length co64], .int .i64 a1, .agg #[.slice Ao65 t232.length co65]] (by rfl) rfl rfl Z33 ?_
        with_reducible refine (spec_ReplaceAt.calls k _ _ t229 a1 _ _ t232 t235 t238 _ ?side1 ?side2 ?side3 ?side4 A22.out).mono ?_
        (case side1 => repeat (first | exact (Kd.R_reads' HO231.out).2.2 | (with_reducible refine Kd.C_alloc ?_ _) | (with_reducible refine Kd.C_drewN ?_ _) | (with_reducible refine Kd.C_drew ?_)))
        (case side2 => exact (Kd.R_reads' HO231.out).2.1)
        (case side3 => repeat (first | exact (Kd.R_reads' HO234.out).2.2 | (with_reducible refine Kd.C_alloc ?_ _) | (with_reducible refine Kd.C_drewN ?_ _) | (with_reducible refine Kd.C_drew ?_)))
        (case side4 => exact (Kd.R_reads' HO234.out).2.1)
        rintro e w66 ⟨v236, rfl, ho0, hb⟩
        refine ⟨_, rfl, ?_⟩
        have n0_ := A_ (Kd.R_elder' Z52 (Kd.R_base ho0) hb)
        have n1_ := A_ (Kd.R_elder' Z51 (Kd.R_base ho0) hb)
        have n2_ := A_ (Kd.R_lower (Kd.R_new' (Kd.R_new' ho0 (Kd.R_lt Z52)) (Kd.R_lt Z51)) (below_size Z26))
        have n3_ := A_ (blk_below (g := gb225) (o := .cells #[.slice A0_0 l0_0.length c0_0] 24 (0, 0)) Z41 hb)
        have n4_ := A_ (blk_below (g := gb226) (o := .cells #[.slice A2_0 l2_0.length c2_0] 24 (0, 0)) Z40 hb)
        have n5_ := A_ (blk_below (g := gb239) (o := .cells #[.slice none 0 0] 26 (0, 0)) Z39 hb)
        have n6_ := A_ (below_step Z26 hb)
        clear HO231
        clear HO234
        clear BK225
        clear BK226
        clear BK239
        clear HB
        have HO231 := n0_
        have HO234 := n1_
        have HO237 := n2_
        have BK225 := n3_
        have BK226 := n4_
        have BK239 := n5_
        have HB := n6_
        clear n0_ n1_ n2_ n3_ n4_ n5_ n6_
        (try clear hb)
        (try clear hb2)
        (try clear hk)
        (try clear hi)
        (try clear ho0)
        refine hK.out _ _ ⟨(blk_cell BK225.out 0).trans rfl, (blk_cell BK226.out 0).trans rfl⟩ (fun hHeld => ?_)
        clear hK K
        refine norm_ (a' := ?_) ?_ ?_
        rotate_left
        ·show Act.put _ (some 35) _ = _
         simp only [Act.put, List.setIfInBounds_toArray, List.set_cons_zero, List.set_cons_succ, i64_w, i32_w]
         rfl
        refine pure_ (i := 6) (N := some 29) (v := ?_) (a' := ?_) #[true, true, true, true, true, true, true, false, false, true, false, false] rfl rfl (any_of HT_.out (by kernel_rfl)) (fun _ _ _ h => h) (Or.inl ⟨by rfl, ?_⟩) ?_ ?_
        rotate_left
        ·intro w'
         go_simp
         with_reducible rfl
        rotate_left
        ·simp only [Act.put, List.setIfInBounds_toArray, List.set_cons_zero, List.set_cons_succ, i64_w, i32_w]
         rfl
        refine pure_ (i := 7) (N := some 36) (v := ?_) (a' := ?_) #[true, true, true, true, true, true, true, true, false, true, false, false] rfl rfl (any_of HT_.out (by kernel_rfl)) (fun _ _ _ h => h) (Or.inl ⟨by rfl, ?_⟩) ?_ ?_
        rotate_left
        ·intro w'
         go_simp
         with_reducible rfl
        rotate_left
        ·simp only [Act.put, List.setIfInBounds_toArray, List.set_cons_zero, List.set_cons_succ, i64_w, i32_w]
         rfl
        refine pure_ (i := 8) (N := some 37) (v := ?_) (a' := ?_) #[true, true, true, true, true, true, true, true, true, true, false, false] rfl rfl (any_of HT_.out (by kernel_rfl)) (fun _ _ _ h => h) (Or.inl ⟨by rfl, ?_⟩) ?_ ?_
        rotate_left
        ·intro w'
         go_simp
         with_reducible rfl
        rotate_left
        ·simp only [Act.put, List.setIfInBounds_toArray, List.set_cons_zero, List.set_cons_succ, i64_w, i32_w]
         rfl
        exact norm_ Z53 (hCont (.slice Ao64 t229.length co64, .slice Ao65 t232.length co65, v236, gb239) _ ⟨hHeld, Z30, Z31, Z32, Z41, Z40, Z39, GW239.out, GE239.out, NB225_239.out, NB239_225.out, NB226_239.out, NB239_226.out, Z26⟩)
      ·skip
       refine box_step ?hg (N := 8) ?hd (cs := #[.slice none 0 0]) (t := 26) ?hr ?_; (case hd => rfl); (case hg => rfl); (case hr => first | (go_simp; done) | (go_simp; rfl))
       intro gb239 hg w62 hbox hb
       have n0_ := A_ (Kd.R_below Z52 hb)
       have n1_ := A_ (blk_below (g := gb225) (o := .cells #[.slice A0_0 l0_0.length c0_0] 24 (0, 0)) Z41 hb)
       have n2_ := A_ (blk_below (g := gb226) (o := .cells #[.slice A2_0 l2_0.length c2_0] 24 (0, 0)) Z40 hb)
       have n3_ := A_ (below_step Z28 hb)
       have n4_ := A_ (hbox)
       have n5_ := A_ ((by rw [hg]; exact (below_size Z28) : w.heap.size ≤ gb239))
       have n6_ := A_ ((by rw [hg]; exact (below_size Z28) : w.heap.size ≤ gb239))
       have n7_ := A_ ((by rw [hg]; exact Nat.ne_of_lt (blk_lt (g := gb225) (o := .cells #[.slice A0_0 l0_0.length c0_0] 24 (0, 0)) Z41) : gb225 ≠ gb239))
       have n8_ := A_ ((by rw [hg]; exact Nat.ne_of_gt (blk_lt (g := gb225) (o := .cells #[.slice A0_0 l0_0.length c0_0] 24 (0, 0)) Z41) : gb239 ≠ gb225))
       have n9_ := A_ ((by rw [hg]; exact Nat.ne_of_lt (blk_lt (g := gb226) (o := .cells #[.slice A2_0 l2_0.length c2_0] 24 (0, 0)) Z40) : gb226 ≠ gb239))
       have n10_ := A_ ((by rw [hg]; exact Nat.ne_of_gt (blk_lt (g := gb226) (o := .cells #[.slice A2_0 l2_0.length c2_0] 24 (0, 0)) Z40) : gb239 ≠ gb226))
       clear HO231
       clear BK225
       clear BK226
       clear HB
       have HO231 := n0_
       have BK225 := n1_
       have BK226 := n2_
       have HB := n3_
       have BK239 := n4_
       have GW239 := n5_
       have GE239 := n6_
       have NB225_239 := n7_
       have NB239_225 := n8_
       have NB226_239 := n9_
       have NB239_226 := n10_
       clear n0_ n1_ n2_ n3_ n4_ n5_ n6_ n7_ n8_ n9_ n10_
       clear hb hbox hg
       refine hK.out _ _ ⟨(blk_cell BK225.out 0).trans rfl, (blk_cell BK226.out 0).trans rfl⟩ (fun hHeld => ?_)
       clear hK K
       refine norm_ (a' := ?_) ?_ ?_
       rotate_left
       ·show Act.put _ (some 8) _ = _
        simp only [Act.put, List.setIfInBounds_toArray, List.set_cons_zero, List.set_cons_succ, i64_w, i32_w]
        rfl
       refine one_ (i := 4) (N := some 34) #[true, true, true, true, true, false, false, false, false, true, false, false] rfl rfl (one_of HT_.out (by kernel_rfl)) (by decide) (fun K hK => ?_)
       refine goes_ Try.func14 (by kernel_rfl) rfl #[.agg #[.slice A2_0 l2_0.length c2_0]] (by rfl) rfl rfl Z33 ?_
       with_reducible refine (laws_toTree.calls k _ _ l2_0 t232 _ ?side1 ?side2 A21.out).mono ?_
       (case side1 => repeat (first | exact (Kd.C_below HR2_0.out HB.out) | (with_reducible refine Kd.C_alloc ?_ _) | (with_reducible refine Kd.C_drewN ?_ _) | (with_reducible refine Kd.C_drew ?_)))
       (case side2 => exact HC2_0.out)
       rintro e w63 ⟨v233, rfl, ho0, hb⟩
       refine ⟨_, rfl, ?_⟩
       have n0_ := A_ (Kd.R_elder' Z52 (Kd.R_base ho0) hb)
       have n1_ := A_ (Kd.R_lower (Kd.R_new' ho0 (Kd.R_lt Z52)) (below_size Z26))
       have n2_ := A_ (blk_below (g := gb225) (o := .cells #[.slice A0_0 l0_0.length c0_0] 24 (0, 0)) Z41 hb)
       have n3_ := A_ (blk_below (g := gb226) (o := .cells #[.slice A2_0 l2_0.length c2_0] 24 (0, 0)) Z40 hb)
       have n4_ := A_ (blk_below (g := gb239) (o := .cells #[.slice none 0 0] 26 (0, 0)) Z39 hb)
       have n5_ := A_ (below_step Z26 hb)
       clear HO231
       clear BK225
       clear BK226
       clear BK239
       clear HB
       have HO231 := n0_
       have HO234 := n1_
       have BK225 := n2_
       have BK226 := n3_
       have BK239 := n4_
       have HB := n5_
       clear n0_ n1_ n2_ n3_ n4_ n5_
       (try clear hb)
       (try clear hb2)
       (try clear hk)
       (try clear hi)
       (try clear ho0)
       obtain ⟨Ao64, co64, eo64⟩ := Kd.R_slice HO231.out
       (first | subst eo64 | (injection eo64 with f1_ f2_ f3_; have f4_ := f1_.symm; have f5_ := f3_.symm; clear f1_ f2_ f3_; subst f4_; subst f5_))
       obtain ⟨Ao65, co65, eo65⟩ := Kd.R_slice HO234.out
       (first | subst eo65 | (injection eo65 with f1_ f2_ f3_; have f4_ := f1_.symm; have f5_ := f3_.symm; clear f1_ f2_ f3_; subst f4_; subst f5_))
       refine hK.out _ _ ⟨(blk_cell BK225.out 0).trans rfl, (blk_cell BK226.out 0).trans rfl⟩ (fun hHeld => ?_)
       clear hK K
       refine norm_ (a' := ?_) ?_ ?_
       rotate_left
       ·show Act.put _ (some 34) _ = _
        simp only [Act.put, List.setIfInBounds_toArray, List.set_cons_zero, List.set_cons_succ, i64_w, i32_w]
        rfl
       refine one_ (i := 5) (N := some 35) #[true, true, true, true, true, true, false, false, false, true, false, false] rfl rfl (one_of HT_.out (by kernel_rfl)) (by decide) (fun K hK => ?_)
       refine goes_ Try.func30 (by kernel_rfl) rfl #[.agg #[.slice Ao64 t229.length co64], .int .i64 a1, .agg #[.slice Ao65 t232.length co65]] (by rfl) rfl rfl Z33 ?_
       with_reducible refine (spec_ReplaceAt.calls k _ _ t229 a1 _ _ t232 t235 t238 _ ?side1 ?side2 ?side3 ?side4 A22.out).mono ?_
       (case side1 => repeat (first | exact (Kd.R_reads' HO231.out).2.2 | (with_reducible refine Kd.C_alloc ?_ _) | (with_reducible refine Kd.C_drewN ?_ _) | (with_reducible refine Kd.C_drew ?_)))
       (case side2 => exact (Kd.R_reads' HO231.out).2.1)
       (case side3 => repeat (first | exact (Kd.R_reads' HO234.out).2.2 | (with_reducible refine Kd.C_alloc ?_ _) | (with_reducible refine Kd.C_drewN ?_ _) | (with_reducible refine Kd.C_drew ?_)))
       (case side4 => exact (Kd.R_reads' HO234.out).2.1)
       rintro e w66 ⟨v236, rfl, ho0, hb⟩
       refine ⟨_, rfl, ?_⟩
       have n0_ := A_ (Kd.R_elder' Z52 (Kd.R_base ho0) hb)
       have n1_ := A_ (Kd.R_elder' Z51 (Kd.R_base ho0) hb)
       have n2_ := A_ (Kd.R_lower (Kd.R_new' (Kd.R_new' ho0 (Kd.R_lt Z52)) (Kd.R_lt Z51)) (below_size Z26))
       have n3_ := A_ (blk_below (g := gb225) (o := .cells #[.slice A0_0 l0_0.length c0_0] 24 (0, 0)) Z41 hb)
       have n4_ := A_ (blk_below (g := gb226) (o := .cells #[.slice A2_0 l2_0.length c2_0] 24 (0, 0)) Z40 hb)
       have n5_ := A_ (blk_below (g := gb239) (o := .cells #[.slice none 0 0] 26 (0, 0)) Z39 hb)
       have n6_ := A_ (below_step Z26 hb)
       clear HO231
       clear HO234
       clear BK225
       clear BK226
       clear BK239
       clear HB
       have HO231 := n0_
       have HO234 := n1_
       have HO237 := n2_
       have BK225 := n3_
       have BK226 := n4_
       have BK239 := n5_
       have HB := n6_
       clear n0_ n1_ n2_ n3_ n4_ n5_ n6_
       (try clear hb)
       (try clear hb2)
       (try clear hk)
       (try clear hi)
       (try clear ho0)
       refine hK.out _ _ ⟨(blk_cell BK225.out 0).trans rfl, (blk_cell BK226.out 0).trans rfl⟩ (fun hHeld => ?_)
       clear hK K
       refine norm_ (a' := ?_) ?_ ?_
       rotate_left
       ·show Act.put _ (some 35) _ = _
        simp only [Act.put, List.setIfInBounds_toArray, List.set_cons_zero, List.set_cons_succ, i64_w, i32_w]
        rfl
       refine pure_ (i := 6) (N := some 29) (v := ?_) (a' := ?_) #[true, true, true, true, true, true, true, false, false, true, false, false] rfl rfl (any_of HT_.out (by kernel_rfl)) (fun _ _ _ h => h) (Or.inl ⟨by rfl, ?_⟩) ?_ ?_
       rotate_left
       ·intro w'
        go_simp
        with_reducible rfl
       rotate_left
       ·simp only [Act.put, List.setIfInBounds_toArray, List.set_cons_zero, List.set_cons_succ, i64_w, i32_w]
        rfl
       refine pure_ (i := 7) (N := some 36) (v := ?_) (a' := ?_) #[true, true, true, true, true, true, true, true, false, true, false, false] rfl rfl (any_of HT_.out (by kernel_rfl)) (fun _ _ _ h => h) (Or.inl ⟨by rfl, ?_⟩) ?_ ?_
       rotate_left
       ·intro w'
        go_simp
        with_reducible rfl
       rotate_left
       ·simp only [Act.put, List.setIfInBounds_toArray, List.set_cons_zero, List.set_cons_succ, i64_w, i32_w]
        rfl
       refine pure_ (i := 8) (N := some 37) (v := ?_) (a' := ?_) #[true, true, true, true, true, true, true, true, true, true, false, false] rfl rfl (any_of HT_.out (by kernel_rfl)) (fun _ _ _ h => h) (Or.inl ⟨by rfl, ?_⟩) ?_ ?_
       rotate_left
       ·intro w'
        go_simp
        with_reducible rfl
       rotate_left
       ·simp only [Act.put, List.setIfInBounds_toArray, List.set_cons_zero, List.set_cons_succ, i64_w, i32_w]
        rfl
       exact norm_ Z53 (hCont (.slice Ao64 t229.length co64, .slice Ao65 t232.length co65, v236, gb239) _ ⟨hHeld, Z30, Z31, Z32, Z41, Z40, Z39, GW239.out, GE239.out, NB225_239.out, NB239_225.out, NB226_239.out, NB239_226.out, Z26⟩)
     ·skip
      refine box_step ?hg (N := 8) ?hd (cs := #[.slice none 0 0]) (t := 26) ?hr ?_; (case hd => rfl); (case hg => rfl); (case hr => first | (go_simp; done) | (go_simp; rfl))
      intro gb239 hg w61 hbox hb
      have n0_ := A_ (blk_below (g := gb225) (o := .cells #[.slice A0_0 l0_0.length c0_0] 24 (0, 0)) Z41 hb)
      have n1_ := A_ (blk_below (g := gb226) (o := .cells #[.slice A2_0 l2_0.length c2_0] 24 (0, 0)) Z40 hb)
      have n2_ := A_ (below_step Z28 hb)
      have n3_ := A_ (hbox)
      have n4_ := A_ ((by rw [hg]; exact (below_size Z28) : w.heap.size ≤ gb239))
      have n5_ := A_ ((by rw [hg]; exact (below_size Z28) : w.heap.size ≤ gb239))
      have n6_ := A_ ((by rw [hg]; exact Nat.ne_of_lt (blk_lt (g := gb225) (o := .cells #[.slice A0_0 l0_0.length c0_0] 24 (0, 0)) Z41) : gb225 ≠ gb239))
      have n7_ := A_ ((by rw [hg]; exact Nat.ne_of_gt (blk_lt (g := gb225) (o := .cells #[.slice A0_0 l0_0.length c0_0] 24 (0, 0)) Z41) : gb239 ≠ gb225))
      have n8_ := A_ ((by rw [hg]; exact Nat.ne_of_lt (blk_lt (g := gb226) (o := .cells #[.slice A2_0 l2_0.length c2_0] 24 (0, 0)) Z40) : gb226 ≠ gb239))
      have n9_ := A_ ((by rw [hg]; exact Nat.ne_of_gt (blk_lt (g := gb226) (o := .cells #[.slice A2_0 l2_0.length c2_0] 24 (0, 0)) Z40) : gb239 ≠ gb226))
      clear BK225
      clear BK226
      clear HB
      have BK225 := n0_
      have BK226 := n1_
      have HB := n2_
      have BK239 := n3_
      have GW239 := n4_
      have GE239 := n5_
      have NB225_239 := n6_
      have NB239_225 := n7_
      have NB226_239 := n8_
      have NB239_226 := n9_
      clear n0_ n1_ n2_ n3_ n4_ n5_ n6_ n7_ n8_ n9_
      clear hb hbox hg
      refine hK.out _ _ ⟨(blk_cell BK225.out 0).trans rfl, (blk_cell BK226.out 0).trans rfl⟩ (fun hHeld => ?_)
      clear hK K
      refine norm_ (a' := ?_) ?_ ?_
      rotate_left
      ·show Act.put _ (some 8) _ = _
       simp only [Act.put, List.setIfInBounds_toArray, List.set_cons_zero, List.set_cons_succ, i64_w, i32_w]
       rfl
      refine one_ (i := 1) (N := some 31) #[true, true, true, true, false, false, false, false, false, true, false, false] rfl rfl (one_of HT_.out (by kernel_rfl)) (by decide) (fun K hK => ?_)
      refine goes_ Try.func14 (by kernel_rfl) rfl #[.agg #[.slice A0_0 l0_0.length c0_0]] (by rfl) rfl rfl Z33 ?_
      with_reducible refine (laws_toTree.calls k _ _ l0_0 t229 _ ?side1 ?side2 A20.out).mono ?_
      (case side1 => repeat (first | exact (Kd.C_below HR0_0.out HB.out) | (with_reducible refine Kd.C_alloc ?_ _) | (with_reducible refine Kd.C_drewN ?_ _) | (with_reducible refine Kd.C_drew ?_)))
      (case side2 => exact HC0_0.out)
      rintro e w62 ⟨v230, rfl, ho0, hb⟩
      refine ⟨_, rfl, ?_⟩
      have n0_ := A_ (Kd.R_lower ho0 (below_size Z26))
      have n1_ := A_ (blk_below (g := gb225) (o := .cells #[.slice A0_0 l0_0.length c0_0] 24 (0, 0)) Z41 hb)
      have n2_ := A_ (blk_below (g := gb226) (o := .cells #[.slice A2_0 l2_0.length c2_0] 24 (0, 0)) Z40 hb)
      have n3_ := A_ (blk_below (g := gb239) (o := .cells #[.slice none 0 0] 26 (0, 0)) Z39 hb)
      have n4_ := A_ (below_step Z26 hb)
      clear BK225
      clear BK226
      clear BK239
      clear HB
      have HO231 := n0_
      have BK225 := n1_
      have BK226 := n2_
      have BK239 := n3_
      have HB := n4_
      clear n0_ n1_ n2_ n3_ n4_
      (try clear hb)
      (try clear hb2)
      (try clear hk)
      (try clear hi)
      (try clear ho0)
      refine hK.out _ _ ⟨(blk_cell BK225.out 0).trans rfl, (blk_cell BK226.out 0).trans rfl⟩ (fun hHeld => ?_)
      clear hK K
      refine norm_ (a' := ?_) ?_ ?_
      rotate_left
      ·show Act.put _ (some 31) _ = _
       simp only [Act.put, List.setIfInBounds_toArray, List.set_cons_zero, List.set_cons_succ, i64_w, i32_w]
       rfl
      refine one_ (i := 4) (N := some 34) #[true, true, true, true, true, false, false, false, false, true, false, false] rfl rfl (one_of HT_.out (by kernel_rfl)) (by decide) (fun K hK => ?_)
      refine goes_ Try.func14 (by kernel_rfl) rfl #[.agg #[.slice A2_0 l2_0.length c2_0]] (by rfl) rfl rfl Z33 ?_
      with_reducible refine (laws_toTree.calls k _ _ l2_0 t232 _ ?side1 ?side2 A21.out).mono ?_
      (case side1 => repeat (first | exact (Kd.C_below HR2_0.out HB.out) | (with_reducible refine Kd.C_alloc ?_ _) | (with_reducible refine Kd.C_drewN ?_ _) | (with_reducible refine Kd.C_drew ?_)))
      (case side2 => exact HC2_0.out)
      rintro e w63 ⟨v233, rfl, ho0, hb⟩
      refine ⟨_, rfl, ?_⟩
      have n0_ := A_ (Kd.R_elder' Z52 (Kd.R_base ho0) hb)
      have n1_ := A_ (Kd.R_lower (Kd.R_new' ho0 (Kd.R_lt Z52)) (below_size Z26))
      have n2_ := A_ (blk_below (g := gb225) (o := .cells #[.slice A0_0 l0_0.length c0_0] 24 (0, 0)) Z41 hb)
      have n3_ := A_ (blk_below (g := gb226) (o := .cells #[.slice A2_0 l2_0.length c2_0] 24 (0, 0)) Z40 hb)
      have n4_ := A_ (blk_below (g := gb239) (o := .cells #[.slice none 0 0] 26 (0, 0)) Z39 hb)
      have n5_ := A_ (below_step Z26 hb)
      clear HO231
      clear BK225
      clear BK226
      clear BK239
      clear HB
      have HO231 := n0_
      have HO234 := n1_
      have BK225 := n2_
      have BK226 := n3_
      have BK239 := n4_
      have HB := n5_
      clear n0_ n1_ n2_ n3_ n4_ n5_
      (try clear hb)
      (try clear hb2)
      (try clear hk)
      (try clear hi)
      (try clear ho0)
      obtain ⟨Ao64, co64, eo64⟩ := Kd.R_slice HO231.out
      (first | subst eo64 | (injection eo64 with f1_ f2_ f3_; have f4_ := f1_.symm; have f5_ := f3_.symm; clear f1_ f2_ f3_; subst f4_; subst f5_))
      obtain ⟨Ao65, co65, eo65⟩ := Kd.R_slice HO234.out
      (first | subst eo65 | (injection eo65 with f1_ f2_ f3_; have f4_ := f1_.symm; have f5_ := f3_.symm; clear f1_ f2_ f3_; subst f4_; subst f5_))
      refine hK.out _ _ ⟨(blk_cell BK225.out 0).trans rfl, (blk_cell BK226.out 0).trans rfl⟩ (fun hHeld => ?_)
      clear hK K
      refine norm_ (a' := ?_) ?_ ?_
      rotate_left
      ·show Act.put _ (some 34) _ = _
       simp only [Act.put, List.setIfInBounds_toArray, List.set_cons_zero, List.set_cons_succ, i64_w, i32_w]
       rfl
      refine one_ (i := 5) (N := some 35) #[true, true, true, true, true, true, false, false, false, true, false, false] rfl rfl (one_of HT_.out (by kernel_rfl)) (by decide) (fun K hK => ?_)
      refine goes_ Try.func30 (by kernel_rfl) rfl #[.agg #[.slice Ao64 t229.length co64], .int .i64 a1, .agg #[.slice Ao65 t232.length co65]] (by rfl) rfl rfl Z33 ?_
      with_reducible refine (spec_ReplaceAt.calls k _ _ t229 a1 _ _ t232 t235 t238 _ ?side1 ?side2 ?side3 ?side4 A22.out).mono ?_
      (case side1 => repeat (first | exact (Kd.R_reads' HO231.out).2.2 | (with_reducible refine Kd.C_alloc ?_ _) | (with_reducible refine Kd.C_drewN ?_ _) | (with_reducible refine Kd.C_drew ?_)))
      (case side2 => exact (Kd.R_reads' HO231.out).2.1)
      (case side3 => repeat (first | exact (Kd.R_reads' HO234.out).2.2 | (with_reducible refine Kd.C_alloc ?_ _) | (with_reducible refine Kd.C_drewN ?_ _) | (with_reducible refine Kd.C_drew ?_)))
      (case side4 => exact (Kd.R_reads' HO234.out).2.1)
      rintro e w66 ⟨v236, rfl, ho0, hb⟩
      refine ⟨_, rfl, ?_⟩
      have n0_ := A_ (Kd.R_elder' Z52 (Kd.R_base ho0) hb)
      have n1_ := A_ (Kd.R_elder' Z51 (Kd.R_base ho0) hb)
      have n2_ := A_ (Kd.R_lower (Kd.R_new' (Kd.R_new' ho0 (Kd.R_lt Z52)) (Kd.R_lt Z51)) (below_size Z26))
      have n3_ := A_ (blk_below (g := gb225) (o := .cells #[.slice A0_0 l0_0.length c0_0] 24 (0, 0)) Z41 hb)
      have n4_ := A_ (blk_below (g := gb226) (o := .cells #[.slice A2_0 l2_0.length c2_0] 24 (0, 0)) Z40 hb)
      have n5_ := A_ (blk_below (g := gb239) (o := .cells #[.slice none 0 0] 26 (0, 0)) Z39 hb)
      have n6_ := A_ (below_step Z26 hb)
      clear HO231
      clear HO234
      clear BK225
      clear BK226
      clear BK239
      clear HB
      have HO231 := n0_
      have HO234 := n1_
      have HO237 := n2_
      have BK225 := n3_
      have BK226 := n4_
      have BK239 := n5_
      have HB := n6_
      clear n0_ n1_ n2_ n3_ n4_ n5_ n6_
      (try clear hb)
      (try clear hb2)
      (try clear hk)
      (try clear hi)
      (try clear ho0)
      refine hK.out _ _ ⟨(blk_cell BK225.out 0).trans rfl, (blk_cell BK226.out 0).trans rfl⟩ (fun hHeld => ?_)
      clear hK K
      refine norm_ (a' := ?_) ?_ ?_
      rotate_left
      ·show Act.put _ (some 35) _ = _
       simp only [Act.put, List.setIfInBounds_toArray, List.set_cons_zero, List.set_cons_succ, i64_w, i32_w]
       rfl
      refine pure_ (i := 6) (N := some 29) (v := ?_) (a' := ?_) #[true, true, true, true, true, true, true, false, false, true, false, false] rfl rfl (any_of HT_.out (by kernel_rfl)) (fun _ _ _ h => h) (Or.inl ⟨by rfl, ?_⟩) ?_ ?_
      rotate_left
      ·intro w'
       go_simp
       with_reducible rfl
      rotate_left
      ·simp only [Act.put, List.setIfInBounds_toArray, List.set_cons_zero, List.set_cons_succ, i64_w, i32_w]
       rfl
      refine pure_ (i := 7) (N := some 36) (v := ?_) (a' := ?_) #[true, true, true, true, true, true, true, true, false, true, false, false] rfl rfl (any_of HT_.out (by kernel_rfl)) (fun _ _ _ h => h) (Or.inl ⟨by rfl, ?_⟩) ?_ ?_
      rotate_left
      ·intro w'
       go_simp
       with_reducible rfl
      rotate_left
      ·simp only [Act.put, List.setIfInBounds_toArray, List.set_cons_zero, List.set_cons_succ, i64_w, i32_w]
       rfl
      refine pure_ (i := 8) (N := some 37) (v := ?_) (a' := ?_) #[true, true, true, true, true, true, true, true, true, true, false, false] rfl rfl (any_of HT_.out (by kernel_rfl)) (fun _ _ _ h => h) (Or.inl ⟨by rfl, ?_⟩) ?_ ?_
      rotate_left
      ·intro w'
       go_simp
       with_reducible rfl
      rotate_left
      ·simp only [Act.put, List.setIfInBounds_toArray, List.set_cons_zero, List.set_cons_succ, i64_w, i32_w]
       rfl
      exact norm_ Z53 (hCont (.slice Ao64 t229.length co64, .slice Ao65 t232.length co65, v236, gb239) _ ⟨hHeld, Z30, Z31, Z32, Z41, Z40, Z39, GW239.out, GE239.out, NB225_239.out, NB239_225.out, NB226_239.out, NB239_226.out, Z26⟩)
    rintro ⟨v230, v233, v236, gb239⟩ w67 ⟨hS_, h0_, h1_, h2_, h3_, h4_, h5_, h6_, h7_, h8_, h9_, h10_, h11_, h12_⟩
    have n0_ : Aside0 (Kd.R (Kd.int .i64) 2 w67 w.heap.size (fun k_ => some k_ ≠ (v233 : Value).ownBlock ∧ some k_ ≠ (v236 : Value).ownBlock) v230 t229) := ⟨h0_⟩
    have n1_ : Aside0 (Kd.R (Kd.int .i64) 2 w67 w.heap.size (fun k_ => some k_ ≠ (v230 : Value).ownBlock ∧ some k_ ≠ (v236 : Value).ownBlock) v233 t232) := ⟨h1_⟩
    have n2_ : Aside0 (Kd.R (Kd.int .i64) 2 w67 w.heap.size (fun k_ => some k_ ≠ (v230 : Value).ownBlock ∧ some k_ ≠ (v233 : Value).ownBlock) v236 t235) := ⟨h2_⟩
    have n3_ : Aside0 (w67.heap[gb225]? = some (.cells #[.slice A0_0 l0_0.length c0_0] 24 (0, 0))) := ⟨h3_⟩
    have n4_ : Aside0 (w67.heap[gb226]? = some (.cells #[.slice A2_0 l2_0.length c2_0] 24 (0, 0))) := ⟨h4_⟩
    have n5_ : Aside0 (w67.heap[gb239]? = some (.cells #[.slice none 0 0] 26 (0, 0))) := ⟨h5_⟩
    have n6_ : Aside0 (w.heap.size ≤ gb239) := ⟨h6_⟩
    have n7_ : Aside0 (w.heap.size ≤ gb239) := ⟨h7_⟩
    have n8_ : Aside0 (gb225 ≠ gb239) := ⟨h8_⟩
    have n9_ : Aside0 (gb239 ≠ gb225) := ⟨h9_⟩
    have n10_ : Aside0 (gb226 ≠ gb239) := ⟨h10_⟩
    have n11_ : Aside0 (gb239 ≠ gb226) := ⟨h11_⟩
    have n12_ : Aside0 (Below w.heap.size w w67) := ⟨h12_⟩
    clear BK225
    clear BK226
    clear HB
    clear h0_ h1_ h2_ h3_ h4_ h5_ h6_ h7_ h8_ h9_ h10_ h11_ h12_
    have HO231 := n0_
    have HO234 := n1_
    have HO237 := n2_
    have BK225 := n3_
    have BK226 := n4_
    have BK239 := n5_
    have GW239 := n6_
    have GE239 := n7_
    have NB225_239 := n8_
    have NB239_225 := n9_
    have NB226_239 := n10_
    have NB239_226 := n11_
    have HB := n12_
    clear n0_ n1_ n2_ n3_ n4_ n5_ n6_ n7_ n8_ n9_ n10_ n11_ n12_
    have hHeld : w67.cell? ⟨gb225, 0, none⟩ = some (.slice A0_0 l0_0.length c0_0) ∧ w67.cell? ⟨gb226, 0, none⟩ = some (.slice A2_0 l2_0.length c2_0) := hS_
    obtain ⟨Ao68, co68, eo68⟩ := Kd.R_slice HO237.out
    (first | subst eo68 | (injection eo68 with f1_ f2_ f3_; have f4_ := f1_.symm; have f5_ := f3_.symm; clear f1_ f2_ f3_; subst f4_; subst f5_))
    refine norm_ (a' := ?_) ?_ ?_
    rotate_left
    ·simp only [putAll, Act.put, List.setIfInBounds_toArray, List.set_cons_zero, List.set_cons_succ]
     rfl
    refine one_ (i := 10) (N := none) #[true, true, true, true, true, true, true, true, true, true, true, false] rfl rfl (one_of HT_.out (by kernel_rfl)) (by decide) (fun K hK => ?_)
    have hs69 : w67.cell? ⟨gb239, 0, none⟩ = some (.slice none 0 0) := (blk_cell BK239.out 0).trans rfl
    have hfs69 := blk_frozen BK239.out 0
    have hns69_0 := NB225_239.out
    have hns69_1 := NB226_239.out
    have hms69_0 := NB239_225.out
    have hms69_1 := NB239_226.out
    refine skip_ (w1 := ?_) (by rfl) rfl ?_ ?_
    rotate_left
    ·go_simp
     rfl
    refine hK.out _ _ ⟨((cell_far (p := ⟨gb239, _, none⟩) NB225_239.out _).trans (hHeld.1)), ((cell_far (p := ⟨gb239, _, none⟩) NB226_239.out _).trans (hHeld.2))⟩ (fun hHeld => ?_)
    clear hK K
    refine pure_ (i := 11) (N := some 9) (v := ?_) (a' := ?_) #[true, true, true, true, true, true, true, true, true, true, true, true] rfl rfl (any_of HT_.out (by kernel_rfl)) (fun _ _ _ h => h) (Or.inl ⟨by rfl, ?_⟩) ?_ ?_
    rotate_left
    ·intro w'
     go_simp
     with_reducible rfl
    rotate_left
    ·simp only [Act.put, List.setIfInBounds_toArray, List.set_cons_zero, List.set_cons_succ, i64_w, i32_w]
     rfl
    refine done_ (done_of HT_.out (by kernel_rfl)) ?_
    have hnb70 := NB225_239.out
    have hnc70 := NB239_225.out
    have hcz71_0 : w67.cell? ⟨gb225, 0, none⟩ = some (.slice A0_0 l0_0.length c0_0) := (blk_cell BK225.out 0).trans rfl
    have hfz71_0 := blk_frozen BK225.out 0
    try go_wp2_with (first | ((with_reducible refine gate_callee (f := 14) rfl ?_); refine goesL_ (some 39) rfl rfl Try.func14 (by kernel_rfl) rfl #[.agg #[.slice A0_0 l0_0.length c0_0]] rfl Z33 ?_; (with_reducible refine (laws_toTree.calls k _ _ l0_0 t240 _ ?side1 ?side2 A23.out).mono ?_); (case side1 => exact Kd.C_below HR0_0.out Z26); (case side2 => exact HC0_0.out); rintro e w72 ⟨v241, rfl, ho0, hb⟩; refine ⟨_, rfl, ?_⟩; have n0_ := A_ (Kd.R_elder' Z17 (Kd.R_base ho0) hb); have n1_ := A_ (Kd.R_elder' Z18 (Kd.R_base ho0) hb); have n2_ := A_ (Kd.R_elder' Z19 (Kd.R_base ho0) hb); have n3_ := A_ (Kd.R_lower (Kd.R_new' (Kd.R_new' (Kd.R_new' ho0 (Kd.R_lt Z17)) (Kd.R_lt Z18)) (Kd.R_lt Z19)) (below_size Z26)); have n4_ := A_ (blk_below (g := gb225) (o := .cells #[.slice A0_0 l0_0.length c0_0] 24 (0, 0)) (by (with_reducible repeat (first | refine blk_drewN ?_ _ | refine blk_drew ?_ | refine blk_alloc ?_ _)); refine blk_far ?_ NB225_239.out _; (with_reducible repeat (first | refine blk_drewN ?_ _ | refine blk_drew ?_ | refine blk_alloc ?_ _)); exact BK225.out) hb); have n5_ := A_ (blk_below (g := gb226) (o := .cells #[.slice A2_0 l2_0.length c2_0] 24 (0, 0)) (by (with_reducible repeat (first | refine blk_drewN ?_ _ | refine blk_drew ?_ | refine blk_alloc ?_ _)); refine blk_far ?_ NB226_239.out _; (with_reducible repeat (first | refine blk_drewN ?_ _ | refine blk_drew ?_ | refine blk_alloc ?_ _)); exact BK226.out) hb); have n6_ := A_ (blk_below (g := gb239) (o := .cells #[.slice Ao68 t235.length co68] 26 (0, 0)) (by (with_reducible repeat (first | refine blk_drewN ?_ _ | refine blk_drew ?_ | refine blk_alloc ?_ _)); refine blk_put (cs := #[.slice none 0 0]) ?_ 0 _ rfl; (with_reducible repeat (first | refine blk_drewN ?_ _ | refine blk_drew ?_ | refine blk_alloc ?_ _)); exact BK239.out) hb); have n7_ := A_ (below_step Z26 hb); clear HO231; clear HO234; clear HO237; clear BK225; clear BK226; clear BK239; clear HB; have HO231 := n0_; have HO234 := n1_; have HO237 := n2_; have HO242 := n3_; have BK225 := n4_; have BK226 := n5_; have BK239 := n6_; have HB := n7_; clear n0_ n1_ n2_ n3_ n4_ n5_ n6_ n7_; (try clear hb); (try clear hb2); (try clear hk); (try clear hi); (try clear ho0)) | ((with_reducible refine gate_dst (N := 10) rfl ?_); refine box_event ?hg (N := 10) ?hd (cs := #[.slice none 0 0]) (t := 26) ?hr ?_; (case hd => rfl); (case hg => rfl); (case hr => first | (go_simp; done) | (go_simp; rfl)); intro gb243 hg w73 hbox hb; have n0_ := A_ (Kd.R_below Z52 hb); have n1_ := A_ (Kd.R_below Z51 hb); have n2_ := A_ (Kd.R_below Z50 hb); have n3_ := A_ (Kd.R_below Z49 hb); have n4_ := A_ (blk_below (g := gb225) (o := .cells #[.slice A0_0 l0_0.length c0_0] 24 (0, 0)) Z41 hb); have n5_ := A_ (blk_below (g := gb226) (o := .cells #[.slice A2_0 l2_0.length c2_0] 24 (0, 0)) Z40 hb); have n6_ := A_ (blk_below (g := gb239) (o := .cells #[.slice Ao68 t235.length co68] 26 (0, 0)) Z39 hb); have n7_ := A_ (below_step Z26 hb); have n8_ := A_ (hbox); have n9_ := A_ ((by rw [hg]; exact (below_size Z26) : w.heap.size ≤ gb243)); have n10_ := A_ ((by rw [hg]; exact (below_size Z26) : w.heap.size ≤ gb243)); have n11_ := A_ ((by rw [hg]; exact Nat.ne_of_lt (blk_lt (g := gb225) (o := .cells #[.slice A0_0 l0_0.length c0_0] 24 (0, 0)) Z41) : gb225 ≠ gb243)); have n12_ := A_ ((by rw [hg]; exact Nat.ne_of_gt (blk_lt (g := gb225) (o := .cells #[.slice A0_0 l0_0.length c0_0] 24 (0, 0)) Z41) : gb243 ≠ gb225)); have n13_ := A_ ((by rw [hg]; exact Nat.ne_of_lt (blk_lt (g := gb226) (o := .cells #[.slice A2_0 l2_0.length c2_0] 24 (0, 0)) Z40) : gb226 ≠ gb243)); have n14_ := A_ ((by rw [hg]; exact Nat.ne_of_gt (blk_lt (g := gb226) (o := .cells #[.slice A2_0 l2_0.length c2_0] 24 (0, 0)) Z40) : gb243 ≠ gb226)); have n15_ := A_ ((by rw [hg]; exact Nat.ne_of_lt (blk_lt (g := gb239) (o := .cells #[.slice Ao68 t235.length co68] 26 (0, 0)) Z39) : gb239 ≠ gb243)); have n16_ := A_ ((by rw [hg]; exact Nat.ne_of_gt (blk_lt (g := gb239) (o := .cells #[.slice Ao68 t235.length co68] 26 (0, 0)) Z39) : gb243 ≠ gb239)); clear HO231; clear HO234; clear HO237; clear HO242; clear BK225; clear BK226; clear BK239; clear HB; have HO231 := n0_; have HO234 := n1_; have HO237 := n2_; have HO242 := n3_; have BK225 := n4_; have BK226 := n5_; have BK239 := n6_; have HB := n7_; have BK243 := n8_; have GW243 := n9_; have GE243 := n10_; have NB225_243 := n11_; have NB243_225 := n12_; have NB226_243 := n13_; have NB243_226 := n14_; have NB239_243 := n15_; have NB243_239 := n16_; clear n0_ n1_ n2_ n3_ n4_ n5_ n6_ n7_ n8_ n9_ n10_ n11_ n12_ n13_ n14_ n15_ n16_; clear hb hbox hg; obtain ⟨Ao74, co74, eo74⟩ := Kd.R_slice HO242.out; subst eo74; have hnb75 := NB243_225.out; have hnc75 := NB225_243.out; have hnb76 := NB243_226.out; have hnc76 := NB226_243.out; have hnb77 := NB243_239.out; have hnc77 := NB239_243.out; have hcz78_0 : w73.cell? ⟨gb243, 0, none⟩ = some (.slice none 0 0) := (blk_cell BK243.out 0).trans rfl; have hfz78_0 := blk_frozen BK243.out 0; have hnb79 := NB226_239.out; have hnc79 := NB239_226.out; have hcz80_0 : w73.cell? ⟨gb226, 0, none⟩ = some (.slice A2_0 l2_0.length c2_0) := (blk_cell BK226.out 0).trans rfl; have hfz80_0 := blk_frozen BK226.out 0) | ((with_reducible refine gate_callee (f := 14) rfl ?_); refine goesL_ (some 41) rfl rfl Try.func14 (by kernel_rfl) rfl #[.agg #[.slice A2_0 l2_0.length c2_0]] rfl Z33 ?_; (with_reducible refine (laws_toTree.calls k _ _ l2_0 t244 _ ?side1 ?side2 A24.out).mono ?_); (case side1 => exact Kd.C_below HR2_0.out Z14); (case side2 => exact HC2_0.out); rintro e w81 ⟨v245, rfl, ho0, hb⟩; refine ⟨_, rfl, ?_⟩; have n0_ := A_ (Kd.R_elder' Z20 (Kd.R_base ho0) hb); have n1_ := A_ (Kd.R_elder' Z21 (Kd.R_base ho0) hb); have n2_ := A_ (Kd.R_elder' Z22 (Kd.R_base ho0) hb); have n3_ := A_ (Kd.R_elder' Z23 (Kd.R_base ho0) hb); have n4_ := A_ (Kd.R_lower (Kd.R_new' (Kd.R_new' (Kd.R_new' (Kd.R_new' ho0 (Kd.R_lt Z20)) (Kd.R_lt Z21)) (Kd.R_lt Z22)) (Kd.R_lt Z23)) (below_size Z14)); have n5_ := A_ (blk_below (g := gb225) (o := .cells #[.slice A0_0 l0_0.length c0_0] 24 (0, 0)) (by (with_reducible repeat (first | refine blk_drewN ?_ _ | refine blk_drew ?_ | refine blk_alloc ?_ _)); refine blk_far ?_ NB225_243.out _; (with_reducible repeat (first | refine blk_drewN ?_ _ | refine blk_drew ?_ | refine blk_alloc ?_ _)); exact BK225.out) hb); have n6_ := A_ (blk_below (g := gb226) (o := .cells #[.slice A2_0 l2_0.length c2_0] 24 (0, 0)) (by (with_reducible repeat (first | refine blk_drewN ?_ _ | refine blk_drew ?_ | refine blk_alloc ?_ _)); refine blk_far ?_ NB226_243.out _; (with_reducible repeat (first | refine blk_drewN ?_ _ | refine blk_drew ?_ | refine blk_alloc ?_ _)); exact BK226.out) hb); have n7_ := A_ (blk_below (g := gb239) (o := .cells #[.slice Ao68 t235.length co68] 26 (0, 0)) (by (with_reducible repeat (first | refine blk_drewN ?_ _ | refine blk_drew ?_ | refine blk_alloc ?_ _)); refine blk_far ?_ NB239_243.out _; (with_reducible repeat (first | refine blk_drewN ?_ _ | refine blk_drew ?_ | refine blk_alloc ?_ _)); exact BK239.out) hb); have n8_ := A_ (blk_below (g := gb243) (o := .cells #[.slice Ao74 t240.length co74] 26 (0, 0)) (by (with_reducible repeat (first | refine blk_drewN ?_ _ | refine blk_drew ?_ | refine blk_alloc ?_ _)); refine blk_put (cs := #[.slice none 0 0]) ?_ 0 _ rfl; (with_reducible repeat (first | refine blk_drewN ?_ _ | refine blk_drew ?_ | refine blk_alloc ?_ _)); exact BK243.out) hb); have n9_ := A_ (below_step Z14 hb); clear HO231; clear HO234; clear HO237; clear HO242; clear BK225; clear BK226; clear BK239; clear BK243; clear HB; have HO231 := n0_; have HO234 := n1_; have HO237 := n2_; have HO242 := n3_; have HO246 := n4_; have BK225 := n5_; have BK226 := n6_; have BK239 := n7_; have BK243 := n8_; have HB := n9_; clear n0_ n1_ n2_ n3_ n4_ n5_ n6_ n7_ n8_ n9_; (try clear hb); (try clear hb2); (try clear hk); (try clear hi); (try clear ho0)) | ((with_reducible refine gate_dst (N := 11) rfl ?_); refine box_event ?hg (N := 11) ?hd (cs := #[.slice none 0 0]) (t := 26) ?hr ?_; (case hd => rfl); (case hg => rfl); (case hr => first | (go_simp; done) | (go_simp; rfl)); intro gb247 hg w82 hbox hb; have n0_ := A_ (Kd.R_below Z52 hb); have n1_ := A_ (Kd.R_below Z51 hb); have n2_ := A_ (Kd.R_below Z50 hb); have n3_ := A_ (Kd.R_below Z49 hb); have n4_ := A_ (Kd.R_below Z48 hb); have n5_ := A_ (blk_below (g := gb225) (o := .cells #[.slice A0_0 l0_0.length c0_0] 24 (0, 0)) Z41 hb); have n6_ := A_ (blk_below (g := gb226) (o := .cells #[.slice A2_0 l2_0.length c2_0] 24 (0, 0)) Z40 hb); have n7_ := A_ (blk_below (g := gb239) (o := .cells #[.slice Ao68 t235.length co68] 26 (0, 0)) Z39 hb); have n8_ := A_ (blk_below (g := gb243) (o := .cells #[.slice Ao74 t240.length co74] 26 (0, 0)) Z38 hb); have n9_ := A_ (below_step Z14 hb); have n10_ := A_ (hbox); have n11_ := A_ ((by rw [hg]; exact (below_size Z14) : w.heap.size ≤ gb247)); have n12_ := A_ ((by rw [hg]; exact (below_size Z14) : w.heap.size ≤ gb247)); have n13_ := A_ ((by rw [hg]; exact Nat.ne_of_lt (blk_lt (g := gb225) (o := .cells #[.slice A0_0 l0_0.length c0_0] 24 (0, 0)) Z41) : gb225 ≠ gb247)); have n14_ := A_ ((by rw [hg]; exact Nat.ne_of_gt (blk_lt (g := gb225) (o := .cells #[.slice A0_0 l0_0.length c0_0] 24 (0, 0)) Z41) : gb247 ≠ gb225)); have n15_ := A_ ((by rw [hg]; exact Nat.ne_of_lt (blk_lt (g := gb226) (o := .cells #[.slice A2_0 l2_0.length c2_0] 24 (0, 0)) Z40) : gb226 ≠ gb247)); have n16_ := A_ ((by rw [hg]; exact Nat.ne_of_gt (blk_lt (g := gb226) (o := .cells #[.slice A2_0 l2_0.length c2_0] 24 (0, 0)) Z40) : gb247 ≠ gb226)); have n17_ := A_ ((by rw [hg]; exact Nat.ne_of_lt (blk_lt (g := gb239) (o := .cells #[.slice Ao68 t235.length co68] 26 (0, 0)) Z39) : gb239 ≠ gb247)); have n18_ := A_ ((by rw [hg]; exact Nat.ne_of_gt (blk_lt (g := gb239) (o := .cells #[.slice Ao68 t235.length co68] 26 (0, 0)) Z39) : gb247 ≠ gb239)); have n19_ := A_ ((by rw [hg]; exact Nat.ne_of_lt (blk_lt (g := gb243) (o := .cells #[.slice Ao74 t240.length co74] 26 (0, 0)) Z38) : gb243 ≠ gb247)); have n20_ := A_ ((by rw [hg]; exact Nat.ne_of_gt (blk_lt (g := gb243) (o := .cells #[.slice Ao74 t240.length co74] 26 (0, 0)) Z38) : gb247 ≠ gb243)); clear HO231; clear HO234; clear HO237; clear HO242; clear HO246; clear BK225; clear BK226; clear BK239; clear BK243; clear HB; have HO231 := n0_; have HO234 := n1_; have HO237 := n2_; have HO242 := n3_; have HO246 := n4_; have BK225 := n5_; have BK226 := n6_; have BK239 := n7_; have BK243 := n8_; have HB := n9_; have BK247 := n10_; have GW247 := n11_; have GE247 := n12_; have NB225_247 := n13_; have NB247_225 := n14_; have NB226_247 := n15_; have NB247_226 := n16_; have NB239_247 := n17_; have NB247_239 := n18_; have NB243_247 := n19_; have NB247_243 := n20_; clear n0_ n1_ n2_ n3_ n4_ n5_ n6_ n7_ n8_ n9_ n10_ n11_ n12_ n13_ n14_ n15_ n16_ n17_ n18_ n19_ n20_; clear hb hbox hg; obtain ⟨Ao83, co83, eo83⟩ := Kd.R_slice HO246.out; subst eo83; have hnb84 := NB247_225.out; have hnc84 := NB225_247.out; have hnb85 := NB247_226.out; have hnc85 := NB226_247.out; have hnb86 := NB247_239.out; have hnc86 := NB239_247.out; have hnb87 := NB247_243.out; have hnc87 := NB243_247.out; have hcz88_0 : w82.cell? ⟨gb247, 0, none⟩ = some (.slice none 0 0) := (blk_cell BK247.out 0).trans rfl; have hfz88_0 := blk_frozen BK247.out 0) | ((with_reducible refine gate_store (t := 26) (p := 11) rfl ?_); refine store_event (t := 26) (p := 11) (v := ?vo_w89) (w1 := (w82.setCell ⟨gb247, 0, none⟩ (.slice Ao83 t244.length co83))) ?hg ?ho ?hn ?hr ?_; (case ho => rfl); (case hg => rfl); (case hn => rfl); (case hr => first | (go_simp; done) | (go_simp; rfl)); intro w89 hw; have n0_ : Aside0 (Kd.R (Kd.int .i64) 2 w89 w.heap.size (fun k_ => some k_ ≠ (v233 : Value).ownBlock ∧ some k_ ≠ (.slice Ao68 t235.length co68 : Value).ownBlock ∧ some k_ ≠ (.slice Ao74 t240.length co74 : Value).ownBlock ∧ some k_ ≠ (.slice Ao83 t244.length co83 : Value).ownBlock) v230 t229) := ⟨(by rw [hw]; exact (by (with_reducible repeat (first | apply Kd.R_alloc | apply Kd.R_drewN | apply Kd.R_drew)); exact Kd.R_mono (Kd.R_far (p := ⟨gb247, 0, none⟩) (Kd.R_types HO231.out BK247.out (by decide)) (fun _ hk => hk.2) (.slice Ao83 t244.length co83)) (fun _ hk => ⟨hk.1.1.1.1, ⟨hk.1.1.1.2, ⟨hk.1.1.2, hk.1.2⟩⟩⟩)))⟩; have n1_ : Aside0 (Kd.R (Kd.int .i64) 2 w89 w.heap.size (fun k_ => some k_ ≠ (v230 : Value).ownBlock ∧ some k_ ≠ (.slice Ao68 t235.length co68 : Value).ownBlock ∧ some k_ ≠ (.slice Ao74 t240.length co74 : Value).ownBlock ∧ some k_ ≠ (.slice Ao83 t244.length co83 : Value).ownBlock) v233 t232) := ⟨(by rw [hw]; exact (by (with_reducible repeat (first | apply Kd.R_alloc | apply Kd.R_drewN | apply Kd.R_drew)); exact Kd.R_mono (Kd.R_far (p := ⟨gb247, 0, none⟩) (Kd.R_types HO234.out BK247.out (by decide)) (fun _ hk => hk.2) (.slice Ao83 t244.length co83)) (fun _ hk => ⟨hk.1.1.1.1, ⟨hk.1.1.1.2, ⟨hk.1.1.2, hk.1.2⟩⟩⟩)))⟩; have n2_ : Aside0 (Kd.R (Kd.int .i64) 2 w89 w.heap.size (fun k_ => some k_ ≠ (v230 : Value).ownBlock ∧ some k_ ≠ (v233 : Value).ownBlock ∧ some k_ ≠ (.slice Ao74 t240.length co74 : Value).ownBlock ∧ some k_ ≠ (.slice Ao83 t244.length co83 : Value).ownBlock) (.slice Ao68 t235.length co68) t235) := ⟨(by rw [hw]; exact (by (with_reducible repeat (first | apply Kd.R_alloc | apply Kd.R_drewN | apply Kd.R_drew)); exact Kd.R_mono (Kd.R_far (p := ⟨gb247, 0, none⟩) (Kd.R_types HO237.out BK247.out (by decide)) (fun _ hk => hk.2) (.slice Ao83 t244.length co83)) (fun _ hk => ⟨hk.1.1.1.1, ⟨hk.1.1.1.2, ⟨hk.1.1.2, hk.1.2⟩⟩⟩)))⟩; have n3_ : Aside0 (Kd.R (Kd.int .i64) 2 w89 w.heap.size (fun k_ => some k_ ≠ (v230 : Value).ownBlock ∧ some k_ ≠ (v233 : Value).ownBlock ∧ some k_ ≠ (.slice Ao68 t235.length co68 : Value).ownBlock ∧ some k_ ≠ (.slice Ao83 t244.length co83 : Value).ownBlock) (.slice Ao74 t240.length co74) t240) := ⟨(by rw [hw]; exact (by (with_reducible repeat (first | apply Kd.R_alloc | apply Kd.R_drewN | apply Kd.R_drew)); exact Kd.R_mono (Kd.R_far (p := ⟨gb247, 0, none⟩) (Kd.R_types HO242.out BK247.out (by decide)) (fun _ hk => hk.2) (.slice Ao83 t244.length co83)) (fun _ hk => ⟨hk.1.1.1.1.2, ⟨hk.1.1.1.2, ⟨hk.1.1.2, hk.1.2⟩⟩⟩)))⟩; have n4_ : Aside0 (Kd.R (Kd.int .i64) 2 w89 w.heap.size (fun k_ => some k_ ≠ (v230 : Value).ownBlock ∧ some k_ ≠ (v233 : Value).ownBlock ∧ some k_ ≠ (.slice Ao68 t235.length co68 : Value).ownBlock ∧ some k_ ≠ (.slice Ao74 t240.length co74 : Value).ownBlock) (.slice Ao83 t244.length co83) t244) := ⟨(by rw [hw]; exact (by (with_reducible repeat (first | apply Kd.R_alloc | apply Kd.R_drewN | apply Kd.R_drew)); exact Kd.R_mono (Kd.R_far (p := ⟨gb247, 0, none⟩) (Kd.R_types HO246.out BK247.out (by decide)) (fun _ hk => hk.2) (.slice Ao83 t244.length co83)) (fun _ hk => ⟨hk.1.1.1.1.2, ⟨hk.1.1.1.2, ⟨hk.1.1.2, hk.1.2⟩⟩⟩)))⟩; have n5_ : Aside0 (w89.heap[gb225]? = some (.cells #[.slice A0_0 l0_0.length c0_0] 24 (0, 0))) := ⟨(by rw [hw]; exact (by (with_reducible repeat (first | refine blk_drewN ?_ _ | refine blk_drew ?_ | refine blk_alloc ?_ _)); refine blk_far ?_ NB225_247.out _; (with_reducible repeat (first | refine blk_drewN ?_ _ | refine blk_drew ?_ | refine blk_alloc ?_ _)); exact BK225.out))⟩; have n6_ : Aside0 (w89.heap[gb226]? = some (.cells #[.slice A2_0 l2_0.length c2_0] 24 (0, 0))) := ⟨(by rw [hw]; exact (by (with_reducible repeat (first | refine blk_drewN ?_ _ | refine blk_drew ?_ | refine blk_alloc ?_ _)); refine blk_far ?_ NB226_247.out _; (with_reducible repeat (first | refine blk_drewN ?_ _ | refine blk_drew ?_ | refine blk_alloc ?_ _)); exact BK226.out))⟩; have n7_ : Aside0 (w89.heap[gb239]? = some (.cells #[.slice Ao68 t235.length co68] 26 (0, 0))) := ⟨(by rw [hw]; exact (by (with_reducible repeat (first | refine blk_drewN ?_ _ | refine blk_drew ?_ | refine blk_alloc ?_ _)); refine blk_far ?_ NB239_247.out _; (with_reducible repeat (first | refine blk_drewN ?_ _ | refine blk_drew ?_ | refine blk_alloc ?_ _)); exact BK239.out))⟩; have n8_ : Aside0 (w89.heap[gb243]? = some (.cells #[.slice Ao74 t240.length co74] 26 (0, 0))) := ⟨(by rw [hw]; exact (by (with_reducible repeat (first | refine blk_drewN ?_ _ | refine blk_drew ?_ | refine blk_alloc ?_ _)); refine blk_far ?_ NB243_247.out _; (with_reducible repeat (first | refine blk_drewN ?_ _ | refine blk_drew ?_ | refine blk_alloc ?_ _)); exact BK243.out))⟩; have n9_ : Aside0 (w89.heap[gb247]? = some (.cells #[.slice Ao83 t244.length co83] 26 (0, 0))) := ⟨(by rw [hw]; exact (by (with_reducible repeat (first | refine blk_drewN ?_ _ | refine blk_drew ?_ | refine blk_alloc ?_ _)); refine blk_put (cs := #[.slice none 0 0]) ?_ 0 _ rfl; (with_reducible repeat (first | refine blk_drewN ?_ _ | refine blk_drew ?_ | refine blk_alloc ?_ _)); exact BK247.out))⟩; have n10_ : Aside0 (Below w.heap.size w w89) := ⟨(by rw [hw]; exact Z13)⟩; clear hw; clear HO231; clear HO234; clear HO237; clear HO242; clear HO246; clear BK225; clear BK226; clear BK239; clear BK243; clear BK247; clear HB; have HO231 := n0_; have HO234 := n1_; have HO237 := n2_; have HO242 := n3_; have HO246 := n4_; have BK225 := n5_; have BK226 := n6_; have BK239 := n7_; have BK243 := n8_; have BK247 := n9_; have HB := n10_; clear n0_ n1_ n2_ n3_ n4_ n5_ n6_ n7_ n8_ n9_ n10_; have hcz90_0 : w89.cell? ⟨gb243, 0, none⟩ = some (.slice Ao74 t240.length co74) := (blk_cell BK243.out 0).trans rfl; have hfz90_0 := blk_frozen BK243.out 0; have hcz91_0 : w89.cell? ⟨gb247, 0, none⟩ = some (.slice Ao83 t244.length co83) := (blk_cell BK247.out 0).trans rfl; have hfz91_0 := blk_frozen BK247.out 0) | ((with_reducible refine gate_callee (f := 31) rfl ?_); refine goesL_ (some 46) rfl rfl Try.func31 (by kernel_rfl) rfl #[.agg #[.slice Ao74 t240.length co74], .int .i64 a1, .agg #[.slice Ao83 t244.length co83]] rfl Z33 ?_; (with_reducible refine (impl_ReplaceAt.calls k (fun k_ => some k_ = (.slice Ao74 t240.length co74 : Value).ownBlock) _ _ t240 a1 (fun k_ => some k_ = (.slice Ao83 t244.length co83 : Value).ownBlock) _ _ t244 t248 t251 _ ?side1 ?side2 A25.out).mono ?_); (case side1 => exact Kd.R_V (Kd.R_tight rfl (Kd.R_types (Kd.R_types (Kd.R_types (Kd.R_types (Kd.R_types (HO242.out) BK225.out (by decide)) BK226.out (by decide)) BK239.out (by decide)) BK243.out (by decide)) BK247.out (by decide)))); (case side2 => exact Kd.R_V (Kd.R_tight rfl (Kd.R_types (Kd.R_types (Kd.R_types (Kd.R_types (Kd.R_types (HO246.out) BK225.out (by decide)) BK226.out (by decide)) BK239.out (by decide)) BK243.out (by decide)) BK247.out (by decide)))); rintro e w92 ⟨v249, rfl, ho0, hb⟩; refine ⟨_, rfl, ?_⟩; have n0_ := A_ (Kd.R_elder' Z52 (Kd.R_base ho0) hb); have n1_ := A_ (Kd.R_elder' Z51 (Kd.R_base ho0) hb); have n2_ := A_ (Kd.R_elder' Z50 (Kd.R_base ho0) hb); have n3_ := A_ (Kd.R_elder' Z49 (Kd.R_base ho0) hb); have n4_ := A_ (Kd.R_elder' Z48 (Kd.R_base ho0) hb); have n5_ := A_ (Kd.R_lower (Kd.R_new' (Kd.R_new' (Kd.R_new' (Kd.R_new' (Kd.R_new' (Kd.R_mono (ok' := fun k_ => True) ho0 (fun _ hk_ => trivial)) (Kd.R_lt Z52)) (Kd.R_lt Z51)) (Kd.R_lt Z50)) (Kd.R_lt Z49)) (Kd.R_lt Z48)) (below_size Z13)); have n6_ := A_ (blk_below (g := gb225) (o := .cells #[.slice A0_0 l0_0.length c0_0] 24 (0, 0)) Z41 hb); have n7_ := A_ (blk_below (g := gb226) (o := .cells #[.slice A2_0 l2_0.length c2_0] 24 (0, 0)) Z40 hb); have n8_ := A_ (blk_below (g := gb239) (o := .cells #[.slice Ao68 t235.length co68] 26 (0, 0)) Z39 hb); have n9_ := A_ (blk_below (g := gb243) (o := .cells #[.slice Ao74 t240.length co74] 26 (0, 0)) Z38 hb); have n10_ := A_ (blk_below (g := gb247) (o := .cells #[.slice Ao83 t244.length co83] 26 (0, 0)) Z37 hb); have n11_ := A_ (below_step Z13 hb); clear HO231; clear HO234; clear HO237; clear HO242; clear HO246; clear BK225; clear BK226; clear BK239; clear BK243; clear BK247; clear HB; have HO231 := n0_; have HO234 := n1_; have HO237 := n2_; have HO242 := n3_; have HO246 := n4_; have HO250 := n5_; have BK225 := n6_; have BK226 := n7_; have BK239 := n8_; have BK243 := n9_; have BK247 := n10_; have HB := n11_; clear n0_ n1_ n2_ n3_ n4_ n5_ n6_ n7_ n8_ n9_ n10_ n11_; (try clear hb); (try clear hb2); (try clear hk); (try clear hi); (try clear ho0)) | ((with_reducible refine gate_dst (N := 12) rfl ?_); refine box_event ?hg (N := 12) ?hd (cs := #[.slice none 0 0]) (t := 26) ?hr ?_; (case hd => rfl); (case hg => rfl); (case hr => first | (go_simp; done) | (go_simp; rfl)); intro gb252 hg w93 hbox hb; have n0_ := A_ (Kd.R_below Z52 hb); have n1_ := A_ (Kd.R_below Z51 hb); have n2_ := A_ (Kd.R_below Z50 hb); have n3_ := A_ (Kd.R_below Z49 hb); have n4_ := A_ (Kd.R_below Z48 hb); have n5_ := A_ (Kd.R_below Z47 hb); have n6_ := A_ (blk_below (g := gb225) (o := .cells #[.slice A0_0 l0_0.length c0_0] 24 (0, 0)) Z41 hb); have n7_ := A_ (blk_below (g := gb226) (o := .cells #[.slice A2_0 l2_0.length c2_0] 24 (0, 0)) Z40 hb); have n8_ := A_ (blk_below (g := gb239) (o := .cells #[.slice Ao68 t235.length co68] 26 (0, 0)) Z39 hb); have n9_ := A_ (blk_below (g := gb243) (o := .cells #[.slice Ao74 t240.length co74] 26 (0, 0)) Z38 hb); have n10_ := A_ (blk_below (g := gb247) (o := .cells #[.slice Ao83 t244.length co83] 26 (0, 0)) Z37 hb); have n11_ := A_ (below_step Z13 hb); have n12_ := A_ (hbox); have n13_ := A_ ((by rw [hg]; exact (below_size Z13) : w.heap.size ≤ gb252)); have n14_ := A_ ((by rw [hg]; exact (below_size Z13) : w.heap.size ≤ gb252)); have n15_ := A_ ((by rw [hg]; exact Nat.ne_of_lt (blk_lt (g := gb225) (o := .cells #[.slice A0_0 l0_0.length c0_0] 24 (0, 0)) Z41) : gb225 ≠ gb252)); have n16_ := A_ ((by rw [hg]; exact Nat.ne_of_gt (blk_lt (g := gb225) (o := .cells #[.slice A0_0 l0_0.length c0_0] 24 (0, 0)) Z41) : gb252 ≠ gb225)); have n17_ := A_ ((by rw [hg]; exact Nat.ne_of_lt (blk_lt (g := gb226) (o := .cells #[.slice A2_0 l2_0.length c2_0] 24 (0, 0)) Z40) : gb226 ≠ gb252)); have n18_ := A_ ((by rw [hg]; exact Nat.ne_of_gt (blk_lt (g := gb226) (o := .cells #[.slice A2_0 l2_0.length c2_0] 24 (0, 0)) Z40) : gb252 ≠ gb226)); have n19_ := A_ ((by rw [hg]; exact Nat.ne_of_lt (blk_lt (g := gb239) (o := .cells #[.slice Ao68 t235.length co68] 26 (0, 0)) Z39) : gb239 ≠ gb252)); have n20_ := A_ ((by rw [hg]; exact Nat.ne_of_gt (blk_lt (g := gb239) (o := .cells #[.slice Ao68 t235.length co68] 26 (0, 0)) Z39) : gb252 ≠ gb239)); have n21_ := A_ ((by rw [hg]; exact Nat.ne_of_lt (blk_lt (g := gb243) (o := .cells #[.slice Ao74 t240.length co74] 26 (0, 0)) Z38) : gb243 ≠ gb252)); have n22_ := A_ ((by rw [hg]; exact Nat.ne_of_gt (blk_lt (g := gb243) (o := .cells #[.slice Ao74 t240.length co74] 26 (0, 0)) Z38) : gb252 ≠ gb243)); have n23_ := A_ ((by rw [hg]; exact Nat.ne_of_lt (blk_lt (g := gb247) (o := .cells #[.slice Ao83 t244.length co83] 26 (0, 0)) Z37) : gb247 ≠ gb252)); have n24_ := A_ ((by rw [hg]; exact Nat.ne_of_gt (blk_lt (g := gb247) (o := .cells #[.slice Ao83 t244.length co83] 26 (0, 0)) Z37) : gb252 ≠ gb247)); clear HO231; clear HO234; clear HO237; clear HO242; clear HO246; clear HO250; clear BK225; clear BK226; clear BK239; clear BK243; clear BK247; clear HB; have HO231 := n0_; have HO234 := n1_; have HO237 := n2_; have HO242 := n3_; have HO246 := n4_; have HO250 := n5_; have BK225 := n6_; have BK226 := n7_; have BK239 := n8_; have BK243 := n9_; have BK247 := n10_; have HB := n11_; have BK252 := n12_; have GW252 := n13_; have GE252 := n14_; have NB225_252 := n15_; have NB252_225 := n16_; have NB226_252 := n17_; have NB252_226 := n18_; have NB239_252 := n19_; have NB252_239 := n20_; have NB243_252 := n21_; have NB252_243 := n22_; have NB247_252 := n23_; have NB252_247 := n24_; clear n0_ n1_ n2_ n3_ n4_ n5_ n6_ n7_ n8_ n9_ n10_ n11_ n12_ n13_ n14_ n15_ n16_ n17_ n18_ n19_ n20_ n21_ n22_ n23_ n24_; clear hb hbox hg; obtain ⟨Ao94, co94, eo94⟩ := Kd.R_slice HO250.out; subst eo94; have hnb95 := NB252_225.out; have hnc95 := NB225_252.out; have hnb96 := NB252_226.out; have hnc96 := NB226_252.out; have hnb97 := NB252_239.out; have hnc97 := NB239_252.out; have hnb98 := NB252_243.out; have hnc98 := NB243_252.out; have hnb99 := NB252_247.out; have hnc99 := NB247_252.out; have hcz100_0 : w93.cell? ⟨gb252, 0, none⟩ = some (.slice none 0 0) := (blk_cell BK252.out 0).trans rfl; have hfz100_0 := blk_frozen BK252.out 0; have hcz101_0 : w93.cell? ⟨gb239, 0, none⟩ = some (.slice Ao68 t235.length co68) := (blk_cell BK239.out 0).trans rfl; have hfz101_0 := blk_frozen BK239.out 0) | ((with_reducible refine gate_callee (f := 16) rfl ?_); refine goesL_ (some 51) rfl rfl Try.func16 (by kernel_rfl) rfl #[.agg #[.slice Ao94 t248.length co94], .agg #[.slice Ao68 t235.length co68]] rfl Z33 ?_; (with_reducible refine (laws_eqTree.calls k _ _ t248 _ _ t235 true _ ?side1 ?side2 ?side3 ?side4 A26.out).mono ?_); (case side1 => refine (Kd.R_reads' (e := 2) (base := w.heap.size) (ok := fun k_ => (((((True ∧ some k_ ≠ (v230 : Value).ownBlock) ∧ some k_ ≠ (v233 : Value).ownBlock) ∧ some k_ ≠ (.slice Ao68 t235.length co68 : Value).ownBlock) ∧ some k_ ≠ (.slice Ao74 t240.length co74 : Value).ownBlock) ∧ some k_ ≠ (.slice Ao83 t244.length co83 : Value).ownBlock)) (n := t248.length) (c := co94) ?_).2.2; exact Z25); (case side2 => exact (Kd.R_reads' HO250.out).2.1); (case side3 => refine (Kd.R_reads' (e := 2) (base := w.heap.size) (ok := fun k_ => ((some k_ ≠ (v230 : Value).ownBlock ∧ (some k_ ≠ (v233 : Value).ownBlock ∧ (some k_ ≠ (.slice Ao74 t240.length co74 : Value).ownBlock ∧ some k_ ≠ (.slice Ao83 t244.length co83 : Value).ownBlock))) ∧ some k_ ≠ (.slice Ao94 t248.length co94 : Value).ownBlock)) (n := t235.length) (c := co68) ?_).2.2; exact Z24); (case side4 => exact (Kd.R_reads' HO237.out).2.1); rintro e w102 ⟨rfl, hb⟩; refine ⟨_, rfl, ?_⟩; have n0_ := A_ (Kd.R_below (by (with_reducible repeat (first | apply Kd.R_alloc | apply Kd.R_drewN | apply Kd.R_drew)); exact (Kd.R_mono (Kd.R_far (p := ⟨gb252, 0, none⟩) (Kd.R_types HO231.out BK252.out (by decide)) (fun _ hk => hk.2) (.slice Ao94 t248.length co94)) (fun _ h_ => h_.1))) hb); have n1_ := A_ (Kd.R_below (by (with_reducible repeat (first | apply Kd.R_alloc | apply Kd.R_drewN | apply Kd.R_drew)); exact (Kd.R_mono (Kd.R_far (p := ⟨gb252, 0, none⟩) (Kd.R_types HO234.out BK252.out (by decide)) (fun _ hk => hk.2) (.slice Ao94 t248.length co94)) (fun _ h_ => h_.1))) hb); have n2_ := A_ (Kd.R_below Z24 hb); have n3_ := A_ (Kd.R_below (by (with_reducible repeat (first | apply Kd.R_alloc | apply Kd.R_drewN | apply Kd.R_drew)); exact (Kd.R_mono (Kd.R_far (p := ⟨gb252, 0, none⟩) (Kd.R_types HO242.out BK252.out (by decide)) (fun _ hk => hk.2) (.slice Ao94 t248.length co94)) (fun _ h_ => h_.1))) hb); have n4_ := A_ (Kd.R_below (by (with_reducible repeat (first | apply Kd.R_alloc | apply Kd.R_drewN | apply Kd.R_drew)); exact (Kd.R_mono (Kd.R_far (p := ⟨gb252, 0, none⟩) (Kd.R_types HO246.out BK252.out (by decide)) (fun _ hk => hk.2) (.slice Ao94 t248.length co94)) (fun _ h_ => h_.1))) hb); have n5_ := A_ (Kd.R_below Z25 hb); have n6_ := A_ (blk_below (g := gb225) (o := .cells #[.slice A0_0 l0_0.length c0_0] 24 (0, 0)) (by (with_reducible repeat (first | refine blk_drewN ?_ _ | refine blk_drew ?_ | refine blk_alloc ?_ _)); refine blk_far ?_ NB225_252.out _; (with_reducible repeat (first | refine blk_drewN ?_ _ | refine blk_drew ?_ | refine blk_alloc ?_ _)); exact BK225.out) hb); have n7_ := A_ (blk_below (g := gb226) (o := .cells #[.slice A2_0 l2_0.length c2_0] 24 (0, 0)) (by (with_reducible repeat (first | refine blk_drewN ?_ _ | refine blk_drew ?_ | refine blk_alloc ?_ _)); refine blk_far ?_ NB226_252.out _; (with_reducible repeat (first | refine blk_drewN ?_ _ | refine blk_drew ?_ | refine blk_alloc ?_ _)); exact BK226.out) hb); have n8_ := A_ (blk_below (g := gb239) (o := .cells #[.slice Ao68 t235.length co68] 26 (0, 0)) (by (with_reducible repeat (first | refine blk_drewN ?_ _ | refine blk_drew ?_ | refine blk_alloc ?_ _)); refine blk_far ?_ NB239_252.out _; (with_reducible repeat (first | refine blk_drewN ?_ _ | refine blk_drew ?_ | refine blk_alloc ?_ _)); exact BK239.out) hb); have n9_ := A_ (blk_below (g := gb243) (o := .cells #[.slice Ao74 t240.length co74] 26 (0, 0)) (by (with_reducible repeat (first | refine blk_drewN ?_ _ | refine blk_drew ?_ | refine blk_alloc ?_ _)); refine blk_far ?_ NB243_252.out _; (with_reducible repeat (first | refine blk_drewN ?_ _ | refine blk_drew ?_ | refine blk_alloc ?_ _)); exact BK243.out) hb); have n10_ := A_ (blk_below (g := gb247) (o := .cells #[.slice Ao83 t244.length co83] 26 (0, 0)) (by (with_reducible repeat (first | refine blk_drewN ?_ _ | refine blk_drew ?_ | refine blk_alloc ?_ _)); refine blk_far ?_ NB247_252.out _; (with_reducible repeat (first | refine blk_drewN ?_ _ | refine blk_drew ?_ | refine blk_alloc ?_ _)); exact BK247.out) hb); have n11_ := A_ (blk_below (g := gb252) (o := .cells #[.slice Ao94 t248.length co94] 26 (0, 0)) (by (with_reducible repeat (first | refine blk_drewN ?_ _ | refine blk_drew ?_ | refine blk_alloc ?_ _)); refine blk_put (cs := #[.slice none 0 0]) ?_ 0 _ rfl; (with_reducible repeat (first | refine blk_drewN ?_ _ | refine blk_drew ?_ | refine blk_alloc ?_ _)); exact BK252.out) hb); have n12_ := A_ (below_step Z1 hb); clear HO231; clear HO234; clear HO237; clear HO242; clear HO246; clear HO250; clear BK225; clear BK226; clear BK239; clear BK243; clear BK247; clear BK252; clear HB; have HO231 := n0_; have HO234 := n1_; have HO237 := n2_; have HO242 := n3_; have HO246 := n4_; have HO250 := n5_; have BK225 := n6_; have BK226 := n7_; have BK239 := n8_; have BK243 := n9_; have BK247 := n10_; have BK252 := n11_; have HB := n12_; clear n0_ n1_ n2_ n3_ n4_ n5_ n6_ n7_ n8_ n9_ n10_ n11_ n12_; (try clear hb); (try clear hb2); (try clear hk); (try clear hi)))
    have n0_ := A_ (Kd.R_drew HO231.out)
    have n1_ := A_ (Kd.R_drew HO234.out)
    have n2_ := A_ (Kd.R_drew HO237.out)
    have n3_ := A_ (Kd.R_drew HO242.out)
    have n4_ := A_ (Kd.R_drew HO246.out)
    have n5_ := A_ (Kd.R_drew HO250.out)
    have n6_ := A_ (blk_drew BK225.out)
    have n7_ := A_ (blk_drew BK226.out)
    have n8_ := A_ (blk_drew BK239.out)
    have n9_ := A_ (blk_drew BK243.out)
    have n10_ := A_ (blk_drew BK247.out)
    have n11_ := A_ (blk_drew BK252.out)
    have n12_ := A_ (below_drew1 HB.out)
    clear HO231
    clear HO234
    clear HO237
    clear HO242
    clear HO246
    clear HO250
    clear BK225
    clear BK226
    clear BK239
    clear BK243
    clear BK247
    clear BK252
    clear HB
    have HO231 := n0_
    have HO234 := n1_
    have HO237 := n2_
    have HO242 := n3_
    have HO246 := n4_
    have HO250 := n5_
    have BK225 := n6_
    have BK226 := n7_
    have BK239 := n8_
    have BK243 := n9_
    have BK247 := n10_
    have BK252 := n11_
    have HB := n12_
    clear n0_ n1_ n2_ n3_ n4_ n5_ n6_ n7_ n8_ n9_ n10_ n11_ n12_
    refine start_ (n := 5) (S := fun w' => w'.cell? ⟨gb243, 0, none⟩ = some (.slice Ao74 t240.length co74) ∧ w'.cell? ⟨gb225, 0, none⟩ = some (.slice A0_0 l0_0.length c0_0)) (ds := []) #[false, false, false, false, false] (by kernel_rfl) rfl rfl ⟨(blk_cell BK243.out 0).trans rfl, (blk_cell BK225.out 0).trans rfl⟩ (fun hHeld => ?_)
    generalize w102.drew = w103 at HO231 HO234 HO237 HO242 HO246 HO250 BK225 BK226 BK239 BK243 BK247 BK252 HB hHeld ⊢
    refine take_ (i := 0) (N := some 58) (v := ?_) (a' := ?_) #[true, false, false, false, false] rfl rfl (by kernel_rfl) (fun _ _ _ h => h) (Or.inl ⟨by rfl, ?_⟩) hHeld ?_ ?_
    rotate_left
    ·rintro w' ⟨s0, s1⟩
     go_simp
     with_reducible rfl
    rotate_left
    ·simp only [Act.put, List.setIfInBounds_toArray, List.set_cons_zero, List.set_cons_succ, i64_w, i32_w]
     rfl
    refine take_ (i := 1) (N := some 59) (v := ?_) (a' := ?_) #[true, true, false, false, false] rfl rfl (by kernel_rfl) (fun _ _ _ h => h) (Or.inl ⟨by rfl, ?_⟩) hHeld ?_ ?_
    rotate_left
    ·rintro w' ⟨s0, s1⟩
     go_simp
     with_reducible rfl
    rotate_left
    ·simp only [Act.put, List.setIfInBounds_toArray, List.set_cons_zero, List.set_cons_succ, i64_w, i32_w]
     rfl
    refine one_ (i := 2) (N := some 60) #[true, true, true, false, false] rfl rfl (by kernel_rfl) (by decide) (fun K hK => ?_)
    refine goes_ Try.func14 (by kernel_rfl) rfl #[.agg #[.slice A0_0 l0_0.length c0_0]] (by rfl) rfl rfl Z33 ?_
    with_reducible refine (laws_toTree.calls k _ _ l0_0 t254 _ ?side1 ?side2 A29.out).mono ?_
    (case side1 => repeat (first | exact (Kd.C_below HR0_0.out HB.out) | (with_reducible refine Kd.C_alloc ?_ _) | (with_reducible refine Kd.C_drewN ?_ _) | (with_reducible refine Kd.C_drew ?_)))
    (case side2 => exact HC0_0.out)
    rintro e w104 ⟨v255, rfl, ho0, hb⟩
    refine ⟨_, rfl, ?_⟩
    have n0_ := A_ (Kd.R_elder' Z52 (Kd.R_base ho0) hb)
    have n1_ := A_ (Kd.R_elder' Z51 (Kd.R_base ho0) hb)
    have n2_ := A_ (Kd.R_elder' Z50 (Kd.R_base ho0) hb)
    have n3_ := A_ (Kd.R_elder' Z49 (Kd.R_base ho0) hb)
    have n4_ := A_ (Kd.R_elder' Z48 (Kd.R_base ho0) hb)
    have n5_ := A_ (Kd.R_elder' Z47 (Kd.R_base ho0) hb)
    have n6_ := A_ (Kd.R_lower (Kd.R_new' (Kd.R_new' (Kd.R_new' (Kd.R_new' (Kd.R_new' (Kd.R_new' ho0 (Kd.R_lt Z52)) (Kd.R_lt Z51)) (Kd.R_lt Z50)) (Kd.R_lt Z49)) (Kd.R_lt Z48)) (Kd.R_lt Z47)) (below_size Z1))
    have n7_ := A_ (blk_below (g := gb225) (o := .cells #[.slice A0_0 l0_0.length c0_0] 24 (0, 0)) Z41 hb)
    have n8_ := A_ (blk_below (g := gb226) (o := .cells #[.slice A2_0 l2_0.length c2_0] 24 (0, 0)) Z40 hb)
    have n9_ := A_ (blk_below (g := gb239) (o := .cells #[.slice Ao68 t235.length co68] 26 (0, 0)) Z39 hb)
    have n10_ := A_ (blk_below (g := gb243) (o := .cells #[.slice Ao74 t240.length co74] 26 (0, 0)) Z38 hb)
    have n11_ := A_ (blk_below (g := gb247) (o := .cells #[.slice Ao83 t244.length co83] 26 (0, 0)) Z37 hb)
    have n12_ := A_ (blk_below (g := gb252) (o := .cells #[.slice Ao94 t248.length co94] 26 (0, 0)) Z36 hb)
    have n13_ := A_ (below_step Z1 hb)
    clear HO231
    clear HO234
    clear HO237
    clear HO242
    clear HO246
    clear HO250
    clear BK225
    clear BK226
    clear BK239
    clear BK243
    clear BK247
    clear BK252
    clear HB
    have HO231 := n0_
    have HO234 := n1_
    have HO237 := n2_
    have HO242 := n3_
    have HO246 := n4_
    have HO250 := n5_
    have HO256 := n6_
    have BK225 := n7_
    have BK226 := n8_
    have BK239 := n9_
    have BK243 := n10_
    have BK247 := n11_
    have BK252 := n12_
    have HB := n13_
    clear n0_ n1_ n2_ n3_ n4_ n5_ n6_ n7_ n8_ n9_ n10_ n11_ n12_ n13_
    (try clear hb)
    (try clear hb2)
    (try clear hk)
    (try clear hi)
    (try clear ho0)
    obtain ⟨Ao105, co105, eo105⟩ := Kd.R_slice HO256.out
    (first | subst eo105 | (injection eo105 with f1_ f2_ f3_; have f4_ := f1_.symm; have f5_ := f3_.symm; clear f1_ f2_ f3_; subst f4_; subst f5_))
    refine hK.out _ _ ⟨(blk_cell BK243.out 0).trans rfl, (blk_cell BK225.out 0).trans rfl⟩ (fun hHeld => ?_)
    clear hK K
    refine norm_ (a' := ?_) ?_ ?_
    rotate_left
    ·show Act.put _ (some 60) _ = _
     simp only [Act.put, List.setIfInBounds_toArray, List.set_cons_zero, List.set_cons_succ, i64_w, i32_w]
     rfl
    refine one_ (i := 3) (N := some 61) #[true, true, true, true, false] rfl rfl (by kernel_rfl) (by decide) (fun K hK => ?_)
    refine goes_ Try.func16 (by kernel_rfl) rfl #[.agg #[.slice Ao74 t240.length co74], .agg #[.slice Ao105 t254.length co105]] (by rfl) rfl rfl Z33 ?_
    with_reducible refine (laws_eqTree.calls k _ _ t240 _ _ t254 true _ ?side1 ?side2 ?side3 ?side4 A30.out).mono ?_
    (case side1 => repeat (first | exact (Kd.R_reads' HO242.out).2.2 | (with_reducible refine Kd.C_alloc ?_ _) | (with_reducible refine Kd.C_drewN ?_ _) | (with_reducible refine Kd.C_drew ?_)))
    (case side2 => exact (Kd.R_reads' HO242.out).2.1)
    (case side3 => repeat (first | exact (Kd.R_reads' HO256.out).2.2 | (with_reducible refine Kd.C_alloc ?_ _) | (with_reducible refine Kd.C_drewN ?_ _) | (with_reducible refine Kd.C_drew ?_)))
    (case side4 => exact (Kd.R_reads' HO256.out).2.1)
    rintro e w106 ⟨rfl, hb⟩
    refine ⟨_, rfl, ?_⟩
    have n0_ := A_ (Kd.R_below Z52 hb)
    have n1_ := A_ (Kd.R_below Z51 hb)
    have n2_ := A_ (Kd.R_below Z50 hb)
    have n3_ := A_ (Kd.R_below Z49 hb)
    have n4_ := A_ (Kd.R_below Z48 hb)
    have n5_ := A_ (Kd.R_below Z47 hb)
    have n6_ := A_ (Kd.R_below Z46 hb)
    have n7_ := A_ (blk_below (g := gb225) (o := .cells #[.slice A0_0 l0_0.length c0_0] 24 (0, 0)) Z41 hb)
    have n8_ := A_ (blk_below (g := gb226) (o := .cells #[.slice A2_0 l2_0.length c2_0] 24 (0, 0)) Z40 hb)
    have n9_ := A_ (blk_below (g := gb239) (o := .cells #[.slice Ao68 t235.length co68] 26 (0, 0)) Z39 hb)
    have n10_ := A_ (blk_below (g := gb243) (o := .cells #[.slice Ao74 t240.length co74] 26 (0, 0)) Z38 hb)
    have n11_ := A_ (blk_below (g := gb247) (o := .cells #[.slice Ao83 t244.length co83] 26 (0, 0)) Z37 hb)
    have n12_ := A_ (blk_below (g := gb252) (o := .cells #[.slice Ao94 t248.length co94] 26 (0, 0)) Z36 hb)
    have n13_ := A_ (below_step Z1 hb)
    clear HO231
    clear HO234
    clear HO237
    clear HO242
    clear HO246
    clear HO250
    clear HO256
    clear BK225
    clear BK226
    clear BK239
    clear BK243
    clear BK247
    clear BK252
    clear HB
    have HO231 := n0_
    have HO234 := n1_
    have HO237 := n2_
    have HO242 := n3_
    have HO246 := n4_
    have HO250 := n5_
    have HO256 := n6_
    have BK225 := n7_
    have BK226 := n8_
    have BK239 := n9_
    have BK243 := n10_
    have BK247 := n11_
    have BK252 := n12_
    have HB := n13_
    clear n0_ n1_ n2_ n3_ n4_ n5_ n6_ n7_ n8_ n9_ n10_ n11_ n12_ n13_
    (try clear hb)
    (try clear hb2)
    (try clear hk)
    (try clear hi)
    refine hK.out _ _ ⟨(blk_cell BK243.out 0).trans rfl, (blk_cell BK225.out 0).trans rfl⟩ (fun hHeld => ?_)
    clear hK K
    refine norm_ (a' := ?_) ?_ ?_
    rotate_left
    ·show Act.put _ (some 61) _ = _
     simp only [Act.put, List.setIfInBounds_toArray, List.set_cons_zero, List.set_cons_succ, i64_w, i32_w]
     rfl
    refine pure_ (i := 4) (N := some 62) (v := ?_) (a' := ?_) #[true, true, true, true, true] rfl rfl (by kernel_rfl) (fun _ _ _ h => h) (Or.inl ⟨by rfl, ?_⟩) ?_ ?_
    rotate_left
    ·intro w'
     go_simp
     with_reducible rfl
    rotate_left
    ·simp only [Act.put, List.setIfInBounds_toArray, List.set_cons_zero, List.set_cons_succ, i64_w, i32_w]
     rfl
    refine done_ (by kernel_rfl) ?_
    try go_wp2
    have n0_ := A_ (Kd.R_drew HO231.out)
    have n1_ := A_ (Kd.R_drew HO234.out)
    have n2_ := A_ (Kd.R_drew HO237.out)
    have n3_ := A_ (Kd.R_drew HO242.out)
    have n4_ := A_ (Kd.R_drew HO246.out)
    have n5_ := A_ (Kd.R_drew HO250.out)
    have n6_ := A_ (Kd.R_drew HO256.out)
    have n7_ := A_ (blk_drew BK225.out)
    have n8_ := A_ (blk_drew BK226.out)
    have n9_ := A_ (blk_drew BK239.out)
    have n10_ := A_ (blk_drew BK243.out)
    have n11_ := A_ (blk_drew BK247.out)
    have n12_ := A_ (blk_drew BK252.out)
    have n13_ := A_ (below_drew1 HB.out)
    clear HO231
    clear HO234
    clear HO237
    clear HO242
    clear HO246
    clear HO250
    clear HO256
    clear BK225
    clear BK226
    clear BK239
    clear BK243
    clear BK247
    clear BK252
    clear HB
    have HO231 := n0_
    have HO234 := n1_
    have HO237 := n2_
    have HO242 := n3_
    have HO246 := n4_
    have HO250 := n5_
    have HO256 := n6_
    have BK225 := n7_
    have BK226 := n8_
    have BK239 := n9_
    have BK243 := n10_
    have BK247 := n11_
    have BK252 := n12_
    have HB := n13_
    clear n0_ n1_ n2_ n3_ n4_ n5_ n6_ n7_ n8_ n9_ n10_ n11_ n12_ n13_
    refine start_ (n := 5) (S := fun w' => w'.cell? ⟨gb247, 0, none⟩ = some (.slice Ao83 t244.length co83) ∧ w'.cell? ⟨gb226, 0, none⟩ = some (.slice A2_0 l2_0.length c2_0)) (ds := []) #[false, false, false, false, false] (by kernel_rfl) rfl rfl ⟨(blk_cell BK247.out 0).trans rfl, (blk_cell BK226.out 0).trans rfl⟩ (fun hHeld => ?_)
    generalize w106.drew = w107 at HO231 HO234 HO237 HO242 HO246 HO250 HO256 BK225 BK226 BK239 BK243 BK247 BK252 HB hHeld ⊢
    refine take_ (i := 0) (N := some 63) (v := ?_) (a' := ?_) #[true, false, false, false, false] rfl rfl (by kernel_rfl) (fun _ _ _ h => h) (Or.inl ⟨by rfl, ?_⟩) hHeld ?_ ?_
    rotate_left
    ·rintro w' ⟨s0, s1⟩
     go_simp
     with_reducible rfl
    rotate_left
    ·simp only [Act.put, List.setIfInBounds_toArray, List.set_cons_zero, List.set_cons_succ, i64_w, i32_w]
     rfl
    refine take_ (i := 1) (N := some 64) (v := ?_) (a' := ?_) #[true, true, false, false, false] rfl rfl (by kernel_rfl) (fun _ _ _ h => h) (Or.inl ⟨by rfl, ?_⟩) hHeld ?_ ?_
    rotate_left
    ·rintro w' ⟨s0, s1⟩
     go_simp
     with_reducible rfl
    rotate_left
    ·simp only [Act.put, List.setIfInBounds_toArray, List.set_cons_zero, List.set_cons_succ, i64_w, i32_w]
     rfl
    refine one_ (i := 2) (N := some 65) #[true, true, true, false, false] rfl rfl (by kernel_rfl) (by decide) (fun K hK => ?_)
    refine goes_ Try.func14 (by kernel_rfl) rfl #[.agg #[.slice A2_0 l2_0.length c2_0]] (by rfl) rfl rfl Z33 ?_
    with_reducible refine (laws_toTree.calls k _ _ l2_0 t258 _ ?side1 ?side2 A32.out).mono ?_
    (case side1 => repeat (first | exact (Kd.C_below HR2_0.out HB.out) | (with_reducible refine Kd.C_alloc ?_ _) | (with_reducible refine Kd.C_drewN ?_ _) | (with_reducible refine Kd.C_drew ?_)))
    (case side2 => exact HC2_0.out)
    rintro e w108 ⟨v259, rfl, ho0, hb⟩
    refine ⟨_, rfl, ?_⟩
    have n0_ := A_ (Kd.R_elder' Z52 (Kd.R_base ho0) hb)
    have n1_ := A_ (Kd.R_elder' Z51 (Kd.R_base ho0) hb)
    have n2_ := A_ (Kd.R_elder' Z50 (Kd.R_base ho0) hb)
    have n3_ := A_ (Kd.R_elder' Z49 (Kd.R_base ho0) hb)
    have n4_ := A_ (Kd.R_elder' Z48 (Kd.R_base ho0) hb)
    have n5_ := A_ (Kd.R_elder' Z47 (Kd.R_base ho0) hb)
    have n6_ := A_ (Kd.R_elder' Z46 (Kd.R_base ho0) hb)
    have n7_ := A_ (Kd.R_lower (Kd.R_new' (Kd.R_new' (Kd.R_new' (Kd.R_new' (Kd.R_new' (Kd.R_new' (Kd.R_new' ho0 (Kd.R_lt Z52)) (Kd.R_lt Z51)) (Kd.R_lt Z50)) (Kd.R_lt Z49)) (Kd.R_lt Z48)) (Kd.R_lt Z47)) (Kd.R_lt Z46)) (below_size Z1))
    have n8_ := A_ (blk_below (g := gb225) (o := .cells #[.slice A0_0 l0_0.length c0_0] 24 (0, 0)) Z41 hb)
    have n9_ := A_ (blk_below (g := gb226) (o := .cells #[.slice A2_0 l2_0.length c2_0] 24 (0, 0)) Z40 hb)
    have n10_ := A_ (blk_below (g := gb239) (o := .cells #[.slice Ao68 t235.length co68] 26 (0, 0)) Z39 hb)
    have n11_ := A_ (blk_below (g := gb243) (o := .cells #[.slice Ao74 t240.length co74] 26 (0, 0)) Z38 hb)
    have n12_ := A_ (blk_below (g := gb247) (o := .cells #[.slice Ao83 t244.length co83] 26 (0, 0)) Z37 hb)
    have n13_ := A_ (blk_below (g := gb252) (o := .cells #[.slice Ao94 t248.length co94] 26 (0, 0)) Z36 hb)
    have n14_ := A_ (below_step Z1 hb)
    clear HO231
    clear HO234
    clear HO237
    clear HO242
    clear HO246
    clear HO250
    clear HO256
    clear BK225
    clear BK226
    clear BK239
    clear BK243
    clear BK247
    clear BK252
    clear HB
    have HO231 := n0_
    have HO234 := n1_
    have HO237 := n2_
    have HO242 := n3_
    have HO246 := n4_
    have HO250 := n5_
    have HO256 := n6_
    have HO260 := n7_
    have BK225 := n8_
    have BK226 := n9_
    have BK239 := n10_
    have BK243 := n11_
    have BK247 := n12_
    have BK252 := n13_
    have HB := n14_
    clear n0_ n1_ n2_ n3_ n4_ n5_ n6_ n7_ n8_ n9_ n10_ n11_ n12_ n13_ n14_
    (try clear hb)
    (try clear hb2)
    (try clear hk)
    (try clear hi)
    (try clear ho0)
    obtain ⟨Ao109, co109, eo109⟩ := Kd.R_slice HO260.out
    (first | subst eo109 | (injection eo109 with f1_ f2_ f3_; have f4_ := f1_.symm; have f5_ := f3_.symm; clear f1_ f2_ f3_; subst f4_; subst f5_))
    refine hK.out _ _ ⟨(blk_cell BK247.out 0).trans rfl, (blk_cell BK226.out 0).trans rfl⟩ (fun hHeld => ?_)
    clear hK K
    refine norm_ (a' := ?_) ?_ ?_
    rotate_left
    ·show Act.put _ (some 65) _ = _
     simp only [Act.put, List.setIfInBounds_toArray, List.set_cons_zero, List.set_cons_succ, i64_w, i32_w]
     rfl
    refine one_ (i := 3) (N := some 66) #[true, true, true, true, false] rfl rfl (by kernel_rfl) (by decide) (fun K hK => ?_)
    refine goes_ Try.func16 (by kernel_rfl) rfl #[.agg #[.slice Ao83 t244.length co83], .agg #[.slice Ao109 t258.length co109]] (by rfl) rfl rfl Z33 ?_
    with_reducible refine (laws_eqTree.calls k _ _ t244 _ _ t258 true _ ?side1 ?side2 ?side3 ?side4 A33.out).mono ?_
    (case side1 => repeat (first | exact (Kd.R_reads' HO246.out).2.2 | (with_reducible refine Kd.C_alloc ?_ _) | (with_reducible refine Kd.C_drewN ?_ _) | (with_reducible refine Kd.C_drew ?_)))
    (case side2 => exact (Kd.R_reads' HO246.out).2.1)
    (case side3 => repeat (first | exact (Kd.R_reads' HO260.out).2.2 | (with_reducible refine Kd.C_alloc ?_ _) | (with_reducible refine Kd.C_drewN ?_ _) | (with_reducible refine Kd.C_drew ?_)))
    (case side4 => exact (Kd.R_reads' HO260.out).2.1)
    rintro e w110 ⟨rfl, hb⟩
    refine ⟨_, rfl, ?_⟩
    have n0_ := A_ (Kd.R_below Z52 hb)
    have n1_ := A_ (Kd.R_below Z51 hb)
    have n2_ := A_ (Kd.R_below Z50 hb)
    have n3_ := A_ (Kd.R_below Z49 hb)
    have n4_ := A_ (Kd.R_below Z48 hb)
    have n5_ := A_ (Kd.R_below Z47 hb)
    have n6_ := A_ (Kd.R_below Z46 hb)
    have n7_ := A_ (Kd.R_below Z45 hb)
    have n8_ := A_ (blk_below (g := gb225) (o := .cells #[.slice A0_0 l0_0.length c0_0] 24 (0, 0)) Z41 hb)
    have n9_ := A_ (blk_below (g := gb226) (o := .cells #[.slice A2_0 l2_0.length c2_0] 24 (0, 0)) Z40 hb)
    have n10_ := A_ (blk_below (g := gb239) (o := .cells #[.slice Ao68 t235.length co68] 26 (0, 0)) Z39 hb)
    have n11_ := A_ (blk_below (g := gb243) (o := .cells #[.slice Ao74 t240.length co74] 26 (0, 0)) Z38 hb)
    have n12_ := A_ (blk_below (g := gb247) (o := .cells #[.slice Ao83 t244.length co83] 26 (0, 0)) Z37 hb)
    have n13_ := A_ (blk_below (g := gb252) (o := .cells #[.slice Ao94 t248.length co94] 26 (0, 0)) Z36 hb)
    have n14_ := A_ (below_step Z1 hb)
    clear HO231
    clear HO234
    clear HO237
    clear HO242
    clear HO246
    clear HO250
    clear HO256
    clear HO260
    clear BK225
    clear BK226
    clear BK239
    clear BK243
    clear BK247
    clear BK252
    clear HB
    have HO231 := n0_
    have HO234 := n1_
    have HO237 := n2_
    have HO242 := n3_
    have HO246 := n4_
    have HO250 := n5_
    have HO256 := n6_
    have HO260 := n7_
    have BK225 := n8_
    have BK226 := n9_
    have BK239 := n10_
    have BK243 := n11_
    have BK247 := n12_
    have BK252 := n13_
    have HB := n14_
    clear n0_ n1_ n2_ n3_ n4_ n5_ n6_ n7_ n8_ n9_ n10_ n11_ n12_ n13_ n14_
    (try clear hb)
    (try clear hb2)
    (try clear hk)
    (try clear hi)
    refine hK.out _ _ ⟨(blk_cell BK247.out 0).trans rfl, (blk_cell BK226.out 0).trans rfl⟩ (fun hHeld => ?_)
    clear hK K
    refine norm_ (a' := ?_) ?_ ?_
    rotate_left
    ·show Act.put _ (some 66) _ = _
     simp only [Act.put, List.setIfInBounds_toArray, List.set_cons_zero, List.set_cons_succ, i64_w, i32_w]
     rfl
    refine pure_ (i := 4) (N := some 67) (v := ?_) (a' := ?_) #[true, true, true, true, true] rfl rfl (by kernel_rfl) (fun _ _ _ h => h) (Or.inl ⟨by rfl, ?_⟩) ?_ ?_
    rotate_left
    ·intro w'
     go_simp
     with_reducible rfl
    rotate_left
    ·simp only [Act.put, List.setIfInBounds_toArray, List.set_cons_zero, List.set_cons_succ, i64_w, i32_w]
     rfl
    refine done_ (by kernel_rfl) ?_
    have hcz111_0 : w110.cell? ⟨gb243, 0, none⟩ = some (.slice Ao74 t240.length co74) := (blk_cell BK243.out 0).trans rfl
    have hfz111_0 := blk_frozen BK243.out 0
    try go_wp2_with (first | ((with_reducible refine gate_callee (f := 17) rfl ?_); refine goesL_ (some 70) rfl rfl Try.func17 (by kernel_rfl) rfl #[.agg #[.slice Ao74 t240.length co74], .int .i64 1] rfl Z33 ?_; (with_reducible refine (laws_markTree.calls k (fun k_ => some k_ = (.slice Ao74 t240.length co74 : Value).ownBlock) (.slice Ao74 t240.length co74) t240 1 t262 t263 w _ ?side1 ?side2 A35.out).mono ?_); (case side1 => repeat (first | (with_reducible first | exact HB.out | apply below_alloc | apply pw_below_drewN | apply below_drew1 | refine below_set ?_ GE225.out | refine below_set ?_ GE226.out | refine below_set ?_ GE239.out | refine below_set ?_ GE243.out | refine below_set ?_ GE247.out | refine below_set ?_ GE252.out) | exact HB.out)); (case side2 => exact Kd.R_tight rfl HO242.out); rintro e w112 ⟨rfl, hy0, hb, hkp⟩; refine ⟨_, rfl, ?_⟩; have n0_ := A_ (blk_kept Z41 hkp (fun hs_ => (fun e_ => (Kd.R_ne HO242.out BK225.out (by decide)) e_) hs_)); have n1_ := A_ (blk_kept Z40 hkp (fun hs_ => (fun e_ => (Kd.R_ne HO242.out BK226.out (by decide)) e_) hs_)); have n2_ := A_ (Kd.R_mono (ok' := fun k_ => some k_ ≠ (v233 : Value).ownBlock ∧ some k_ ≠ (.slice Ao68 t235.length co68 : Value).ownBlock ∧ some k_ ≠ (.slice Ao74 t240.length co74 : Value).ownBlock ∧ some k_ ≠ (.slice Ao83 t244.length co83 : Value).ownBlock ∧ some k_ ≠ (.slice Ao94 t248.length co94 : Value).ownBlock ∧ some k_ ≠ (.slice Ao105 t254.length co105 : Value).ownBlock ∧ some k_ ≠ (.slice Ao109 t258.length co109 : Value).ownBlock) (Kd.R_keptB (HO231.out) hkp (fun k_ hk_ hs_ => (hk_.1.1.1.2.2.1) hs_)) (fun k_ hk_ => ⟨hk_.1.1.1.1.1, hk_.1.1.1.1.2.1, hk_.1.1.1.1.2.2.1, hk_.1.1.1.1.2.2.2, hk_.1.1.1.2, hk_.1.1.2, hk_.1.2⟩)); have n3_ := A_ (Kd.R_mono (ok' := fun k_ => some k_ ≠ (v230 : Value).ownBlock ∧ some k_ ≠ (.slice Ao68 t235.length co68 : Value).ownBlock ∧ some k_ ≠ (.slice Ao74 t240.length co74 : Value).ownBlock ∧ some k_ ≠ (.slice Ao83 t244.length co83 : Value).ownBlock ∧ some k_ ≠ (.slice Ao94 t248.length co94 : Value).ownBlock ∧ some k_ ≠ (.slice Ao105 t254.length co105 : Value).ownBlock ∧ some k_ ≠ (.slice Ao109 t258.length co109 : Value).ownBlock) (Kd.R_keptB (HO234.out) hkp (fun k_ hk_ hs_ => (hk_.1.1.1.2.2.1) hs_)) (fun k_ hk_ => ⟨hk_.1.1.1.1.1, hk_.1.1.1.1.2.1, hk_.1.1.1.1.2.2.1, hk_.1.1.1.1.2.2.2, hk_.1.1.1.2, hk_.1.1.2, hk_.1.2⟩)); have n4_ := A_ (Kd.R_mono (ok' := fun k_ => some k_ ≠ (v230 : Value).ownBlock ∧ some k_ ≠ (v233 : Value).ownBlock ∧ some k_ ≠ (.slice Ao74 t240.length co74 : Value).ownBlock ∧ some k_ ≠ (.slice Ao83 t244.length co83 : Value).ownBlock ∧ some k_ ≠ (.slice Ao94 t248.length co94 : Value).ownBlock ∧ some k_ ≠ (.slice Ao105 t254.length co105 : Value).ownBlock ∧ some k_ ≠ (.slice Ao109 t258.length co109 : Value).ownBlock) (Kd.R_keptB (HO237.out) hkp (fun k_ hk_ hs_ => (hk_.1.1.1.2.2.1) hs_)) (fun k_ hk_ => ⟨hk_.1.1.1.1.1, hk_.1.1.1.1.2.1, hk_.1.1.1.1.2.2.1, hk_.1.1.1.1.2.2.2, hk_.1.1.1.2, hk_.1.1.2, hk_.1.2⟩)); have n5_ := A_ (blk_kept Z39 hkp (fun hs_ => (fun e_ => (Kd.R_ne HO242.out BK239.out (by decide)) e_) hs_)); have n6_ := A_ (Kd.R_reok rfl hy0 (fun k_ e_ => HO242.out.1 k_ e_)); have n7_ := A_ (blk_kept Z38 hkp (fun hs_ => (fun e_ => (Kd.R_ne HO242.out BK243.out (by decide)) e_) hs_)); have n8_ := A_ (Kd.R_mono (ok' := fun k_ => some k_ ≠ (v230 : Value).ownBlock ∧ some k_ ≠ (v233 : Value).ownBlock ∧ some k_ ≠ (.slice Ao68 t235.length co68 : Value).ownBlock ∧ some k_ ≠ (.slice Ao74 t240.length co74 : Value).ownBlock ∧ some k_ ≠ (.slice Ao94 t248.length co94 : Value).ownBlock ∧ some k_ ≠ (.slice Ao105 t254.length co105 : Value).ownBlock ∧ some k_ ≠ (.slice Ao109 t258.length co109 : Value).ownBlock) (Kd.R_keptB (HO246.out) hkp (fun k_ hk_ hs_ => (hk_.1.1.1.2.2.2) hs_)) (fun k_ hk_ => ⟨hk_.1.1.1.1.1, hk_.1.1.1.1.2.1, hk_.1.1.1.1.2.2.1, hk_.1.1.1.1.2.2.2, hk_.1.1.1.2, hk_.1.1.2, hk_.1.2⟩)); have n9_ := A_ (blk_kept Z37 hkp (fun hs_ => (fun e_ => (Kd.R_ne HO242.out BK247.out (by decide)) e_) hs_)); have n10_ := A_ (Kd.R_mono (ok' := fun k_ => some k_ ≠ (v230 : Value).ownBlock ∧ some k_ ≠ (v233 : Value).ownBlock ∧ some k_ ≠ (.slice Ao68 t235.length co68 : Value).ownBlock ∧ some k_ ≠ (.slice Ao74 t240.length co74 : Value).ownBlock ∧ some k_ ≠ (.slice Ao83 t244.length co83 : Value).ownBlock ∧ some k_ ≠ (.slice Ao105 t254.length co105 : Value).ownBlock ∧ some k_ ≠ (.slice Ao109 t258.length co109 : Value).ownBlock) (Kd.R_keptB (HO250.out) hkp (fun k_ hk_ hs_ => (hk_.1.1.1.2) hs_)) (fun k_ hk_ => ⟨hk_.1.1.1.1.1.1.1.2, hk_.1.1.1.1.1.1.2, hk_.1.1.1.1.1.2, hk_.1.1.1.1.2, hk_.1.1.1.2, hk_.1.1.2, hk_.1.2⟩)); have n11_ := A_ (blk_kept Z36 hkp (fun hs_ => (fun e_ => (Kd.R_ne HO242.out BK252.out (by decide)) e_) hs_)); have n12_ := A_ (Kd.R_mono (ok' := fun k_ => some k_ ≠ (v230 : Value).ownBlock ∧ some k_ ≠ (v233 : Value).ownBlock ∧ some k_ ≠ (.slice Ao68 t235.length co68 : Value).ownBlock ∧ some k_ ≠ (.slice Ao74 t240.length co74 : Value).ownBlock ∧ some k_ ≠ (.slice Ao83 t244.length co83 : Value).ownBlock ∧ some k_ ≠ (.slice Ao94 t248.length co94 : Value).ownBlock ∧ some k_ ≠ (.slice Ao109 t258.length co109 : Value).ownBlock) (Kd.R_keptB (HO256.out) hkp (fun k_ hk_ hs_ => (hk_.1.1.1.2) hs_)) (fun k_ hk_ => ⟨hk_.1.1.1.1.1.1.1.2, hk_.1.1.1.1.1.1.2, hk_.1.1.1.1.1.2, hk_.1.1.1.1.2, hk_.1.1.1.2, hk_.1.1.2, hk_.1.2⟩)); have n13_ := A_ (Kd.R_mono (ok' := fun k_ => some k_ ≠ (v230 : Value).ownBlock ∧ some k_ ≠ (v233 : Value).ownBlock ∧ some k_ ≠ (.slice Ao68 t235.length co68 : Value).ownBlock ∧ some k_ ≠ (.slice Ao74 t240.length co74 : Value).ownBlock ∧ some k_ ≠ (.slice Ao83 t244.length co83 : Value).ownBlock ∧ some k_ ≠ (.slice Ao94 t248.length co94 : Value).ownBlock ∧ some k_ ≠ (.slice Ao105 t254.length co105 : Value).ownBlock) (Kd.R_keptB (HO260.out) hkp (fun k_ hk_ hs_ => (hk_.1.1.1.2) hs_)) (fun k_ hk_ => ⟨hk_.1.1.1.1.1.1.1.2, hk_.1.1.1.1.1.1.2, hk_.1.1.1.1.1.2, hk_.1.1.1.1.2, hk_.1.1.1.2, hk_.1.1.2, hk_.1.2⟩)); have n14_ := A_ (hb); clear BK225; clear BK226; clear HO231; clear HO234; clear HO237; clear BK239; clear HO242; clear BK243; clear HO246; clear BK247; clear HO250; clear BK252; clear HO256; clear HO260; clear HB; have BK225 := n0_; have BK226 := n1_; have HO231 := n2_; have HO234 := n3_; have HO237 := n4_; have BK239 := n5_; have HO242 := n6_; have BK243 := n7_; have HO246 := n8_; have BK247 := n9_; have HO250 := n10_; have BK252 := n11_; have HO256 := n12_; have HO260 := n13_; have HB := n14_; clear n0_ n1_ n2_ n3_ n4_ n5_ n6_ n7_ n8_ n9_ n10_ n11_ n12_ n13_ n14_; (try clear hb); (try clear hkp); (try clear hy0); have hcz113_0 : w112.cell? ⟨gb247, 0, none⟩ = some (.slice Ao83 t244.length co83) := (blk_cell BK247.out 0).trans rfl; have hfz113_0 := blk_frozen BK247.out 0) | ((with_reducible refine gate_callee (f := 17) rfl ?_); refine goesL_ (some 73) rfl rfl Try.func17 (by kernel_rfl) rfl #[.agg #[.slice Ao83 t244.length co83], .int .i64 t262] rfl Z33 ?_; (with_reducible refine (laws_markTree.calls k (fun k_ => some k_ = (.slice Ao83 t244.length co83 : Value).ownBlock) (.slice Ao83 t244.length co83) t244 t262 t264 t265 w _ ?side1 ?side2 A36.out).mono ?_); (case side1 => repeat (first | (with_reducible first | exact HB.out | apply below_alloc | apply pw_below_drewN | apply below_drew1 | refine below_set ?_ GE225.out | refine below_set ?_ GE226.out | refine below_set ?_ GE239.out | refine below_set ?_ GE243.out | refine below_set ?_ GE247.out | refine below_set ?_ GE252.out) | exact HB.out)); (case side2 => exact Kd.R_tight rfl HO246.out); rintro e w114 ⟨rfl, hy0, hb, hkp⟩; refine ⟨_, rfl, ?_⟩; have n0_ := A_ (blk_kept Z41 hkp (fun hs_ => (fun e_ => (Kd.R_ne HO246.out BK225.out (by decide)) e_) hs_)); have n1_ := A_ (blk_kept Z40 hkp (fun hs_ => (fun e_ => (Kd.R_ne HO246.out BK226.out (by decide)) e_) hs_)); have n2_ := A_ (Kd.R_mono (ok' := fun k_ => some k_ ≠ (v233 : Value).ownBlock ∧ some k_ ≠ (.slice Ao68 t235.length co68 : Value).ownBlock ∧ some k_ ≠ (.slice Ao74 t240.length co74 : Value).ownBlock ∧ some k_ ≠ (.slice Ao83 t244.length co83 : Value).ownBlock ∧ some k_ ≠ (.slice Ao94 t248.length co94 : Value).ownBlock ∧ some k_ ≠ (.slice Ao105 t254.length co105 : Value).ownBlock ∧ some k_ ≠ (.slice Ao109 t258.length co109 : Value).ownBlock) (Kd.R_keptB (HO231.out) hkp (fun k_ hk_ hs_ => (hk_.2.2.2.1) hs_)) (fun k_ hk_ => ⟨hk_.1.1, hk_.1.2.1, hk_.1.2.2.1, hk_.1.2.2.2.1, hk_.1.2.2.2.2.1, hk_.1.2.2.2.2.2.1, hk_.1.2.2.2.2.2.2⟩)); have n3_ := A_ (Kd.R_mono (ok' := fun k_ => some k_ ≠ (v230 : Value).ownBlock ∧ some k_ ≠ (.slice Ao68 t235.length co68 : Value).ownBlock ∧ some k_ ≠ (.slice Ao74 t240.length co74 : Value).ownBlock ∧ some k_ ≠ (.slice Ao83 t244.length co83 : Value).ownBlock ∧ some k_ ≠ (.slice Ao94 t248.length co94 : Value).ownBlock ∧ some k_ ≠ (.slice Ao105 t254.length co105 : Value).ownBlock ∧ some k_ ≠ (.slice Ao109 t258.length co109 : Value).ownBlock) (Kd.R_keptB (HO234.out) hkp (fun k_ hk_ hs_ => (hk_.2.2.2.1) hs_)) (fun k_ hk_ => ⟨hk_.1.1, hk_.1.2.1, hk_.1.2.2.1, hk_.1.2.2.2.1, hk_.1.2.2.2.2.1, hk_.1.2.2.2.2.2.1, hk_.1.2.2.2.2.2.2⟩)); have n4_ := A_ (Kd.R_mono (ok' := fun k_ => some k_ ≠ (v230 : Value).ownBlock ∧ some k_ ≠ (v233 : Value).ownBlock ∧ some k_ ≠ (.slice Ao74 t240.length co74 : Value).ownBlock ∧ some k_ ≠ (.slice Ao83 t244.length co83 : Value).ownBlock ∧ some k_ ≠ (.slice Ao94 t248.length co94 : Value).ownBlock ∧ some k_ ≠ (.slice Ao105 t254.length co105 : Value).ownBlock ∧ some k_ ≠ (.slice Ao109 t258.length co109 : Value).ownBlock) (Kd.R_keptB (HO237.out) hkp (fun k_ hk_ hs_ => (hk_.2.2.2.1) hs_)) (fun k_ hk_ => ⟨hk_.1.1, hk_.1.2.1, hk_.1.2.2.1, hk_.1.2.2.2.1, hk_.1.2.2.2.2.1, hk_.1.2.2.2.2.2.1, hk_.1.2.2.2.2.2.2⟩)); have n5_ := A_ (blk_kept Z39 hkp (fun hs_ => (fun e_ => (Kd.R_ne HO246.out BK239.out (by decide)) e_) hs_)); have n6_ := A_ (Kd.R_mono (ok' := fun k_ => some k_ ≠ (v230 : Value).ownBlock ∧ some k_ ≠ (v233 : Value).ownBlock ∧ some k_ ≠ (.slice Ao68 t235.length co68 : Value).ownBlock ∧ some k_ ≠ (.slice Ao83 t244.length co83 : Value).ownBlock ∧ some k_ ≠ (.slice Ao94 t248.length co94 : Value).ownBlock ∧ some k_ ≠ (.slice Ao105 t254.length co105 : Value).ownBlock ∧ some k_ ≠ (.slice Ao109 t258.length co109 : Value).ownBlock) (Kd.R_keptB (HO242.out) hkp (fun k_ hk_ hs_ => (hk_.1.1.1.2.2.2) hs_)) (fun k_ hk_ => ⟨hk_.1.1.1.1.1, hk_.1.1.1.1.2.1, hk_.1.1.1.1.2.2.1, hk_.1.1.1.1.2.2.2, hk_.1.1.1.2, hk_.1.1.2, hk_.1.2⟩)); have n7_ := A_ (blk_kept Z38 hkp (fun hs_ => (fun e_ => (Kd.R_ne HO246.out BK243.out (by decide)) e_) hs_)); have n8_ := A_ (Kd.R_reok rfl hy0 (fun k_ e_ => HO246.out.1 k_ e_)); have n9_ := A_ (blk_kept Z37 hkp (fun hs_ => (fun e_ => (Kd.R_ne HO246.out BK247.out (by decide)) e_) hs_)); have n10_ := A_ (Kd.R_mono (ok' := fun k_ => some k_ ≠ (v230 : Value).ownBlock ∧ some k_ ≠ (v233 : Value).ownBlock ∧ some k_ ≠ (.slice Ao68 t235.length co68 : Value).ownBlock ∧ some k_ ≠ (.slice Ao74 t240.length co74 : Value).ownBlock ∧ some k_ ≠ (.slice Ao83 t244.length co83 : Value).ownBlock ∧ some k_ ≠ (.slice Ao105 t254.length co105 : Value).ownBlock ∧ some k_ ≠ (.slice Ao109 t258.length co109 : Value).ownBlock) (Kd.R_keptB (HO250.out) hkp (fun k_ hk_ hs_ => (hk_.2.2.2.2.1) hs_)) (fun k_ hk_ => ⟨hk_.1.1, hk_.1.2.1, hk_.1.2.2.1, hk_.1.2.2.2.1, hk_.1.2.2.2.2.1, hk_.1.2.2.2.2.2.1, hk_.1.2.2.2.2.2.2⟩)); have n11_ := A_ (blk_kept Z36 hkp (fun hs_ => (fun e_ => (Kd.R_ne HO246.out BK252.out (by decide)) e_) hs_)); have n12_ := A_ (Kd.R_mono (ok' := fun k_ => some k_ ≠ (v230 : Value).ownBlock ∧ some k_ ≠ (v233 : Value).ownBlock ∧ some k_ ≠ (.slice Ao68 t235.length co68 : Value).ownBlock ∧ some k_ ≠ (.slice Ao74 t240.length co74 : Value).ownBlock ∧ some k_ ≠ (.slice Ao83 t244.length co83 : Value).ownBlock ∧ some k_ ≠ (.slice Ao94 t248.length co94 : Value).ownBlock ∧ some k_ ≠ (.slice Ao109 t258.length co109 : Value).ownBlock) (Kd.R_keptB (HO256.out) hkp (fun k_ hk_ hs_ => (hk_.2.2.2.2.1) hs_)) (fun k_ hk_ => ⟨hk_.1.1, hk_.1.2.1, hk_.1.2.2.1, hk_.1.2.2.2.1, hk_.1.2.2.2.2.1, hk_.1.2.2.2.2.2.1, hk_.1.2.2.2.2.2.2⟩)); have n13_ := A_ (Kd.R_mono (ok' := fun k_ => some k_ ≠ (v230 : Value).ownBlock ∧ some k_ ≠ (v233 : Value).ownBlock ∧ some k_ ≠ (.slice Ao68 t235.length co68 : Value).ownBlock ∧ some k_ ≠ (.slice Ao74 t240.length co74 : Value).ownBlock ∧ some k_ ≠ (.slice Ao83 t244.length co83 : Value).ownBlock ∧ some k_ ≠ (.slice Ao94 t248.length co94 : Value).ownBlock ∧ some k_ ≠ (.slice Ao105 t254.length co105 : Value).ownBlock) (Kd.R_keptB (HO260.out) hkp (fun k_ hk_ hs_ => (hk_.2.2.2.2.1) hs_)) (fun k_ hk_ => ⟨hk_.1.1, hk_.1.2.1, hk_.1.2.2.1, hk_.1.2.2.2.1, hk_.1.2.2.2.2.1, hk_.1.2.2.2.2.2.1, hk_.1.2.2.2.2.2.2⟩)); have n14_ := A_ (hb); clear BK225; clear BK226; clear HO231; clear HO234; clear HO237; clear BK239; clear HO242; clear BK243; clear HO246; clear BK247; clear HO250; clear BK252; clear HO256; clear HO260; clear HB; have BK225 := n0_; have BK226 := n1_; have HO231 := n2_; have HO234 := n3_; have HO237 := n4_; have BK239 := n5_; have HO242 := n6_; have BK243 := n7_; have HO246 := n8_; have BK247 := n9_; have HO250 := n10_; have BK252 := n11_; have HO256 := n12_; have HO260 := n13_; have HB := n14_; clear n0_ n1_ n2_ n3_ n4_ n5_ n6_ n7_ n8_ n9_ n10_ n11_ n12_ n13_ n14_; (try clear hb); (try clear hkp); (try clear hy0); have hcz115_0 : w114.cell? ⟨gb252, 0, none⟩ = some (.slice Ao94 t248.length co94) := (blk_cell BK252.out 0).trans rfl; have hfz115_0 := blk_frozen BK252.out 0; have hcz116_0 : w114.cell? ⟨gb239, 0, none⟩ = some (.slice Ao68 t235.length co68) := (blk_cell BK239.out 0).trans rfl; have hfz116_0 := blk_frozen BK239.out 0) | (go_at_call 16; (with_reducible refine (laws_eqTree.calls k _ _ t248 _ _ t235 true _ ?side1 ?side2 ?side3 ?side4 A38.out).mono ?_); (case side1 => repeat (first | exact (Kd.R_reads' HO250.out).2.2 | (with_reducible refine Kd.C_alloc ?_ _) | (with_reducible refine Kd.C_drewN ?_ _) | (with_reducible refine Kd.C_drew ?_))); (case side2 => exact (Kd.R_reads' HO250.out).2.1); (case side3 => repeat (first | exact (Kd.R_reads' HO237.out).2.2 | (with_reducible refine Kd.C_alloc ?_ _) | (with_reducible refine Kd.C_drewN ?_ _) | (with_reducible refine Kd.C_drew ?_))); (case side4 => exact (Kd.R_reads' HO237.out).2.1); rintro e w117 ⟨rfl, hb⟩; have n0_ := A_ (Kd.R_below Z52 hb); have n1_ := A_ (Kd.R_below Z51 hb); have n2_ := A_ (Kd.R_below Z50 hb); have n3_ := A_ (Kd.R_below Z49 hb); have n4_ := A_ (Kd.R_below Z48 hb); have n5_ := A_ (Kd.R_below Z47 hb); have n6_ := A_ (Kd.R_below Z46 hb); have n7_ := A_ (Kd.R_below Z45 hb); have n8_ := A_ (blk_below (g := gb225) (o := .cells #[.slice A0_0 l0_0.length c0_0] 24 (0, 0)) Z41 hb); have n9_ := A_ (blk_below (g := gb226) (o := .cells #[.slice A2_0 l2_0.length c2_0] 24 (0, 0)) Z40 hb); have n10_ := A_ (blk_below (g := gb239) (o := .cells #[.slice Ao68 t235.length co68] 26 (0, 0)) Z39 hb); have n11_ := A_ (blk_below (g := gb243) (o := .cells #[.slice Ao74 t240.length co74] 26 (0, 0)) Z38 hb); have n12_ := A_ (blk_below (g := gb247) (o := .cells #[.slice Ao83 t244.length co83] 26 (0, 0)) Z37 hb); have n13_ := A_ (blk_below (g := gb252) (o := .cells #[.slice Ao94 t248.length co94] 26 (0, 0)) Z36 hb); have n14_ := A_ (below_step Z1 hb); clear HO231; clear HO234; clear HO237; clear HO242; clear HO246; clear HO250; clear HO256; clear HO260; clear BK225; clear BK226; clear BK239; clear BK243; clear BK247; clear BK252; clear HB; have HO231 := n0_; have HO234 := n1_; have HO237 := n2_; have HO242 := n3_; have HO246 := n4_; have HO250 := n5_; have HO256 := n6_; have HO260 := n7_; have BK225 := n8_; have BK226 := n9_; have BK239 := n10_; have BK243 := n11_; have BK247 := n12_; have BK252 := n13_; have HB := n14_; clear n0_ n1_ n2_ n3_ n4_ n5_ n6_ n7_ n8_ n9_ n10_ n11_ n12_ n13_ n14_; (try clear hb); (try clear hb2); (try clear hk); (try clear hi); have hcz118_0 : w117.cell? ⟨gb252, 0, none⟩ = some (.slice Ao94 t248.length co94) := (blk_cell BK252.out 0).trans rfl; have hfz118_0 := blk_frozen BK252.out 0) | ((with_reducible refine gate_callee (f := 17) rfl ?_); refine goesL_ (some 89) rfl rfl Try.func17 (by kernel_rfl) rfl #[.agg #[.slice Ao94 t248.length co94], .int .i64 1] rfl Z33 ?_; (with_reducible refine (laws_markTree.calls k (fun k_ => some k_ = (.slice Ao94 t248.length co94 : Value).ownBlock) (.slice Ao94 t248.length co94) t248 1 t267 t268 w _ ?side1 ?side2 A40.out).mono ?_); (case side1 => repeat (first | (with_reducible first | exact HB.out | apply below_alloc | apply pw_below_drewN | apply below_drew1 | refine below_set ?_ GE225.out | refine below_set ?_ GE226.out | refine below_set ?_ GE239.out | refine below_set ?_ GE243.out | refine below_set ?_ GE247.out | refine below_set ?_ GE252.out) | exact HB.out)); (case side2 => exact Kd.R_tight rfl HO250.out); rintro e w119 ⟨rfl, hy0, hb, hkp⟩; refine ⟨_, rfl, ?_⟩; have n0_ := A_ (blk_kept Z41 hkp (fun hs_ => (fun e_ => (Kd.R_ne HO250.out BK225.out (by decide)) e_) hs_)); have n1_ := A_ (blk_kept Z40 hkp (fun hs_ => (fun e_ => (Kd.R_ne HO250.out BK226.out (by decide)) e_) hs_)); have n2_ := A_ (Kd.R_mono (ok' := fun k_ => some k_ ≠ (v233 : Value).ownBlock ∧ some k_ ≠ (.slice Ao68 t235.length co68 : Value).ownBlock ∧ some k_ ≠ (.slice Ao74 t240.length co74 : Value).ownBlock ∧ some k_ ≠ (.slice Ao83 t244.length co83 : Value).ownBlock ∧ some k_ ≠ (.slice Ao94 t248.length co94 : Value).ownBlock ∧ some k_ ≠ (.slice Ao105 t254.length co105 : Value).ownBlock ∧ some k_ ≠ (.slice Ao109 t258.length co109 : Value).ownBlock) (Kd.R_keptB (HO231.out) hkp (fun k_ hk_ hs_ => (hk_.2.2.2.2.1) hs_)) (fun k_ hk_ => ⟨hk_.1.1, hk_.1.2.1, hk_.1.2.2.1, hk_.1.2.2.2.1, hk_.1.2.2.2.2.1, hk_.1.2.2.2.2.2.1, hk_.1.2.2.2.2.2.2⟩)); have n3_ := A_ (Kd.R_mono (ok' := fun k_ => some k_ ≠ (v230 : Value).ownBlock ∧ some k_ ≠ (.slice Ao68 t235.length co68 : Value).ownBlock ∧ some k_ ≠ (.slice Ao74 t240.length co74 : Value).ownBlock ∧ some k_ ≠ (.slice Ao83 t244.length co83 : Value).ownBlock ∧ some k_ ≠ (.slice Ao94 t248.length co94 : Value).ownBlock ∧ some k_ ≠ (.slice Ao105 t254.length co105 : Value).ownBlock ∧ some k_ ≠ (.slice Ao109 t258.length co109 : Value).ownBlock) (Kd.R_keptB (HO234.out) hkp (fun k_ hk_ hs_ => (hk_.2.2.2.2.1) hs_)) (fun k_ hk_ => ⟨hk_.1.1, hk_.1.2.1, hk_.1.2.2.1, hk_.1.2.2.2.1, hk_.1.2.2.2.2.1, hk_.1.2.2.2.2.2.1, hk_.1.2.2.2.2.2.2⟩)); have n4_ := A_ (Kd.R_mono (ok' := fun k_ => some k_ ≠ (v230 : Value).ownBlock ∧ some k_ ≠ (v233 : Value).ownBlock ∧ some k_ ≠ (.slice Ao74 t240.length co74 : Value).ownBlock ∧ some k_ ≠ (.slice Ao83 t244.length co83 : Value).ownBlock ∧ some k_ ≠ (.slice Ao94 t248.length co94 : Value).ownBlock ∧ some k_ ≠ (.slice Ao105 t254.length co105 : Value).ownBlock ∧ some k_ ≠ (.slice Ao109 t258.length co109 : Value).ownBlock) (Kd.R_keptB (HO237.out) hkp (fun k_ hk_ hs_ => (hk_.2.2.2.2.1) hs_)) (fun k_ hk_ => ⟨hk_.1.1, hk_.1.2.1, hk_.1.2.2.1, hk_.1.2.2.2.1, hk_.1.2.2.2.2.1, hk_.1.2.2.2.2.2.1, hk_.1.2.2.2.2.2.2⟩)); have n5_ := A_ (blk_kept Z39 hkp (fun hs_ => (fun e_ => (Kd.R_ne HO250.out BK239.out (by decide)) e_) hs_)); have n6_ := A_ (Kd.R_mono (ok' := fun k_ => some k_ ≠ (v230 : Value).ownBlock ∧ some k_ ≠ (v233 : Value).ownBlock ∧ some k_ ≠ (.slice Ao68 t235.length co68 : Value).ownBlock ∧ some k_ ≠ (.slice Ao83 t244.length co83 : Value).ownBlock ∧ some k_ ≠ (.slice Ao94 t248.length co94 : Value).ownBlock ∧ some k_ ≠ (.slice Ao105 t254.length co105 : Value).ownBlock ∧ some k_ ≠ (.slice Ao109 t258.length co109 : Value).ownBlock) (Kd.R_keptB (HO242.out) hkp (fun k_ hk_ hs_ => (hk_.2.2.2.2.1) hs_)) (fun k_ hk_ => ⟨hk_.1.1, hk_.1.2.1, hk_.1.2.2.1, hk_.1.2.2.2.1, hk_.1.2.2.2.2.1, hk_.1.2.2.2.2.2.1, hk_.1.2.2.2.2.2.2⟩)); have n7_ := A_ (blk_kept Z38 hkp (fun hs_ => (fun e_ => (Kd.R_ne HO250.out BK243.out (by decide)) e_) hs_)); have n8_ := A_ (Kd.R_mono (ok' := fun k_ => some k_ ≠ (v230 : Value).ownBlock ∧ some k_ ≠ (v233 : Value).ownBlock ∧ some k_ ≠ (.slice Ao68 t235.length co68 : Value).ownBlock ∧ some k_ ≠ (.slice Ao74 t240.length co74 : Value).ownBlock ∧ some k_ ≠ (.slice Ao94 t248.length co94 : Value).ownBlock ∧ some k_ ≠ (.slice Ao105 t254.length co105 : Value).ownBlock ∧ some k_ ≠ (.slice Ao109 t258.length co109 : Value).ownBlock) (Kd.R_keptB (HO246.out) hkp (fun k_ hk_ hs_ => (hk_.2.2.2.2.1) hs_)) (fun k_ hk_ => ⟨hk_.1.1, hk_.1.2.1, hk_.1.2.2.1, hk_.1.2.2.2.1, hk_.1.2.2.2.2.1, hk_.1.2.2.2.2.2.1, hk_.1.2.2.2.2.2.2⟩)); have n9_ := A_ (blk_kept Z37 hkp (fun hs_ => (fun e_ => (Kd.R_ne HO250.out BK247.out (by decide)) e_) hs_)); have n10_ := A_ (Kd.R_reok rfl hy0 (fun k_ e_ => HO250.out.1 k_ e_)); have n11_ := A_ (blk_kept Z36 hkp (fun hs_ => (fun e_ => (Kd.R_ne HO250.out BK252.out (by decide)) e_) hs_)); have n12_ := A_ (Kd.R_mono (ok' := fun k_ => some k_ ≠ (v230 : Value).ownBlock ∧ some k_ ≠ (v233 : Value).ownBlock ∧ some k_ ≠ (.slice Ao68 t235.length co68 : Value).ownBlock ∧ some k_ ≠ (.slice Ao74 t240.length co74 : Value).ownBlock ∧ some k_ ≠ (.slice Ao83 t244.length co83 : Value).ownBlock ∧ some k_ ≠ (.slice Ao94 t248.length co94 : Value).ownBlock ∧ some k_ ≠ (.slice Ao109 t258.length co109 : Value).ownBlock) (Kd.R_keptB (HO256.out) hkp (fun k_ hk_ hs_ => (hk_.2.2.2.2.2.1) hs_)) (fun k_ hk_ => ⟨hk_.1.1, hk_.1.2.1, hk_.1.2.2.1, hk_.1.2.2.2.1, hk_.1.2.2.2.2.1, hk_.1.2.2.2.2.2.1, hk_.1.2.2.2.2.2.2⟩)); have n13_ := A_ (Kd.R_mono (ok' := fun k_ => some k_ ≠ (v230 : Value).ownBlock ∧ some k_ ≠ (v233 : Value).ownBlock ∧ some k_ ≠ (.slice Ao68 t235.length co68 : Value).ownBlock ∧ some k_ ≠ (.slice Ao74 t240.length co74 : Value).ownBlock ∧ some k_ ≠ (.slice Ao83 t244.length co83 : Value).ownBlock ∧ some k_ ≠ (.slice Ao94 t248.length co94 : Value).ownBlock ∧ some k_ ≠ (.slice Ao105 t254.length co105 : Value).ownBlock) (Kd.R_keptB (HO260.out) hkp (fun k_ hk_ hs_ => (hk_.2.2.2.2.2.1) hs_)) (fun k_ hk_ => ⟨hk_.1.1, hk_.1.2.1, hk_.1.2.2.1, hk_.1.2.2.2.1, hk_.1.2.2.2.2.1, hk_.1.2.2.2.2.2.1, hk_.1.2.2.2.2.2.2⟩)); have n14_ := A_ (hb); clear BK225; clear BK226; clear HO231; clear HO234; clear HO237; clear BK239; clear HO242; clear BK243; clear HO246; clear BK247; clear HO250; clear BK252; clear HO256; clear HO260; clear HB; have BK225 := n0_; have BK226 := n1_; have HO231 := n2_; have HO234 := n3_; have HO237 := n4_; have BK239 := n5_; have HO242 := n6_; have BK243 := n7_; have HO246 := n8_; have BK247 := n9_; have HO250 := n10_; have BK252 := n11_; have HO256 := n12_; have HO260 := n13_; have HB := n14_; clear n0_ n1_ n2_ n3_ n4_ n5_ n6_ n7_ n8_ n9_ n10_ n11_ n12_ n13_ n14_; (try clear hb); (try clear hkp); (try clear hy0); have hcz120_0 : w119.cell? ⟨gb252, 0, none⟩ = some (.slice Ao94 t248.length co94) := (blk_cell BK252.out 0).trans rfl; have hfz120_0 := blk_frozen BK252.out 0) | ((with_reducible refine gate_callee (f := 18) rfl ?_); refine goesL_ (some 92) rfl rfl Try.func18 (by kernel_rfl) rfl #[.agg #[.slice Ao94 t268.length co94], .int .i64 1] rfl Z27 ?_; (with_reducible refine (laws_heldTree.calls k _ _ t268 1 t269 _ ?side1 ?side2 A41.out).mono ?_); (case side1 => repeat (first | exact (Kd.R_reads' HO250.out).2.2 | (with_reducible refine Kd.C_alloc ?_ _) | (with_reducible refine Kd.C_drewN ?_ _) | (with_reducible refine Kd.C_drew ?_))); (case side2 => rw [show t268.length = t248.length from (Kd.R_reads' HO250.out).1.symm]; exact (Kd.R_reads' HO250.out).2.1); rintro e w121 ⟨rfl, hb⟩; refine ⟨_, rfl, ?_⟩; have n0_ := A_ (Kd.R_below Z52 hb); have n1_ := A_ (Kd.R_below Z51 hb); have n2_ := A_ (Kd.R_below Z50 hb); have n3_ := A_ (Kd.R_below Z49 hb); have n4_ := A_ (Kd.R_below Z48 hb); have n5_ := A_ (Kd.R_below Z47 hb); have n6_ := A_ (Kd.R_below Z46 hb); have n7_ := A_ (Kd.R_below Z45 hb); have n8_ := A_ (blk_below (g := gb225) (o := .cells #[.slice A0_0 l0_0.length c0_0] 24 (0, 0)) Z41 hb); have n9_ := A_ (blk_below (g := gb226) (o := .cells #[.slice A2_0 l2_0.length c2_0] 24 (0, 0)) Z40 hb); have n10_ := A_ (blk_below (g := gb239) (o := .cells #[.slice Ao68 t235.length co68] 26 (0, 0)) Z39 hb); have n11_ := A_ (blk_below (g := gb243) (o := .cells #[.slice Ao74 t240.length co74] 26 (0, 0)) Z38 hb); have n12_ := A_ (blk_below (g := gb247) (o := .cells #[.slice Ao83 t244.length co83] 26 (0, 0)) Z37 hb); have n13_ := A_ (blk_below (g := gb252) (o := .cells #[.slice Ao94 t248.length co94] 26 (0, 0)) Z36 hb); have n14_ := A_ (below_step Z1 hb); clear HO231; clear HO234; clear HO237; clear HO242; clear HO246; clear HO250; clear HO256; clear HO260; clear BK225; clear BK226; clear BK239; clear BK243; clear BK247; clear BK252; clear HB; have HO231 := n0_; have HO234 := n1_; have HO237 := n2_; have HO242 := n3_; have HO246 := n4_; have HO250 := n5_; have HO256 := n6_; have HO260 := n7_; have BK225 := n8_; have BK226 := n9_; have BK239 := n10_; have BK243 := n11_; have BK247 := n12_; have BK252 := n13_; have HB := n14_; clear n0_ n1_ n2_ n3_ n4_ n5_ n6_ n7_ n8_ n9_ n10_ n11_ n12_ n13_ n14_; (try clear hb); (try clear hb2); (try clear hk); (try clear hi)))
    have n0_ := A_ (Kd.R_drew HO231.out)
    have n1_ := A_ (Kd.R_drew HO234.out)
    have n2_ := A_ (Kd.R_drew HO237.out)
    have n3_ := A_ (Kd.R_drew HO242.out)
    have n4_ := A_ (Kd.R_drew HO246.out)
    have n5_ := A_ (Kd.R_drew HO250.out)
    have n6_ := A_ (Kd.R_drew HO256.out)
    have n7_ := A_ (Kd.R_drew HO260.out)
    have n8_ := A_ (blk_drew BK225.out)
    have n9_ := A_ (blk_drew BK226.out)
    have n10_ := A_ (blk_drew BK239.out)
    have n11_ := A_ (blk_drew BK243.out)
    have n12_ := A_ (blk_drew BK247.out)
    have n13_ := A_ (blk_drew BK252.out)
    have n14_ := A_ (below_drew1 HB.out)
    clear HO231
    clear HO234
    clear HO237
    clear HO242
    clear HO246
    clear HO250
    clear HO256
    clear HO260
    clear BK225
    clear BK226
    clear BK239
    clear BK243
    clear BK247
    clear BK252
    clear HB
    have HO231 := n0_
    have HO234 := n1_
    have HO237 := n2_
    have HO242 := n3_
    have HO246 := n4_
    have HO250 := n5_
    have HO256 := n6_
    have HO260 := n7_
    have BK225 := n8_
    have BK226 := n9_
    have BK239 := n10_
    have BK243 := n11_
    have BK247 := n12_
    have BK252 := n13_
    have HB := n14_
    clear n0_ n1_ n2_ n3_ n4_ n5_ n6_ n7_ n8_ n9_ n10_ n11_ n12_ n13_ n14_
    refine start_ (n := 12) (S := fun w' => w'.cell? ⟨gb225, 0, none⟩ = some (.slice A0_0 l0_0.length c0_0) ∧ w'.cell? ⟨gb226, 0, none⟩ = some (.slice A2_0 l2_0.length c2_0)) (ds := []) #[false, false, false, false, false, false, false, false, false, false, false, false] (by kernel_rfl) rfl rfl ⟨(blk_cell BK225.out 0).trans rfl, (blk_cell BK226.out 0).trans rfl⟩ (fun hHeld => ?_); refine with_tabW laws_FnExactReplaceAt.tab31 laws_FnExactReplaceAt.bits31 (fun HT_ HW_ => ?_)
    generalize w121.drew = w122 at HO231 HO234 HO237 HO242 HO246 HO250 HO256 HO260 BK225 BK226 BK239 BK243 BK247 BK252 HB hHeld ⊢
    refine pure_ (i := 2) (N := some 101) (v := ?_) (a' := ?_) #[false, false, true, false, false, false, false, false, false, false, false, false] rfl rfl (any_of HT_.out (by kernel_rfl)) (fun _ _ _ h => h) (Or.inl ⟨by rfl, ?_⟩) ?_ ?_
    rotate_left
    ·intro w'
     go_simp
     with_reducible rfl
    rotate_left
    ·simp only [Act.put, List.setIfInBounds_toArray, List.set_cons_zero, List.set_cons_succ, i64_w, i32_w]
     rfl
    refine take_ (i := 0) (N := some 99) (v := ?_) (a' := ?_) #[true, false, true, false, false, false, false, false, false, false, false, false] rfl rfl (take_ofW HT_.out HW_.out (by kernel_rfl)) (fun _ _ _ h => h) (Or.inl ⟨by rfl, ?_⟩) hHeld ?_ ?_
    rotate_left
    ·rintro w' ⟨s0, s1⟩
     go_simp
     with_reducible rfl
    rotate_left
    ·simp only [Act.put, List.setIfInBounds_toArray, List.set_cons_zero, List.set_cons_succ, i64_w, i32_w]
     rfl
    refine take_ (i := 3) (N := some 102) (v := ?_) (a' := ?_) #[true, false, true, true, false, false, false, false, false, false, false, false] rfl rfl (take_ofW HT_.out HW_.out (by kernel_rfl)) (fun _ _ _ h => h) (Or.inl ⟨by rfl, ?_⟩) hHeld ?_ ?_
    rotate_left
    ·rintro w' ⟨s0, s1⟩
     go_simp
     with_reducible rfl
    rotate_left
    ·simp only [Act.put, List.setIfInBounds_toArray, List.set_cons_zero, List.set_cons_succ, i64_w, i32_w]
     rfl
    refine join_ (σ := Value × Value × Value × Nat) 2 #[true, true, true, true, true, true, true, true, true, true, false, false] (fun s_ => [(100, .agg #[s_.1]), (103, .agg #[s_.2.1]), (104, .tuple #[.agg #[s_.2.2.1], .int .i64 t279]), (17, .pointer (some ⟨s_.2.2.2, 0, none⟩)), (98, .tuple #[.agg #[s_.2.2.1], .int .i64 t279]), (105, .agg #[s_.2.2.1]), (106, .int .i64 t279)]) (fun s_ w' => (w'.cell? ⟨gb225, 0, none⟩ = some (.slice A0_0 l0_0.length c0_0) ∧ w'.cell? ⟨gb226, 0, none⟩ = some (.slice A2_0 l2_0.length c2_0)) ∧ (Kd.R (Kd.int .i64) 2 w' w.heap.size (fun k_ => some k_ ≠ (v233 : Value).ownBlock ∧ some k_ ≠ (.slice Ao68 t235.length co68 : Value).ownBlock ∧ some k_ ≠ (.slice Ao74 t240.length co74 : Value).ownBlock ∧ some k_ ≠ (.slice Ao83 t244.length co83 : Value).ownBlock ∧ some k_ ≠ (.slice Ao94 t248.length co94 : Value).ownBlock ∧ some k_ ≠ (.slice Ao105 t254.length co105 : Value).ownBlock ∧ some k_ ≠ (.slice Ao109 t258.length co109 : Value).ownBlock ∧ some k_ ≠ (s_.1 : Value).ownBlock ∧ some k_ ≠ (s_.2.1 : Value).ownBlock ∧ some k_ ≠ (s_.2.2.1 : Value).ownBlock) v230 t229) ∧ (Kd.R (Kd.int .i64) 2 w' w.heap.size (fun k_ => some k_ ≠ (v230 : Value).ownBlock ∧ some k_ ≠ (.slice Ao68 t235.length co68 : Value).ownBlock ∧ some k_ ≠ (.slice Ao74 t240.length co74 : Value).ownBlock ∧ some k_ ≠ (.slice Ao83 t244.length co83 : Value).ownBlock ∧ some k_ ≠ (.slice Ao94 t248.length co94 : Value).ownBlock ∧ some k_ ≠ (.slice Ao105 t254.length co105 : Value).ownBlock ∧ some k_ ≠ (.slice Ao109 t258.length co109 : Value).ownBlock ∧ some k_ ≠ (s_.1 : Value).ownBlock ∧ some k_ ≠ (s_.2.1 : Value).ownBlock ∧ some k_ ≠ (s_.2.2.1 : Value).ownBlock) v233 t232) ∧ (Kd.R (Kd.int .i64) 2 w' w.heap.size (fun k_ => some k_ ≠ (v230 : Value).ownBlock ∧ some k_ ≠ (v233 : Value).ownBlock ∧ some k_ ≠ (.slice Ao74 t240.length co74 : Value).ownBlock ∧ some k_ ≠ (.slice Ao83 t244.length co83 : Value).ownBlock ∧ some k_ ≠ (.slice Ao94 t248.length co94 : Value).ownBlock ∧ some k_ ≠ (.slice Ao105 t254.length co105 : Value).ownBlock ∧ some k_ ≠ (.slice Ao109 t258.length co109 : Value).ownBlock ∧ some k_ ≠ (s_.1 : Value).ownBlock ∧ some k_ ≠ (s_.2.1 : Value).ownBlock ∧ some k_ ≠ (s_.2.2.1 : Value).ownBlock) (.slice Ao68 t235.length co68) t235) ∧ (Kd.R (Kd.int .i64) 2 w' w.heap.size (fun k_ => some k_ ≠ (v230 : Value).ownBlock ∧ some k_ ≠ (v233 : Value).ownBlock ∧ some k_ ≠ (.slice Ao68 t235.length co68 : Value).ownBlock ∧ some k_ ≠ (.slice Ao83 t244.length co83 : Value).ownBlock ∧ some k_ ≠ (.slice Ao94 t248.length co94 : Value).ownBlock ∧ some k_ ≠ (.slice Ao105 t254.length co105 : Value).ownBlock ∧ some k_ ≠ (.slice Ao109 t258.length co109 : Value).ownBlock ∧ some k_ ≠ (s_.1 : Value).ownBlock ∧ some k_ ≠ (s_.2.1 : Value).ownBlock ∧ some k_ ≠ (s_.2.2.1 : Value).ownBlock) (.slice Ao74 t240.length co74) t263) ∧ (Kd.R (Kd.int .i64) 2 w' w.heap.size (fun k_ => some k_ ≠ (v230 : Value).ownBlock ∧ some k_ ≠ (v233 : Value).ownBlock ∧ some k_ ≠ (.slice Ao68 t235.length co68 : Value).ownBlock ∧ some k_ ≠ (.slice Ao74 t240.length co74 : Value).ownBlock ∧ some k_ ≠ (.slice Ao94 t248.length co94 : Value).ownBlock ∧ some k_ ≠ (.slice Ao105 t254.length co105 : Value).ownBlock ∧ some k_ ≠ (.slice Ao109 t258.length co109 : Value).ownBlock ∧ some k_ ≠ (s_.1 : Value).ownBlock ∧ some k_ ≠ (s_.2.1 : Value).ownBlock ∧ some k_ ≠ (s_.2.2.1 : Value).ownBlock) (.slice Ao83 t244.length co83) t265) ∧ (Kd.R (Kd.int .i64) 2 w' w.heap.size (fun k_ => some k_ ≠ (v230 : Value).ownBlock ∧ some k_ ≠ (v233 : Value).ownBlock ∧ some k_ ≠ (.slice Ao68 t235.length co68 : Value).ownBlock ∧ some k_ ≠ (.slice Ao74 t240.length co74 : Value).ownBlock ∧ some k_ ≠ (.slice Ao83 t244.length co83 : Value).ownBlock ∧ some k_ ≠ (.slice Ao105 t254.length co105 : Value).ownBlock ∧ some k_ ≠ (.slice Ao109 t258.length co109 : Value).ownBlock ∧ some k_ ≠ (s_.1 : Value).ownBlock ∧ some k_ ≠ (s_.2.1 : Value).ownBlock ∧ some k_ ≠ (s_.2.2.1 : Value).ownBlock) (.slice Ao94 t248.length co94) t268) ∧ (Kd.R (Kd.int .i64) 2 w' w.heap.size (fun k_ => some k_ ≠ (v230 : Value).ownBlock ∧ some k_ ≠ (v233 : Value).ownBlock ∧ some k_ ≠ (.slice Ao68 t235.length co68 : Value).ownBlock ∧ some k_ ≠ (.slice Ao74 t240.length co74 : Value).ownBlock ∧ some k_ ≠ (.slice Ao83 t244.length co83 : Value).ownBlock ∧ some k_ ≠ (.slice Ao94 t248.length co94 : Value).ownBlock ∧ some k_ ≠ (.slice Ao109 t258.length co109 : Value).ownBlock ∧ some k_ ≠ (s_.1 : Value).ownBlock ∧ some k_ ≠ (s_.2.1 : Value).ownBlock ∧ some k_ ≠ (s_.2.2.1 : Value).ownBlock) (.slice Ao105 t254.length co105) t254) ∧ (Kd.R (Kd.int .i64) 2 w' w.heap.size (fun k_ => some k_ ≠ (v230 : Value).ownBlock ∧ some k_ ≠ (v233 : Value).ownBlock ∧ some k_ ≠ (.slice Ao68 t235.length co68 : Value).ownBlock ∧ some k_ ≠ (.slice Ao74 t240.length co74 : Value).ownBlock ∧ some k_ ≠ (.slice Ao83 t244.length co83 : Value).ownBlock ∧ some k_ ≠ (.slice Ao94 t248.length co94 : Value).ownBlock ∧ some k_ ≠ (.slice Ao105 t254.length co105 : Value).ownBlock ∧ some k_ ≠ (s_.1 : Value).ownBlock ∧ some k_ ≠ (s_.2.1 : Value).ownBlock ∧ some k_ ≠ (s_.2.2.1 : Value).ownBlock) (.slice Ao109 t258.length co109) t258) ∧ (Kd.R (Kd.int .i64) 2 w' w.heap.size (fun k_ => some k_ ≠ (v230 : Value).ownBlock ∧ some k_ ≠ (v233 : Value).ownBlock ∧ some k_ ≠ (.slice Ao68 t235.length co68 : Value).ownBlock ∧ some k_ ≠ (.slice Ao74 t240.length co74 : Value).ownBlock ∧ some k_ ≠ (.slice Ao83 t244.length co83 : Value).ownBlock ∧ some k_ ≠ (.slice Ao94 t248.length co94 : Value).ownBlock ∧ some k_ ≠ (.slice Ao105 t254.length co105 : Value).ownBlock ∧ some k_ ≠ (.slice Ao109 t258.length co109 : Value).ownBlock ∧ some k_ ≠ (s_.2.1 : Value).ownBlock ∧ some k_ ≠ (s_.2.2.1 : Value).ownBlock) s_.1 t270) ∧ (Kd.R (Kd.int .i64) 2 w' w.heap.size (fun k_ => some k_ ≠ (v230 : Value).ownBlock ∧ some k_ ≠ (v233 : Value).ownBlock ∧ some k_ ≠ (.slice Ao68 t235.length co68 : Value).ownBlock ∧ some k_ ≠ (.slice Ao74 t240.length co74 : Value).ownBlock ∧ some k_ ≠ (.slice Ao83 t244.length co83 : Value).ownBlock ∧ some k_ ≠ (.slice Ao94 t248.length co94 : Value).ownBlock ∧ some k_ ≠ (.slice Ao105 t254.length co105 : Value).ownBlock ∧ some k_ ≠ (.slice Ao109 t258.length co109 : Value).ownBlock ∧ some k_ ≠ (s_.1 : Value).ownBlock ∧ some k_ ≠ (s_.2.2.1 : Value).ownBlock) s_.2.1 t273) ∧ (Kd.R (Kd.int .i64) 2 w' w.heap.size (fun k_ => some k_ ≠ (v230 : Value).ownBlock ∧ some k_ ≠ (v233 : Value).ownBlock ∧ some k_ ≠ (.slice Ao68 t235.length co68 : Value).ownBlock ∧ some k_ ≠ (.slice Ao74 t240.length co74 : Value).ownBlock ∧ some k_ ≠ (.slice Ao83 t244.length co83 : Value).ownBlock ∧ some k_ ≠ (.slice Ao94 t248.length co94 : Value).ownBlock ∧ some k_ ≠ (.slice Ao105 t254.length co105 : Value).ownBlock ∧ some k_ ≠ (.slice Ao109 t258.length co109 : Value).ownBlock ∧ some k_ ≠ (s_.1 : Value).ownBlock ∧ some k_ ≠ (s_.2.1 : Value).ownBlock) s_.2.2.1 t276) ∧ (w'.heap[gb225]? = some (.cells #[.slice A0_0 l0_0.length c0_0] 24 (0, 0))) ∧ (w'.heap[gb226]? = some (.cells #[.slice A2_0 l2_0.length c2_0] 24 (0, 0))) ∧ (w'.heap[gb239]? = some (.cells #[.slice Ao68 t235.length co68] 26 (0, 0))) ∧ (w'.heap[gb243]? = some (.cells #[.slice Ao74 t240.length co74] 26 (0, 0))) ∧ (w'.heap[gb247]? = some (.cells #[.slice Ao83 t244.length co83] 26 (0, 0))) ∧ (w'.heap[gb252]? = some (.cells #[.slice Ao94 t248.length co94] 26 (0, 0))) ∧ (w'.heap[s_.2.2.2]? = some (.cells #[.slice none 0 0] 26 (0, 0))) ∧ (w.heap.size ≤ s_.2.2.2) ∧ (w.heap.size ≤ s_.2.2.2) ∧ (gb225 ≠ s_.2.2.2) ∧ (s_.2.2.2 ≠ gb225) ∧ (gb226 ≠ s_.2.2.2) ∧ (s_.2.2.2 ≠ gb226) ∧ (gb239 ≠ s_.2.2.2) ∧ (s_.2.2.2 ≠ gb239) ∧ (gb243 ≠ s_.2.2.2) ∧ (s_.2.2.2 ≠ gb243) ∧ (gb247 ≠ s_.2.2.2) ∧ (s_.2.2.2 ≠ gb247) ∧ (gb252 ≠ s_.2.2.2) ∧ (s_.2.2.2 ≠ gb252) ∧ (Below w.heap.size w w')) ?_ ?_
    rotate_left
    ·intro hCont
     refine two_ (i := 1) (j := 9) (Ni := some 100) (Nj := some 17) #[true, true, true, true, false, false, false, false, false, false, false, false] #[true, false, true, true, false, false, false, false, false, true, false, false] rfl rfl rfl rfl (two_of HT_.out (by kernel_rfl)) (by decide) (by decide) (fun K hK => ?_) (fun K hK => ?_)
     ·skip
      refine goes_ Try.func14 (by kernel_rfl) rfl #[.agg #[.slice A0_0 l0_0.length c0_0]] (by rfl) rfl rfl Z33 ?_
      with_reducible refine (laws_toTree.calls k _ _ l0_0 t270 _ ?side1 ?side2 A44.out).mono ?_
      (case side1 => repeat (first | exact (Kd.C_below HR0_0.out HB.out) | (with_reducible refine Kd.C_alloc ?_ _) | (with_reducible refine Kd.C_drewN ?_ _) | (with_reducible refine Kd.C_drew ?_)))
      (case side2 => exact HC0_0.out)
      rintro e w123 ⟨v271, rfl, ho0, hb⟩
      refine ⟨_, rfl, ?_⟩
      have n0_ := A_ (Kd.R_elder' Z52 (Kd.R_base ho0) hb)
      have n1_ := A_ (Kd.R_elder' Z51 (Kd.R_base ho0) hb)
      have n2_ := A_ (Kd.R_elder' Z50 (Kd.R_base ho0) hb)
      have n3_ := A_ (Kd.R_elder' Z49 (Kd.R_base ho0) hb)
      have n4_ := A_ (Kd.R_elder' Z48 (Kd.R_base ho0) hb)
      have n5_ := A_ (Kd.R_elder' Z47 (Kd.R_base ho0) hb)
      have n6_ := A_ (Kd.R_elder' Z46 (Kd.R_base ho0) hb)
      have n7_ := A_ (Kd.R_elder' Z45 (Kd.R_base ho0) hb)
      have n8_ := A_ (Kd.R_lower (Kd.R_new' (Kd.R_new' (Kd.R_new' (Kd.R_new' (Kd.R_new' (Kd.R_new' (Kd.R_new' (Kd.R_new' ho0 (Kd.R_lt Z52)) (Kd.R_lt Z51)) (Kd.R_lt Z50)) (Kd.R_lt Z49)) (Kd.R_lt Z48)) (Kd.R_lt Z47)) (Kd.R_lt Z46)) (Kd.R_lt Z45)) (below_size Z1))
      have n9_ := A_ (blk_below (g := gb225) (o := .cells #[.slice A0_0 l0_0.length c0_0] 24 (0, 0)) Z41 hb)
      have n10_ := A_ (blk_below (g := gb226) (o := .cells #[.slice A2_0 l2_0.length c2_0] 24 (0, 0)) Z40 hb)
      have n11_ := A_ (blk_below (g := gb239) (o := .cells #[.slice Ao68 t235.length co68] 26 (0, 0)) Z39 hb)
      have n12_ := A_ (blk_below (g := gb243) (o := .cells #[.slice Ao74 t240.length co74] 26 (0, 0)) Z38 hb)
      have n13_ := A_ (blk_below (g := gb247) (o := .cells #[.slice Ao83 t244.length co83] 26 (0, 0)) Z37 hb)
      have n14_ := A_ (blk_below (g := gb252) (o := .cells #[.slice Ao94 t248.length co94] 26 (0, 0)) Z36 hb)
      have n15_ := A_ (below_step Z1 hb)
      clear HO231
      clear HO234
      clear HO237
      clear HO242
      clear HO246
      clear HO250
      clear HO256
      clear HO260
      clear BK225
      clear BK226
      clear BK239
      clear BK243
      clear BK247
      clear BK252
      clear HB
      have HO231 := n0_
      have HO234 := n1_
      have HO237 := n2_
      have HO242 := n3_
      have HO246 := n4_
      have HO250 := n5_
      have HO256 := n6_
      have HO260 := n7_
      have HO272 := n8_
      have BK225 := n9_
      have BK226 := n10_
      have BK239 := n11_
      have BK243 := n12_
      have BK247 := n13_
      have BK252 := n14_
      have HB := n15_
      clear n0_ n1_ n2_ n3_ n4_ n5_ n6_ n7_ n8_ n9_ n10_ n11_ n12_ n13_ n14_ n15_
      (try clear hb)
      (try clear hb2)
      (try clear hk)
      (try clear hi)
      (try clear ho0)
      refine hK.out _ _ ⟨(blk_cell BK225.out 0).trans rfl, (blk_cell BK226.out 0).trans rfl⟩ (fun hHeld => ?_)
      clear hK K
      refine norm_ (a' := ?_) ?_ ?_
      rotate_left
      ·show Act.put _ (some 100) _ = _
       simp only [Act.put, List.setIfInBounds_toArray, List.set_cons_zero, List.set_cons_succ, i64_w, i32_w]
       rfl
      refine two_ (i := 4) (j := 9) (Ni := some 103) (Nj := some 17) #[true, true, true, true, true, false, false, false, false, false, false, false] #[true, true, true, true, false, false, false, false, false, true, false, false] rfl rfl rfl rfl (two_of HT_.out (by kernel_rfl)) (by decide) (by decide) (fun K hK => ?_) (fun K hK => ?_)
      ·skip
       refine goes_ Try.func14 (by kernel_rfl) rfl #[.agg #[.slice A2_0 l2_0.length c2_0]] (by rfl) rfl rfl Z33 ?_
       with_reducible refine (laws_toTree.calls k _ _ l2_0 t273 _ ?side1 ?side2 A45.out).mono ?_
       (case side1 => repeat (first | exact (Kd.C_below HR2_0.out HB.out) | (with_reducible refine Kd.C_alloc ?_ _) | (with_reducible refine Kd.C_drewN ?_ _) | (with_reducible refine Kd.C_drew ?_)))
       (case side2 => exact HC2_0.out)
       rintro e w124 ⟨v274, rfl, ho0, hb⟩
       refine ⟨_, rfl, ?_⟩
       have n0_ := A_ (Kd.R_elder' Z52 (Kd.R_base ho0) hb)
       have n1_ := A_ (Kd.R_elder' Z51 (Kd.R_base ho0) hb)
       have n2_ := A_ (Kd.R_elder' Z50 (Kd.R_base ho0) hb)
       have n3_ := A_ (Kd.R_elder' Z49 (Kd.R_base ho0) hb)
       have n4_ := A_ (Kd.R_elder' Z48 (Kd.R_base ho0) hb)
       have n5_ := A_ (Kd.R_elder' Z47 (Kd.R_base ho0) hb)
       have n6_ := A_ (Kd.R_elder' Z46 (Kd.R_base ho0) hb)
       have n7_ := A_ (Kd.R_elder' Z45 (Kd.R_base ho0) hb)
       have n8_ := A_ (Kd.R_elder' Z44 (Kd.R_base ho0) hb)
       have n9_ := A_ (Kd.R_lower (Kd.R_new' (Kd.R_new' (Kd.R_new' (Kd.R_new' (Kd.R_new' (Kd.R_new' (Kd.R_new' (Kd.R_new' (Kd.R_new' ho0 (Kd.R_lt Z52)) (Kd.R_lt Z51)) (Kd.R_lt Z50)) (Kd.R_lt Z49)) (Kd.R_lt Z48)) (Kd.R_lt Z47)) (Kd.R_lt Z46)) (Kd.R_lt Z45)) (Kd.R_lt Z44)) (below_size Z1))
       have n10_ := A_ (blk_below (g := gb225) (o := .cells #[.slice A0_0 l0_0.length c0_0] 24 (0, 0)) Z41 hb)
       have n11_ := A_ (blk_below (g := gb226) (o := .cells #[.slice A2_0 l2_0.length c2_0] 24 (0, 0)) Z40 hb)
       have n12_ := A_ (blk_below (g := gb239) (o := .cells #[.slice Ao68 t235.length co68] 26 (0, 0)) Z39 hb)
       have n13_ := A_ (blk_below (g := gb243) (o := .cells #[.slice Ao74 t240.length co74] 26 (0, 0)) Z38 hb)
       have n14_ := A_ (blk_below (g := gb247) (o := .cells #[.slice Ao83 t244.length co83] 26 (0, 0)) Z37 hb)
       have n15_ := A_ (blk_below (g := gb252) (o := .cells #[.slice Ao94 t248.length co94] 26 (0, 0)) Z36 hb)
       have n16_ := A_ (below_step Z1 hb)
       clear HO231
       clear HO234
       clear HO237
       clear HO242
       clear HO246
       clear HO250
       clear HO256
       clear HO260
       clear HO272
       clear BK225
       clear BK226
       clear BK239
       clear BK243
       clear BK247
       clear BK252
       clear HB
       have HO231 := n0_
       have HO234 := n1_
       have HO237 := n2_
       have HO242 := n3_
       have HO246 := n4_
       have HO250 := n5_
       have HO256 := n6_
       have HO260 := n7_
       have HO272 := n8_
       have HO275 := n9_
       have BK225 := n10_
       have BK226 := n11_
       have BK239 := n12_
       have BK243 := n13_
       have BK247 := n14_
       have BK252 := n15_
       have HB := n16_
       clear n0_ n1_ n2_ n3_ n4_ n5_ n6_ n7_ n8_ n9_ n10_ n11_ n12_ n13_ n14_ n15_ n16_
       (try clear hb)
       (try clear hb2)
       (try clear hk)
       (try clear hi)
       (try clear ho0)
       obtain ⟨Ao125, co125, eo125⟩ := Kd.R_slice HO272.out
       (first | subst eo125 | (injection eo125 with f1_ f2_ f3_; have f4_ := f1_.symm; have f5_ := f3_.symm; clear f1_ f2_ f3_; subst f4_; subst f5_))
       obtain ⟨Ao126, co126, eo126⟩ := Kd.R_slice HO275.out
       (first | subst eo126 | (injection eo126 with f1_ f2_ f3_; have f4_ := f1_.symm; have f5_ := f3_.symm; clear f1_ f2_ f3_; subst f4_; subst f5_))
       refine hK.out _ _ ⟨(blk_cell BK225.out 0).trans rfl, (blk_cell BK226.out 0).trans rfl⟩ (fun hHeld => ?_)
       clear hK K
       refine norm_ (a' := ?_) ?_ ?_
       rotate_left
       ·show Act.put _ (some 103) _ = _
        simp only [Act.put, List.setIfInBounds_toArray, List.set_cons_zero, List.set_cons_succ, i64_w, i32_w]
        rfl
       refine two_ (i := 5) (j := 9) (Ni := some 104) (Nj := some 17) #[true, true, true, true, true, true, false, false, false, false, false, false] #[true, true, true, true, true, false, false, false, false, true, false, false] rfl rfl rfl rfl (two_of HT_.out (by kernel_rfl)) (by decide) (by decide) (fun K hK => ?_) (fun K hK => ?_)
       ·skip
        refine goes_ Try.func31 (by kernel_rfl) rfl #[.agg #[.slice Ao125 t270.length co125], .int .i64 a1, .agg #[.slice Ao126 t273.length co126]] (by rfl) rfl rfl Z33 ?_
        with_reducible refine (impl_ReplaceAt.calls k (fun k_ => some k_ = (.slice Ao125 t270.length co125 : Value).ownBlock) _ _ t270 a1 (fun k_ => some k_ = (.slice Ao126 t273.length co126 : Value).ownBlock) _ _ t273 t276 t279 _ ?side1 ?side2 A46.out).mono ?_
        (case side1 => exact Kd.R_V (Kd.R_tight rfl (Kd.R_types (Kd.R_types (Kd.R_types (Kd.R_types (Kd.R_types (Kd.R_types (HO272.out) BK225.out (by decide)) BK226.out (by decide)) BK239.out (by decide)) BK243.out (by decide)) BK247.out (by decide)) BK252.out (by decide))))
        (case side2 => exact Kd.R_V (Kd.R_tight rfl (Kd.R_types (Kd.R_types (Kd.R_types (Kd.R_types (Kd.R_types (Kd.R_types (HO275.out) BK225.out (by decide)) BK226.out (by decide)) BK239.out (by decide)) BK243.out (by decide)) BK247.out (by decide)) BK252.out (by decide))))
        rintro e w127 ⟨v277, rfl, ho0, hb⟩
        refine ⟨_, rfl, ?_⟩
        have n0_ := A_ (Kd.R_elder' Z52 (Kd.R_base ho0) hb)
        have n1_ := A_ (Kd.R_elder' Z51 (Kd.R_base ho0) hb)
        have n2_ := A_ (Kd.R_elder' Z50 (Kd.R_base ho0) hb)
        have n3_ := A_ (Kd.R_elder' Z49 (Kd.R_base ho0) hb)
        have n4_ := A_ (Kd.R_elder' Z48 (Kd.R_base ho0) hb)
        have n5_ := A_ (Kd.R_elder' Z47 (Kd.R_base ho0) hb)
        have n6_ := A_ (Kd.R_elder' Z46 (Kd.R_base ho0) hb)
        have n7_ := A_ (Kd.R_elder' Z45 (Kd.R_base ho0) hb)
        have n8_ := A_ (Kd.R_elder' Z44 (Kd.R_base ho0) hb)
        have n9_ := A_ (Kd.R_elder' Z43 (Kd.R_base ho0) hb)
        have n10_ := A_ (Kd.R_lower (Kd.R_new' (Kd.R_new' (Kd.R_new' (Kd.R_new' (Kd.R_new' (Kd.R_new' (Kd.R_new' (Kd.R_new' (Kd.R_new' (Kd.R_new' (Kd.R_mono (ok' := fun k_ => True) ho0 (fun _ hk_ => trivial)) (Kd.R_lt Z52)) (Kd.R_lt Z51)) (Kd.R_lt Z50)) (Kd.R_lt Z49)) (Kd.R_lt Z48)) (Kd.R_lt Z47)) (Kd.R_lt Z46)) (Kd.R_lt Z45)) (Kd.R_lt Z44)) (Kd.R_lt Z43)) (below_size Z1))
        have n11_ := A_ (blk_below (g := gb225) (o := .cells #[.slice A0_0 l0_0.length c0_0] 24 (0, 0)) Z41 hb)
        have n12_ := A_ (blk_below (g := gb226) (o := .cells #[.slice A2_0 l2_0.length c2_0] 24 (0, 0)) Z40 hb)
        have n13_ := A_ (blk_below (g := gb239) (o := .cells #[.slice Ao68 t235.length co68] 26 (0, 0)) Z39 hb)
        have n14_ := A_ (blk_below (g := gb243) (o := .cells #[.slice Ao74 t240.length co74] 26 (0, 0)) Z38 hb)
        have n15_ := A_ (blk_below (g := gb247) (o := .cells #[.slice Ao83 t244.length co83] 26 (0, 0)) Z37 hb)
        have n16_ := A_ (blk_below (g := gb252) (o := .cells #[.slice Ao94 t248.length co94] 26 (0, 0)) Z36 hb)
        have n17_ := A_ (below_step Z1 hb)
        clear HO231
        clear HO234
        clear HO237
        clear HO242
        clear HO246
        clear HO250
        clear HO256
        clear HO260
        clear HO272
        clear HO275
        clear BK225
        clear BK226
        clear BK239
        clear BK243
        clear BK247
        clear BK252
        clear HB
        have HO231 := n0_
        have HO234 := n1_
        have HO237 := n2_
        have HO242 := n3_
        have HO246 := n4_
        have HO250 := n5_
        have HO256 := n6_
        have HO260 := n7_
        have HO272 := n8_
        have HO275 := n9_
        have HO278 := n10_
        have BK225 := n11_
        have BK226 := n12_
        have BK239 := n13_
        have BK243 := n14_
        have BK247 := n15_
        have BK252 := n16_
        have HB := n17_
        clear n0_ n1_ n2_ n3_ n4_ n5_ n6_ n7_ n8_ n9_ n10_ n11_ n12_ n13_ n14_ n15_ n16_ n17_
        (try clear hb)
        (try clear hb2)
        (try clear hk)
        (try clear hi)
        (try clear ho0)
        refine hK.out _ _ ⟨(blk_cell BK225.out 0).trans rfl, (blk_cell BK226.out 0).trans rfl⟩ (fun hHeld => ?_)
        clear hK K
        refine norm_ (a' := ?_) ?_ ?_
        rotate_left
        ·show Act.put _ (some 104) _ = _
         simp only [Act.put, List.setIfInBounds_toArray, List.set_cons_zero, List.set_cons_succ, i64_w, i32_w]
         rfl
        refine pure_ (i := 6) (N := some 98) (v := ?_) (a' := ?_) #[true, true, true, true, true, true, true, false, false, false, false, false] rfl rfl (any_of HT_.out (by kernel_rfl)) (fun _ _ _ h => h) (Or.inl ⟨by rfl, ?_⟩) ?_ ?_
        rotate_left
        ·intro w'
         go_simp
         with_reducible rfl
        rotate_left
        ·simp only [Act.put, List.setIfInBounds_toArray, List.set_cons_zero, List.set_cons_succ, i64_w, i32_w]
         rfl
        refine pure_ (i := 7) (N := some 105) (v := ?_) (a' := ?_) #[true, true, true, true, true, true, true, true, false, false, false, false] rfl rfl (any_of HT_.out (by kernel_rfl)) (fun _ _ _ h => h) (Or.inl ⟨by rfl, ?_⟩) ?_ ?_
        rotate_left
        ·intro w'
         go_simp
         with_reducible rfl
        rotate_left
        ·simp only [Act.put, List.setIfInBounds_toArray, List.set_cons_zero, List.set_cons_succ, i64_w, i32_w]
         rfl
        refine pure_ (i := 8) (N := some 106) (v := ?_) (a' := ?_) #[true, true, true, true, true, true, true, true, true, false, false, false] rfl rfl (any_of HT_.out (by kernel_rfl)) (fun _ _ _ h => h) (Or.inl ⟨by rfl, ?_⟩) ?_ ?_
        rotate_left
        ·intro w'
         go_simp
         with_reducible rfl
        rotate_left
        ·simp only [Act.put, List.setIfInBounds_toArray, List.set_cons_zero, List.set_cons_succ, i64_w, i32_w]
         rfl
        refine one_ (i := 9) (N := some 17) #[true, true, true, true, true, true, true, true, true, true, false, false] rfl rfl (one_of HT_.out (by kernel_rfl)) (by decide) (fun K hK => ?_)
        refine box_step ?hg (N := 17) ?hd (cs := #[.slice none 0 0]) (t := 26) ?hr ?_; (case hd => rfl); (case hg => rfl); (case hr => first | (go_simp; done) | (go_simp; rfl))
        intro gb280 hg w128 hbox hb
        have n0_ := A_ (Kd.R_below Z52 hb)
        have n1_ := A_ (Kd.R_below Z51 hb)
        have n2_ := A_ (Kd.R_below Z50 hb)
        have n3_ := A_ (Kd.R_below Z49 hb)
        have n4_ := A_ (Kd.R_below Z48 hb)
        have n5_ := A_ (Kd.R_below Z47 hb)
        have n6_ := A_ (Kd.R_below Z46 hb)
        have n7_ := A_ (Kd.R_below Z45 hb)
        have n8_ := A_ (Kd.R_below Z44 hb)
        have n9_ := A_ (Kd.R_below Z43 hb)
        have n10_ := A_ (Kd.R_below Z42 hb)
        have n11_ := A_ (blk_below (g := gb225) (o := .cells #[.slice A0_0 l0_0.length c0_0] 24 (0, 0)) Z41 hb)
        have n12_ := A_ (blk_below (g := gb226) (o := .cells #[.slice A2_0 l2_0.length c2_0] 24 (0, 0)) Z40 hb)
        have n13_ := A_ (blk_below (g := gb239) (o := .cells #[.slice Ao68 t235.length co68] 26 (0, 0)) Z39 hb)
        have n14_ := A_ (blk_below (g := gb243) (o := .cells #[.slice Ao74 t240.length co74] 26 (0, 0)) Z38 hb)
        have n15_ := A_ (blk_below (g := gb247) (o := .cells #[.slice Ao83 t244.length co83] 26 (0, 0)) Z37 hb)
        have n16_ := A_ (blk_below (g := gb252) (o := .cells #[.slice Ao94 t248.length co94] 26 (0, 0)) Z36 hb)
        have n17_ := A_ (below_step Z1 hb)
        have n18_ := A_ (hbox)
        have n19_ := A_ ((by rw [hg]; exact (below_size Z1) : w.heap.size ≤ gb280))
        have n20_ := A_ ((by rw [hg]; exact (below_size Z1) : w.heap.size ≤ gb280))
        have n21_ := A_ ((by rw [hg]; exact Nat.ne_of_lt (blk_lt (g := gb225) (o := .cells #[.slice A0_0 l0_0.length c0_0] 24 (0, 0)) Z41) : gb225 ≠ gb280))
        have n22_ := A_ ((by rw [hg]; exact Nat.ne_of_gt (blk_lt (g := gb225) (o := .cells #[.slice A0_0 l0_0.length c0_0] 24 (0, 0)) Z41) : gb280 ≠ gb225))
        have n23_ := A_ ((by rw [hg]; exact Nat.ne_of_lt (blk_lt (g := gb226) (o := .cells #[.slice A2_0 l2_0.length c2_0] 24 (0, 0)) Z40) : gb226 ≠ gb280))
        have n24_ := A_ ((by rw [hg]; exact Nat.ne_of_gt (blk_lt (g := gb226) (o := .cells #[.slice A2_0 l2_0.length c2_0] 24 (0, 0)) Z40) : gb280 ≠ gb226))
        have n25_ := A_ ((by rw [hg]; exact Nat.ne_of_lt (blk_lt (g := gb239) (o := .cells #[.slice Ao68 t235.length co68] 26 (0, 0)) Z39) : gb239 ≠ gb280))
        have n26_ := A_ ((by rw [hg]; exact Nat.ne_of_gt (blk_lt (g := gb239) (o := .cells #[.slice Ao68 t235.length co68] 26 (0, 0)) Z39) : gb280 ≠ gb239))
        have n27_ := A_ ((by rw [hg]; exact Nat.ne_of_lt (blk_lt (g := gb243) (o := .cells #[.slice Ao74 t240.length co74] 26 (0, 0)) Z38) : gb243 ≠ gb280))
        have n28_ := A_ ((by rw [hg]; exact Nat.ne_of_gt (blk_lt (g := gb243) (o := .cells #[.slice Ao74 t240.length co74] 26 (0, 0)) Z38) : gb280 ≠ gb243))
        have n29_ := A_ ((by rw [hg]; exact Nat.ne_of_lt (blk_lt (g := gb247) (o := .cells #[.slice Ao83 t244.length co83] 26 (0, 0)) Z37) : gb247 ≠ gb280))
        have n30_ := A_ ((by rw [hg]; exact Nat.ne_of_gt (blk_lt (g := gb247) (o := .cells #[.slice Ao83 t244.length co83] 26 (0, 0)) Z37) : gb280 ≠ gb247))
        have n31_ := A_ ((by rw [hg]; exact Nat.ne_of_lt (blk_lt (g := gb252) (o := .cells #[.slice Ao94 t248.length co94] 26 (0, 0)) Z36) : gb252 ≠ gb280))
        have n32_ := A_ ((by rw [hg]; exact Nat.ne_of_gt (blk_lt (g := gb252) (o := .cells #[.slice Ao94 t248.length co94] 26 (0, 0)) Z36) : gb280 ≠ gb252))
        clear HO231
        clear HO234
        clear HO237
        clear HO242
        clear HO246
        clear HO250
        clear HO256
        clear HO260
        clear HO272
        clear HO275
        clear HO278
        clear BK225
        clear BK226
        clear BK239
        clear BK243
        clear BK247
        clear BK252
        clear HB
        have HO231 := n0_
        have HO234 := n1_
        have HO237 := n2_
        have HO242 := n3_
        have HO246 := n4_
        have HO250 := n5_
        have HO256 := n6_
        have HO260 := n7_
        have HO272 := n8_
        have HO275 := n9_
        have HO278 := n10_
        have BK225 := n11_
        have BK226 := n12_
        have BK239 := n13_
        have BK243 := n14_
        have BK247 := n15_
        have BK252 := n16_
        have HB := n17_
        have BK280 := n18_
        have GW280 := n19_
        have GE280 := n20_
        have NB225_280 := n21_
        have NB280_225 := n22_
        have NB226_280 := n23_
        have NB280_226 := n24_
        have NB239_280 := n25_
        have NB280_239 := n26_
        have NB243_280 := n27_
        have NB280_243 := n28_
        have NB247_280 := n29_
        have NB280_247 := n30_
        have NB252_280 := n31_
        have NB280_252 := n32_
        clear n0_ n1_ n2_ n3_ n4_ n5_ n6_ n7_ n8_ n9_ n10_ n11_ n12_ n13_ n14_ n15_ n16_ n17_ n18_ n19_ n20_ n21_ n22_ n23_ n24_ n25_ n26_ n27_ n28_ n29_ n30_ n31_ n32_
        clear hb hbox hg
        refine hK.out _ _ ⟨(blk_cell BK225.out 0).trans rfl, (blk_cell BK226.out 0).trans rfl⟩ (fun hHeld => ?_)
        clear hK K
        refine norm_ (a' := ?_) ?_ ?_
        rotate_left
        ·show Act.put _ (some 17) _ = _
         simp only [Act.put, List.setIfInBounds_toArray, List.set_cons_zero, List.set_cons_succ, i64_w, i32_w]
         rfl
        exact norm_ Z53 (hCont (.slice Ao125 t270.length co125, .slice Ao126 t273.length co126, v277, gb280) _ ⟨hHeld, Z5, Z6, Z7, Z8, Z9, Z10, Z11, Z12, Z2, Z3, Z4, Z41, Z40, Z39, Z38, Z37, Z36, Z35, GW280.out, GE280.out, NB225_280.out, NB280_225.out, NB226_280.out, NB280_226.out, NB239_280.out, NB280_239.out, NB243_280.out, NB280_243.out, NB247_280.out, NB280_247.out, NB252_280.out, NB280_252.out, Z0⟩)
       ·skip
        refine box_step ?hg (N := 17) ?hd (cs := #[.slice none 0 0]) (t := 26) ?hr ?_; (case hd => rfl); (case hg => rfl); (case hr => first | (go_simp; done) | (go_simp; rfl))
        intro gb280 hg w125 hbox hb
        have n0_ := A_ (Kd.R_below Z52 hb)
        have n1_ := A_ (Kd.R_below Z51 hb)
        have n2_ := A_ (Kd.R_below Z50 hb)
        have n3_ := A_ (Kd.R_below Z49 hb)
        have n4_ := A_ (Kd.R_below Z48 hb)
        have n5_ := A_ (Kd.R_below Z47 hb)
        have n6_ := A_ (Kd.R_below Z46 hb)
        have n7_ := A_ (Kd.R_below Z45 hb)
        have n8_ := A_ (Kd.R_below Z44 hb)
        have n9_ := A_ (Kd.R_below Z43 hb)
        have n10_ := A_ (blk_below (g := gb225) (o := .cells #[.slice A0_0 l0_0.length c0_0] 24 (0, 0)) Z41 hb)
        have n11_ := A_ (blk_below (g := gb226) (o := .cells #[.slice A2_0 l2_0.length c2_0] 24 (0, 0)) Z40 hb)
        have n12_ := A_ (blk_below (g := gb239) (o := .cells #[.slice Ao68 t235.length co68] 26 (0, 0)) Z39 hb)
        have n13_ := A_ (blk_below (g := gb243) (o := .cells #[.slice Ao74 t240.length co74] 26 (0, 0)) Z38 hb)
        have n14_ := A_ (blk_below (g := gb247) (o := .cells #[.slice Ao83 t244.length co83] 26 (0, 0)) Z37 hb)
        have n15_ := A_ (blk_below (g := gb252) (o := .cells #[.slice Ao94 t248.length co94] 26 (0, 0)) Z36 hb)
        have n16_ := A_ (below_step Z1 hb)
        have n17_ := A_ (hbox)
        have n18_ := A_ ((by rw [hg]; exact (below_size Z1) : w.heap.size ≤ gb280))
        have n19_ := A_ ((by rw [hg]; exact (below_size Z1) : w.heap.size ≤ gb280))
        have n20_ := A_ ((by rw [hg]; exact Nat.ne_of_lt (blk_lt (g := gb225) (o := .cells #[.slice A0_0 l0_0.length c0_0] 24 (0, 0)) Z41) : gb225 ≠ gb280))
        have n21_ := A_ ((by rw [hg]; exact Nat.ne_of_gt (blk_lt (g := gb225) (o := .cells #[.slice A0_0 l0_0.length c0_0] 24 (0, 0)) Z41) : gb280 ≠ gb225))
        have n22_ := A_ ((by rw [hg]; exact Nat.ne_of_lt (blk_lt (g := gb226) (o := .cells #[.slice A2_0 l2_0.length c2_0] 24 (0, 0)) Z40) : gb226 ≠ gb280))
        have n23_ := A_ ((by rw [hg]; exact Nat.ne_of_gt (blk_lt (g := gb226) (o := .cells #[.slice A2_0 l2_0.length c2_0] 24 (0, 0)) Z40) : gb280 ≠ gb226))
        have n24_ := A_ ((by rw [hg]; exact Nat.ne_of_lt (blk_lt (g := gb239) (o := .cells #[.slice Ao68 t235.length co68] 26 (0, 0)) Z39) : gb239 ≠ gb280))
        have n25_ := A_ ((by rw [hg]; exact Nat.ne_of_gt (blk_lt (g := gb239) (o := .cells #[.slice Ao68 t235.length co68] 26 (0, 0)) Z39) : gb280 ≠ gb239))
        have n26_ := A_ ((by rw [hg]; exact Nat.ne_of_lt (blk_lt (g := gb243) (o := .cells #[.slice Ao74 t240.length co74] 26 (0, 0)) Z38) : gb243 ≠ gb280))
        have n27_ := A_ ((by rw [hg]; exact Nat.ne_of_gt (blk_lt (g := gb243) (o := .cells #[.slice Ao74 t240.length co74] 26 (0, 0)) Z38) : gb280 ≠ gb243))
        have n28_ := A_ ((by rw [hg]; exact Nat.ne_of_lt (blk_lt (g := gb247) (o := .cells #[.slice Ao83 t244.length co83] 26 (0, 0)) Z37) : gb247 ≠ gb280))
        have n29_ := A_ ((by rw [hg]; exact Nat.ne_of_gt (blk_lt (g := gb247) (o := .cells #[.slice Ao83 t244.length co83] 26 (0, 0)) Z37) : gb280 ≠ gb247))
        have n30_ := A_ ((by rw [hg]; exact Nat.ne_of_lt (blk_lt (g := gb252) (o := .cells #[.slice Ao94 t248.length co94] 26 (0, 0)) Z36) : gb252 ≠ gb280))
        have n31_ := A_ ((by rw [hg]; exact Nat.ne_of_gt (blk_lt (g := gb252) (o := .cells #[.slice Ao94 t248.length co94] 26 (0, 0)) Z36) : gb280 ≠ gb252))
        clear HO231
        clear HO234
        clear HO237
        clear HO242
        clear HO246
        clear HO250
        clear HO256
        clear HO260
        clear HO272
        clear HO275
        clear BK225
        clear BK226
        clear BK239
        clear BK243
        clear BK247
        clear BK252
        clear HB
        have HO231 := n0_
        have HO234 := n1_
        have HO237 := n2_
        have HO242 := n3_
        have HO246 := n4_
        have HO250 := n5_
        have HO256 := n6_
        have HO260 := n7_
        have HO272 := n8_
        have HO275 := n9_
        have BK225 := n10_
        have BK226 := n11_
        have BK239 := n12_
        have BK243 := n13_
        have BK247 := n14_
        have BK252 := n15_
        have HB := n16_
        have BK280 := n17_
        have GW280 := n18_
        have GE280 := n19_
        have NB225_280 := n20_
        have NB280_225 := n21_
        have NB226_280 := n22_
        have NB280_226 := n23_
        have NB239_280 := n24_
        have NB280_239 := n25_
        have NB243_280 := n26_
        have NB280_243 := n27_
        have NB247_280 := n28_
        have NB280_247 := n29_
        have NB252_280 := n30_
        have NB280_252 := n31_
        clear n0_ n1_ n2_ n3_ n4_ n5_ n6_ n7_ n8_ n9_ n10_ n11_ n12_ n13_ n14_ n15_ n16_ n17_ n18_ n19_ n20_ n21_ n22_ n23_ n24_ n25_ n26_ n27_ n28_ n29_ n30_ n31_
        clear hb hbox hg
        obtain ⟨Ao126, co126, eo126⟩ := Kd.R_slice HO272.out
        (first | subst eo126 | (injection eo126 with f1_ f2_ f3_; have f4_ := f1_.symm; have f5_ := f3_.symm; clear f1_ f2_ f3_; subst f4_; subst f5_))
        obtain ⟨Ao127, co127, eo127⟩ := Kd.R_slice HO275.out
        (first | subst eo127 | (injection eo127 with f1_ f2_ f3_; have f4_ := f1_.symm; have f5_ := f3_.symm; clear f1_ f2_ f3_; subst f4_; subst f5_))
        refine hK.out _ _ ⟨(blk_cell BK225.out 0).trans rfl, (blk_cell BK226.out 0).trans rfl⟩ (fun hHeld => ?_)
        clear hK K
        refine norm_ (a' := ?_) ?_ ?_
        rotate_left
        ·show Act.put _ (some 17) _ = _
         simp only [Act.put, List.setIfInBounds_toArray, List.set_cons_zero, List.set_cons_succ, i64_w, i32_w]
         rfl
        refine one_ (i := 5) (N := some 104) #[true, true, true, true, true, true, false, false, false, true, false, false] rfl rfl (one_of HT_.out (by kernel_rfl)) (by decide) (fun K hK => ?_)
        refine goes_ Try.func31 (by kernel_rfl) rfl #[.agg #[.slice Ao126 t270.length co126], .int .i64 a1, .agg #[.slice Ao127 t273.length co127]] (by rfl) rfl rfl Z33 ?_
        with_reducible refine (impl_ReplaceAt.calls k (fun k_ => some k_ = (.slice Ao126 t270.length co126 : Value).ownBlock) _ _ t270 a1 (fun k_ => some k_ = (.slice Ao127 t273.length co127 : Value).ownBlock) _ _ t273 t276 t279 _ ?side1 ?side2 A46.out).mono ?_
        (case side1 => exact Kd.R_V (Kd.R_tight rfl (Kd.R_types (Kd.R_types (Kd.R_types (Kd.R_types (Kd.R_types (Kd.R_types (Kd.R_types (HO272.out) BK225.out (by decide)) BK226.out (by decide)) BK239.out (by decide)) BK243.out (by decide)) BK247.out (by decide)) BK252.out (by decide)) BK280.out (by decide))))
        (case side2 => exact Kd.R_V (Kd.R_tight rfl (Kd.R_types (Kd.R_types (Kd.R_types (Kd.R_types (Kd.R_types (Kd.R_types (Kd.R_types (HO275.out) BK225.out (by decide)) BK226.out (by decide)) BK239.out (by decide)) BK243.out (by decide)) BK247.out (by decide)) BK252.out (by decide)) BK280.out (by decide))))
        rintro e w128 ⟨v277, rfl, ho0, hb⟩
        refine ⟨_, rfl, ?_⟩
        have n0_ := A_ (Kd.R_elder' Z52 (Kd.R_base ho0) hb)
        have n1_ := A_ (Kd.R_elder' Z51 (Kd.R_base ho0) hb)
        have n2_ := A_ (Kd.R_elder' Z50 (Kd.R_base ho0) hb)
        have n3_ := A_ (Kd.R_elder' Z49 (Kd.R_base ho0) hb)
        have n4_ := A_ (Kd.R_elder' Z48 (Kd.R_base ho0) hb)
        have n5_ := A_ (Kd.R_elder' Z47 (Kd.R_base ho0) hb)
        have n6_ := A_ (Kd.R_elder' Z46 (Kd.R_base ho0) hb)
        have n7_ := A_ (Kd.R_elder' Z45 (Kd.R_base ho0) hb)
        have n8_ := A_ (Kd.R_elder' Z44 (Kd.R_base ho0) hb)
        have n9_ := A_ (Kd.R_elder' Z43 (Kd.R_base ho0) hb)
        have n10_ := A_ (Kd.R_lower (Kd.R_new' (Kd.R_new' (Kd.R_new' (Kd.R_new' (Kd.R_new' (Kd.R_new' (Kd.R_new' (Kd.R_new' (Kd.R_new' (Kd.R_new' (Kd.R_mono (ok' := fun k_ => True) ho0 (fun _ hk_ => trivial)) (Kd.R_lt Z52)) (Kd.R_lt Z51)) (Kd.R_lt Z50)) (Kd.R_lt Z49)) (Kd.R_lt Z48)) (Kd.R_lt Z47)) (Kd.R_lt Z46)) (Kd.R_lt Z45)) (Kd.R_lt Z44)) (Kd.R_lt Z43)) (below_size Z0))
        have n11_ := A_ (blk_below (g := gb225) (o := .cells #[.slice A0_0 l0_0.length c0_0] 24 (0, 0)) Z41 hb)
        have n12_ := A_ (blk_below (g := gb226) (o := .cells #[.slice A2_0 l2_0.length c2_0] 24 (0, 0)) Z40 hb)
        have n13_ := A_ (blk_below (g := gb239) (o := .cells #[.slice Ao68 t235.length co68] 26 (0, 0)) Z39 hb)
        have n14_ := A_ (blk_below (g := gb243) (o := .cells #[.slice Ao74 t240.length co74] 26 (0, 0)) Z38 hb)
        have n15_ := A_ (blk_below (g := gb247) (o := .cells #[.slice Ao83 t244.length co83] 26 (0, 0)) Z37 hb)
        have n16_ := A_ (blk_below (g := gb252) (o := .cells #[.slice Ao94 t248.length co94] 26 (0, 0)) Z36 hb)
        have n17_ := A_ (blk_below (g := gb280) (o := .cells #[.slice none 0 0] 26 (0, 0)) Z35 hb)
        have n18_ := A_ (below_step Z0 hb)
        clear HO231
        clear HO234
        clear HO237
        clear HO242
        clear HO246
        clear HO250
        clear HO256
        clear HO260
        clear HO272
        clear HO275
        clear BK225
        clear BK226
        clear BK239
        clear BK243
        clear BK247
        clear BK252
        clear BK280
        clear HB
        have HO231 := n0_
        have HO234 := n1_
        have HO237 := n2_
        have HO242 := n3_
        have HO246 := n4_
        have HO250 := n5_
        have HO256 := n6_
        have HO260 := n7_
        have HO272 := n8_
        have HO275 := n9_
        have HO278 := n10_
        have BK225 := n11_
        have BK226 := n12_
        have BK239 := n13_
        have BK243 := n14_
        have BK247 := n15_
        have BK252 := n16_
        have BK280 := n17_
        have HB := n18_
        clear n0_ n1_ n2_ n3_ n4_ n5_ n6_ n7_ n8_ n9_ n10_ n11_ n12_ n13_ n14_ n15_ n16_ n17_ n18_
        (try clear hb)
        (try clear hb2)
        (try clear hk)
        (try clear hi)
        (try clear ho0)
        refine hK.out _ _ ⟨(blk_cell BK225.out 0).trans rfl, (blk_cell BK226.out 0).trans rfl⟩ (fun hHeld => ?_)
        clear hK K
        refine norm_ (a' := ?_) ?_ ?_
        rotate_left
        ·show Act.put _ (some 104) _ = _
         simp only [Act.put, List.setIfInBounds_toArray, List.set_cons_zero, List.set_cons_succ, i64_w, i32_w]
         rfl
        refine pure_ (i := 6) (N := some 98) (v := ?_) (a' := ?_) #[true, true, true, true, true, true, true, false, false, true, false, false] rfl rfl (any_of HT_.out (by kernel_rfl)) (fun _ _ _ h => h) (Or.inl ⟨by rfl, ?_⟩) ?_ ?_
        rotate_left
        ·intro w'
         go_simp
         with_reducible rfl
        rotate_left
        ·simp only [Act.put, List.setIfInBounds_toArray, List.set_cons_zero, List.set_cons_succ, i64_w, i32_w]
         rfl
        refine pure_ (i := 7) (N := some 105) (v := ?_) (a' := ?_) #[true, true, true, true, true, true, true, true, false, true, false, false] rfl rfl (any_of HT_.out (by kernel_rfl)) (fun _ _ _ h => h) (Or.inl ⟨by rfl, ?_⟩) ?_ ?_
        rotate_left
        ·intro w'
         go_simp
         with_reducible rfl
        rotate_left
        ·simp only [Act.put, List.setIfInBounds_toArray, List.set_cons_zero, List.set_cons_succ, i64_w, i32_w]
         rfl
        refine pure_ (i := 8) (N := some 106) (v := ?_) (a' := ?_) #[true, true, true, true, true, true, true, true, true, true, false, false] rfl rfl (any_of HT_.out (by kernel_rfl)) (fun _ _ _ h => h) (Or.inl ⟨by rfl, ?_⟩) ?_ ?_
        rotate_left
        ·intro w'
         go_simp
         with_reducible rfl
        rotate_left
        ·simp only [Act.put, List.setIfInBounds_toArray, List.set_cons_zero, List.set_cons_succ, i64_w, i32_w]
         rfl
        exact norm_ Z53 (hCont (.slice Ao126 t270.length co126, .slice Ao127 t273.length co127, v277, gb280) _ ⟨hHeld, Z5, Z6, Z7, Z8, Z9, Z10, Z11, Z12, Z2, Z3, Z4, Z41, Z40, Z39, Z38, Z37, Z36, Z35, GW280.out, GE280.out, NB225_280.out, NB280_225.out, NB226_280.out, NB280_226.out, NB239_280.out, NB280_239.out, NB243_280.out, NB280_243.out, NB247_280.out, NB280_247.out, NB252_280.out, NB280_252.out, Z0⟩)
      ·skip
       refine box_step ?hg (N := 17) ?hd (cs := #[.slice none 0 0]) (t := 26) ?hr ?_; (case hd => rfl); (case hg => rfl); (case hr => first | (go_simp; done) | (go_simp; rfl))
       intro gb280 hg w124 hbox hb
       have n0_ := A_ (Kd.R_below Z52 hb)
       have n1_ := A_ (Kd.R_below Z51 hb)
       have n2_ := A_ (Kd.R_below Z50 hb)
       have n3_ := A_ (Kd.R_below Z49 hb)
       have n4_ := A_ (Kd.R_below Z48 hb)
       have n5_ := A_ (Kd.R_below Z47 hb)
       have n6_ := A_ (Kd.R_below Z46 hb)
       have n7_ := A_ (Kd.R_below Z45 hb)
       have n8_ := A_ (Kd.R_below Z44 hb)
       have n9_ := A_ (blk_below (g := gb225) (o := .cells #[.slice A0_0 l0_0.length c0_0] 24 (0, 0)) Z41 hb)
       have n10_ := A_ (blk_below (g := gb226) (o := .cells #[.slice A2_0 l2_0.length c2_0] 24 (0, 0)) Z40 hb)
       have n11_ := A_ (blk_below (g := gb239) (o := .cells #[.slice Ao68 t235.length co68] 26 (0, 0)) Z39 hb)
       have n12_ := A_ (blk_below (g := gb243) (o := .cells #[.slice Ao74 t240.length co74] 26 (0, 0)) Z38 hb)
       have n13_ := A_ (blk_below (g := gb247) (o := .cells #[.slice Ao83 t244.length co83] 26 (0, 0)) Z37 hb)
       have n14_ := A_ (blk_below (g := gb252) (o := .cells #[.slice Ao94 t248.length co94] 26 (0, 0)) Z36 hb)
       have n15_ := A_ (below_step Z1 hb)
       have n16_ := A_ (hbox)
       have n17_ := A_ ((by rw [hg]; exact (below_size Z1) : w.heap.size ≤ gb280))
       have n18_ := A_ ((by rw [hg]; exact (below_size Z1) : w.heap.size ≤ gb280))
       have n19_ := A_ ((by rw [hg]; exact Nat.ne_of_lt (blk_lt (g := gb225) (o := .cells #[.slice A0_0 l0_0.length c0_0] 24 (0, 0)) Z41) : gb225 ≠ gb280))
       have n20_ := A_ ((by rw [hg]; exact Nat.ne_of_gt (blk_lt (g := gb225) (o := .cells #[.slice A0_0 l0_0.length c0_0] 24 (0, 0)) Z41) : gb280 ≠ gb225))
       have n21_ := A_ ((by rw [hg]; exact Nat.ne_of_lt (blk_lt (g := gb226) (o := .cells #[.slice A2_0 l2_0.length c2_0] 24 (0, 0)) Z40) : gb226 ≠ gb280))
       have n22_ := A_ ((by rw [hg]; exact Nat.ne_of_gt (blk_lt (g := gb226) (o := .cells #[.slice A2_0 l2_0.length c2_0] 24 (0, 0)) Z40) : gb280 ≠ gb226))
       have n23_ := A_ ((by rw [hg]; exact Nat.ne_of_lt (blk_lt (g := gb239) (o := .cells #[.slice Ao68 t235.length co68] 26 (0, 0)) Z39) : gb239 ≠ gb280))
       have n24_ := A_ ((by rw [hg]; exact Nat.ne_of_gt (blk_lt (g := gb239) (o := .cells #[.slice Ao68 t235.length co68] 26 (0, 0)) Z39) : gb280 ≠ gb239))
       have n25_ := A_ ((by rw [hg]; exact Nat.ne_of_lt (blk_lt (g := gb243) (o := .cells #[.slice Ao74 t240.length co74] 26 (0, 0)) Z38) : gb243 ≠ gb280))
       have n26_ := A_ ((by rw [hg]; exact Nat.ne_of_gt (blk_lt (g := gb243) (o := .cells #[.slice Ao74 t240.length co74] 26 (0, 0)) Z38) : gb280 ≠ gb243))
       have n27_ := A_ ((by rw [hg]; exact Nat.ne_of_lt (blk_lt (g := gb247) (o := .cells #[.slice Ao83 t244.length co83] 26 (0, 0)) Z37) : gb247 ≠ gb280))
       have n28_ := A_ ((by rw [hg]; exact Nat.ne_of_gt (blk_lt (g := gb247) (o := .cells #[.slice Ao83 t244.length co83] 26 (0, 0)) Z37) : gb280 ≠ gb247))
       have n29_ := A_ ((by rw [hg]; exact Nat.ne_of_lt (blk_lt (g := gb252) (o := .cells #[.slice Ao94 t248.length co94] 26 (0, 0)) Z36) : gb252 ≠ gb280))
       have n30_ := A_ ((by rw [hg]; exact Nat.ne_of_gt (blk_lt (g := gb252) (o := .cells #[.slice Ao94 t248.length co94] 26 (0, 0)) Z36) : gb280 ≠ gb252))
       clear HO231
       clear HO234
       clear HO237
       clear HO242
       clear HO246
       clear HO250
       clear HO256
       clear HO260
       clear HO272
       clear BK225
       clear BK226
       clear BK239
       clear BK243
       clear BK247
       clear BK252
       clear HB
       have HO231 := n0_
       have HO234 := n1_
       have HO237 := n2_
       have HO242 := n3_
       have HO246 := n4_
       have HO250 := n5_
       have HO256 := n6_
       have HO260 := n7_
       have HO272 := n8_
       have BK225 := n9_
       have BK226 := n10_
       have BK239 := n11_
       have BK243 := n12_
       have BK247 := n13_
       have BK252 := n14_
       have HB := n15_
       have BK280 := n16_
       have GW280 := n17_
       have GE280 := n18_
       have NB225_280 := n19_
       have NB280_225 := n20_
       have NB226_280 := n21_
       have NB280_226 := n22_
       have NB239_280 := n23_
       have NB280_239 := n24_
       have NB243_280 := n25_
       have NB280_243 := n26_
       have NB247_280 := n27_
       have NB280_247 := n28_
       have NB252_280 := n29_
       have NB280_252 := n30_
       clear n0_ n1_ n2_ n3_ n4_ n5_ n6_ n7_ n8_ n9_ n10_ n11_ n12_ n13_ n14_ n15_ n16_ n17_ n18_ n19_ n20_ n21_ n22_ n23_ n24_ n25_ n26_ n27_ n28_ n29_ n30_
       clear hb hbox hg
       refine hK.out _ _ ⟨(blk_cell BK225.out 0).trans rfl, (blk_cell BK226.out 0).trans rfl⟩ (fun hHeld => ?_)
       clear hK K
       refine norm_ (a' := ?_) ?_ ?_
       rotate_left
       ·show Act.put _ (some 17) _ = _
        simp only [Act.put, List.setIfInBounds_toArray, List.set_cons_zero, List.set_cons_succ, i64_w, i32_w]
        rfl
       refine one_ (i := 4) (N := some 103) #[true, true, true, true, true, false, false, false, false, true, false, false] rfl rfl (one_of HT_.out (by kernel_rfl)) (by decide) (fun K hK => ?_)
       refine goes_ Try.func14 (by kernel_rfl) rfl #[.agg #[.slice A2_0 l2_0.length c2_0]] (by rfl) rfl rfl Z33 ?_
       with_reducible refine (laws_toTree.calls k _ _ l2_0 t273 _ ?side1 ?side2 A45.out).mono ?_
       (case side1 => repeat (first | exact (Kd.C_below HR2_0.out HB.out) | (with_reducible refine Kd.C_alloc ?_ _) | (with_reducible refine Kd.C_drewN ?_ _) | (with_reducible refine Kd.C_drew ?_)))
       (case side2 => exact HC2_0.out)
       rintro e w125 ⟨v274, rfl, ho0, hb⟩
       refine ⟨_, rfl, ?_⟩
       have n0_ := A_ (Kd.R_elder' Z52 (Kd.R_base ho0) hb)
       have n1_ := A_ (Kd.R_elder' Z51 (Kd.R_base ho0) hb)
       have n2_ := A_ (Kd.R_elder' Z50 (Kd.R_base ho0) hb)
       have n3_ := A_ (Kd.R_elder' Z49 (Kd.R_base ho0) hb)
       have n4_ := A_ (Kd.R_elder' Z48 (Kd.R_base ho0) hb)
       have n5_ := A_ (Kd.R_elder' Z47 (Kd.R_base ho0) hb)
       have n6_ := A_ (Kd.R_elder' Z46 (Kd.R_base ho0) hb)
       have n7_ := A_ (Kd.R_elder' Z45 (Kd.R_base ho0) hb)
       have n8_ := A_ (Kd.R_elder' Z44 (Kd.R_base ho0) hb)
       have n9_ := A_ (Kd.R_lower (Kd.R_new' (Kd.R_new' (Kd.R_new' (Kd.R_new' (Kd.R_new' (Kd.R_new' (Kd.R_new' (Kd.R_new' (Kd.R_new' ho0 (Kd.R_lt Z52)) (Kd.R_lt Z51)) (Kd.R_lt Z50)) (Kd.R_lt Z49)) (Kd.R_lt Z48)) (Kd.R_lt Z47)) (Kd.R_lt Z46)) (Kd.R_lt Z45)) (Kd.R_lt Z44)) (below_size Z0))
       have n10_ := A_ (blk_below (g := gb225) (o := .cells #[.slice A0_0 l0_0.length c0_0] 24 (0, 0)) Z41 hb)
       have n11_ := A_ (blk_below (g := gb226) (o := .cells #[.slice A2_0 l2_0.length c2_0] 24 (0, 0)) Z40 hb)
       have n12_ := A_ (blk_below (g := gb239) (o := .cells #[.slice Ao68 t235.length co68] 26 (0, 0)) Z39 hb)
       have n13_ := A_ (blk_below (g := gb243) (o := .cells #[.slice Ao74 t240.length co74] 26 (0, 0)) Z38 hb)
       have n14_ := A_ (blk_below (g := gb247) (o := .cells #[.slice Ao83 t244.length co83] 26 (0, 0)) Z37 hb)
       have n15_ := A_ (blk_below (g := gb252) (o := .cells #[.slice Ao94 t248.length co94] 26 (0, 0)) Z36 hb)
       have n16_ := A_ (blk_below (g := gb280) (o := .cells #[.slice none 0 0] 26 (0, 0)) Z35 hb)
       have n17_ := A_ (below_step Z0 hb)
       clear HO231
       clear HO234
       clear HO237
       clear HO242
       clear HO246
       clear HO250
       clear HO256
       clear HO260
       clear HO272
       clear BK225
       clear BK226
       clear BK239
       clear BK243
       clear BK247
       clear BK252
       clear BK280
       clear HB
       have HO231 := n0_
       have HO234 := n1_
       have HO237 := n2_
       have HO242 := n3_
       have HO246 := n4_
       have HO250 := n5_
       have HO256 := n6_
       have HO260 := n7_
       have HO272 := n8_
       have HO275 := n9_
       have BK225 := n10_
       have BK226 := n11_
       have BK239 := n12_
       have BK243 := n13_
       have BK247 := n14_
       have BK252 := n15_
       have BK280 := n16_
       have HB := n17_
       clear n0_ n1_ n2_ n3_ n4_ n5_ n6_ n7_ n8_ n9_ n10_ n11_ n12_ n13_ n14_ n15_ n16_ n17_
       (try clear hb)
       (try clear hb2)
       (try clear hk)
       (try clear hi)
       (try clear ho0)
       obtain ⟨Ao126, co126, eo126⟩ := Kd.R_slice HO272.out
       (first | subst eo126 | (injection eo126 with f1_ f2_ f3_; have f4_ := f1_.symm; have f5_ := f3_.symm; clear f1_ f2_ f3_; subst f4_; subst f5_))
       obtain ⟨Ao127, co127, eo127⟩ := Kd.R_slice HO275.out
       (first | subst eo127 | (injection eo127 with f1_ f2_ f3_; have f4_ := f1_.symm; have f5_ := f3_.symm; clear f1_ f2_ f3_; subst f4_; subst f5_))
       refine hK.out _ _ ⟨(blk_cell BK225.out 0).trans rfl, (blk_cell BK226.out 0).trans rfl⟩ (fun hHeld => ?_)
       clear hK K
       refine norm_ (a' := ?_) ?_ ?_
       rotate_left
       ·show Act.put _ (some 103) _ = _
        simp only [Act.put, List.setIfInBounds_toArray, List.set_cons_zero, List.set_cons_succ, i64_w, i32_w]
        rfl
       refine one_ (i := 5) (N := some 104) #[true, true, true, true, true, true, false, false, false, true, false, false] rfl rfl (one_of HT_.out (by kernel_rfl)) (by decide) (fun K hK => ?_)
       refine goes_ Try.func31 (by kernel_rfl) rfl #[.agg #[.slice Ao126 t270.length co126], .int .i64 a1, .agg #[.slice Ao127 t273.length co127]] (by rfl) rfl rfl Z33 ?_
       with_reducible refine (impl_ReplaceAt.calls k (fun k_ => some k_ = (.slice Ao126 t270.length co126 : Value).ownBlock) _ _ t270 a1 (fun k_ => some k_ = (.slice Ao127 t273.length co127 : Value).ownBlock) _ _ t273 t276 t279 _ ?side1 ?side2 A46.out).mono ?_
       (case side1 => exact Kd.R_V (Kd.R_tight rfl (Kd.R_types (Kd.R_types (Kd.R_types (Kd.R_types (Kd.R_types (Kd.R_types (Kd.R_types (HO272.out) BK225.out (by decide)) BK226.out (by decide)) BK239.out (by decide)) BK243.out (by decide)) BK247.out (by decide)) BK252.out (by decide)) BK280.out (by decide))))
       (case side2 => exact Kd.R_V (Kd.R_tight rfl (Kd.R_types (Kd.R_types (Kd.R_types (Kd.R_types (Kd.R_types (Kd.R_types (Kd.R_types (HO275.out) BK225.out (by decide)) BK226.out (by decide)) BK239.out (by decide)) BK243.out (by decide)) BK247.out (by decide)) BK252.out (by decide)) BK280.out (by decide))))
       rintro e w128 ⟨v277, rfl, ho0, hb⟩
       refine ⟨_, rfl, ?_⟩
       have n0_ := A_ (Kd.R_elder' Z52 (Kd.R_base ho0) hb)
       have n1_ := A_ (Kd.R_elder' Z51 (Kd.R_base ho0) hb)
       have n2_ := A_ (Kd.R_elder' Z50 (Kd.R_base ho0) hb)
       have n3_ := A_ (Kd.R_elder' Z49 (Kd.R_base ho0) hb)
       have n4_ := A_ (Kd.R_elder' Z48 (Kd.R_base ho0) hb)
       have n5_ := A_ (Kd.R_elder' Z47 (Kd.R_base ho0) hb)
       have n6_ := A_ (Kd.R_elder' Z46 (Kd.R_base ho0) hb)
       have n7_ := A_ (Kd.R_elder' Z45 (Kd.R_base ho0) hb)
       have n8_ := A_ (Kd.R_elder' Z44 (Kd.R_base ho0) hb)
       have n9_ := A_ (Kd.R_elder' Z43 (Kd.R_base ho0) hb)
       have n10_ := A_ (Kd.R_lower (Kd.R_new' (Kd.R_new' (Kd.R_new' (Kd.R_new' (Kd.R_new' (Kd.R_new' (Kd.R_new' (Kd.R_new' (Kd.R_new' (Kd.R_new' (Kd.R_mono (ok' := fun k_ => True) ho0 (fun _ hk_ => trivial)) (Kd.R_lt Z52)) (Kd.R_lt Z51)) (Kd.R_lt Z50)) (Kd.R_lt Z49)) (Kd.R_lt Z48)) (Kd.R_lt Z47)) (Kd.R_lt Z46)) (Kd.R_lt Z45)) (Kd.R_lt Z44)) (Kd.R_lt Z43)) (below_size Z0))
       have n11_ := A_ (blk_below (g := gb225) (o := .cells #[.slice A0_0 l0_0.length c0_0] 24 (0, 0)) Z41 hb)
       have n12_ := A_ (blk_below (g := gb226) (o := .cells #[.slice A2_0 l2_0.length c2_0] 24 (0, 0)) Z40 hb)
       have n13_ := A_ (blk_below (g := gb239) (o := .cells #[.slice Ao68 t235.length co68] 26 (0, 0)) Z39 hb)
       have n14_ := A_ (blk_below (g := gb243) (o := .cells #[.slice Ao74 t240.length co74] 26 (0, 0)) Z38 hb)
       have n15_ := A_ (blk_below (g := gb247) (o := .cells #[.slice Ao83 t244.length co83] 26 (0, 0)) Z37 hb)
       have n16_ := A_ (blk_below (g := gb252) (o := .cells #[.slice Ao94 t248.length co94] 26 (0, 0)) Z36 hb)
       have n17_ := A_ (blk_below (g := gb280) (o := .cells #[.slice none 0 0] 26 (0, 0)) Z35 hb)
       have n18_ := A_ (below_step Z0 hb)
       clear HO231
       clear HO234
       clear HO237
       clear HO242
       clear HO246
       clear HO250
       clear HO256
       clear HO260
       clear HO272
       clear HO275
       clear BK225
       clear BK226
       clear BK239
       clear BK243
       clear BK247
       clear BK252
       clear BK280
       clear HB
       have HO231 := n0_
       have HO234 := n1_
       have HO237 := n2_
       have HO242 := n3_
       have HO246 := n4_
       have HO250 := n5_
       have HO256 := n6_
       have HO260 := n7_
       have HO272 := n8_
       have HO275 := n9_
       have HO278 := n10_
       have BK225 := n11_
       have BK226 := n12_
       have BK239 := n13_
       have BK243 := n14_
       have BK247 := n15_
       have BK252 := n16_
       have BK280 := n17_
       have HB := n18_
       clear n0_ n1_ n2_ n3_ n4_ n5_ n6_ n7_ n8_ n9_ n10_ n11_ n12_ n13_ n14_ n15_ n16_ n17_ n18_
       (try clear hb)
       (try clear hb2)
       (try clear hk)
       (try clear hi)
       (try clear ho0)
       refine hK.out _ _ ⟨(blk_cell BK225.out 0).trans rfl, (blk_cell BK226.out 0).trans rfl⟩ (fun hHeld => ?_)
       clear hK K
       refine norm_ (a' := ?_) ?_ ?_
       rotate_left
       ·show Act.put _ (some 104) _ = _
        simp only [Act.put, List.setIfInBounds_toArray, List.set_cons_zero, List.set_cons_succ, i64_w, i32_w]
        rfl
       refine pure_ (i := 6) (N := some 98) (v := ?_) (a' := ?_) #[true, true, true, true, true, true, true, false, false, true, false, false] rfl rfl (any_of HT_.out (by kernel_rfl)) (fun _ _ _ h => h) (Or.inl ⟨by rfl, ?_⟩) ?_ ?_
       rotate_left
       ·intro w'
        go_simp
        with_reducible rfl
       rotate_left
       ·simp only [Act.put, List.setIfInBounds_toArray, List.set_cons_zero, List.set_cons_succ, i64_w, i32_w]
        rfl
       refine pure_ (i := 7) (N := some 105) (v := ?_) (a' := ?_) #[true, true, true, true, true, true, true, true, false, true, false, false] rfl rfl (any_of HT_.out (by kernel_rfl)) (fun _ _ _ h => h) (Or.inl ⟨by rfl, ?_⟩) ?_ ?_
       rotate_left
       ·intro w'
        go_simp
        with_reducible rfl
       rotate_left
       ·simp only [Act.put, List.setIfInBounds_toArray, List.set_cons_zero, List.set_cons_succ, i64_w, i32_w]
        rfl
       refine pure_ (i := 8) (N := some 106) (v := ?_) (a' := ?_) #[true, true, true, true, true, true, true, true, true, true, false, false] rfl rfl (any_of HT_.out (by kernel_rfl)) (fun _ _ _ h => h) (Or.inl ⟨by rfl, ?_⟩) ?_ ?_
       rotate_left
       ·intro w'
        go_simp
        with_reducible rfl
       rotate_left
       ·simp only [Act.put, List.setIfInBounds_toArray, List.set_cons_zero, List.set_cons_succ, i64_w, i32_w]
        rfl
       exact norm_ Z53 (hCont (.slice Ao126 t270.length co126, .slice Ao127 t273.length co127, v277, gb280) _ ⟨hHeld, Z5, Z6, Z7, Z8, Z9, Z10, Z11, Z12, Z2, Z3, Z4, Z41, Z40, Z39, Z38, Z37, Z36, Z35, GW280.out, GE280.out, NB225_280.out, NB280_225.out, NB226_280.out, NB280_226.out, NB239_280.out, NB280_239.out, NB243_280.out, NB280_243.out, NB247_280.out, NB280_247.out, NB252_280.out, NB280_252.out, Z0⟩)
     ·skip
      refine box_step ?hg (N := 17) ?hd (cs := #[.slice none 0 0]) (t := 26) ?hr ?_; (case hd => rfl); (case hg => rfl); (case hr => first | (go_simp; done) | (go_simp; rfl))
      intro gb280 hg w123 hbox hb
      have n0_ := A_ (Kd.R_below Z52 hb)
      have n1_ := A_ (Kd.R_below Z51 hb)
      have n2_ := A_ (Kd.R_below Z50 hb)
      have n3_ := A_ (Kd.R_below Z49 hb)
      have n4_ := A_ (Kd.R_below Z48 hb)
      have n5_ := A_ (Kd.R_below Z47 hb)
      have n6_ := A_ (Kd.R_below Z46 hb)
      have n7_ := A_ (Kd.R_below Z45 hb)
      have n8_ := A_ (blk_below (g := gb225) (o := .cells #[.slice A0_0 l0_0.length c0_0] 24 (0, 0)) Z41 hb)
      have n9_ := A_ (blk_below (g := gb226) (o := .cells #[.slice A2_0 l2_0.length c2_0] 24 (0, 0)) Z40 hb)
      have n10_ := A_ (blk_below (g := gb239) (o := .cells #[.slice Ao68 t235.length co68] 26 (0, 0)) Z39 hb)
      have n11_ := A_ (blk_below (g := gb243) (o := .cells #[.slice Ao74 t240.length co74] 26 (0, 0)) Z38 hb)
      have n12_ := A_ (blk_below (g := gb247) (o := .cells #[.slice Ao83 t244.length co83] 26 (0, 0)) Z37 hb)
      have n13_ := A_ (blk_below (g := gb252) (o := .cells #[.slice Ao94 t248.length co94] 26 (0, 0)) Z36 hb)
      have n14_ := A_ (below_step Z1 hb)
      have n15_ := A_ (hbox)
      have n16_ := A_ ((by rw [hg]; exact (below_size Z1) : w.heap.size ≤ gb280))
      have n17_ := A_ ((by rw [hg]; exact (below_size Z1) : w.heap.size ≤ gb280))
      have n18_ := A_ ((by rw [hg]; exact Nat.ne_of_lt (blk_lt (g := gb225) (o := .cells #[.slice A0_0 l0_0.length c0_0] 24 (0, 0)) Z41) : gb225 ≠ gb280))
      have n19_ := A_ ((by rw [hg]; exact Nat.ne_of_gt (blk_lt (g := gb225) (o := .cells #[.slice A0_0 l0_0.length c0_0] 24 (0, 0)) Z41) : gb280 ≠ gb225))
      have n20_ := A_ ((by rw [hg]; exact Nat.ne_of_lt (blk_lt (g := gb226) (o := .cells #[.slice A2_0 l2_0.length c2_0] 24 (0, 0)) Z40) : gb226 ≠ gb280))
      have n21_ := A_ ((by rw [hg]; exact Nat.ne_of_gt (blk_lt (g := gb226) (o := .cells #[.slice A2_0 l2_0.length c2_0] 24 (0, 0)) Z40) : gb280 ≠ gb226))
      have n22_ := A_ ((by rw [hg]; exact Nat.ne_of_lt (blk_lt (g := gb239) (o := .cells #[.slice Ao68 t235.length co68] 26 (0, 0)) Z39) : gb239 ≠ gb280))
      have n23_ := A_ ((by rw [hg]; exact Nat.ne_of_gt (blk_lt (g := gb239) (o := .cells #[.slice Ao68 t235.length co68] 26 (0, 0)) Z39) : gb280 ≠ gb239))
      have n24_ := A_ ((by rw [hg]; exact Nat.ne_of_lt (blk_lt (g := gb243) (o := .cells #[.slice Ao74 t240.length co74] 26 (0, 0)) Z38) : gb243 ≠ gb280))
      have n25_ := A_ ((by rw [hg]; exact Nat.ne_of_gt (blk_lt (g := gb243) (o := .cells #[.slice Ao74 t240.length co74] 26 (0, 0)) Z38) : gb280 ≠ gb243))
      have n26_ := A_ ((by rw [hg]; exact Nat.ne_of_lt (blk_lt (g := gb247) (o := .cells #[.slice Ao83 t244.length co83] 26 (0, 0)) Z37) : gb247 ≠ gb280))
      have n27_ := A_ ((by rw [hg]; exact Nat.ne_of_gt (blk_lt (g := gb247) (o := .cells #[.slice Ao83 t244.length co83] 26 (0, 0)) Z37) : gb280 ≠ gb247))
      have n28_ := A_ ((by rw [hg]; exact Nat.ne_of_lt (blk_lt (g := gb252) (o := .cells #[.slice Ao94 t248.length co94] 26 (0, 0)) Z36) : gb252 ≠ gb280))
      have n29_ := A_ ((by rw [hg]; exact Nat.ne_of_gt (blk_lt (g := gb252) (o := .cells #[.slice Ao94 t248.length co94] 26 (0, 0)) Z36) : gb280 ≠ gb252))
      clear HO231
      clear HO234
      clear HO237
      clear HO242
      clear HO246
      clear HO250
      clear HO256
      clear HO260
      clear BK225
      clear BK226
      clear BK239
      clear BK243
      clear BK247
      clear BK252
      clear HB
      have HO231 := n0_
      have HO234 := n1_
      have HO237 := n2_
      have HO242 := n3_
      have HO246 := n4_
      have HO250 := n5_
      have HO256 := n6_
      have HO260 := n7_
      have BK225 := n8_
      have BK226 := n9_
      have BK239 := n10_
      have BK243 := n11_
      have BK247 := n12_
      have BK252 := n13_
      have HB := n14_
      have BK280 := n15_
      have GW280 := n16_
      have GE280 := n17_
      have NB225_280 := n18_
      have NB280_225 := n19_
      have NB226_280 := n20_
      have NB280_226 := n21_
      have NB239_280 := n22_
      have NB280_239 := n23_
      have NB243_280 := n24_
      have NB280_243 := n25_
      have NB247_280 := n26_
      have NB280_247 := n27_
      have NB252_280 := n28_
      have NB280_252 := n29_
      clear n0_ n1_ n2_ n3_ n4_ n5_ n6_ n7_ n8_ n9_ n10_ n11_ n12_ n13_ n14_ n15_ n16_ n17_ n18_ n19_ n20_ n21_ n22_ n23_ n24_ n25_ n26_ n27_ n28_ n29_
      clear hb hbox hg
      refine hK.out _ _ ⟨(blk_cell BK225.out 0).trans rfl, (blk_cell BK226.out 0).trans rfl⟩ (fun hHeld => ?_)
      clear hK K
      refine norm_ (a' := ?_) ?_ ?_
      rotate_left
      ·show Act.put _ (some 17) _ = _
       simp only [Act.put, List.setIfInBounds_toArray, List.set_cons_zero, List.set_cons_succ, i64_w, i32_w]
       rfl
      refine one_ (i := 1) (N := some 100) #[true, true, true, true, false, false, false, false, false, true, false, false] rfl rfl (one_of HT_.out (by kernel_rfl)) (by decide) (fun K hK => ?_)
      refine goes_ Try.func14 (by kernel_rfl) rfl #[.agg #[.slice A0_0 l0_0.length c0_0]] (by rfl) rfl rfl Z33 ?_
      with_reducible refine (laws_toTree.calls k _ _ l0_0 t270 _ ?side1 ?side2 A44.out).mono ?_
      (case side1 => repeat (first | exact (Kd.C_below HR0_0.out HB.out) | (with_reducible refine Kd.C_alloc ?_ _) | (with_reducible refine Kd.C_drewN ?_ _) | (with_reducible refine Kd.C_drew ?_)))
      (case side2 => exact HC0_0.out)
      rintro e w124 ⟨v271, rfl, ho0, hb⟩
      refine ⟨_, rfl, ?_⟩
      have n0_ := A_ (Kd.R_elder' Z52 (Kd.R_base ho0) hb)
      have n1_ := A_ (Kd.R_elder' Z51 (Kd.R_base ho0) hb)
      have n2_ := A_ (Kd.R_elder' Z50 (Kd.R_base ho0) hb)
      have n3_ := A_ (Kd.R_elder' Z49 (Kd.R_base ho0) hb)
      have n4_ := A_ (Kd.R_elder' Z48 (Kd.R_base ho0) hb)
      have n5_ := A_ (Kd.R_elder' Z47 (Kd.R_base ho0) hb)
      have n6_ := A_ (Kd.R_elder' Z46 (Kd.R_base ho0) hb)
      have n7_ := A_ (Kd.R_elder' Z45 (Kd.R_base ho0) hb)
      have n8_ := A_ (Kd.R_lower (Kd.R_new' (Kd.R_new' (Kd.R_new' (Kd.R_new' (Kd.R_new' (Kd.R_new' (Kd.R_new' (Kd.R_new' ho0 (Kd.R_lt Z52)) (Kd.R_lt Z51)) (Kd.R_lt Z50)) (Kd.R_lt Z49)) (Kd.R_lt Z48)) (Kd.R_lt Z47)) (Kd.R_lt Z46)) (Kd.R_lt Z45)) (below_size Z0))
      have n9_ := A_ (blk_below (g := gb225) (o := .cells #[.slice A0_0 l0_0.length c0_0] 24 (0, 0)) Z41 hb)
      have n10_ := A_ (blk_below (g := gb226) (o := .cells #[.slice A2_0 l2_0.length c2_0] 24 (0, 0)) Z40 hb)
      have n11_ := A_ (blk_below (g := gb239) (o := .cells #[.slice Ao68 t235.length co68] 26 (0, 0)) Z39 hb)
      have n12_ := A_ (blk_below (g := gb243) (o := .cells #[.slice Ao74 t240.length co74] 26 (0, 0)) Z38 hb)
      have n13_ := A_ (blk_below (g := gb247) (o := .cells #[.slice Ao83 t244.length co83] 26 (0, 0)) Z37 hb)
      have n14_ := A_ (blk_below (g := gb252) (o := .cells #[.slice Ao94 t248.length co94] 26 (0, 0)) Z36 hb)
      have n15_ := A_ (blk_below (g := gb280) (o := .cells #[.slice none 0 0] 26 (0, 0)) Z35 hb)
      have n16_ := A_ (below_step Z0 hb)
      clear HO231
      clear HO234
      clear HO237
      clear HO242
      clear HO246
      clear HO250
      clear HO256
      clear HO260
      clear BK225
      clear BK226
      clear BK239
      clear BK243
      clear BK247
      clear BK252
      clear BK280
      clear HB
      have HO231 := n0_
      have HO234 := n1_
      have HO237 := n2_
      have HO242 := n3_
      have HO246 := n4_
      have HO250 := n5_
      have HO256 := n6_
      have HO260 := n7_
      have HO272 := n8_
      have BK225 := n9_
      have BK226 := n10_
      have BK239 := n11_
      have BK243 := n12_
      have BK247 := n13_
      have BK252 := n14_
      have BK280 := n15_
      have HB := n16_
      clear n0_ n1_ n2_ n3_ n4_ n5_ n6_ n7_ n8_ n9_ n10_ n11_ n12_ n13_ n14_ n15_ n16_
      (try clear hb)
      (try clear hb2)
      (try clear hk)
      (try clear hi)
      (try clear ho0)
      refine hK.out _ _ ⟨(blk_cell BK225.out 0).trans rfl, (blk_cell BK226.out 0).trans rfl⟩ (fun hHeld => ?_)
      clear hK K
      refine norm_ (a' := ?_) ?_ ?_
      rotate_left
      ·show Act.put _ (some 100) _ = _
       simp only [Act.put, List.setIfInBounds_toArray, List.set_cons_zero, List.set_cons_succ, i64_w, i32_w]
       rfl
      refine one_ (i := 4) (N := some 103) #[true, true, true, true, true, false, false, false, false, true, false, false] rfl rfl (one_of HT_.out (by kernel_rfl)) (by decide) (fun K hK => ?_)
      refine goes_ Try.func14 (by kernel_rfl) rfl #[.agg #[.slice A2_0 l2_0.length c2_0]] (by rfl) rfl rfl Z33 ?_
      with_reducible refine (laws_toTree.calls k _ _ l2_0 t273 _ ?side1 ?side2 A45.out).mono ?_
      (case side1 => repeat (first | exact (Kd.C_below HR2_0.out HB.out) | (with_reducible refine Kd.C_alloc ?_ _) | (with_reducible refine Kd.C_drewN ?_ _) | (with_reducible refine Kd.C_drew ?_)))
      (case side2 => exact HC2_0.out)
      rintro e w125 ⟨v274, rfl, ho0, hb⟩
      refine ⟨_, rfl, ?_⟩
      have n0_ := A_ (Kd.R_elder' Z52 (Kd.R_base ho0) hb)
      have n1_ := A_ (Kd.R_elder' Z51 (Kd.R_base ho0) hb)
      have n2_ := A_ (Kd.R_elder' Z50 (Kd.R_base ho0) hb)
      have n3_ := A_ (Kd.R_elder' Z49 (Kd.R_base ho0) hb)
      have n4_ := A_ (Kd.R_elder' Z48 (Kd.R_base ho0) hb)
      have n5_ := A_ (Kd.R_elder' Z47 (Kd.R_base ho0) hb)
      have n6_ := A_ (Kd.R_elder' Z46 (Kd.R_base ho0) hb)
      have n7_ := A_ (Kd.R_elder' Z45 (Kd.R_base ho0) hb)
      have n8_ := A_ (Kd.R_elder' Z44 (Kd.R_base ho0) hb)
      have n9_ := A_ (Kd.R_lower (Kd.R_new' (Kd.R_new' (Kd.R_new' (Kd.R_new' (Kd.R_new' (Kd.R_new' (Kd.R_new' (Kd.R_new' (Kd.R_new' ho0 (Kd.R_lt Z52)) (Kd.R_lt Z51)) (Kd.R_lt Z50)) (Kd.R_lt Z49)) (Kd.R_lt Z48)) (Kd.R_lt Z47)) (Kd.R_lt Z46)) (Kd.R_lt Z45)) (Kd.R_lt Z44)) (below_size Z0))
      have n10_ := A_ (blk_below (g := gb225) (o := .cells #[.slice A0_0 l0_0.length c0_0] 24 (0, 0)) Z41 hb)
      have n11_ := A_ (blk_below (g := gb226) (o := .cells #[.slice A2_0 l2_0.length c2_0] 24 (0, 0)) Z40 hb)
      have n12_ := A_ (blk_below (g := gb239) (o := .cells #[.slice Ao68 t235.length co68] 26 (0, 0)) Z39 hb)
      have n13_ := A_ (blk_below (g := gb243) (o := .cells #[.slice Ao74 t240.length co74] 26 (0, 0)) Z38 hb)
      have n14_ := A_ (blk_below (g := gb247) (o := .cells #[.slice Ao83 t244.length co83] 26 (0, 0)) Z37 hb)
      have n15_ := A_ (blk_below (g := gb252) (o := .cells #[.slice Ao94 t248.length co94] 26 (0, 0)) Z36 hb)
      have n16_ := A_ (blk_below (g := gb280) (o := .cells #[.slice none 0 0] 26 (0, 0)) Z35 hb)
      have n17_ := A_ (below_step Z0 hb)
      clear HO231
      clear HO234
      clear HO237
      clear HO242
      clear HO246
      clear HO250
      clear HO256
      clear HO260
      clear HO272
      clear BK225
      clear BK226
      clear BK239
      clear BK243
      clear BK247
      clear BK252
      clear BK280
      clear HB
      have HO231 := n0_
      have HO234 := n1_
      have HO237 := n2_
      have HO242 := n3_
      have HO246 := n4_
      have HO250 := n5_
      have HO256 := n6_
      have HO260 := n7_
      have HO272 := n8_
      have HO275 := n9_
      have BK225 := n10_
      have BK226 := n11_
      have BK239 := n12_
      have BK243 := n13_
      have BK247 := n14_
      have BK252 := n15_
      have BK280 := n16_
      have HB := n17_
      clear n0_ n1_ n2_ n3_ n4_ n5_ n6_ n7_ n8_ n9_ n10_ n11_ n12_ n13_ n14_ n15_ n16_ n17_
      (try clear hb)
      (try clear hb2)
      (try clear hk)
      (try clear hi)
      (try clear ho0)
      obtain ⟨Ao126, co126, eo126⟩ := Kd.R_slice HO272.out
      (first | subst eo126 | (injection eo126 with f1_ f2_ f3_; have f4_ := f1_.symm; have f5_ := f3_.symm; clear f1_ f2_ f3_; subst f4_; subst f5_))
      obtain ⟨Ao127, co127, eo127⟩ := Kd.R_slice HO275.out
      (first | subst eo127 | (injection eo127 with f1_ f2_ f3_; have f4_ := f1_.symm; have f5_ := f3_.symm; clear f1_ f2_ f3_; subst f4_; subst f5_))
      refine hK.out _ _ ⟨(blk_cell BK225.out 0).trans rfl, (blk_cell BK226.out 0).trans rfl⟩ (fun hHeld => ?_)
      clear hK K
      refine norm_ (a' := ?_) ?_ ?_
      rotate_left
      ·show Act.put _ (some 103) _ = _
       simp only [Act.put, List.setIfInBounds_toArray, List.set_cons_zero, List.set_cons_succ, i64_w, i32_w]
       rfl
      refine one_ (i := 5) (N := some 104) #[true, true, true, true, true, true, false, false, false, true, false, false] rfl rfl (one_of HT_.out (by kernel_rfl)) (by decide) (fun K hK => ?_)
      refine goes_ Try.func31 (by kernel_rfl) rfl #[.agg #[.slice Ao126 t270.length co126], .int .i64 a1, .agg #[.slice Ao127 t273.length co127]] (by rfl) rfl rfl Z33 ?_
      with_reducible refine (impl_ReplaceAt.calls k (fun k_ => some k_ = (.slice Ao126 t270.length co126 : Value).ownBlock) _ _ t270 a1 (fun k_ => some k_ = (.slice Ao127 t273.length co127 : Value).ownBlock) _ _ t273 t276 t279 _ ?side1 ?side2 A46.out).mono ?_
      (case side1 => exact Kd.R_V (Kd.R_tight rfl (Kd.R_types (Kd.R_types (Kd.R_types (Kd.R_types (Kd.R_types (Kd.R_types (Kd.R_types (HO272.out) BK225.out (by decide)) BK226.out (by decide)) BK239.out (by decide)) BK243.out (by decide)) BK247.out (by decide)) BK252.out (by decide)) BK280.out (by decide))))
      (case side2 => exact Kd.R_V (Kd.R_tight rfl (Kd.R_types (Kd.R_types (Kd.R_types (Kd.R_types (Kd.R_types (Kd.R_types (Kd.R_types (HO275.out) BK225.out (by decide)) BK226.out (by decide)) BK239.out (by decide)) BK243.out (by decide)) BK247.out (by decide)) BK252.out (by decide)) BK280.out (by decide))))
      rintro e w128 ⟨v277, rfl, ho0, hb⟩
      refine ⟨_, rfl, ?_⟩
      have n0_ := A_ (Kd.R_elder' Z52 (Kd.R_base ho0) hb)
      have n1_ := A_ (Kd.R_elder' Z51 (Kd.R_base ho0) hb)
      have n2_ := A_ (Kd.R_elder' Z50 (Kd.R_base ho0) hb)
      have n3_ := A_ (Kd.R_elder' Z49 (Kd.R_base ho0) hb)
      have n4_ := A_ (Kd.R_elder' Z48 (Kd.R_base ho0) hb)
      have n5_ := A_ (Kd.R_elder' Z47 (Kd.R_base ho0) hb)
      have n6_ := A_ (Kd.R_elder' Z46 (Kd.R_base ho0) hb)
      have n7_ := A_ (Kd.R_elder' Z45 (Kd.R_base ho0) hb)
      have n8_ := A_ (Kd.R_elder' Z44 (Kd.R_base ho0) hb)
      have n9_ := A_ (Kd.R_elder' Z43 (Kd.R_base ho0) hb)
      have n10_ := A_ (Kd.R_lower (Kd.R_new' (Kd.R_new' (Kd.R_new' (Kd.R_new' (Kd.R_new' (Kd.R_new' (Kd.R_new' (Kd.R_new' (Kd.R_new' (Kd.R_new' (Kd.R_mono (ok' := fun k_ => True) ho0 (fun _ hk_ => trivial)) (Kd.R_lt Z52)) (Kd.R_lt Z51)) (Kd.R_lt Z50)) (Kd.R_lt Z49)) (Kd.R_lt Z48)) (Kd.R_lt Z47)) (Kd.R_lt Z46)) (Kd.R_lt Z45)) (Kd.R_lt Z44)) (Kd.R_lt Z43)) (below_size Z0))
      have n11_ := A_ (blk_below (g := gb225) (o := .cells #[.slice A0_0 l0_0.length c0_0] 24 (0, 0)) Z41 hb)
      have n12_ := A_ (blk_below (g := gb226) (o := .cells #[.slice A2_0 l2_0.length c2_0] 24 (0, 0)) Z40 hb)
      have n13_ := A_ (blk_below (g := gb239) (o := .cells #[.slice Ao68 t235.length co68] 26 (0, 0)) Z39 hb)
      have n14_ := A_ (blk_below (g := gb243) (o := .cells #[.slice Ao74 t240.length co74] 26 (0, 0)) Z38 hb)
      have n15_ := A_ (blk_below (g := gb247) (o := .cells #[.slice Ao83 t244.length co83] 26 (0, 0)) Z37 hb)
      have n16_ := A_ (blk_below (g := gb252) (o := .cells #[.slice Ao94 t248.length co94] 26 (0, 0)) Z36 hb)
      have n17_ := A_ (blk_below (g := gb280) (o := .cells #[.slice none 0 0] 26 (0, 0)) Z35 hb)
      have n18_ := A_ (below_step Z0 hb)
      clear HO231
      clear HO234
      clear HO237
      clear HO242
      clear HO246
      clear HO250
      clear HO256
      clear HO260
      clear HO272
      clear HO275
      clear BK225
      clear BK226
      clear BK239
      clear BK243
      clear BK247
      clear BK252
      clear BK280
      clear HB
      have HO231 := n0_
      have HO234 := n1_
      have HO237 := n2_
      have HO242 := n3_
      have HO246 := n4_
      have HO250 := n5_
      have HO256 := n6_
      have HO260 := n7_
      have HO272 := n8_
      have HO275 := n9_
      have HO278 := n10_
      have BK225 := n11_
      have BK226 := n12_
      have BK239 := n13_
      have BK243 := n14_
      have BK247 := n15_
      have BK252 := n16_
      have BK280 := n17_
      have HB := n18_
      clear n0_ n1_ n2_ n3_ n4_ n5_ n6_ n7_ n8_ n9_ n10_ n11_ n12_ n13_ n14_ n15_ n16_ n17_ n18_
      (try clear hb)
      (try clear hb2)
      (try clear hk)
      (try clear hi)
      (try clear ho0)
      refine hK.out _ _ ⟨(blk_cell BK225.out 0).trans rfl, (blk_cell BK226.out 0).trans rfl⟩ (fun hHeld => ?_)
      clear hK K
      refine norm_ (a' := ?_) ?_ ?_
      rotate_left
      ·show Act.put _ (some 104) _ = _
       simp only [Act.put, List.setIfInBounds_toArray, List.set_cons_zero, List.set_cons_succ, i64_w, i32_w]
       rfl
      refine pure_ (i := 6) (N := some 98) (v := ?_) (a' := ?_) #[true, true, true, true, true, true, true, false, false, true, false, false] rfl rfl (any_of HT_.out (by kernel_rfl)) (fun _ _ _ h => h) (Or.inl ⟨by rfl, ?_⟩) ?_ ?_
      rotate_left
      ·intro w'
       go_simp
       with_reducible rfl
      rotate_left
      ·simp only [Act.put, List.setIfInBounds_toArray, List.set_cons_zero, List.set_cons_succ, i64_w, i32_w]
       rfl
      refine pure_ (i := 7) (N := some 105) (v := ?_) (a' := ?_) #[true, true, true, true, true, true, true, true, false, true, false, false] rfl rfl (any_of HT_.out (by kernel_rfl)) (fun _ _ _ h => h) (Or.inl ⟨by rfl, ?_⟩) ?_ ?_
      rotate_left
      ·intro w'
       go_simp
       with_reducible rfl
      rotate_left
      ·simp only [Act.put, List.setIfInBounds_toArray, List.set_cons_zero, List.set_cons_succ, i64_w, i32_w]
       rfl
      refine pure_ (i := 8) (N := some 106) (v := ?_) (a' := ?_) #[true, true, true, true, true, true, true, true, true, true, false, false] rfl rfl (any_of HT_.out (by kernel_rfl)) (fun _ _ _ h => h) (Or.inl ⟨by rfl, ?_⟩) ?_ ?_
      rotate_left
      ·intro w'
       go_simp
       with_reducible rfl
      rotate_left
      ·simp only [Act.put, List.setIfInBounds_toArray, List.set_cons_zero, List.set_cons_succ, i64_w, i32_w]
       rfl
      exact norm_ Z53 (hCont (.slice Ao126 t270.length co126, .slice Ao127 t273.length co127, v277, gb280) _ ⟨hHeld, Z5, Z6, Z7, Z8, Z9, Z10, Z11, Z12, Z2, Z3, Z4, Z41, Z40, Z39, Z38, Z37, Z36, Z35, GW280.out, GE280.out, NB225_280.out, NB280_225.out, NB226_280.out, NB280_226.out, NB239_280.out, NB280_239.out, NB243_280.out, NB280_243.out, NB247_280.out, NB280_247.out, NB252_280.out, NB280_252.out, Z0⟩)
    rintro ⟨v271, v274, v277, gb280⟩ w129 ⟨hS_, h0_, h1_, h2_, h3_, h4_, h5_, h6_, h7_, h8_, h9_, h10_, h11_, h12_, h13_, h14_, h15_, h16_, h17_, h18_, h19_, h20_, h21_, h22_, h23_, h24_, h25_, h26_, h27_, h28_, h29_, h30_, h31_, h32_⟩
    have n0_ : Aside0 (Kd.R (Kd.int .i64) 2 w129 w.heap.size (fun k_ => some k_ ≠ (v233 : Value).ownBlock ∧ some k_ ≠ (.slice Ao68 t235.length co68 : Value).ownBlock ∧ some k_ ≠ (.slice Ao74 t240.length co74 : Value).ownBlock ∧ some k_ ≠ (.slice Ao83 t244.length co83 : Value).ownBlock ∧ some k_ ≠ (.slice Ao94 t248.length co94 : Value).ownBlock ∧ some k_ ≠ (.slice Ao105 t254.length co105 : Value).ownBlock ∧ some k_ ≠ (.slice Ao109 t258.length co109 : Value).ownBlock ∧ some k_ ≠ (v271 : Value).ownBlock ∧ some k_ ≠ (v274 : Value).ownBlock ∧ some k_ ≠ (v277 : Value).ownBlock) v230 t229) := ⟨h0_⟩
    have n1_ : Aside0 (Kd.R (Kd.int .i64) 2 w129 w.heap.size (fun k_ => some k_ ≠ (v230 : Value).ownBlock ∧ some k_ ≠ (.slice Ao68 t235.length co68 : Value).ownBlock ∧ some k_ ≠ (.slice Ao74 t240.length co74 : Value).ownBlock ∧ some k_ ≠ (.slice Ao83 t244.length co83 : Value).ownBlock ∧ some k_ ≠ (.slice Ao94 t248.length co94 : Value).ownBlock ∧ some k_ ≠ (.slice Ao105 t254.length co105 : Value).ownBlock ∧ some k_ ≠ (.slice Ao109 t258.length co109 : Value).ownBlock ∧ some k_ ≠ (v271 : Value).ownBlock ∧ some k_ ≠ (v274 : Value).ownBlock ∧ some k_ ≠ (v277 : Value).ownBlock) v233 t232) := ⟨h1_⟩
    have n2_ : Aside0 (Kd.R (Kd.int .i64) 2 w129 w.heap.size (fun k_ => some k_ ≠ (v230 : Value).ownBlock ∧ some k_ ≠ (v233 : Value).ownBlock ∧ some k_ ≠ (.slice Ao74 t240.length co74 : Value).ownBlock ∧ some k_ ≠ (.slice Ao83 t244.length co83 : Value).ownBlock ∧ some k_ ≠ (.slice Ao94 t248.length co94 : Value).ownBlock ∧ some k_ ≠ (.slice Ao105 t254.length co105 : Value).ownBlock ∧ some k_ ≠ (.slice Ao109 t258.length co109 : Value).ownBlock ∧ some k_ ≠ (v271 : Value).ownBlock ∧ some k_ ≠ (v274 : Value).ownBlock ∧ some k_ ≠ (v277 : Value).ownBlock) (.slice Ao68 t235.length co68) t235) := ⟨h2_⟩
    have n3_ : Aside0 (Kd.R (Kd.int .i64) 2 w129 w.heap.size (fun k_ => some k_ ≠ (v230 : Value).ownBlock ∧ some k_ ≠ (v233 : Value).ownBlock ∧ some k_ ≠ (.slice Ao68 t235.length co68 : Value).ownBlock ∧ some k_ ≠ (.slice Ao83 t244.length co83 : Value).ownBlock ∧ some k_ ≠ (.slice Ao94 t248.length co94 : Value).ownBlock ∧ some k_ ≠ (.slice Ao105 t254.length co105 : Value).ownBlock ∧ some k_ ≠ (.slice Ao109 t258.length co109 : Value).ownBlock ∧ some k_ ≠ (v271 : Value).ownBlock ∧ some k_ ≠ (v274 : Value).ownBlock ∧ some k_ ≠ (v277 : Value).ownBlock) (.slice Ao74 t240.length co74) t263) := ⟨h3_⟩
    have n4_ : Aside0 (Kd.R (Kd.int .i64) 2 w129 w.heap.size (fun k_ => some k_ ≠ (v230 : Value).ownBlock ∧ some k_ ≠ (v233 : Value).ownBlock ∧ some k_ ≠ (.slice Ao68 t235.length co68 : Value).ownBlock ∧ some k_ ≠ (.slice Ao74 t240.length co74 : Value).ownBlock ∧ some k_ ≠ (.slice Ao94 t248.length co94 : Value).ownBlock ∧ some k_ ≠ (.slice Ao105 t254.length co105 : Value).ownBlock ∧ some k_ ≠ (.slice Ao109 t258.length co109 : Value).ownBlock ∧ some k_ ≠ (v271 : Value).ownBlock ∧ some k_ ≠ (v274 : Value).ownBlock ∧ some k_ ≠ (v277 : Value).ownBlock) (.slice Ao83 t244.length co83) t265) := ⟨h4_⟩
    have n5_ : Aside0 (Kd.R (Kd.int .i64) 2 w129 w.heap.size (fun k_ => some k_ ≠ (v230 : Value).ownBlock ∧ some k_ ≠ (v233 : Value).ownBlock ∧ some k_ ≠ (.slice Ao68 t235.length co68 : Value).ownBlock ∧ some k_ ≠ (.slice Ao74 t240.length co74 : Value).ownBlock ∧ some k_ ≠ (.slice Ao83 t244.length co83 : Value).ownBlock ∧ some k_ ≠ (.slice Ao105 t254.length co105 : Value).ownBlock ∧ some k_ ≠ (.slice Ao109 t258.length co109 : Value).ownBlock ∧ some k_ ≠ (v271 : Value).ownBlock ∧ some k_ ≠ (v274 : Value).ownBlock ∧ some k_ ≠ (v277 : Value).ownBlock) (.slice Ao94 t248.length co94) t268) := ⟨h5_⟩
    have n6_ : Aside0 (Kd.R (Kd.int .i64) 2 w129 w.heap.size (fun k_ => some k_ ≠ (v230 : Value).ownBlock ∧ some k_ ≠ (v233 : Value).ownBlock ∧ some k_ ≠ (.slice Ao68 t235.length co68 : Value).ownBlock ∧ some k_ ≠ (.slice Ao74 t240.length co74 : Value).ownBlock ∧ some k_ ≠ (.slice Ao83 t244.length co83 : Value).ownBlock ∧ some k_ ≠ (.slice Ao94 t248.length co94 : Value).ownBlock ∧ some k_ ≠ (.slice Ao109 t258.length co109 : Value).ownBlock ∧ some k_ ≠ (v271 : Value).ownBlock ∧ some k_ ≠ (v274 : Value).ownBlock ∧ some k_ ≠ (v277 : Value).ownBlock) (.slice Ao105 t254.length co105) t254) := ⟨h6_⟩
    have n7_ : Aside0 (Kd.R (Kd.int .i64) 2 w129 w.heap.size (fun k_ => some k_ ≠ (v230 : Value).ownBlock ∧ some k_ ≠ (v233 : Value).ownBlock ∧ some k_ ≠ (.slice Ao68 t235.length co68 : Value).ownBlock ∧ some k_ ≠ (.slice Ao74 t240.length co74 : Value).ownBlock ∧ some k_ ≠ (.slice Ao83 t244.length co83 : Value).ownBlock ∧ some k_ ≠ (.slice Ao94 t248.length co94 : Value).ownBlock ∧ some k_ ≠ (.slice Ao105 t254.length co105 : Value).ownBlock ∧ some k_ ≠ (v271 : Value).ownBlock ∧ some k_ ≠ (v274 : Value).ownBlock ∧ some k_ ≠ (v277 : Value).ownBlock) (.slice Ao109 t258.length co109) t258) := ⟨h7_⟩
    have n8_ : Aside0 (Kd.R (Kd.int .i64) 2 w129 w.heap.size (fun k_ => some k_ ≠ (v230 : Value).ownBlock ∧ some k_ ≠ (v233 : Value).ownBlock ∧ some k_ ≠ (.slice Ao68 t235.length co68 : Value).ownBlock ∧ some k_ ≠ (.slice Ao74 t240.length co74 : Value).ownBlock ∧ some k_ ≠ (.slice Ao83 t244.length co83 : Value).ownBlock ∧ some k_ ≠ (.slice Ao94 t248.length co94 : Value).ownBlock ∧ some k_ ≠ (.slice Ao105 t254.length co105 : Value).ownBlock ∧ some k_ ≠ (.slice Ao109 t258.length co109 : Value).ownBlock ∧ some k_ ≠ (v274 : Value).ownBlock ∧ some k_ ≠ (v277 : Value).ownBlock) v271 t270) := ⟨h8_⟩
    have n9_ : Aside0 (Kd.R (Kd.int .i64) 2 w129 w.heap.size (fun k_ => some k_ ≠ (v230 : Value).ownBlock ∧ some k_ ≠ (v233 : Value).ownBlock ∧ some k_ ≠ (.slice Ao68 t235.length co68 : Value).ownBlock ∧ some k_ ≠ (.slice Ao74 t240.length co74 : Value).ownBlock ∧ some k_ ≠ (.slice Ao83 t244.length co83 : Value).ownBlock ∧ some k_ ≠ (.slice Ao94 t248.length co94 : Value).ownBlock ∧ some k_ ≠ (.slice Ao105 t254.length co105 : Value).ownBlock ∧ some k_ ≠ (.slice Ao109 t258.length co109 : Value).ownBlock ∧ some k_ ≠ (v271 : Value).ownBlock ∧ some k_ ≠ (v277 : Value).ownBlock) v274 t273) := ⟨h9_⟩
    have n10_ : Aside0 (Kd.R (Kd.int .i64) 2 w129 w.heap.size (fun k_ => some k_ ≠ (v230 : Value).ownBlock ∧ some k_ ≠ (v233 : Value).ownBlock ∧ some k_ ≠ (.slice Ao68 t235.length co68 : Value).ownBlock ∧ some k_ ≠ (.slice Ao74 t240.length co74 : Value).ownBlock ∧ some k_ ≠ (.slice Ao83 t244.length co83 : Value).ownBlock ∧ some k_ ≠ (.slice Ao94 t248.length co94 : Value).ownBlock ∧ some k_ ≠ (.slice Ao105 t254.length co105 : Value).ownBlock ∧ some k_ ≠ (.slice Ao109 t258.length co109 : Value).ownBlock ∧ some k_ ≠ (v271 : Value).ownBlock ∧ some k_ ≠ (v274 : Value).ownBlock) v277 t276) := ⟨h10_⟩
    have n11_ : Aside0 (w129.heap[gb225]? = some (.cells #[.slice A0_0 l0_0.length c0_0] 24 (0, 0))) := ⟨h11_⟩
    have n12_ : Aside0 (w129.heap[gb226]? = some (.cells #[.slice A2_0 l2_0.length c2_0] 24 (0, 0))) := ⟨h12_⟩
    have n13_ : Aside0 (w129.heap[gb239]? = some (.cells #[.slice Ao68 t235.length co68] 26 (0, 0))) := ⟨h13_⟩
    have n14_ : Aside0 (w129.heap[gb243]? = some (.cells #[.slice Ao74 t240.length co74] 26 (0, 0))) := ⟨h14_⟩
    have n15_ : Aside0 (w129.heap[gb247]? = some (.cells #[.slice Ao83 t244.length co83] 26 (0, 0))) := ⟨h15_⟩
    have n16_ : Aside0 (w129.heap[gb252]? = some (.cells #[.slice Ao94 t248.length co94] 26 (0, 0))) := ⟨h16_⟩
    have n17_ : Aside0 (w129.heap[gb280]? = some (.cells #[.slice none 0 0] 26 (0, 0))) := ⟨h17_⟩
    have n18_ : Aside0 (w.heap.size ≤ gb280) := ⟨h18_⟩
    have n19_ : Aside0 (w.heap.size ≤ gb280) := ⟨h19_⟩
    have n20_ : Aside0 (gb225 ≠ gb280) := ⟨h20_⟩
    have n21_ : Aside0 (gb280 ≠ gb225) := ⟨h21_⟩
    have n22_ : Aside0 (gb226 ≠ gb280) := ⟨h22_⟩
    have n23_ : Aside0 (gb280 ≠ gb226) := ⟨h23_⟩
    have n24_ : Aside0 (gb239 ≠ gb280) := ⟨h24_⟩
    have n25_ : Aside0 (gb280 ≠ gb239) := ⟨h25_⟩
    have n26_ : Aside0 (gb243 ≠ gb280) := ⟨h26_⟩
    have n27_ : Aside0 (gb280 ≠ gb243) := ⟨h27_⟩
    have n28_ : Aside0 (gb247 ≠ gb280) := ⟨h28_⟩
    have n29_ : Aside0 (gb280 ≠ gb247) := ⟨h29_⟩
    have n30_ : Aside0 (gb252 ≠ gb280) := ⟨h30_⟩
    have n31_ : Aside0 (gb280 ≠ gb252) := ⟨h31_⟩
    have n32_ : Aside0 (Below w.heap.size w w129) := ⟨h32_⟩
    clear HO231
    clear HO234
    clear HO237
    clear HO242
    clear HO246
    clear HO250
    clear HO256
    clear HO260
    clear BK225
    clear BK226
    clear BK239
    clear BK243
    clear BK247
    clear BK252
    clear HB
    clear h0_ h1_ h2_ h3_ h4_ h5_ h6_ h7_ h8_ h9_ h10_ h11_ h12_ h13_ h14_ h15_ h16_ h17_ h18_ h19_ h20_ h21_ h22_ h23_ h24_ h25_ h26_ h27_ h28_ h29_ h30_ h31_ h32_
    have HO231 := n0_
    have HO234 := n1_
    have HO237 := n2_
    have HO242 := n3_
    have HO246 := n4_
    have HO250 := n5_
    have HO256 := n6_
    have HO260 := n7_
    have HO272 := n8_
    have HO275 := n9_
    have HO278 := n10_
    have BK225 := n11_
    have BK226 := n12_
    have BK239 := n13_
    have BK243 := n14_
    have BK247 := n15_
    have BK252 := n16_
    have BK280 := n17_
    have GW280 := n18_
    have GE280 := n19_
    have NB225_280 := n20_
    have NB280_225 := n21_
    have NB226_280 := n22_
    have NB280_226 := n23_
    have NB239_280 := n24_
    have NB280_239 := n25_
    have NB243_280 := n26_
    have NB280_243 := n27_
    have NB247_280 := n28_
    have NB280_247 := n29_
    have NB252_280 := n30_
    have NB280_252 := n31_
    have HB := n32_
    clear n0_ n1_ n2_ n3_ n4_ n5_ n6_ n7_ n8_ n9_ n10_ n11_ n12_ n13_ n14_ n15_ n16_ n17_ n18_ n19_ n20_ n21_ n22_ n23_ n24_ n25_ n26_ n27_ n28_ n29_ n30_ n31_ n32_
    have hHeld : w129.cell? ⟨gb225, 0, none⟩ = some (.slice A0_0 l0_0.length c0_0) ∧ w129.cell? ⟨gb226, 0, none⟩ = some (.slice A2_0 l2_0.length c2_0) := hS_
    obtain ⟨Ao130, co130, eo130⟩ := Kd.R_slice HO278.out
    (first | subst eo130 | (injection eo130 with f1_ f2_ f3_; have f4_ := f1_.symm; have f5_ := f3_.symm; clear f1_ f2_ f3_; subst f4_; subst f5_))
    refine norm_ (a' := ?_) ?_ ?_
    rotate_left
    ·simp only [putAll, Act.put, List.setIfInBounds_toArray, List.set_cons_zero, List.set_cons_succ]
     rfl
    refine one_ (i := 10) (N := none) #[true, true, true, true, true, true, true, true, true, true, true, false] rfl rfl (one_of HT_.out (by kernel_rfl)) (by decide) (fun K hK => ?_)
    have hs131 : w129.cell? ⟨gb280, 0, none⟩ = some (.slice none 0 0) := (blk_cell BK280.out 0).trans rfl
    have hfs131 := blk_frozen BK280.out 0
    have hns131_0 := NB225_280.out
    have hns131_1 := NB226_280.out
    have hns131_2 := NB239_280.out
    have hns131_3 := NB243_280.out
    have hns131_4 := NB247_280.out
    have hns131_5 := NB252_280.out
    have hms131_0 := NB280_225.out
    have hms131_1 := NB280_226.out
    have hms131_2 := NB280_239.out
    have hms131_3 := NB280_243.out
    have hms131_4 := NB280_247.out
    have hms131_5 := NB280_252.out
    refine skip_ (w1 := ?_) (by rfl) rfl ?_ ?_
    rotate_left
    ·go_simp
     rfl
    refine hK.out _ _ ⟨((cell_far (p := ⟨gb280, _, none⟩) NB225_280.out _).trans (hHeld.1)), ((cell_far (p := ⟨gb280, _, none⟩) NB226_280.out _).trans (hHeld.2))⟩ (fun hHeld => ?_)
    clear hK K
    refine pure_ (i := 11) (N := some 18) (v := ?_) (a' := ?_) #[true, true, true, true, true, true, true, true, true, true, true, true] rfl rfl (any_of HT_.out (by kernel_rfl)) (fun _ _ _ h => h) (Or.inl ⟨by rfl, ?_⟩) ?_ ?_
    rotate_left
    ·intro w'
     go_simp
     with_reducible rfl
    rotate_left
    ·simp only [Act.put, List.setIfInBounds_toArray, List.set_cons_zero, List.set_cons_succ, i64_w, i32_w]
     rfl
    refine done_ (done_of HT_.out (by kernel_rfl)) ?_
    have hnb132 := NB280_225.out
    have hnc132 := NB225_280.out
    have hnb133 := NB280_226.out
    have hnc133 := NB226_280.out
    have hnb134 := NB280_239.out
    have hnc134 := NB239_280.out
    have hnb135 := NB280_243.out
    have hnc135 := NB243_280.out
    have hnb136 := NB280_247.out
    have hnc136 := NB247_280.out
    have hnb137 := NB280_252.out
    have hnc137 := NB252_280.out
    have hcz138_0 : w129.cell? ⟨gb280, 0, none⟩ = some (.slice none 0 0) := (blk_cell BK280.out 0).trans rfl
    have hfz138_0 := blk_frozen BK280.out 0
    have hcz139_0 : w129.cell? ⟨gb239, 0, none⟩ = some (.slice Ao68 t235.length co68) := (blk_cell BK239.out 0).trans rfl
    have hfz139_0 := blk_frozen BK239.out 0
    try go_wp2_with (first | ((with_reducible refine gate_callee (f := 16) rfl ?_); refine goesL_ (some 109) rfl rfl Try.func16 (by kernel_rfl) rfl #[.agg #[.slice Ao130 t276.length co130], .agg #[.slice Ao68 t235.length co68]] rfl Z33 ?_; (with_reducible refine (laws_eqTree.calls k _ _ t276 _ _ t235 true _ ?side1 ?side2 ?side3 ?side4 A47.out).mono ?_); (case side1 => refine (Kd.R_reads' (e := 2) (base := w.heap.size) (ok := fun k_ => (some k_ ≠ (v230 : Value).ownBlock ∧ (some k_ ≠ (v233 : Value).ownBlock ∧ (some k_ ≠ (.slice Ao68 t235.length co68 : Value).ownBlock ∧ (some k_ ≠ (.slice Ao74 t240.length co74 : Value).ownBlock ∧ (some k_ ≠ (.slice Ao83 t244.length co83 : Value).ownBlock ∧ (some k_ ≠ (.slice Ao94 t248.length co94 : Value).ownBlock ∧ (some k_ ≠ (.slice Ao105 t254.length co105 : Value).ownBlock ∧ (some k_ ≠ (.slice Ao109 t258.length co109 : Value).ownBlock ∧ (some k_ ≠ (v271 : Value).ownBlock ∧ some k_ ≠ (v274 : Value).ownBlock)))))))))) (n := t276.length) (c := co130) ?_).2.2; exact Z16); (case side2 => exact (Kd.R_reads' HO278.out).2.1); (case side3 => refine (Kd.R_reads' (e := 2) (base := w.heap.size) (ok := fun k_ => (some k_ ≠ (v230 : Value).ownBlock ∧ (some k_ ≠ (v233 : Value).ownBlock ∧ (some k_ ≠ (.slice Ao74 t240.length co74 : Value).ownBlock ∧ (some k_ ≠ (.slice Ao83 t244.length co83 : Value).ownBlock ∧ (some k_ ≠ (.slice Ao94 t248.length co94 : Value).ownBlock ∧ (some k_ ≠ (.slice Ao105 t254.length co105 : Value).ownBlock ∧ (some k_ ≠ (.slice Ao109 t258.length co109 : Value).ownBlock ∧ (some k_ ≠ (v271 : Value).ownBlock ∧ (some k_ ≠ (v274 : Value).ownBlock ∧ some k_ ≠ (.slice Ao130 t276.length co130 : Value).ownBlock)))))))))) (n := t235.length) (c := co68) ?_).2.2; exact Z15); (case side4 => exact (Kd.R_reads' HO237.out).2.1); rintro e w140 ⟨rfl, hb⟩; refine ⟨_, rfl, ?_⟩; have n0_ := A_ (Kd.R_below (by (with_reducible repeat (first | apply Kd.R_alloc | apply Kd.R_drewN | apply Kd.R_drew)); exact (Kd.R_mono (Kd.R_far (p := ⟨gb280, 0, none⟩) (Kd.R_types HO231.out BK280.out (by decide)) (fun _ hk => hk.2) (.slice Ao130 t276.length co130)) (fun _ h_ => h_.1))) hb); have n1_ := A_ (Kd.R_below (by (with_reducible repeat (first | apply Kd.R_alloc | apply Kd.R_drewN | apply Kd.R_drew)); exact (Kd.R_mono (Kd.R_far (p := ⟨gb280, 0, none⟩) (Kd.R_types HO234.out BK280.out (by decide)) (fun _ hk => hk.2) (.slice Ao130 t276.length co130)) (fun _ h_ => h_.1))) hb); have n2_ := A_ (Kd.R_below Z15 hb); have n3_ := A_ (Kd.R_below (by (with_reducible repeat (first | apply Kd.R_alloc | apply Kd.R_drewN | apply Kd.R_drew)); exact (Kd.R_mono (Kd.R_far (p := ⟨gb280, 0, none⟩) (Kd.R_types HO242.out BK280.out (by decide)) (fun _ hk => hk.2) (.slice Ao130 t276.length co130)) (fun _ h_ => h_.1))) hb); have n4_ := A_ (Kd.R_below (by (with_reducible repeat (first | apply Kd.R_alloc | apply Kd.R_drewN | apply Kd.R_drew)); exact (Kd.R_mono (Kd.R_far (p := ⟨gb280, 0, none⟩) (Kd.R_types HO246.out BK280.out (by decide)) (fun _ hk => hk.2) (.slice Ao130 t276.length co130)) (fun _ h_ => h_.1))) hb); have n5_ := A_ (Kd.R_below (by (with_reducible repeat (first | apply Kd.R_alloc | apply Kd.R_drewN | apply Kd.R_drew)); exact (Kd.R_mono (Kd.R_far (p := ⟨gb280, 0, none⟩) (Kd.R_types HO250.out BK280.out (by decide)) (fun _ hk => hk.2) (.slice Ao130 t276.length co130)) (fun _ h_ => h_.1))) hb); have n6_ := A_ (Kd.R_below (by (with_reducible repeat (first | apply Kd.R_alloc | apply Kd.R_drewN | apply Kd.R_drew)); exact (Kd.R_mono (Kd.R_far (p := ⟨gb280, 0, none⟩) (Kd.R_types HO256.out BK280.out (by decide)) (fun _ hk => hk.2) (.slice Ao130 t276.length co130)) (fun _ h_ => h_.1))) hb); have n7_ := A_ (Kd.R_below (by (with_reducible repeat (first | apply Kd.R_alloc | apply Kd.R_drewN | apply Kd.R_drew)); exact (Kd.R_mono (Kd.R_far (p := ⟨gb280, 0, none⟩) (Kd.R_types HO260.out BK280.out (by decide)) (fun _ hk => hk.2) (.slice Ao130 t276.length co130)) (fun _ h_ => h_.1))) hb); have n8_ := A_ (Kd.R_below (by (with_reducible repeat (first | apply Kd.R_alloc | apply Kd.R_drewN | apply Kd.R_drew)); exact (Kd.R_mono (Kd.R_far (p := ⟨gb280, 0, none⟩) (Kd.R_types HO272.out BK280.out (by decide)) (fun _ hk => hk.2) (.slice Ao130 t276.length co130)) (fun _ h_ => h_.1))) hb); have n9_ := A_ (Kd.R_below (by (with_reducible repeat (first | apply Kd.R_alloc | apply Kd.R_drewN | apply Kd.R_drew)); exact (Kd.R_mono (Kd.R_far (p := ⟨gb280, 0, none⟩) (Kd.R_types HO275.out BK280.out (by decide)) (fun _ hk => hk.2) (.slice Ao130 t276.length co130)) (fun _ h_ => h_.1))) hb); have n10_ := A_ (Kd.R_below Z16 hb); have n11_ := A_ (blk_below (g := gb225) (o := .cells #[.slice A0_0 l0_0.length c0_0] 24 (0, 0)) (by (with_reducible repeat (first | refine blk_drewN ?_ _ | refine blk_drew ?_ | refine blk_alloc ?_ _)); refine blk_far ?_ NB225_280.out _; (with_reducible repeat (first | refine blk_drewN ?_ _ | refine blk_drew ?_ | refine blk_alloc ?_ _)); exact BK225.out) hb); have n12_ := A_ (blk_below (g := gb226) (o := .cells #[.slice A2_0 l2_0.length c2_0] 24 (0, 0)) (by (with_reducible repeat (first | refine blk_drewN ?_ _ | refine blk_drew ?_ | refine blk_alloc ?_ _)); refine blk_far ?_ NB226_280.out _; (with_reducible repeat (first | refine blk_drewN ?_ _ | refine blk_drew ?_ | refine blk_alloc ?_ _)); exact BK226.out) hb); have n13_ := A_ (blk_below (g := gb239) (o := .cells #[.slice Ao68 t235.length co68] 26 (0, 0)) (by (with_reducible repeat (first | refine blk_drewN ?_ _ | refine blk_drew ?_ | refine blk_alloc ?_ _)); refine blk_far ?_ NB239_280.out _; (with_reducible repeat (first | refine blk_drewN ?_ _ | refine blk_drew ?_ | refine blk_alloc ?_ _)); exact BK239.out) hb); have n14_ := A_ (blk_below (g := gb243) (o := .cells #[.slice Ao74 t240.length co74] 26 (0, 0)) (by (with_reducible repeat (first | refine blk_drewN ?_ _ | refine blk_drew ?_ | refine blk_alloc ?_ _)); refine blk_far ?_ NB243_280.out _; (with_reducible repeat (first | refine blk_drewN ?_ _ | refine blk_drew ?_ | refine blk_alloc ?_ _)); exact BK243.out) hb); have n15_ := A_ (blk_below (g := gb247) (o := .cells #[.slice Ao83 t244.length co83] 26 (0, 0)) (by (with_reducible repeat (first | refine blk_drewN ?_ _ | refine blk_drew ?_ | refine blk_alloc ?_ _)); refine blk_far ?_ NB247_280.out _; (with_reducible repeat (first | refine blk_drewN ?_ _ | refine blk_drew ?_ | refine blk_alloc ?_ _)); exact BK247.out) hb); have n16_ := A_ (blk_below (g := gb252) (o := .cells #[.slice Ao94 t248.length co94] 26 (0, 0)) (by (with_reducible repeat (first | refine blk_drewN ?_ _ | refine blk_drew ?_ | refine blk_alloc ?_ _)); refine blk_far ?_ NB252_280.out _; (with_reducible repeat (first | refine blk_drewN ?_ _ | refine blk_drew ?_ | refine blk_alloc ?_ _)); exact BK252.out) hb); have n17_ := A_ (blk_below (g := gb280) (o := .cells #[.slice Ao130 t276.length co130] 26 (0, 0)) (by (with_reducible repeat (first | refine blk_drewN ?_ _ | refine blk_drew ?_ | refine blk_alloc ?_ _)); refine blk_put (cs := #[.slice none 0 0]) ?_ 0 _ rfl; (with_reducible repeat (first | refine blk_drewN ?_ _ | refine blk_drew ?_ | refine blk_alloc ?_ _)); exact BK280.out) hb); have n18_ := A_ (below_step Z0 hb); clear HO231; clear HO234; clear HO237; clear HO242; clear HO246; clear HO250; clear HO256; clear HO260; clear HO272; clear HO275; clear HO278; clear BK225; clear BK226; clear BK239; clear BK243; clear BK247; clear BK252; clear BK280; clear HB; have HO231 := n0_; have HO234 := n1_; have HO237 := n2_; have HO242 := n3_; have HO246 := n4_; have HO250 := n5_; have HO256 := n6_; have HO260 := n7_; have HO272 := n8_; have HO275 := n9_; have HO278 := n10_; have BK225 := n11_; have BK226 := n12_; have BK239 := n13_; have BK243 := n14_; have BK247 := n15_; have BK252 := n16_; have BK280 := n17_; have HB := n18_; clear n0_ n1_ n2_ n3_ n4_ n5_ n6_ n7_ n8_ n9_ n10_ n11_ n12_ n13_ n14_ n15_ n16_ n17_ n18_; (try clear hb); (try clear hb2); (try clear hk); (try clear hi); have hcz141_0 : w140.cell? ⟨gb252, 0, none⟩ = some (.slice Ao94 t248.length co94) := (blk_cell BK252.out 0).trans rfl; have hfz141_0 := blk_frozen BK252.out 0) | ((with_reducible refine gate_callee (f := 18) rfl ?_); refine goesL_ (some 118) rfl rfl Try.func18 (by kernel_rfl) rfl #[.agg #[.slice Ao94 t268.length co94], .int .i64 1] rfl Z27 ?_; (with_reducible refine (laws_heldTree.calls k _ _ t268 1 t282 _ ?side1 ?side2 A50.out).mono ?_); (case side1 => repeat (first | exact (Kd.R_reads' HO250.out).2.2 | (with_reducible refine Kd.C_alloc ?_ _) | (with_reducible refine Kd.C_drewN ?_ _) | (with_reducible refine Kd.C_drew ?_))); (case side2 => rw [show t268.length = t248.length from (Kd.R_reads' HO250.out).1.symm]; exact (Kd.R_reads' HO250.out).2.1); rintro e w142 ⟨rfl, hb⟩; refine ⟨_, rfl, ?_⟩; have n0_ := A_ (Kd.R_below Z52 hb); have n1_ := A_ (Kd.R_below Z51 hb); have n2_ := A_ (Kd.R_below Z50 hb); have n3_ := A_ (Kd.R_below Z49 hb); have n4_ := A_ (Kd.R_below Z48 hb); have n5_ := A_ (Kd.R_below Z47 hb); have n6_ := A_ (Kd.R_below Z46 hb); have n7_ := A_ (Kd.R_below Z45 hb); have n8_ := A_ (Kd.R_below Z44 hb); have n9_ := A_ (Kd.R_below Z43 hb); have n10_ := A_ (Kd.R_below Z42 hb); have n11_ := A_ (blk_below (g := gb225) (o := .cells #[.slice A0_0 l0_0.length c0_0] 24 (0, 0)) Z41 hb); have n12_ := A_ (blk_below (g := gb226) (o := .cells #[.slice A2_0 l2_0.length c2_0] 24 (0, 0)) Z40 hb); have n13_ := A_ (blk_below (g := gb239) (o := .cells #[.slice Ao68 t235.length co68] 26 (0, 0)) Z39 hb); have n14_ := A_ (blk_below (g := gb243) (o := .cells #[.slice Ao74 t240.length co74] 26 (0, 0)) Z38 hb); have n15_ := A_ (blk_below (g := gb247) (o := .cells #[.slice Ao83 t244.length co83] 26 (0, 0)) Z37 hb); have n16_ := A_ (blk_below (g := gb252) (o := .cells #[.slice Ao94 t248.length co94] 26 (0, 0)) Z36 hb); have n17_ := A_ (blk_below (g := gb280) (o := .cells #[.slice Ao130 t276.length co130] 26 (0, 0)) Z35 hb); have n18_ := A_ (below_step Z0 hb); clear HO231; clear HO234; clear HO237; clear HO242; clear HO246; clear HO250; clear HO256; clear HO260; clear HO272; clear HO275; clear HO278; clear BK225; clear BK226; clear BK239; clear BK243; clear BK247; clear BK252; clear BK280; clear HB; have HO231 := n0_; have HO234 := n1_; have HO237 := n2_; have HO242 := n3_; have HO246 := n4_; have HO250 := n5_; have HO256 := n6_; have HO260 := n7_; have HO272 := n8_; have HO275 := n9_; have HO278 := n10_; have BK225 := n11_; have BK226 := n12_; have BK239 := n13_; have BK243 := n14_; have BK247 := n15_; have BK252 := n16_; have BK280 := n17_; have HB := n18_; clear n0_ n1_ n2_ n3_ n4_ n5_ n6_ n7_ n8_ n9_ n10_ n11_ n12_ n13_ n14_ n15_ n16_ n17_ n18_; (try clear hb); (try clear hb2); (try clear hk); (try clear hi)))
    go_ret
    exact ⟨by first | rfl | (simp [errW_none, errW_some] <;> rfl) | (simp [*, errW_none, errW_some] <;> rfl), by repeat (first | (with_reducible first | exact HB.out | apply below_alloc | apply pw_below_drewN | apply below_drew1 | refine below_set ?_ GE225.out | refine below_set ?_ GE226.out | refine below_set ?_ GE239.out | refine below_set ?_ GE243.out | refine below_set ?_ GE247.out | refine below_set ?_ GE252.out | refine below_set ?_ GE280.out) | exact HB.out)⟩
   ·replace c27 := Bool.eq_false_iff.mpr c27
    subst c27
    have H1 : (none) = some r := by rw [if_neg (show ¬ (false = true) by decide)] at H; exact H
    clear H
    have H := H1
    clear H1
    exact absurd H (by simp)

end Go.Proofs.Ytjecelgbfmpnaaa.QFnExactReplaceAt
