/- Functions of the program as plain Lean functions, each with a proof that the machine's call answers what it answers. Conditions: none. -/
import Derived.Test.YtocachknmgefaaaQFnTreeCountsx0
import Derived.Test.YtocachknmgefaaaQFnTreeCountsx1
import Derived.Test.YtocachknmgefaaaQFnTreeCountsx2
import Derived.Test.YtocachknmgefaaaQFnTreeCountsx3
import Derived.Test.YtocachknmgefaaaQFnTreeCountsx5
import Derived.Test.YtocachknmgefaaaQFnTreeCountsx6
import Derived.Test.YtocachknmgefaaaQFnTreeCountsx7
import Derived.Test.YtocachknmgefaaaQFnTreeCountsx8
import Derived.Test.YtocachknmgefaaaQFnTreeCountsx9
import Derived.Test.YtocachknmgefaaaQFnTreeCountsx11
import Derived.Test.YtocachknmgefaaaQFnTreeCountsx12
import Derived.Test.YtocachknmgefaaaQFnTreeCountsx13
import Derived.Test.YtocachknmgefaaaQFnTreeCountsx14
namespace Go.Proofs.Ytocachknmgefaaa.QFnTreeCounts
open Go.RowKit Go.Proofs.YtocachknmgefaaaW.PrintWords Go.Proofs.YtocachknmgefaaaW.PrintLast Go.Proofs.YtocachknmgefaaaW.PrintMore
attribute [local go_sem] max2_int min2_int max_two min_two max_three min_three max_four min_four   -- for this text's walks alone
set_option linter.unusedVariables false
set_option linter.unusedSimpArgs false

/-! ### laws_FnTreeCounts: function 5 -/
mutual
def laws_FnTreeCounts.j0 : Nat → List Int → Int → Int → Int → Int → Bool → Option (Bool)
  | 0, _, _, _, _, _, _ => none
  | k + 1, x0, x3, x4, x5, x6, x72 => if x72 = true then (none) else ((impl_CountByHeight.f k x3 x4).bind fun bt527 => ((spec_CountByHeight.f k x3 x4).bind fun bt529 => (if bt527.2 = bt529.2 then (laws_FnTreeCounts.j1 k x0 x3 x4 x5 x6 bt527.2 (bt527.1 != bt529.1)) else (laws_FnTreeCounts.j1 k x0 x3 x4 x5 x6 bt527.2 true))))
def laws_FnTreeCounts.j1 : Nat → List Int → Int → Int → Int → Int → Int → Bool → Option (Bool)
  | 0, _, _, _, _, _, _, _ => none
  | k + 1, x0, x3, x4, x5, x6, x10, x92 => if x92 = true then (none) else ((impl_CountByRoot.f x3 x4).bind fun bt531 => ((spec_CountByRoot.f k x3 x4).bind fun bt533 => (if bt531.2 = bt533.2 then (laws_FnTreeCounts.j2 k x0 x3 x5 x6 x10 bt531.2 (bt531.1 != bt533.1)) else (laws_FnTreeCounts.j2 k x0 x3 x5 x6 x10 bt531.2 true))))
def laws_FnTreeCounts.j2 : Nat → List Int → Int → Int → Int → Int → Int → Bool → Option (Bool)
  | 0, _, _, _, _, _, _, _ => none
  | k + 1, x0, x3, x5, x6, x10, x14, x112 => if x112 = true then (none) else ((spec_DrawTreesOf.f k x0).bind fun t535 => ((impl_TreesOf.f k t535).bind fun bt536 => ((spec_TreesOf.f k t535).bind fun bt540 => (if bt536.2 = bt540.2 then ((laws_trees9.f k bt536.1 bt540.1).bind fun t544 => (laws_FnTreeCounts.j3 k x0 x3 x5 x6 x10 x14 t535 bt536.1 bt536.2 (!t544))) else (laws_FnTreeCounts.j3 k x0 x3 x5 x6 x10 x14 t535 bt536.1 bt536.2 true)))))
def laws_FnTreeCounts.j3 : Nat → List Int → Int → Int → Int → Int → Int → Int → List (S26) → Int → Bool → Option (Bool)
  | 0, _, _, _, _, _, _, _, _, _, _ => none
  | k + 1, x0, x3, x5, x6, x10, x14, x17, x18, x19, x133 => if x133 = true then (none) else ((spec_DrawCountsOfTree.f k x0).bind fun t545 => ((impl_CountsOfTree.f k t545).bind fun bt549 => ((spec_CountsOfTree.f k t545).bind fun bt553 => (if bt549.2 = bt553.2 then ((laws_likeInts.f k bt549.1 bt553.1).bind fun t557 => (laws_FnTreeCounts.j4 k x0 x3 x5 x6 x10 x14 x17 x18 x19 bt549.1 bt549.2 (!t557) t545)) else (laws_FnTreeCounts.j4 k x0 x3 x5 x6 x10 x14 x17 x18 x19 bt549.1 bt549.2 true t545)))))
def laws_FnTreeCounts.j4 : Nat → List Int → Int → Int → Int → Int → Int → Int → List (S26) → Int → List Int → Int → Bool → List Int → Option (Bool)
  | 0, _, _, _, _, _, _, _, _, _, _, _, _, _ => none
  | k + 1, x0, x3, x5, x6, x10, x14, x17, x18, x19, x23, x24, x154, x549000 => if x154 = true then (none) else ((spec_DrawCountByCounts.f k x0).bind fun t558 => ((impl_CountByCounts.f k t558).bind fun bt561 => ((spec_CountByCounts.f k t558).bind fun bt563 => (if bt561.2 = bt563.2 then (laws_FnTreeCounts.j5 k x3 x5 x6 x10 x14 x17 x18 x19 x23 x24 bt561.1 bt561.2 (bt561.1 != bt563.1) x549000) else (laws_FnTreeCounts.j5 k x3 x5 x6 x10 x14 x17 x18 x19 x23 x24 bt561.1 bt561.2 true x549000)))))
def laws_FnTreeCounts.j5 : Nat → Int → Int → Int → Int → Int → Int → List (S26) → Int → List Int → Int → Int → Int → Bool → List Int → Option (Bool)
  | 0, _, _, _, _, _, _, _, _, _, _, _, _, _, _ => none
  | k + 1, x3, x5, x6, x10, x14, x17, x18, x19, x23, x24, x28, x29, x174, x549000 => if x174 = true then (none) else (if x24 = 0 then ((laws_sum.f k x23).bind fun t565 => (laws_FnTreeCounts.j6 k x3 x5 x6 x10 x14 x17 x18 x19 x28 x29 (t565 != (x549000.length : Int)))) else (laws_FnTreeCounts.j6 k x3 x5 x6 x10 x14 x17 x18 x19 x28 x29 false))
def laws_FnTreeCounts.j6 : Nat → Int → Int → Int → Int → Int → Int → List (S26) → Int → Int → Int → Bool → Option (Bool)
  | 0, _, _, _, _, _, _, _, _, _, _, _ => none
  | k + 1, x3, x5, x6, x10, x14, x17, x18, x19, x28, x29, x184 => if x184 = true then (none) else (if x19 = 0 then ((impl_CountTrees.f x17).bind fun bt566 => (if bt566.2 = 0 then (if (x18.length : Int) = bt566.1 then (laws_FnTreeCounts.j7 k x3 x5 x6 x10 x14 x28 x29) else (none)) else (none))) else (laws_FnTreeCounts.j7 k x3 x5 x6 x10 x14 x28 x29))
def laws_FnTreeCounts.j7 : Nat → Int → Int → Int → Int → Int → Int → Int → Option (Bool)
  | 0, _, _, _, _, _, _, _ => none
  | k + 1, x3, x5, x6, x10, x14, x28, x29 => if x29 = 0 then (laws_FnTreeCounts.j8 k x3 x5 x6 x10 x14 (decide (x28 < 1))) else (laws_FnTreeCounts.j8 k x3 x5 x6 x10 x14 false)
def laws_FnTreeCounts.j8 : Nat → Int → Int → Int → Int → Int → Bool → Option (Bool)
  | 0, _, _, _, _, _, _ => none
  | k + 1, x3, x5, x6, x10, x14, x205 => if x205 = true then (none) else (if x6 = 0 then ((impl_CountTrees.f x3).bind fun bt568 => (laws_FnTreeCounts.l0 k x3 bt568.1 bt568.2 0 0 0 0)) else (if x5 = 0 then (if x10 = x6 then (some (x14 == x6)) else (none)) else (none)))
def laws_FnTreeCounts.l0 : Nat → Int → Int → Int → Int → Int → Int → Int → Option (Bool)
  | 0, _, _, _, _, _, _, _ => none
  | k + 1, x3, x34, x35, x36, x37, x38, x39 => if x39 ≤ x3 then ((impl_CountByLeaves.f k x3 x39).bind fun bt570 => ((impl_CountByHeight.f k x3 x39).bind fun bt572 => ((impl_CountByRoot.f x3 x39).bind fun bt574 => (if bt570.2 = 0 then (if bt572.2 = 0 then (if bt574.2 = 0 then (laws_FnTreeCounts.l0 k x3 x34 x35 (wrap64 (x36 + bt570.1)) (wrap64 (x37 + bt572.1)) (wrap64 (x38 + bt574.1)) (wrap64 (x39 + 1))) else (none)) else (none)) else (none))))) else (if x35 = 0 then (if x36 = x34 then (if x37 = x34 then (some (x38 == x34)) else (none)) else (none)) else (none))
end
def laws_FnTreeCounts.f (k : Nat) (l0 : List Int) : Option (Bool) := (laws_big.f l0).bind fun t520 => (if t520 = true then (some true) else ((spec_DrawCountByLeaves.f k l0).bind fun bt521 => ((impl_CountByLeaves.f k bt521.1 bt521.2).bind fun bt523 => ((spec_CountByLeaves.f k bt521.1 bt521.2).bind fun bt525 => (if bt523.2 = bt525.2 then (laws_FnTreeCounts.j0 k l0 bt521.1 bt521.2 bt523.1 bt523.2 (bt523.1 != bt525.1)) else (laws_FnTreeCounts.j0 k l0 bt521.1 bt521.2 bt523.1 bt523.2 true))))))
theorem laws_FnTreeCounts.mono_l : ∀ k, (∀ y0 y1 y2 y3 y4 y5, LeO (laws_FnTreeCounts.j0 k y0 y1 y2 y3 y4 y5) (laws_FnTreeCounts.j0 (k + 1) y0 y1 y2 y3 y4 y5)) ∧ (∀ y0 y1 y2 y3 y4 y5 y6, LeO (laws_FnTreeCounts.j1 k y0 y1 y2 y3 y4 y5 y6) (laws_FnTreeCounts.j1 (k + 1) y0 y1 y2 y3 y4 y5 y6)) ∧ (∀ y0 y1 y2 y3 y4 y5 y6, LeO (laws_FnTreeCounts.j2 k y0 y1 y2 y3 y4 y5 y6) (laws_FnTreeCounts.j2 (k + 1) y0 y1 y2 y3 y4 y5 y6)) ∧ (∀ y0 y1 y2 y3 y4 y5 y6 y7 y8 y9, LeO (laws_FnTreeCounts.j3 k y0 y1 y2 y3 y4 y5 y6 y7 y8 y9) (laws_FnTreeCounts.j3 (k + 1) y0 y1 y2 y3 y4 y5 y6 y7 y8 y9)) ∧ (∀ y0 y1 y2 y3 y4 y5 y6 y7 y8 y9 y10 y11 y12, LeO (laws_FnTreeCounts.j4 k y0 y1 y2 y3 y4 y5 y6 y7 y8 y9 y10 y11 y12) (laws_FnTreeCounts.j4 (k + 1) y0 y1 y2 y3 y4 y5 y6 y7 y8 y9 y10 y11 y12)) ∧ (∀ y0 y1 y2 y3 y4 y5 y6 y7 y8 y9 y10 y11 y12 y13, LeO (laws_FnTreeCounts.j5 k y0 y1 y2 y3 y4 y5 y6 y7 y8 y9 y10 y11 y12 y13) (laws_FnTreeCounts.j5 (k + 1) y0 y1 y2 y3 y4 y5 y6 y7 y8 y9 y10 y11 y12 y13)) ∧ (∀ y0 y1 y2 y3 y4 y5 y6 y7 y8 y9 y10, LeO (laws_FnTreeCounts.j6 k y0 y1 y2 y3 y4 y5 y6 y7 y8 y9 y10) (laws_FnTreeCounts.j6 (k + 1) y0 y1 y2 y3 y4 y5 y6 y7 y8 y9 y10)) ∧ (∀ y0 y1 y2 y3 y4 y5 y6, LeO (laws_FnTreeCounts.j7 k y0 y1 y2 y3 y4 y5 y6) (laws_FnTreeCounts.j7 (k + 1) y0 y1 y2 y3 y4 y5 y6)) ∧ (∀ y0 y1 y2 y3 y4 y5, LeO (laws_FnTreeCounts.j8 k y0 y1 y2 y3 y4 y5) (laws_FnTreeCounts.j8 (k + 1) y0 y1 y2 y3 y4 y5)) ∧ (∀ y0 y1 y2 y3 y4 y5 y6, LeO (laws_FnTreeCounts.l0 k y0 y1 y2 y3 y4 y5 y6) (laws_FnTreeCounts.l0 (k + 1) y0 y1 y2 y3 y4 y5 y6))
  | 0 => ⟨fun _ _ _ _ _ _ r h => by simp [laws_FnTreeCounts.j0] at h, fun _ _ _ _ _ _ _ r h => by simp [laws_FnTreeCounts.j1] at h, fun _ _ _ _ _ _ _ r h => by simp [laws_FnTreeCounts.j2] at h, fun _ _ _ _ _ _ _ _ _ _ r h => by simp [laws_FnTreeCounts.j3] at h, fun _ _ _ _ _ _ _ _ _ _ _ _ _ r h => by simp [laws_FnTreeCounts.j4] at h, fun _ _ _ _ _ _ _ _ _ _ _ _ _ _ r h => by simp [laws_FnTreeCounts.j5] at h, fun _ _ _ _ _ _ _ _ _ _ _ r h => by simp [laws_FnTreeCounts.j6] at h, fun _ _ _ _ _ _ _ r h => by simp [laws_FnTreeCounts.j7] at h, fun _ _ _ _ _ _ r h => by simp [laws_FnTreeCounts.j8] at h, fun _ _ _ _ _ _ _ r h => by simp [laws_FnTreeCounts.l0] at h⟩
  | k + 1 => by
    obtain ⟨ih0, ih1, ih2, ih3, ih4, ih5, ih6, ih7, ih8, ih9⟩ := laws_FnTreeCounts.mono_l k
    refine ⟨?_, ?_, ?_, ?_, ?_, ?_, ?_, ?_, ?_, ?_⟩
    · intro y0 y1 y2 y3 y4 y5
      unfold laws_FnTreeCounts.j0
      repeat' first
      | (with_reducible exact ih0 _ _ _ _ _ _)
      | (with_reducible exact ih1 _ _ _ _ _ _ _)
      | (with_reducible exact ih2 _ _ _ _ _ _ _)
      | (with_reducible exact ih3 _ _ _ _ _ _ _ _ _ _)
      | (with_reducible exact ih4 _ _ _ _ _ _ _ _ _ _ _ _ _)
      | (with_reducible exact ih5 _ _ _ _ _ _ _ _ _ _ _ _ _ _)
      | (with_reducible exact ih6 _ _ _ _ _ _ _ _ _ _ _)
      | (with_reducible exact ih7 _ _ _ _ _ _ _)
      | (with_reducible exact ih8 _ _ _ _ _ _)
      | (with_reducible exact ih9 _ _ _ _ _ _ _)
      | (with_reducible exact impl_CountByCounts.mono _ _)
      | (with_reducible exact impl_CountByHeight.mono _ _ _)
      | (with_reducible exact impl_CountByLeaves.mono _ _ _)
      | (with_reducible exact impl_CountsOfTree.mono _ _)
      | (with_reducible exact impl_TreesOf.mono _ _)
      | (with_reducible exact laws_likeInts.mono _ _ _)
      | (with_reducible exact laws_sum.mono _ _)
      | (with_reducible exact laws_trees9.mono _ _ _)
      | (with_reducible exact spec_CountByCounts.mono _ _)
      | (with_reducible exact spec_CountByHeight.mono _ _ _)
      | (with_reducible exact spec_CountByLeaves.mono _ _ _)
      | (with_reducible exact spec_CountByRoot.mono _ _ _)
      | (with_reducible exact spec_CountsOfTree.mono _ _)
      | (with_reducible exact spec_DrawCountByCounts.mono _ _)
      | (with_reducible exact spec_DrawCountByLeaves.mono _ _)
      | (with_reducible exact spec_DrawCountsOfTree.mono _ _)
      | (with_reducible exact spec_DrawTreesOf.mono _ _)
      | (with_reducible exact spec_TreesOf.mono _ _)
      | (with_reducible exact LeO.refl _)
      | (with_reducible exact LeO.none _)
      | (with_reducible refine LeO.ite ?_ ?_)
      | (with_reducible refine LeO.bind ?_ (fun _ => ?_))
      | exact ih0 _ _ _ _ _ _
      | exact ih1 _ _ _ _ _ _ _
      | exact ih2 _ _ _ _ _ _ _
      | exact ih3 _ _ _ _ _ _ _ _ _ _
      | exact ih4 _ _ _ _ _ _ _ _ _ _ _ _ _
      | exact ih5 _ _ _ _ _ _ _ _ _ _ _ _ _ _
      | exact ih6 _ _ _ _ _ _ _ _ _ _ _
      | exact ih7 _ _ _ _ _ _ _
      | exact ih8 _ _ _ _ _ _
      | exact ih9 _ _ _ _ _ _ _
      | exact impl_CountByCounts.mono _ _
      | exact impl_CountByHeight.mono _ _ _
      | exact impl_CountByLeaves.mono _ _ _
      | exact impl_CountsOfTree.mono _ _
      | exact impl_TreesOf.mono _ _
      | exact laws_likeInts.mono _ _ _
      | exact laws_sum.mono _ _
      | exact laws_trees9.mono _ _ _
      | exact spec_CountByCounts.mono _ _
      | exact spec_CountByHeight.mono _ _ _
      | exact spec_CountByLeaves.mono _ _ _
      | exact spec_CountByRoot.mono _ _ _
      | exact spec_CountsOfTree.mono _ _
      | exact spec_DrawCountByCounts.mono _ _
      | exact spec_DrawCountByLeaves.mono _ _
      | exact spec_DrawCountsOfTree.mono _ _
      | exact spec_DrawTreesOf.mono _ _
      | exact spec_TreesOf.mono _ _
      | exact LeO.none _
      | refine LeO.ite ?_ ?_
      | refine LeO.bind ?_ (fun _ => ?_)
    · intro y0 y1 y2 y3 y4 y5 y6
      unfold laws_FnTreeCounts.j1
      repeat' first
      | (with_reducible exact ih0 _ _ _ _ _ _)
      | (with_reducible exact ih1 _ _ _ _ _ _ _)
      | (with_reducible exact ih2 _ _ _ _ _ _ _)
      | (with_reducible exact ih3 _ _ _ _ _ _ _ _ _ _)
      | (with_reducible exact ih4 _ _ _ _ _ _ _ _ _ _ _ _ _)
      | (with_reducible exact ih5 _ _ _ _ _ _ _ _ _ _ _ _ _ _)
      | (with_reducible exact ih6 _ _ _ _ _ _ _ _ _ _ _)
      | (with_reducible exact ih7 _ _ _ _ _ _ _)
      | (with_reducible exact ih8 _ _ _ _ _ _)
      | (with_reducible exact ih9 _ _ _ _ _ _ _)
      | (with_reducible exact impl_CountByCounts.mono _ _)
      | (with_reducible exact impl_CountByHeight.mono _ _ _)
      | (with_reducible exact impl_CountByLeaves.mono _ _ _)
      | (with_reducible exact impl_CountsOfTree.mono _ _)
      | (with_reducible exact impl_TreesOf.mono _ _)
      | (with_reducible exact laws_likeInts.mono _ _ _)
      | (with_reducible exact laws_sum.mono _ _)
      | (with_reducible exact laws_trees9.mono _ _ _)
      | (with_reducible exact spec_CountByCounts.mono _ _)
      | (with_reducible exact spec_CountByHeight.mono _ _ _)
      | (with_reducible exact spec_CountByLeaves.mono _ _ _)
      | (with_reducible exact spec_CountByRoot.mono _ _ _)
      | (with_reducible exact spec_CountsOfTree.mono _ _)
      | (with_reducible exact spec_DrawCountByCounts.mono _ _)
      | (with_reducible exact spec_DrawCountByLeaves.mono _ _)
      | (with_reducible exact spec_DrawCountsOfTree.mono _ _)
      | (with_reducible exact spec_DrawTreesOf.mono _ _)
      | (with_reducible exact spec_TreesOf.mono _ _)
      | (with_reducible exact LeO.refl _)
      | (with_reducible exact LeO.none _)
      | (with_reducible refine LeO.ite ?_ ?_)
      | (with_reducible refine LeO.bind ?_ (fun _ => ?_))
      | exact ih0 _ _ _ _ _ _
      | exact ih1 _ _ _ _ _ _ _
      | exact ih2 _ _ _ _ _ _ _
      | exact ih3 _ _ _ _ _ _ _ _ _ _
      | exact ih4 _ _ _ _ _ _ _ _ _ _ _ _ _
      | exact ih5 _ _ _ _ _ _ _ _ _ _ _ _ _ _
      | exact ih6 _ _ _ _ _ _ _ _ _ _ _
      | exact ih7 _ _ _ _ _ _ _
      | exact ih8 _ _ _ _ _ _
      | exact ih9 _ _ _ _ _ _ _
      | exact impl_CountByCounts.mono _ _
      | exact impl_CountByHeight.mono _ _ _
      | exact impl_CountByLeaves.mono _ _ _
      | exact impl_CountsOfTree.mono _ _
      | exact impl_TreesOf.mono _ _
      | exact laws_likeInts.mono _ _ _
      | exact laws_sum.mono _ _
      | exact laws_trees9.mono _ _ _
      | exact spec_CountByCounts.mono _ _
      | exact spec_CountByHeight.mono _ _ _
      | exact spec_CountByLeaves.mono _ _ _
      | exact spec_CountByRoot.mono _ _ _
      | exact spec_CountsOfTree.mono _ _
      | exact spec_DrawCountByCounts.mono _ _
      | exact spec_DrawCountByLeaves.mono _ _
      | exact spec_DrawCountsOfTree.mono _ _
      | exact spec_DrawTreesOf.mono _ _
      | exact spec_TreesOf.mono _ _
      | exact LeO.none _
      | refine LeO.ite ?_ ?_
      | refine LeO.bind ?_ (fun _ => ?_)
    · intro y0 y1 y2 y3 y4 y5 y6
      unfold laws_FnTreeCounts.j2
      repeat' first
      | (with_reducible exact ih0 _ _ _ _ _ _)
      | (with_reducible exact ih1 _ _ _ _ _ _ _)
      | (with_reducible exact ih2 _ _ _ _ _ _ _)
      | (with_reducible exact ih3 _ _ _ _ _ _ _ _ _ _)
      | (with_reducible exact ih4 _ _ _ _ _ _ _ _ _ _ _ _ _)
      | (with_reducible exact ih5 _ _ _ _ _ _ _ _ _ _ _ _ _ _)
      | (with_reducible exact ih6 _ _ _ _ _ _ _ _ _ _ _)
      | (with_reducible exact ih7 _ _ _ _ _ _ _)
      | (with_reducible exact ih8 _ _ _ _ _ _)
      | (with_reducible exact ih9 _ _ _ _ _ _ _)
      | (with_reducible exact impl_CountByCounts.mono _ _)
      | (with_reducible exact impl_CountByHeight.mono _ _ _)
      | (with_reducible exact impl_CountByLeaves.mono _ _ _)
      | (with_reducible exact impl_CountsOfTree.mono _ _)
      | (with_reducible exact impl_TreesOf.mono _ _)
      | (with_reducible exact laws_likeInts.mono _ _ _)
      | (with_reducible exact laws_sum.mono _ _)
      | (with_reducible exact laws_trees9.mono _ _ _)
      | (with_reducible exact spec_CountByCounts.mono _ _)
      | (with_reducible exact spec_CountByHeight.mono _ _ _)
      | (with_reducible exact spec_CountByLeaves.mono _ _ _)
      | (with_reducible exact spec_CountByRoot.mono _ _ _)
      | (with_reducible exact spec_CountsOfTree.mono _ _)
      | (with_reducible exact spec_DrawCountByCounts.mono _ _)
      | (with_reducible exact spec_DrawCountByLeaves.mono _ _)
      | (with_reducible exact spec_DrawCountsOfTree.mono _ _)
      | (with_reducible exact spec_DrawTreesOf.mono _ _)
      | (with_reducible exact spec_TreesOf.mono _ _)
      | (with_reducible exact LeO.refl _)
      | (with_reducible exact LeO.none _)
      | (with_reducible refine LeO.ite ?_ ?_)
      | (with_reducible refine LeO.bind ?_ (fun _ => ?_))
      | exact ih0 _ _ _ _ _ _
      | exact ih1 _ _ _ _ _ _ _
      | exact ih2 _ _ _ _ _ _ _
      | exact ih3 _ _ _ _ _ _ _ _ _ _
      | exact ih4 _ _ _ _ _ _ _ _ _ _ _ _ _
      | exact ih5 _ _ _ _ _ _ _ _ _ _ _ _ _ _
      | exact ih6 _ _ _ _ _ _ _ _ _ _ _
      | exact ih7 _ _ _ _ _ _ _
      | exact ih8 _ _ _ _ _ _
      | exact ih9 _ _ _ _ _ _ _
      | exact impl_CountByCounts.mono _ _
      | exact impl_CountByHeight.mono _ _ _
      | exact impl_CountByLeaves.mono _ _ _
      | exact impl_CountsOfTree.mono _ _
      | exact impl_TreesOf.mono _ _
      | exact laws_likeInts.mono _ _ _
      | exact laws_sum.mono _ _
      | exact laws_trees9.mono _ _ _
      | exact spec_CountByCounts.mono _ _
      | exact spec_CountByHeight.mono _ _ _
      | exact spec_CountByLeaves.mono _ _ _
      | exact spec_CountByRoot.mono _ _ _
      | exact spec_CountsOfTree.mono _ _
      | exact spec_DrawCountByCounts.mono _ _
      | exact spec_DrawCountByLeaves.mono _ _
      | exact spec_DrawCountsOfTree.mono _ _
      | exact spec_DrawTreesOf.mono _ _
      | exact spec_TreesOf.mono _ _
      | exact LeO.none _
      | refine LeO.ite ?_ ?_
      | refine LeO.bind ?_ (fun _ => ?_)
    · intro y0 y1 y2 y3 y4 y5 y6 y7 y8 y9
      unfold laws_FnTreeCounts.j3
      repeat' first
      | (with_reducible exact ih0 _ _ _ _ _ _)
      | (with_reducible exact ih1 _ _ _ _ _ _ _)
      | (with_reducible exact ih2 _ _ _ _ _ _ _)
      | (with_reducible exact ih3 _ _ _ _ _ _ _ _ _ _)
      | (with_reducible exact ih4 _ _ _ _ _ _ _ _ _ _ _ _ _)
      | (with_reducible exact ih5 _ _ _ _ _ _ _ _ _ _ _ _ _ _)
      | (with_reducible exact ih6 _ _ _ _ _ _ _ _ _ _ _)
      | (with_reducible exact ih7 _ _ _ _ _ _ _)
      | (with_reducible exact ih8 _ _ _ _ _ _)
      | (with_reducible exact ih9 _ _ _ _ _ _ _)
      | (with_reducible exact impl_CountByCounts.mono _ _)
      | (with_reducible exact impl_CountByHeight.mono _ _ _)
      | (with_reducible exact impl_CountByLeaves.mono _ _ _)
      | (with_reducible exact impl_CountsOfTree.mono _ _)
      | (with_reducible exact impl_TreesOf.mono _ _)
      | (with_reducible exact laws_likeInts.mono _ _ _)
      | (with_reducible exact laws_sum.mono _ _)
      | (with_reducible exact laws_trees9.mono _ _ _)
      | (with_reducible exact spec_CountByCounts.mono _ _)
      | (with_reducible exact spec_CountByHeight.mono _ _ _)
      | (with_reducible exact spec_CountByLeaves.mono _ _ _)
      | (with_reducible exact spec_CountByRoot.mono _ _ _)
      | (with_reducible exact spec_CountsOfTree.mono _ _)
      | (with_reducible exact spec_DrawCountByCounts.mono _ _)
      | (with_reducible exact spec_DrawCountByLeaves.mono _ _)
      | (with_reducible exact spec_DrawCountsOfTree.mono _ _)
      | (with_reducible exact spec_DrawTreesOf.mono _ _)
      | (with_reducible exact spec_TreesOf.mono _ _)
      | (with_reducible exact LeO.refl _)
      | (with_reducible exact LeO.none _)
      | (with_reducible refine LeO.ite ?_ ?_)
      | (with_reducible refine LeO.bind ?_ (fun _ => ?_))
      | exact ih0 _ _ _ _ _ _
      | exact ih1 _ _ _ _ _ _ _
      | exact ih2 _ _ _ _ _ _ _
      | exact ih3 _ _ _ _ _ _ _ _ _ _
      | exact ih4 _ _ _ _ _ _ _ _ _ _ _ _ _
      | exact ih5 _ _ _ _ _ _ _ _ _ _ _ _ _ _
      | exact ih6 _ _ _ _ _ _ _ _ _ _ _
      | exact ih7 _ _ _ _ _ _ _
      | exact ih8 _ _ _ _ _ _
      | exact ih9 _ _ _ _ _ _ _
      | exact impl_CountByCounts.mono _ _
      | exact impl_CountByHeight.mono _ _ _
      | exact impl_CountByLeaves.mono _ _ _
      | exact impl_CountsOfTree.mono _ _
      | exact impl_TreesOf.mono _ _
      | exact laws_likeInts.mono _ _ _
      | exact laws_sum.mono _ _
      | exact laws_trees9.mono _ _ _
      | exact spec_CountByCounts.mono _ _
      | exact spec_CountByHeight.mono _ _ _
      | exact spec_CountByLeaves.mono _ _ _
      | exact spec_CountByRoot.mono _ _ _
      | exact spec_CountsOfTree.mono _ _
      | exact spec_DrawCountByCounts.mono _ _
      | exact spec_DrawCountByLeaves.mono _ _
      | exact spec_DrawCountsOfTree.mono _ _
      | exact spec_DrawTreesOf.mono _ _
      | exact spec_TreesOf.mono _ _
      | exact LeO.none _
      | refine LeO.ite ?_ ?_
      | refine LeO.bind ?_ (fun _ => ?_)
    · intro y0 y1 y2 y3 y4 y5 y6 y7 y8 y9 y10 y11 y12
      unfold laws_FnTreeCounts.j4
      repeat' first
      | (with_reducible exact ih0 _ _ _ _ _ _)
      | (with_reducible exact ih1 _ _ _ _ _ _ _)
      | (with_reducible exact ih2 _ _ _ _ _ _ _)
      | (with_reducible exact ih3 _ _ _ _ _ _ _ _ _ _)
      | (with_reducible exact ih4 _ _ _ _ _ _ _ _ _ _ _ _ _)
      | (with_reducible exact ih5 _ _ _ _ _ _ _ _ _ _ _ _ _ _)
      | (with_reducible exact ih6 _ _ _ _ _ _ _ _ _ _ _)
      | (with_reducible exact ih7 _ _ _ _ _ _ _)
      | (with_reducible exact ih8 _ _ _ _ _ _)
      | (with_reducible exact ih9 _ _ _ _ _ _ _)
      | (with_reducible exact impl_CountByCounts.mono _ _)
      | (with_reducible exact impl_CountByHeight.mono _ _ _)
      | (with_reducible exact impl_CountByLeaves.mono _ _ _)
      | (with_reducible exact impl_CountsOfTree.mono _ _)
      | (with_reducible exact impl_TreesOf.mono _ _)
      | (with_reducible exact laws_likeInts.mono _ _ _)
      | (with_reducible exact laws_sum.mono _ _)
      | (with_reducible exact laws_trees9.mono _ _ _)
      | (with_reducible exact spec_CountByCounts.mono _ _)
      | (with_reducible exact spec_CountByHeight.mono _ _ _)
      | (with_reducible exact spec_CountByLeaves.mono _ _ _)
      | (with_reducible exact spec_CountByRoot.mono _ _ _)
      | (with_reducible exact spec_CountsOfTree.mono _ _)
      | (with_reducible exact spec_DrawCountByCounts.mono _ _)
      | (with_reducible exact spec_DrawCountByLeaves.mono _ _)
      | (with_reducible exact spec_DrawCountsOfTree.mono _ _)
      | (with_reducible exact spec_DrawTreesOf.mono _ _)
      | (with_reducible exact spec_TreesOf.mono _ _)
      | (with_reducible exact LeO.refl _)
      | (with_reducible exact LeO.none _)
      | (with_reducible refine LeO.ite ?_ ?_)
      | (with_reducible refine LeO.bind ?_ (fun _ => ?_))
      | exact ih0 _ _ _ _ _ _
      | exact ih1 _ _ _ _ _ _ _
      | exact ih2 _ _ _ _ _ _ _
      | exact ih3 _ _ _ _ _ _ _ _ _ _
      | exact ih4 _ _ _ _ _ _ _ _ _ _ _ _ _
      | exact ih5 _ _ _ _ _ _ _ _ _ _ _ _ _ _
      | exact ih6 _ _ _ _ _ _ _ _ _ _ _
      | exact ih7 _ _ _ _ _ _ _
      | exact ih8 _ _ _ _ _ _
      | exact ih9 _ _ _ _ _ _ _
      | exact impl_CountByCounts.mono _ _
      | exact impl_CountByHeight.mono _ _ _
      | exact impl_CountByLeaves.mono _ _ _
      | exact impl_CountsOfTree.mono _ _
      | exact impl_TreesOf.mono _ _
      | exact laws_likeInts.mono _ _ _
      | exact laws_sum.mono _ _
      | exact laws_trees9.mono _ _ _
      | exact spec_CountByCounts.mono _ _
      | exact spec_CountByHeight.mono _ _ _
      | exact spec_CountByLeaves.mono _ _ _
      | exact spec_CountByRoot.mono _ _ _
      | exact spec_CountsOfTree.mono _ _
      | exact spec_DrawCountByCounts.mono _ _
      | exact spec_DrawCountByLeaves.mono _ _
      | exact spec_DrawCountsOfTree.mono _ _
      | exact spec_DrawTreesOf.mono _ _
      | exact spec_TreesOf.mono _ _
      | exact LeO.none _
      | refine LeO.ite ?_ ?_
      | refine LeO.bind ?_ (fun _ => ?_)
    · intro y0 y1 y2 y3 y4 y5 y6 y7 y8 y9 y10 y11 y12 y13
      unfold laws_FnTreeCounts.j5
      repeat' first
      | (with_reducible exact ih0 _ _ _ _ _ _)
      | (with_reducible exact ih1 _ _ _ _ _ _ _)
      | (with_reducible exact ih2 _ _ _ _ _ _ _)
      | (with_reducible exact ih3 _ _ _ _ _ _ _ _ _ _)
      | (with_reducible exact ih4 _ _ _ _ _ _ _ _ _ _ _ _ _)
      | (with_reducible exact ih5 _ _ _ _ _ _ _ _ _ _ _ _ _ _)
      | (with_reducible exact ih6 _ _ _ _ _ _ _ _ _ _ _)
      | (with_reducible exact ih7 _ _ _ _ _ _ _)
      | (with_reducible exact ih8 _ _ _ _ _ _)
      | (with_reducible exact ih9 _ _ _ _ _ _ _)
      | (with_reducible exact impl_CountByCounts.mono _ _)
      | (with_reducible exact impl_CountByHeight.mono _ _ _)
      | (with_reducible exact impl_CountByLeaves.mono _ _ _)
      | (with_reducible exact impl_CountsOfTree.mono _ _)
      | (with_reducible exact impl_TreesOf.mono _ _)
      | (with_reducible exact laws_likeInts.mono _ _ _)
      | (with_reducible exact laws_sum.mono _ _)
      | (with_reducible exact laws_trees9.mono _ _ _)
      | (with_reducible exact spec_CountByCounts.mono _ _)
      | (with_reducible exact spec_CountByHeight.mono _ _ _)
      | (with_reducible exact spec_CountByLeaves.mono _ _ _)
      | (with_reducible exact spec_CountByRoot.mono _ _ _)
      | (with_reducible exact spec_CountsOfTree.mono _ _)
      | (with_reducible exact spec_DrawCountByCounts.mono _ _)
      | (with_reducible exact spec_DrawCountByLeaves.mono _ _)
      | (with_reducible exact spec_DrawCountsOfTree.mono _ _)
      | (with_reducible exact spec_DrawTreesOf.mono _ _)
      | (with_reducible exact spec_TreesOf.mono _ _)
      | (with_reducible exact LeO.refl _)
      | (with_reducible exact LeO.none _)
      | (with_reducible refine LeO.ite ?_ ?_)
      | (with_reducible refine LeO.bind ?_ (fun _ => ?_))
      | exact ih0 _ _ _ _ _ _
      | exact ih1 _ _ _ _ _ _ _
      | exact ih2 _ _ _ _ _ _ _
      | exact ih3 _ _ _ _ _ _ _ _ _ _
      | exact ih4 _ _ _ _ _ _ _ _ _ _ _ _ _
      | exact ih5 _ _ _ _ _ _ _ _ _ _ _ _ _ _
      | exact ih6 _ _ _ _ _ _ _ _ _ _ _
      | exact ih7 _ _ _ _ _ _ _
      | exact ih8 _ _ _ _ _ _
      | exact ih9 _ _ _ _ _ _ _
      | exact impl_CountByCounts.mono _ _
      | exact impl_CountByHeight.mono _ _ _
      | exact impl_CountByLeaves.mono _ _ _
      | exact impl_CountsOfTree.mono _ _
      | exact impl_TreesOf.mono _ _
      | exact laws_likeInts.mono _ _ _
      | exact laws_sum.mono _ _
      | exact laws_trees9.mono _ _ _
      | exact spec_CountByCounts.mono _ _
      | exact spec_CountByHeight.mono _ _ _
      | exact spec_CountByLeaves.mono _ _ _
      | exact spec_CountByRoot.mono _ _ _
      | exact spec_CountsOfTree.mono _ _
      | exact spec_DrawCountByCounts.mono _ _
      | exact spec_DrawCountByLeaves.mono _ _
      | exact spec_DrawCountsOfTree.mono _ _
      | exact spec_DrawTreesOf.mono _ _
      | exact spec_TreesOf.mono _ _
      | exact LeO.none _
      | refine LeO.ite ?_ ?_
      | refine LeO.bind ?_ (fun _ => ?_)
    · intro y0 y1 y2 y3 y4 y5 y6 y7 y8 y9 y10
      unfold laws_FnTreeCounts.j6
      repeat' first
      | (with_reducible exact ih0 _ _ _ _ _ _)
      | (with_reducible exact ih1 _ _ _ _ _ _ _)
      | (with_reducible exact ih2 _ _ _ _ _ _ _)
      | (with_reducible exact ih3 _ _ _ _ _ _ _ _ _ _)
      | (with_reducible exact ih4 _ _ _ _ _ _ _ _ _ _ _ _ _)
      | (with_reducible exact ih5 _ _ _ _ _ _ _ _ _ _ _ _ _ _)
      | (with_reducible exact ih6 _ _ _ _ _ _ _ _ _ _ _)
      | (with_reducible exact ih7 _ _ _ _ _ _ _)
      | (with_reducible exact ih8 _ _ _ _ _ _)
      | (with_reducible exact ih9 _ _ _ _ _ _ _)
      | (with_reducible exact impl_CountByCounts.mono _ _)
      | (with_reducible exact impl_CountByHeight.mono _ _ _)
      | (with_reducible exact impl_CountByLeaves.mono _ _ _)
      | (with_reducible exact impl_CountsOfTree.mono _ _)
      | (with_reducible exact impl_TreesOf.mono _ _)
      | (with_reducible exact laws_likeInts.mono _ _ _)
      | (with_reducible exact laws_sum.mono _ _)
      | (with_reducible exact laws_trees9.mono _ _ _)
      | (with_reducible exact spec_CountByCounts.mono _ _)
      | (with_reducible exact spec_CountByHeight.mono _ _ _)
      | (with_reducible exact spec_CountByLeaves.mono _ _ _)
      | (with_reducible exact spec_CountByRoot.mono _ _ _)
      | (with_reducible exact spec_CountsOfTree.mono _ _)
      | (with_reducible exact spec_DrawCountByCounts.mono _ _)
      | (with_reducible exact spec_DrawCountByLeaves.mono _ _)
      | (with_reducible exact spec_DrawCountsOfTree.mono _ _)
      | (with_reducible exact spec_DrawTreesOf.mono _ _)
      | (with_reducible exact spec_TreesOf.mono _ _)
      | (with_reducible exact LeO.refl _)
      | (with_reducible exact LeO.none _)
      | (with_reducible refine LeO.ite ?_ ?_)
      | (with_reducible refine LeO.bind ?_ (fun _ => ?_))
      | exact ih0 _ _ _ _ _ _
      | exact ih1 _ _ _ _ _ _ _
      | exact ih2 _ _ _ _ _ _ _
      | exact ih3 _ _ _ _ _ _ _ _ _ _
      | exact ih4 _ _ _ _ _ _ _ _ _ _ _ _ _
      | exact ih5 _ _ _ _ _ _ _ _ _ _ _ _ _ _
      | exact ih6 _ _ _ _ _ _ _ _ _ _ _
      | exact ih7 _ _ _ _ _ _ _
      | exact ih8 _ _ _ _ _ _
      | exact ih9 _ _ _ _ _ _ _
      | exact impl_CountByCounts.mono _ _
      | exact impl_CountByHeight.mono _ _ _
      | exact impl_CountByLeaves.mono _ _ _
      | exact impl_CountsOfTree.mono _ _
      | exact impl_TreesOf.mono _ _
      | exact laws_likeInts.mono _ _ _
      | exact laws_sum.mono _ _
      | exact laws_trees9.mono _ _ _
      | exact spec_CountByCounts.mono _ _
      | exact spec_CountByHeight.mono _ _ _
      | exact spec_CountByLeaves.mono _ _ _
      | exact spec_CountByRoot.mono _ _ _
      | exact spec_CountsOfTree.mono _ _
      | exact spec_DrawCountByCounts.mono _ _
      | exact spec_DrawCountByLeaves.mono _ _
      | exact spec_DrawCountsOfTree.mono _ _
      | exact spec_DrawTreesOf.mono _ _
      | exact spec_TreesOf.mono _ _
      | exact LeO.none _
      | refine LeO.ite ?_ ?_
      | refine LeO.bind ?_ (fun _ => ?_)
    · intro y0 y1 y2 y3 y4 y5 y6
      unfold laws_FnTreeCounts.j7
      repeat' first
      | (with_reducible exact ih0 _ _ _ _ _ _)
      | (with_reducible exact ih1 _ _ _ _ _ _ _)
      | (with_reducible exact ih2 _ _ _ _ _ _ _)
      | (with_reducible exact ih3 _ _ _ _ _ _ _ _ _ _)
      | (with_reducible exact ih4 _ _ _ _ _ _ _ _ _ _ _ _ _)
      | (with_reducible exact ih5 _ _ _ _ _ _ _ _ _ _ _ _ _ _)
      | (with_reducible exact ih6 _ _ _ _ _ _ _ _ _ _ _)
      | (with_reducible exact ih7 _ _ _ _ _ _ _)
      | (with_reducible exact ih8 _ _ _ _ _ _)
      | (with_reducible exact ih9 _ _ _ _ _ _ _)
      | (with_reducible exact impl_CountByCounts.mono _ _)
      | (with_reducible exact impl_CountByHeight.mono _ _ _)
      | (with_reducible exact impl_CountByLeaves.mono _ _ _)
      | (with_reducible exact impl_CountsOfTree.mono _ _)
      | (with_reducible exact impl_TreesOf.mono _ _)
      | (with_reducible exact laws_likeInts.mono _ _ _)
      | (with_reducible exact laws_sum.mono _ _)
      | (with_reducible exact laws_trees9.mono _ _ _)
      | (with_reducible exact spec_CountByCounts.mono _ _)
      | (with_reducible exact spec_CountByHeight.mono _ _ _)
      | (with_reducible exact spec_CountByLeaves.mono _ _ _)
      | (with_reducible exact spec_CountByRoot.mono _ _ _)
      | (with_reducible exact spec_CountsOfTree.mono _ _)
      | (with_reducible exact spec_DrawCountByCounts.mono _ _)
      | (with_reducible exact spec_DrawCountByLeaves.mono _ _)
      | (with_reducible exact spec_DrawCountsOfTree.mono _ _)
      | (with_reducible exact spec_DrawTreesOf.mono _ _)
      | (with_reducible exact spec_TreesOf.mono _ _)
      | (with_reducible exact LeO.refl _)
      | (with_reducible exact LeO.none _)
      | (with_reducible refine LeO.ite ?_ ?_)
      | (with_reducible refine LeO.bind ?_ (fun _ => ?_))
      | exact ih0 _ _ _ _ _ _
      | exact ih1 _ _ _ _ _ _ _
      | exact ih2 _ _ _ _ _ _ _
      | exact ih3 _ _ _ _ _ _ _ _ _ _
      | exact ih4 _ _ _ _ _ _ _ _ _ _ _ _ _
      | exact ih5 _ _ _ _ _ _ _ _ _ _ _ _ _ _
      | exact ih6 _ _ _ _ _ _ _ _ _ _ _
      | exact ih7 _ _ _ _ _ _ _
      | exact ih8 _ _ _ _ _ _
      | exact ih9 _ _ _ _ _ _ _
      | exact impl_CountByCounts.mono _ _
      | exact impl_CountByHeight.mono _ _ _
      | exact impl_CountByLeaves.mono _ _ _
      | exact impl_CountsOfTree.mono _ _
      | exact impl_TreesOf.mono _ _
      | exact laws_likeInts.mono _ _ _
      | exact laws_sum.mono _ _
      | exact laws_trees9.mono _ _ _
      | exact spec_CountByCounts.mono _ _
      | exact spec_CountByHeight.mono _ _ _
      | exact spec_CountByLeaves.mono _ _ _
      | exact spec_CountByRoot.mono _ _ _
      | exact spec_CountsOfTree.mono _ _
      | exact spec_DrawCountByCounts.mono _ _
      | exact spec_DrawCountByLeaves.mono _ _
      | exact spec_DrawCountsOfTree.mono _ _
      | exact spec_DrawTreesOf.mono _ _
      | exact spec_TreesOf.mono _ _
      | exact LeO.none _
      | refine LeO.ite ?_ ?_
      | refine LeO.bind ?_ (fun _ => ?_)
    · intro y0 y1 y2 y3 y4 y5
      unfold laws_FnTreeCounts.j8
      repeat' first
      | (with_reducible exact ih0 _ _ _ _ _ _)
      | (with_reducible exact ih1 _ _ _ _ _ _ _)
      | (with_reducible exact ih2 _ _ _ _ _ _ _)
      | (with_reducible exact ih3 _ _ _ _ _ _ _ _ _ _)
      | (with_reducible exact ih4 _ _ _ _ _ _ _ _ _ _ _ _ _)
      | (with_reducible exact ih5 _ _ _ _ _ _ _ _ _ _ _ _ _ _)
      | (with_reducible exact ih6 _ _ _ _ _ _ _ _ _ _ _)
      | (with_reducible exact ih7 _ _ _ _ _ _ _)
      | (with_reducible exact ih8 _ _ _ _ _ _)
      | (with_reducible exact ih9 _ _ _ _ _ _ _)
      | (with_reducible exact impl_CountByCounts.mono _ _)
      | (with_reducible exact impl_CountByHeight.mono _ _ _)
      | (with_reducible exact impl_CountByLeaves.mono _ _ _)
      | (with_reducible exact impl_CountsOfTree.mono _ _)
      | (with_reducible exact impl_TreesOf.mono _ _)
      | (with_reducible exact laws_likeInts.mono _ _ _)
      | (with_reducible exact laws_sum.mono _ _)
      | (with_reducible exact laws_trees9.mono _ _ _)
      | (with_reducible exact spec_CountByCounts.mono _ _)
      | (with_reducible exact spec_CountByHeight.mono _ _ _)
      | (with_reducible exact spec_CountByLeaves.mono _ _ _)
      | (with_reducible exact spec_CountByRoot.mono _ _ _)
      | (with_reducible exact spec_CountsOfTree.mono _ _)
      | (with_reducible exact spec_DrawCountByCounts.mono _ _)
      | (with_reducible exact spec_DrawCountByLeaves.mono _ _)
      | (with_reducible exact spec_DrawCountsOfTree.mono _ _)
      | (with_reducible exact spec_DrawTreesOf.mono _ _)
      | (with_reducible exact spec_TreesOf.mono _ _)
      | (with_reducible exact LeO.refl _)
      | (with_reducible exact LeO.none _)
      | (with_reducible refine LeO.ite ?_ ?_)
      | (with_reducible refine LeO.bind ?_ (fun _ => ?_))
      | exact ih0 _ _ _ _ _ _
      | exact ih1 _ _ _ _ _ _ _
      | exact ih2 _ _ _ _ _ _ _
      | exact ih3 _ _ _ _ _ _ _ _ _ _
      | exact ih4 _ _ _ _ _ _ _ _ _ _ _ _ _
      | exact ih5 _ _ _ _ _ _ _ _ _ _ _ _ _ _
      | exact ih6 _ _ _ _ _ _ _ _ _ _ _
      | exact ih7 _ _ _ _ _ _ _
      | exact ih8 _ _ _ _ _ _
      | exact ih9 _ _ _ _ _ _ _
      | exact impl_CountByCounts.mono _ _
      | exact impl_CountByHeight.mono _ _ _
      | exact impl_CountByLeaves.mono _ _ _
      | exact impl_CountsOfTree.mono _ _
      | exact impl_TreesOf.mono _ _
      | exact laws_likeInts.mono _ _ _
      | exact laws_sum.mono _ _
      | exact laws_trees9.mono _ _ _
      | exact spec_CountByCounts.mono _ _
      | exact spec_CountByHeight.mono _ _ _
      | exact spec_CountByLeaves.mono _ _ _
      | exact spec_CountByRoot.mono _ _ _
      | exact spec_CountsOfTree.mono _ _
      | exact spec_DrawCountByCounts.mono _ _
      | exact spec_DrawCountByLeaves.mono _ _
      | exact spec_DrawCountsOfTree.mono _ _
      | exact spec_DrawTreesOf.mono _ _
      | exact spec_TreesOf.mono _ _
      | exact LeO.none _
      | refine LeO.ite ?_ ?_
      | refine LeO.bind ?_ (fun _ => ?_)
    · intro y0 y1 y2 y3 y4 y5 y6
      unfold laws_FnTreeCounts.l0
      repeat' first
      | (with_reducible exact ih0 _ _ _ _ _ _)
      | (with_reducible exact ih1 _ _ _ _ _ _ _)
      | (with_reducible exact ih2 _ _ _ _ _ _ _)
      | (with_reducible exact ih3 _ _ _ _ _ _ _ _ _ _)
      | (with_reducible exact ih4 _ _ _ _ _ _ _ _ _ _ _ _ _)
      | (with_reducible exact ih5 _ _ _ _ _ _ _ _ _ _ _ _ _ _)
      | (with_reducible exact ih6 _ _ _ _ _ _ _ _ _ _ _)
      | (with_reducible exact ih7 _ _ _ _ _ _ _)
      | (with_reducible exact ih8 _ _ _ _ _ _)
      | (with_reducible exact ih9 _ _ _ _ _ _ _)
      | (with_reducible exact impl_CountByCounts.mono _ _)
      | (with_reducible exact impl_CountByHeight.mono _ _ _)
      | (with_reducible exact impl_CountByLeaves.mono _ _ _)
      | (with_reducible exact impl_CountsOfTree.mono _ _)
      | (with_reducible exact impl_TreesOf.mono _ _)
      | (with_reducible exact laws_likeInts.mono _ _ _)
      | (with_reducible exact laws_sum.mono _ _)
      | (with_reducible exact laws_trees9.mono _ _ _)
      | (with_reducible exact spec_CountByCounts.mono _ _)
      | (with_reducible exact spec_CountByHeight.mono _ _ _)
      | (with_reducible exact spec_CountByLeaves.mono _ _ _)
      | (with_reducible exact spec_CountByRoot.mono _ _ _)
      | (with_reducible exact spec_CountsOfTree.mono _ _)
      | (with_reducible exact spec_DrawCountByCounts.mono _ _)
      | (with_reducible exact spec_DrawCountByLeaves.mono _ _)
      | (with_reducible exact spec_DrawCountsOfTree.mono _ _)
      | (with_reducible exact spec_DrawTreesOf.mono _ _)
      | (with_reducible exact spec_TreesOf.mono _ _)
      | (with_reducible exact LeO.refl _)
      | (with_reducible exact LeO.none _)
      | (with_reducible refine LeO.ite ?_ ?_)
      | (with_reducible refine LeO.bind ?_ (fun _ => ?_))
      | exact ih0 _ _ _ _ _ _
      | exact ih1 _ _ _ _ _ _ _
      | exact ih2 _ _ _ _ _ _ _
      | exact ih3 _ _ _ _ _ _ _ _ _ _
      | exact ih4 _ _ _ _ _ _ _ _ _ _ _ _ _
      | exact ih5 _ _ _ _ _ _ _ _ _ _ _ _ _ _
      | exact ih6 _ _ _ _ _ _ _ _ _ _ _
      | exact ih7 _ _ _ _ _ _ _
      | exact ih8 _ _ _ _ _ _
      | exact ih9 _ _ _ _ _ _ _
      | exact impl_CountByCounts.mono _ _
      | exact impl_CountByHeight.mono _ _ _
      | exact impl_CountByLeaves.mono _ _ _
      | exact impl_CountsOfTree.mono _ _
      | exact impl_TreesOf.mono _ _
      | exact laws_likeInts.mono _ _ _
      | exact laws_sum.mono _ _
      | exact laws_trees9.mono _ _ _
      | exact spec_CountByCounts.mono _ _
      | exact spec_CountByHeight.mono _ _ _
      | exact spec_CountByLeaves.mono _ _ _
      | exact spec_CountByRoot.mono _ _ _
      | exact spec_CountsOfTree.mono _ _
      | exact spec_DrawCountByCounts.mono _ _
      | exact spec_DrawCountByLeaves.mono _ _
      | exact spec_DrawCountsOfTree.mono _ _
      | exact spec_DrawTreesOf.mono _ _
      | exact spec_TreesOf.mono _ _
      | exact LeO.none _
      | refine LeO.ite ?_ ?_
      | refine LeO.bind ?_ (fun _ => ?_)
theorem laws_FnTreeCounts.mono : ∀ a0 k, LeO (laws_FnTreeCounts.f k a0) (laws_FnTreeCounts.f (k + 1) a0) := by
  intro a0 k
  obtain ⟨ih0, ih1, ih2, ih3, ih4, ih5, ih6, ih7, ih8, ih9⟩ := laws_FnTreeCounts.mono_l k
  unfold laws_FnTreeCounts.f
  repeat' first
      | (with_reducible exact ih0 _ _ _ _ _ _)
      | (with_reducible exact ih1 _ _ _ _ _ _ _)
      | (with_reducible exact ih2 _ _ _ _ _ _ _)
      | (with_reducible exact ih3 _ _ _ _ _ _ _ _ _ _)
      | (with_reducible exact ih4 _ _ _ _ _ _ _ _ _ _ _ _ _)
      | (with_reducible exact ih5 _ _ _ _ _ _ _ _ _ _ _ _ _ _)
      | (with_reducible exact ih6 _ _ _ _ _ _ _ _ _ _ _)
      | (with_reducible exact ih7 _ _ _ _ _ _ _)
      | (with_reducible exact ih8 _ _ _ _ _ _)
      | (with_reducible exact ih9 _ _ _ _ _ _ _)
      | (with_reducible exact impl_CountByCounts.mono _ _)
      | (with_reducible exact impl_CountByHeight.mono _ _ _)
      | (with_reducible exact impl_CountByLeaves.mono _ _ _)
      | (with_reducible exact impl_CountsOfTree.mono _ _)
      | (with_reducible exact impl_TreesOf.mono _ _)
      | (with_reducible exact laws_likeInts.mono _ _ _)
      | (with_reducible exact laws_sum.mono _ _)
      | (with_reducible exact laws_trees9.mono _ _ _)
      | (with_reducible exact spec_CountByCounts.mono _ _)
      | (with_reducible exact spec_CountByHeight.mono _ _ _)
      | (with_reducible exact spec_CountByLeaves.mono _ _ _)
      | (with_reducible exact spec_CountByRoot.mono _ _ _)
      | (with_reducible exact spec_CountsOfTree.mono _ _)
      | (with_reducible exact spec_DrawCountByCounts.mono _ _)
      | (with_reducible exact spec_DrawCountByLeaves.mono _ _)
      | (with_reducible exact spec_DrawCountsOfTree.mono _ _)
      | (with_reducible exact spec_DrawTreesOf.mono _ _)
      | (with_reducible exact spec_TreesOf.mono _ _)
      | (with_reducible exact LeO.refl _)
      | (with_reducible exact LeO.none _)
      | (with_reducible refine LeO.ite ?_ ?_)
      | (with_reducible refine LeO.bind ?_ (fun _ => ?_))
      | exact ih0 _ _ _ _ _ _
      | exact ih1 _ _ _ _ _ _ _
      | exact ih2 _ _ _ _ _ _ _
      | exact ih3 _ _ _ _ _ _ _ _ _ _
      | exact ih4 _ _ _ _ _ _ _ _ _ _ _ _ _
      | exact ih5 _ _ _ _ _ _ _ _ _ _ _ _ _ _
      | exact ih6 _ _ _ _ _ _ _ _ _ _ _
      | exact ih7 _ _ _ _ _ _ _
      | exact ih8 _ _ _ _ _ _
      | exact ih9 _ _ _ _ _ _ _
      | exact impl_CountByCounts.mono _ _
      | exact impl_CountByHeight.mono _ _ _
      | exact impl_CountByLeaves.mono _ _ _
      | exact impl_CountsOfTree.mono _ _
      | exact impl_TreesOf.mono _ _
      | exact laws_likeInts.mono _ _ _
      | exact laws_sum.mono _ _
      | exact laws_trees9.mono _ _ _
      | exact spec_CountByCounts.mono _ _
      | exact spec_CountByHeight.mono _ _ _
      | exact spec_CountByLeaves.mono _ _ _
      | exact spec_CountByRoot.mono _ _ _
      | exact spec_CountsOfTree.mono _ _
      | exact spec_DrawCountByCounts.mono _ _
      | exact spec_DrawCountByLeaves.mono _ _
      | exact spec_DrawCountsOfTree.mono _ _
      | exact spec_DrawTreesOf.mono _ _
      | exact spec_TreesOf.mono _ _
      | exact LeO.none _
      | refine LeO.ite ?_ ?_
      | refine LeO.bind ?_ (fun _ => ?_)
theorem laws_FnTreeCounts.Z0 {p : Prop} (h : p := by (with_reducible repeat (first | apply Kd.S_alloc | apply Kd.S_drewN | apply Kd.S_drew)); exact (Kd.S_mono (Kd.S_far (p := ⟨gb548, 0, none⟩) (Kd.S_mono HO_18.out (fun k_ hk => (⟨hk, hk.2⟩ : _ ∧ k_ ≠ gb548))) (fun _ hk => hk.2) (.slice Ao45 t545.length co45)) (fun _ h_ => h_.1))) : p := h
theorem laws_FnTreeCounts.Z1 {p : Prop} (h : p := by (with_reducible repeat (first | refine blk_drewN ?_ _ | refine blk_drew ?_ | refine blk_alloc ?_ _)); refine blk_put (cs := #[.slice none 0 0]) ?_ 0 _ rfl; (with_reducible repeat (first | refine blk_drewN ?_ _ | refine blk_drew ?_ | refine blk_alloc ?_ _)); exact BK548.out) : p := h
theorem laws_FnTreeCounts.Z2 {p : Prop} (h : p := by (with_reducible repeat (first | apply Kd.R_alloc | apply Kd.R_drewN | apply Kd.R_drew)); exact (Kd.R_mono (Kd.R_far (p := ⟨gb548, 0, none⟩) (Kd.R_types HO547.out BK548.out (by decide)) (fun _ hk => hk.2) (.slice Ao45 t545.length co45)) (fun _ h_ => h_.1))) : p := h
theorem laws_FnTreeCounts.Z3 {p : Prop} (h : p := by (with_reducible repeat (first | apply Kd.S_alloc | apply Kd.S_drewN | apply Kd.S_drew)); exact HO543.out) : p := h
theorem laws_FnTreeCounts.Z4 {p : Prop} (h : p := by (with_reducible repeat (first | apply Kd.S_alloc | apply Kd.S_drewN | apply Kd.S_drew)); exact HO539.out) : p := h
theorem laws_FnTreeCounts.Z5 {p : Prop} (h : p := by (with_reducible repeat (first | apply Kd.S_alloc | apply Kd.S_drewN | apply Kd.S_drew)); exact HO_18.out) : p := h
theorem laws_FnTreeCounts.Z6 {p : Prop} (h : p := by first | rfl | (simp; done) | (simp [*]; done)) : p := h
set_option maxHeartbeats 8000000 in
set_option maxRecDepth 100000 in
theorem laws_FnTreeCounts.calls (k : Nat) (A0 : Option Addr) (c0 : Nat) (l0 : List Int) (r : Bool) (w : World) (hr0 : Kd.C (Kd.int .u8) w A0 l0.length l0) (hc0 : l0.length ≤ c0) (h : laws_FnTreeCounts.f k l0 = some r) :
  Calls Try.prog 5 #[.slice A0 l0.length c0] w fun e w' => e = .returned (.bool r) ∧ Below w.heap.size w w' := by
 have hu26 := Try.underlying26
 have HR0 := A_ hr0
 have HC0 := A_ hc0
 clear hr0 hc0
 have HB := A_ (Below.refl w.heap.size w)
 have H : ((laws_big.f l0).bind fun t520 => (if t520 = true then (some true) else ((spec_DrawCountByLeaves.f k l0).bind fun bt521 => ((impl_CountByLeaves.f k bt521.1 bt521.2).bind fun bt523 => ((spec_CountByLeaves.f k bt521.1 bt521.2).bind fun bt525 => (if bt523.2 = bt525.2 then (laws_FnTreeCounts.j0 k l0 bt521.1 bt521.2 bt523.1 bt523.2 (bt523.1 != bt525.1)) else (laws_FnTreeCounts.j0 k l0 bt521.1 bt521.2 bt523.1 bt523.2 true))))))) = some r := h
 clear h
 replace H := Option.bind_eq_some_iff.mp H
 obtain ⟨t520, A20, H⟩ := H
 replace H : (if t520 = true then (some true) else ((spec_DrawCountByLeaves.f k l0).bind fun bt521 => ((impl_CountByLeaves.f k bt521.1 bt521.2).bind fun bt523 => ((spec_CountByLeaves.f k bt521.1 bt521.2).bind fun bt525 => (if bt523.2 = bt525.2 then (laws_FnTreeCounts.j0 k l0 bt521.1 bt521.2 bt523.1 bt523.2 (bt523.1 != bt525.1)) else (laws_FnTreeCounts.j0 k l0 bt521.1 bt521.2 bt523.1 bt523.2 true)))))) = some r := H
 have A2 := A_ A20
 clear A20
 by_cases c3 : t520 = true
 ·subst c3
  have H1 : (some true) = some r := by rw [if_pos rfl] at H; exact H
  clear H
  have H := H1
  clear H1
  obtain rfl := Option.some.inj H
  go_enter Try.func5, Try.ntmps5
  go_wp2_with (first | (go_at_call 7; (with_reducible refine (laws_big.calls _ _ l0 true _ ?side1 ?side2 A2.out).mono ?_); (case side1 => repeat (first | exact HR0.out | (with_reducible refine Kd.C_alloc ?_ _) | (with_reducible refine Kd.C_drewN ?_ _) | (with_reducible refine Kd.C_drew ?_))); (case side2 => exact HC0.out); rintro e w' ⟨rfl, ⟨nd, rfl⟩⟩; (try first | exact ⟨rfl, _, World.drewN_drewN _ _ _⟩ | exact ⟨rfl, _, Eq.trans (World.drewN_drewN _ _ _) (congrArg (World.drewN _) (Nat.add_assoc _ _ _))⟩)))
  repeat (go_quiet (first | (go_at_call 7; (with_reducible refine (laws_big.calls _ _ l0 true _ ?side1 ?side2 A2.out).mono ?_); (case side1 => repeat (first | exact HR0.out | (with_reducible refine Kd.C_alloc ?_ _) | (with_reducible refine Kd.C_drewN ?_ _) | (with_reducible refine Kd.C_drew ?_))); (case side2 => exact HC0.out); rintro e w' ⟨rfl, ⟨nd, rfl⟩⟩; (try first | exact ⟨rfl, _, World.drewN_drewN _ _ _⟩ | exact ⟨rfl, _, Eq.trans (World.drewN_drewN _ _ _) (congrArg (World.drewN _) (Nat.add_assoc _ _ _))⟩))); try go_wp2_with (first | (go_at_call 7; (with_reducible refine (laws_big.calls _ _ l0 true _ ?side1 ?side2 A2.out).mono ?_); (case side1 => repeat (first | exact HR0.out | (with_reducible refine Kd.C_alloc ?_ _) | (with_reducible refine Kd.C_drewN ?_ _) | (with_reducible refine Kd.C_drew ?_))); (case side2 => exact HC0.out); rintro e w' ⟨rfl, ⟨nd, rfl⟩⟩; (try first | exact ⟨rfl, _, World.drewN_drewN _ _ _⟩ | exact ⟨rfl, _, Eq.trans (World.drewN_drewN _ _ _) (congrArg (World.drewN _) (Nat.add_assoc _ _ _))⟩))))
  go_ret
  exact ⟨er, el HB⟩
 ·replace c3 := Bool.eq_false_iff.mpr c3
  subst c3
  have H1 : ((spec_DrawCountByLeaves.f k l0).bind fun bt521 => ((impl_CountByLeaves.f k bt521.1 bt521.2).bind fun bt523 => ((spec_CountByLeaves.f k bt521.1 bt521.2).bind fun bt525 => (if bt523.2 = bt525.2 then (laws_FnTreeCounts.j0 k l0 bt521.1 bt521.2 bt523.1 bt523.2 (bt523.1 != bt525.1)) else (laws_FnTreeCounts.j0 k l0 bt521.1 bt521.2 bt523.1 bt523.2 true))))) = some r := by rw [if_neg (show ¬ (false = true) by decide)] at H; exact H
  clear H
  have H := H1
  clear H1
  replace H := Option.bind_eq_some_iff.mp H
  obtain ⟨⟨t521, t522⟩, A40, H⟩ := H
  replace H : ((impl_CountByLeaves.f k t521 t522).bind fun bt523 => ((spec_CountByLeaves.f k t521 t522).bind fun bt525 => (if bt523.2 = bt525.2 then (laws_FnTreeCounts.j0 k l0 t521 t522 bt523.1 bt523.2 (bt523.1 != bt525.1)) else (laws_FnTreeCounts.j0 k l0 t521 t522 bt523.1 bt523.2 true)))) = some r := H
  have A4 := A_ A40
  clear A40
  replace H := Option.bind_eq_some_iff.mp H
  obtain ⟨⟨t523, t524⟩, A50, H⟩ := H
  replace H : ((spec_CountByLeaves.f k t521 t522).bind fun bt525 => (if t524 = bt525.2 then (laws_FnTreeCounts.j0 k l0 t521 t522 t523 t524 (t523 != bt525.1)) else (laws_FnTreeCounts.j0 k l0 t521 t522 t523 t524 true))) = some r := H
  have A5 := A_ A50
  clear A50
  replace H := Option.bind_eq_some_iff.mp H
  obtain ⟨⟨t525, t526⟩, A60, H⟩ := H
  replace H : (if t524 = t526 then (laws_FnTreeCounts.j0 k l0 t521 t522 t523 t524 (t523 != t525)) else (laws_FnTreeCounts.j0 k l0 t521 t522 t523 t524 true)) = some r := H
  have A6 := A_ A60
  clear A60
  have HC7 := A_ H
  clear H
  go_enter Try.func5, Try.ntmps5
  go_upto_region 6 with (first | (go_at_call 7; (with_reducible refine (laws_big.calls _ _ l0 false _ ?side1 ?side2 A2.out).mono ?_); (case side1 => repeat (first | exact HR0.out | (with_reducible refine Kd.C_alloc ?_ _) | (with_reducible refine Kd.C_drewN ?_ _) | (with_reducible refine Kd.C_drew ?_))); (case side2 => exact HC0.out); rintro e w' ⟨rfl, ⟨nd, rfl⟩⟩; (try first | exact ⟨rfl, _, World.drewN_drewN _ _ _⟩ | exact ⟨rfl, _, Eq.trans (World.drewN_drewN _ _ _) (congrArg (World.drewN _) (Nat.add_assoc _ _ _))⟩)) | (go_at_call 66; (with_reducible refine (spec_DrawCountByLeaves.calls k _ _ l0 t521 t522 _ ?side1 ?side2 A4.out).mono ?_); (case side1 => repeat (first | exact HR0.out | (with_reducible refine Kd.C_alloc ?_ _) | (with_reducible refine Kd.C_drewN ?_ _) | (with_reducible refine Kd.C_drew ?_))); (case side2 => exact HC0.out); rintro e w8 ⟨rfl, hb⟩; have n0_ := A_ (below_step (el HB) hb); clear HB; have HB := n0_; clear n0_; (try clear hb); (try clear hb2); (try clear hk); (try clear hi)) | (go_at_call 67; (with_reducible refine (impl_CountByLeaves.calls k t521 t522 t523 t524 _ A5.out).mono ?_); rintro e w' ⟨rfl, ⟨nd, rfl⟩⟩; (try first | exact ⟨rfl, _, World.drewN_drewN _ _ _⟩ | exact ⟨rfl, _, Eq.trans (World.drewN_drewN _ _ _) (congrArg (World.drewN _) (Nat.add_assoc _ _ _))⟩)) | (go_at_call 68; (with_reducible refine (spec_CountByLeaves.calls k t521 t522 t525 t526 _ A6.out).mono ?_); rintro e w9 ⟨rfl, hb⟩; have n0_ := A_ (below_step (el HB) hb); clear HB; have HB := n0_; clear n0_; (try clear hb); (try clear hb2); (try clear hk); (try clear hi)))
  repeat (go_quiet (first | (go_at_call 7; (with_reducible refine (laws_big.calls _ _ l0 false _ ?side1 ?side2 A2.out).mono ?_); (case side1 => repeat (first | exact HR0.out | (with_reducible refine Kd.C_alloc ?_ _) | (with_reducible refine Kd.C_drewN ?_ _) | (with_reducible refine Kd.C_drew ?_))); (case side2 => exact HC0.out); rintro e w' ⟨rfl, ⟨nd, rfl⟩⟩; (try first | exact ⟨rfl, _, World.drewN_drewN _ _ _⟩ | exact ⟨rfl, _, Eq.trans (World.drewN_drewN _ _ _) (congrArg (World.drewN _) (Nat.add_assoc _ _ _))⟩)) | (go_at_call 66; (with_reducible refine (spec_DrawCountByLeaves.calls k _ _ l0 t521 t522 _ ?side1 ?side2 A4.out).mono ?_); (case side1 => repeat (first | exact HR0.out | (with_reducible refine Kd.C_alloc ?_ _) | (with_reducible refine Kd.C_drewN ?_ _) | (with_reducible refine Kd.C_drew ?_))); (case side2 => exact HC0.out); rintro e w8 ⟨rfl, hb⟩; have n0_ := A_ (below_step (el HB) hb); clear HB; have HB := n0_; clear n0_; (try clear hb); (try clear hb2); (try clear hk); (try clear hi)) | (go_at_call 67; (with_reducible refine (impl_CountByLeaves.calls k t521 t522 t523 t524 _ A5.out).mono ?_); rintro e w' ⟨rfl, ⟨nd, rfl⟩⟩; (try first | exact ⟨rfl, _, World.drewN_drewN _ _ _⟩ | exact ⟨rfl, _, Eq.trans (World.drewN_drewN _ _ _) (congrArg (World.drewN _) (Nat.add_assoc _ _ _))⟩)) | (go_at_call 68; (with_reducible refine (spec_CountByLeaves.calls k t521 t522 t525 t526 _ A6.out).mono ?_); rintro e w9 ⟨rfl, hb⟩; have n0_ := A_ (below_step (el HB) hb); clear HB; have HB := n0_; clear n0_; (try clear hb); (try clear hb2); (try clear hk); (try clear hi))); go_upto_region 6 with (first | (go_at_call 7; (with_reducible refine (laws_big.calls _ _ l0 false _ ?side1 ?side2 A2.out).mono ?_); (case side1 => repeat (first | exact HR0.out | (with_reducible refine Kd.C_alloc ?_ _) | (with_reducible refine Kd.C_drewN ?_ _) | (with_reducible refine Kd.C_drew ?_))); (case side2 => exact HC0.out); rintro e w' ⟨rfl, ⟨nd, rfl⟩⟩; (try first | exact ⟨rfl, _, World.drewN_drewN _ _ _⟩ | exact ⟨rfl, _, Eq.trans (World.drewN_drewN _ _ _) (congrArg (World.drewN _) (Nat.add_assoc _ _ _))⟩)) | (go_at_call 66; (with_reducible refine (spec_DrawCountByLeaves.calls k _ _ l0 t521 t522 _ ?side1 ?side2 A4.out).mono ?_); (case side1 => repeat (first | exact HR0.out | (with_reducible refine Kd.C_alloc ?_ _) | (with_reducible refine Kd.C_drewN ?_ _) | (with_reducible refine Kd.C_drew ?_))); (case side2 => exact HC0.out); rintro e w8 ⟨rfl, hb⟩; have n0_ := A_ (below_step (el HB) hb); clear HB; have HB := n0_; clear n0_; (try clear hb); (try clear hb2); (try clear hk); (try clear hi)) | (go_at_call 67; (with_reducible refine (impl_CountByLeaves.calls k t521 t522 t523 t524 _ A5.out).mono ?_); rintro e w' ⟨rfl, ⟨nd, rfl⟩⟩; (try first | exact ⟨rfl, _, World.drewN_drewN _ _ _⟩ | exact ⟨rfl, _, Eq.trans (World.drewN_drewN _ _ _) (congrArg (World.drewN _) (Nat.add_assoc _ _ _))⟩)) | (go_at_call 68; (with_reducible refine (spec_CountByLeaves.calls k t521 t522 t525 t526 _ A6.out).mono ?_); rintro e w9 ⟨rfl, hb⟩; have n0_ := A_ (below_step (el HB) hb); clear HB; have HB := n0_; clear n0_; (try clear hb); (try clear hb2); (try clear hk); (try clear hi))))
  (try simp only [Act.put, List.setIfInBounds_toArray, List.set_cons_zero, List.set_cons_succ])
  go_cut [72] (fun v72 wc => ∃ (kq : Nat) (x72_6 : Bool), v72 = .bool x72_6 ∧ Aside0 (laws_FnTreeCounts.j0 kq l0 t521 t522 t523 t524 x72_6 = some r) ∧ Aside0 (kq ≤ k) ∧ Aside0 (Below w.heap.size w wc))
  case first =>
   as_aux_lemma =>
    have H := HC7.out
    clear HC7
    by_cases c10 : t524 = t526
    ·rw [if_pos c10] at H
     have c10b0 : (t524 == t526) = true := beq_iff_eq.mpr c10
     have c10b1 : (t524 != t526) = false := bne_eq_false_iff_eq.mpr c10
     clear c10
     (first | rw [c10b0] | (simp only [i64_w, i32_w]; rw [c10b0]) | skip)
     have H' := A_ H
     clear H
     go_wp2
     repeat (go_quiet (fail); try go_wp2)
     go_meet
     case rel => exact ⟨_, ((t523 != t525)), laws_FnTreeCounts.Z6, H', ⟨by first | omega | exact Nat.le_refl _⟩, ⟨el HB⟩⟩
    ·rw [if_neg c10] at H
     have c10b0 : (t524 == t526) = false := beq_eq_false_iff_ne.mpr c10
     have c10b1 : (t524 != t526) = true := bne_iff_ne.mpr c10
     (first | rw [c10b0] | (simp only [i64_w, i32_w]; rw [c10b0]) | skip)
     have H' := A_ H
     clear H
     go_wp2
     repeat (go_quiet (fail); try go_wp2)
     go_meet
     case rel => exact ⟨_, (true), laws_FnTreeCounts.Z6, H', ⟨by first | omega | exact Nat.le_refl _⟩, ⟨el HB⟩⟩
  case rest =>
   as_aux_lemma =>
    clear HC7
    try clear c1
    try clear p2
    try clear c3
    try clear c5
    try clear c10
    try clear c10b0
    try clear c10b1
    obtain ⟨kq, x72_6, rfl, HA, HJ6, HB⟩ := hcut
    cases kq with
    | zero => exact absurd HA.out (by simp [laws_FnTreeCounts.j0])
    | succ kj6 =>
     have H := HA.out
     clear HA
     simp only [laws_FnTreeCounts.j0] at H
     by_cases c11 : x72_6 = true
     ·subst c11
      have H1 : (none) = some r := by rw [if_pos rfl] at H; exact H
      clear H
      have H := H1
      clear H1
      exact absurd H (by simp)
     replace c11 := Bool.eq_false_iff.mpr c11
     subst c11
     have H1 : ((impl_CountByHeight.f kj6 t521 t522).bind fun bt527 => ((spec_CountByHeight.f kj6 t521 t522).bind fun bt529 => (if bt527.2 = bt529.2 then (laws_FnTreeCounts.j1 kj6 l0 t521 t522 t523 t524 bt527.2 (bt527.1 != bt529.1)) else (laws_FnTreeCounts.j1 kj6 l0 t521 t522 t523 t524 bt527.2 true)))) = some r := by rw [if_neg (show ¬ (false = true) by decide)] at H; exact H
     clear H
     have H := H1
     clear H1
     replace H := Option.bind_eq_some_iff.mp H
     obtain ⟨⟨t527, t528⟩, A120, H⟩ := H
     replace H : ((spec_CountByHeight.f kj6 t521 t522).bind fun bt529 => (if t528 = bt529.2 then (laws_FnTreeCounts.j1 kj6 l0 t521 t522 t523 t524 t528 (t527 != bt529.1)) else (laws_FnTreeCounts.j1 kj6 l0 t521 t522 t523 t524 t528 true))) = some r := H
     have A12 := A_ A120
     clear A120
     replace H := Option.bind_eq_some_iff.mp H
     obtain ⟨⟨t529, t530⟩, A130, H⟩ := H
     replace H : (if t528 = t530 then (laws_FnTreeCounts.j1 kj6 l0 t521 t522 t523 t524 t528 (t527 != t529)) else (laws_FnTreeCounts.j1 kj6 l0 t521 t522 t523 t524 t528 true)) = some r := H
     have A13 := A_ A130
     clear A130
     have HC14 := A_ H
     clear H
     go_upto_region 10 with (first | (go_at_call 69; (with_reducible refine (impl_CountByHeight.calls kj6 t521 t522 t527 t528 _ A12.out).mono ?_); rintro e w15 ⟨rfl, hb⟩; have n0_ := A_ (below_step (el HB) hb); clear HB; have HB := n0_; clear n0_; (try clear hb); (try clear hb2); (try clear hk); (try clear hi)) | (go_at_call 70; (with_reducible refine (spec_CountByHeight.calls kj6 t521 t522 t529 t530 _ A13.out).mono ?_); rintro e w16 ⟨rfl, hb⟩; have n0_ := A_ (below_step (el HB) hb); clear HB; have HB := n0_; clear n0_; (try clear hb); (try clear hb2); (try clear hk); (try clear hi)))
     repeat (go_quiet (first | (go_at_call 69; (with_reducible refine (impl_CountByHeight.calls kj6 t521 t522 t527 t528 _ A12.out).mono ?_); rintro e w15 ⟨rfl, hb⟩; have n0_ := A_ (below_step (el HB) hb); clear HB; have HB := n0_; clear n0_; (try clear hb); (try clear hb2); (try clear hk); (try clear hi)) | (go_at_call 70; (with_reducible refine (spec_CountByHeight.calls kj6 t521 t522 t529 t530 _ A13.out).mono ?_); rintro e w16 ⟨rfl, hb⟩; have n0_ := A_ (below_step (el HB) hb); clear HB; have HB := n0_; clear n0_; (try clear hb); (try clear hb2); (try clear hk); (try clear hi))); go_upto_region 10 with (first | (go_at_call 69; (with_reducible refine (impl_CountByHeight.calls kj6 t521 t522 t527 t528 _ A12.out).mono ?_); rintro e w15 ⟨rfl, hb⟩; have n0_ := A_ (below_step (el HB) hb); clear HB; have HB := n0_; clear n0_; (try clear hb); (try clear hb2); (try clear hk); (try clear hi)) | (go_at_call 70; (with_reducible refine (spec_CountByHeight.calls kj6 t521 t522 t529 t530 _ A13.out).mono ?_); rintro e w16 ⟨rfl, hb⟩; have n0_ := A_ (below_step (el HB) hb); clear HB; have HB := n0_; clear n0_; (try clear hb); (try clear hb2); (try clear hk); (try clear hi))))
     (try simp only [Act.put, List.setIfInBounds_toArray, List.set_cons_zero, List.set_cons_succ])
     go_cut [92] (fun v92 wc => ∃ (kq : Nat) (x92_13 : Bool), v92 = .bool x92_13 ∧ Aside0 (laws_FnTreeCounts.j1 kq l0 t521 t522 t523 t524 t528 x92_13 = some r) ∧ Aside0 (kq ≤ kj6) ∧ Aside0 (Below w.heap.size w wc))
     case first =>
      as_aux_lemma =>
       have H := HC14.out
       clear HC14
       by_cases c17 : t528 = t530
       ·rw [if_pos c17] at H
        have c17b0 : (t528 == t530) = true := beq_iff_eq.mpr c17
        have c17b1 : (t528 != t530) = false := bne_eq_false_iff_eq.mpr c17
        clear c17
        (first | rw [c17b0] | (simp only [i64_w, i32_w]; rw [c17b0]) | skip)
        have H' := A_ H
        clear H
        go_wp2
        repeat (go_quiet (fail); try go_wp2)
        go_meet
        case rel => exact ⟨_, ((t527 != t529)), laws_FnTreeCounts.Z6, H', ⟨by have := HJ6.out; first | omega | exact Nat.le_refl _⟩, ⟨el HB⟩⟩
       ·rw [if_neg c17] at H
        have c17b0 : (t528 == t530) = false := beq_eq_false_iff_ne.mpr c17
        have c17b1 : (t528 != t530) = true := bne_iff_ne.mpr c17
        (first | rw [c17b0] | (simp only [i64_w, i32_w]; rw [c17b0]) | skip)
        have H' := A_ H
        clear H
        go_wp2
        repeat (go_quiet (fail); try go_wp2)
        go_meet
        case rel => exact ⟨_, (true), laws_FnTreeCounts.Z6, H', ⟨by have := HJ6.out; first | omega | exact Nat.le_refl _⟩, ⟨el HB⟩⟩
     case rest =>
      as_aux_lemma =>
       clear HC14
       try clear c1
       try clear p2
       try clear c3
       try clear c5
       try clear c10
       try clear c10b0
       try clear c10b1
       try clear c11
       try clear c17
       try clear c17b0
       try clear c17b1
       try clear p2
       obtain ⟨kq, x92_13, rfl, HA, HJ13, HB⟩ := hcut
       cases kq with
       | zero => exact absurd HA.out (by simp [laws_FnTreeCounts.j1])
       | succ kj13 =>
        have H := HA.out
        clear HA
        simp only [laws_FnTreeCounts.j1] at H
        by_cases c18 : x92_13 = true
        ·subst c18
         have H1 : (none) = some r := by rw [if_pos rfl] at H; exact H
         clear H
         have H := H1
         clear H1
         exact absurd H (by simp)
        replace c18 := Bool.eq_false_iff.mpr c18
        subst c18
        have H1 : ((impl_CountByRoot.f t521 t522).bind fun bt531 => ((spec_CountByRoot.f kj13 t521 t522).bind fun bt533 => (if bt531.2 = bt533.2 then (laws_FnTreeCounts.j2 kj13 l0 t521 t523 t524 t528 bt531.2 (bt531.1 != bt533.1)) else (laws_FnTreeCounts.j2 kj13 l0 t521 t523 t524 t528 bt531.2 true)))) = some r := by rw [if_neg (show ¬ (false = true) by decide)] at H; exact H
        clear H
        have H := H1
        clear H1
        replace H := Option.bind_eq_some_iff.mp H
        obtain ⟨⟨t531, t532⟩, A190, H⟩ := H
        replace H : ((spec_CountByRoot.f kj13 t521 t522).bind fun bt533 => (if t532 = bt533.2 then (laws_FnTreeCounts.j2 kj13 l0 t521 t523 t524 t528 t532 (t531 != bt533.1)) else (laws_FnTreeCounts.j2 kj13 l0 t521 t523 t524 t528 t532 true))) = some r := H
        have A19 := A_ A190
        clear A190
        replace H := Option.bind_eq_some_iff.mp H
        obtain ⟨⟨t533, t534⟩, A200, H⟩ := H
        replace H : (if t532 = t534 then (laws_FnTreeCounts.j2 kj13 l0 t521 t523 t524 t528 t532 (t531 != t533)) else (laws_FnTreeCounts.j2 kj13 l0 t521 t523 t524 t528 t532 true)) = some r := H
        have A20 := A_ A200
        clear A200
        have HC21 := A_ H
        clear H
        go_upto_region 14 with (first | (go_at_call 71; (with_reducible refine (impl_CountByRoot.calls t521 t522 t531 t532 _ A19.out).mono ?_); rintro e w22 ⟨rfl, hb⟩; have n0_ := A_ (below_step (el HB) hb); clear HB; have HB := n0_; clear n0_; (try clear hb); (try clear hb2); (try clear hk); (try clear hi)) | (go_at_call 72; (with_reducible refine (spec_CountByRoot.calls kj13 t521 t522 t533 t534 _ A20.out).mono ?_); rintro e w23 ⟨rfl, hb⟩; have n0_ := A_ (below_step (el HB) hb); clear HB; have HB := n0_; clear n0_; (try clear hb); (try clear hb2); (try clear hk); (try clear hi)))
        repeat (go_quiet (first | (go_at_call 71; (with_reducible refine (impl_CountByRoot.calls t521 t522 t531 t532 _ A19.out).mono ?_); rintro e w22 ⟨rfl, hb⟩; have n0_ := A_ (below_step (el HB) hb); clear HB; have HB := n0_; clear n0_; (try clear hb); (try clear hb2); (try clear hk); (try clear hi)) | (go_at_call 72; (with_reducible refine (spec_CountByRoot.calls kj13 t521 t522 t533 t534 _ A20.out).mono ?_); rintro e w23 ⟨rfl, hb⟩; have n0_ := A_ (below_step (el HB) hb); clear HB; have HB := n0_; clear n0_; (try clear hb); (try clear hb2); (try clear hk); (try clear hi))); go_upto_region 14 with (first | (go_at_call 71; (with_reducible refine (impl_CountByRoot.calls t521 t522 t531 t532 _ A19.out).mono ?_); rintro e w22 ⟨rfl, hb⟩; have n0_ := A_ (below_step (el HB) hb); clear HB; have HB := n0_; clear n0_; (try clear hb); (try clear hb2); (try clear hk); (try clear hi)) | (go_at_call 72; (with_reducible refine (spec_CountByRoot.calls kj13 t521 t522 t533 t534 _ A20.out).mono ?_); rintro e w23 ⟨rfl, hb⟩; have n0_ := A_ (below_step (el HB) hb); clear HB; have HB := n0_; clear n0_; (try clear hb); (try clear hb2); (try clear hk); (try clear hi))))
        (try simp only [Act.put, List.setIfInBounds_toArray, List.set_cons_zero, List.set_cons_succ])
        go_cut [112] (fun v112 wc => ∃ (kq : Nat) (x112_20 : Bool), v112 = .bool x112_20 ∧ Aside0 (laws_FnTreeCounts.j2 kq l0 t521 t523 t524 t528 t532 x112_20 = some r) ∧ Aside0 (kq ≤ kj13) ∧ Aside0 (Below w.heap.size w wc))
        case first =>
         as_aux_lemma =>
          have H := HC21.out
          clear HC21
          by_cases c24 : t532 = t534
          ·rw [if_pos c24] at H
           have c24b0 : (t532 == t534) = true := beq_iff_eq.mpr c24
           have c24b1 : (t532 != t534) = false := bne_eq_false_iff_eq.mpr c24
           clear c24
           (first | rw [c24b0] | (simp only [i64_w, i32_w]; rw [c24b0]) | skip)
           have H' := A_ H
           clear H
           go_wp2
           repeat (go_quiet (fail); try go_wp2)
           go_meet
           case rel => exact ⟨_, ((t531 != t533)), laws_FnTreeCounts.Z6, H', ⟨by have := HJ6.out; have := HJ13.out; first | omega | exact Nat.le_refl _⟩, ⟨el HB⟩⟩
          ·rw [if_neg c24] at H
           have c24b0 : (t532 == t534) = false := beq_eq_false_iff_ne.mpr c24
           have c24b1 : (t532 != t534) = true := bne_iff_ne.mpr c24
           (first | rw [c24b0] | (simp only [i64_w, i32_w]; rw [c24b0]) | skip)
           have H' := A_ H
           clear H
           go_wp2
           repeat (go_quiet (fail); try go_wp2)
           go_meet
           case rel => exact ⟨_, (true), laws_FnTreeCounts.Z6, H', ⟨by have := HJ6.out; have := HJ13.out; first | omega | exact Nat.le_refl _⟩, ⟨el HB⟩⟩
        case rest =>
         as_aux_lemma =>
          clear HC21
          try clear c1
          try clear c2
          try clear p2
          try clear c3
          try clear c5
          try clear c10
          try clear c10b0
          try clear c10b1
          try clear c11
          try clear c17
          try clear c17b0
          try clear c17b1
          try clear c18
          try clear c24
          try clear c24b0
          try clear c24b1
          try clear p2
          obtain ⟨kq, x112_20, rfl, HA, HJ20, HB⟩ := hcut
          cases kq with
          | zero => exact absurd HA.out (by simp [laws_FnTreeCounts.j2])
          | succ kj20 =>
           have H := HA.out
           clear HA
           simp only [laws_FnTreeCounts.j2] at H
           by_cases c25 : x112_20 = true
           ·subst c25
            have H1 : (none) = some r := by rw [if_pos rfl] at H; exact H
            clear H
            have H := H1
            clear H1
            exact absurd H (by simp)
           replace c25 := Bool.eq_false_iff.mpr c25
           subst c25
           have H1 : ((spec_DrawTreesOf.f kj20 l0).bind fun t535 => ((impl_TreesOf.f kj20 t535).bind fun bt536 => ((spec_TreesOf.f kj20 t535).bind fun bt540 => (if bt536.2 = bt540.2 then ((laws_trees9.f kj20 bt536.1 bt540.1).bind fun t544 => (laws_FnTreeCounts.j3 kj20 l0 t521 t523 t524 t528 t532 t535 bt536.1 bt536.2 (!t544))) else (laws_FnTreeCounts.j3 kj20 l0 t521 t523 t524 t528 t532 t535 bt536.1 bt536.2 true))))) = some r := by rw [if_neg (show ¬ (false = true) by decide)] at H; exact H
           clear H
           have H := H1
           clear H1
           replace H := Option.bind_eq_some_iff.mp H
           obtain ⟨t535, A260, H⟩ := H
           replace H : ((impl_TreesOf.f kj20 t535).bind fun bt536 => ((spec_TreesOf.f kj20 t535).bind fun bt540 => (if bt536.2 = bt540.2 then ((laws_trees9.f kj20 bt536.1 bt540.1).bind fun t544 => (laws_FnTreeCounts.j3 kj20 l0 t521 t523 t524 t528 t532 t535 bt536.1 bt536.2 (!t544))) else (laws_FnTreeCounts.j3 kj20 l0 t521 t523 t524 t528 t532 t535 bt536.1 bt536.2 true)))) = some r := H
           have A26 := A_ A260
           clear A260
           replace H := Option.bind_eq_some_iff.mp H
           obtain ⟨⟨t536, t537⟩, A270, H⟩ := H
           replace H : ((spec_TreesOf.f kj20 t535).bind fun bt540 => (if t537 = bt540.2 then ((laws_trees9.f kj20 t536 bt540.1).bind fun t544 => (laws_FnTreeCounts.j3 kj20 l0 t521 t523 t524 t528 t532 t535 t536 t537 (!t544))) else (laws_FnTreeCounts.j3 kj20 l0 t521 t523 t524 t528 t532 t535 t536 t537 true))) = some r := H
           have A27 := A_ A270
           clear A270
           replace H := Option.bind_eq_some_iff.mp H
           obtain ⟨⟨t540, t541⟩, A280, H⟩ := H
           replace H : (if t537 = t541 then ((laws_trees9.f kj20 t536 t540).bind fun t544 => (laws_FnTreeCounts.j3 kj20 l0 t521 t523 t524 t528 t532 t535 t536 t537 (!t544))) else (laws_FnTreeCounts.j3 kj20 l0 t521 t523 t524 t528 t532 t535 t536 t537 true)) = some r := H
           have A28 := A_ A280
           clear A280
           have HC29 := A_ H
           clear H
           go_upto_region 19 with (first | (go_at_call 73; (with_reducible refine (spec_DrawTreesOf.calls kj20 _ _ l0 t535 _ ?side1 ?side2 A26.out).mono ?_); (case side1 => repeat (first | exact (Kd.C_below HR0.out HB.out) | (with_reducible refine Kd.C_alloc ?_ _) | (with_reducible refine Kd.C_drewN ?_ _) | (with_reducible refine Kd.C_drew ?_))); (case side2 => exact HC0.out); rintro e w30 ⟨rfl, hb⟩; have n0_ := A_ (below_step (el HB) hb); clear HB; have HB := n0_; clear n0_; (try clear hb); (try clear hb2); (try clear hk); (try clear hi)) | (go_at_call 74; (with_reducible refine (impl_TreesOf.calls kj20 t535 t536 t537 _ A27.out).mono ?_); rintro e w31 ⟨v538, rfl, ho0, hb⟩; have n0_ := A_ (Kd.S_lower ho0 (below_size (el HB))); have n1_ := A_ (below_step (el HB) hb); clear HB; have HO539 := n0_; have HB := n1_; clear n0_ n1_; (try clear hb); (try clear hb2); (try clear hk); (try clear hi); (try clear ho0)) | (go_at_call 75; (with_reducible refine (spec_TreesOf.calls kj20 t535 t540 t541 _ A28.out).mono ?_); rintro e w32 ⟨v542, rfl, ho0, hb⟩; have n0_ := A_ (Kd.S_elder' laws_FnTreeCounts.Z4 (Kd.S_base ho0) hb); have n1_ := A_ (Kd.S_lower (Kd.S_new' ho0 (Kd.S_lt laws_FnTreeCounts.Z4)) (below_size (el HB))); have n2_ := A_ (below_step (el HB) hb); clear HO539; clear HB; have HO539 := n0_; have HO543 := n1_; have HB := n2_; clear n0_ n1_ n2_; (try clear hb); (try clear hb2); (try clear hk); (try clear hi); (try clear ho0)))
           repeat (go_quiet (first | (go_at_call 73; (with_reducible refine (spec_DrawTreesOf.calls kj20 _ _ l0 t535 _ ?side1 ?side2 A26.out).mono ?_); (case side1 => repeat (first | exact (Kd.C_below HR0.out HB.out) | (with_reducible refine Kd.C_alloc ?_ _) | (with_reducible refine Kd.C_drewN ?_ _) | (with_reducible refine Kd.C_drew ?_))); (case side2 => exact HC0.out); rintro e w30 ⟨rfl, hb⟩; have n0_ := A_ (below_step (el HB) hb); clear HB; have HB := n0_; clear n0_; (try clear hb); (try clear hb2); (try clear hk); (try clear hi)) | (go_at_call 74; (with_reducible refine (impl_TreesOf.calls kj20 t535 t536 t537 _ A27.out).mono ?_); rintro e w31 ⟨v538, rfl, ho0, hb⟩; have n0_ := A_ (Kd.S_lower ho0 (below_size (el HB))); have n1_ := A_ (below_step (el HB) hb); clear HB; have HO539 := n0_; have HB := n1_; clear n0_ n1_; (try clear hb); (try clear hb2); (try clear hk); (try clear hi); (try clear ho0)) | (go_at_call 75; (with_reducible refine (spec_TreesOf.calls kj20 t535 t540 t541 _ A28.out).mono ?_); rintro e w32 ⟨v542, rfl, ho0, hb⟩; have n0_ := A_ (Kd.S_elder' laws_FnTreeCounts.Z4 (Kd.S_base ho0) hb); have n1_ := A_ (Kd.S_lower (Kd.S_new' ho0 (Kd.S_lt laws_FnTreeCounts.Z4)) (below_size (el HB))); have n2_ := A_ (below_step (el HB) hb); clear HO539; clear HB; have HO539 := n0_; have HO543 := n1_; have HB := n2_; clear n0_ n1_ n2_; (try clear hb); (try clear hb2); (try clear hk); (try clear hi); (try clear ho0))); go_upto_region 19 with (first | (go_at_call 73; (with_reducible refine (spec_DrawTreesOf.calls kj20 _ _ l0 t535 _ ?side1 ?side2 A26.out).mono ?_); (case side1 => repeat (first | exact (Kd.C_below HR0.out HB.out) | (with_reducible refine Kd.C_alloc ?_ _) | (with_reducible refine Kd.C_drewN ?_ _) | (with_reducible refine Kd.C_drew ?_))); (case side2 => exact HC0.out); rintro e w30 ⟨rfl, hb⟩; have n0_ := A_ (below_step (el HB) hb); clear HB; have HB := n0_; clear n0_; (try clear hb); (try clear hb2); (try clear hk); (try clear hi)) | (go_at_call 74; (with_reducible refine (impl_TreesOf.calls kj20 t535 t536 t537 _ A27.out).mono ?_); rintro e w31 ⟨v538, rfl, ho0, hb⟩; have n0_ := A_ (Kd.S_lower ho0 (below_size (el HB))); have n1_ := A_ (below_step (el HB) hb); clear HB; have HO539 := n0_; have HB := n1_; clear n0_ n1_; (try clear hb); (try clear hb2); (try clear hk); (try clear hi); (try clear ho0)) | (go_at_call 75; (with_reducible refine (spec_TreesOf.calls kj20 t535 t540 t541 _ A28.out).mono ?_); rintro e w32 ⟨v542, rfl, ho0, hb⟩; have n0_ := A_ (Kd.S_elder' laws_FnTreeCounts.Z4 (Kd.S_base ho0) hb); have n1_ := A_ (Kd.S_lower (Kd.S_new' ho0 (Kd.S_lt laws_FnTreeCounts.Z4)) (below_size (el HB))); have n2_ := A_ (below_step (el HB) hb); clear HO539; clear HB; have HO539 := n0_; have HO543 := n1_; have HB := n2_; clear n0_ n1_ n2_; (try clear hb); (try clear hb2); (try clear hk); (try clear hi); (try clear ho0))))
           (try simp only [Act.put, List.setIfInBounds_toArray, List.set_cons_zero, List.set_cons_succ])
           go_cut [133] (fun v133 wc => ∃ (kq : Nat) (x133_28 : Bool), v133 = .bool x133_28 ∧ Aside0 (laws_FnTreeCounts.j3 kq l0 t521 t523 t524 t528 t532 t535 t536 t537 x133_28 = some r) ∧ Aside0 (kq ≤ kj20) ∧ Aside0 (Kd.S k26 26 wc w.heap.size (fun _ => True) v538 t536) ∧ Aside0 (Below w.heap.size w wc))
           case first =>
            as_aux_lemma =>
             have H := HC29.out
             clear HC29
             by_cases c33 : t537 = t541
             ·rw [if_pos c33] at H
              have c33b0 : (t537 == t541) = true := beq_iff_eq.mpr c33
              have c33b1 : (t537 != t541) = false := bne_eq_false_iff_eq.mpr c33
              clear c33
              (first | rw [c33b0] | (simp only [i64_w, i32_w]; rw [c33b0]) | skip)
              replace H := Option.bind_eq_some_iff.mp H
              obtain ⟨t544, A340, H⟩ := H
              replace H : (laws_FnTreeCounts.j3 kj20 l0 t521 t523 t524 t528 t532 t535 t536 t537 (!t544)) = some r := H
              have A34 := A_ A340
              clear A340
              have H' := A_ H
              clear H
              obtain ⟨Ao35, co35, eo35⟩ := Kd.S_slice HO539.out
              subst eo35
              obtain ⟨Ao36, co36, eo36⟩ := Kd.S_slice HO543.out
              subst eo36
              go_wp2_with (first | (go_at_call 76; (with_reducible refine (laws_trees9.calls kj20 _ _ t536 _ _ t540 t544 _ ?side1 ?side2 ?side3 ?side4 A34.out).mono ?_); (case side1 => repeat (first | exact (Kd.S_reads' HO539.out).2.2 | (with_reducible refine Kd.C_alloc ?_ _) | (with_reducible refine Kd.C_drewN ?_ _) | (with_reducible refine Kd.C_drew ?_))); (case side2 => exact (Kd.S_reads' HO539.out).2.1); (case side3 => repeat (first | exact (Kd.S_reads' HO543.out).2.2 | (with_reducible refine Kd.C_alloc ?_ _) | (with_reducible refine Kd.C_drewN ?_ _) | (with_reducible refine Kd.C_drew ?_))); (case side4 => exact (Kd.S_reads' HO543.out).2.1); rintro e w37 ⟨rfl, hb⟩; have n0_ := A_ (Kd.S_below laws_FnTreeCounts.Z4 hb); have n1_ := A_ (Kd.S_below laws_FnTreeCounts.Z3 hb); have n2_ := A_ (below_step (el HB) hb); clear HO539; clear HO543; clear HB; have HO539 := n0_; have HO543 := n1_; have HB := n2_; clear n0_ n1_ n2_; (try clear hb); (try clear hb2); (try clear hk); (try clear hi)))
              repeat (go_quiet (first | (go_at_call 76; (with_reducible refine (laws_trees9.calls kj20 _ _ t536 _ _ t540 t544 _ ?side1 ?side2 ?side3 ?side4 A34.out).mono ?_); (case side1 => repeat (first | exact (Kd.S_reads' HO539.out).2.2 | (with_reducible refine Kd.C_alloc ?_ _) | (with_reducible refine Kd.C_drewN ?_ _) | (with_reducible refine Kd.C_drew ?_))); (case side2 => exact (Kd.S_reads' HO539.out).2.1); (case side3 => repeat (first | exact (Kd.S_reads' HO543.out).2.2 | (with_reducible refine Kd.C_alloc ?_ _) | (with_reducible refine Kd.C_drewN ?_ _) | (with_reducible refine Kd.C_drew ?_))); (case side4 => exact (Kd.S_reads' HO543.out).2.1); rintro e w37 ⟨rfl, hb⟩; have n0_ := A_ (Kd.S_below laws_FnTreeCounts.Z4 hb); have n1_ := A_ (Kd.S_below laws_FnTreeCounts.Z3 hb); have n2_ := A_ (below_step (el HB) hb); clear HO539; clear HO543; clear HB; have HO539 := n0_; have HO543 := n1_; have HB := n2_; clear n0_ n1_ n2_; (try clear hb); (try clear hb2); (try clear hk); (try clear hi))); try go_wp2_with (first | (go_at_call 76; (with_reducible refine (laws_trees9.calls kj20 _ _ t536 _ _ t540 t544 _ ?side1 ?side2 ?side3 ?side4 A34.out).mono ?_); (case side1 => repeat (first | exact (Kd.S_reads' HO539.out).2.2 | (with_reducible refine Kd.C_alloc ?_ _) | (with_reducible refine Kd.C_drewN ?_ _) | (with_reducible refine Kd.C_drew ?_))); (case side2 => exact (Kd.S_reads' HO539.out).2.1); (case side3 => repeat (first | exact (Kd.S_reads' HO543.out).2.2 | (with_reducible refine Kd.C_alloc ?_ _) | (with_reducible refine Kd.C_drewN ?_ _) | (with_reducible refine Kd.C_drew ?_))); (case side4 => exact (Kd.S_reads' HO543.out).2.1); rintro e w37 ⟨rfl, hb⟩; have n0_ := A_ (Kd.S_below laws_FnTreeCounts.Z4 hb); have n1_ := A_ (Kd.S_below laws_FnTreeCounts.Z3 hb); have n2_ := A_ (below_step (el HB) hb); clear HO539; clear HO543; clear HB; have HO539 := n0_; have HO543 := n1_; have HB := n2_; clear n0_ n1_ n2_; (try clear hb); (try clear hb2); (try clear hk); (try clear hi))))
              go_meet
              case rel => exact ⟨_, (!t544), laws_FnTreeCounts.Z6, H', ⟨by have := HJ6.out; have := HJ13.out; have := HJ20.out; first | omega | exact Nat.le_refl _⟩, ⟨by (with_reducible repeat (first | apply Kd.S_alloc | apply Kd.S_drewN | apply Kd.S_drew)); exact Kd.S_mono HO539.out (fun _ hk => trivial)⟩, ⟨el HB⟩⟩
             ·rw [if_neg c33] at H
              have c33b0 : (t537 == t541) = false := beq_eq_false_iff_ne.mpr c33
              have c33b1 : (t537 != t541) = true := bne_iff_ne.mpr c33
              (first | rw [c33b0] | (simp only [i64_w, i32_w]; rw [c33b0]) | skip)
              have H' := A_ H
              clear H
              go_wp2
              repeat (go_quiet (fail); try go_wp2)
              go_meet
              case rel => exact ⟨_, (true), laws_FnTreeCounts.Z6, H', ⟨by have := HJ6.out; have := HJ13.out; have := HJ20.out; first | omega | exact Nat.le_refl _⟩, ⟨by (with_reducible repeat (first | apply Kd.S_alloc | apply Kd.S_drewN | apply Kd.S_drew)); exact Kd.S_mono HO539.out (fun _ hk => trivial)⟩, ⟨el HB⟩⟩
           case rest =>
            as_aux_lemma =>
             clear HC29
             try clear c1
             try clear c2
             try clear p2
             try clear c3
             try clear c5
             try clear c10
             try clear c10b0
             try clear c10b1
             try clear c11
             try clear c17
             try clear c17b0
             try clear c17b1
             try clear c18
             try clear c24
             try clear c24b0
             try clear c24b1
             try clear c25
             try clear c33
             try clear c33b0
             try clear c33b1
             try clear p2
             obtain ⟨kq, x133_28, rfl, HA, HJ28, HO_18, HB⟩ := hcut
             cases kq with
             | zero => exact absurd HA.out (by simp [laws_FnTreeCounts.j3])
             | succ kj28 =>
              have H := HA.out
              clear HA
              simp only [laws_FnTreeCounts.j3] at H
              by_cases c38 : x133_28 = true
              ·subst c38
               have H1 : (none) = some r := by rw [if_pos rfl] at H; exact H
               clear H
               have H := H1
               clear H1
               exact absurd H (by simp)
              replace c38 := Bool.eq_false_iff.mpr c38
              subst c38
              have H1 : ((spec_DrawCountsOfTree.f kj28 l0).bind fun t545 => ((impl_CountsOfTree.f kj28 t545).bind fun bt549 => ((spec_CountsOfTree.f kj28 t545).bind fun bt553 => (if bt549.2 = bt553.2 then ((laws_likeInts.f kj28 bt549.1 bt553.1).bind fun t557 => (laws_FnTreeCounts.j4 kj28 l0 t521 t523 t524 t528 t532 t535 t536 t537 bt549.1 bt549.2 (!t557) t545)) else (laws_FnTreeCounts.j4 kj28 l0 t521 t523 t524 t528 t532 t535 t536 t537 bt549.1 bt549.2 true t545))))) = some r := by rw [if_neg (show ¬ (false = true) by decide)] at H; exact H
              clear H
              have H := H1
              clear H1
              replace H := Option.bind_eq_some_iff.mp H
              obtain ⟨t545, A390, H⟩ := H
              replace H : ((impl_CountsOfTree.f kj28 t545).bind fun bt549 => ((spec_CountsOfTree.f kj28 t545).bind fun bt553 => (if bt549.2 = bt553.2 then ((laws_likeInts.f kj28 bt549.1 bt553.1).bind fun t557 => (laws_FnTreeCounts.j4 kj28 l0 t521 t523 t524 t528 t532 t535 t536 t537 bt549.1 bt549.2 (!t557) t545)) else (laws_FnTreeCounts.j4 kj28 l0 t521 t523 t524 t528 t532 t535 t536 t537 bt549.1 bt549.2 true t545)))) = some r := H
              have A39 := A_ A390
              clear A390
              replace H := Option.bind_eq_some_iff.mp H
              obtain ⟨⟨t549, t552⟩, A400, H⟩ := H
              replace H : ((spec_CountsOfTree.f kj28 t545).bind fun bt553 => (if t552 = bt553.2 then ((laws_likeInts.f kj28 t549 bt553.1).bind fun t557 => (laws_FnTreeCounts.j4 kj28 l0 t521 t523 t524 t528 t532 t535 t536 t537 t549 t552 (!t557) t545)) else (laws_FnTreeCounts.j4 kj28 l0 t521 t523 t524 t528 t532 t535 t536 t537 t549 t552 true t545))) = some r := H
              have A40 := A_ A400
              clear A400
              replace H := Option.bind_eq_some_iff.mp H
              obtain ⟨⟨t553, t556⟩, A410, H⟩ := H
              replace H : (if t552 = t556 then ((laws_likeInts.f kj28 t549 t553).bind fun t557 => (laws_FnTreeCounts.j4 kj28 l0 t521 t523 t524 t528 t532 t535 t536 t537 t549 t552 (!t557) t545)) else (laws_FnTreeCounts.j4 kj28 l0 t521 t523 t524 t528 t532 t535 t536 t537 t549 t552 true t545)) = some r := H
              have A41 := A_ A410
              clear A410
              have HC42 := A_ H
              clear H
              go_upto_region 24 with (first | (go_at_call 77; (with_reducible refine (spec_DrawCountsOfTree.calls kj28 _ _ l0 t545 _ ?side1 ?side2 A39.out).mono ?_); (case side1 => repeat (first | exact (Kd.C_below HR0.out HB.out) | (with_reducible refine Kd.C_alloc ?_ _) | (with_reducible refine Kd.C_drewN ?_ _) | (with_reducible refine Kd.C_drew ?_))); (case side2 => exact HC0.out); rintro e w43 ⟨v546, rfl, ho0, hb⟩; have n0_ := A_ (Kd.S_elder' laws_FnTreeCounts.Z5 (Kd.R_base ho0) hb); have n1_ := A_ (Kd.R_lower ho0 (below_size (el HB))); have n2_ := A_ (below_step (el HB) hb); clear HO_18; clear HB; have HO_18 := n0_; have HO547 := n1_; have HB := n2_; clear n0_ n1_ n2_; (try clear hb); (try clear hb2); (try clear hk); (try clear hi); (try clear ho0)) | ((with_reducible refine gate_dst (N := 22) rfl ?_); (try (refine gate_guard (by rfl) ?_; dsimp only)); refine box_event ?hg (N := 22) ?hd (cs := #[.slice none 0 0]) (t := 26) ?hr ?_; (case hd => rfl); (case hg => rfl); (case hr => first | (go_simp; done) | (go_simp; rfl)); intro gb548 hg w44 hbox hb; have n0_ := A_ (Kd.S_below (Kd.S_elderB laws_FnTreeCounts.Z5 gb548 (Nat.le_of_eq hg.symm)) hb); have n1_ := A_ (Kd.R_below (ea HO547) hb); have n2_ := A_ (below_step (el HB) hb); have n3_ := A_ (hbox); have n4_ := A_ ((by rw [hg]; exact (below_size (el HB)) : w.heap.size ≤ gb548)); have n5_ := A_ ((by rw [hg]; exact (below_size (el HB)) : w.heap.size ≤ gb548)); clear HO_18; clear HO547; clear HB; have HO_18 := n0_; have HO547 := n1_; have HB := n2_; have BK548 := n3_; have GW548 := n4_; have GE548 := n5_; clear n0_ n1_ n2_ n3_ n4_ n5_; clear hb hbox hg; obtain ⟨Ao45, co45, eo45⟩ := Kd.R_slice HO547.out; subst eo45; have hcz46_0 : w44.cell? ⟨gb548, 0, none⟩ = some (.slice none 0 0) := (blk_cell BK548.out 0).trans rfl; have hfz46_0 := blk_frozen BK548.out 0) | (go_at_call 78; (with_reducible refine (impl_CountsOfTree.calls kj28 _ _ t545 t549 t552 _ ?side1 ?side2 A40.out).mono ?_); (case side1 => refine (Kd.R_reads' (e := 2) (base := w.heap.size) (ok := fun k_ => True) (n := t545.length) (c := co45) ?_).2.2; exact laws_FnTreeCounts.Z2); (case side2 => exact (Kd.R_reads' HO547.out).2.1); rintro e w47 ⟨v550, rfl, ho0, hb⟩; have n0_ := A_ (Kd.S_elder' laws_FnTreeCounts.Z0 (Kd.R_base ho0) hb); have n1_ := A_ (Kd.R_elder' laws_FnTreeCounts.Z2 (Kd.R_base ho0) hb); have n2_ := A_ (Kd.R_lower (Kd.R_new' ho0 (Kd.R_lt laws_FnTreeCounts.Z2)) (below_size (el HB))); have n3_ := A_ (blk_below (g := gb548) (o := .cells #[.slice Ao45 t545.length co45] 26 (0, 0)) laws_FnTreeCounts.Z1 hb); have n4_ := A_ (below_step (el HB) hb); clear HO_18; clear HO547; clear BK548; clear HB; have HO_18 := n0_; have HO547 := n1_; have HO551 := n2_; have BK548 := n3_; have HB := n4_; clear n0_ n1_ n2_ n3_ n4_; (try clear hb); (try clear hb2); (try clear hk); (try clear hi); (try clear ho0); have hcz48_0 : w47.cell? ⟨gb548, 0, none⟩ = some (.slice Ao45 t545.length co45) := (blk_cell BK548.out 0).trans rfl; have hfz48_0 := blk_frozen BK548.out 0) | (go_at_call 79; (with_reducible refine (spec_CountsOfTree.calls kj28 _ _ t545 t553 t556 _ ?side1 ?side2 A41.out).mono ?_); (case side1 => repeat (first | exact (Kd.R_reads' HO547.out).2.2 | (with_reducible refine Kd.C_alloc ?_ _) | (with_reducible refine Kd.C_drewN ?_ _) | (with_reducible refine Kd.C_drew ?_))); (case side2 => exact (Kd.R_reads' HO547.out).2.1); rintro e w49 ⟨v554, rfl, ho0, hb⟩; have n0_ := A_ (Kd.S_elder' laws_FnTreeCounts.Z5 (Kd.R_base ho0) hb); have n1_ := A_ (Kd.R_elder' (ea HO547) (Kd.R_base ho0) hb); have n2_ := A_ (Kd.R_elder' (ea HO551) (Kd.R_base ho0) hb); have n3_ := A_ (Kd.R_lower (Kd.R_new' (Kd.R_new' ho0 (Kd.R_lt (ea HO547))) (Kd.R_lt (ea HO551))) (below_size (el HB))); have n4_ := A_ (eB BK548 hb); have n5_ := A_ (below_step (el HB) hb); clear HO_18; clear HO547; clear HO551; clear BK548; clear HB; have HO_18 := n0_; have HO547 := n1_; have HO551 := n2_; have HO555 := n3_; have BK548 := n4_; have HB := n5_; clear n0_ n1_ n2_ n3_ n4_ n5_; (try clear hb); (try clear hb2); (try clear hk); (try clear hi); (try clear ho0)))
              repeat (go_quiet (first | (go_at_call 77; (with_reducible refine (spec_DrawCountsOfTree.calls kj28 _ _ l0 t545 _ ?side1 ?side2 A39.out).mono ?_); (case side1 => repeat (first | exact (Kd.C_below HR0.out HB.out) | (with_reducible refine Kd.C_alloc ?_ _) | (with_reducible refine Kd.C_drewN ?_ _) | (with_reducible refine Kd.C_drew ?_))); (case side2 => exact HC0.out); rintro e w43 ⟨v546, rfl, ho0, hb⟩; have n0_ := A_ (Kd.S_elder' laws_FnTreeCounts.Z5 (Kd.R_base ho0) hb); have n1_ := A_ (Kd.R_lower ho0 (below_size (el HB))); have n2_ := A_ (below_step (el HB) hb); clear HO_18; clear HB; have HO_18 := n0_; have HO547 := n1_; have HB := n2_; clear n0_ n1_ n2_; (try clear hb); (try clear hb2); (try clear hk); (try clear hi); (try clear ho0)) | ((with_reducible refine gate_dst (N := 22) rfl ?_); (try (refine gate_guard (by rfl) ?_; dsimp only)); refine box_event ?hg (N := 22) ?hd (cs := #[.slice none 0 0]) (t := 26) ?hr ?_; (case hd => rfl); (case hg => rfl); (case hr => first | (go_simp; done) | (go_simp; rfl)); intro gb548 hg w44 hbox hb; have n0_ := A_ (Kd.S_below (Kd.S_elderB laws_FnTreeCounts.Z5 gb548 (Nat.le_of_eq hg.symm)) hb); have n1_ := A_ (Kd.R_below (ea HO547) hb); have n2_ := A_ (below_step (el HB) hb); have n3_ := A_ (hbox); have n4_ := A_ ((by rw [hg]; exact (below_size (el HB)) : w.heap.size ≤ gb548)); have n5_ := A_ ((by rw [hg]; exact (below_size (el HB)) : w.heap.size ≤ gb548)); clear HO_18; clear HO547; clear HB; have HO_18 := n0_; have HO547 := n1_; have HB := n2_; have BK548 := n3_; have GW548 := n4_; have GE548 := n5_; clear n0_ n1_ n2_ n3_ n4_ n5_; clear hb hbox hg; obtain ⟨Ao45, co45, eo45⟩ := Kd.R_slice HO547.out; subst eo45; have hcz46_0 : w44.cell? ⟨gb548, 0, none⟩ = some (.slice none 0 0) := (blk_cell BK548.out 0).trans rfl; have hfz46_0 := blk_frozen BK548.out 0) | (go_at_call 78; (with_reducible refine (impl_CountsOfTree.calls kj28 _ _ t545 t549 t552 _ ?side1 ?side2 A40.out).mono ?_); (case side1 => refine (Kd.R_reads' (e := 2) (base := w.heap.size) (ok := fun k_ => True) (n := t545.length) (c := co45) ?_).2.2; exact laws_FnTreeCounts.Z2); (case side2 => exact (Kd.R_reads' HO547.out).2.1); rintro e w47 ⟨v550, rfl, ho0, hb⟩; have n0_ := A_ (Kd.S_elder' laws_FnTreeCounts.Z0 (Kd.R_base ho0) hb); have n1_ := A_ (Kd.R_elder' laws_FnTreeCounts.Z2 (Kd.R_base ho0) hb); have n2_ := A_ (Kd.R_lower (Kd.R_new' ho0 (Kd.R_lt laws_FnTreeCounts.Z2)) (below_size (el HB))); have n3_ := A_ (blk_below (g := gb548) (o := .cells #[.slice Ao45 t545.length co45] 26 (0, 0)) laws_FnTreeCounts.Z1 hb); have n4_ := A_ (below_step (el HB) hb); clear HO_18; clear HO547; clear BK548; clear HB; have HO_18 := n0_; have HO547 := n1_; have HO551 := n2_; have BK548 := n3_; have HB := n4_; clear n0_ n1_ n2_ n3_ n4_; (try clear hb); (try clear hb2); (try clear hk); (try clear hi); (try clear ho0); have hcz48_0 : w47.cell? ⟨gb548, 0, none⟩ = some (.slice Ao45 t545.length co45) := (blk_cell BK548.out 0).trans rfl; have hfz48_0 := blk_frozen BK548.out 0) | (go_at_call 79; (with_reducible refine (spec_CountsOfTree.calls kj28 _ _ t545 t553 t556 _ ?side1 ?side2 A41.out).mono ?_); (case side1 => repeat (first | exact (Kd.R_reads' HO547.out).2.2 | (with_reducible refine Kd.C_alloc ?_ _) | (with_reducible refine Kd.C_drewN ?_ _) | (with_reducible refine Kd.C_drew ?_))); (case side2 => exact (Kd.R_reads' HO547.out).2.1); rintro e w49 ⟨v554, rfl, ho0, hb⟩; have n0_ := A_ (Kd.S_elder' laws_FnTreeCounts.Z5 (Kd.R_base ho0) hb); have n1_ := A_ (Kd.R_elder' (ea HO547) (Kd.R_base ho0) hb); have n2_ := A_ (Kd.R_elder' (ea HO551) (Kd.R_base ho0) hb); have n3_ := A_ (Kd.R_lower (Kd.R_new' (Kd.R_new' ho0 (Kd.R_lt (ea HO547))) (Kd.R_lt (ea HO551))) (below_size (el HB))); have n4_ := A_ (eB BK548 hb); have n5_ := A_ (below_step (el HB) hb); clear HO_18; clear HO547; clear HO551; clear BK548; clear HB; have HO_18 := n0_; have HO547 := n1_; have HO551 := n2_; have HO555 := n3_; have BK548 := n4_; have HB := n5_; clear n0_ n1_ n2_ n3_ n4_ n5_; (try clear hb); (try clear hb2); (try clear hk); (try clear hi); (try clear ho0))); go_upto_region 24 with (first | (go_at_call 77; (with_reducible refine (spec_DrawCountsOfTree.calls kj28 _ _ l0 t545 _ ?side1 ?side2 A39.out).mono ?_); (case side1 => repeat (first | exact (Kd.C_below HR0.out HB.out) | (with_reducible refine Kd.C_alloc ?_ _) | (with_reducible refine Kd.C_drewN ?_ _) | (with_reducible refine Kd.C_drew ?_))); (case side2 => exact HC0.out); rintro e w43 ⟨v546, rfl, ho0, hb⟩; have n0_ := A_ (Kd.S_elder' laws_FnTreeCounts.Z5 (Kd.R_base ho0) hb); have n1_ := A_ (Kd.R_lower ho0 (below_size (el HB))); have n2_ := A_ (below_step (el HB) hb); clear HO_18; clear HB; have HO_18 := n0_; have HO547 := n1_; have HB := n2_; clear n0_ n1_ n2_; (try clear hb); (try clear hb2); (try clear hk); (try clear hi); (try clear ho0)) | ((with_reducible refine gate_dst (N := 22) rfl ?_); (try (refine gate_guard (by rfl) ?_; dsimp only)); refine box_event ?hg (N := 22) ?hd (cs := #[.slice none 0 0]) (t := 26) ?hr ?_; (case hd => rfl); (case hg => rfl); (case hr => first | (go_simp; done) | (go_simp; rfl)); intro gb548 hg w44 hbox hb; have n0_ := A_ (Kd.S_below (Kd.S_elderB laws_FnTreeCounts.Z5 gb548 (Nat.le_of_eq hg.symm)) hb); have n1_ := A_ (Kd.R_below (ea HO547) hb); have n2_ := A_ (below_step (el HB) hb); have n3_ := A_ (hbox); have n4_ := A_ ((by rw [hg]; exact (below_size (el HB)) : w.heap.size ≤ gb548)); have n5_ := A_ ((by rw [hg]; exact (below_size (el HB)) : w.heap.size ≤ gb548)); clear HO_18; clear HO547; clear HB; have HO_18 := n0_; have HO547 := n1_; have HB := n2_; have BK548 := n3_; have GW548 := n4_; have GE548 := n5_; clear n0_ n1_ n2_ n3_ n4_ n5_; clear hb hbox hg; obtain ⟨Ao45, co45, eo45⟩ := Kd.R_slice HO547.out; subst eo45; have hcz46_0 : w44.cell? ⟨gb548, 0, none⟩ = some (.slice none 0 0) := (blk_cell BK548.out 0).trans rfl; have hfz46_0 := blk_frozen BK548.out 0) | (go_at_call 78; (with_reducible refine (impl_CountsOfTree.calls kj28 _ _ t545 t549 t552 _ ?side1 ?side2 A40.out).mono ?_); (case side1 => refine (Kd.R_reads' (e := 2) (base := w.heap.size) (ok := fun k_ => True) (n := t545.length) (c := co45) ?_).2.2; exact laws_FnTreeCounts.Z2); (case side2 => exact (Kd.R_reads' HO547.out).2.1); rintro e w47 ⟨v550, rfl, ho0, hb⟩; have n0_ := A_ (Kd.S_elder' laws_FnTreeCounts.Z0 (Kd.R_base ho0) hb); have n1_ := A_ (Kd.R_elder' laws_FnTreeCounts.Z2 (Kd.R_base ho0) hb); have n2_ := A_ (Kd.R_lower (Kd.R_new' ho0 (Kd.R_lt laws_FnTreeCounts.Z2)) (below_size (el HB))); have n3_ := A_ (blk_below (g := gb548) (o := .cells #[.slice Ao45 t545.length co45] 26 (0, 0)) laws_FnTreeCounts.Z1 hb); have n4_ := A_ (below_step (el HB) hb); clear HO_18; clear HO547; clear BK548; clear HB; have HO_18 := n0_; have HO547 := n1_; have HO551 := n2_; have BK548 := n3_; have HB := n4_; clear n0_ n1_ n2_ n3_ n4_; (try clear hb); (try clear hb2); (try clear hk); (try clear hi); (try clear ho0); have hcz48_0 : w47.cell? ⟨gb548, 0, none⟩ = some (.slice Ao45 t545.length co45) := (blk_cell BK548.out 0).trans rfl; have hfz48_0 := blk_frozen BK548.out 0) | (go_at_call 79; (with_reducible refine (spec_CountsOfTree.calls kj28 _ _ t545 t553 t556 _ ?side1 ?side2 A41.out).mono ?_); (case side1 => repeat (first | exact (Kd.R_reads' HO547.out).2.2 | (with_reducible refine Kd.C_alloc ?_ _) | (with_reducible refine Kd.C_drewN ?_ _) | (with_reducible refine Kd.C_drew ?_))); (case side2 => exact (Kd.R_reads' HO547.out).2.1); rintro e w49 ⟨v554, rfl, ho0, hb⟩; have n0_ := A_ (Kd.S_elder' laws_FnTreeCounts.Z5 (Kd.R_base ho0) hb); have n1_ := A_ (Kd.R_elder' (ea HO547) (Kd.R_base ho0) hb); have n2_ := A_ (Kd.R_elder' (ea HO551) (Kd.R_base ho0) hb); have n3_ := A_ (Kd.R_lower (Kd.R_new' (Kd.R_new' ho0 (Kd.R_lt (ea HO547))) (Kd.R_lt (ea HO551))) (below_size (el HB))); have n4_ := A_ (eB BK548 hb); have n5_ := A_ (below_step (el HB) hb); clear HO_18; clear HO547; clear HO551; clear BK548; clear HB; have HO_18 := n0_; have HO547 := n1_; have HO551 := n2_; have HO555 := n3_; have BK548 := n4_; have HB := n5_; clear n0_ n1_ n2_ n3_ n4_ n5_; (try clear hb); (try clear hb2); (try clear hk); (try clear hi); (try clear ho0))))
              (try simp only [Act.put, List.setIfInBounds_toArray, List.set_cons_zero, List.set_cons_succ])
              go_cut [154] (fun v154 wc => ∃ (kq : Nat) (x154_41 : Bool), v154 = .bool x154_41 ∧ Aside0 (laws_FnTreeCounts.j4 kq l0 t521 t523 t524 t528 t532 t535 t536 t537 t549 t552 x154_41 t545 = some r) ∧ Aside0 (kq ≤ kj28) ∧ Aside0 (Kd.S k26 26 wc w.heap.size (fun k_ => some k_ ≠ (v550 : Value).ownBlock ∧ some k_ ≠ ((.slice Ao45 t545.length co45) : Value).ownBlock ∧ k_ ≠ gb548) v538 t536) ∧ Aside0 (Kd.R (Kd.int .i64) 2 wc w.heap.size (fun k_ => some k_ ≠ ((.slice Ao45 t545.length co45) : Value).ownBlock) v550 t549) ∧ Aside0 (Kd.R (Kd.int .i64) 2 wc w.heap.size (fun k_ => some k_ ≠ (v550 : Value).ownBlock) (.slice Ao45 t545.length co45) t545) ∧ Aside0 (wc.heap[gb548]? = some (.cells #[(.slice Ao45 t545.length co45)] 26 (0, 0))) ∧ Aside0 (Below w.heap.size w wc))
              case first =>
               as_aux_lemma =>
                have H := HC42.out
                clear HC42
                by_cases c50 : t552 = t556
                ·rw [if_pos c50] at H
                 have c50b0 : (t552 == t556) = true := beq_iff_eq.mpr c50
                 have c50b1 : (t552 != t556) = false := bne_eq_false_iff_eq.mpr c50
                 clear c50
                 (first | rw [c50b0] | (simp only [i64_w, i32_w]; rw [c50b0]) | skip)
                 replace H := Option.bind_eq_some_iff.mp H
                 obtain ⟨t557, A510, H⟩ := H
                 replace H : (laws_FnTreeCounts.j4 kj28 l0 t521 t523 t524 t528 t532 t535 t536 t537 t549 t552 (!t557) t545) = some r := H
                 have A51 := A_ A510
                 clear A510
                 have H' := A_ H
                 clear H
                 obtain ⟨Ao52, co52, eo52⟩ := Kd.R_slice HO551.out
                 subst eo52
                 obtain ⟨Ao53, co53, eo53⟩ := Kd.R_slice HO555.out
                 subst eo53
                 go_wp2_with (first | (go_at_call 23; (with_reducible refine (laws_likeInts.calls kj28 _ _ t549 _ _ t553 t557 _ ?side1 ?side2 ?side3 ?side4 A51.out).mono ?_); (case side1 => repeat (first | exact (Kd.R_reads' HO551.out).2.2 | (with_reducible refine Kd.C_alloc ?_ _) | (with_reducible refine Kd.C_drewN ?_ _) | (with_reducible refine Kd.C_drew ?_))); (case side2 => exact (Kd.R_reads' HO551.out).2.1); (case side3 => repeat (first | exact (Kd.R_reads' HO555.out).2.2 | (with_reducible refine Kd.C_alloc ?_ _) | (with_reducible refine Kd.C_drewN ?_ _) | (with_reducible refine Kd.C_drew ?_))); (case side4 => exact (Kd.R_reads' HO555.out).2.1); rintro e w' ⟨rfl, ⟨nd, rfl⟩⟩; (try first | exact ⟨rfl, _, World.drewN_drewN _ _ _⟩ | exact ⟨rfl, _, Eq.trans (World.drewN_drewN _ _ _) (congrArg (World.drewN _) (Nat.add_assoc _ _ _))⟩)))
                 repeat (go_quiet (first | (go_at_call 23; (with_reducible refine (laws_likeInts.calls kj28 _ _ t549 _ _ t553 t557 _ ?side1 ?side2 ?side3 ?side4 A51.out).mono ?_); (case side1 => repeat (first | exact (Kd.R_reads' HO551.out).2.2 | (with_reducible refine Kd.C_alloc ?_ _) | (with_reducible refine Kd.C_drewN ?_ _) | (with_reducible refine Kd.C_drew ?_))); (case side2 => exact (Kd.R_reads' HO551.out).2.1); (case side3 => repeat (first | exact (Kd.R_reads' HO555.out).2.2 | (with_reducible refine Kd.C_alloc ?_ _) | (with_reducible refine Kd.C_drewN ?_ _) | (with_reducible refine Kd.C_drew ?_))); (case side4 => exact (Kd.R_reads' HO555.out).2.1); rintro e w' ⟨rfl, ⟨nd, rfl⟩⟩; (try first | exact ⟨rfl, _, World.drewN_drewN _ _ _⟩ | exact ⟨rfl, _, Eq.trans (World.drewN_drewN _ _ _) (congrArg (World.drewN _) (Nat.add_assoc _ _ _))⟩))); try go_wp2_with (first | (go_at_call 23; (with_reducible refine (laws_likeInts.calls kj28 _ _ t549 _ _ t553 t557 _ ?side1 ?side2 ?side3 ?side4 A51.out).mono ?_); (case side1 => repeat (first | exact (Kd.R_reads' HO551.out).2.2 | (with_reducible refine Kd.C_alloc ?_ _) | (with_reducible refine Kd.C_drewN ?_ _) | (with_reducible refine Kd.C_drew ?_))); (case side2 => exact (Kd.R_reads' HO551.out).2.1); (case side3 => repeat (first | exact (Kd.R_reads' HO555.out).2.2 | (with_reducible refine Kd.C_alloc ?_ _) | (with_reducible refine Kd.C_drewN ?_ _) | (with_reducible refine Kd.C_drew ?_))); (case side4 => exact (Kd.R_reads' HO555.out).2.1); rintro e w' ⟨rfl, ⟨nd, rfl⟩⟩; (try first | exact ⟨rfl, _, World.drewN_drewN _ _ _⟩ | exact ⟨rfl, _, Eq.trans (World.drewN_drewN _ _ _) (congrArg (World.drewN _) (Nat.add_assoc _ _ _))⟩))))
                 go_meet
                 case rel => exact ⟨_, (!t557), laws_FnTreeCounts.Z6, H', ⟨by have := HJ6.out; have := HJ13.out; have := HJ20.out; have := HJ28.out; first | omega | exact Nat.le_refl _⟩, ⟨by (with_reducible repeat (first | apply Kd.S_alloc | apply Kd.S_drewN | apply Kd.S_drew)); exact Kd.S_mono HO_18.out (fun _ hk => ⟨hk.1.2, ⟨hk.1.1.1.2, hk.1.1.2⟩⟩)⟩, ⟨by (with_reducible repeat (first | apply Kd.R_alloc | apply Kd.R_drewN | apply Kd.R_drew)); exact Kd.R_mono HO551.out (fun _ hk => hk.1.2)⟩, ⟨by (with_reducible repeat (first | apply Kd.R_alloc | apply Kd.R_drewN | apply Kd.R_drew)); exact Kd.R_mono HO547.out (fun _ hk => hk.1.2)⟩, ⟨eb BK548⟩, ⟨el HB⟩⟩
                ·rw [if_neg c50] at H
                 have c50b0 : (t552 == t556) = false := beq_eq_false_iff_ne.mpr c50
                 have c50b1 : (t552 != t556) = true := bne_iff_ne.mpr c50
                 (first | rw [c50b0] | (simp only [i64_w, i32_w]; rw [c50b0]) | skip)
                 have H' := A_ H
                 clear H
                 go_wp2
                 repeat (go_quiet (fail); try go_wp2)
                 go_meet
                 case rel => exact ⟨_, (true), laws_FnTreeCounts.Z6, H', ⟨by have := HJ6.out; have := HJ13.out; have := HJ20.out; have := HJ28.out; first | omega | exact Nat.le_refl _⟩, ⟨by (with_reducible repeat (first | apply Kd.S_alloc | apply Kd.S_drewN | apply Kd.S_drew)); exact Kd.S_mono HO_18.out (fun _ hk => ⟨hk.1.2, ⟨hk.1.1.1.2, hk.1.1.2⟩⟩)⟩, ⟨by (with_reducible repeat (first | apply Kd.R_alloc | apply Kd.R_drewN | apply Kd.R_drew)); exact Kd.R_mono HO551.out (fun _ hk => hk.1.2)⟩, ⟨by (with_reducible repeat (first | apply Kd.R_alloc | apply Kd.R_drewN | apply Kd.R_drew)); exact Kd.R_mono HO547.out (fun _ hk => hk.1.2)⟩, ⟨eb BK548⟩, ⟨el HB⟩⟩
              case rest =>
               as_aux_lemma =>
                clear HC42
                try clear c1
                try clear c2
                try clear p2
                try clear c3
                try clear c5
                try clear c10
                try clear c10b0
                try clear c10b1
                try clear c11
                try clear c17
                try clear c17b0
                try clear c17b1
                try clear c18
                try clear c24
                try clear c24b0
                try clear c24b1
                try clear c25
                try clear c33
                try clear c33b0
                try clear c33b1
                try clear c38
                try clear c50
                try clear c50b0
                try clear c50b1
                try clear hcz46_0
                try clear hcz48_0
                try clear hfz46_0
                try clear hfz48_0
                try clear p2
                obtain ⟨kq, x154_41, rfl, HA, HJ41, HO_18, HO_23, HO_549000, BK548, HB⟩ := hcut
                cases kq with
                | zero => exact absurd HA.out (by simp [laws_FnTreeCounts.j4])
                | succ kj41 =>
                 have H := HA.out
                 clear HA
                 simp only [laws_FnTreeCounts.j4] at H
                 by_cases c54 : x154_41 = true
                 ·subst c54
                  have H1 : (none) = some r := by rw [if_pos rfl] at H; exact H
                  clear H
                  have H := H1
                  clear H1
                  exact absurd H (by simp)
                 replace c54 := Bool.eq_false_iff.mpr c54
                 subst c54
                 have H1 : ((spec_DrawCountByCounts.f kj41 l0).bind fun t558 => ((impl_CountByCounts.f kj41 t558).bind fun bt561 => ((spec_CountByCounts.f kj41 t558).bind fun bt563 => (if bt561.2 = bt563.2 then (laws_FnTreeCounts.j5 kj41 t521 t523 t524 t528 t532 t535 t536 t537 t549 t552 bt561.1 bt561.2 (bt561.1 != bt563.1) t545) else (laws_FnTreeCounts.j5 kj41 t521 t523 t524 t528 t532 t535 t536 t537 t549 t552 bt561.1 bt561.2 true t545))))) = some r := by rw [if_neg (show ¬ (false = true) by decide)] at H; exact H
                 clear H
                 have H := H1
                 clear H1
                 replace H := Option.bind_eq_some_iff.mp H
                 obtain ⟨t558, A550, H⟩ := H
                 replace H : ((impl_CountByCounts.f kj41 t558).bind fun bt561 => ((spec_CountByCounts.f kj41 t558).bind fun bt563 => (if bt561.2 = bt563.2 then (laws_FnTreeCounts.j5 kj41 t521 t523 t524 t528 t532 t535 t536 t537 t549 t552 bt561.1 bt561.2 (bt561.1 != bt563.1) t545) else (laws_FnTreeCounts.j5 kj41 t521 t523 t524 t528 t532 t535 t536 t537 t549 t552 bt561.1 bt561.2 true t545)))) = some r := H
                 have A55 := A_ A550
                 clear A550
                 replace H := Option.bind_eq_some_iff.mp H
                 obtain ⟨⟨t561, t562⟩, A560, H⟩ := H
                 replace H : ((spec_CountByCounts.f kj41 t558).bind fun bt563 => (if t562 = bt563.2 then (laws_FnTreeCounts.j5 kj41 t521 t523 t524 t528 t532 t535 t536 t537 t549 t552 t561 t562 (t561 != bt563.1) t545) else (laws_FnTreeCounts.j5 kj41 t521 t523 t524 t528 t532 t535 t536 t537 t549 t552 t561 t562 true t545))) = some r := H
                 have A56 := A_ A560
                 clear A560
                 replace H := Option.bind_eq_some_iff.mp H
                 obtain ⟨⟨t563, t564⟩, A570, H⟩ := H
                 replace H : (if t562 = t564 then (laws_FnTreeCounts.j5 kj41 t521 t523 t524 t528 t532 t535 t536 t537 t549 t552 t561 t562 (t561 != t563) t545) else (laws_FnTreeCounts.j5 kj41 t521 t523 t524 t528 t532 t535 t536 t537 t549 t552 t561 t562 true t545)) = some r := H
                 have A57 := A_ A570
                 clear A570
                 have HC58 := A_ H
                 clear H
                 go_upto_region 29 with (first | (go_at_call 80; (with_reducible refine (spec_DrawCountByCounts.calls kj41 _ _ l0 t558 _ ?side1 ?side2 A55.out).mono ?_); (case side1 => repeat (first | exact (Kd.C_below HR0.out HB.out) | (with_reducible refine Kd.C_alloc ?_ _) | (with_reducible refine Kd.C_drewN ?_ _) | (with_reducible refine Kd.C_drew ?_))); (case side2 => exact HC0.out); rintro e w59 ⟨v559, rfl, ho0, hb⟩; have n0_ := A_ (Kd.S_elder' laws_FnTreeCounts.Z5 (Kd.R_base ho0) hb); have n1_ := A_ (Kd.R_elder' (ea HO_23) (Kd.R_base ho0) hb); have n2_ := A_ (Kd.R_elder' (ea HO_549000) (Kd.R_base ho0) hb); have n3_ := A_ (Kd.R_lower (Kd.R_new' (Kd.R_new' ho0 (Kd.R_lt (ea HO_23))) (Kd.R_lt (ea HO_549000))) (below_size (el HB))); have n4_ := A_ (eB BK548 hb); have n5_ := A_ (below_step (el HB) hb); clear HO_18; clear HO_23; clear HO_549000; clear BK548; clear HB; have HO_18 := n0_; have HO_23 := n1_; have HO_549000 := n2_; have HO560 := n3_; have BK548 := n4_; have HB := n5_; clear n0_ n1_ n2_ n3_ n4_ n5_; (try clear hb); (try clear hb2); (try clear hk); (try clear hi); (try clear ho0); obtain ⟨Ao60, co60, eo60⟩ := Kd.R_slice HO560.out; subst eo60) | (go_at_call 81; (with_reducible refine (impl_CountByCounts.calls kj41 _ _ t558 t561 t562 _ ?side1 ?side2 A56.out).mono ?_); (case side1 => repeat (first | exact (Kd.R_reads' HO560.out).2.2 | (with_reducible refine Kd.C_alloc ?_ _) | (with_reducible refine Kd.C_drewN ?_ _) | (with_reducible refine Kd.C_drew ?_))); (case side2 => exact (Kd.R_reads' HO560.out).2.1); rintro e w' ⟨rfl, ⟨nd, rfl⟩⟩; (try first | exact ⟨rfl, _, World.drewN_drewN _ _ _⟩ | exact ⟨rfl, _, Eq.trans (World.drewN_drewN _ _ _) (congrArg (World.drewN _) (Nat.add_assoc _ _ _))⟩)) | (go_at_call 82; (with_reducible refine (spec_CountByCounts.calls kj41 _ _ t558 t563 t564 _ ?side1 ?side2 A57.out).mono ?_); (case side1 => repeat (first | exact (Kd.R_reads' HO560.out).2.2 | (with_reducible refine Kd.C_alloc ?_ _) | (with_reducible refine Kd.C_drewN ?_ _) | (with_reducible refine Kd.C_drew ?_))); (case side2 => exact (Kd.R_reads' HO560.out).2.1); rintro e w61 ⟨rfl, hb⟩; have n0_ := A_ (Kd.S_below laws_FnTreeCounts.Z5 hb); have n1_ := A_ (Kd.R_below (ea HO_23) hb); have n2_ := A_ (Kd.R_below (ea HO_549000) hb); have n3_ := A_ (Kd.R_below (ea HO560) hb); have n4_ := A_ (eB BK548 hb); have n5_ := A_ (below_step (el HB) hb); clear HO_18; clear HO_23; clear HO_549000; clear HO560; clear BK548; clear HB; have HO_18 := n0_; have HO_23 := n1_; have HO_549000 := n2_; have HO560 := n3_; have BK548 := n4_; have HB := n5_; clear n0_ n1_ n2_ n3_ n4_ n5_; (try clear hb); (try clear hb2); (try clear hk); (try clear hi)))
                 repeat (go_quiet (first | (go_at_call 80; (with_reducible refine (spec_DrawCountByCounts.calls kj41 _ _ l0 t558 _ ?side1 ?side2 A55.out).mono ?_); (case side1 => repeat (first | exact (Kd.C_below HR0.out HB.out) | (with_reducible refine Kd.C_alloc ?_ _) | (with_reducible refine Kd.C_drewN ?_ _) | (with_reducible refine Kd.C_drew ?_))); (case side2 => exact HC0.out); rintro e w59 ⟨v559, rfl, ho0, hb⟩; have n0_ := A_ (Kd.S_elder' laws_FnTreeCounts.Z5 (Kd.R_base ho0) hb); have n1_ := A_ (Kd.R_elder' (ea HO_23) (Kd.R_base ho0) hb); have n2_ := A_ (Kd.R_elder' (ea HO_549000) (Kd.R_base ho0) hb); have n3_ := A_ (Kd.R_lower (Kd.R_new' (Kd.R_new' ho0 (Kd.R_lt (ea HO_23))) (Kd.R_lt (ea HO_549000))) (below_size (el HB))); have n4_ := A_ (eB BK548 hb); have n5_ := A_ (below_step (el HB) hb); clear HO_18; clear HO_23; clear HO_549000; clear BK548; clear HB; have HO_18 := n0_; have HO_23 := n1_; have HO_549000 := n2_; have HO560 := n3_; have BK548 := n4_; have HB := n5_; clear n0_ n1_ n2_ n3_ n4_ n5_; (try clear hb); (try clear hb2); (try clear hk); (try clear hi); (try clear ho0); obtain ⟨Ao60, co60, eo60⟩ := Kd.R_slice HO560.out; subst eo60) | (go_at_call 81; (with_reducible refine (impl_CountByCounts.calls kj41 _ _ t558 t561 t562 _ ?side1 ?side2 A56.out).mono ?_); (case side1 => repeat (first | exact (Kd.R_reads' HO560.out).2.2 | (with_reducible refine Kd.C_alloc ?_ _) | (with_reducible refine Kd.C_drewN ?_ _) | (with_reducible refine Kd.C_drew ?_))); (case side2 => exact (Kd.R_reads' HO560.out).2.1); rintro e w' ⟨rfl, ⟨nd, rfl⟩⟩; (try first | exact ⟨rfl, _, World.drewN_drewN _ _ _⟩ | exact ⟨rfl, _, Eq.trans (World.drewN_drewN _ _ _) (congrArg (World.drewN _) (Nat.add_assoc _ _ _))⟩)) | (go_at_call 82; (with_reducible refine (spec_CountByCounts.calls kj41 _ _ t558 t563 t564 _ ?side1 ?side2 A57.out).mono ?_); (case side1 => repeat (first | exact (Kd.R_reads' HO560.out).2.2 | (with_reducible refine Kd.C_alloc ?_ _) | (with_reducible refine Kd.C_drewN ?_ _) | (with_reducible refine Kd.C_drew ?_))); (case side2 => exact (Kd.R_reads' HO560.out).2.1); rintro e w61 ⟨rfl, hb⟩; have n0_ := A_ (Kd.S_below laws_FnTreeCounts.Z5 hb); have n1_ := A_ (Kd.R_below (ea HO_23) hb); have n2_ := A_ (Kd.R_below (ea HO_549000) hb); have n3_ := A_ (Kd.R_below (ea HO560) hb); have n4_ := A_ (eB BK548 hb); have n5_ := A_ (below_step (el HB) hb); clear HO_18; clear HO_23; clear HO_549000; clear HO560; clear BK548; clear HB; have HO_18 := n0_; have HO_23 := n1_; have HO_549000 := n2_; have HO560 := n3_; have BK548 := n4_; have HB := n5_; clear n0_ n1_ n2_ n3_ n4_ n5_; (try clear hb); (try clear hb2); (try clear hk); (try clear hi))); go_upto_region 29 with (first | (go_at_call 80; (with_reducible refine (spec_DrawCountByCounts.calls kj41 _ _ l0 t558 _ ?side1 ?side2 A55.out).mono ?_); (case side1 => repeat (first | exact (Kd.C_below HR0.out HB.out) | (with_reducible refine Kd.C_alloc ?_ _) | (with_reducible refine Kd.C_drewN ?_ _) | (with_reducible refine Kd.C_drew ?_))); (case side2 => exact HC0.out); rintro e w59 ⟨v559, rfl, ho0, hb⟩; have n0_ := A_ (Kd.S_elder' laws_FnTreeCounts.Z5 (Kd.R_base ho0) hb); have n1_ := A_ (Kd.R_elder' (ea HO_23) (Kd.R_base ho0) hb); have n2_ := A_ (Kd.R_elder' (ea HO_549000) (Kd.R_base ho0) hb); have n3_ := A_ (Kd.R_lower (Kd.R_new' (Kd.R_new' ho0 (Kd.R_lt (ea HO_23))) (Kd.R_lt (ea HO_549000))) (below_size (el HB))); have n4_ := A_ (eB BK548 hb); have n5_ := A_ (below_step (el HB) hb); clear HO_18; clear HO_23; clear HO_549000; clear BK548; clear HB; have HO_18 := n0_; have HO_23 := n1_; have HO_549000 := n2_; have HO560 := n3_; have BK548 := n4_; have HB := n5_; clear n0_ n1_ n2_ n3_ n4_ n5_; (try clear hb); (try clear hb2); (try clear hk); (try clear hi); (try clear ho0); obtain ⟨Ao60, co60, eo60⟩ := Kd.R_slice HO560.out; subst eo60) | (go_at_call 81; (with_reducible refine (impl_CountByCounts.calls kj41 _ _ t558 t561 t562 _ ?side1 ?side2 A56.out).mono ?_); (case side1 => repeat (first | exact (Kd.R_reads' HO560.out).2.2 | (with_reducible refine Kd.C_alloc ?_ _) | (with_reducible refine Kd.C_drewN ?_ _) | (with_reducible refine Kd.C_drew ?_))); (case side2 => exact (Kd.R_reads' HO560.out).2.1); rintro e w' ⟨rfl, ⟨nd, rfl⟩⟩; (try first | exact ⟨rfl, _, World.drewN_drewN _ _ _⟩ | exact ⟨rfl, _, Eq.trans (World.drewN_drewN _ _ _) (congrArg (World.drewN _) (Nat.add_assoc _ _ _))⟩)) | (go_at_call 82; (with_reducible refine (spec_CountByCounts.calls kj41 _ _ t558 t563 t564 _ ?side1 ?side2 A57.out).mono ?_); (case side1 => repeat (first | exact (Kd.R_reads' HO560.out).2.2 | (with_reducible refine Kd.C_alloc ?_ _) | (with_reducible refine Kd.C_drewN ?_ _) | (with_reducible refine Kd.C_drew ?_))); (case side2 => exact (Kd.R_reads' HO560.out).2.1); rintro e w61 ⟨rfl, hb⟩; have n0_ := A_ (Kd.S_below laws_FnTreeCounts.Z5 hb); have n1_ := A_ (Kd.R_below (ea HO_23) hb); have n2_ := A_ (Kd.R_below (ea HO_549000) hb); have n3_ := A_ (Kd.R_below (ea HO560) hb); have n4_ := A_ (eB BK548 hb); have n5_ := A_ (below_step (el HB) hb); clear HO_18; clear HO_23; clear HO_549000; clear HO560; clear BK548; clear HB; have HO_18 := n0_; have HO_23 := n1_; have HO_549000 := n2_; have HO560 := n3_; have BK548 := n4_; have HB := n5_; clear n0_ n1_ n2_ n3_ n4_ n5_; (try clear hb); (try clear hb2); (try clear hk); (try clear hi))))
                 (try simp only [Act.put, List.setIfInBounds_toArray, List.set_cons_zero, List.set_cons_succ])
                 go_cut [174] (fun v174 wc => ∃ (kq : Nat) (x174_57 : Bool), v174 = .bool x174_57 ∧ Aside0 (laws_FnTreeCounts.j5 kq t521 t523 t524 t528 t532 t535 t536 t537 t549 t552 t561 t562 x174_57 t545 = some r) ∧ Aside0 (kq ≤ kj41) ∧ Aside0 (Kd.S k26 26 wc w.heap.size (fun k_ => some k_ ≠ (v550 : Value).ownBlock ∧ some k_ ≠ ((.slice Ao45 t545.length co45) : Value).ownBlock ∧ k_ ≠ gb548) v538 t536) ∧ Aside0 (Kd.R (Kd.int .i64) 2 wc w.heap.size (fun k_ => some k_ ≠ ((.slice Ao45 t545.length co45) : Value).ownBlock) v550 t549) ∧ Aside0 (Kd.R (Kd.int .i64) 2 wc w.heap.size (fun k_ => some k_ ≠ (v550 : Value).ownBlock) (.slice Ao45 t545.length co45) t545) ∧ Aside0 (wc.heap[gb548]? = some (.cells #[(.slice Ao45 t545.length co45)] 26 (0, 0))) ∧ Aside0 (Below w.heap.size w wc))
                 case first =>
                  as_aux_lemma =>
                   have H := HC58.out
                   clear HC58
                   by_cases c62 : t562 = t564
                   ·rw [if_pos c62] at H
                    have c62b0 : (t562 == t564) = true := beq_iff_eq.mpr c62
                    have c62b1 : (t562 != t564) = false := bne_eq_false_iff_eq.mpr c62
                    clear c62
                    (first | rw [c62b0] | (simp only [i64_w, i32_w]; rw [c62b0]) | skip)
                    have H' := A_ H
                    clear H
                    go_wp2
                    repeat (go_quiet (fail); try go_wp2)
                    go_meet
                    case rel => exact ⟨_, ((t561 != t563)), laws_FnTreeCounts.Z6, H', ⟨by have := HJ6.out; have := HJ13.out; have := HJ20.out; have := HJ28.out; have := HJ41.out; first | omega | exact Nat.le_refl _⟩, ⟨by (with_reducible repeat (first | apply Kd.S_alloc | apply Kd.S_drewN | apply Kd.S_drew)); exact Kd.S_mono HO_18.out (fun _ hk => ⟨hk.1.1, ⟨hk.1.2.1, hk.1.2.2⟩⟩)⟩, ⟨by (with_reducible repeat (first | apply Kd.R_alloc | apply Kd.R_drewN | apply Kd.R_drew)); exact Kd.R_mono HO_23.out (fun _ hk => hk.1)⟩, ⟨by (with_reducible repeat (first | apply Kd.R_alloc | apply Kd.R_drewN | apply Kd.R_drew)); exact Kd.R_mono HO_549000.out (fun _ hk => hk.1)⟩, ⟨eb BK548⟩, ⟨el HB⟩⟩
                   ·rw [if_neg c62] at H
                    have c62b0 : (t562 == t564) = false := beq_eq_false_iff_ne.mpr c62
                    have c62b1 : (t562 != t564) = true := bne_iff_ne.mpr c62
                    (first | rw [c62b0] | (simp only [i64_w, i32_w]; rw [c62b0]) | skip)
                    have H' := A_ H
                    clear H
                    go_wp2
                    repeat (go_quiet (fail); try go_wp2)
                    go_meet
                    case rel => exact ⟨_, (true), laws_FnTreeCounts.Z6, H', ⟨by have := HJ6.out; have := HJ13.out; have := HJ20.out; have := HJ28.out; have := HJ41.out; first | omega | exact Nat.le_refl _⟩, ⟨by (with_reducible repeat (first | apply Kd.S_alloc | apply Kd.S_drewN | apply Kd.S_drew)); exact Kd.S_mono HO_18.out (fun _ hk => ⟨hk.1.1, ⟨hk.1.2.1, hk.1.2.2⟩⟩)⟩, ⟨by (with_reducible repeat (first | apply Kd.R_alloc | apply Kd.R_drewN | apply Kd.R_drew)); exact Kd.R_mono HO_23.out (fun _ hk => hk.1)⟩, ⟨by (with_reducible repeat (first | apply Kd.R_alloc | apply Kd.R_drewN | apply Kd.R_drew)); exact Kd.R_mono HO_549000.out (fun _ hk => hk.1)⟩, ⟨eb BK548⟩, ⟨el HB⟩⟩
                 case rest =>
                  as_aux_lemma =>
                   clear HC58
                   try clear c1
                   try clear c2
                   try clear p2
                   try clear c3
                   try clear c5
                   try clear c6
                   try clear c10
                   try clear c10b0
                   try clear c10b1
                   try clear c11
                   try clear c17
                   try clear c17b0
                   try clear c17b1
                   try clear c18
                   try clear c24
                   try clear c24b0
                   try clear c24b1
                   try clear c25
                   try clear c33
                   try clear c33b0
                   try clear c33b1
                   try clear c38
                   try clear c50
                   try clear c50b0
                   try clear c50b1
                   try clear c54
                   try clear c62
                   try clear c62b0
                   try clear c62b1
                   try clear hcz46_0
                   try clear hcz48_0
                   try clear hfz46_0
                   try clear hfz48_0
                   try clear p2
                   obtain ⟨kq, x174_57, rfl, HA, HJ57, HO_18, HO_23, HO_549000, BK548, HB⟩ := hcut
                   cases kq with
                   | zero => exact absurd HA.out (by simp [laws_FnTreeCounts.j5])
                   | succ kj57 =>
                    have H := HA.out
                    clear HA
                    simp only [laws_FnTreeCounts.j5] at H
                    by_cases c63 : x174_57 = true
                    ·subst c63
                     have H1 : (none) = some r := by rw [if_pos rfl] at H; exact H
                     clear H
                     have H := H1
                     clear H1
                     exact absurd H (by simp)
                    replace c63 := Bool.eq_false_iff.mpr c63
                    subst c63
                    have H1 : (if t552 = 0 then ((laws_sum.f kj57 t549).bind fun t565 => (laws_FnTreeCounts.j6 kj57 t521 t523 t524 t528 t532 t535 t536 t537 t561 t562 (t565 != (t545.length : Int)))) else (laws_FnTreeCounts.j6 kj57 t521 t523 t524 t528 t532 t535 t536 t537 t561 t562 false)) = some r := by rw [if_neg (show ¬ (false = true) by decide)] at H; exact H
                    clear H
                    have H := H1
                    clear H1
                    have HC64 := A_ H
                    clear H
                    go_upto_region 31 with (fail)
                    repeat (go_quiet (fail); go_upto_region 31 with (fail))
                    go_cut [184] (fun v184 wc => ∃ (kq : Nat) (x184_63 : Bool), v184 = .bool x184_63 ∧ Aside0 (laws_FnTreeCounts.j6 kq t521 t523 t524 t528 t532 t535 t536 t537 t561 t562 x184_63 = some r) ∧ Aside0 (kq ≤ kj57) ∧ Aside0 (Kd.S k26 26 wc w.heap.size (fun k_ => some k_ ≠ ((.slice Ao45 t545.length co45) : Value).ownBlock ∧ k_ ≠ gb548) v538 t536) ∧ Aside0 (Kd.R (Kd.int .i64) 2 wc w.heap.size (fun _ => True) (.slice Ao45 t545.length co45) t545) ∧ Aside0 (wc.heap[gb548]? = some (.cells #[(.slice Ao45 t545.length co45)] 26 (0, 0))) ∧ Aside0 (Below w.heap.size w wc))
                    case first =>
                     as_aux_lemma =>
                      have H := HC64.out
                      clear HC64
                      by_cases c65 : t552 = 0
                      ·rw [if_pos c65] at H
                       have c65b0 : (t552 == 0) = true := beq_iff_eq.mpr c65
                       have c65b1 : (t552 != 0) = false := bne_eq_false_iff_eq.mpr c65
                       clear c65
                       (first | rw [c65b0] | (simp only [i64_w, i32_w]; rw [c65b0]) | skip)
                       replace H := Option.bind_eq_some_iff.mp H
                       obtain ⟨t565, A660, H⟩ := H
                       replace H : (laws_FnTreeCounts.j6 kj57 t521 t523 t524 t528 t532 t535 t536 t537 t561 t562 (t565 != (t545.length : Int))) = some r := H
                       have A66 := A_ A660
                       clear A660
                       have H' := A_ H
                       clear H
                       obtain ⟨Ao67, co67, eo67⟩ := Kd.R_slice HO_23.out
                       subst eo67
                       go_wp2_with (first | (go_at_call 29; (with_reducible refine (laws_sum.calls kj57 _ _ t549 t565 _ ?side1 ?side2 A66.out).mono ?_); (case side1 => repeat (first | exact (Kd.R_reads' HO_23.out).2.2 | (with_reducible refine Kd.C_alloc ?_ _) | (with_reducible refine Kd.C_drewN ?_ _) | (with_reducible refine Kd.C_drew ?_))); (case side2 => exact (Kd.R_reads' HO_23.out).2.1); rintro e w' ⟨rfl, ⟨nd, rfl⟩⟩; (try first | exact ⟨rfl, _, World.drewN_drewN _ _ _⟩ | exact ⟨rfl, _, Eq.trans (World.drewN_drewN _ _ _) (congrArg (World.drewN _) (Nat.add_assoc _ _ _))⟩); have hcz68_0 : wc.cell? ⟨gb548, 0, none⟩ = some (.slice Ao45 t545.length co45) := (blk_cell BK548.out 0).trans rfl; have hfz68_0 := blk_frozen BK548.out 0))
                       repeat (go_quiet (first | (go_at_call 29; (with_reducible refine (laws_sum.calls kj57 _ _ t549 t565 _ ?side1 ?side2 A66.out).mono ?_); (case side1 => repeat (first | exact (Kd.R_reads' HO_23.out).2.2 | (with_reducible refine Kd.C_alloc ?_ _) | (with_reducible refine Kd.C_drewN ?_ _) | (with_reducible refine Kd.C_drew ?_))); (case side2 => exact (Kd.R_reads' HO_23.out).2.1); rintro e w' ⟨rfl, ⟨nd, rfl⟩⟩; (try first | exact ⟨rfl, _, World.drewN_drewN _ _ _⟩ | exact ⟨rfl, _, Eq.trans (World.drewN_drewN _ _ _) (congrArg (World.drewN _) (Nat.add_assoc _ _ _))⟩); have hcz68_0 : wc.cell? ⟨gb548, 0, none⟩ = some (.slice Ao45 t545.length co45) := (blk_cell BK548.out 0).trans rfl; have hfz68_0 := blk_frozen BK548.out 0)); try go_wp2_with (first | (go_at_call 29; (with_reducible refine (laws_sum.calls kj57 _ _ t549 t565 _ ?side1 ?side2 A66.out).mono ?_); (case side1 => repeat (first | exact (Kd.R_reads' HO_23.out).2.2 | (with_reducible refine Kd.C_alloc ?_ _) | (with_reducible refine Kd.C_drewN ?_ _) | (with_reducible refine Kd.C_drew ?_))); (case side2 => exact (Kd.R_reads' HO_23.out).2.1); rintro e w' ⟨rfl, ⟨nd, rfl⟩⟩; (try first | exact ⟨rfl, _, World.drewN_drewN _ _ _⟩ | exact ⟨rfl, _, Eq.trans (World.drewN_drewN _ _ _) (congrArg (World.drewN _) (Nat.add_assoc _ _ _))⟩); have hcz68_0 : wc.cell? ⟨gb548, 0, none⟩ = some (.slice Ao45 t545.length co45) := (blk_cell BK548.out 0).trans rfl; have hfz68_0 := blk_frozen BK548.out 0)))
                       go_meet
                       case rel => exact ⟨_, ((t565 != (t545.length : Int))), laws_FnTreeCounts.Z6, H', ⟨by have := HJ6.out; have := HJ13.out; have := HJ20.out; have := HJ28.out; have := HJ41.out; have := HJ57.out; first | omega | exact Nat.le_refl _⟩, ⟨by (with_reducible repeat (first | apply Kd.S_alloc | apply Kd.S_drewN | apply Kd.S_drew)); exact Kd.S_mono HO_18.out (fun _ hk => ⟨hk.2.1, hk.2.2⟩)⟩, ⟨by (with_reducible repeat (first | apply Kd.R_alloc | apply Kd.R_drewN | apply Kd.R_drew)); exact Kd.R_mono HO_549000.out (fun _ hk => trivial)⟩, ⟨eb BK548⟩, ⟨el HB⟩⟩
                      ·rw [if_neg c65] at H
                       have c65b0 : (t552 == 0) = false := beq_eq_false_iff_ne.mpr c65
                       have c65b1 : (t552 != 0) = true := bne_iff_ne.mpr c65
                       (first | rw [c65b0] | (simp only [i64_w, i32_w]; rw [c65b0]) | skip)
                       have H' := A_ H
                       clear H
                       go_wp2
                       repeat (go_quiet (fail); try go_wp2)
                       go_meet
                       case rel => exact ⟨_, (false), laws_FnTreeCounts.Z6, H', ⟨by have := HJ6.out; have := HJ13.out; have := HJ20.out; have := HJ28.out; have := HJ41.out; have := HJ57.out; first | omega | exact Nat.le_refl _⟩, ⟨by (with_reducible repeat (first | apply Kd.S_alloc | apply Kd.S_drewN | apply Kd.S_drew)); exact Kd.S_mono HO_18.out (fun _ hk => ⟨hk.2.1, hk.2.2⟩)⟩, ⟨by (with_reducible repeat (first | apply Kd.R_alloc | apply Kd.R_drewN | apply Kd.R_drew)); exact Kd.R_mono HO_549000.out (fun _ hk => trivial)⟩, ⟨eb BK548⟩, ⟨el HB⟩⟩
                    case rest =>
                     as_aux_lemma =>
                      clear HC64
                      try clear c1
                      try clear c2
                      try clear p2
                      try clear c3
                      try clear c5
                      try clear c6
                      try clear c10
                      try clear c10b0
                      try clear c10b1
                      try clear c11
                      try clear c17
                      try clear c17b0
                      try clear c17b1
                      try clear c18
                      try clear c24
                      try clear c24b0
                      try clear c24b1
                      try clear c25
                      try clear c33
                      try clear c33b0
                      try clear c33b1
                      try clear c38
                      try clear c50
                      try clear c50b0
                      try clear c50b1
                      try clear c54
                      try clear c62
                      try clear c62b0
                      try clear c62b1
                      try clear c63
                      try clear c65
                      try clear c65b0
                      try clear c65b1
                      try clear hcz46_0
                      try clear hcz48_0
                      try clear hcz68_0
                      try clear hfz46_0
                      try clear hfz48_0
                      try clear hfz68_0
                      try clear p2
                      obtain ⟨kq, x184_63, rfl, HA, HJ63, HO_18, HO_549000, BK548, HB⟩ := hcut
                      cases kq with
                      | zero => exact absurd HA.out (by simp [laws_FnTreeCounts.j6])
                      | succ kj63 =>
                       have H := HA.out
                       clear HA
                       simp only [laws_FnTreeCounts.j6] at H
                       by_cases c69 : x184_63 = true
                       ·subst c69
                        have H1 : (none) = some r := by rw [if_pos rfl] at H; exact H
                        clear H
                        have H := H1
                        clear H1
                        exact absurd H (by simp)
                       replace c69 := Bool.eq_false_iff.mpr c69
                       subst c69
                       have H1 : (if t537 = 0 then ((impl_CountTrees.f t535).bind fun bt566 => (if bt566.2 = 0 then (if (t536.length : Int) = bt566.1 then (laws_FnTreeCounts.j7 kj63 t521 t523 t524 t528 t532 t561 t562) else (none)) else (none))) else (laws_FnTreeCounts.j7 kj63 t521 t523 t524 t528 t532 t561 t562)) = some r := by rw [if_neg (show ¬ (false = true) by decide)] at H; exact H
                       clear H
                       have H := H1
                       clear H1
                       have HC70 := A_ H
                       clear H
                       go_upto_if 186 with (fail)
                       repeat (go_quiet (fail); go_upto_if 186 with (fail))
                       go_cut [] (fun wc => ∃ (kq : Nat), Aside0 (laws_FnTreeCounts.j7 kq t521 t523 t524 t528 t532 t561 t562 = some r) ∧ Aside0 (kq ≤ kj63) ∧ Aside0 (Kd.R (Kd.int .i64) 2 wc w.heap.size (fun _ => True) (.slice Ao45 t545.length co45) t545) ∧ Aside0 (wc.heap[gb548]? = some (.cells #[(.slice Ao45 t545.length co45)] 26 (0, 0))) ∧ Aside0 (Below w.heap.size w wc))
                       case first =>
                        as_aux_lemma =>
                         have H := HC70.out
                         clear HC70
                         by_cases c71 : t537 = 0
                         ·rw [if_pos c71] at H
                          have c71b0 : (t537 == 0) = true := beq_iff_eq.mpr c71
                          have c71b1 : (t537 != 0) = false := bne_eq_false_iff_eq.mpr c71
                          clear c71
                          (first | rw [c71b0] | (simp only [i64_w, i32_w]; rw [c71b0]) | skip)
                          replace H := Option.bind_eq_some_iff.mp H
                          obtain ⟨⟨t566, t567⟩, A720, H⟩ := H
                          replace H : (if t567 = 0 then (if (t536.length : Int) = t566 then (laws_FnTreeCounts.j7 kj63 t521 t523 t524 t528 t532 t561 t562) else (none)) else (none)) = some r := H
                          have A72 := A_ A720
                          clear A720
                          by_cases c73 : t567 = 0
                          rotate_left
                          ·rw [if_neg c73] at H
                           exact absurd H (by simp)
                          rw [if_pos c73] at H
                          have c73b0 : (t567 == 0) = true := beq_iff_eq.mpr c73
                          have c73b1 : (t567 != 0) = false := bne_eq_false_iff_eq.mpr c73
                          clear c73
                          by_cases c74 : (t536.length : Int) = t566
                          rotate_left
                          ·rw [if_neg c74] at H
                           exact absurd H (by simp)
                          rw [if_pos c74] at H
                          have c74b0 : ((t536.length : Int) == t566) = true := beq_iff_eq.mpr c74
                          have c74b1 : ((t536.length : Int) != t566) = false := bne_eq_false_iff_eq.mpr c74
                          clear c74
                          have H' := A_ H
                          clear H
                          go_wp2_with (first | (go_at_call 83; (with_reducible refine (impl_CountTrees.calls t535 t566 t567 _ A72.out).mono ?_); rintro e w75 ⟨rfl, hb⟩; have n0_ := A_ (Kd.S_below laws_FnTreeCounts.Z5 hb); have n1_ := A_ (Kd.R_below (ea HO_549000) hb); have n2_ := A_ (eB BK548 hb); have n3_ := A_ (below_step (el HB) hb); clear HO_18; clear HO_549000; clear BK548; clear HB; have HO_18 := n0_; have HO_549000 := n1_; have BK548 := n2_; have HB := n3_; clear n0_ n1_ n2_ n3_; (try clear hb); (try clear hb2); (try clear hk); (try clear hi); obtain ⟨Ao76, co76, eo76⟩ := Kd.S_slice HO_18.out; subst eo76))
                          repeat (go_quiet (first | (go_at_call 83; (with_reducible refine (impl_CountTrees.calls t535 t566 t567 _ A72.out).mono ?_); rintro e w75 ⟨rfl, hb⟩; have n0_ := A_ (Kd.S_below laws_FnTreeCounts.Z5 hb); have n1_ := A_ (Kd.R_below (ea HO_549000) hb); have n2_ := A_ (eB BK548 hb); have n3_ := A_ (below_step (el HB) hb); clear HO_18; clear HO_549000; clear BK548; clear HB; have HO_18 := n0_; have HO_549000 := n1_; have BK548 := n2_; have HB := n3_; clear n0_ n1_ n2_ n3_; (try clear hb); (try clear hb2); (try clear hk); (try clear hi); obtain ⟨Ao76, co76, eo76⟩ := Kd.S_slice HO_18.out; subst eo76)); try go_wp2_with (first | (go_at_call 83; (with_reducible refine (impl_CountTrees.calls t535 t566 t567 _ A72.out).mono ?_); rintro e w75 ⟨rfl, hb⟩; have n0_ := A_ (Kd.S_below laws_FnTreeCounts.Z5 hb); have n1_ := A_ (Kd.R_below (ea HO_549000) hb); have n2_ := A_ (eB BK548 hb); have n3_ := A_ (below_step (el HB) hb); clear HO_18; clear HO_549000; clear BK548; clear HB; have HO_18 := n0_; have HO_549000 := n1_; have BK548 := n2_; have HB := n3_; clear n0_ n1_ n2_ n3_; (try clear hb); (try clear hb2); (try clear hk); (try clear hi); obtain ⟨Ao76, co76, eo76⟩ := Kd.S_slice HO_18.out; subst eo76)))
                          go_meet
                          case rel => exact ⟨_, H', ⟨by have := HJ6.out; have := HJ13.out; have := HJ20.out; have := HJ28.out; have := HJ41.out; have := HJ57.out; have := HJ63.out; first | omega | exact Nat.le_refl _⟩, ⟨es HO_549000⟩, ⟨eb BK548⟩, ⟨el HB⟩⟩
                         ·rw [if_neg c71] at H
                          have c71b0 : (t537 == 0) = false := beq_eq_false_iff_ne.mpr c71
                          have c71b1 : (t537 != 0) = true := bne_iff_ne.mpr c71
                          (first | rw [c71b0] | (simp only [i64_w, i32_w]; rw [c71b0]) | skip)
                          have H' := A_ H
                          clear H
                          go_wp2
                          repeat (go_quiet (fail); try go_wp2)
                          go_meet
                          case rel => exact ⟨_, H', ⟨by have := HJ6.out; have := HJ13.out; have := HJ20.out; have := HJ28.out; have := HJ41.out; have := HJ57.out; have := HJ63.out; first | omega | exact Nat.le_refl _⟩, ⟨es HO_549000⟩, ⟨eb BK548⟩, ⟨el HB⟩⟩
                       case rest =>
                        as_aux_lemma =>
                         clear HC70
                         try clear c1
                         try clear c2
                         try clear p2
                         try clear c3
                         try clear c5
                         try clear c6
                         try clear c7
                         try clear c10
                         try clear c10b0
                         try clear c10b1
                         try clear c11
                         try clear c17
                         try clear c17b0
                         try clear c17b1
                         try clear c18
                         try clear c24
                         try clear c24b0
                         try clear c24b1
                         try clear c25
                         try clear c33
                         try clear c33b0
                         try clear c33b1
                         try clear c38
                         try clear c50
                         try clear c50b0
                         try clear c50b1
                         try clear c54
                         try clear c62
                         try clear c62b0
                         try clear c62b1
                         try clear c63
                         try clear c65
                         try clear c65b0
                         try clear c65b1
                         try clear c69
                         try clear c71
                         try clear c71b0
                         try clear c71b1
                         try clear c73
                         try clear c73b0
                         try clear c73b1
                         try clear c74
                         try clear c74b0
                         try clear c74b1
                         try clear hcz46_0
                         try clear hcz48_0
                         try clear hcz68_0
                         try clear hfz46_0
                         try clear hfz48_0
                         try clear hfz68_0
                         try clear p2
                         obtain ⟨kq, HA, HJ69, HO_549000, BK548, HB⟩ := hcut
                         cases kq with
                         | zero => exact absurd HA.out (by simp [laws_FnTreeCounts.j7])
                         | succ kj69 =>
                          have H := HA.out
                          clear HA
                          simp only [laws_FnTreeCounts.j7] at H
                          have HC77 := A_ H
                          clear H
                          go_upto_region 37 with (fail)
                          repeat (go_quiet (fail); go_upto_region 37 with (fail))
                          go_cut [205] (fun v205 wc => ∃ (kq : Nat) (x205_76 : Bool), v205 = .bool x205_76 ∧ Aside0 (laws_FnTreeCounts.j8 kq t521 t523 t524 t528 t532 x205_76 = some r) ∧ Aside0 (kq ≤ kj69) ∧ Aside0 (Kd.R (Kd.int .i64) 2 wc w.heap.size (fun _ => True) (.slice Ao45 t545.length co45) t545) ∧ Aside0 (wc.heap[gb548]? = some (.cells #[(.slice Ao45 t545.length co45)] 26 (0, 0))) ∧ Aside0 (Below w.heap.size w wc))
                          case first =>
                           as_aux_lemma =>
                            have H := HC77.out
                            clear HC77
                            by_cases c78 : t562 = 0
                            ·rw [if_pos c78] at H
                             have c78b0 : (t562 == 0) = true := beq_iff_eq.mpr c78
                             have c78b1 : (t562 != 0) = false := bne_eq_false_iff_eq.mpr c78
                             clear c78
                             (first | rw [c78b0] | (simp only [i64_w, i32_w]; rw [c78b0]) | skip)
                             have H' := A_ H
                             clear H
                             go_wp2
                             repeat (go_quiet (fail); try go_wp2)
                             go_meet
                             case rel => exact ⟨_, (decide (t561 < 1)), laws_FnTreeCounts.Z6, H', ⟨by have := HJ6.out; have := HJ13.out; have := HJ20.out; have := HJ28.out; have := HJ41.out; have := HJ57.out; have := HJ63.out; have := HJ69.out; first | omega | exact Nat.le_refl _⟩, ⟨es HO_549000⟩, ⟨eb BK548⟩, ⟨el HB⟩⟩
                            ·rw [if_neg c78] at H
                             have c78b0 : (t562 == 0) = false := beq_eq_false_iff_ne.mpr c78
                             have c78b1 : (t562 != 0) = true := bne_iff_ne.mpr c78
                             (first | rw [c78b0] | (simp only [i64_w, i32_w]; rw [c78b0]) | skip)
                             have H' := A_ H
                             clear H
                             go_wp2
                             repeat (go_quiet (fail); try go_wp2)
                             go_meet
                             case rel => exact ⟨_, (false), laws_FnTreeCounts.Z6, H', ⟨by have := HJ6.out; have := HJ13.out; have := HJ20.out; have := HJ28.out; have := HJ41.out; have := HJ57.out; have := HJ63.out; have := HJ69.out; first | omega | exact Nat.le_refl _⟩, ⟨es HO_549000⟩, ⟨eb BK548⟩, ⟨el HB⟩⟩
                          case rest =>
                           as_aux_lemma =>
                            clear HC77
                            try clear c1
                            try clear c2
                            try clear p2
                            try clear c3
                            try clear c5
                            try clear c6
                            try clear c7
                            try clear c10
                            try clear c10b0
                            try clear c10b1
                            try clear c11
                            try clear c17
                            try clear c17b0
                            try clear c17b1
                            try clear c18
                            try clear c24
                            try clear c24b0
                            try clear c24b1
                            try clear c25
                            try clear c33
                            try clear c33b0
                            try clear c33b1
                            try clear c38
                            try clear c50
                            try clear c50b0
                            try clear c50b1
                            try clear c54
                            try clear c62
                            try clear c62b0
                            try clear c62b1
                            try clear c63
                            try clear c65
                            try clear c65b0
                            try clear c65b1
                            try clear c69
                            try clear c71
                            try clear c71b0
                            try clear c71b1
                            try clear c73
                            try clear c73b0
                            try clear c73b1
                            try clear c74
                            try clear c74b0
                            try clear c74b1
                            try clear c78
                            try clear c78b0
                            try clear c78b1
                            try clear hcz46_0
                            try clear hcz48_0
                            try clear hcz68_0
                            try clear hfz46_0
                            try clear hfz48_0
                            try clear hfz68_0
                            try clear p2
                            obtain ⟨kq, x205_76, rfl, HA, HJ76, HO_549000, BK548, HB⟩ := hcut
                            cases kq with
                            | zero => exact absurd HA.out (by simp [laws_FnTreeCounts.j8])
                            | succ kj76 =>
                             have H := HA.out
                             clear HA
                             simp only [laws_FnTreeCounts.j8] at H
                             by_cases c79 : x205_76 = true
                             ·subst c79
                              have H1 : (none) = some r := by rw [if_pos rfl] at H; exact H
                              clear H
                              have H := H1
                              clear H1
                              exact absurd H (by simp)
                             replace c79 := Bool.eq_false_iff.mpr c79
                             subst c79
                             have H1 : (if t524 = 0 then ((impl_CountTrees.f t521).bind fun bt568 => (laws_FnTreeCounts.l0 kj76 t521 bt568.1 bt568.2 0 0 0 0)) else (if t523 = 0 then (if t528 = t524 then (some (t532 == t524)) else (none)) else (none))) = some r := by rw [if_neg (show ¬ (false = true) by decide)] at H; exact H
                             clear H
                             have H := H1
                             clear H1
                             by_cases c80 : t524 = 0
                             ·rw [if_pos c80] at H
                              have c80b0 : (t524 == 0) = true := beq_iff_eq.mpr c80
                              have c80b1 : (t524 != 0) = false := bne_eq_false_iff_eq.mpr c80
                              clear c80
                              replace H := Option.bind_eq_some_iff.mp H
                              obtain ⟨⟨t568, t569⟩, A810, H⟩ := H
                              replace H : (laws_FnTreeCounts.l0 kj76 t521 t568 t569 0 0 0 0) = some r := H
                              have A81 := A_ A810
                              clear A810
                              have H' := A_ H
                              clear H
                              go_wp2_with (first | (go_at_call 83; (with_reducible refine (impl_CountTrees.calls t521 t568 t569 _ A81.out).mono ?_); rintro e w82 ⟨rfl, hb⟩; have n0_ := A_ (Kd.R_below (ea HO_549000) hb); have n1_ := A_ (eB BK548 hb); have n2_ := A_ (below_step (el HB) hb); clear HO_549000; clear BK548; clear HB; have HO_549000 := n0_; have BK548 := n1_; have HB := n2_; clear n0_ n1_ n2_; (try clear hb); (try clear hb2); (try clear hk); (try clear hi)))
                              repeat (go_quiet (first | (go_at_call 83; (with_reducible refine (impl_CountTrees.calls t521 t568 t569 _ A81.out).mono ?_); rintro e w82 ⟨rfl, hb⟩; have n0_ := A_ (Kd.R_below (ea HO_549000) hb); have n1_ := A_ (eB BK548 hb); have n2_ := A_ (below_step (el HB) hb); clear HO_549000; clear BK548; clear HB; have HO_549000 := n0_; have BK548 := n1_; have HB := n2_; clear n0_ n1_ n2_; (try clear hb); (try clear hb2); (try clear hk); (try clear hi))); try go_wp2_with (first | (go_at_call 83; (with_reducible refine (impl_CountTrees.calls t521 t568 t569 _ A81.out).mono ?_); rintro e w82 ⟨rfl, hb⟩; have n0_ := A_ (Kd.R_below (ea HO_549000) hb); have n1_ := A_ (eB BK548 hb); have n2_ := A_ (below_step (el HB) hb); clear HO_549000; clear BK548; clear HB; have HO_549000 := n0_; have BK548 := n1_; have HB := n2_; clear n0_ n1_ n2_; (try clear hb); (try clear hb2); (try clear hk); (try clear hi))))
                              go_loopg [36, 37, 38, 39] kj76 (fun kq v36 v37 v38 v39 w' => ∃ (x36_10 : Int) (x37_10 : Int) (x38_10 : Int) (x39_10 : Int), v36 = .int .i64 x36_10 ∧ v37 = .int .i64 x37_10 ∧ v38 = .int .i64 x38_10 ∧ v39 = .int .i64 x39_10 ∧ Aside0 (laws_FnTreeCounts.l0 kq t521 t568 t569 x36_10 x37_10 x38_10 x39_10 = some r) ∧ Aside0 (kq ≤ kj76) ∧ Aside0 (Kd.R (Kd.int .i64) 2 w' w.heap.size (fun _ => True) (.slice Ao45 t545.length co45) t545) ∧ Aside0 (w'.heap[gb548]? = some (.cells #[(.slice Ao45 t545.length co45)] 26 (0, 0))) ∧ Aside0 (Below w.heap.size w w'))
                              case atStart => exact ⟨(0), (0), (0), (0), laws_FnTreeCounts.Z6, laws_FnTreeCounts.Z6, laws_FnTreeCounts.Z6, laws_FnTreeCounts.Z6, H', ⟨Nat.le_refl _⟩, ⟨ea HO_549000⟩, ⟨eb BK548⟩, ⟨el HB⟩⟩
                              case round =>
                               clear H'
                               try clear c1
                               try clear c2
                               try clear p2
                               try clear c3
                               try clear c5
                               try clear c6
                               try clear c7
                               try clear c8
                               try clear c10
                               try clear c10b0
                               try clear c10b1
                               try clear c11
                               try clear c17
                               try clear c17b0
                               try clear c17b1
                               try clear c18
                               try clear c24
                               try clear c24b0
                               try clear c24b1
                               try clear c25
                               try clear c33
                               try clear c33b0
                               try clear c33b1
                               try clear c38
                               try clear c50
                               try clear c50b0
                               try clear c50b1
                               try clear c54
                               try clear c62
                               try clear c62b0
                               try clear c62b1
                               try clear c63
                               try clear c65
                               try clear c65b0
                               try clear c65b1
                               try clear c69
                               try clear c71
                               try clear c71b0
                               try clear c71b1
                               try clear c73
                               try clear c73b0
                               try clear c73b1
                               try clear c74
                               try clear c74b0
                               try clear c74b1
                               try clear c78
                               try clear c78b0
                               try clear c78b1
                               try clear c79
                               try clear c80
                               try clear c80b0
                               try clear c80b1
                               try clear hcz46_0
                               try clear hcz48_0
                               try clear hcz68_0
                               try clear hfz46_0
                               try clear hfz48_0
                               try clear hfz68_0
                               try clear p2
                               obtain ⟨x36_10, x37_10, x38_10, x39_10, rfl, rfl, rfl, rfl, HA, HK10, HO_549000, BK548, HB⟩ := hrel
                               cases gk with
                               | zero => exact absurd HA.out (by simp [laws_FnTreeCounts.l0])
                               | succ k10 =>
                                have H := HA.out
                                clear HA
                                simp only [laws_FnTreeCounts.l0] at H
                                by_cases c83 : x39_10 ≤ t521
                                ·rw [if_pos c83] at H
                                 have c83b0 : decide (x39_10 ≤ t521) = true := decide_eq_true c83
                                 clear c83
                                 replace H := Option.bind_eq_some_iff.mp H
                                 obtain ⟨⟨t570, t571⟩, A840, H⟩ := H
                                 replace H : ((impl_CountByHeight.f k10 t521 x39_10).bind fun bt572 => ((impl_CountByRoot.f t521 x39_10).bind fun bt574 => (if t571 = 0 then (if bt572.2 = 0 then (if bt574.2 = 0 then (laws_FnTreeCounts.l0 k10 t521 t568 t569 (wrap64 (x36_10 + t570)) (wrap64 (x37_10 + bt572.1)) (wrap64 (x38_10 + bt574.1)) (wrap64 (x39_10 + 1))) else (none)) else (none)) else (none)))) = some r := H
                                 have A84 := A_ A840
                                 clear A840
                                 replace H := Option.bind_eq_some_iff.mp H
                                 obtain ⟨⟨t572, t573⟩, A850, H⟩ := H
                                 replace H : ((impl_CountByRoot.f t521 x39_10).bind fun bt574 => (if t571 = 0 then (if t573 = 0 then (if bt574.2 = 0 then (laws_FnTreeCounts.l0 k10 t521 t568 t569 (wrap64 (x36_10 + t570)) (wrap64 (x37_10 + t572)) (wrap64 (x38_10 + bt574.1)) (wrap64 (x39_10 + 1))) else (none)) else (none)) else (none))) = some r := H
                                 have A85 := A_ A850
                                 clear A850
                                 replace H := Option.bind_eq_some_iff.mp H
                                 obtain ⟨⟨t574, t575⟩, A860, H⟩ := H
                                 replace H : (if t571 = 0 then (if t573 = 0 then (if t575 = 0 then (laws_FnTreeCounts.l0 k10 t521 t568 t569 (wrap64 (x36_10 + t570)) (wrap64 (x37_10 + t572)) (wrap64 (x38_10 + t574)) (wrap64 (x39_10 + 1))) else (none)) else (none)) else (none)) = some r := H
                                 have A86 := A_ A860
                                 clear A860
                                 by_cases c87 : t571 = 0
                                 rotate_left
                                 ·rw [if_neg c87] at H
                                  exact absurd H (by simp)
                                 rw [if_pos c87] at H
                                 have c87b0 : (t571 == 0) = true := beq_iff_eq.mpr c87
                                 have c87b1 : (t571 != 0) = false := bne_eq_false_iff_eq.mpr c87
                                 clear c87
                                 by_cases c88 : t573 = 0
                                 rotate_left
                                 ·rw [if_neg c88] at H
                                  exact absurd H (by simp)
                                 rw [if_pos c88] at H
                                 have c88b0 : (t573 == 0) = true := beq_iff_eq.mpr c88
                                 have c88b1 : (t573 != 0) = false := bne_eq_false_iff_eq.mpr c88
                                 clear c88
                                 by_cases c89 : t575 = 0
                                 rotate_left
                                 ·rw [if_neg c89] at H
                                  exact absurd H (by simp)
                                 rw [if_pos c89] at H
                                 have c89b0 : (t575 == 0) = true := beq_iff_eq.mpr c89
                                 have c89b1 : (t575 != 0) = false := bne_eq_false_iff_eq.mpr c89
                                 clear c89
                                 have H' := A_ H
                                 clear H
                                 go_wp2_with (first | (go_at_call 67; (with_reducible refine (impl_CountByLeaves.calls k10 t521 x39_10 t570 t571 _ A84.out).mono ?_); rintro e w' ⟨rfl, ⟨nd, rfl⟩⟩; (try first | exact ⟨rfl, _, World.drewN_drewN _ _ _⟩ | exact ⟨rfl, _, Eq.trans (World.drewN_drewN _ _ _) (congrArg (World.drewN _) (Nat.add_assoc _ _ _))⟩)) | (go_at_call 69; (with_reducible refine (impl_CountByHeight.calls k10 t521 x39_10 t572 t573 _ A85.out).mono ?_); rintro e w90 ⟨rfl, hb⟩; have n0_ := A_ (Kd.R_below (ea HO_549000) hb); have n1_ := A_ (eB BK548 hb); have n2_ := A_ (below_step (el HB) hb); clear HO_549000; clear BK548; clear HB; have HO_549000 := n0_; have BK548 := n1_; have HB := n2_; clear n0_ n1_ n2_; (try clear hb); (try clear hb2); (try clear hk); (try clear hi)) | (go_at_call 71; (with_reducible refine (impl_CountByRoot.calls t521 x39_10 t574 t575 _ A86.out).mono ?_); rintro e w91 ⟨rfl, hb⟩; have n0_ := A_ (Kd.R_below (ea HO_549000) hb); have n1_ := A_ (eB BK548 hb); have n2_ := A_ (below_step (el HB) hb); clear HO_549000; clear BK548; clear HB; have HO_549000 := n0_; have BK548 := n1_; have HB := n2_; clear n0_ n1_ n2_; (try clear hb); (try clear hb2); (try clear hk); (try clear hi)))
                                 repeat (go_quiet (first | (go_at_call 67; (with_reducible refine (impl_CountByLeaves.calls k10 t521 x39_10 t570 t571 _ A84.out).mono ?_); rintro e w' ⟨rfl, ⟨nd, rfl⟩⟩; (try first | exact ⟨rfl, _, World.drewN_drewN _ _ _⟩ | exact ⟨rfl, _, Eq.trans (World.drewN_drewN _ _ _) (congrArg (World.drewN _) (Nat.add_assoc _ _ _))⟩)) | (go_at_call 69; (with_reducible refine (impl_CountByHeight.calls k10 t521 x39_10 t572 t573 _ A85.out).mono ?_); rintro e w90 ⟨rfl, hb⟩; have n0_ := A_ (Kd.R_below (ea HO_549000) hb); have n1_ := A_ (eB BK548 hb); have n2_ := A_ (below_step (el HB) hb); clear HO_549000; clear BK548; clear HB; have HO_549000 := n0_; have BK548 := n1_; have HB := n2_; clear n0_ n1_ n2_; (try clear hb); (try clear hb2); (try clear hk); (try clear hi)) | (go_at_call 71; (with_reducible refine (impl_CountByRoot.calls t521 x39_10 t574 t575 _ A86.out).mono ?_); rintro e w91 ⟨rfl, hb⟩; have n0_ := A_ (Kd.R_below (ea HO_549000) hb); have n1_ := A_ (eB BK548 hb); have n2_ := A_ (below_step (el HB) hb); clear HO_549000; clear BK548; clear HB; have HO_549000 := n0_; have BK548 := n1_; have HB := n2_; clear n0_ n1_ n2_; (try clear hb); (try clear hb2); (try clear hk); (try clear hi))); try go_wp2_with (first | (go_at_call 67; (with_reducible refine (impl_CountByLeaves.calls k10 t521 x39_10 t570 t571 _ A84.out).mono ?_); rintro e w' ⟨rfl, ⟨nd, rfl⟩⟩; (try first | exact ⟨rfl, _, World.drewN_drewN _ _ _⟩ | exact ⟨rfl, _, Eq.trans (World.drewN_drewN _ _ _) (congrArg (World.drewN _) (Nat.add_assoc _ _ _))⟩)) | (go_at_call 69; (with_reducible refine (impl_CountByHeight.calls k10 t521 x39_10 t572 t573 _ A85.out).mono ?_); rintro e w90 ⟨rfl, hb⟩; have n0_ := A_ (Kd.R_below (ea HO_549000) hb); have n1_ := A_ (eB BK548 hb); have n2_ := A_ (below_step (el HB) hb); clear HO_549000; clear BK548; clear HB; have HO_549000 := n0_; have BK548 := n1_; have HB := n2_; clear n0_ n1_ n2_; (try clear hb); (try clear hb2); (try clear hk); (try clear hi)) | (go_at_call 71; (with_reducible refine (impl_CountByRoot.calls t521 x39_10 t574 t575 _ A86.out).mono ?_); rintro e w91 ⟨rfl, hb⟩; have n0_ := A_ (Kd.R_below (ea HO_549000) hb); have n1_ := A_ (eB BK548 hb); have n2_ := A_ (below_step (el HB) hb); clear HO_549000; clear BK548; clear HB; have HO_549000 := n0_; have BK548 := n1_; have HB := n2_; clear n0_ n1_ n2_; (try clear hb); (try clear hb2); (try clear hk); (try clear hi))))
                                 go_roundg k10
                                 case measure => have := HJ6.out; have := HJ13.out; have := HJ20.out; have := HJ28.out; have := HJ41.out; have := HJ57.out; have := HJ63.out; have := HJ69.out; have := HJ76.out; have := HK10.out; omega
                                 case rel => exact ⟨(wrap64 (x36_10 + t570)), (wrap64 (x37_10 + t572)), (wrap64 (x38_10 + t574)), (wrap64 (x39_10 + 1)), laws_FnTreeCounts.Z6, laws_FnTreeCounts.Z6, laws_FnTreeCounts.Z6, laws_FnTreeCounts.Z6, H', ⟨by have := HJ6.out; have := HJ13.out; have := HJ20.out; have := HJ28.out; have := HJ41.out; have := HJ57.out; have := HJ63.out; have := HJ69.out; have := HJ76.out; have := HK10.out; omega⟩, ⟨es HO_549000⟩, ⟨eb BK548⟩, ⟨el HB⟩⟩
                                ·rw [if_neg c83] at H
                                 have c83b0 : decide (x39_10 ≤ t521) = false := decide_eq_false c83
                                 clear c83
                                 by_cases c92 : t569 = 0
                                 rotate_left
                                 ·rw [if_neg c92] at H
                                  exact absurd H (by simp)
                                 rw [if_pos c92] at H
                                 have c92b0 : (t569 == 0) = true := beq_iff_eq.mpr c92
                                 have c92b1 : (t569 != 0) = false := bne_eq_false_iff_eq.mpr c92
                                 clear c92
                                 by_cases c93 : x36_10 = t568
                                 rotate_left
                                 ·rw [if_neg c93] at H
                                  exact absurd H (by simp)
                                 rw [if_pos c93] at H
                                 have c93b0 : (x36_10 == t568) = true := beq_iff_eq.mpr c93
                                 have c93b1 : (x36_10 != t568) = false := bne_eq_false_iff_eq.mpr c93
                                 clear c93
                                 by_cases c94 : x37_10 = t568
                                 rotate_left
                                 ·rw [if_neg c94] at H
                                  exact absurd H (by simp)
                                 rw [if_pos c94] at H
                                 have c94b0 : (x37_10 == t568) = true := beq_iff_eq.mpr c94
                                 have c94b1 : (x37_10 != t568) = false := bne_eq_false_iff_eq.mpr c94
                                 clear c94
                                 obtain rfl := Option.some.inj H
                                 go_wp2
                                 repeat (go_quiet (fail); try go_wp2)
                                 go_ret
                                 exact ⟨er, el HB⟩
                             ·rw [if_neg c80] at H
                              have c80b0 : (t524 == 0) = false := beq_eq_false_iff_ne.mpr c80
                              have c80b1 : (t524 != 0) = true := bne_iff_ne.mpr c80
                              by_cases c95 : t523 = 0
                              ·rw [if_pos c95] at H
                               have c95b0 : (t523 == 0) = true := beq_iff_eq.mpr c95
                               have c95b1 : (t523 != 0) = false := bne_eq_false_iff_eq.mpr c95
                               clear c95
                               by_cases c96 : t528 = t524
                               rotate_left
                               ·rw [if_neg c96] at H
                                exact absurd H (by simp)
                               rw [if_pos c96] at H
                               have c96b0 : (t528 == t524) = true := beq_iff_eq.mpr c96
                               have c96b1 : (t528 != t524) = false := bne_eq_false_iff_eq.mpr c96
                               clear c96
                               obtain rfl := Option.some.inj H
                               go_wp2
                               repeat (go_quiet (fail); try go_wp2)
                               go_ret
                               exact ⟨er, el HB⟩
                              ·rw [if_neg c95] at H
                               exact absurd H (by simp)

/-- THE ONE PURE STATEMENT of laws_FnTreeCounts: yours. -/
def laws_FnTreeCounts.Pure : Prop := ∀ (l0 : List Int), l0.length ≤ maxLen → l0.length * 1 ≤ 140737488351232 → (∀ x ∈ l0, (Lit.int .u8 x).wf = true) → ∃ k, laws_FnTreeCounts.f k l0 = some true
theorem laws_FnTreeCounts.walk (P : laws_FnTreeCounts.Pure) (a0 : Option Addr) (len0 cap0 : Nat) (z0 : List Int) (w : World) (w0 : (a0 = none ∧ len0 = 0 ∧ cap0 = 0 ∧ z0 = []) ∨ ∃ x, a0 = some x ∧ len0 ≤ cap0 ∧ cap0 ≤ maxLen ∧ z0.length = cap0 ∧ (∀ i, i < z0.length → w.cell? (x.add i) = some (.int .u8 (z0.getD i 0))) ∧ ∀ n ∈ z0, (Lit.int .u8 n).wf = true) (y0 : len0 * 1 ≤ 140737488351232) :
  Calls Try.prog 5 #[.slice a0 len0 cap0] w fun e w' => e = .returned (.bool true) ∧ Below w.heap.size w w' := by
 obtain ⟨l0, rfl, hr0, hm0, hw0, hc0⟩ := ReadsInt.ofRowC w0
 obtain ⟨k, h⟩ := P l0 hm0 y0 hw0
 refine (laws_FnTreeCounts.calls k _ _ l0 true w (Kd.C_of_reads (d := (0 : Int)) (h1 := fun _ => rfl) hr0) hc0 h).mono ?_
 rintro e w' ⟨rfl, hd⟩
 exact ⟨rfl, hd⟩

end Go.Proofs.Ytocachknmgefaaa.QFnTreeCounts
