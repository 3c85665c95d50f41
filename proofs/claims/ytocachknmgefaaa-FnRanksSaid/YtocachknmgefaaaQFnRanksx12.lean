/- Functions of the program as plain Lean functions, each with a proof that the machine's call answers what it answers. Conditions: none. -/
import Derived.Test.YtocachknmgefaaaQFnRanksx0
import Derived.Test.YtocachknmgefaaaQFnRanksx1
import Derived.Test.YtocachknmgefaaaQFnRanksx2
import Derived.Test.YtocachknmgefaaaQFnRanksx5
import Derived.Test.YtocachknmgefaaaQFnRanksx6
import Derived.Test.YtocachknmgefaaaQFnRanksx7
import Derived.Test.YtocachknmgefaaaQFnRanksx9
import Derived.Test.YtocachknmgefaaaQFnRanksx10
import Derived.Test.YtocachknmgefaaaQFnRanksx11
namespace Go.Proofs.Ytocachknmgefaaa.QFnRanks
open Go.RowKit Go.Proofs.YtocachknmgefaaaW.PrintWords Go.Proofs.YtocachknmgefaaaW.PrintLast Go.Proofs.YtocachknmgefaaaW.PrintMore
attribute [local go_sem] max2_int min2_int max_two min_two max_three min_three max_four min_four   -- for this text's walks alone
set_option linter.unusedVariables false
set_option linter.unusedSimpArgs false

/-! ### laws_FnRanks: function 6 -/
mutual
def laws_FnRanks.j0 : Nat → List Int → Int → Int → Bool → List Int → Option (Bool)
  | 0, _, _, _, _, _ => none
  | k + 1, x0, x4, x5, x62, x437000 => if x62 = true then (none) else ((impl_NextTree.f k x437000).bind fun bt441 => ((spec_NextTree.f k x437000).bind fun bt446 => (if bt441.2 = bt446.2 then ((laws_tree9.f k bt441.1 bt446.1).bind fun t451 => (laws_FnRanks.j1 k x0 x4 x5 bt441.2 (!t451) x437000 bt441.1)) else (laws_FnRanks.j1 k x0 x4 x5 bt441.2 true x437000 bt441.1))))
def laws_FnRanks.j1 : Nat → List Int → Int → Int → Int → Bool → List Int → List Int → Option (Bool)
  | 0, _, _, _, _, _, _, _ => none
  | k + 1, x0, x4, x5, x9, x81, x437000, x446000 => if x81 = true then (none) else ((spec_DrawTreeOfRank.f k x0).bind fun bt452 => ((impl_TreeOfRank.f k bt452.1 bt452.2).bind fun bt454 => ((spec_TreeOfRank.f k bt452.1 bt452.2).bind fun bt459 => (if bt454.2 = bt459.2 then ((laws_tree9.f k bt454.1 bt459.1).bind fun t464 => (laws_FnRanks.j2 k x0 x4 x5 x9 bt452.2 bt454.2 (!t464) x437000 x446000 bt454.1)) else (laws_FnRanks.j2 k x0 x4 x5 x9 bt452.2 bt454.2 true x437000 x446000 bt454.1)))))
def laws_FnRanks.j2 : Nat → List Int → Int → Int → Int → Int → Int → Bool → List Int → List Int → List Int → Option (Bool)
  | 0, _, _, _, _, _, _, _, _, _, _ => none
  | k + 1, x0, x4, x5, x9, x13, x15, x107, x437000, x446000, x459000 => if x107 = true then (none) else ((spec_DrawFirstTree.f k x0).bind fun t465 => ((impl_FirstTree.f t465).bind fun bt466 => ((spec_FirstTree.f k t465).bind fun bt471 => (if bt466.2 = bt471.2 then ((laws_tree9.f k bt466.1 bt471.1).bind fun t476 => (laws_FnRanks.j3 k x4 x5 x9 x13 x15 t465 bt466.2 (!t476) x437000 x446000 x459000 bt466.1)) else (laws_FnRanks.j3 k x4 x5 x9 x13 x15 t465 bt466.2 true x437000 x446000 x459000 bt466.1)))))
def laws_FnRanks.j3 : Nat → Int → Int → Int → Int → Int → Int → Int → Bool → List Int → List Int → List Int → List Int → Option (Bool)
  | 0, _, _, _, _, _, _, _, _, _, _, _, _ => none
  | k + 1, x4, x5, x9, x13, x15, x18, x20, x128, x437000, x446000, x459000, x471000 => if x128 = true then (none) else ((impl_LastTree.f x18).bind fun bt477 => ((spec_LastTree.f x18).bind fun bt482 => (if bt477.2 = bt482.2 then ((laws_tree9.f k bt477.1 bt482.1).bind fun t487 => (laws_FnRanks.j4 k x4 x5 x9 x13 x15 x18 x20 (!t487) x437000 x446000 x459000 x471000 bt477.1)) else (laws_FnRanks.j4 k x4 x5 x9 x13 x15 x18 x20 true x437000 x446000 x459000 x471000 bt477.1))))
def laws_FnRanks.j4 : Nat → Int → Int → Int → Int → Int → Int → Int → Bool → List Int → List Int → List Int → List Int → List Int → Option (Bool)
  | 0, _, _, _, _, _, _, _, _, _, _, _, _, _ => none
  | k + 1, x4, x5, x9, x13, x15, x18, x20, x147, x437000, x446000, x459000, x471000, x482000 => if x147 = true then (none) else (if x15 = 0 then ((impl_RankOfTree.f k x459000).bind fun bt488 => (if bt488.2 = 0 then (if bt488.1 = x13 then (laws_FnRanks.j5 k x4 x5 x9 x18 x20 x437000 x446000 x471000 x482000) else (none)) else (none))) else (laws_FnRanks.j5 k x4 x5 x9 x18 x20 x437000 x446000 x471000 x482000))
def laws_FnRanks.j5 : Nat → Int → Int → Int → Int → Int → List Int → List Int → List Int → List Int → Option (Bool)
  | 0, _, _, _, _, _, _, _, _, _ => none
  | k + 1, x4, x5, x9, x18, x20, x437000, x446000, x471000, x482000 => if x20 = 0 then ((impl_RankOfTree.f k x471000).bind fun bt490 => ((impl_RankOfTree.f k x482000).bind fun bt492 => ((impl_CountTrees.f x18).bind fun bt494 => (if bt490.2 = 0 then (if bt492.2 = 0 then (if bt494.2 = 0 then (if bt490.1 = 0 then (if bt492.1 = (wrap64 (bt494.1 - 1)) then (laws_FnRanks.j6 k x4 x5 x9 x437000 x446000) else (none)) else (none)) else (none)) else (none)) else (none))))) else (laws_FnRanks.j6 k x4 x5 x9 x437000 x446000)
def laws_FnRanks.j6 : Nat → Int → Int → Int → List Int → List Int → Option (Bool)
  | 0, _, _, _, _, _ => none
  | k + 1, x4, x5, x9, x437000, x446000 => if x5 = 0 then (if x9 = 0 then ((impl_RankOfTree.f k x446000).bind fun bt496 => ((impl_CompareTrees.f k x437000 x446000).bind fun bt498 => (if bt496.2 = 0 then (if bt496.1 = (wrap64 (x4 + 1)) then (if bt498.2 = 0 then (some (bt498.1 == (-1))) else (none)) else (none)) else (none)))) else ((impl_LastTree.f (x437000.length : Int)).bind fun bt500 => (if x9 = 4 then (if bt500.2 = 0 then ((laws_tree9.f k bt500.1 x437000).bind fun t505 => (some t505)) else (none)) else (none)))) else (if x4 = 0 then (some (x9 == x5)) else (none))
end
def laws_FnRanks.f (k : Nat) (l0 : List Int) : Option (Bool) := (laws_big.f l0).bind fun t432 => (if t432 = true then (some true) else ((spec_DrawRankOfTree.f k l0).bind fun t433 => ((impl_RankOfTree.f k t433).bind fun bt437 => ((spec_RankOfTree.f k t433).bind fun bt439 => (if bt437.2 = bt439.2 then (laws_FnRanks.j0 k l0 bt437.1 bt437.2 (bt437.1 != bt439.1) t433) else (laws_FnRanks.j0 k l0 bt437.1 bt437.2 true t433))))))
theorem laws_FnRanks.mono_l : ∀ k, (∀ y0 y1 y2 y3 y4, LeO (laws_FnRanks.j0 k y0 y1 y2 y3 y4) (laws_FnRanks.j0 (k + 1) y0 y1 y2 y3 y4)) ∧ (∀ y0 y1 y2 y3 y4 y5 y6, LeO (laws_FnRanks.j1 k y0 y1 y2 y3 y4 y5 y6) (laws_FnRanks.j1 (k + 1) y0 y1 y2 y3 y4 y5 y6)) ∧ (∀ y0 y1 y2 y3 y4 y5 y6 y7 y8 y9, LeO (laws_FnRanks.j2 k y0 y1 y2 y3 y4 y5 y6 y7 y8 y9) (laws_FnRanks.j2 (k + 1) y0 y1 y2 y3 y4 y5 y6 y7 y8 y9)) ∧ (∀ y0 y1 y2 y3 y4 y5 y6 y7 y8 y9 y10 y11, LeO (laws_FnRanks.j3 k y0 y1 y2 y3 y4 y5 y6 y7 y8 y9 y10 y11) (laws_FnRanks.j3 (k + 1) y0 y1 y2 y3 y4 y5 y6 y7 y8 y9 y10 y11)) ∧ (∀ y0 y1 y2 y3 y4 y5 y6 y7 y8 y9 y10 y11 y12, LeO (laws_FnRanks.j4 k y0 y1 y2 y3 y4 y5 y6 y7 y8 y9 y10 y11 y12) (laws_FnRanks.j4 (k + 1) y0 y1 y2 y3 y4 y5 y6 y7 y8 y9 y10 y11 y12)) ∧ (∀ y0 y1 y2 y3 y4 y5 y6 y7 y8, LeO (laws_FnRanks.j5 k y0 y1 y2 y3 y4 y5 y6 y7 y8) (laws_FnRanks.j5 (k + 1) y0 y1 y2 y3 y4 y5 y6 y7 y8)) ∧ (∀ y0 y1 y2 y3 y4, LeO (laws_FnRanks.j6 k y0 y1 y2 y3 y4) (laws_FnRanks.j6 (k + 1) y0 y1 y2 y3 y4))
  | 0 => ⟨fun _ _ _ _ _ r h => by simp [laws_FnRanks.j0] at h, fun _ _ _ _ _ _ _ r h => by simp [laws_FnRanks.j1] at h, fun _ _ _ _ _ _ _ _ _ _ r h => by simp [laws_FnRanks.j2] at h, fun _ _ _ _ _ _ _ _ _ _ _ _ r h => by simp [laws_FnRanks.j3] at h, fun _ _ _ _ _ _ _ _ _ _ _ _ _ r h => by simp [laws_FnRanks.j4] at h, fun _ _ _ _ _ _ _ _ _ r h => by simp [laws_FnRanks.j5] at h, fun _ _ _ _ _ r h => by simp [laws_FnRanks.j6] at h⟩
  | k + 1 => by
    obtain ⟨ih0, ih1, ih2, ih3, ih4, ih5, ih6⟩ := laws_FnRanks.mono_l k
    refine ⟨?_, ?_, ?_, ?_, ?_, ?_, ?_⟩
    · intro y0 y1 y2 y3 y4
      unfold laws_FnRanks.j0
      repeat' first
      | (with_reducible exact ih0 _ _ _ _ _)
      | (with_reducible exact ih1 _ _ _ _ _ _ _)
      | (with_reducible exact ih2 _ _ _ _ _ _ _ _ _ _)
      | (with_reducible exact ih3 _ _ _ _ _ _ _ _ _ _ _ _)
      | (with_reducible exact ih4 _ _ _ _ _ _ _ _ _ _ _ _ _)
      | (with_reducible exact ih5 _ _ _ _ _ _ _ _ _)
      | (with_reducible exact ih6 _ _ _ _ _)
      | (with_reducible exact impl_CompareTrees.mono _ _ _)
      | (with_reducible exact impl_NextTree.mono _ _)
      | (with_reducible exact impl_RankOfTree.mono _ _)
      | (with_reducible exact impl_TreeOfRank.mono _ _ _)
      | (with_reducible exact laws_tree9.mono _ _ _)
      | (with_reducible exact spec_DrawFirstTree.mono _ _)
      | (with_reducible exact spec_DrawRankOfTree.mono _ _)
      | (with_reducible exact spec_DrawTreeOfRank.mono _ _)
      | (with_reducible exact spec_FirstTree.mono _ _)
      | (with_reducible exact spec_NextTree.mono _ _)
      | (with_reducible exact spec_RankOfTree.mono _ _)
      | (with_reducible exact spec_TreeOfRank.mono _ _ _)
      | (with_reducible exact LeO.refl _)
      | (with_reducible exact LeO.none _)
      | (with_reducible refine LeO.ite ?_ ?_)
      | (with_reducible refine LeO.bind ?_ (fun _ => ?_))
      | exact ih0 _ _ _ _ _
      | exact ih1 _ _ _ _ _ _ _
      | exact ih2 _ _ _ _ _ _ _ _ _ _
      | exact ih3 _ _ _ _ _ _ _ _ _ _ _ _
      | exact ih4 _ _ _ _ _ _ _ _ _ _ _ _ _
      | exact ih5 _ _ _ _ _ _ _ _ _
      | exact ih6 _ _ _ _ _
      | exact impl_CompareTrees.mono _ _ _
      | exact impl_NextTree.mono _ _
      | exact impl_RankOfTree.mono _ _
      | exact impl_TreeOfRank.mono _ _ _
      | exact laws_tree9.mono _ _ _
      | exact spec_DrawFirstTree.mono _ _
      | exact spec_DrawRankOfTree.mono _ _
      | exact spec_DrawTreeOfRank.mono _ _
      | exact spec_FirstTree.mono _ _
      | exact spec_NextTree.mono _ _
      | exact spec_RankOfTree.mono _ _
      | exact spec_TreeOfRank.mono _ _ _
      | exact LeO.none _
      | refine LeO.ite ?_ ?_
      | refine LeO.bind ?_ (fun _ => ?_)
    · intro y0 y1 y2 y3 y4 y5 y6
      unfold laws_FnRanks.j1
      repeat' first
      | (with_reducible exact ih0 _ _ _ _ _)
      | (with_reducible exact ih1 _ _ _ _ _ _ _)
      | (with_reducible exact ih2 _ _ _ _ _ _ _ _ _ _)
      | (with_reducible exact ih3 _ _ _ _ _ _ _ _ _ _ _ _)
      | (with_reducible exact ih4 _ _ _ _ _ _ _ _ _ _ _ _ _)
      | (with_reducible exact ih5 _ _ _ _ _ _ _ _ _)
      | (with_reducible exact ih6 _ _ _ _ _)
      | (with_reducible exact impl_CompareTrees.mono _ _ _)
      | (with_reducible exact impl_NextTree.mono _ _)
      | (with_reducible exact impl_RankOfTree.mono _ _)
      | (with_reducible exact impl_TreeOfRank.mono _ _ _)
      | (with_reducible exact laws_tree9.mono _ _ _)
      | (with_reducible exact spec_DrawFirstTree.mono _ _)
      | (with_reducible exact spec_DrawRankOfTree.mono _ _)
      | (with_reducible exact spec_DrawTreeOfRank.mono _ _)
      | (with_reducible exact spec_FirstTree.mono _ _)
      | (with_reducible exact spec_NextTree.mono _ _)
      | (with_reducible exact spec_RankOfTree.mono _ _)
      | (with_reducible exact spec_TreeOfRank.mono _ _ _)
      | (with_reducible exact LeO.refl _)
      | (with_reducible exact LeO.none _)
      | (with_reducible refine LeO.ite ?_ ?_)
      | (with_reducible refine LeO.bind ?_ (fun _ => ?_))
      | exact ih0 _ _ _ _ _
      | exact ih1 _ _ _ _ _ _ _
      | exact ih2 _ _ _ _ _ _ _ _ _ _
      | exact ih3 _ _ _ _ _ _ _ _ _ _ _ _
      | exact ih4 _ _ _ _ _ _ _ _ _ _ _ _ _
      | exact ih5 _ _ _ _ _ _ _ _ _
      | exact ih6 _ _ _ _ _
      | exact impl_CompareTrees.mono _ _ _
      | exact impl_NextTree.mono _ _
      | exact impl_RankOfTree.mono _ _
      | exact impl_TreeOfRank.mono _ _ _
      | exact laws_tree9.mono _ _ _
      | exact spec_DrawFirstTree.mono _ _
      | exact spec_DrawRankOfTree.mono _ _
      | exact spec_DrawTreeOfRank.mono _ _
      | exact spec_FirstTree.mono _ _
      | exact spec_NextTree.mono _ _
      | exact spec_RankOfTree.mono _ _
      | exact spec_TreeOfRank.mono _ _ _
      | exact LeO.none _
      | refine LeO.ite ?_ ?_
      | refine LeO.bind ?_ (fun _ => ?_)
    · intro y0 y1 y2 y3 y4 y5 y6 y7 y8 y9
      unfold laws_FnRanks.j2
      repeat' first
      | (with_reducible exact ih0 _ _ _ _ _)
      | (with_reducible exact ih1 _ _ _ _ _ _ _)
      | (with_reducible exact ih2 _ _ _ _ _ _ _ _ _ _)
      | (with_reducible exact ih3 _ _ _ _ _ _ _ _ _ _ _ _)
      | (with_reducible exact ih4 _ _ _ _ _ _ _ _ _ _ _ _ _)
      | (with_reducible exact ih5 _ _ _ _ _ _ _ _ _)
      | (with_reducible exact ih6 _ _ _ _ _)
      | (with_reducible exact impl_CompareTrees.mono _ _ _)
      | (with_reducible exact impl_NextTree.mono _ _)
      | (with_reducible exact impl_RankOfTree.mono _ _)
      | (with_reducible exact impl_TreeOfRank.mono _ _ _)
      | (with_reducible exact laws_tree9.mono _ _ _)
      | (with_reducible exact spec_DrawFirstTree.mono _ _)
      | (with_reducible exact spec_DrawRankOfTree.mono _ _)
      | (with_reducible exact spec_DrawTreeOfRank.mono _ _)
      | (with_reducible exact spec_FirstTree.mono _ _)
      | (with_reducible exact spec_NextTree.mono _ _)
      | (with_reducible exact spec_RankOfTree.mono _ _)
      | (with_reducible exact spec_TreeOfRank.mono _ _ _)
      | (with_reducible exact LeO.refl _)
      | (with_reducible exact LeO.none _)
      | (with_reducible refine LeO.ite ?_ ?_)
      | (with_reducible refine LeO.bind ?_ (fun _ => ?_))
      | exact ih0 _ _ _ _ _
      | exact ih1 _ _ _ _ _ _ _
      | exact ih2 _ _ _ _ _ _ _ _ _ _
      | exact ih3 _ _ _ _ _ _ _ _ _ _ _ _
      | exact ih4 _ _ _ _ _ _ _ _ _ _ _ _ _
      | exact ih5 _ _ _ _ _ _ _ _ _
      | exact ih6 _ _ _ _ _
      | exact impl_CompareTrees.mono _ _ _
      | exact impl_NextTree.mono _ _
      | exact impl_RankOfTree.mono _ _
      | exact impl_TreeOfRank.mono _ _ _
      | exact laws_tree9.mono _ _ _
      | exact spec_DrawFirstTree.mono _ _
      | exact spec_DrawRankOfTree.mono _ _
      | exact spec_DrawTreeOfRank.mono _ _
      | exact spec_FirstTree.mono _ _
      | exact spec_NextTree.mono _ _
      | exact spec_RankOfTree.mono _ _
      | exact spec_TreeOfRank.mono _ _ _
      | exact LeO.none _
      | refine LeO.ite ?_ ?_
      | refine LeO.bind ?_ (fun _ => ?_)
    · intro y0 y1 y2 y3 y4 y5 y6 y7 y8 y9 y10 y11
      unfold laws_FnRanks.j3
      repeat' first
      | (with_reducible exact ih0 _ _ _ _ _)
      | (with_reducible exact ih1 _ _ _ _ _ _ _)
      | (with_reducible exact ih2 _ _ _ _ _ _ _ _ _ _)
      | (with_reducible exact ih3 _ _ _ _ _ _ _ _ _ _ _ _)
      | (with_reducible exact ih4 _ _ _ _ _ _ _ _ _ _ _ _ _)
      | (with_reducible exact ih5 _ _ _ _ _ _ _ _ _)
      | (with_reducible exact ih6 _ _ _ _ _)
      | (with_reducible exact impl_CompareTrees.mono _ _ _)
      | (with_reducible exact impl_NextTree.mono _ _)
      | (with_reducible exact impl_RankOfTree.mono _ _)
      | (with_reducible exact impl_TreeOfRank.mono _ _ _)
      | (with_reducible exact laws_tree9.mono _ _ _)
      | (with_reducible exact spec_DrawFirstTree.mono _ _)
      | (with_reducible exact spec_DrawRankOfTree.mono _ _)
      | (with_reducible exact spec_DrawTreeOfRank.mono _ _)
      | (with_reducible exact spec_FirstTree.mono _ _)
      | (with_reducible exact spec_NextTree.mono _ _)
      | (with_reducible exact spec_RankOfTree.mono _ _)
      | (with_reducible exact spec_TreeOfRank.mono _ _ _)
      | (with_reducible exact LeO.refl _)
      | (with_reducible exact LeO.none _)
      | (with_reducible refine LeO.ite ?_ ?_)
      | (with_reducible refine LeO.bind ?_ (fun _ => ?_))
      | exact ih0 _ _ _ _ _
      | exact ih1 _ _ _ _ _ _ _
      | exact ih2 _ _ _ _ _ _ _ _ _ _
      | exact ih3 _ _ _ _ _ _ _ _ _ _ _ _
      | exact ih4 _ _ _ _ _ _ _ _ _ _ _ _ _
      | exact ih5 _ _ _ _ _ _ _ _ _
      | exact ih6 _ _ _ _ _
      | exact impl_CompareTrees.mono _ _ _
      | exact impl_NextTree.mono _ _
      | exact impl_RankOfTree.mono _ _
      | exact impl_TreeOfRank.mono _ _ _
      | exact laws_tree9.mono _ _ _
      | exact spec_DrawFirstTree.mono _ _
      | exact spec_DrawRankOfTree.mono _ _
      | exact spec_DrawTreeOfRank.mono _ _
      | exact spec_FirstTree.mono _ _
      | exact spec_NextTree.mono _ _
      | exact spec_RankOfTree.mono _ _
      | exact spec_TreeOfRank.mono _ _ _
      | exact LeO.none _
      | refine LeO.ite ?_ ?_
      | refine LeO.bind ?_ (fun _ => ?_)
    · intro y0 y1 y2 y3 y4 y5 y6 y7 y8 y9 y10 y11 y12
      unfold laws_FnRanks.j4
      repeat' first
      | (with_reducible exact ih0 _ _ _ _ _)
      | (with_reducible exact ih1 _ _ _ _ _ _ _)
      | (with_reducible exact ih2 _ _ _ _ _ _ _ _ _ _)
      | (with_reducible exact ih3 _ _ _ _ _ _ _ _ _ _ _ _)
      | (with_reducible exact ih4 _ _ _ _ _ _ _ _ _ _ _ _ _)
      | (with_reducible exact ih5 _ _ _ _ _ _ _ _ _)
      | (with_reducible exact ih6 _ _ _ _ _)
      | (with_reducible exact impl_CompareTrees.mono _ _ _)
      | (with_reducible exact impl_NextTree.mono _ _)
      | (with_reducible exact impl_RankOfTree.mono _ _)
      | (with_reducible exact impl_TreeOfRank.mono _ _ _)
      | (with_reducible exact laws_tree9.mono _ _ _)
      | (with_reducible exact spec_DrawFirstTree.mono _ _)
      | (with_reducible exact spec_DrawRankOfTree.mono _ _)
      | (with_reducible exact spec_DrawTreeOfRank.mono _ _)
      | (with_reducible exact spec_FirstTree.mono _ _)
      | (with_reducible exact spec_NextTree.mono _ _)
      | (with_reducible exact spec_RankOfTree.mono _ _)
      | (with_reducible exact spec_TreeOfRank.mono _ _ _)
      | (with_reducible exact LeO.refl _)
      | (with_reducible exact LeO.none _)
      | (with_reducible refine LeO.ite ?_ ?_)
      | (with_reducible refine LeO.bind ?_ (fun _ => ?_))
      | exact ih0 _ _ _ _ _
      | exact ih1 _ _ _ _ _ _ _
      | exact ih2 _ _ _ _ _ _ _ _ _ _
      | exact ih3 _ _ _ _ _ _ _ _ _ _ _ _
      | exact ih4 _ _ _ _ _ _ _ _ _ _ _ _ _
      | exact ih5 _ _ _ _ _ _ _ _ _
      | exact ih6 _ _ _ _ _
      | exact impl_CompareTrees.mono _ _ _
      | exact impl_NextTree.mono _ _
      | exact impl_RankOfTree.mono _ _
      | exact impl_TreeOfRank.mono _ _ _
      | exact laws_tree9.mono _ _ _
      | exact spec_DrawFirstTree.mono _ _
      | exact spec_DrawRankOfTree.mono _ _
      | exact spec_DrawTreeOfRank.mono _ _
      | exact spec_FirstTree.mono _ _
      | exact spec_NextTree.mono _ _
      | exact spec_RankOfTree.mono _ _
      | exact spec_TreeOfRank.mono _ _ _
      | exact LeO.none _
      | refine LeO.ite ?_ ?_
      | refine LeO.bind ?_ (fun _ => ?_)
    · intro y0 y1 y2 y3 y4 y5 y6 y7 y8
      unfold laws_FnRanks.j5
      repeat' first
      | (with_reducible exact ih0 _ _ _ _ _)
      | (with_reducible exact ih1 _ _ _ _ _ _ _)
      | (with_reducible exact ih2 _ _ _ _ _ _ _ _ _ _)
      | (with_reducible exact ih3 _ _ _ _ _ _ _ _ _ _ _ _)
      | (with_reducible exact ih4 _ _ _ _ _ _ _ _ _ _ _ _ _)
      | (with_reducible exact ih5 _ _ _ _ _ _ _ _ _)
      | (with_reducible exact ih6 _ _ _ _ _)
      | (with_reducible exact impl_CompareTrees.mono _ _ _)
      | (with_reducible exact impl_NextTree.mono _ _)
      | (with_reducible exact impl_RankOfTree.mono _ _)
      | (with_reducible exact impl_TreeOfRank.mono _ _ _)
      | (with_reducible exact laws_tree9.mono _ _ _)
      | (with_reducible exact spec_DrawFirstTree.mono _ _)
      | (with_reducible exact spec_DrawRankOfTree.mono _ _)
      | (with_reducible exact spec_DrawTreeOfRank.mono _ _)
      | (with_reducible exact spec_FirstTree.mono _ _)
      | (with_reducible exact spec_NextTree.mono _ _)
      | (with_reducible exact spec_RankOfTree.mono _ _)
      | (with_reducible exact spec_TreeOfRank.mono _ _ _)
      | (with_reducible exact LeO.refl _)
      | (with_reducible exact LeO.none _)
      | (with_reducible refine LeO.ite ?_ ?_)
      | (with_reducible refine LeO.bind ?_ (fun _ => ?_))
      | exact ih0 _ _ _ _ _
      | exact ih1 _ _ _ _ _ _ _
      | exact ih2 _ _ _ _ _ _ _ _ _ _
      | exact ih3 _ _ _ _ _ _ _ _ _ _ _ _
      | exact ih4 _ _ _ _ _ _ _ _ _ _ _ _ _
      | exact ih5 _ _ _ _ _ _ _ _ _
      | exact ih6 _ _ _ _ _
      | exact impl_CompareTrees.mono _ _ _
      | exact impl_NextTree.mono _ _
      | exact impl_RankOfTree.mono _ _
      | exact impl_TreeOfRank.mono _ _ _
      | exact laws_tree9.mono _ _ _
      | exact spec_DrawFirstTree.mono _ _
      | exact spec_DrawRankOfTree.mono _ _
      | exact spec_DrawTreeOfRank.mono _ _
      | exact spec_FirstTree.mono _ _
      | exact spec_NextTree.mono _ _
      | exact spec_RankOfTree.mono _ _
      | exact spec_TreeOfRank.mono _ _ _
      | exact LeO.none _
      | refine LeO.ite ?_ ?_
      | refine LeO.bind ?_ (fun _ => ?_)
    · intro y0 y1 y2 y3 y4
      unfold laws_FnRanks.j6
      repeat' first
      | (with_reducible exact ih0 _ _ _ _ _)
      | (with_reducible exact ih1 _ _ _ _ _ _ _)
      | (with_reducible exact ih2 _ _ _ _ _ _ _ _ _ _)
      | (with_reducible exact ih3 _ _ _ _ _ _ _ _ _ _ _ _)
      | (with_reducible exact ih4 _ _ _ _ _ _ _ _ _ _ _ _ _)
      | (with_reducible exact ih5 _ _ _ _ _ _ _ _ _)
      | (with_reducible exact ih6 _ _ _ _ _)
      | (with_reducible exact impl_CompareTrees.mono _ _ _)
      | (with_reducible exact impl_NextTree.mono _ _)
      | (with_reducible exact impl_RankOfTree.mono _ _)
      | (with_reducible exact impl_TreeOfRank.mono _ _ _)
      | (with_reducible exact laws_tree9.mono _ _ _)
      | (with_reducible exact spec_DrawFirstTree.mono _ _)
      | (with_reducible exact spec_DrawRankOfTree.mono _ _)
      | (with_reducible exact spec_DrawTreeOfRank.mono _ _)
      | (with_reducible exact spec_FirstTree.mono _ _)
      | (with_reducible exact spec_NextTree.mono _ _)
      | (with_reducible exact spec_RankOfTree.mono _ _)
      | (with_reducible exact spec_TreeOfRank.mono _ _ _)
      | (with_reducible exact LeO.refl _)
      | (with_reducible exact LeO.none _)
      | (with_reducible refine LeO.ite ?_ ?_)
      | (with_reducible refine LeO.bind ?_ (fun _ => ?_))
      | exact ih0 _ _ _ _ _
      | exact ih1 _ _ _ _ _ _ _
      | exact ih2 _ _ _ _ _ _ _ _ _ _
      | exact ih3 _ _ _ _ _ _ _ _ _ _ _ _
      | exact ih4 _ _ _ _ _ _ _ _ _ _ _ _ _
      | exact ih5 _ _ _ _ _ _ _ _ _
      | exact ih6 _ _ _ _ _
      | exact impl_CompareTrees.mono _ _ _
      | exact impl_NextTree.mono _ _
      | exact impl_RankOfTree.mono _ _
      | exact impl_TreeOfRank.mono _ _ _
      | exact laws_tree9.mono _ _ _
      | exact spec_DrawFirstTree.mono _ _
      | exact spec_DrawRankOfTree.mono _ _
      | exact spec_DrawTreeOfRank.mono _ _
      | exact spec_FirstTree.mono _ _
      | exact spec_NextTree.mono _ _
      | exact spec_RankOfTree.mono _ _
      | exact spec_TreeOfRank.mono _ _ _
      | exact LeO.none _
      | refine LeO.ite ?_ ?_
      | refine LeO.bind ?_ (fun _ => ?_)
theorem laws_FnRanks.mono : ∀ a0 k, LeO (laws_FnRanks.f k a0) (laws_FnRanks.f (k + 1) a0) := by
  intro a0 k
  obtain ⟨ih0, ih1, ih2, ih3, ih4, ih5, ih6⟩ := laws_FnRanks.mono_l k
  unfold laws_FnRanks.f
  repeat' first
      | (with_reducible exact ih0 _ _ _ _ _)
      | (with_reducible exact ih1 _ _ _ _ _ _ _)
      | (with_reducible exact ih2 _ _ _ _ _ _ _ _ _ _)
      | (with_reducible exact ih3 _ _ _ _ _ _ _ _ _ _ _ _)
      | (with_reducible exact ih4 _ _ _ _ _ _ _ _ _ _ _ _ _)
      | (with_reducible exact ih5 _ _ _ _ _ _ _ _ _)
      | (with_reducible exact ih6 _ _ _ _ _)
      | (with_reducible exact impl_CompareTrees.mono _ _ _)
      | (with_reducible exact impl_NextTree.mono _ _)
      | (with_reducible exact impl_RankOfTree.mono _ _)
      | (with_reducible exact impl_TreeOfRank.mono _ _ _)
      | (with_reducible exact laws_tree9.mono _ _ _)
      | (with_reducible exact spec_DrawFirstTree.mono _ _)
      | (with_reducible exact spec_DrawRankOfTree.mono _ _)
      | (with_reducible exact spec_DrawTreeOfRank.mono _ _)
      | (with_reducible exact spec_FirstTree.mono _ _)
      | (with_reducible exact spec_NextTree.mono _ _)
      | (with_reducible exact spec_RankOfTree.mono _ _)
      | (with_reducible exact spec_TreeOfRank.mono _ _ _)
      | (with_reducible exact LeO.refl _)
      | (with_reducible exact LeO.none _)
      | (with_reducible refine LeO.ite ?_ ?_)
      | (with_reducible refine LeO.bind ?_ (fun _ => ?_))
      | exact ih0 _ _ _ _ _
      | exact ih1 _ _ _ _ _ _ _
      | exact ih2 _ _ _ _ _ _ _ _ _ _
      | exact ih3 _ _ _ _ _ _ _ _ _ _ _ _
      | exact ih4 _ _ _ _ _ _ _ _ _ _ _ _ _
      | exact ih5 _ _ _ _ _ _ _ _ _
      | exact ih6 _ _ _ _ _
      | exact impl_CompareTrees.mono _ _ _
      | exact impl_NextTree.mono _ _
      | exact impl_RankOfTree.mono _ _
      | exact impl_TreeOfRank.mono _ _ _
      | exact laws_tree9.mono _ _ _
      | exact spec_DrawFirstTree.mono _ _
      | exact spec_DrawRankOfTree.mono _ _
      | exact spec_DrawTreeOfRank.mono _ _
      | exact spec_FirstTree.mono _ _
      | exact spec_NextTree.mono _ _
      | exact spec_RankOfTree.mono _ _
      | exact spec_TreeOfRank.mono _ _ _
      | exact LeO.none _
      | refine LeO.ite ?_ ?_
      | refine LeO.bind ?_ (fun _ => ?_)
theorem laws_FnRanks.Z0 {p : Prop} (h : p := by (with_reducible repeat (first | apply Kd.R_alloc | apply Kd.R_drewN | apply Kd.R_drew)); exact (Kd.R_mono (Kd.R_far (p := ⟨gb481, 0, none⟩) (Kd.R_types HO_437000.out BK481.out (by decide)) (fun _ hk => hk.2) (.slice Ao121 t477.length co121)) (fun _ h_ => h_.1))) : p := h
theorem laws_FnRanks.Z1 {p : Prop} (h : p := by (with_reducible repeat (first | apply Kd.R_alloc | apply Kd.R_drewN | apply Kd.R_drew)); exact (Kd.R_mono (Kd.R_far (p := ⟨gb481, 0, none⟩) (Kd.R_types HO_446000.out BK481.out (by decide)) (fun _ hk => hk.2) (.slice Ao121 t477.length co121)) (fun _ h_ => h_.1))) : p := h
theorem laws_FnRanks.Z2 {p : Prop} (h : p := by (with_reducible repeat (first | apply Kd.R_alloc | apply Kd.R_drewN | apply Kd.R_drew)); exact (Kd.R_mono (Kd.R_far (p := ⟨gb481, 0, none⟩) (Kd.R_types HO_451000.out BK481.out (by decide)) (fun _ hk => hk.2) (.slice Ao121 t477.length co121)) (fun _ h_ => h_.1))) : p := h
theorem laws_FnRanks.Z3 {p : Prop} (h : p := by (with_reducible repeat (first | apply Kd.R_alloc | apply Kd.R_drewN | apply Kd.R_drew)); exact (Kd.R_mono (Kd.R_far (p := ⟨gb481, 0, none⟩) (Kd.R_types HO_459000.out BK481.out (by decide)) (fun _ hk => hk.2) (.slice Ao121 t477.length co121)) (fun _ h_ => h_.1))) : p := h
theorem laws_FnRanks.Z4 {p : Prop} (h : p := by (with_reducible repeat (first | apply Kd.R_alloc | apply Kd.R_drewN | apply Kd.R_drew)); exact (Kd.R_mono (Kd.R_far (p := ⟨gb481, 0, none⟩) (Kd.R_types HO_464000.out BK481.out (by decide)) (fun _ hk => hk.2) (.slice Ao121 t477.length co121)) (fun _ h_ => h_.1))) : p := h
theorem laws_FnRanks.Z5 {p : Prop} (h : p := by (with_reducible repeat (first | apply Kd.R_alloc | apply Kd.R_drewN | apply Kd.R_drew)); exact (Kd.R_mono (Kd.R_far (p := ⟨gb481, 0, none⟩) (Kd.R_types HO_471000.out BK481.out (by decide)) (fun _ hk => hk.2) (.slice Ao121 t477.length co121)) (fun _ h_ => h_.1))) : p := h
theorem laws_FnRanks.Z6 {p : Prop} (h : p := by (with_reducible repeat (first | apply Kd.R_alloc | apply Kd.R_drewN | apply Kd.R_drew)); exact (Kd.R_mono (Kd.R_far (p := ⟨gb481, 0, none⟩) (Kd.R_types HO_476000.out BK481.out (by decide)) (fun _ hk => hk.2) (.slice Ao121 t477.length co121)) (fun _ h_ => h_.1))) : p := h
theorem laws_FnRanks.Z7 {p : Prop} (h : p := by (with_reducible repeat (first | apply Kd.R_alloc | apply Kd.R_drewN | apply Kd.R_drew)); exact (Kd.R_mono (Kd.R_far (p := ⟨gb504, 0, none⟩) (Kd.R_types HO_437000.out BK504.out (by decide)) (fun _ hk => hk.2) (.slice Ao250 t500.length co250)) (fun _ h_ => h_.1))) : p := h
theorem laws_FnRanks.Z8 {p : Prop} (h : p := by (with_reducible repeat (first | apply Kd.R_alloc | apply Kd.R_drewN | apply Kd.R_drew)); exact (Kd.R_mono (Kd.R_far (p := ⟨gb458, 0, none⟩) (Kd.R_types HO_437000.out BK458.out (by decide)) (fun _ hk => hk.2) (.slice Ao49 t454.length co49)) (fun _ h_ => h_.1))) : p := h
theorem laws_FnRanks.Z9 {p : Prop} (h : p := by (with_reducible repeat (first | apply Kd.R_alloc | apply Kd.R_drewN | apply Kd.R_drew)); exact (Kd.R_mono (Kd.R_far (p := ⟨gb458, 0, none⟩) (Kd.R_types HO_446000.out BK458.out (by decide)) (fun _ hk => hk.2) (.slice Ao49 t454.length co49)) (fun _ h_ => h_.1))) : p := h
theorem laws_FnRanks.Z10 {p : Prop} (h : p := by (with_reducible repeat (first | apply Kd.R_alloc | apply Kd.R_drewN | apply Kd.R_drew)); exact (Kd.R_mono (Kd.R_far (p := ⟨gb458, 0, none⟩) (Kd.R_types HO_451000.out BK458.out (by decide)) (fun _ hk => hk.2) (.slice Ao49 t454.length co49)) (fun _ h_ => h_.1))) : p := h
theorem laws_FnRanks.Z11 {p : Prop} (h : p := by (with_reducible repeat (first | apply Kd.R_alloc | apply Kd.R_drewN | apply Kd.R_drew)); exact (Kd.R_mono (Kd.R_far (p := ⟨gb470, 0, none⟩) (Kd.R_types HO_437000.out BK470.out (by decide)) (fun _ hk => hk.2) (.slice Ao82 t466.length co82)) (fun _ h_ => h_.1))) : p := h
theorem laws_FnRanks.Z12 {p : Prop} (h : p := by (with_reducible repeat (first | apply Kd.R_alloc | apply Kd.R_drewN | apply Kd.R_drew)); exact (Kd.R_mono (Kd.R_far (p := ⟨gb470, 0, none⟩) (Kd.R_types HO_446000.out BK470.out (by decide)) (fun _ hk => hk.2) (.slice Ao82 t466.length co82)) (fun _ h_ => h_.1))) : p := h
theorem laws_FnRanks.Z13 {p : Prop} (h : p := by (with_reducible repeat (first | apply Kd.R_alloc | apply Kd.R_drewN | apply Kd.R_drew)); exact (Kd.R_mono (Kd.R_far (p := ⟨gb470, 0, none⟩) (Kd.R_types HO_451000.out BK470.out (by decide)) (fun _ hk => hk.2) (.slice Ao82 t466.length co82)) (fun _ h_ => h_.1))) : p := h
theorem laws_FnRanks.Z14 {p : Prop} (h : p := by (with_reducible repeat (first | apply Kd.R_alloc | apply Kd.R_drewN | apply Kd.R_drew)); exact (Kd.R_mono (Kd.R_far (p := ⟨gb470, 0, none⟩) (Kd.R_types HO_459000.out BK470.out (by decide)) (fun _ hk => hk.2) (.slice Ao82 t466.length co82)) (fun _ h_ => h_.1))) : p := h
theorem laws_FnRanks.Z15 {p : Prop} (h : p := by (with_reducible repeat (first | apply Kd.R_alloc | apply Kd.R_drewN | apply Kd.R_drew)); exact (Kd.R_mono (Kd.R_far (p := ⟨gb470, 0, none⟩) (Kd.R_types HO_464000.out BK470.out (by decide)) (fun _ hk => hk.2) (.slice Ao82 t466.length co82)) (fun _ h_ => h_.1))) : p := h
theorem laws_FnRanks.Z16 {p : Prop} (h : p := by (with_reducible repeat (first | apply Kd.R_alloc | apply Kd.R_drewN | apply Kd.R_drew)); exact (Kd.R_mono (Kd.R_far (p := ⟨gb445, 0, none⟩) (Kd.R_types HO_437000.out BK445.out (by decide)) (fun _ hk => hk.2) (.slice Ao23 t441.length co23)) (fun _ h_ => h_.1))) : p := h
theorem laws_FnRanks.Z17 {p : Prop} (h : p := by (with_reducible repeat (first | apply Kd.R_alloc | apply Kd.R_drewN | apply Kd.R_drew)); exact (Kd.R_mono (Kd.R_far (p := ⟨gb481, 0, none⟩) (Kd.R_types HO479.out BK481.out (by decide)) (fun _ hk => hk.2) (.slice Ao121 t477.length co121)) (fun _ h_ => h_.1))) : p := h
theorem laws_FnRanks.Z18 {p : Prop} (h : p := by (with_reducible repeat (first | apply Kd.R_alloc | apply Kd.R_drewN | apply Kd.R_drew)); exact (Kd.R_mono (Kd.R_far (p := ⟨gb486, 0, none⟩) (Kd.R_types HO479.out BK486.out (by decide)) (fun _ hk => hk.2) (.slice Ao132 t482.length co132)) (fun _ h_ => h_.1))) : p := h
theorem laws_FnRanks.Z19 {p : Prop} (h : p := by (with_reducible repeat (first | apply Kd.R_alloc | apply Kd.R_drewN | apply Kd.R_drew)); exact (Kd.R_mono (Kd.R_far (p := ⟨gb486, 0, none⟩) (Kd.R_types HO484.out BK486.out (by decide)) (fun _ hk => hk.2) (.slice Ao132 t482.length co132)) (fun _ h_ => h_.1))) : p := h
theorem laws_FnRanks.Z20 {p : Prop} (h : p := by (with_reducible repeat (first | apply Kd.R_alloc | apply Kd.R_drewN | apply Kd.R_drew)); exact (Kd.R_mono (Kd.R_far (p := ⟨gb504, 0, none⟩) (Kd.R_types HO502.out BK504.out (by decide)) (fun _ hk => hk.2) (.slice Ao250 t500.length co250)) (fun _ h_ => h_.1))) : p := h
theorem laws_FnRanks.Z21 {p : Prop} (h : p := by (with_reducible repeat (first | apply Kd.R_alloc | apply Kd.R_drewN | apply Kd.R_drew)); exact (Kd.R_mono (Kd.R_far (p := ⟨gb436, 0, none⟩) (Kd.R_types HO435.out BK436.out (by decide)) (fun _ hk => hk.2) (.slice Ao10 t433.length co10)) (fun _ h_ => h_.1))) : p := h
theorem laws_FnRanks.Z22 {p : Prop} (h : p := by (with_reducible repeat (first | apply Kd.R_alloc | apply Kd.R_drewN | apply Kd.R_drew)); exact (Kd.R_mono (Kd.R_far (p := ⟨gb445, 0, none⟩) (Kd.R_types HO443.out BK445.out (by decide)) (fun _ hk => hk.2) (.slice Ao23 t441.length co23)) (fun _ h_ => h_.1))) : p := h
theorem laws_FnRanks.Z23 {p : Prop} (h : p := by (with_reducible repeat (first | apply Kd.R_alloc | apply Kd.R_drewN | apply Kd.R_drew)); exact (Kd.R_mono (Kd.R_far (p := ⟨gb450, 0, none⟩) (Kd.R_types HO443.out BK450.out (by decide)) (fun _ hk => hk.2) (.slice Ao29 t446.length co29)) (fun _ h_ => h_.1))) : p := h
theorem laws_FnRanks.Z24 {p : Prop} (h : p := by (with_reducible repeat (first | apply Kd.R_alloc | apply Kd.R_drewN | apply Kd.R_drew)); exact (Kd.R_mono (Kd.R_far (p := ⟨gb450, 0, none⟩) (Kd.R_types HO448.out BK450.out (by decide)) (fun _ hk => hk.2) (.slice Ao29 t446.length co29)) (fun _ h_ => h_.1))) : p := h
theorem laws_FnRanks.Z25 {p : Prop} (h : p := by (with_reducible repeat (first | apply Kd.R_alloc | apply Kd.R_drewN | apply Kd.R_drew)); exact (Kd.R_mono (Kd.R_far (p := ⟨gb458, 0, none⟩) (Kd.R_types HO456.out BK458.out (by decide)) (fun _ hk => hk.2) (.slice Ao49 t454.length co49)) (fun _ h_ => h_.1))) : p := h
theorem laws_FnRanks.Z26 {p : Prop} (h : p := by (with_reducible repeat (first | apply Kd.R_alloc | apply Kd.R_drewN | apply Kd.R_drew)); exact (Kd.R_mono (Kd.R_far (p := ⟨gb463, 0, none⟩) (Kd.R_types HO456.out BK463.out (by decide)) (fun _ hk => hk.2) (.slice Ao56 t459.length co56)) (fun _ h_ => h_.1))) : p := h
theorem laws_FnRanks.Z27 {p : Prop} (h : p := by (with_reducible repeat (first | apply Kd.R_alloc | apply Kd.R_drewN | apply Kd.R_drew)); exact (Kd.R_mono (Kd.R_far (p := ⟨gb463, 0, none⟩) (Kd.R_types HO461.out BK463.out (by decide)) (fun _ hk => hk.2) (.slice Ao56 t459.length co56)) (fun _ h_ => h_.1))) : p := h
theorem laws_FnRanks.Z28 {p : Prop} (h : p := by (with_reducible repeat (first | apply Kd.R_alloc | apply Kd.R_drewN | apply Kd.R_drew)); exact (Kd.R_mono (Kd.R_far (p := ⟨gb470, 0, none⟩) (Kd.R_types HO468.out BK470.out (by decide)) (fun _ hk => hk.2) (.slice Ao82 t466.length co82)) (fun _ h_ => h_.1))) : p := h
theorem laws_FnRanks.Z29 {p : Prop} (h : p := by (with_reducible repeat (first | apply Kd.R_alloc | apply Kd.R_drewN | apply Kd.R_drew)); exact (Kd.R_mono (Kd.R_far (p := ⟨gb475, 0, none⟩) (Kd.R_types HO468.out BK475.out (by decide)) (fun _ hk => hk.2) (.slice Ao91 t471.length co91)) (fun _ h_ => h_.1))) : p := h
theorem laws_FnRanks.Z30 {p : Prop} (h : p := by (with_reducible repeat (first | apply Kd.R_alloc | apply Kd.R_drewN | apply Kd.R_drew)); exact (Kd.R_mono (Kd.R_far (p := ⟨gb475, 0, none⟩) (Kd.R_types HO473.out BK475.out (by decide)) (fun _ hk => hk.2) (.slice Ao91 t471.length co91)) (fun _ h_ => h_.1))) : p := h
theorem laws_FnRanks.Z31 {p : Prop} (h : p := by first | rfl | (simp; done) | (simp [*]; done)) : p := h
set_option maxHeartbeats 8000000 in
set_option maxRecDepth 100000 in
theorem laws_FnRanks.calls (k : Nat) (A0 : Option Addr) (c0 : Nat) (l0 : List Int) (r : Bool) (w : World) (hr0 : Kd.C (Kd.int .u8) w A0 l0.length l0) (hc0 : l0.length ≤ c0) (h : laws_FnRanks.f k l0 = some r) :
  Calls Try.prog 6 #[.slice A0 l0.length c0] w fun e w' => e = .returned (.bool r) ∧ Below w.heap.size w w' := by
 have hu26 := Try.underlying26
 have HR0 := A_ hr0
 have HC0 := A_ hc0
 clear hr0 hc0
 have HB := A_ (Below.refl w.heap.size w)
 have H : ((laws_big.f l0).bind fun t432 => (if t432 = true then (some true) else ((spec_DrawRankOfTree.f k l0).bind fun t433 => ((impl_RankOfTree.f k t433).bind fun bt437 => ((spec_RankOfTree.f k t433).bind fun bt439 => (if bt437.2 = bt439.2 then (laws_FnRanks.j0 k l0 bt437.1 bt437.2 (bt437.1 != bt439.1) t433) else (laws_FnRanks.j0 k l0 bt437.1 bt437.2 true t433))))))) = some r := h
 clear h
 replace H := Option.bind_eq_some_iff.mp H
 obtain ⟨t432, A20, H⟩ := H
 replace H : (if t432 = true then (some true) else ((spec_DrawRankOfTree.f k l0).bind fun t433 => ((impl_RankOfTree.f k t433).bind fun bt437 => ((spec_RankOfTree.f k t433).bind fun bt439 => (if bt437.2 = bt439.2 then (laws_FnRanks.j0 k l0 bt437.1 bt437.2 (bt437.1 != bt439.1) t433) else (laws_FnRanks.j0 k l0 bt437.1 bt437.2 true t433)))))) = some r := H
 have A2 := A_ A20
 clear A20
 by_cases c3 : t432 = true
 ·subst c3
  have H1 : (some true) = some r := by rw [if_pos rfl] at H; exact H
  clear H
  have H := H1
  clear H1
  obtain rfl := Option.some.inj H
  go_enter Try.func6, Try.ntmps6
  go_wp2_with (first | ((with_reducible refine gate_callee (f := 7) rfl ?_); refine goesL_ (some 42) rfl rfl Try.func7 (by kernel_rfl) rfl #[.slice A0 l0.length c0] rfl eg ?_; (with_reducible refine (laws_big.calls _ _ l0 true _ ?side1 ?side2 A2.out).mono ?_); (case side1 => repeat (first | exact HR0.out | (with_reducible refine Kd.C_alloc ?_ _) | (with_reducible refine Kd.C_drewN ?_ _) | (with_reducible refine Kd.C_drew ?_))); (case side2 => exact HC0.out); rintro e w' ⟨rfl, ⟨nd, rfl⟩⟩; refine ⟨_, rfl, ?_⟩))
  go_ret
  exact ⟨er, el HB⟩
 ·replace c3 := Bool.eq_false_iff.mpr c3
  subst c3
  have H1 : ((spec_DrawRankOfTree.f k l0).bind fun t433 => ((impl_RankOfTree.f k t433).bind fun bt437 => ((spec_RankOfTree.f k t433).bind fun bt439 => (if bt437.2 = bt439.2 then (laws_FnRanks.j0 k l0 bt437.1 bt437.2 (bt437.1 != bt439.1) t433) else (laws_FnRanks.j0 k l0 bt437.1 bt437.2 true t433))))) = some r := by rw [if_neg (show ¬ (false = true) by decide)] at H; exact H
  clear H
  have H := H1
  clear H1
  replace H := Option.bind_eq_some_iff.mp H
  obtain ⟨t433, A40, H⟩ := H
  replace H : ((impl_RankOfTree.f k t433).bind fun bt437 => ((spec_RankOfTree.f k t433).bind fun bt439 => (if bt437.2 = bt439.2 then (laws_FnRanks.j0 k l0 bt437.1 bt437.2 (bt437.1 != bt439.1) t433) else (laws_FnRanks.j0 k l0 bt437.1 bt437.2 true t433)))) = some r := H
  have A4 := A_ A40
  clear A40
  replace H := Option.bind_eq_some_iff.mp H
  obtain ⟨⟨t437, t438⟩, A50, H⟩ := H
  replace H : ((spec_RankOfTree.f k t433).bind fun bt439 => (if t438 = bt439.2 then (laws_FnRanks.j0 k l0 t437 t438 (t437 != bt439.1) t433) else (laws_FnRanks.j0 k l0 t437 t438 true t433))) = some r := H
  have A5 := A_ A50
  clear A50
  replace H := Option.bind_eq_some_iff.mp H
  obtain ⟨⟨t439, t440⟩, A60, H⟩ := H
  replace H : (if t438 = t440 then (laws_FnRanks.j0 k l0 t437 t438 (t437 != t439) t433) else (laws_FnRanks.j0 k l0 t437 t438 true t433)) = some r := H
  have A6 := A_ A60
  clear A60
  have HC7 := A_ H
  clear H
  go_enter Try.func6, Try.ntmps6
  go_upto_region 6 with (first | ((with_reducible refine gate_callee (f := 7) rfl ?_); refine goesL_ (some 42) rfl rfl Try.func7 (by kernel_rfl) rfl #[.slice A0 l0.length c0] rfl eg ?_; (with_reducible refine (laws_big.calls _ _ l0 false _ ?side1 ?side2 A2.out).mono ?_); (case side1 => repeat (first | exact HR0.out | (with_reducible refine Kd.C_alloc ?_ _) | (with_reducible refine Kd.C_drewN ?_ _) | (with_reducible refine Kd.C_drew ?_))); (case side2 => exact HC0.out); rintro e w' ⟨rfl, ⟨nd, rfl⟩⟩; refine ⟨_, rfl, ?_⟩) | ((with_reducible refine gate_callee (f := 84) rfl ?_); refine goesL_ (some 44) rfl rfl Try.func84 (by kernel_rfl) rfl #[.slice A0 l0.length c0] rfl eg ?_; (with_reducible refine (spec_DrawRankOfTree.calls k _ _ l0 t433 _ ?side1 ?side2 A4.out).mono ?_); (case side1 => repeat (first | exact HR0.out | (with_reducible refine Kd.C_alloc ?_ _) | (with_reducible refine Kd.C_drewN ?_ _) | (with_reducible refine Kd.C_drew ?_))); (case side2 => exact HC0.out); rintro e w8 ⟨v434, rfl, ho0, hb⟩; refine ⟨_, rfl, ?_⟩; have n0_ := A_ (Kd.R_lower ho0 (below_size (el HB))); have n1_ := A_ (below_step (el HB) hb); clear HB; have HO435 := n0_; have HB := n1_; clear n0_ n1_; (try clear hb); (try clear hb2); (try clear hk); (try clear hi); (try clear ho0)) | ((with_reducible refine gate_dst (N := 3) rfl ?_); refine box_event ?hg (N := 3) ?hd (cs := #[.slice none 0 0]) (t := 26) ?hr ?_; (case hd => rfl); (case hg => rfl); (case hr => first | (go_simp; done) | (go_simp; rfl)); intro gb436 hg w9 hbox hb; have n0_ := A_ (Kd.R_below (ea HO435) hb); have n1_ := A_ (below_step (el HB) hb); have n2_ := A_ (hbox); have n3_ := A_ ((by rw [hg]; exact (below_size (el HB)) : w.heap.size ≤ gb436)); have n4_ := A_ ((by rw [hg]; exact (below_size (el HB)) : w.heap.size ≤ gb436)); clear HO435; clear HB; have HO435 := n0_; have HB := n1_; have BK436 := n2_; have GW436 := n3_; have GE436 := n4_; clear n0_ n1_ n2_ n3_ n4_; clear hb hbox hg; obtain ⟨Ao10, co10, eo10⟩ := Kd.R_slice HO435.out; subst eo10; have hcz11_0 : w9.cell? ⟨gb436, 0, none⟩ = some (.slice none 0 0) := (blk_cell BK436.out 0).trans rfl; have hfz11_0 := blk_frozen BK436.out 0) | ((with_reducible refine gate_callee (f := 85) rfl ?_); refine goesL_ (some 47) rfl rfl Try.func85 (by kernel_rfl) rfl #[.agg #[.slice Ao10 t433.length co10]] rfl eg ?_; (with_reducible refine (impl_RankOfTree.calls k _ _ t433 t437 t438 _ ?side1 ?side2 A5.out).mono ?_); (case side1 => refine (Kd.R_reads' (e := 2) (base := w.heap.size) (ok := fun k_ => True) (n := t433.length) (c := co10) ?_).2.2; exact laws_FnRanks.Z21); (case side2 => exact (Kd.R_reads' HO435.out).2.1); rintro e w12 ⟨rfl, hb⟩; refine ⟨_, rfl, ?_⟩; have n0_ := A_ (Kd.R_below laws_FnRanks.Z21 hb); have n1_ := A_ (blk_below (g := gb436) (o := .cells #[.slice Ao10 t433.length co10] 26 (0, 0)) (by (with_reducible repeat (first | refine blk_drewN ?_ _ | refine blk_drew ?_ | refine blk_alloc ?_ _)); refine blk_put (cs := #[.slice none 0 0]) ?_ 0 _ rfl; (with_reducible repeat (first | refine blk_drewN ?_ _ | refine blk_drew ?_ | refine blk_alloc ?_ _)); exact BK436.out) hb); have n2_ := A_ (below_step (el HB) hb); clear HO435; clear BK436; clear HB; have HO435 := n0_; have BK436 := n1_; have HB := n2_; clear n0_ n1_ n2_; (try clear hb); (try clear hb2); (try clear hk); (try clear hi); have hcz13_0 : w12.cell? ⟨gb436, 0, none⟩ = some (.slice Ao10 t433.length co10) := (blk_cell BK436.out 0).trans rfl; have hfz13_0 := blk_frozen BK436.out 0) | ((with_reducible refine gate_callee (f := 86) rfl ?_); refine goesL_ (some 52) rfl rfl Try.func86 (by kernel_rfl) rfl #[.agg #[.slice Ao10 t433.length co10]] rfl eg ?_; (with_reducible refine (spec_RankOfTree.calls k _ _ t433 t439 t440 _ ?side1 ?side2 A6.out).mono ?_); (case side1 => repeat (first | exact (Kd.R_reads' HO435.out).2.2 | (with_reducible refine Kd.C_alloc ?_ _) | (with_reducible refine Kd.C_drewN ?_ _) | (with_reducible refine Kd.C_drew ?_))); (case side2 => exact (Kd.R_reads' HO435.out).2.1); rintro e w14 ⟨rfl, hb⟩; refine ⟨_, rfl, ?_⟩; have n0_ := A_ (Kd.R_below (ea HO435) hb); have n1_ := A_ (eB BK436 hb); have n2_ := A_ (below_step (el HB) hb); clear HO435; clear BK436; clear HB; have HO435 := n0_; have BK436 := n1_; have HB := n2_; clear n0_ n1_ n2_; (try clear hb); (try clear hb2); (try clear hk); (try clear hi)))
  (try simp only [Act.put, List.setIfInBounds_toArray, List.set_cons_zero, List.set_cons_succ])
  go_cut [62] (fun v62 wc => ∃ (kq : Nat) (x62_6 : Bool), v62 = .bool x62_6 ∧ Aside0 (laws_FnRanks.j0 kq l0 t437 t438 x62_6 t433 = some r) ∧ Aside0 (kq ≤ k) ∧ Aside0 (Kd.R (Kd.int .i64) 2 wc w.heap.size (fun _ => True) (.slice Ao10 t433.length co10) t433) ∧ Aside0 (wc.heap[gb436]? = some (.cells #[(.slice Ao10 t433.length co10)] 26 (0, 0))) ∧ Aside0 (Below w.heap.size w wc))
  case first =>
   as_aux_lemma =>
    have H := HC7.out
    clear HC7
    by_cases c15 : t438 = t440
    ·rw [if_pos c15] at H
     have c15b0 : (t438 == t440) = true := beq_iff_eq.mpr c15
     have c15b1 : (t438 != t440) = false := bne_eq_false_iff_eq.mpr c15
     clear c15
     (first | rw [c15b0] | (simp only [i64_w, i32_w]; rw [c15b0]) | skip)
     have H' := A_ H
     clear H
     go_wp2
     go_meet
     case rel => exact ⟨_, ((t437 != t439)), laws_FnRanks.Z31, H', ⟨by first | omega | exact Nat.le_refl _⟩, ⟨es HO435⟩, ⟨eb BK436⟩, ⟨el HB⟩⟩
    ·rw [if_neg c15] at H
     have c15b0 : (t438 == t440) = false := beq_eq_false_iff_ne.mpr c15
     have c15b1 : (t438 != t440) = true := bne_iff_ne.mpr c15
     (first | rw [c15b0] | (simp only [i64_w, i32_w]; rw [c15b0]) | skip)
     have H' := A_ H
     clear H
     go_wp2
     go_meet
     case rel => exact ⟨_, (true), laws_FnRanks.Z31, H', ⟨by first | omega | exact Nat.le_refl _⟩, ⟨es HO435⟩, ⟨eb BK436⟩, ⟨el HB⟩⟩
  case rest =>
   as_aux_lemma =>
    clear HC7
    try clear c1
    try clear p2
    try clear c3
    try clear c6
    try clear c7
    try clear c8
    try clear c15
    try clear c15b0
    try clear c15b1
    try clear hcz11_0
    try clear hcz13_0
    try clear hfz11_0
    try clear hfz13_0
    obtain ⟨kq, x62_6, rfl, HA, HJ6, HO_437000, BK436, HB⟩ := hcut
    cases kq with
    | zero => exact absurd HA.out (by simp [laws_FnRanks.j0])
    | succ kj6 =>
     have H := HA.out
     clear HA
     simp only [laws_FnRanks.j0] at H
     by_cases c16 : x62_6 = true
     ·subst c16
      have H1 : (none) = some r := by rw [if_pos rfl] at H; exact H
      clear H
      have H := H1
      clear H1
      exact absurd H (by simp)
     replace c16 := Bool.eq_false_iff.mpr c16
     subst c16
     have H1 : ((impl_NextTree.f kj6 t433).bind fun bt441 => ((spec_NextTree.f kj6 t433).bind fun bt446 => (if bt441.2 = bt446.2 then ((laws_tree9.f kj6 bt441.1 bt446.1).bind fun t451 => (laws_FnRanks.j1 kj6 l0 t437 t438 bt441.2 (!t451) t433 bt441.1)) else (laws_FnRanks.j1 kj6 l0 t437 t438 bt441.2 true t433 bt441.1)))) = some r := by rw [if_neg (show ¬ (false = true) by decide)] at H; exact H
     clear H
     have H := H1
     clear H1
     replace H := Option.bind_eq_some_iff.mp H
     obtain ⟨⟨t441, t444⟩, A170, H⟩ := H
     replace H : ((spec_NextTree.f kj6 t433).bind fun bt446 => (if t444 = bt446.2 then ((laws_tree9.f kj6 t441 bt446.1).bind fun t451 => (laws_FnRanks.j1 kj6 l0 t437 t438 t444 (!t451) t433 t441)) else (laws_FnRanks.j1 kj6 l0 t437 t438 t444 true t433 t441))) = some r := H
     have A17 := A_ A170
     clear A170
     replace H := Option.bind_eq_some_iff.mp H
     obtain ⟨⟨t446, t449⟩, A180, H⟩ := H
     replace H : (if t444 = t449 then ((laws_tree9.f kj6 t441 t446).bind fun t451 => (laws_FnRanks.j1 kj6 l0 t437 t438 t444 (!t451) t433 t441)) else (laws_FnRanks.j1 kj6 l0 t437 t438 t444 true t433 t441)) = some r := H
     have A18 := A_ A180
     clear A180
     have HC19 := A_ H
     clear H
     have hcz20_0 : wc.cell? ⟨gb436, 0, none⟩ = some (.slice Ao10 t433.length co10) := (blk_cell BK436.out 0).trans rfl
     have hfz20_0 := blk_frozen BK436.out 0
     go_upto_region 10 with (first | ((with_reducible refine gate_callee (f := 87) rfl ?_); refine goesL_ (some 65) rfl rfl Try.func87 (by kernel_rfl) rfl #[.agg #[.slice Ao10 t433.length co10]] rfl eg ?_; (with_reducible refine (impl_NextTree.calls kj6 _ _ t433 t441 t444 _ ?side1 ?side2 A17.out).mono ?_); (case side1 => repeat (first | exact (Kd.R_reads' HO_437000.out).2.2 | (with_reducible refine Kd.C_alloc ?_ _) | (with_reducible refine Kd.C_drewN ?_ _) | (with_reducible refine Kd.C_drew ?_))); (case side2 => exact (Kd.R_reads' HO_437000.out).2.1); rintro e w21 ⟨v442, rfl, ho0, hb⟩; refine ⟨_, rfl, ?_⟩; have n0_ := A_ (Kd.R_elder' (ea HO_437000) (Kd.R_base ho0) hb); have n1_ := A_ (Kd.R_lower (Kd.R_new' ho0 (Kd.R_lt (ea HO_437000))) (below_size (el HB))); have n2_ := A_ (eB BK436 hb); have n3_ := A_ (below_step (el HB) hb); clear HO_437000; clear BK436; clear HB; have HO_437000 := n0_; have HO443 := n1_; have BK436 := n2_; have HB := n3_; clear n0_ n1_ n2_ n3_; (try clear hb); (try clear hb2); (try clear hk); (try clear hi); (try clear ho0)) | ((with_reducible refine gate_dst (N := 8) rfl ?_); refine box_event ?hg (N := 8) ?hd (cs := #[.slice none 0 0]) (t := 26) ?hr ?_; (case hd => rfl); (case hg => rfl); (case hr => first | (go_simp; done) | (go_simp; rfl)); intro gb445 hg w22 hbox hb; have n0_ := A_ (Kd.R_below (ea HO_437000) hb); have n1_ := A_ (Kd.R_below (ea HO443) hb); have n2_ := A_ (eB BK436 hb); have n3_ := A_ (below_step (el HB) hb); have n4_ := A_ (hbox); have n5_ := A_ ((by rw [hg]; exact (below_size (el HB)) : w.heap.size ≤ gb445)); have n6_ := A_ ((by rw [hg]; exact (below_size (el HB)) : w.heap.size ≤ gb445)); have n7_ := A_ ((by rw [hg]; exact Nat.ne_of_lt (eL BK436) : gb436 ≠ gb445)); have n8_ := A_ ((by rw [hg]; exact Nat.ne_of_gt (eL BK436) : gb445 ≠ gb436)); clear HO_437000; clear HO443; clear BK436; clear HB; have HO_437000 := n0_; have HO443 := n1_; have BK436 := n2_; have HB := n3_; have BK445 := n4_; have GW445 := n5_; have GE445 := n6_; have NB436_445 := n7_; have NB445_436 := n8_; clear n0_ n1_ n2_ n3_ n4_ n5_ n6_ n7_ n8_; clear hb hbox hg; obtain ⟨Ao23, co23, eo23⟩ := Kd.R_slice HO443.out; subst eo23; have hnb24 := NB445_436.out; have hnc24 := NB436_445.out; have hcz25_0 : w22.cell? ⟨gb445, 0, none⟩ = some (.slice none 0 0) := (blk_cell BK445.out 0).trans rfl; have hfz25_0 := blk_frozen BK445.out 0; have hcz26_0 : w22.cell? ⟨gb436, 0, none⟩ = some (.slice Ao10 t433.length co10) := (blk_cell BK436.out 0).trans rfl; have hfz26_0 := blk_frozen BK436.out 0) | ((with_reducible refine gate_callee (f := 88) rfl ?_); refine goesL_ (some 70) rfl rfl Try.func88 (by kernel_rfl) rfl #[.agg #[.slice Ao10 t433.length co10]] rfl eg ?_; (with_reducible refine (spec_NextTree.calls kj6 _ _ t433 t446 t449 _ ?side1 ?side2 A18.out).mono ?_); (case side1 => refine (Kd.R_reads' (e := 2) (base := w.heap.size) (ok := fun k_ => (True ∧ some k_ ≠ (.slice Ao23 t441.length co23 : Value).ownBlock)) (n := t433.length) (c := co10) ?_).2.2; exact laws_FnRanks.Z16); (case side2 => exact (Kd.R_reads' HO_437000.out).2.1); rintro e w27 ⟨v447, rfl, ho0, hb⟩; refine ⟨_, rfl, ?_⟩; have n0_ := A_ (Kd.R_elder' laws_FnRanks.Z16 (Kd.R_base ho0) hb); have n1_ := A_ (Kd.R_elder' laws_FnRanks.Z22 (Kd.R_base ho0) hb); have n2_ := A_ (Kd.R_lower (Kd.R_new' (Kd.R_new' ho0 (Kd.R_lt laws_FnRanks.Z16)) (Kd.R_lt laws_FnRanks.Z22)) (below_size (el HB))); have n3_ := A_ (eB BK436 hb); have n4_ := A_ (blk_below (g := gb445) (o := .cells #[.slice Ao23 t441.length co23] 26 (0, 0)) (by (with_reducible repeat (first | refine blk_drewN ?_ _ | refine blk_drew ?_ | refine blk_alloc ?_ _)); refine blk_put (cs := #[.slice none 0 0]) ?_ 0 _ rfl; (with_reducible repeat (first | refine blk_drewN ?_ _ | refine blk_drew ?_ | refine blk_alloc ?_ _)); exact BK445.out) hb); have n5_ := A_ (below_step (el HB) hb); clear HO_437000; clear HO443; clear BK436; clear BK445; clear HB; have HO_437000 := n0_; have HO443 := n1_; have HO448 := n2_; have BK436 := n3_; have BK445 := n4_; have HB := n5_; clear n0_ n1_ n2_ n3_ n4_ n5_; (try clear hb); (try clear hb2); (try clear hk); (try clear hi); (try clear ho0)) | ((with_reducible refine gate_dst (N := 10) rfl ?_); refine box_event ?hg (N := 10) ?hd (cs := #[.slice none 0 0]) (t := 26) ?hr ?_; (case hd => rfl); (case hg => rfl); (case hr => first | (go_simp; done) | (go_simp; rfl)); intro gb450 hg w28 hbox hb; have n0_ := A_ (Kd.R_below (ea HO_437000) hb); have n1_ := A_ (Kd.R_below (ea HO443) hb); have n2_ := A_ (Kd.R_below (ea HO448) hb); have n3_ := A_ (eB BK436 hb); have n4_ := A_ (eB BK445 hb); have n5_ := A_ (below_step (el HB) hb); have n6_ := A_ (hbox); have n7_ := A_ ((by rw [hg]; exact (below_size (el HB)) : w.heap.size ≤ gb450)); have n8_ := A_ ((by rw [hg]; exact (below_size (el HB)) : w.heap.size ≤ gb450)); have n9_ := A_ ((by rw [hg]; exact Nat.ne_of_lt (eL BK436) : gb436 ≠ gb450)); have n10_ := A_ ((by rw [hg]; exact Nat.ne_of_gt (eL BK436) : gb450 ≠ gb436)); have n11_ := A_ ((by rw [hg]; exact Nat.ne_of_lt (eL BK445) : gb445 ≠ gb450)); have n12_ := A_ ((by rw [hg]; exact Nat.ne_of_gt (eL BK445) : gb450 ≠ gb445)); clear HO_437000; clear HO443; clear HO448; clear BK436; clear BK445; clear HB; have HO_437000 := n0_; have HO443 := n1_; have HO448 := n2_; have BK436 := n3_; have BK445 := n4_; have HB := n5_; have BK450 := n6_; have GW450 := n7_; have GE450 := n8_; have NB436_450 := n9_; have NB450_436 := n10_; have NB445_450 := n11_; have NB450_445 := n12_; clear n0_ n1_ n2_ n3_ n4_ n5_ n6_ n7_ n8_ n9_ n10_ n11_ n12_; clear hb hbox hg; obtain ⟨Ao29, co29, eo29⟩ := Kd.R_slice HO448.out; subst eo29; have hnb30 := NB450_436.out; have hnc30 := NB436_450.out; have hnb31 := NB450_445.out; have hnc31 := NB445_450.out; have hcz32_0 : w28.cell? ⟨gb450, 0, none⟩ = some (.slice none 0 0) := (blk_cell BK450.out 0).trans rfl; have hfz32_0 := blk_frozen BK450.out 0))
     (try simp only [Act.put, List.setIfInBounds_toArray, List.set_cons_zero, List.set_cons_succ])
     go_cut [81] (fun v81 wc => ∃ (kq : Nat) (x81_18 : Bool), v81 = .bool x81_18 ∧ Aside0 (laws_FnRanks.j1 kq l0 t437 t438 t444 x81_18 t433 t441 = some r) ∧ Aside0 (kq ≤ kj6) ∧ Aside0 (Kd.R (Kd.int .i64) 2 wc w.heap.size (fun k_ => some k_ ≠ ((.slice Ao23 t441.length co23) : Value).ownBlock ∧ some k_ ≠ ((.slice Ao29 t446.length co29) : Value).ownBlock) (.slice Ao10 t433.length co10) t433) ∧ Aside0 (Kd.R (Kd.int .i64) 2 wc w.heap.size (fun k_ => some k_ ≠ ((.slice Ao10 t433.length co10) : Value).ownBlock ∧ some k_ ≠ ((.slice Ao29 t446.length co29) : Value).ownBlock) (.slice Ao23 t441.length co23) t441) ∧ Aside0 (Kd.R (Kd.int .i64) 2 wc w.heap.size (fun k_ => some k_ ≠ ((.slice Ao10 t433.length co10) : Value).ownBlock ∧ some k_ ≠ ((.slice Ao23 t441.length co23) : Value).ownBlock) (.slice Ao29 t446.length co29) t446) ∧ Aside0 (wc.heap[gb436]? = some (.cells #[(.slice Ao10 t433.length co10)] 26 (0, 0))) ∧ Aside0 (wc.heap[gb445]? = some (.cells #[(.slice Ao23 t441.length co23)] 26 (0, 0))) ∧ Aside0 (wc.heap[gb450]? = some (.cells #[(.slice Ao29 t446.length co29)] 26 (0, 0))) ∧ Aside0 (Below w.heap.size w wc))
     case first =>
      as_aux_lemma =>
       have H := HC19.out
       clear HC19
       by_cases c33 : t444 = t449
       ·rw [if_pos c33] at H
        have c33b0 : (t444 == t449) = true := beq_iff_eq.mpr c33
        have c33b1 : (t444 != t449) = false := bne_eq_false_iff_eq.mpr c33
        clear c33
        (first | rw [c33b0] | (simp only [i64_w, i32_w]; rw [c33b0]) | skip)
        replace H := Option.bind_eq_some_iff.mp H
        obtain ⟨t451, A340, H⟩ := H
        replace H : (laws_FnRanks.j1 kj6 l0 t437 t438 t444 (!t451) t433 t441) = some r := H
        have A34 := A_ A340
        clear A340
        have H' := A_ H
        clear H
        have hnb35 := NB445_436.out
        have hnc35 := NB436_445.out
        have hnb36 := NB445_450.out
        have hnc36 := NB450_445.out
        have hcz37_0 : w28.cell? ⟨gb445, 0, none⟩ = some (.slice Ao23 t441.length co23) := (blk_cell BK445.out 0).trans rfl
        have hfz37_0 := blk_frozen BK445.out 0
        have hnb38 := NB450_436.out
        have hnc38 := NB436_450.out
        have hcz39_0 : w28.cell? ⟨gb450, 0, none⟩ = some (.slice none 0 0) := (blk_cell BK450.out 0).trans rfl
        have hfz39_0 := blk_frozen BK450.out 0
        go_wp2_with (first | (go_at_call 89; (with_reducible refine (laws_tree9.calls kj6 _ _ t441 _ _ t446 t451 _ ?side1 ?side2 ?side3 ?side4 A34.out).mono ?_); (case side1 => refine (Kd.R_reads' (e := 2) (base := w.heap.size) (ok := fun k_ => ((True ∧ some k_ ≠ (.slice Ao10 t433.length co10 : Value).ownBlock) ∧ some k_ ≠ (.slice Ao29 t446.length co29 : Value).ownBlock)) (n := t441.length) (c := co23) ?_).2.2; exact laws_FnRanks.Z23); (case side2 => exact (Kd.R_reads' HO443.out).2.1); (case side3 => refine (Kd.R_reads' (e := 2) (base := w.heap.size) (ok := fun k_ => ((True ∧ some k_ ≠ (.slice Ao10 t433.length co10 : Value).ownBlock) ∧ some k_ ≠ (.slice Ao23 t441.length co23 : Value).ownBlock)) (n := t446.length) (c := co29) ?_).2.2; exact laws_FnRanks.Z24); (case side4 => exact (Kd.R_reads' HO448.out).2.1); rintro e w40 ⟨rfl, hb⟩; have n0_ := A_ (Kd.R_below (by (with_reducible repeat (first | apply Kd.R_alloc | apply Kd.R_drewN | apply Kd.R_drew)); exact (Kd.R_mono (Kd.R_far (p := ⟨gb450, 0, none⟩) (Kd.R_types HO_437000.out BK450.out (by decide)) (fun _ hk => hk.2) (.slice Ao29 t446.length co29)) (fun _ h_ => h_.1))) hb); have n1_ := A_ (Kd.R_below laws_FnRanks.Z23 hb); have n2_ := A_ (Kd.R_below laws_FnRanks.Z24 hb); have n3_ := A_ (eB BK436 hb); have n4_ := A_ (eB BK445 hb); have n5_ := A_ (blk_below (g := gb450) (o := .cells #[.slice Ao29 t446.length co29] 26 (0, 0)) (by (with_reducible repeat (first | refine blk_drewN ?_ _ | refine blk_drew ?_ | refine blk_alloc ?_ _)); refine blk_put (cs := #[.slice none 0 0]) ?_ 0 _ rfl; (with_reducible repeat (first | refine blk_drewN ?_ _ | refine blk_drew ?_ | refine blk_alloc ?_ _)); exact BK450.out) hb); have n6_ := A_ (below_step (el HB) hb); clear HO_437000; clear HO443; clear HO448; clear BK436; clear BK445; clear BK450; clear HB; have HO_437000 := n0_; have HO443 := n1_; have HO448 := n2_; have BK436 := n3_; have BK445 := n4_; have BK450 := n5_; have HB := n6_; clear n0_ n1_ n2_ n3_ n4_ n5_ n6_; (try clear hb); (try clear hb2); (try clear hk); (try clear hi)))
        go_meet
        case rel => exact ⟨_, (!t451), laws_FnRanks.Z31, H', ⟨by have := HJ6.out; first | omega | exact Nat.le_refl _⟩, ⟨by (with_reducible repeat (first | apply Kd.R_alloc | apply Kd.R_drewN | apply Kd.R_drew)); exact Kd.R_mono HO_437000.out (fun _ hk => ⟨hk.1.2, hk.2⟩)⟩, ⟨by (with_reducible repeat (first | apply Kd.R_alloc | apply Kd.R_drewN | apply Kd.R_drew)); exact Kd.R_mono HO443.out (fun _ hk => ⟨hk.1.2, hk.2⟩)⟩, ⟨by (with_reducible repeat (first | apply Kd.R_alloc | apply Kd.R_drewN | apply Kd.R_drew)); exact Kd.R_mono HO448.out (fun _ hk => ⟨hk.1.2, hk.2⟩)⟩, ⟨eb BK436⟩, ⟨eb BK445⟩, ⟨eb BK450⟩, ⟨el HB⟩⟩
       ·rw [if_neg c33] at H
        have c33b0 : (t444 == t449) = false := beq_eq_false_iff_ne.mpr c33
        have c33b1 : (t444 != t449) = true := bne_iff_ne.mpr c33
        (first | rw [c33b0] | (simp only [i64_w, i32_w]; rw [c33b0]) | skip)
        have H' := A_ H
        clear H
        go_wp2
        go_meet
        case rel => exact ⟨_, (true), laws_FnRanks.Z31, H', ⟨by have := HJ6.out; first | omega | exact Nat.le_refl _⟩, ⟨by (with_reducible repeat (first | apply Kd.R_alloc | apply Kd.R_drewN | apply Kd.R_drew)); exact Kd.R_mono (Kd.R_far (p := ⟨gb450, 0, none⟩) (Kd.R_types HO_437000.out BK450.out (by decide)) (fun _ hk => hk.2) (.slice Ao29 t446.length co29)) (fun _ hk => ⟨hk.1.1.2, hk.1.2⟩)⟩, ⟨by (with_reducible repeat (first | apply Kd.R_alloc | apply Kd.R_drewN | apply Kd.R_drew)); exact Kd.R_mono (Kd.R_far (p := ⟨gb450, 0, none⟩) (Kd.R_types HO443.out BK450.out (by decide)) (fun _ hk => hk.2) (.slice Ao29 t446.length co29)) (fun _ hk => ⟨hk.1.1.2, hk.1.2⟩)⟩, ⟨by (with_reducible repeat (first | apply Kd.R_alloc | apply Kd.R_drewN | apply Kd.R_drew)); exact Kd.R_mono (Kd.R_far (p := ⟨gb450, 0, none⟩) (Kd.R_types HO448.out BK450.out (by decide)) (fun _ hk => hk.2) (.slice Ao29 t446.length co29)) (fun _ hk => ⟨hk.1.1.2, hk.1.2⟩)⟩, ⟨eb BK436⟩, ⟨eb BK445⟩, ⟨by (with_reducible repeat (first | refine blk_drewN ?_ _ | refine blk_drew ?_ | refine blk_alloc ?_ _)); refine blk_put (cs := #[.slice none 0 0]) ?_ 0 _ rfl; (with_reducible repeat (first | refine blk_drewN ?_ _ | refine blk_drew ?_ | refine blk_alloc ?_ _)); exact BK450.out⟩, ⟨el HB⟩⟩
     case rest =>
      as_aux_lemma =>
       clear HC19
       try clear c1
       try clear c2
       try clear p2
       try clear c3
       try clear c6
       try clear c7
       try clear c8
       try clear c15
       try clear c15b0
       try clear c15b1
       try clear c16
       try clear c24
       try clear c30
       try clear c31
       try clear c33
       try clear c33b0
       try clear c33b1
       try clear c35
       try clear c36
       try clear c38
       try clear hcz11_0
       try clear hcz13_0
       try clear hcz20_0
       try clear hcz25_0
       try clear hcz26_0
       try clear hcz32_0
       try clear hcz37_0
       try clear hcz39_0
       try clear hfz11_0
       try clear hfz13_0
       try clear hfz20_0
       try clear hfz25_0
       try clear hfz26_0
       try clear hfz32_0
       try clear hfz37_0
       try clear hfz39_0
       try clear p2
       obtain ⟨kq, x81_18, rfl, HA, HJ18, HO_437000, HO_446000, HO_451000, BK436, BK445, BK450, HB⟩ := hcut
       cases kq with
       | zero => exact absurd HA.out (by simp [laws_FnRanks.j1])
       | succ kj18 =>
        have H := HA.out
        clear HA
        simp only [laws_FnRanks.j1] at H
        by_cases c41 : x81_18 = true
        ·subst c41
         have H1 : (none) = some r := by rw [if_pos rfl] at H; exact H
         clear H
         have H := H1
         clear H1
         exact absurd H (by simp)
        replace c41 := Bool.eq_false_iff.mpr c41
        subst c41
        have H1 : ((spec_DrawTreeOfRank.f kj18 l0).bind fun bt452 => ((impl_TreeOfRank.f kj18 bt452.1 bt452.2).bind fun bt454 => ((spec_TreeOfRank.f kj18 bt452.1 bt452.2).bind fun bt459 => (if bt454.2 = bt459.2 then ((laws_tree9.f kj18 bt454.1 bt459.1).bind fun t464 => (laws_FnRanks.j2 kj18 l0 t437 t438 t444 bt452.2 bt454.2 (!t464) t433 t441 bt454.1)) else (laws_FnRanks.j2 kj18 l0 t437 t438 t444 bt452.2 bt454.2 true t433 t441 bt454.1))))) = some r := by rw [if_neg (show ¬ (false = true) by decide)] at H; exact H
        clear H
        have H := H1
        clear H1
        replace H := Option.bind_eq_some_iff.mp H
        obtain ⟨⟨t452, t453⟩, A420, H⟩ := H
        replace H : ((impl_TreeOfRank.f kj18 t452 t453).bind fun bt454 => ((spec_TreeOfRank.f kj18 t452 t453).bind fun bt459 => (if bt454.2 = bt459.2 then ((laws_tree9.f kj18 bt454.1 bt459.1).bind fun t464 => (laws_FnRanks.j2 kj18 l0 t437 t438 t444 t453 bt454.2 (!t464) t433 t441 bt454.1)) else (laws_FnRanks.j2 kj18 l0 t437 t438 t444 t453 bt454.2 true t433 t441 bt454.1)))) = some r := H
        have A42 := A_ A420
        clear A420
        replace H := Option.bind_eq_some_iff.mp H
        obtain ⟨⟨t454, t457⟩, A430, H⟩ := H
        replace H : ((spec_TreeOfRank.f kj18 t452 t453).bind fun bt459 => (if t457 = bt459.2 then ((laws_tree9.f kj18 t454 bt459.1).bind fun t464 => (laws_FnRanks.j2 kj18 l0 t437 t438 t444 t453 t457 (!t464) t433 t441 t454)) else (laws_FnRanks.j2 kj18 l0 t437 t438 t444 t453 t457 true t433 t441 t454))) = some r := H
        have A43 := A_ A430
        clear A430
        replace H := Option.bind_eq_some_iff.mp H
        obtain ⟨⟨t459, t462⟩, A440, H⟩ := H
        replace H : (if t457 = t462 then ((laws_tree9.f kj18 t454 t459).bind fun t464 => (laws_FnRanks.j2 kj18 l0 t437 t438 t444 t453 t457 (!t464) t433 t441 t454)) else (laws_FnRanks.j2 kj18 l0 t437 t438 t444 t453 t457 true t433 t441 t454)) = some r := H
        have A44 := A_ A440
        clear A440
        have HC45 := A_ H
        clear H
        go_upto_region 15 with (first | ((with_reducible refine gate_callee (f := 90) rfl ?_); refine goesL_ (some 84) rfl rfl Try.func90 (by kernel_rfl) rfl #[.slice A0 l0.length c0] rfl eg ?_; (with_reducible refine (spec_DrawTreeOfRank.calls kj18 _ _ l0 t452 t453 _ ?side1 ?side2 A42.out).mono ?_); (case side1 => repeat (first | exact (Kd.C_below HR0.out HB.out) | (with_reducible refine Kd.C_alloc ?_ _) | (with_reducible refine Kd.C_drewN ?_ _) | (with_reducible refine Kd.C_drew ?_))); (case side2 => exact HC0.out); rintro e w46 ⟨rfl, hb⟩; refine ⟨_, rfl, ?_⟩; have n0_ := A_ (Kd.R_below (ea HO_437000) hb); have n1_ := A_ (Kd.R_below (ea HO_446000) hb); have n2_ := A_ (Kd.R_below (ea HO_451000) hb); have n3_ := A_ (eB BK436 hb); have n4_ := A_ (eB BK445 hb); have n5_ := A_ (eB BK450 hb); have n6_ := A_ (below_step (el HB) hb); clear HO_437000; clear HO_446000; clear HO_451000; clear BK436; clear BK445; clear BK450; clear HB; have HO_437000 := n0_; have HO_446000 := n1_; have HO_451000 := n2_; have BK436 := n3_; have BK445 := n4_; have BK450 := n5_; have HB := n6_; clear n0_ n1_ n2_ n3_ n4_ n5_ n6_; (try clear hb); (try clear hb2); (try clear hk); (try clear hi)) | ((with_reducible refine gate_callee (f := 91) rfl ?_); refine goesL_ (some 90) rfl rfl Try.func91 (by kernel_rfl) rfl #[.int .i64 t452, .int .i64 t453] rfl eg ?_; (with_reducible refine (impl_TreeOfRank.calls kj18 t452 t453 t454 t457 _ A43.out).mono ?_); rintro e w47 ⟨v455, rfl, ho0, hb⟩; refine ⟨_, rfl, ?_⟩; have n0_ := A_ (Kd.R_elder' (ea HO_437000) (Kd.R_base ho0) hb); have n1_ := A_ (Kd.R_elder' (ea HO_446000) (Kd.R_base ho0) hb); have n2_ := A_ (Kd.R_elder' (ea HO_451000) (Kd.R_base ho0) hb); have n3_ := A_ (Kd.R_lower (Kd.R_new' (Kd.R_new' (Kd.R_new' ho0 (Kd.R_lt (ea HO_437000))) (Kd.R_lt (ea HO_446000))) (Kd.R_lt (ea HO_451000))) (below_size (el HB))); have n4_ := A_ (eB BK436 hb); have n5_ := A_ (eB BK445 hb); have n6_ := A_ (eB BK450 hb); have n7_ := A_ (below_step (el HB) hb); clear HO_437000; clear HO_446000; clear HO_451000; clear BK436; clear BK445; clear BK450; clear HB; have HO_437000 := n0_; have HO_446000 := n1_; have HO_451000 := n2_; have HO456 := n3_; have BK436 := n4_; have BK445 := n5_; have BK450 := n6_; have HB := n7_; clear n0_ n1_ n2_ n3_ n4_ n5_ n6_ n7_; (try clear hb); (try clear hb2); (try clear hk); (try clear hi); (try clear ho0)) | ((with_reducible refine gate_dst (N := 14) rfl ?_); refine box_event ?hg (N := 14) ?hd (cs := #[.slice none 0 0]) (t := 26) ?hr ?_; (case hd => rfl); (case hg => rfl); (case hr => first | (go_simp; done) | (go_simp; rfl)); intro gb458 hg w48 hbox hb; have n0_ := A_ (Kd.R_below (ea HO_437000) hb); have n1_ := A_ (Kd.R_below (ea HO_446000) hb); have n2_ := A_ (Kd.R_below (ea HO_451000) hb); have n3_ := A_ (Kd.R_below (ea HO456) hb); have n4_ := A_ (eB BK436 hb); have n5_ := A_ (eB BK445 hb); have n6_ := A_ (eB BK450 hb); have n7_ := A_ (below_step (el HB) hb); have n8_ := A_ (hbox); have n9_ := A_ ((by rw [hg]; exact (below_size (el HB)) : w.heap.size ≤ gb458)); have n10_ := A_ ((by rw [hg]; exact (below_size (el HB)) : w.heap.size ≤ gb458)); have n11_ := A_ ((by rw [hg]; exact Nat.ne_of_lt (eL BK436) : gb436 ≠ gb458)); have n12_ := A_ ((by rw [hg]; exact Nat.ne_of_gt (eL BK436) : gb458 ≠ gb436)); have n13_ := A_ ((by rw [hg]; exact Nat.ne_of_lt (eL BK445) : gb445 ≠ gb458)); have n14_ := A_ ((by rw [hg]; exact Nat.ne_of_gt (eL BK445) : gb458 ≠ gb445)); have n15_ := A_ ((by rw [hg]; exact Nat.ne_of_lt (eL BK450) : gb450 ≠ gb458)); have n16_ := A_ ((by rw [hg]; exact Nat.ne_of_gt (eL BK450) : gb458 ≠ gb450)); clear HO_437000; clear HO_446000; clear HO_451000; clear HO456; clear BK436; clear BK445; clear BK450; clear HB; have HO_437000 := n0_; have HO_446000 := n1_; have HO_451000 := n2_; have HO456 := n3_; have BK436 := n4_; have BK445 := n5_; have BK450 := n6_; have HB := n7_; have BK458 := n8_; have GW458 := n9_; have GE458 := n10_; have NB436_458 := n11_; have NB458_436 := n12_; have NB445_458 := n13_; have NB458_445 := n14_; have NB450_458 := n15_; have NB458_450 := n16_; clear n0_ n1_ n2_ n3_ n4_ n5_ n6_ n7_ n8_ n9_ n10_ n11_ n12_ n13_ n14_ n15_ n16_; clear hb hbox hg; obtain ⟨Ao49, co49, eo49⟩ := Kd.R_slice HO456.out; subst eo49; have hnb50 := NB458_436.out; have hnc50 := NB436_458.out; have hnb51 := NB458_445.out; have hnc51 := NB445_458.out; have hnb52 := NB458_450.out; have hnc52 := NB450_458.out; have hcz53_0 : w48.cell? ⟨gb458, 0, none⟩ = some (.slice none 0 0) := (blk_cell BK458.out 0).trans rfl; have hfz53_0 := blk_frozen BK458.out 0) | ((with_reducible refine gate_callee (f := 92) rfl ?_); refine goesL_ (some 96) rfl rfl Try.func92 (by kernel_rfl) rfl #[.int .i64 t452, .int .i64 t453] rfl eg ?_; (with_reducible refine (spec_TreeOfRank.calls kj18 t452 t453 t459 t462 _ A44.out).mono ?_); rintro e w54 ⟨v460, rfl, ho0, hb⟩; refine ⟨_, rfl, ?_⟩; have n0_ := A_ (Kd.R_elder' laws_FnRanks.Z8 (Kd.R_base ho0) hb); have n1_ := A_ (Kd.R_elder' laws_FnRanks.Z9 (Kd.R_base ho0) hb); have n2_ := A_ (Kd.R_elder' laws_FnRanks.Z10 (Kd.R_base ho0) hb); have n3_ := A_ (Kd.R_elder' laws_FnRanks.Z25 (Kd.R_base ho0) hb); have n4_ := A_ (Kd.R_lower (Kd.R_new' (Kd.R_new' (Kd.R_new' (Kd.R_new' ho0 (Kd.R_lt laws_FnRanks.Z8)) (Kd.R_lt laws_FnRanks.Z9)) (Kd.R_lt laws_FnRanks.Z10)) (Kd.R_lt laws_FnRanks.Z25)) (below_size (el HB))); have n5_ := A_ (eB BK436 hb); have n6_ := A_ (eB BK445 hb); have n7_ := A_ (eB BK450 hb); have n8_ := A_ (blk_below (g := gb458) (o := .cells #[.slice Ao49 t454.length co49] 26 (0, 0)) (by (with_reducible repeat (first | refine blk_drewN ?_ _ | refine blk_drew ?_ | refine blk_alloc ?_ _)); refine blk_put (cs := #[.slice none 0 0]) ?_ 0 _ rfl; (with_reducible repeat (first | refine blk_drewN ?_ _ | refine blk_drew ?_ | refine blk_alloc ?_ _)); exact BK458.out) hb); have n9_ := A_ (below_step (el HB) hb); clear HO_437000; clear HO_446000; clear HO_451000; clear HO456; clear BK436; clear BK445; clear BK450; clear BK458; clear HB; have HO_437000 := n0_; have HO_446000 := n1_; have HO_451000 := n2_; have HO456 := n3_; have HO461 := n4_; have BK436 := n5_; have BK445 := n6_; have BK450 := n7_; have BK458 := n8_; have HB := n9_; clear n0_ n1_ n2_ n3_ n4_ n5_ n6_ n7_ n8_ n9_; (try clear hb); (try clear hb2); (try clear hk); (try clear hi); (try clear ho0)) | ((with_reducible refine gate_dst (N := 16) rfl ?_); refine box_event ?hg (N := 16) ?hd (cs := #[.slice none 0 0]) (t := 26) ?hr ?_; (case hd => rfl); (case hg => rfl); (case hr => first | (go_simp; done) | (go_simp; rfl)); intro gb463 hg w55 hbox hb; have n0_ := A_ (Kd.R_below (ea HO_437000) hb); have n1_ := A_ (Kd.R_below (ea HO_446000) hb); have n2_ := A_ (Kd.R_below (ea HO_451000) hb); have n3_ := A_ (Kd.R_below (ea HO456) hb); have n4_ := A_ (Kd.R_below (ea HO461) hb); have n5_ := A_ (eB BK436 hb); have n6_ := A_ (eB BK445 hb); have n7_ := A_ (eB BK450 hb); have n8_ := A_ (eB BK458 hb); have n9_ := A_ (below_step (el HB) hb); have n10_ := A_ (hbox); have n11_ := A_ ((by rw [hg]; exact (below_size (el HB)) : w.heap.size ≤ gb463)); have n12_ := A_ ((by rw [hg]; exact (below_size (el HB)) : w.heap.size ≤ gb463)); have n13_ := A_ ((by rw [hg]; exact Nat.ne_of_lt (eL BK436) : gb436 ≠ gb463)); have n14_ := A_ ((by rw [hg]; exact Nat.ne_of_gt (eL BK436) : gb463 ≠ gb436)); have n15_ := A_ ((by rw [hg]; exact Nat.ne_of_lt (eL BK445) : gb445 ≠ gb463)); have n16_ := A_ ((by rw [hg]; exact Nat.ne_of_gt (eL BK445) : gb463 ≠ gb445)); have n17_ := A_ ((by rw [hg]; exact Nat.ne_of_lt (eL BK450) : gb450 ≠ gb463)); have n18_ := A_ ((by rw [hg]; exact Nat.ne_of_gt (eL BK450) : gb463 ≠ gb450)); have n19_ := A_ ((by rw [hg]; exact Nat.ne_of_lt (eL BK458) : gb458 ≠ gb463)); have n20_ := A_ ((by rw [hg]; exact Nat.ne_of_gt (eL BK458) : gb463 ≠ gb458)); clear HO_437000; clear HO_446000; clear HO_451000; clear HO456; clear HO461; clear BK436; clear BK445; clear BK450; clear BK458; clear HB; have HO_437000 := n0_; have HO_446000 := n1_; have HO_451000 := n2_; have HO456 := n3_; have HO461 := n4_; have BK436 := n5_; have BK445 := n6_; have BK450 := n7_; have BK458 := n8_; have HB := n9_; have BK463 := n10_; have GW463 := n11_; have GE463 := n12_; have NB436_463 := n13_; have NB463_436 := n14_; have NB445_463 := n15_; have NB463_445 := n16_; have NB450_463 := n17_; have NB463_450 := n18_; have NB458_463 := n19_; have NB463_458 := n20_; clear n0_ n1_ n2_ n3_ n4_ n5_ n6_ n7_ n8_ n9_ n10_ n11_ n12_ n13_ n14_ n15_ n16_ n17_ n18_ n19_ n20_; clear hb hbox hg; obtain ⟨Ao56, co56, eo56⟩ := Kd.R_slice HO461.out; subst eo56; have hnb57 := NB463_436.out; have hnc57 := NB436_463.out; have hnb58 := NB463_445.out; have hnc58 := NB445_463.out; have hnb59 := NB463_450.out; have hnc59 := NB450_463.out; have hnb60 := NB463_458.out; have hnc60 := NB458_463.out; have hcz61_0 : w55.cell? ⟨gb463, 0, none⟩ = some (.slice none 0 0) := (blk_cell BK463.out 0).trans rfl; have hfz61_0 := blk_frozen BK463.out 0))
        (try simp only [Act.put, List.setIfInBounds_toArray, List.set_cons_zero, List.set_cons_succ])
        go_cut [107] (fun v107 wc => ∃ (kq : Nat) (x107_44 : Bool), v107 = .bool x107_44 ∧ Aside0 (laws_FnRanks.j2 kq l0 t437 t438 t444 t453 t457 x107_44 t433 t441 t454 = some r) ∧ Aside0 (kq ≤ kj18) ∧ Aside0 (Kd.R (Kd.int .i64) 2 wc w.heap.size (fun k_ => some k_ ≠ ((.slice Ao23 t441.length co23) : Value).ownBlock ∧ some k_ ≠ ((.slice Ao29 t446.length co29) : Value).ownBlock ∧ some k_ ≠ ((.slice Ao49 t454.length co49) : Value).ownBlock ∧ some k_ ≠ ((.slice Ao56 t459.length co56) : Value).ownBlock) (.slice Ao10 t433.length co10) t433) ∧ Aside0 (Kd.R (Kd.int .i64) 2 wc w.heap.size (fun k_ => some k_ ≠ ((.slice Ao10 t433.length co10) : Value).ownBlock ∧ some k_ ≠ ((.slice Ao29 t446.length co29) : Value).ownBlock ∧ some k_ ≠ ((.slice Ao49 t454.length co49) : Value).ownBlock ∧ some k_ ≠ ((.slice Ao56 t459.length co56) : Value).ownBlock) (.slice Ao23 t441.length co23) t441) ∧ Aside0 (Kd.R (Kd.int .i64) 2 wc w.heap.size (fun k_ => some k_ ≠ ((.slice Ao10 t433.length co10) : Value).ownBlock ∧ some k_ ≠ ((.slice Ao23 t441.length co23) : Value).ownBlock ∧ some k_ ≠ ((.slice Ao49 t454.length co49) : Value).ownBlock ∧ some k_ ≠ ((.slice Ao56 t459.length co56) : Value).ownBlock) (.slice Ao29 t446.length co29) t446) ∧ Aside0 (Kd.R (Kd.int .i64) 2 wc w.heap.size (fun k_ => some k_ ≠ ((.slice Ao10 t433.length co10) : Value).ownBlock ∧ some k_ ≠ ((.slice Ao23 t441.length co23) : Value).ownBlock ∧ some k_ ≠ ((.slice Ao29 t446.length co29) : Value).ownBlock ∧ some k_ ≠ ((.slice Ao56 t459.length co56) : Value).ownBlock) (.slice Ao49 t454.length co49) t454) ∧ Aside0 (Kd.R (Kd.int .i64) 2 wc w.heap.size (fun k_ => some k_ ≠ ((.slice Ao10 t433.length co10) : Value).ownBlock ∧ some k_ ≠ ((.slice Ao23 t441.length co23) : Value).ownBlock ∧ some k_ ≠ ((.slice Ao29 t446.length co29) : Value).ownBlock ∧ some k_ ≠ ((.slice Ao49 t454.length co49) : Value).ownBlock) (.slice Ao56 t459.length co56) t459) ∧ Aside0 (wc.heap[gb436]? = some (.cells #[(.slice Ao10 t433.length co10)] 26 (0, 0))) ∧ Aside0 (wc.heap[gb445]? = some (.cells #[(.slice Ao23 t441.length co23)] 26 (0, 0))) ∧ Aside0 (wc.heap[gb450]? = some (.cells #[(.slice Ao29 t446.length co29)] 26 (0, 0))) ∧ Aside0 (wc.heap[gb458]? = some (.cells #[(.slice Ao49 t454.length co49)] 26 (0, 0))) ∧ Aside0 (wc.heap[gb463]? = some (.cells #[(.slice Ao56 t459.length co56)] 26 (0, 0))) ∧ Aside0 (Below w.heap.size w wc))
        case first =>
         as_aux_lemma =>
          have H := HC45.out
          clear HC45
          by_cases c62 : t457 = t462
          ·rw [if_pos c62] at H
           have c62b0 : (t457 == t462) = true := beq_iff_eq.mpr c62
           have c62b1 : (t457 != t462) = false := bne_eq_false_iff_eq.mpr c62
           clear c62
           (first | rw [c62b0] | (simp only [i64_w, i32_w]; rw [c62b0]) | skip)
           replace H := Option.bind_eq_some_iff.mp H
           obtain ⟨t464, A630, H⟩ := H
           replace H : (laws_FnRanks.j2 kj18 l0 t437 t438 t444 t453 t457 (!t464) t433 t441 t454) = some r := H
           have A63 := A_ A630
           clear A630
           have H' := A_ H
           clear H
           have hnb64 := NB458_436.out
           have hnc64 := NB436_458.out
           have hnb65 := NB458_445.out
           have hnc65 := NB445_458.out
           have hnb66 := NB458_450.out
           have hnc66 := NB450_458.out
           have hnb67 := NB458_463.out
           have hnc67 := NB463_458.out
           have hcz68_0 : w55.cell? ⟨gb458, 0, none⟩ = some (.slice Ao49 t454.length co49) := (blk_cell BK458.out 0).trans rfl
           have hfz68_0 := blk_frozen BK458.out 0
           have hnb69 := NB463_436.out
           have hnc69 := NB436_463.out
           have hnb70 := NB463_445.out
           have hnc70 := NB445_463.out
           have hnb71 := NB463_450.out
           have hnc71 := NB450_463.out
           have hcz72_0 : w55.cell? ⟨gb463, 0, none⟩ = some (.slice none 0 0) := (blk_cell BK463.out 0).trans rfl
           have hfz72_0 := blk_frozen BK463.out 0
           go_wp2_with (first | (go_at_call 89; (with_reducible refine (laws_tree9.calls kj18 _ _ t454 _ _ t459 t464 _ ?side1 ?side2 ?side3 ?side4 A63.out).mono ?_); (case side1 => refine (Kd.R_reads' (e := 2) (base := w.heap.size) (ok := fun k_ => ((((True ∧ some k_ ≠ (.slice Ao10 t433.length co10 : Value).ownBlock) ∧ some k_ ≠ (.slice Ao23 t441.length co23 : Value).ownBlock) ∧ some k_ ≠ (.slice Ao29 t446.length co29 : Value).ownBlock) ∧ some k_ ≠ (.slice Ao56 t459.length co56 : Value).ownBlock)) (n := t454.length) (c := co49) ?_).2.2; exact laws_FnRanks.Z26); (case side2 => exact (Kd.R_reads' HO456.out).2.1); (case side3 => refine (Kd.R_reads' (e := 2) (base := w.heap.size) (ok := fun k_ => ((((True ∧ some k_ ≠ (.slice Ao10 t433.length co10 : Value).ownBlock) ∧ some k_ ≠ (.slice Ao23 t441.length co23 : Value).ownBlock) ∧ some k_ ≠ (.slice Ao29 t446.length co29 : Value).ownBlock) ∧ some k_ ≠ (.slice Ao49 t454.length co49 : Value).ownBlock)) (n := t459.length) (c := co56) ?_).2.2; exact laws_FnRanks.Z27); (case side4 => exact (Kd.R_reads' HO461.out).2.1); rintro e w73 ⟨rfl, hb⟩; have n0_ := A_ (Kd.R_below (by (with_reducible repeat (first | apply Kd.R_alloc | apply Kd.R_drewN | apply Kd.R_drew)); exact (Kd.R_mono (Kd.R_far (p := ⟨gb463, 0, none⟩) (Kd.R_types HO_437000.out BK463.out (by decide)) (fun _ hk => hk.2) (.slice Ao56 t459.length co56)) (fun _ h_ => h_.1))) hb); have n1_ := A_ (Kd.R_below (by (with_reducible repeat (first | apply Kd.R_alloc | apply Kd.R_drewN | apply Kd.R_drew)); exact (Kd.R_mono (Kd.R_far (p := ⟨gb463, 0, none⟩) (Kd.R_types HO_446000.out BK463.out (by decide)) (fun _ hk => hk.2) (.slice Ao56 t459.length co56)) (fun _ h_ => h_.1))) hb); have n2_ := A_ (Kd.R_below (by (with_reducible repeat (first | apply Kd.R_alloc | apply Kd.R_drewN | apply Kd.R_drew)); exact (Kd.R_mono (Kd.R_far (p := ⟨gb463, 0, none⟩) (Kd.R_types HO_451000.out BK463.out (by decide)) (fun _ hk => hk.2) (.slice Ao56 t459.length co56)) (fun _ h_ => h_.1))) hb); have n3_ := A_ (Kd.R_below laws_FnRanks.Z26 hb); have n4_ := A_ (Kd.R_below laws_FnRanks.Z27 hb); have n5_ := A_ (eB BK436 hb); have n6_ := A_ (eB BK445 hb); have n7_ := A_ (eB BK450 hb); have n8_ := A_ (eB BK458 hb); have n9_ := A_ (blk_below (g := gb463) (o := .cells #[.slice Ao56 t459.length co56] 26 (0, 0)) (by (with_reducible repeat (first | refine blk_drewN ?_ _ | refine blk_drew ?_ | refine blk_alloc ?_ _)); refine blk_put (cs := #[.slice none 0 0]) ?_ 0 _ rfl; (with_reducible repeat (first | refine blk_drewN ?_ _ | refine blk_drew ?_ | refine blk_alloc ?_ _)); exact BK463.out) hb); have n10_ := A_ (below_step (el HB) hb); clear HO_437000; clear HO_446000; clear HO_451000; clear HO456; clear HO461; clear BK436; clear BK445; clear BK450; clear BK458; clear BK463; clear HB; have HO_437000 := n0_; have HO_446000 := n1_; have HO_451000 := n2_; have HO456 := n3_; have HO461 := n4_; have BK436 := n5_; have BK445 := n6_; have BK450 := n7_; have BK458 := n8_; have BK463 := n9_; have HB := n10_; clear n0_ n1_ n2_ n3_ n4_ n5_ n6_ n7_ n8_ n9_ n10_; (try clear hb); (try clear hb2); (try clear hk); (try clear hi)))
           go_meet
           case rel => exact ⟨_, (!t464), laws_FnRanks.Z31, H', ⟨by have := HJ6.out; have := HJ18.out; first | omega | exact Nat.le_refl _⟩, ⟨by (with_reducible repeat (first | apply Kd.R_alloc | apply Kd.R_drewN | apply Kd.R_drew)); exact Kd.R_mono HO_437000.out (fun _ hk => ⟨hk.1.1.1, ⟨hk.1.1.2, ⟨hk.1.2, hk.2⟩⟩⟩)⟩, ⟨by (with_reducible repeat (first | apply Kd.R_alloc | apply Kd.R_drewN | apply Kd.R_drew)); exact Kd.R_mono HO_446000.out (fun _ hk => ⟨hk.1.1.1, ⟨hk.1.1.2, ⟨hk.1.2, hk.2⟩⟩⟩)⟩, ⟨by (with_reducible repeat (first | apply Kd.R_alloc | apply Kd.R_drewN | apply Kd.R_drew)); exact Kd.R_mono HO_451000.out (fun _ hk => ⟨hk.1.1.1, ⟨hk.1.1.2, ⟨hk.1.2, hk.2⟩⟩⟩)⟩, ⟨by (with_reducible repeat (first | apply Kd.R_alloc | apply Kd.R_drewN | apply Kd.R_drew)); exact Kd.R_mono HO456.out (fun _ hk => ⟨hk.1.1.1.2, ⟨hk.1.1.2, ⟨hk.1.2, hk.2⟩⟩⟩)⟩, ⟨by (with_reducible repeat (first | apply Kd.R_alloc | apply Kd.R_drewN | apply Kd.R_drew)); exact Kd.R_mono HO461.out (fun _ hk => ⟨hk.1.1.1.2, ⟨hk.1.1.2, ⟨hk.1.2, hk.2⟩⟩⟩)⟩, ⟨eb BK436⟩, ⟨eb BK445⟩, ⟨eb BK450⟩, ⟨eb BK458⟩, ⟨eb BK463⟩, ⟨el HB⟩⟩
          ·rw [if_neg c62] at H
           have c62b0 : (t457 == t462) = false := beq_eq_false_iff_ne.mpr c62
           have c62b1 : (t457 != t462) = true := bne_iff_ne.mpr c62
           (first | rw [c62b0] | (simp only [i64_w, i32_w]; rw [c62b0]) | skip)
           have H' := A_ H
           clear H
           go_wp2
           go_meet
           case rel => exact ⟨_, (true), laws_FnRanks.Z31, H', ⟨by have := HJ6.out; have := HJ18.out; first | omega | exact Nat.le_refl _⟩, ⟨by (with_reducible repeat (first | apply Kd.R_alloc | apply Kd.R_drewN | apply Kd.R_drew)); exact Kd.R_mono (Kd.R_far (p := ⟨gb463, 0, none⟩) (Kd.R_types HO_437000.out BK463.out (by decide)) (fun _ hk => hk.2) (.slice Ao56 t459.length co56)) (fun _ hk => ⟨hk.1.1.1.1, ⟨hk.1.1.1.2, ⟨hk.1.1.2, hk.1.2⟩⟩⟩)⟩, ⟨by (with_reducible repeat (first | apply Kd.R_alloc | apply Kd.R_drewN | apply Kd.R_drew)); exact Kd.R_mono (Kd.R_far (p := ⟨gb463, 0, none⟩) (Kd.R_types HO_446000.out BK463.out (by decide)) (fun _ hk => hk.2) (.slice Ao56 t459.length co56)) (fun _ hk => ⟨hk.1.1.1.1, ⟨hk.1.1.1.2, ⟨hk.1.1.2, hk.1.2⟩⟩⟩)⟩, ⟨by (with_reducible repeat (first | apply Kd.R_alloc | apply Kd.R_drewN | apply Kd.R_drew)); exact Kd.R_mono (Kd.R_far (p := ⟨gb463, 0, none⟩) (Kd.R_types HO_451000.out BK463.out (by decide)) (fun _ hk => hk.2) (.slice Ao56 t459.length co56)) (fun _ hk => ⟨hk.1.1.1.1, ⟨hk.1.1.1.2, ⟨hk.1.1.2, hk.1.2⟩⟩⟩)⟩, ⟨by (with_reducible repeat (first | apply Kd.R_alloc | apply Kd.R_drewN | apply Kd.R_drew)); exact Kd.R_mono (Kd.R_far (p := ⟨gb463, 0, none⟩) (Kd.R_types HO456.out BK463.out (by decide)) (fun _ hk => hk.2) (.slice Ao56 t459.length co56)) (fun _ hk => ⟨hk.1.1.1.1.2, ⟨hk.1.1.1.2, ⟨hk.1.1.2, hk.1.2⟩⟩⟩)⟩, ⟨by (with_reducible repeat (first | apply Kd.R_alloc | apply Kd.R_drewN | apply Kd.R_drew)); exact Kd.R_mono (Kd.R_far (p := ⟨gb463, 0, none⟩) (Kd.R_types HO461.out BK463.out (by decide)) (fun _ hk => hk.2) (.slice Ao56 t459.length co56)) (fun _ hk => ⟨hk.1.1.1.1.2, ⟨hk.1.1.1.2, ⟨hk.1.1.2, hk.1.2⟩⟩⟩)⟩, ⟨eb BK436⟩, ⟨eb BK445⟩, ⟨eb BK450⟩, ⟨eb BK458⟩, ⟨by (with_reducible repeat (first | refine blk_drewN ?_ _ | refine blk_drew ?_ | refine blk_alloc ?_ _)); refine blk_put (cs := #[.slice none 0 0]) ?_ 0 _ rfl; (with_reducible repeat (first | refine blk_drewN ?_ _ | refine blk_drew ?_ | refine blk_alloc ?_ _)); exact BK463.out⟩, ⟨el HB⟩⟩
        case rest =>
         as_aux_lemma =>
          clear HC45
          try clear c1
          try clear c2
          try clear p2
          try clear c3
          try clear c4
          try clear c5
          try clear c6
          try clear c7
          try clear c8
          try clear c9
          try clear c15
          try clear c15b0
          try clear c15b1
          try clear c16
          try clear c24
          try clear c30
          try clear c31
          try clear c33
          try clear c33b0
          try clear c33b1
          try clear c35
          try clear c36
          try clear c38
          try clear c41
          try clear c50
          try clear c51
          try clear c52
          try clear c57
          try clear c58
          try clear c59
          try clear c60
          try clear c62
          try clear c62b0
          try clear c62b1
          try clear c64
          try clear c65
          try clear c66
          try clear c67
          try clear c69
          try clear c70
          try clear c71
          try clear hcz11_0
          try clear hcz13_0
          try clear hcz20_0
          try clear hcz25_0
          try clear hcz26_0
          try clear hcz32_0
          try clear hcz37_0
          try clear hcz39_0
          try clear hcz53_0
          try clear hcz61_0
          try clear hcz68_0
          try clear hcz72_0
          try clear hfz11_0
          try clear hfz13_0
          try clear hfz20_0
          try clear hfz25_0
          try clear hfz26_0
          try clear hfz32_0
          try clear hfz37_0
          try clear hfz39_0
          try clear hfz53_0
          try clear hfz61_0
          try clear hfz68_0
          try clear hfz72_0
          try clear p2
          obtain ⟨kq, x107_44, rfl, HA, HJ44, HO_437000, HO_446000, HO_451000, HO_459000, HO_464000, BK436, BK445, BK450, BK458, BK463, HB⟩ := hcut
          cases kq with
          | zero => exact absurd HA.out (by simp [laws_FnRanks.j2])
          | succ kj44 =>
           have H := HA.out
           clear HA
           simp only [laws_FnRanks.j2] at H
           by_cases c74 : x107_44 = true
           ·subst c74
            have H1 : (none) = some r := by rw [if_pos rfl] at H; exact H
            clear H
            have H := H1
            clear H1
            exact absurd H (by simp)
           replace c74 := Bool.eq_false_iff.mpr c74
           subst c74
           have H1 : ((spec_DrawFirstTree.f kj44 l0).bind fun t465 => ((impl_FirstTree.f t465).bind fun bt466 => ((spec_FirstTree.f kj44 t465).bind fun bt471 => (if bt466.2 = bt471.2 then ((laws_tree9.f kj44 bt466.1 bt471.1).bind fun t476 => (laws_FnRanks.j3 kj44 t437 t438 t444 t453 t457 t465 bt466.2 (!t476) t433 t441 t454 bt466.1)) else (laws_FnRanks.j3 kj44 t437 t438 t444 t453 t457 t465 bt466.2 true t433 t441 t454 bt466.1))))) = some r := by rw [if_neg (show ¬ (false = true) by decide)] at H; exact H
           clear H
           have H := H1
           clear H1
           replace H := Option.bind_eq_some_iff.mp H
           obtain ⟨t465, A750, H⟩ := H
           replace H : ((impl_FirstTree.f t465).bind fun bt466 => ((spec_FirstTree.f kj44 t465).bind fun bt471 => (if bt466.2 = bt471.2 then ((laws_tree9.f kj44 bt466.1 bt471.1).bind fun t476 => (laws_FnRanks.j3 kj44 t437 t438 t444 t453 t457 t465 bt466.2 (!t476) t433 t441 t454 bt466.1)) else (laws_FnRanks.j3 kj44 t437 t438 t444 t453 t457 t465 bt466.2 true t433 t441 t454 bt466.1)))) = some r := H
           have A75 := A_ A750
           clear A750
           replace H := Option.bind_eq_some_iff.mp H
           obtain ⟨⟨t466, t469⟩, A760, H⟩ := H
           replace H : ((spec_FirstTree.f kj44 t465).bind fun bt471 => (if t469 = bt471.2 then ((laws_tree9.f kj44 t466 bt471.1).bind fun t476 => (laws_FnRanks.j3 kj44 t437 t438 t444 t453 t457 t465 t469 (!t476) t433 t441 t454 t466)) else (laws_FnRanks.j3 kj44 t437 t438 t444 t453 t457 t465 t469 true t433 t441 t454 t466))) = some r := H
           have A76 := A_ A760
           clear A760
           replace H := Option.bind_eq_some_iff.mp H
           obtain ⟨⟨t471, t474⟩, A770, H⟩ := H
           replace H : (if t469 = t474 then ((laws_tree9.f kj44 t466 t471).bind fun t476 => (laws_FnRanks.j3 kj44 t437 t438 t444 t453 t457 t465 t469 (!t476) t433 t441 t454 t466)) else (laws_FnRanks.j3 kj44 t437 t438 t444 t453 t457 t465 t469 true t433 t441 t454 t466)) = some r := H
           have A77 := A_ A770
           clear A770
           have HC78 := A_ H
           clear H
           go_upto_region 20 with (first | ((with_reducible refine gate_callee (f := 93) rfl ?_); refine goesL_ (some 109) rfl rfl Try.func93 (by kernel_rfl) rfl #[.slice A0 l0.length c0] rfl eg ?_; (with_reducible refine (spec_DrawFirstTree.calls kj44 _ _ l0 t465 _ ?side1 ?side2 A75.out).mono ?_); (case side1 => repeat (first | exact (Kd.C_below HR0.out HB.out) | (with_reducible refine Kd.C_alloc ?_ _) | (with_reducible refine Kd.C_drewN ?_ _) | (with_reducible refine Kd.C_drew ?_))); (case side2 => exact HC0.out); rintro e w79 ⟨rfl, hb⟩; refine ⟨_, rfl, ?_⟩; have n0_ := A_ (Kd.R_below (ea HO_437000) hb); have n1_ := A_ (Kd.R_below (ea HO_446000) hb); have n2_ := A_ (Kd.R_below (ea HO_451000) hb); have n3_ := A_ (Kd.R_below (ea HO_459000) hb); have n4_ := A_ (Kd.R_below (ea HO_464000) hb); have n5_ := A_ (eB BK436 hb); have n6_ := A_ (eB BK445 hb); have n7_ := A_ (eB BK450 hb); have n8_ := A_ (eB BK458 hb); have n9_ := A_ (eB BK463 hb); have n10_ := A_ (below_step (el HB) hb); clear HO_437000; clear HO_446000; clear HO_451000; clear HO_459000; clear HO_464000; clear BK436; clear BK445; clear BK450; clear BK458; clear BK463; clear HB; have HO_437000 := n0_; have HO_446000 := n1_; have HO_451000 := n2_; have HO_459000 := n3_; have HO_464000 := n4_; have BK436 := n5_; have BK445 := n6_; have BK450 := n7_; have BK458 := n8_; have BK463 := n9_; have HB := n10_; clear n0_ n1_ n2_ n3_ n4_ n5_ n6_ n7_ n8_ n9_ n10_; (try clear hb); (try clear hb2); (try clear hk); (try clear hi)) | ((with_reducible refine gate_callee (f := 94) rfl ?_); refine goesL_ (some 112) rfl rfl Try.func94 (by kernel_rfl) rfl #[.int .i64 t465] rfl eg ?_; (with_reducible refine (impl_FirstTree.calls t465 t466 t469 _ A76.out).mono ?_); rintro e w80 ⟨v467, rfl, ho0, hb⟩; refine ⟨_, rfl, ?_⟩; have n0_ := A_ (Kd.R_elder' (ea HO_437000) (Kd.R_base ho0) hb); have n1_ := A_ (Kd.R_elder' (ea HO_446000) (Kd.R_base ho0) hb); have n2_ := A_ (Kd.R_elder' (ea HO_451000) (Kd.R_base ho0) hb); have n3_ := A_ (Kd.R_elder' (ea HO_459000) (Kd.R_base ho0) hb); have n4_ := A_ (Kd.R_elder' (ea HO_464000) (Kd.R_base ho0) hb); have n5_ := A_ (Kd.R_lower (Kd.R_new' (Kd.R_new' (Kd.R_new' (Kd.R_new' (Kd.R_new' ho0 (Kd.R_lt (ea HO_437000))) (Kd.R_lt (ea HO_446000))) (Kd.R_lt (ea HO_451000))) (Kd.R_lt (ea HO_459000))) (Kd.R_lt (ea HO_464000))) (below_size (el HB))); have n6_ := A_ (eB BK436 hb); have n7_ := A_ (eB BK445 hb); have n8_ := A_ (eB BK450 hb); have n9_ := A_ (eB BK458 hb); have n10_ := A_ (eB BK463 hb); have n11_ := A_ (below_step (el HB) hb); clear HO_437000; clear HO_446000; clear HO_451000; clear HO_459000; clear HO_464000; clear BK436; clear BK445; clear BK450; clear BK458; clear BK463; clear HB; have HO_437000 := n0_; have HO_446000 := n1_; have HO_451000 := n2_; have HO_459000 := n3_; have HO_464000 := n4_; have HO468 := n5_; have BK436 := n6_; have BK445 := n7_; have BK450 := n8_; have BK458 := n9_; have BK463 := n10_; have HB := n11_; clear n0_ n1_ n2_ n3_ n4_ n5_ n6_ n7_ n8_ n9_ n10_ n11_; (try clear hb); (try clear hb2); (try clear hk); (try clear hi); (try clear ho0)) | ((with_reducible refine gate_dst (N := 19) rfl ?_); refine box_event ?hg (N := 19) ?hd (cs := #[.slice none 0 0]) (t := 26) ?hr ?_; (case hd => rfl); (case hg => rfl); (case hr => first | (go_simp; done) | (go_simp; rfl)); intro gb470 hg w81 hbox hb; have n0_ := A_ (Kd.R_below (ea HO_437000) hb); have n1_ := A_ (Kd.R_below (ea HO_446000) hb); have n2_ := A_ (Kd.R_below (ea HO_451000) hb); have n3_ := A_ (Kd.R_below (ea HO_459000) hb); have n4_ := A_ (Kd.R_below (ea HO_464000) hb); have n5_ := A_ (Kd.R_below (ea HO468) hb); have n6_ := A_ (eB BK436 hb); have n7_ := A_ (eB BK445 hb); have n8_ := A_ (eB BK450 hb); have n9_ := A_ (eB BK458 hb); have n10_ := A_ (eB BK463 hb); have n11_ := A_ (below_step (el HB) hb); have n12_ := A_ (hbox); have n13_ := A_ ((by rw [hg]; exact (below_size (el HB)) : w.heap.size ≤ gb470)); have n14_ := A_ ((by rw [hg]; exact (below_size (el HB)) : w.heap.size ≤ gb470)); have n15_ := A_ ((by rw [hg]; exact Nat.ne_of_lt (eL BK436) : gb436 ≠ gb470)); have n16_ := A_ ((by rw [hg]; exact Nat.ne_of_gt (eL BK436) : gb470 ≠ gb436)); have n17_ := A_ ((by rw [hg]; exact Nat.ne_of_lt (eL BK445) : gb445 ≠ gb470)); have n18_ := A_ ((by rw [hg]; exact Nat.ne_of_gt (eL BK445) : gb470 ≠ gb445)); have n19_ := A_ ((by rw [hg]; exact Nat.ne_of_lt (eL BK450) : gb450 ≠ gb470)); have n20_ := A_ ((by rw [hg]; exact Nat.ne_of_gt (eL BK450) : gb470 ≠ gb450)); have n21_ := A_ ((by rw [hg]; exact Nat.ne_of_lt (eL BK458) : gb458 ≠ gb470)); have n22_ := A_ ((by rw [hg]; exact Nat.ne_of_gt (eL BK458) : gb470 ≠ gb458)); have n23_ := A_ ((by rw [hg]; exact Nat.ne_of_lt (eL BK463) : gb463 ≠ gb470)); have n24_ := A_ ((by rw [hg]; exact Nat.ne_of_gt (eL BK463) : gb470 ≠ gb463)); clear HO_437000; clear HO_446000; clear HO_451000; clear HO_459000; clear HO_464000; clear HO468; clear BK436; clear BK445; clear BK450; clear BK458; clear BK463; clear HB; have HO_437000 := n0_; have HO_446000 := n1_; have HO_451000 := n2_; have HO_459000 := n3_; have HO_464000 := n4_; have HO468 := n5_; have BK436 := n6_; have BK445 := n7_; have BK450 := n8_; have BK458 := n9_; have BK463 := n10_; have HB := n11_; have BK470 := n12_; have GW470 := n13_; have GE470 := n14_; have NB436_470 := n15_; have NB470_436 := n16_; have NB445_470 := n17_; have NB470_445 := n18_; have NB450_470 := n19_; have NB470_450 := n20_; have NB458_470 := n21_; have NB470_458 := n22_; have NB463_470 := n23_; have NB470_463 := n24_; clear n0_ n1_ n2_ n3_ n4_ n5_ n6_ n7_ n8_ n9_ n10_ n11_ n12_ n13_ n14_ n15_ n16_ n17_ n18_ n19_ n20_ n21_ n22_ n23_ n24_; clear hb hbox hg; obtain ⟨Ao82, co82, eo82⟩ := Kd.R_slice HO468.out; subst eo82; have hnb83 := NB470_436.out; have hnc83 := NB436_470.out; have hnb84 := NB470_445.out; have hnc84 := NB445_470.out; have hnb85 := NB470_450.out; have hnc85 := NB450_470.out; have hnb86 := NB470_458.out; have hnc86 := NB458_470.out; have hnb87 := NB470_463.out; have hnc87 := NB463_470.out; have hcz88_0 : w81.cell? ⟨gb470, 0, none⟩ = some (.slice none 0 0) := (blk_cell BK470.out 0).trans rfl; have hfz88_0 := blk_frozen BK470.out 0) | ((with_reducible refine gate_callee (f := 95) rfl ?_); refine goesL_ (some 117) rfl rfl Try.func95 (by kernel_rfl) rfl #[.int .i64 t465] rfl eg ?_; (with_reducible refine (spec_FirstTree.calls kj44 t465 t471 t474 _ A77.out).mono ?_); rintro e w89 ⟨v472, rfl, ho0, hb⟩; refine ⟨_, rfl, ?_⟩; have n0_ := A_ (Kd.R_elder' laws_FnRanks.Z11 (Kd.R_base ho0) hb); have n1_ := A_ (Kd.R_elder' laws_FnRanks.Z12 (Kd.R_base ho0) hb); have n2_ := A_ (Kd.R_elder' laws_FnRanks.Z13 (Kd.R_base ho0) hb); have n3_ := A_ (Kd.R_elder' laws_FnRanks.Z14 (Kd.R_base ho0) hb); have n4_ := A_ (Kd.R_elder' laws_FnRanks.Z15 (Kd.R_base ho0) hb); have n5_ := A_ (Kd.R_elder' laws_FnRanks.Z28 (Kd.R_base ho0) hb); have n6_ := A_ (Kd.R_lower (Kd.R_new' (Kd.R_new' (Kd.R_new' (Kd.R_new' (Kd.R_new' (Kd.R_new' ho0 (Kd.R_lt laws_FnRanks.Z11)) (Kd.R_lt laws_FnRanks.Z12)) (Kd.R_lt laws_FnRanks.Z13)) (Kd.R_lt laws_FnRanks.Z14)) (Kd.R_lt laws_FnRanks.Z15)) (Kd.R_lt laws_FnRanks.Z28)) (below_size (el HB))); have n7_ := A_ (eB BK436 hb); have n8_ := A_ (eB BK445 hb); have n9_ := A_ (eB BK450 hb); have n10_ := A_ (eB BK458 hb); have n11_ := A_ (eB BK463 hb); have n12_ := A_ (blk_below (g := gb470) (o := .cells #[.slice Ao82 t466.length co82] 26 (0, 0)) (by (with_reducible repeat (first | refine blk_drewN ?_ _ | refine blk_drew ?_ | refine blk_alloc ?_ _)); refine blk_put (cs := #[.slice none 0 0]) ?_ 0 _ rfl; (with_reducible repeat (first | refine blk_drewN ?_ _ | refine blk_drew ?_ | refine blk_alloc ?_ _)); exact BK470.out) hb); have n13_ := A_ (below_step (el HB) hb); clear HO_437000; clear HO_446000; clear HO_451000; clear HO_459000; clear HO_464000; clear HO468; clear BK436; clear BK445; clear BK450; clear BK458; clear BK463; clear BK470; clear HB; have HO_437000 := n0_; have HO_446000 := n1_; have HO_451000 := n2_; have HO_459000 := n3_; have HO_464000 := n4_; have HO468 := n5_; have HO473 := n6_; have BK436 := n7_; have BK445 := n8_; have BK450 := n9_; have BK458 := n10_; have BK463 := n11_; have BK470 := n12_; have HB := n13_; clear n0_ n1_ n2_ n3_ n4_ n5_ n6_ n7_ n8_ n9_ n10_ n11_ n12_ n13_; (try clear hb); (try clear hb2); (try clear hk); (try clear hi); (try clear ho0)) | ((with_reducible refine gate_dst (N := 21) rfl ?_); refine box_event ?hg (N := 21) ?hd (cs := #[.slice none 0 0]) (t := 26) ?hr ?_; (case hd => rfl); (case hg => rfl); (case hr => first | (go_simp; done) | (go_simp; rfl)); intro gb475 hg w90 hbox hb; have n0_ := A_ (Kd.R_below (ea HO_437000) hb); have n1_ := A_ (Kd.R_below (ea HO_446000) hb); have n2_ := A_ (Kd.R_below (ea HO_451000) hb); have n3_ := A_ (Kd.R_below (ea HO_459000) hb); have n4_ := A_ (Kd.R_below (ea HO_464000) hb); have n5_ := A_ (Kd.R_below (ea HO468) hb); have n6_ := A_ (Kd.R_below (ea HO473) hb); have n7_ := A_ (eB BK436 hb); have n8_ := A_ (eB BK445 hb); have n9_ := A_ (eB BK450 hb); have n10_ := A_ (eB BK458 hb); have n11_ := A_ (eB BK463 hb); have n12_ := A_ (eB BK470 hb); have n13_ := A_ (below_step (el HB) hb); have n14_ := A_ (hbox); have n15_ := A_ ((by rw [hg]; exact (below_size (el HB)) : w.heap.size ≤ gb475)); have n16_ := A_ ((by rw [hg]; exact (below_size (el HB)) : w.heap.size ≤ gb475)); have n17_ := A_ ((by rw [hg]; exact Nat.ne_of_lt (eL BK436) : gb436 ≠ gb475)); have n18_ := A_ ((by rw [hg]; exact Nat.ne_of_gt (eL BK436) : gb475 ≠ gb436)); have n19_ := A_ ((by rw [hg]; exact Nat.ne_of_lt (eL BK445) : gb445 ≠ gb475)); have n20_ := A_ ((by rw [hg]; exact Nat.ne_of_gt (eL BK445) : gb475 ≠ gb445)); have n21_ := A_ ((by rw [hg]; exact Nat.ne_of_lt (eL BK450) : gb450 ≠ gb475)); have n22_ := A_ ((by rw [hg]; exact Nat.ne_of_gt (eL BK450) : gb475 ≠ gb450)); have n23_ := A_ ((by rw [hg]; exact Nat.ne_of_lt (eL BK458) : gb458 ≠ gb475)); have n24_ := A_ ((by rw [hg]; exact Nat.ne_of_gt (eL BK458) : gb475 ≠ gb458)); have n25_ := A_ ((by rw [hg]; exact Nat.ne_of_lt (eL BK463) : gb463 ≠ gb475)); have n26_ := A_ ((by rw [hg]; exact Nat.ne_of_gt (eL BK463) : gb475 ≠ gb463)); have n27_ := A_ ((by rw [hg]; exact Nat.ne_of_lt (eL BK470) : gb470 ≠ gb475)); have n28_ := A_ ((by rw [hg]; exact Nat.ne_of_gt (eL BK470) : gb475 ≠ gb470)); clear HO_437000; clear HO_446000; clear HO_451000; clear HO_459000; clear HO_464000; clear HO468; clear HO473; clear BK436; clear BK445; clear BK450; clear BK458; clear BK463; clear BK470; clear HB; have HO_437000 := n0_; have HO_446000 := n1_; have HO_451000 := n2_; have HO_459000 := n3_; have HO_464000 := n4_; have HO468 := n5_; have HO473 := n6_; have BK436 := n7_; have BK445 := n8_; have BK450 := n9_; have BK458 := n10_; have BK463 := n11_; have BK470 := n12_; have HB := n13_; have BK475 := n14_; have GW475 := n15_; have GE475 := n16_; have NB436_475 := n17_; have NB475_436 := n18_; have NB445_475 := n19_; have NB475_445 := n20_; have NB450_475 := n21_; have NB475_450 := n22_; have NB458_475 := n23_; have NB475_458 := n24_; have NB463_475 := n25_; have NB475_463 := n26_; have NB470_475 := n27_; have NB475_470 := n28_; clear n0_ n1_ n2_ n3_ n4_ n5_ n6_ n7_ n8_ n9_ n10_ n11_ n12_ n13_ n14_ n15_ n16_ n17_ n18_ n19_ n20_ n21_ n22_ n23_ n24_ n25_ n26_ n27_ n28_; clear hb hbox hg; obtain ⟨Ao91, co91, eo91⟩ := Kd.R_slice HO473.out; subst eo91; have hnb92 := NB475_436.out; have hnc92 := NB436_475.out; have hnb93 := NB475_445.out; have hnc93 := NB445_475.out; have hnb94 := NB475_450.out; have hnc94 := NB450_475.out; have hnb95 := NB475_458.out; have hnc95 := NB458_475.out; have hnb96 := NB475_463.out; have hnc96 := NB463_475.out; have hnb97 := NB475_470.out; have hnc97 := NB470_475.out; have hcz98_0 : w90.cell? ⟨gb475, 0, none⟩ = some (.slice none 0 0) := (blk_cell BK475.out 0).trans rfl; have hfz98_0 := blk_frozen BK475.out 0))
           (try simp only [Act.put, List.setIfInBounds_toArray, List.set_cons_zero, List.set_cons_succ])
           go_cut [128] (fun v128 wc => ∃ (kq : Nat) (x128_77 : Bool), v128 = .bool x128_77 ∧ Aside0 (laws_FnRanks.j3 kq t437 t438 t444 t453 t457 t465 t469 x128_77 t433 t441 t454 t466 = some r) ∧ Aside0 (kq ≤ kj44) ∧ Aside0 (Kd.R (Kd.int .i64) 2 wc w.heap.size (fun k_ => some k_ ≠ ((.slice Ao23 t441.length co23) : Value).ownBlock ∧ some k_ ≠ ((.slice Ao29 t446.length co29) : Value).ownBlock ∧ some k_ ≠ ((.slice Ao49 t454.length co49) : Value).ownBlock ∧ some k_ ≠ ((.slice Ao56 t459.length co56) : Value).ownBlock ∧ some k_ ≠ ((.slice Ao82 t466.length co82) : Value).ownBlock ∧ some k_ ≠ ((.slice Ao91 t471.length co91) : Value).ownBlock) (.slice Ao10 t433.length co10) t433) ∧ Aside0 (Kd.R (Kd.int .i64) 2 wc w.heap.size (fun k_ => some k_ ≠ ((.slice Ao10 t433.length co10) : Value).ownBlock ∧ some k_ ≠ ((.slice Ao29 t446.length co29) : Value).ownBlock ∧ some k_ ≠ ((.slice Ao49 t454.length co49) : Value).ownBlock ∧ some k_ ≠ ((.slice Ao56 t459.length co56) : Value).ownBlock ∧ some k_ ≠ ((.slice Ao82 t466.length co82) : Value).ownBlock ∧ some k_ ≠ ((.slice Ao91 t471.length co91) : Value).ownBlock) (.slice Ao23 t441.length co23) t441) ∧ Aside0 (Kd.R (Kd.int .i64) 2 wc w.heap.size (fun k_ => some k_ ≠ ((.slice Ao10 t433.length co10) : Value).ownBlock ∧ some k_ ≠ ((.slice Ao23 t441.length co23) : Value).ownBlock ∧ some k_ ≠ ((.slice Ao49 t454.length co49) : Value).ownBlock ∧ some k_ ≠ ((.slice Ao56 t459.length co56) : Value).ownBlock ∧ some k_ ≠ ((.slice Ao82 t466.length co82) : Value).ownBlock ∧ some k_ ≠ ((.slice Ao91 t471.length co91) : Value).ownBlock) (.slice Ao29 t446.length co29) t446) ∧ Aside0 (Kd.R (Kd.int .i64) 2 wc w.heap.size (fun k_ => some k_ ≠ ((.slice Ao10 t433.length co10) : Value).ownBlock ∧ some k_ ≠ ((.slice Ao23 t441.length co23) : Value).ownBlock ∧ some k_ ≠ ((.slice Ao29 t446.length co29) : Value).ownBlock ∧ some k_ ≠ ((.slice Ao56 t459.length co56) : Value).ownBlock ∧ some k_ ≠ ((.slice Ao82 t466.length co82) : Value).ownBlock ∧ some k_ ≠ ((.slice Ao91 t471.length co91) : Value).ownBlock) (.slice Ao49 t454.length co49) t454) ∧ Aside0 (Kd.R (Kd.int .i64) 2 wc w.heap.size (fun k_ => some k_ ≠ ((.slice Ao10 t433.length co10) : Value).ownBlock ∧ some k_ ≠ ((.slice Ao23 t441.length co23) : Value).ownBlock ∧ some k_ ≠ ((.slice Ao29 t446.length co29) : Value).ownBlock ∧ some k_ ≠ ((.slice Ao49 t454.length co49) : Value).ownBlock ∧ some k_ ≠ ((.slice Ao82 t466.length co82) : Value).ownBlock ∧ some k_ ≠ ((.slice Ao91 t471.length co91) : Value).ownBlock) (.slice Ao56 t459.length co56) t459) ∧ Aside0 (Kd.R (Kd.int .i64) 2 wc w.heap.size (fun k_ => some k_ ≠ ((.slice Ao10 t433.length co10) : Value).ownBlock ∧ some k_ ≠ ((.slice Ao23 t441.length co23) : Value).ownBlock ∧ some k_ ≠ ((.slice Ao29 t446.length co29) : Value).ownBlock ∧ some k_ ≠ ((.slice Ao49 t454.length co49) : Value).ownBlock ∧ some k_ ≠ ((.slice Ao56 t459.length co56) : Value).ownBlock ∧ some k_ ≠ ((.slice Ao91 t471.length co91) : Value).ownBlock) (.slice Ao82 t466.length co82) t466) ∧ Aside0 (Kd.R (Kd.int .i64) 2 wc w.heap.size (fun k_ => some k_ ≠ ((.slice Ao10 t433.length co10) : Value).ownBlock ∧ some k_ ≠ ((.slice Ao23 t441.length co23) : Value).ownBlock ∧ some k_ ≠ ((.slice Ao29 t446.length co29) : Value).ownBlock ∧ some k_ ≠ ((.slice Ao49 t454.length co49) : Value).ownBlock ∧ some k_ ≠ ((.slice Ao56 t459.length co56) : Value).ownBlock ∧ some k_ ≠ ((.slice Ao82 t466.length co82) : Value).ownBlock) (.slice Ao91 t471.length co91) t471) ∧ Aside0 (wc.heap[gb436]? = some (.cells #[(.slice Ao10 t433.length co10)] 26 (0, 0))) ∧ Aside0 (wc.heap[gb445]? = some (.cells #[(.slice Ao23 t441.length co23)] 26 (0, 0))) ∧ Aside0 (wc.heap[gb450]? = some (.cells #[(.slice Ao29 t446.length co29)] 26 (0, 0))) ∧ Aside0 (wc.heap[gb458]? = some (.cells #[(.slice Ao49 t454.length co49)] 26 (0, 0))) ∧ Aside0 (wc.heap[gb463]? = some (.cells #[(.slice Ao56 t459.length co56)] 26 (0, 0))) ∧ Aside0 (wc.heap[gb470]? = some (.cells #[(.slice Ao82 t466.length co82)] 26 (0, 0))) ∧ Aside0 (wc.heap[gb475]? = some (.cells #[(.slice Ao91 t471.length co91)] 26 (0, 0))) ∧ Aside0 (Below w.heap.size w wc))
           case first =>
            as_aux_lemma =>
             have H := HC78.out
             clear HC78
             by_cases c99 : t469 = t474
             ·rw [if_pos c99] at H
              have c99b0 : (t469 == t474) = true := beq_iff_eq.mpr c99
              have c99b1 : (t469 != t474) = false := bne_eq_false_iff_eq.mpr c99
              clear c99
              (first | rw [c99b0] | (simp only [i64_w, i32_w]; rw [c99b0]) | skip)
              replace H := Option.bind_eq_some_iff.mp H
              obtain ⟨t476, A1000, H⟩ := H
              replace H : (laws_FnRanks.j3 kj44 t437 t438 t444 t453 t457 t465 t469 (!t476) t433 t441 t454 t466) = some r := H
              have A100 := A_ A1000
              clear A1000
              have H' := A_ H
              clear H
              have hnb101 := NB470_436.out
              have hnc101 := NB436_470.out
              have hnb102 := NB470_445.out
              have hnc102 := NB445_470.out
              have hnb103 := NB470_450.out
              have hnc103 := NB450_470.out
              have hnb104 := NB470_458.out
              have hnc104 := NB458_470.out
              have hnb105 := NB470_463.out
              have hnc105 := NB463_470.out
              have hnb106 := NB470_475.out
              have hnc106 := NB475_470.out
              have hcz107_0 : w90.cell? ⟨gb470, 0, none⟩ = some (.slice Ao82 t466.length co82) := (blk_cell BK470.out 0).trans rfl
              have hfz107_0 := blk_frozen BK470.out 0
              have hnb108 := NB475_436.out
              have hnc108 := NB436_475.out
              have hnb109 := NB475_445.out
              have hnc109 := NB445_475.out
              have hnb110 := NB475_450.out
              have hnc110 := NB450_475.out
              have hnb111 := NB475_458.out
              have hnc111 := NB458_475.out
              have hnb112 := NB475_463.out
              have hnc112 := NB463_475.out
              have hcz113_0 : w90.cell? ⟨gb475, 0, none⟩ = some (.slice none 0 0) := (blk_cell BK475.out 0).trans rfl
              have hfz113_0 := blk_frozen BK475.out 0
              go_wp2_with (first | (go_at_call 89; (with_reducible refine (laws_tree9.calls kj44 _ _ t466 _ _ t471 t476 _ ?side1 ?side2 ?side3 ?side4 A100.out).mono ?_); (case side1 => refine (Kd.R_reads' (e := 2) (base := w.heap.size) (ok := fun k_ => ((((((True ∧ some k_ ≠ (.slice Ao10 t433.length co10 : Value).ownBlock) ∧ some k_ ≠ (.slice Ao23 t441.length co23 : Value).ownBlock) ∧ some k_ ≠ (.slice Ao29 t446.length co29 : Value).ownBlock) ∧ some k_ ≠ (.slice Ao49 t454.length co49 : Value).ownBlock) ∧ some k_ ≠ (.slice Ao56 t459.length co56 : Value).ownBlock) ∧ some k_ ≠ (.slice Ao91 t471.length co91 : Value).ownBlock)) (n := t466.length) (c := co82) ?_).2.2; exact laws_FnRanks.Z29); (case side2 => exact (Kd.R_reads' HO468.out).2.1); (case side3 => refine (Kd.R_reads' (e := 2) (base := w.heap.size) (ok := fun k_ => ((((((True ∧ some k_ ≠ (.slice Ao10 t433.length co10 : Value).ownBlock) ∧ some k_ ≠ (.slice Ao23 t441.length co23 : Value).ownBlock) ∧ some k_ ≠ (.slice Ao29 t446.length co29 : Value).ownBlock) ∧ some k_ ≠ (.slice Ao49 t454.length co49 : Value).ownBlock) ∧ some k_ ≠ (.slice Ao56 t459.length co56 : Value).ownBlock) ∧ some k_ ≠ (.slice Ao82 t466.length co82 : Value).ownBlock)) (n := t471.length) (c := co91) ?_).2.2; exact laws_FnRanks.Z30); (case side4 => exact (Kd.R_reads' HO473.out).2.1); rintro e w114 ⟨rfl, hb⟩; have n0_ := A_ (Kd.R_below (by (with_reducible repeat (first | apply Kd.R_alloc | apply Kd.R_drewN | apply Kd.R_drew)); exact (Kd.R_mono (Kd.R_far (p := ⟨gb475, 0, none⟩) (Kd.R_types HO_437000.out BK475.out (by decide)) (fun _ hk => hk.2) (.slice Ao91 t471.length co91)) (fun _ h_ => h_.1))) hb); have n1_ := A_ (Kd.R_below (by (with_reducible repeat (first | apply Kd.R_alloc | apply Kd.R_drewN | apply Kd.R_drew)); exact (Kd.R_mono (Kd.R_far (p := ⟨gb475, 0, none⟩) (Kd.R_types HO_446000.out BK475.out (by decide)) (fun _ hk => hk.2) (.slice Ao91 t471.length co91)) (fun _ h_ => h_.1))) hb); have n2_ := A_ (Kd.R_below (by (with_reducible repeat (first | apply Kd.R_alloc | apply Kd.R_drewN | apply Kd.R_drew)); exact (Kd.R_mono (Kd.R_far (p := ⟨gb475, 0, none⟩) (Kd.R_types HO_451000.out BK475.out (by decide)) (fun _ hk => hk.2) (.slice Ao91 t471.length co91)) (fun _ h_ => h_.1))) hb); have n3_ := A_ (Kd.R_below (by (with_reducible repeat (first | apply Kd.R_alloc | apply Kd.R_drewN | apply Kd.R_drew)); exact (Kd.R_mono (Kd.R_far (p := ⟨gb475, 0, none⟩) (Kd.R_types HO_459000.out BK475.out (by decide)) (fun _ hk => hk.2) (.slice Ao91 t471.length co91)) (fun _ h_ => h_.1))) hb); have n4_ := A_ (Kd.R_below (by (with_reducible repeat (first | apply Kd.R_alloc | apply Kd.R_drewN | apply Kd.R_drew)); exact (Kd.R_mono (Kd.R_far (p := ⟨gb475, 0, none⟩) (Kd.R_types HO_464000.out BK475.out (by decide)) (fun _ hk => hk.2) (.slice Ao91 t471.length co91)) (fun _ h_ => h_.1))) hb); have n5_ := A_ (Kd.R_below laws_FnRanks.Z29 hb); have n6_ := A_ (Kd.R_below laws_FnRanks.Z30 hb); have n7_ := A_ (eB BK436 hb); have n8_ := A_ (eB BK445 hb); have n9_ := A_ (eB BK450 hb); have n10_ := A_ (eB BK458 hb); have n11_ := A_ (eB BK463 hb); have n12_ := A_ (eB BK470 hb); have n13_ := A_ (blk_below (g := gb475) (o := .cells #[.slice Ao91 t471.length co91] 26 (0, 0)) (by (with_reducible repeat (first | refine blk_drewN ?_ _ | refine blk_drew ?_ | refine blk_alloc ?_ _)); refine blk_put (cs := #[.slice none 0 0]) ?_ 0 _ rfl; (with_reducible repeat (first | refine blk_drewN ?_ _ | refine blk_drew ?_ | refine blk_alloc ?_ _)); exact BK475.out) hb); have n14_ := A_ (below_step (el HB) hb); clear HO_437000; clear HO_446000; clear HO_451000; clear HO_459000; clear HO_464000; clear HO468; clear HO473; clear BK436; clear BK445; clear BK450; clear BK458; clear BK463; clear BK470; clear BK475; clear HB; have HO_437000 := n0_; have HO_446000 := n1_; have HO_451000 := n2_; have HO_459000 := n3_; have HO_464000 := n4_; have HO468 := n5_; have HO473 := n6_; have BK436 := n7_; have BK445 := n8_; have BK450 := n9_; have BK458 := n10_; have BK463 := n11_; have BK470 := n12_; have BK475 := n13_; have HB := n14_; clear n0_ n1_ n2_ n3_ n4_ n5_ n6_ n7_ n8_ n9_ n10_ n11_ n12_ n13_ n14_; (try clear hb); (try clear hb2); (try clear hk); (try clear hi)))
              go_meet
              case rel => exact ⟨_, (!t476), laws_FnRanks.Z31, H', ⟨by have := HJ6.out; have := HJ18.out; have := HJ44.out; first | omega | exact Nat.le_refl _⟩, ⟨by (with_reducible repeat (first | apply Kd.R_alloc | apply Kd.R_drewN | apply Kd.R_drew)); exact Kd.R_mono HO_437000.out (fun _ hk => ⟨hk.1.1.1, ⟨hk.1.1.2.1, ⟨hk.1.1.2.2.1, ⟨hk.1.1.2.2.2, ⟨hk.1.2, hk.2⟩⟩⟩⟩⟩)⟩, ⟨by (with_reducible repeat (first | apply Kd.R_alloc | apply Kd.R_drewN | apply Kd.R_drew)); exact Kd.R_mono HO_446000.out (fun _ hk => ⟨hk.1.1.1, ⟨hk.1.1.2.1, ⟨hk.1.1.2.2.1, ⟨hk.1.1.2.2.2, ⟨hk.1.2, hk.2⟩⟩⟩⟩⟩)⟩, ⟨by (with_reducible repeat (first | apply Kd.R_alloc | apply Kd.R_drewN | apply Kd.R_drew)); exact Kd.R_mono HO_451000.out (fun _ hk => ⟨hk.1.1.1, ⟨hk.1.1.2.1, ⟨hk.1.1.2.2.1, ⟨hk.1.1.2.2.2, ⟨hk.1.2, hk.2⟩⟩⟩⟩⟩)⟩, ⟨by (with_reducible repeat (first | apply Kd.R_alloc | apply Kd.R_drewN | apply Kd.R_drew)); exact Kd.R_mono HO_459000.out (fun _ hk => ⟨hk.1.1.1, ⟨hk.1.1.2.1, ⟨hk.1.1.2.2.1, ⟨hk.1.1.2.2.2, ⟨hk.1.2, hk.2⟩⟩⟩⟩⟩)⟩, ⟨by (with_reducible repeat (first | apply Kd.R_alloc | apply Kd.R_drewN | apply Kd.R_drew)); exact Kd.R_mono HO_464000.out (fun _ hk => ⟨hk.1.1.1, ⟨hk.1.1.2.1, ⟨hk.1.1.2.2.1, ⟨hk.1.1.2.2.2, ⟨hk.1.2, hk.2⟩⟩⟩⟩⟩)⟩, ⟨by (with_reducible repeat (first | apply Kd.R_alloc | apply Kd.R_drewN | apply Kd.R_drew)); exact Kd.R_mono HO468.out (fun _ hk => ⟨hk.1.1.1.1.1.2, ⟨hk.1.1.1.1.2, ⟨hk.1.1.1.2, ⟨hk.1.1.2, ⟨hk.1.2, hk.2⟩⟩⟩⟩⟩)⟩, ⟨by (with_reducible repeat (first | apply Kd.R_alloc | apply Kd.R_drewN | apply Kd.R_drew)); exact Kd.R_mono HO473.out (fun _ hk => ⟨hk.1.1.1.1.1.2, ⟨hk.1.1.1.1.2, ⟨hk.1.1.1.2, ⟨hk.1.1.2, ⟨hk.1.2, hk.2⟩⟩⟩⟩⟩)⟩, ⟨eb BK436⟩, ⟨eb BK445⟩, ⟨eb BK450⟩, ⟨eb BK458⟩, ⟨eb BK463⟩, ⟨eb BK470⟩, ⟨eb BK475⟩, ⟨el HB⟩⟩
             ·rw [if_neg c99] at H
              have c99b0 : (t469 == t474) = false := beq_eq_false_iff_ne.mpr c99
              have c99b1 : (t469 != t474) = true := bne_iff_ne.mpr c99
              (first | rw [c99b0] | (simp only [i64_w, i32_w]; rw [c99b0]) | skip)
              have H' := A_ H
              clear H
              go_wp2
              go_meet
              case rel => exact ⟨_, (true), laws_FnRanks.Z31, H', ⟨by have := HJ6.out; have := HJ18.out; have := HJ44.out; first | omega | exact Nat.le_refl _⟩, ⟨by (with_reducible repeat (first | apply Kd.R_alloc | apply Kd.R_drewN | apply Kd.R_drew)); exact Kd.R_mono (Kd.R_far (p := ⟨gb475, 0, none⟩) (Kd.R_types HO_437000.out BK475.out (by decide)) (fun _ hk => hk.2) (.slice Ao91 t471.length co91)) (fun _ hk => ⟨hk.1.1.1.1, ⟨hk.1.1.1.2.1, ⟨hk.1.1.1.2.2.1, ⟨hk.1.1.1.2.2.2, ⟨hk.1.1.2, hk.1.2⟩⟩⟩⟩⟩)⟩, ⟨by (with_reducible repeat (first | apply Kd.R_alloc | apply Kd.R_drewN | apply Kd.R_drew)); exact Kd.R_mono (Kd.R_far (p := ⟨gb475, 0, none⟩) (Kd.R_types HO_446000.out BK475.out (by decide)) (fun _ hk => hk.2) (.slice Ao91 t471.length co91)) (fun _ hk => ⟨hk.1.1.1.1, ⟨hk.1.1.1.2.1, ⟨hk.1.1.1.2.2.1, ⟨hk.1.1.1.2.2.2, ⟨hk.1.1.2, hk.1.2⟩⟩⟩⟩⟩)⟩, ⟨by (with_reducible repeat (first | apply Kd.R_alloc | apply Kd.R_drewN | apply Kd.R_drew)); exact Kd.R_mono (Kd.R_far (p := ⟨gb475, 0, none⟩) (Kd.R_types HO_451000.out BK475.out (by decide)) (fun _ hk => hk.2) (.slice Ao91 t471.length co91)) (fun _ hk => ⟨hk.1.1.1.1, ⟨hk.1.1.1.2.1, ⟨hk.1.1.1.2.2.1, ⟨hk.1.1.1.2.2.2, ⟨hk.1.1.2, hk.1.2⟩⟩⟩⟩⟩)⟩, ⟨by (with_reducible repeat (first | apply Kd.R_alloc | apply Kd.R_drewN | apply Kd.R_drew)); exact Kd.R_mono (Kd.R_far (p := ⟨gb475, 0, none⟩) (Kd.R_types HO_459000.out BK475.out (by decide)) (fun _ hk => hk.2) (.slice Ao91 t471.length co91)) (fun _ hk => ⟨hk.1.1.1.1, ⟨hk.1.1.1.2.1, ⟨hk.1.1.1.2.2.1, ⟨hk.1.1.1.2.2.2, ⟨hk.1.1.2, hk.1.2⟩⟩⟩⟩⟩)⟩, ⟨by (with_reducible repeat (first | apply Kd.R_alloc | apply Kd.R_drewN | apply Kd.R_drew)); exact Kd.R_mono (Kd.R_far (p := ⟨gb475, 0, none⟩) (Kd.R_types HO_464000.out BK475.out (by decide)) (fun _ hk => hk.2) (.slice Ao91 t471.length co91)) (fun _ hk => ⟨hk.1.1.1.1, ⟨hk.1.1.1.2.1, ⟨hk.1.1.1.2.2.1, ⟨hk.1.1.1.2.2.2, ⟨hk.1.1.2, hk.1.2⟩⟩⟩⟩⟩)⟩, ⟨by (with_reducible repeat (first | apply Kd.R_alloc | apply Kd.R_drewN | apply Kd.R_drew)); exact Kd.R_mono (Kd.R_far (p := ⟨gb475, 0, none⟩) (Kd.R_types HO468.out BK475.out (by decide)) (fun _ hk => hk.2) (.slice Ao91 t471.length co91)) (fun _ hk => ⟨hk.1.1.1.1.1.1.2, ⟨hk.1.1.1.1.1.2, ⟨hk.1.1.1.1.2, ⟨hk.1.1.1.2, ⟨hk.1.1.2, hk.1.2⟩⟩⟩⟩⟩)⟩, ⟨by (with_reducible repeat (first | apply Kd.R_alloc | apply Kd.R_drewN | apply Kd.R_drew)); exact Kd.R_mono (Kd.R_far (p := ⟨gb475, 0, none⟩) (Kd.R_types HO473.out BK475.out (by decide)) (fun _ hk => hk.2) (.slice Ao91 t471.length co91)) (fun _ hk => ⟨hk.1.1.1.1.1.1.2, ⟨hk.1.1.1.1.1.2, ⟨hk.1.1.1.1.2, ⟨hk.1.1.1.2, ⟨hk.1.1.2, hk.1.2⟩⟩⟩⟩⟩)⟩, ⟨eb BK436⟩, ⟨eb BK445⟩, ⟨eb BK450⟩, ⟨eb BK458⟩, ⟨eb BK463⟩, ⟨eb BK470⟩, ⟨by (with_reducible repeat (first | refine blk_drewN ?_ _ | refine blk_drew ?_ | refine blk_alloc ?_ _)); refine blk_put (cs := #[.slice none 0 0]) ?_ 0 _ rfl; (with_reducible repeat (first | refine blk_drewN ?_ _ | refine blk_drew ?_ | refine blk_alloc ?_ _)); exact BK475.out⟩, ⟨el HB⟩⟩
           case rest =>
            as_aux_lemma =>
             clear HC78
             try clear c1
             try clear c2
             try clear p2
             try clear c3
             try clear c4
             try clear c5
             try clear c6
             try clear c7
             try clear c8
             try clear c9
             try clear c10
             try clear c11
             try clear c15
             try clear c15b0
             try clear c15b1
             try clear c16
             try clear c24
             try clear c30
             try clear c31
             try clear c33
             try clear c33b0
             try clear c33b1
             try clear c35
             try clear c36
             try clear c38
             try clear c41
             try clear c50
             try clear c51
             try clear c52
             try clear c57
             try clear c58
             try clear c59
             try clear c60
             try clear c62
             try clear c62b0
             try clear c62b1
             try clear c64
             try clear c65
             try clear c66
             try clear c67
             try clear c69
             try clear c70
             try clear c71
             try clear c74
             try clear c83
             try clear c84
             try clear c85
             try clear c86
             try clear c87
             try clear c88
             try clear c90
             try clear c91
             try clear c92
             try clear c93
             try clear c94
             try clear c95
             try clear c96
             try clear c97
             try clear c99
             try clear c99b0
             try clear c99b1
             try clear c101
             try clear c102
             try clear c103
             try clear c104
             try clear c105
             try clear c106
             try clear c108
             try clear c109
             try clear c110
             try clear c111
             try clear c112
             try clear hcz107_0
             try clear hcz113_0
             try clear hcz11_0
             try clear hcz13_0
             try clear hcz20_0
             try clear hcz25_0
             try clear hcz26_0
             try clear hcz32_0
             try clear hcz37_0
             try clear hcz39_0
             try clear hcz53_0
             try clear hcz61_0
             try clear hcz68_0
             try clear hcz72_0
             try clear hcz88_0
             try clear hcz98_0
             try clear hfz107_0
             try clear hfz113_0
             try clear hfz11_0
             try clear hfz13_0
             try clear hfz20_0
             try clear hfz25_0
             try clear hfz26_0
             try clear hfz32_0
             try clear hfz37_0
             try clear hfz39_0
             try clear hfz53_0
             try clear hfz61_0
             try clear hfz68_0
             try clear hfz72_0
             try clear hfz88_0
             try clear hfz98_0
             try clear p2
             obtain ⟨kq, x128_77, rfl, HA, HJ77, HO_437000, HO_446000, HO_451000, HO_459000, HO_464000, HO_471000, HO_476000, BK436, BK445, BK450, BK458, BK463, BK470, BK475, HB⟩ := hcut
             cases kq with
             | zero => exact absurd HA.out (by simp [laws_FnRanks.j3])
             | succ kj77 =>
              have H := HA.out
              clear HA
              simp only [laws_FnRanks.j3] at H
              by_cases c115 : x128_77 = true
              ·subst c115
               have H1 : (none) = some r := by rw [if_pos rfl] at H; exact H
               clear H
               have H := H1
               clear H1
               exact absurd H (by simp)
              replace c115 := Bool.eq_false_iff.mpr c115
              subst c115
              have H1 : ((impl_LastTree.f t465).bind fun bt477 => ((spec_LastTree.f t465).bind fun bt482 => (if bt477.2 = bt482.2 then ((laws_tree9.f kj77 bt477.1 bt482.1).bind fun t487 => (laws_FnRanks.j4 kj77 t437 t438 t444 t453 t457 t465 t469 (!t487) t433 t441 t454 t466 bt477.1)) else (laws_FnRanks.j4 kj77 t437 t438 t444 t453 t457 t465 t469 true t433 t441 t454 t466 bt477.1)))) = some r := by rw [if_neg (show ¬ (false = true) by decide)] at H; exact H
              clear H
              have H := H1
              clear H1
              replace H := Option.bind_eq_some_iff.mp H
              obtain ⟨⟨t477, t480⟩, A1160, H⟩ := H
              replace H : ((spec_LastTree.f t465).bind fun bt482 => (if t480 = bt482.2 then ((laws_tree9.f kj77 t477 bt482.1).bind fun t487 => (laws_FnRanks.j4 kj77 t437 t438 t444 t453 t457 t465 t469 (!t487) t433 t441 t454 t466 t477)) else (laws_FnRanks.j4 kj77 t437 t438 t444 t453 t457 t465 t469 true t433 t441 t454 t466 t477))) = some r := H
              have A116 := A_ A1160
              clear A1160
              replace H := Option.bind_eq_some_iff.mp H
              obtain ⟨⟨t482, t485⟩, A1170, H⟩ := H
              replace H : (if t480 = t485 then ((laws_tree9.f kj77 t477 t482).bind fun t487 => (laws_FnRanks.j4 kj77 t437 t438 t444 t453 t457 t465 t469 (!t487) t433 t441 t454 t466 t477)) else (laws_FnRanks.j4 kj77 t437 t438 t444 t453 t457 t465 t469 true t433 t441 t454 t466 t477)) = some r := H
              have A117 := A_ A1170
              clear A1170
              have HC118 := A_ H
              clear H
              go_upto_region 24 with (first | ((with_reducible refine gate_callee (f := 96) rfl ?_); refine goesL_ (some 131) rfl rfl Try.func96 (by kernel_rfl) rfl #[.int .i64 t465] rfl eg ?_; (with_reducible refine (impl_LastTree.calls t465 t477 t480 _ A116.out).mono ?_); rintro e w119 ⟨v478, rfl, ho0, hb⟩; refine ⟨_, rfl, ?_⟩; have n0_ := A_ (Kd.R_elder' (ea HO_437000) (Kd.R_base ho0) hb); have n1_ := A_ (Kd.R_elder' (ea HO_446000) (Kd.R_base ho0) hb); have n2_ := A_ (Kd.R_elder' (ea HO_451000) (Kd.R_base ho0) hb); have n3_ := A_ (Kd.R_elder' (ea HO_459000) (Kd.R_base ho0) hb); have n4_ := A_ (Kd.R_elder' (ea HO_464000) (Kd.R_base ho0) hb); have n5_ := A_ (Kd.R_elder' (ea HO_471000) (Kd.R_base ho0) hb); have n6_ := A_ (Kd.R_elder' (ea HO_476000) (Kd.R_base ho0) hb); have n7_ := A_ (Kd.R_lower (Kd.R_new' (Kd.R_new' (Kd.R_new' (Kd.R_new' (Kd.R_new' (Kd.R_new' (Kd.R_new' ho0 (Kd.R_lt (ea HO_437000))) (Kd.R_lt (ea HO_446000))) (Kd.R_lt (ea HO_451000))) (Kd.R_lt (ea HO_459000))) (Kd.R_lt (ea HO_464000))) (Kd.R_lt (ea HO_471000))) (Kd.R_lt (ea HO_476000))) (below_size (el HB))); have n8_ := A_ (eB BK436 hb); have n9_ := A_ (eB BK445 hb); have n10_ := A_ (eB BK450 hb); have n11_ := A_ (eB BK458 hb); have n12_ := A_ (eB BK463 hb); have n13_ := A_ (eB BK470 hb); have n14_ := A_ (eB BK475 hb); have n15_ := A_ (below_step (el HB) hb); clear HO_437000; clear HO_446000; clear HO_451000; clear HO_459000; clear HO_464000; clear HO_471000; clear HO_476000; clear BK436; clear BK445; clear BK450; clear BK458; clear BK463; clear BK470; clear BK475; clear HB; have HO_437000 := n0_; have HO_446000 := n1_; have HO_451000 := n2_; have HO_459000 := n3_; have HO_464000 := n4_; have HO_471000 := n5_; have HO_476000 := n6_; have HO479 := n7_; have BK436 := n8_; have BK445 := n9_; have BK450 := n10_; have BK458 := n11_; have BK463 := n12_; have BK470 := n13_; have BK475 := n14_; have HB := n15_; clear n0_ n1_ n2_ n3_ n4_ n5_ n6_ n7_ n8_ n9_ n10_ n11_ n12_ n13_ n14_ n15_; (try clear hb); (try clear hb2); (try clear hk); (try clear hi); (try clear ho0)) | ((with_reducible refine gate_dst (N := 23) rfl ?_); refine box_event ?hg (N := 23) ?hd (cs := #[.slice none 0 0]) (t := 26) ?hr ?_; (case hd => rfl); (case hg => rfl); (case hr => first | (go_simp; done) | (go_simp; rfl)); intro gb481 hg w120 hbox hb; have n0_ := A_ (Kd.R_below (ea HO_437000) hb); have n1_ := A_ (Kd.R_below (ea HO_446000) hb); have n2_ := A_ (Kd.R_below (ea HO_451000) hb); have n3_ := A_ (Kd.R_below (ea HO_459000) hb); have n4_ := A_ (Kd.R_below (ea HO_464000) hb); have n5_ := A_ (Kd.R_below (ea HO_471000) hb); have n6_ := A_ (Kd.R_below (ea HO_476000) hb); have n7_ := A_ (Kd.R_below (ea HO479) hb); have n8_ := A_ (eB BK436 hb); have n9_ := A_ (eB BK445 hb); have n10_ := A_ (eB BK450 hb); have n11_ := A_ (eB BK458 hb); have n12_ := A_ (eB BK463 hb); have n13_ := A_ (eB BK470 hb); have n14_ := A_ (eB BK475 hb); have n15_ := A_ (below_step (el HB) hb); have n16_ := A_ (hbox); have n17_ := A_ ((by rw [hg]; exact (below_size (el HB)) : w.heap.size ≤ gb481)); have n18_ := A_ ((by rw [hg]; exact (below_size (el HB)) : w.heap.size ≤ gb481)); have n19_ := A_ ((by rw [hg]; exact Nat.ne_of_lt (eL BK436) : gb436 ≠ gb481)); have n20_ := A_ ((by rw [hg]; exact Nat.ne_of_gt (eL BK436) : gb481 ≠ gb436)); have n21_ := A_ ((by rw [hg]; exact Nat.ne_of_lt (eL BK445) : gb445 ≠ gb481)); have n22_ := A_ ((by rw [hg]; exact Nat.ne_of_gt (eL BK445) : gb481 ≠ gb445)); have n23_ := A_ ((by rw [hg]; exact Nat.ne_of_lt (eL BK450) : gb450 ≠ gb481)); have n24_ := A_ ((by rw [hg]; exact Nat.ne_of_gt (eL BK450) : gb481 ≠ gb450)); have n25_ := A_ ((by rw [hg]; exact Nat.ne_of_lt (eL BK458) : gb458 ≠ gb481)); have n26_ := A_ ((by rw [hg]; exact Nat.ne_of_gt (eL BK458) : gb481 ≠ gb458)); have n27_ := A_ ((by rw [hg]; exact Nat.ne_of_lt (eL BK463) : gb463 ≠ gb481)); have n28_ := A_ ((by rw [hg]; exact Nat.ne_of_gt (eL BK463) : gb481 ≠ gb463)); have n29_ := A_ ((by rw [hg]; exact Nat.ne_of_lt (eL BK470) : gb470 ≠ gb481)); have n30_ := A_ ((by rw [hg]; exact Nat.ne_of_gt (eL BK470) : gb481 ≠ gb470)); have n31_ := A_ ((by rw [hg]; exact Nat.ne_of_lt (eL BK475) : gb475 ≠ gb481)); have n32_ := A_ ((by rw [hg]; exact Nat.ne_of_gt (eL BK475) : gb481 ≠ gb475)); clear HO_437000; clear HO_446000; clear HO_451000; clear HO_459000; clear HO_464000; clear HO_471000; clear HO_476000; clear HO479; clear BK436; clear BK445; clear BK450; clear BK458; clear BK463; clear BK470; clear BK475; clear HB; have HO_437000 := n0_; have HO_446000 := n1_; have HO_451000 := n2_; have HO_459000 := n3_; have HO_464000 := n4_; have HO_471000 := n5_; have HO_476000 := n6_; have HO479 := n7_; have BK436 := n8_; have BK445 := n9_; have BK450 := n10_; have BK458 := n11_; have BK463 := n12_; have BK470 := n13_; have BK475 := n14_; have HB := n15_; have BK481 := n16_; have GW481 := n17_; have GE481 := n18_; have NB436_481 := n19_; have NB481_436 := n20_; have NB445_481 := n21_; have NB481_445 := n22_; have NB450_481 := n23_; have NB481_450 := n24_; have NB458_481 := n25_; have NB481_458 := n26_; have NB463_481 := n27_; have NB481_463 := n28_; have NB470_481 := n29_; have NB481_470 := n30_; have NB475_481 := n31_; have NB481_475 := n32_; clear n0_ n1_ n2_ n3_ n4_ n5_ n6_ n7_ n8_ n9_ n10_ n11_ n12_ n13_ n14_ n15_ n16_ n17_ n18_ n19_ n20_ n21_ n22_ n23_ n24_ n25_ n26_ n27_ n28_ n29_ n30_ n31_ n32_; clear hb hbox hg; obtain ⟨Ao121, co121, eo121⟩ := Kd.R_slice HO479.out; subst eo121; have hnb122 := NB481_436.out; have hnc122 := NB436_481.out; have hnb123 := NB481_445.out; have hnc123 := NB445_481.out; have hnb124 := NB481_450.out; have hnc124 := NB450_481.out; have hnb125 := NB481_458.out; have hnc125 := NB458_481.out; have hnb126 := NB481_463.out; have hnc126 := NB463_481.out; have hnb127 := NB481_470.out; have hnc127 := NB470_481.out; have hnb128 := NB481_475.out; have hnc128 := NB475_481.out; have hcz129_0 : w120.cell? ⟨gb481, 0, none⟩ = some (.slice none 0 0) := (blk_cell BK481.out 0).trans rfl; have hfz129_0 := blk_frozen BK481.out 0) | ((with_reducible refine gate_callee (f := 97) rfl ?_); refine goesL_ (some 136) rfl rfl Try.func97 (by kernel_rfl) rfl #[.int .i64 t465] rfl eg ?_; (with_reducible refine (spec_LastTree.calls t465 t482 t485 _ A117.out).mono ?_); rintro e w130 ⟨v483, rfl, ho0, hb⟩; refine ⟨_, rfl, ?_⟩; have n0_ := A_ (Kd.R_elder' laws_FnRanks.Z0 (Kd.R_base ho0) hb); have n1_ := A_ (Kd.R_elder' laws_FnRanks.Z1 (Kd.R_base ho0) hb); have n2_ := A_ (Kd.R_elder' laws_FnRanks.Z2 (Kd.R_base ho0) hb); have n3_ := A_ (Kd.R_elder' laws_FnRanks.Z3 (Kd.R_base ho0) hb); have n4_ := A_ (Kd.R_elder' laws_FnRanks.Z4 (Kd.R_base ho0) hb); have n5_ := A_ (Kd.R_elder' laws_FnRanks.Z5 (Kd.R_base ho0) hb); have n6_ := A_ (Kd.R_elder' laws_FnRanks.Z6 (Kd.R_base ho0) hb); have n7_ := A_ (Kd.R_elder' laws_FnRanks.Z17 (Kd.R_base ho0) hb); have n8_ := A_ (Kd.R_lower (Kd.R_new' (Kd.R_new' (Kd.R_new' (Kd.R_new' (Kd.R_new' (Kd.R_new' (Kd.R_new' (Kd.R_new' ho0 (Kd.R_lt laws_FnRanks.Z0)) (Kd.R_lt laws_FnRanks.Z1)) (Kd.R_lt laws_FnRanks.Z2)) (Kd.R_lt laws_FnRanks.Z3)) (Kd.R_lt laws_FnRanks.Z4)) (Kd.R_lt laws_FnRanks.Z5)) (Kd.R_lt laws_FnRanks.Z6)) (Kd.R_lt laws_FnRanks.Z17)) (below_size (el HB))); have n9_ := A_ (eB BK436 hb); have n10_ := A_ (eB BK445 hb); have n11_ := A_ (eB BK450 hb); have n12_ := A_ (eB BK458 hb); have n13_ := A_ (eB BK463 hb); have n14_ := A_ (eB BK470 hb); have n15_ := A_ (eB BK475 hb); have n16_ := A_ (blk_below (g := gb481) (o := .cells #[.slice Ao121 t477.length co121] 26 (0, 0)) (by (with_reducible repeat (first | refine blk_drewN ?_ _ | refine blk_drew ?_ | refine blk_alloc ?_ _)); refine blk_put (cs := #[.slice none 0 0]) ?_ 0 _ rfl; (with_reducible repeat (first | refine blk_drewN ?_ _ | refine blk_drew ?_ | refine blk_alloc ?_ _)); exact BK481.out) hb); have n17_ := A_ (below_step (el HB) hb); clear HO_437000; clear HO_446000; clear HO_451000; clear HO_459000; clear HO_464000; clear HO_471000; clear HO_476000; clear HO479; clear BK436; clear BK445; clear BK450; clear BK458; clear BK463; clear BK470; clear BK475; clear BK481; clear HB; have HO_437000 := n0_; have HO_446000 := n1_; have HO_451000 := n2_; have HO_459000 := n3_; have HO_464000 := n4_; have HO_471000 := n5_; have HO_476000 := n6_; have HO479 := n7_; have HO484 := n8_; have BK436 := n9_; have BK445 := n10_; have BK450 := n11_; have BK458 := n12_; have BK463 := n13_; have BK470 := n14_; have BK475 := n15_; have BK481 := n16_; have HB := n17_; clear n0_ n1_ n2_ n3_ n4_ n5_ n6_ n7_ n8_ n9_ n10_ n11_ n12_ n13_ n14_ n15_ n16_ n17_; (try clear hb); (try clear hb2); (try clear hk); (try clear hi); (try clear ho0)) | ((with_reducible refine gate_dst (N := 25) rfl ?_); refine box_event ?hg (N := 25) ?hd (cs := #[.slice none 0 0]) (t := 26) ?hr ?_; (case hd => rfl); (case hg => rfl); (case hr => first | (go_simp; done) | (go_simp; rfl)); intro gb486 hg w131 hbox hb; have n0_ := A_ (Kd.R_below (ea HO_437000) hb); have n1_ := A_ (Kd.R_below (ea HO_446000) hb); have n2_ := A_ (Kd.R_below (ea HO_451000) hb); have n3_ := A_ (Kd.R_below (ea HO_459000) hb); have n4_ := A_ (Kd.R_below (ea HO_464000) hb); have n5_ := A_ (Kd.R_below (ea HO_471000) hb); have n6_ := A_ (Kd.R_below (ea HO_476000) hb); have n7_ := A_ (Kd.R_below (ea HO479) hb); have n8_ := A_ (Kd.R_below (ea HO484) hb); have n9_ := A_ (eB BK436 hb); have n10_ := A_ (eB BK445 hb); have n11_ := A_ (eB BK450 hb); have n12_ := A_ (eB BK458 hb); have n13_ := A_ (eB BK463 hb); have n14_ := A_ (eB BK470 hb); have n15_ := A_ (eB BK475 hb); have n16_ := A_ (eB BK481 hb); have n17_ := A_ (below_step (el HB) hb); have n18_ := A_ (hbox); have n19_ := A_ ((by rw [hg]; exact (below_size (el HB)) : w.heap.size ≤ gb486)); have n20_ := A_ ((by rw [hg]; exact (below_size (el HB)) : w.heap.size ≤ gb486)); have n21_ := A_ ((by rw [hg]; exact Nat.ne_of_lt (eL BK436) : gb436 ≠ gb486)); have n22_ := A_ ((by rw [hg]; exact Nat.ne_of_gt (eL BK436) : gb486 ≠ gb436)); have n23_ := A_ ((by rw [hg]; exact Nat.ne_of_lt (eL BK445) : gb445 ≠ gb486)); have n24_ := A_ ((by rw [hg]; exact Nat.ne_of_gt (eL BK445) : gb486 ≠ gb445)); have n25_ := A_ ((by rw [hg]; exact Nat.ne_of_lt (eL BK450) : gb450 ≠ gb486)); have n26_ := A_ ((by rw [hg]; exact Nat.ne_of_gt (eL BK450) : gb486 ≠ gb450)); have n27_ := A_ ((by rw [hg]; exact Nat.ne_of_lt (eL BK458) : gb458 ≠ gb486)); have n28_ := A_ ((by rw [hg]; exact Nat.ne_of_gt (eL BK458) : gb486 ≠ gb458)); have n29_ := A_ ((by rw [hg]; exact Nat.ne_of_lt (eL BK463) : gb463 ≠ gb486)); have n30_ := A_ ((by rw [hg]; exact Nat.ne_of_gt (eL BK463) : gb486 ≠ gb463)); have n31_ := A_ ((by rw [hg]; exact Nat.ne_of_lt (eL BK470) : gb470 ≠ gb486)); have n32_ := A_ ((by rw [hg]; exact Nat.ne_of_gt (eL BK470) : gb486 ≠ gb470)); have n33_ := A_ ((by rw [hg]; exact Nat.ne_of_lt (eL BK475) : gb475 ≠ gb486)); have n34_ := A_ ((by rw [hg]; exact Nat.ne_of_gt (eL BK475) : gb486 ≠ gb475)); have n35_ := A_ ((by rw [hg]; exact Nat.ne_of_lt (eL BK481) : gb481 ≠ gb486)); have n36_ := A_ ((by rw [hg]; exact Nat.ne_of_gt (eL BK481) : gb486 ≠ gb481)); clear HO_437000; clear HO_446000; clear HO_451000; clear HO_459000; clear HO_464000; clear HO_471000; clear HO_476000; clear HO479; clear HO484; clear BK436; clear BK445; clear BK450; clear BK458; clear BK463; clear BK470; clear BK475; clear BK481; clear HB; have HO_437000 := n0_; have HO_446000 := n1_; have HO_451000 := n2_; have HO_459000 := n3_; have HO_464000 := n4_; have HO_471000 := n5_; have HO_476000 := n6_; have HO479 := n7_; have HO484 := n8_; have BK436 := n9_; have BK445 := n10_; have BK450 := n11_; have BK458 := n12_; have BK463 := n13_; have BK470 := n14_; have BK475 := n15_; have BK481 := n16_; have HB := n17_; have BK486 := n18_; have GW486 := n19_; have GE486 := n20_; have NB436_486 := n21_; have NB486_436 := n22_; have NB445_486 := n23_; have NB486_445 := n24_; have NB450_486 := n25_; have NB486_450 := n26_; have NB458_486 := n27_; have NB486_458 := n28_; have NB463_486 := n29_; have NB486_463 := n30_; have NB470_486 := n31_; have NB486_470 := n32_; have NB475_486 := n33_; have NB486_475 := n34_; have NB481_486 := n35_; have NB486_481 := n36_; clear n0_ n1_ n2_ n3_ n4_ n5_ n6_ n7_ n8_ n9_ n10_ n11_ n12_ n13_ n14_ n15_ n16_ n17_ n18_ n19_ n20_ n21_ n22_ n23_ n24_ n25_ n26_ n27_ n28_ n29_ n30_ n31_ n32_ n33_ n34_ n35_ n36_; clear hb hbox hg; obtain ⟨Ao132, co132, eo132⟩ := Kd.R_slice HO484.out; subst eo132; have hnb133 := NB486_436.out; have hnc133 := NB436_486.out; have hnb134 := NB486_445.out; have hnc134 := NB445_486.out; have hnb135 := NB486_450.out; have hnc135 := NB450_486.out; have hnb136 := NB486_458.out; have hnc136 := NB458_486.out; have hnb137 := NB486_463.out; have hnc137 := NB463_486.out; have hnb138 := NB486_470.out; have hnc138 := NB470_486.out; have hnb139 := NB486_475.out; have hnc139 := NB475_486.out; have hnb140 := NB486_481.out; have hnc140 := NB481_486.out; have hcz141_0 : w131.cell? ⟨gb486, 0, none⟩ = some (.slice none 0 0) := (blk_cell BK486.out 0).trans rfl; have hfz141_0 := blk_frozen BK486.out 0))
              (try simp only [Act.put, List.setIfInBounds_toArray, List.set_cons_zero, List.set_cons_succ])
              go_cut [147] (fun v147 wc => ∃ (kq : Nat) (x147_117 : Bool), v147 = .bool x147_117 ∧ Aside0 (laws_FnRanks.j4 kq t437 t438 t444 t453 t457 t465 t469 x147_117 t433 t441 t454 t466 t477 = some r) ∧ Aside0 (kq ≤ kj77) ∧ Aside0 (Kd.R (Kd.int .i64) 2 wc w.heap.size (fun k_ => some k_ ≠ ((.slice Ao23 t441.length co23) : Value).ownBlock ∧ some k_ ≠ ((.slice Ao29 t446.length co29) : Value).ownBlock ∧ some k_ ≠ ((.slice Ao49 t454.length co49) : Value).ownBlock ∧ some k_ ≠ ((.slice Ao56 t459.length co56) : Value).ownBlock ∧ some k_ ≠ ((.slice Ao82 t466.length co82) : Value).ownBlock ∧ some k_ ≠ ((.slice Ao91 t471.length co91) : Value).ownBlock ∧ some k_ ≠ ((.slice Ao121 t477.length co121) : Value).ownBlock ∧ some k_ ≠ ((.slice Ao132 t482.length co132) : Value).ownBlock) (.slice Ao10 t433.length co10) t433) ∧ Aside0 (Kd.R (Kd.int .i64) 2 wc w.heap.size (fun k_ => some k_ ≠ ((.slice Ao10 t433.length co10) : Value).ownBlock ∧ some k_ ≠ ((.slice Ao29 t446.length co29) : Value).ownBlock ∧ some k_ ≠ ((.slice Ao49 t454.length co49) : Value).ownBlock ∧ some k_ ≠ ((.slice Ao56 t459.length co56) : Value).ownBlock ∧ some k_ ≠ ((.slice Ao82 t466.length co82) : Value).ownBlock ∧ some k_ ≠ ((.slice Ao91 t471.length co91) : Value).ownBlock ∧ some k_ ≠ ((.slice Ao121 t477.length co121) : Value).ownBlock ∧ some k_ ≠ ((.slice Ao132 t482.length co132) : Value).ownBlock) (.slice Ao23 t441.length co23) t441) ∧ Aside0 (Kd.R (Kd.int .i64) 2 wc w.heap.size (fun k_ => some k_ ≠ ((.slice Ao10 t433.length co10) : Value).ownBlock ∧ some k_ ≠ ((.slice Ao23 t441.length co23) : Value).ownBlock ∧ some k_ ≠ ((.slice Ao49 t454.length co49) : Value).ownBlock ∧ some k_ ≠ ((.slice Ao56 t459.length co56) : Value).ownBlock ∧ some k_ ≠ ((.slice Ao82 t466.length co82) : Value).ownBlock ∧ some k_ ≠ ((.slice Ao91 t471.length co91) : Value).ownBlock ∧ some k_ ≠ ((.slice Ao121 t477.length co121) : Value).ownBlock ∧ some k_ ≠ ((.slice Ao132 t482.length co132) : Value).ownBlock) (.slice Ao29 t446.length co29) t446) ∧ Aside0 (Kd.R (Kd.int .i64) 2 wc w.heap.size (fun k_ => some k_ ≠ ((.slice Ao10 t433.length co10) : Value).ownBlock ∧ some k_ ≠ ((.slice Ao23 t441.length co23) : Value).ownBlock ∧ some k_ ≠ ((.slice Ao29 t446.length co29) : Value).ownBlock ∧ some k_ ≠ ((.slice Ao56 t459.length co56) : Value).ownBlock ∧ some k_ ≠ ((.slice Ao82 t466.length co82) : Value).ownBlock ∧ some k_ ≠ ((.slice Ao91 t471.length co91) : Value).ownBlock ∧ some k_ ≠ ((.slice Ao121 t477.length co121) : Value).ownBlock ∧ some k_ ≠ ((.slice Ao132 t482.length co132) : Value).ownBlock) (.slice Ao49 t454.length co49) t454) ∧ Aside0 (Kd.R (Kd.int .i64) 2 wc w.heap.size (fun k_ => some k_ ≠ ((.slice Ao10 t433.length co10) : Value).ownBlock ∧ some k_ ≠ ((.slice Ao23 t441.length co23) : Value).ownBlock ∧ some k_ ≠ ((.slice Ao29 t446.length co29) : Value).ownBlock ∧ some k_ ≠ ((.slice Ao49 t454.length co49) : Value).ownBlock ∧ some k_ ≠ ((.slice Ao82 t466.length co82) : Value).ownBlock ∧ some k_ ≠ ((.slice Ao91 t471.length co91) : Value).ownBlock ∧ some k_ ≠ ((.slice Ao121 t477.length co121) : Value).ownBlock ∧ some k_ ≠ ((.slice Ao132 t482.length co132) : Value).ownBlock) (.slice Ao56 t459.length co56) t459) ∧ Aside0 (Kd.R (Kd.int .i64) 2 wc w.heap.size (fun k_ => some k_ ≠ ((.slice Ao10 t433.length co10) : Value).ownBlock ∧ some k_ ≠ ((.slice Ao23 t441.length co23) : Value).ownBlock ∧ some k_ ≠ ((.slice Ao29 t446.length co29) : Value).ownBlock ∧ some k_ ≠ ((.slice Ao49 t454.length co49) : Value).ownBlock ∧ some k_ ≠ ((.slice Ao56 t459.length co56) : Value).ownBlock ∧ some k_ ≠ ((.slice Ao91 t471.length co91) : Value).ownBlock ∧ some k_ ≠ ((.slice Ao121 t477.length co121) : Value).ownBlock ∧ some k_ ≠ ((.slice Ao132 t482.length co132) : Value).ownBlock) (.slice Ao82 t466.length co82) t466) ∧ Aside0 (Kd.R (Kd.int .i64) 2 wc w.heap.size (fun k_ => some k_ ≠ ((.slice Ao10 t433.length co10) : Value).ownBlock ∧ some k_ ≠ ((.slice Ao23 t441.length co23) : Value).ownBlock ∧ some k_ ≠ ((.slice Ao29 t446.length co29) : Value).ownBlock ∧ some k_ ≠ ((.slice Ao49 t454.length co49) : Value).ownBlock ∧ some k_ ≠ ((.slice Ao56 t459.length co56) : Value).ownBlock ∧ some k_ ≠ ((.slice Ao82 t466.length co82) : Value).ownBlock ∧ some k_ ≠ ((.slice Ao121 t477.length co121) : Value).ownBlock ∧ some k_ ≠ ((.slice Ao132 t482.length co132) : Value).ownBlock) (.slice Ao91 t471.length co91) t471) ∧ Aside0 (Kd.R (Kd.int .i64) 2 wc w.heap.size (fun k_ => some k_ ≠ ((.slice Ao10 t433.length co10) : Value).ownBlock ∧ some k_ ≠ ((.slice Ao23 t441.length co23) : Value).ownBlock ∧ some k_ ≠ ((.slice Ao29 t446.length co29) : Value).ownBlock ∧ some k_ ≠ ((.slice Ao49 t454.length co49) : Value).ownBlock ∧ some k_ ≠ ((.slice Ao56 t459.length co56) : Value).ownBlock ∧ some k_ ≠ ((.slice Ao82 t466.length co82) : Value).ownBlock ∧ some k_ ≠ ((.slice Ao91 t471.length co91) : Value).ownBlock ∧ some k_ ≠ ((.slice Ao132 t482.length co132) : Value).ownBlock) (.slice Ao121 t477.length co121) t477) ∧ Aside0 (Kd.R (Kd.int .i64) 2 wc w.heap.size (fun k_ => some k_ ≠ ((.slice Ao10 t433.length co10) : Value).ownBlock ∧ some k_ ≠ ((.slice Ao23 t441.length co23) : Value).ownBlock ∧ some k_ ≠ ((.slice Ao29 t446.length co29) : Value).ownBlock ∧ some k_ ≠ ((.slice Ao49 t454.length co49) : Value).ownBlock ∧ some k_ ≠ ((.slice Ao56 t459.length co56) : Value).ownBlock ∧ some k_ ≠ ((.slice Ao82 t466.length co82) : Value).ownBlock ∧ some k_ ≠ ((.slice Ao91 t471.length co91) : Value).ownBlock ∧ some k_ ≠ ((.slice Ao121 t477.length co121) : Value).ownBlock) (.slice Ao132 t482.length co132) t482) ∧ Aside0 (wc.heap[gb436]? = some (.cells #[(.slice Ao10 t433.length co10)] 26 (0, 0))) ∧ Aside0 (wc.heap[gb445]? = some (.cells #[(.slice Ao23 t441.length co23)] 26 (0, 0))) ∧ Aside0 (wc.heap[gb450]? = some (.cells #[(.slice Ao29 t446.length co29)] 26 (0, 0))) ∧ Aside0 (wc.heap[gb458]? = some (.cells #[(.slice Ao49 t454.length co49)] 26 (0, 0))) ∧ Aside0 (wc.heap[gb463]? = some (.cells #[(.slice Ao56 t459.length co56)] 26 (0, 0))) ∧ Aside0 (wc.heap[gb470]? = some (.cells #[(.slice Ao82 t466.length co82)] 26 (0, 0))) ∧ Aside0 (wc.heap[gb475]? = some (.cells #[(.slice Ao91 t471.length co91)] 26 (0, 0))) ∧ Aside0 (wc.heap[gb481]? = some (.cells #[(.slice Ao121 t477.length co121)] 26 (0, 0))) ∧ Aside0 (wc.heap[gb486]? = some (.cells #[(.slice Ao132 t482.length co132)] 26 (0, 0))) ∧ Aside0 (Below w.heap.size w wc))
              case first =>
               as_aux_lemma =>
                have H := HC118.out
                clear HC118
                by_cases c142 : t480 = t485
                ·rw [if_pos c142] at H
                 have c142b0 : (t480 == t485) = true := beq_iff_eq.mpr c142
                 have c142b1 : (t480 != t485) = false := bne_eq_false_iff_eq.mpr c142
                 clear c142
                 (first | rw [c142b0] | (simp only [i64_w, i32_w]; rw [c142b0]) | skip)
                 replace H := Option.bind_eq_some_iff.mp H
                 obtain ⟨t487, A1430, H⟩ := H
                 replace H : (laws_FnRanks.j4 kj77 t437 t438 t444 t453 t457 t465 t469 (!t487) t433 t441 t454 t466 t477) = some r := H
                 have A143 := A_ A1430
                 clear A1430
                 have H' := A_ H
                 clear H
                 have hnb144 := NB481_436.out
                 have hnc144 := NB436_481.out
                 have hnb145 := NB481_445.out
                 have hnc145 := NB445_481.out
                 have hnb146 := NB481_450.out
                 have hnc146 := NB450_481.out
                 have hnb147 := NB481_458.out
                 have hnc147 := NB458_481.out
                 have hnb148 := NB481_463.out
                 have hnc148 := NB463_481.out
                 have hnb149 := NB481_470.out
                 have hnc149 := NB470_481.out
                 have hnb150 := NB481_475.out
                 have hnc150 := NB475_481.out
                 have hnb151 := NB481_486.out
                 have hnc151 := NB486_481.out
                 have hcz152_0 : w131.cell? ⟨gb481, 0, none⟩ = some (.slice Ao121 t477.length co121) := (blk_cell BK481.out 0).trans rfl
                 have hfz152_0 := blk_frozen BK481.out 0
                 have hnb153 := NB486_436.out
                 have hnc153 := NB436_486.out
                 have hnb154 := NB486_445.out
                 have hnc154 := NB445_486.out
                 have hnb155 := NB486_450.out
                 have hnc155 := NB450_486.out
                 have hnb156 := NB486_458.out
                 have hnc156 := NB458_486.out
                 have hnb157 := NB486_463.out
                 have hnc157 := NB463_486.out
                 have hnb158 := NB486_470.out
                 have hnc158 := NB470_486.out
                 have hnb159 := NB486_475.out
                 have hnc159 := NB475_486.out
                 have hcz160_0 : w131.cell? ⟨gb486, 0, none⟩ = some (.slice none 0 0) := (blk_cell BK486.out 0).trans rfl
                 have hfz160_0 := blk_frozen BK486.out 0
                 go_wp2_with (first | (go_at_call 89; (with_reducible refine (laws_tree9.calls kj77 _ _ t477 _ _ t482 t487 _ ?side1 ?side2 ?side3 ?side4 A143.out).mono ?_); (case side1 => refine (Kd.R_reads' (e := 2) (base := w.heap.size) (ok := fun k_ => ((((((((True ∧ some k_ ≠ (.slice Ao10 t433.length co10 : Value).ownBlock) ∧ some k_ ≠ (.slice Ao23 t441.length co23 : Value).ownBlock) ∧ some k_ ≠ (.slice Ao29 t446.length co29 : Value).ownBlock) ∧ some k_ ≠ (.slice Ao49 t454.length co49 : Value).ownBlock) ∧ some k_ ≠ (.slice Ao56 t459.length co56 : Value).ownBlock) ∧ some k_ ≠ (.slice Ao82 t466.length co82 : Value).ownBlock) ∧ some k_ ≠ (.slice Ao91 t471.length co91 : Value).ownBlock) ∧ some k_ ≠ (.slice Ao132 t482.length co132 : Value).ownBlock)) (n := t477.length) (c := co121) ?_).2.2; exact laws_FnRanks.Z18); (case side2 => exact (Kd.R_reads' HO479.out).2.1); (case side3 => refine (Kd.R_reads' (e := 2) (base := w.heap.size) (ok := fun k_ => ((((((((True ∧ some k_ ≠ (.slice Ao10 t433.length co10 : Value).ownBlock) ∧ some k_ ≠ (.slice Ao23 t441.length co23 : Value).ownBlock) ∧ some k_ ≠ (.slice Ao29 t446.length co29 : Value).ownBlock) ∧ some k_ ≠ (.slice Ao49 t454.length co49 : Value).ownBlock) ∧ some k_ ≠ (.slice Ao56 t459.length co56 : Value).ownBlock) ∧ some k_ ≠ (.slice Ao82 t466.length co82 : Value).ownBlock) ∧ some k_ ≠ (.slice Ao91 t471.length co91 : Value).ownBlock) ∧ some k_ ≠ (.slice Ao121 t477.length co121 : Value).ownBlock)) (n := t482.length) (c := co132) ?_).2.2; exact laws_FnRanks.Z19); (case side4 => exact (Kd.R_reads' HO484.out).2.1); rintro e w161 ⟨rfl, hb⟩; have n0_ := A_ (Kd.R_below (by (with_reducible repeat (first | apply Kd.R_alloc | apply Kd.R_drewN | apply Kd.R_drew)); exact (Kd.R_mono (Kd.R_far (p := ⟨gb486, 0, none⟩) (Kd.R_types HO_437000.out BK486.out (by decide)) (fun _ hk => hk.2) (.slice Ao132 t482.length co132)) (fun _ h_ => h_.1))) hb); have n1_ := A_ (Kd.R_below (by (with_reducible repeat (first | apply Kd.R_alloc | apply Kd.R_drewN | apply Kd.R_drew)); exact (Kd.R_mono (Kd.R_far (p := ⟨gb486, 0, none⟩) (Kd.R_types HO_446000.out BK486.out (by decide)) (fun _ hk => hk.2) (.slice Ao132 t482.length co132)) (fun _ h_ => h_.1))) hb); have n2_ := A_ (Kd.R_below (by (with_reducible repeat (first | apply Kd.R_alloc | apply Kd.R_drewN | apply Kd.R_drew)); exact (Kd.R_mono (Kd.R_far (p := ⟨gb486, 0, none⟩) (Kd.R_types HO_451000.out BK486.out (by decide)) (fun _ hk => hk.2) (.slice Ao132 t482.length co132)) (fun _ h_ => h_.1))) hb); have n3_ := A_ (Kd.R_below (by (with_reducible repeat (first | apply Kd.R_alloc | apply Kd.R_drewN | apply Kd.R_drew)); exact (Kd.R_mono (Kd.R_far (p := ⟨gb486, 0, none⟩) (Kd.R_types HO_459000.out BK486.out (by decide)) (fun _ hk => hk.2) (.slice Ao132 t482.length co132)) (fun _ h_ => h_.1))) hb); have n4_ := A_ (Kd.R_below (by (with_reducible repeat (first | apply Kd.R_alloc | apply Kd.R_drewN | apply Kd.R_drew)); exact (Kd.R_mono (Kd.R_far (p := ⟨gb486, 0, none⟩) (Kd.R_types HO_464000.out BK486.out (by decide)) (fun _ hk => hk.2) (.slice Ao132 t482.length co132)) (fun _ h_ => h_.1))) hb); have n5_ := A_ (Kd.R_below (by (with_reducible repeat (first | apply Kd.R_alloc | apply Kd.R_drewN | apply Kd.R_drew)); exact (Kd.R_mono (Kd.R_far (p := ⟨gb486, 0, none⟩) (Kd.R_types HO_471000.out BK486.out (by decide)) (fun _ hk => hk.2) (.slice Ao132 t482.length co132)) (fun _ h_ => h_.1))) hb); have n6_ := A_ (Kd.R_below (by (with_reducible repeat (first | apply Kd.R_alloc | apply Kd.R_drewN | apply Kd.R_drew)); exact (Kd.R_mono (Kd.R_far (p := ⟨gb486, 0, none⟩) (Kd.R_types HO_476000.out BK486.out (by decide)) (fun _ hk => hk.2) (.slice Ao132 t482.length co132)) (fun _ h_ => h_.1))) hb); have n7_ := A_ (Kd.R_below laws_FnRanks.Z18 hb); have n8_ := A_ (Kd.R_below laws_FnRanks.Z19 hb); have n9_ := A_ (eB BK436 hb); have n10_ := A_ (eB BK445 hb); have n11_ := A_ (eB BK450 hb); have n12_ := A_ (eB BK458 hb); have n13_ := A_ (eB BK463 hb); have n14_ := A_ (eB BK470 hb); have n15_ := A_ (eB BK475 hb); have n16_ := A_ (eB BK481 hb); have n17_ := A_ (blk_below (g := gb486) (o := .cells #[.slice Ao132 t482.length co132] 26 (0, 0)) (by (with_reducible repeat (first | refine blk_drewN ?_ _ | refine blk_drew ?_ | refine blk_alloc ?_ _)); refine blk_put (cs := #[.slice none 0 0]) ?_ 0 _ rfl; (with_reducible repeat (first | refine blk_drewN ?_ _ | refine blk_drew ?_ | refine blk_alloc ?_ _)); exact BK486.out) hb); have n18_ := A_ (below_step (el HB) hb); clear HO_437000; clear HO_446000; clear HO_451000; clear HO_459000; clear HO_464000; clear HO_471000; clear HO_476000; clear HO479; clear HO484; clear BK436; clear BK445; clear BK450; clear BK458; clear BK463; clear BK470; clear BK475; clear BK481; clear BK486; clear HB; have HO_437000 := n0_; have HO_446000 := n1_; have HO_451000 := n2_; have HO_459000 := n3_; have HO_464000 := n4_; have HO_471000 := n5_; have HO_476000 := n6_; have HO479 := n7_; have HO484 := n8_; have BK436 := n9_; have BK445 := n10_; have BK450 := n11_; have BK458 := n12_; have BK463 := n13_; have BK470 := n14_; have BK475 := n15_; have BK481 := n16_; have BK486 := n17_; have HB := n18_; clear n0_ n1_ n2_ n3_ n4_ n5_ n6_ n7_ n8_ n9_ n10_ n11_ n12_ n13_ n14_ n15_ n16_ n17_ n18_; (try clear hb); (try clear hb2); (try clear hk); (try clear hi)))
                 go_meet
                 case rel => exact ⟨_, (!t487), laws_FnRanks.Z31, H', ⟨by have := HJ6.out; have := HJ18.out; have := HJ44.out; have := HJ77.out; first | omega | exact Nat.le_refl _⟩, ⟨by (with_reducible repeat (first | apply Kd.R_alloc | apply Kd.R_drewN | apply Kd.R_drew)); exact Kd.R_mono HO_437000.out (fun _ hk => ⟨hk.1.1.1, ⟨hk.1.1.2.1, ⟨hk.1.1.2.2.1, ⟨hk.1.1.2.2.2.1, ⟨hk.1.1.2.2.2.2.1, ⟨hk.1.1.2.2.2.2.2, ⟨hk.1.2, hk.2⟩⟩⟩⟩⟩⟩⟩)⟩, ⟨by (with_reducible repeat (first | apply Kd.R_alloc | apply Kd.R_drewN | apply Kd.R_drew)); exact Kd.R_mono HO_446000.out (fun _ hk => ⟨hk.1.1.1, ⟨hk.1.1.2.1, ⟨hk.1.1.2.2.1, ⟨hk.1.1.2.2.2.1, ⟨hk.1.1.2.2.2.2.1, ⟨hk.1.1.2.2.2.2.2, ⟨hk.1.2, hk.2⟩⟩⟩⟩⟩⟩⟩)⟩, ⟨by (with_reducible repeat (first | apply Kd.R_alloc | apply Kd.R_drewN | apply Kd.R_drew)); exact Kd.R_mono HO_451000.out (fun _ hk => ⟨hk.1.1.1, ⟨hk.1.1.2.1, ⟨hk.1.1.2.2.1, ⟨hk.1.1.2.2.2.1, ⟨hk.1.1.2.2.2.2.1, ⟨hk.1.1.2.2.2.2.2, ⟨hk.1.2, hk.2⟩⟩⟩⟩⟩⟩⟩)⟩, ⟨by (with_reducible repeat (first | apply Kd.R_alloc | apply Kd.R_drewN | apply Kd.R_drew)); exact Kd.R_mono HO_459000.out (fun _ hk => ⟨hk.1.1.1, ⟨hk.1.1.2.1, ⟨hk.1.1.2.2.1, ⟨hk.1.1.2.2.2.1, ⟨hk.1.1.2.2.2.2.1, ⟨hk.1.1.2.2.2.2.2, ⟨hk.1.2, hk.2⟩⟩⟩⟩⟩⟩⟩)⟩, ⟨by (with_reducible repeat (first | apply Kd.R_alloc | apply Kd.R_drewN | apply Kd.R_drew)); exact Kd.R_mono HO_464000.out (fun _ hk => ⟨hk.1.1.1, ⟨hk.1.1.2.1, ⟨hk.1.1.2.2.1, ⟨hk.1.1.2.2.2.1, ⟨hk.1.1.2.2.2.2.1, ⟨hk.1.1.2.2.2.2.2, ⟨hk.1.2, hk.2⟩⟩⟩⟩⟩⟩⟩)⟩, ⟨by (with_reducible repeat (first | apply Kd.R_alloc | apply Kd.R_drewN | apply Kd.R_drew)); exact Kd.R_mono HO_471000.out (fun _ hk => ⟨hk.1.1.1, ⟨hk.1.1.2.1, ⟨hk.1.1.2.2.1, ⟨hk.1.1.2.2.2.1, ⟨hk.1.1.2.2.2.2.1, ⟨hk.1.1.2.2.2.2.2, ⟨hk.1.2, hk.2⟩⟩⟩⟩⟩⟩⟩)⟩, ⟨by (with_reducible repeat (first | apply Kd.R_alloc | apply Kd.R_drewN | apply Kd.R_drew)); exact Kd.R_mono HO_476000.out (fun _ hk => ⟨hk.1.1.1, ⟨hk.1.1.2.1, ⟨hk.1.1.2.2.1, ⟨hk.1.1.2.2.2.1, ⟨hk.1.1.2.2.2.2.1, ⟨hk.1.1.2.2.2.2.2, ⟨hk.1.2, hk.2⟩⟩⟩⟩⟩⟩⟩)⟩, ⟨by (with_reducible repeat (first | apply Kd.R_alloc | apply Kd.R_drewN | apply Kd.R_drew)); exact Kd.R_mono HO479.out (fun _ hk => ⟨hk.1.1.1.1.1.1.1.2, ⟨hk.1.1.1.1.1.1.2, ⟨hk.1.1.1.1.1.2, ⟨hk.1.1.1.1.2, ⟨hk.1.1.1.2, ⟨hk.1.1.2, ⟨hk.1.2, hk.2⟩⟩⟩⟩⟩⟩⟩)⟩, ⟨by (with_reducible repeat (first | apply Kd.R_alloc | apply Kd.R_drewN | apply Kd.R_drew)); exact Kd.R_mono HO484.out (fun _ hk => ⟨hk.1.1.1.1.1.1.1.2, ⟨hk.1.1.1.1.1.1.2, ⟨hk.1.1.1.1.1.2, ⟨hk.1.1.1.1.2, ⟨hk.1.1.1.2, ⟨hk.1.1.2, ⟨hk.1.2, hk.2⟩⟩⟩⟩⟩⟩⟩)⟩, ⟨eb BK436⟩, ⟨eb BK445⟩, ⟨eb BK450⟩, ⟨eb BK458⟩, ⟨eb BK463⟩, ⟨eb BK470⟩, ⟨eb BK475⟩, ⟨eb BK481⟩, ⟨eb BK486⟩, ⟨el HB⟩⟩
                ·rw [if_neg c142] at H
                 have c142b0 : (t480 == t485) = false := beq_eq_false_iff_ne.mpr c142
                 have c142b1 : (t480 != t485) = true := bne_iff_ne.mpr c142
                 (first | rw [c142b0] | (simp only [i64_w, i32_w]; rw [c142b0]) | skip)
                 have H' := A_ H
                 clear H
                 go_wp2
                 go_meet
                 case rel => exact ⟨_, (true), laws_FnRanks.Z31, H', ⟨by have := HJ6.out; have := HJ18.out; have := HJ44.out; have := HJ77.out; first | omega | exact Nat.le_refl _⟩, ⟨by (with_reducible repeat (first | apply Kd.R_alloc | apply Kd.R_drewN | apply Kd.R_drew)); exact Kd.R_mono (Kd.R_far (p := ⟨gb486, 0, none⟩) (Kd.R_types HO_437000.out BK486.out (by decide)) (fun _ hk => hk.2) (.slice Ao132 t482.length co132)) (fun _ hk => ⟨hk.1.1.1.1, ⟨hk.1.1.1.2.1, ⟨hk.1.1.1.2.2.1, ⟨hk.1.1.1.2.2.2.1, ⟨hk.1.1.1.2.2.2.2.1, ⟨hk.1.1.1.2.2.2.2.2, ⟨hk.1.1.2, hk.1.2⟩⟩⟩⟩⟩⟩⟩)⟩, ⟨by (with_reducible repeat (first | apply Kd.R_alloc | apply Kd.R_drewN | apply Kd.R_drew)); exact Kd.R_mono (Kd.R_far (p := ⟨gb486, 0, none⟩) (Kd.R_types HO_446000.out BK486.out (by decide)) (fun _ hk => hk.2) (.slice Ao132 t482.length co132)) (fun _ hk => ⟨hk.1.1.1.1, ⟨hk.1.1.1.2.1, ⟨hk.1.1.1.2.2.1, ⟨hk.1.1.1.2.2.2.1, ⟨hk.1.1.1.2.2.2.2.1, ⟨hk.1.1.1.2.2.2.2.2, ⟨hk.1.1.2, hk.1.2⟩⟩⟩⟩⟩⟩⟩)⟩, ⟨by (with_reducible repeat (first | apply Kd.R_alloc | apply Kd.R_drewN | apply Kd.R_drew)); exact Kd.R_mono (Kd.R_far (p := ⟨gb486, 0, none⟩) (Kd.R_types HO_451000.out BK486.out (by decide)) (fun _ hk => hk.2) (.slice Ao132 t482.length co132)) (fun _ hk => ⟨hk.1.1.1.1, ⟨hk.1.1.1.2.1, ⟨hk.1.1.1.2.2.1, ⟨hk.1.1.1.2.2.2.1, ⟨hk.1.1.1.2.2.2.2.1, ⟨hk.1.1.1.2.2.2.2.2, ⟨hk.1.1.2, hk.1.2⟩⟩⟩⟩⟩⟩⟩)⟩, ⟨by (with_reducible repeat (first | apply Kd.R_alloc | apply Kd.R_drewN | apply Kd.R_drew)); exact Kd.R_mono (Kd.R_far (p := ⟨gb486, 0, none⟩) (Kd.R_types HO_459000.out BK486.out (by decide)) (fun _ hk => hk.2) (.slice Ao132 t482.length co132)) (fun _ hk => ⟨hk.1.1.1.1, ⟨hk.1.1.1.2.1, ⟨hk.1.1.1.2.2.1, ⟨hk.1.1.1.2.2.2.1, ⟨hk.1.1.1.2.2.2.2.1, ⟨hk.1.1.1.2.2.2.2.2, ⟨hk.1.1.2, hk.1.2⟩⟩⟩⟩⟩⟩⟩)⟩, ⟨by (with_reducible repeat (first | apply Kd.R_alloc | apply Kd.R_drewN | apply Kd.R_drew)); exact Kd.R_mono (Kd.R_far (p := ⟨gb486, 0, none⟩) (Kd.R_types HO_464000.out BK486.out (by decide)) (fun _ hk => hk.2) (.slice Ao132 t482.length co132)) (fun _ hk => ⟨hk.1.1.1.1, ⟨hk.1.1.1.2.1, ⟨hk.1.1.1.2.2.1, ⟨hk.1.1.1.2.2.2.1, ⟨hk.1.1.1.2.2.2.2.1, ⟨hk.1.1.1.2.2.2.2.2, ⟨hk.1.1.2, hk.1.2⟩⟩⟩⟩⟩⟩⟩)⟩, ⟨by (with_reducible repeat (first | apply Kd.R_alloc | apply Kd.R_drewN | apply Kd.R_drew)); exact Kd.R_mono (Kd.R_far (p := ⟨gb486, 0, none⟩) (Kd.R_types HO_471000.out BK486.out (by decide)) (fun _ hk => hk.2) (.slice Ao132 t482.length co132)) (fun _ hk => ⟨hk.1.1.1.1, ⟨hk.1.1.1.2.1, ⟨hk.1.1.1.2.2.1, ⟨hk.1.1.1.2.2.2.1, ⟨hk.1.1.1.2.2.2.2.1, ⟨hk.1.1.1.2.2.2.2.2, ⟨hk.1.1.2, hk.1.2⟩⟩⟩⟩⟩⟩⟩)⟩, ⟨by (with_reducible repeat (first | apply Kd.R_alloc | apply Kd.R_drewN | apply Kd.R_drew)); exact Kd.R_mono (Kd.R_far (p := ⟨gb486, 0, none⟩) (Kd.R_types HO_476000.out BK486.out (by decide)) (fun _ hk => hk.2) (.slice Ao132 t482.length co132)) (fun _ hk => ⟨hk.1.1.1.1, ⟨hk.1.1.1.2.1, ⟨hk.1.1.1.2.2.1, ⟨hk.1.1.1.2.2.2.1, ⟨hk.1.1.1.2.2.2.2.1, ⟨hk.1.1.1.2.2.2.2.2, ⟨hk.1.1.2, hk.1.2⟩⟩⟩⟩⟩⟩⟩)⟩, ⟨by (with_reducible repeat (first | apply Kd.R_alloc | apply Kd.R_drewN | apply Kd.R_drew)); exact Kd.R_mono (Kd.R_far (p := ⟨gb486, 0, none⟩) (Kd.R_types HO479.out BK486.out (by decide)) (fun _ hk => hk.2) (.slice Ao132 t482.length co132)) (fun _ hk => ⟨hk.1.1.1.1.1.1.1.1.2, ⟨hk.1.1.1.1.1.1.1.2, ⟨hk.1.1.1.1.1.1.2, ⟨hk.1.1.1.1.1.2, ⟨hk.1.1.1.1.2, ⟨hk.1.1.1.2, ⟨hk.1.1.2, hk.1.2⟩⟩⟩⟩⟩⟩⟩)⟩, ⟨by (with_reducible repeat (first | apply Kd.R_alloc | apply Kd.R_drewN | apply Kd.R_drew)); exact Kd.R_mono (Kd.R_far (p := ⟨gb486, 0, none⟩) (Kd.R_types HO484.out BK486.out (by decide)) (fun _ hk => hk.2) (.slice Ao132 t482.length co132)) (fun _ hk => ⟨hk.1.1.1.1.1.1.1.1.2, ⟨hk.1.1.1.1.1.1.1.2, ⟨hk.1.1.1.1.1.1.2, ⟨hk.1.1.1.1.1.2, ⟨hk.1.1.1.1.2, ⟨hk.1.1.1.2, ⟨hk.1.1.2, hk.1.2⟩⟩⟩⟩⟩⟩⟩)⟩, ⟨eb BK436⟩, ⟨eb BK445⟩, ⟨eb BK450⟩, ⟨eb BK458⟩, ⟨eb BK463⟩, ⟨eb BK470⟩, ⟨eb BK475⟩, ⟨eb BK481⟩, ⟨by (with_reducible repeat (first | refine blk_drewN ?_ _ | refine blk_drew ?_ | refine blk_alloc ?_ _)); refine blk_put (cs := #[.slice none 0 0]) ?_ 0 _ rfl; (with_reducible repeat (first | refine blk_drewN ?_ _ | refine blk_drew ?_ | refine blk_alloc ?_ _)); exact BK486.out⟩, ⟨el HB⟩⟩
              case rest =>
               as_aux_lemma =>
                clear HC118
                try clear c1
                try clear c2
                try clear p2
                try clear c3
                try clear c4
                try clear c5
                try clear c6
                try clear c7
                try clear c8
                try clear c9
                try clear c10
                try clear c11
                try clear c12
                try clear c13
                try clear c14
                try clear c15
                try clear c15b0
                try clear c15b1
                try clear c16
                try clear c24
                try clear c30
                try clear c31
                try clear c33
                try clear c33b0
                try clear c33b1
                try clear c35
                try clear c36
                try clear c38
                try clear c41
                try clear c50
                try clear c51
                try clear c52
                try clear c57
                try clear c58
                try clear c59
                try clear c60
                try clear c62
                try clear c62b0
                try clear c62b1
                try clear c64
                try clear c65
                try clear c66
                try clear c67
                try clear c69
                try clear c70
                try clear c71
                try clear c74
                try clear c83
                try clear c84
                try clear c85
                try clear c86
                try clear c87
                try clear c88
                try clear c90
                try clear c91
                try clear c92
                try clear c93
                try clear c94
                try clear c95
                try clear c96
                try clear c97
                try clear c99
                try clear c99b0
                try clear c99b1
                try clear c101
                try clear c102
                try clear c103
                try clear c104
                try clear c105
                try clear c106
                try clear c108
                try clear c109
                try clear c110
                try clear c111
                try clear c112
                try clear c115
                try clear c122
                try clear c123
                try clear c124
                try clear c125
                try clear c126
                try clear c127
                try clear c128
                try clear c133
                try clear c134
                try clear c135
                try clear c136
                try clear c137
                try clear c138
                try clear c139
                try clear c140
                try clear c142
                try clear c142b0
                try clear c142b1
                try clear c144
                try clear c145
                try clear c146
                try clear c147
                try clear c148
                try clear c149
                try clear c150
                try clear c151
                try clear c153
                try clear c154
                try clear c155
                try clear c156
                try clear c157
                try clear c158
                try clear c159
                try clear hcz107_0
                try clear hcz113_0
                try clear hcz11_0
                try clear hcz129_0
                try clear hcz13_0
                try clear hcz141_0
                try clear hcz152_0
                try clear hcz160_0
                try clear hcz20_0
                try clear hcz25_0
                try clear hcz26_0
                try clear hcz32_0
                try clear hcz37_0
                try clear hcz39_0
                try clear hcz53_0
                try clear hcz61_0
                try clear hcz68_0
                try clear hcz72_0
                try clear hcz88_0
                try clear hcz98_0
                try clear hfz107_0
                try clear hfz113_0
                try clear hfz11_0
                try clear hfz129_0
                try clear hfz13_0
                try clear hfz141_0
                try clear hfz152_0
                try clear hfz160_0
                try clear hfz20_0
                try clear hfz25_0
                try clear hfz26_0
                try clear hfz32_0
                try clear hfz37_0
                try clear hfz39_0
                try clear hfz53_0
                try clear hfz61_0
                try clear hfz68_0
                try clear hfz72_0
                try clear hfz88_0
                try clear hfz98_0
                try clear p2
                obtain ⟨kq, x147_117, rfl, HA, HJ117, HO_437000, HO_446000, HO_451000, HO_459000, HO_464000, HO_471000, HO_476000, HO_482000, HO_487000, BK436, BK445, BK450, BK458, BK463, BK470, BK475, BK481, BK486, HB⟩ := hcut
                cases kq with
                | zero => exact absurd HA.out (by simp [laws_FnRanks.j4])
                | succ kj117 =>
                 have H := HA.out
                 clear HA
                 simp only [laws_FnRanks.j4] at H
                 by_cases c162 : x147_117 = true
                 ·subst c162
                  have H1 : (none) = some r := by rw [if_pos rfl] at H; exact H
                  clear H
                  have H := H1
                  clear H1
                  exact absurd H (by simp)
                 replace c162 := Bool.eq_false_iff.mpr c162
                 subst c162
                 have H1 : (if t457 = 0 then ((impl_RankOfTree.f kj117 t454).bind fun bt488 => (if bt488.2 = 0 then (if bt488.1 = t453 then (laws_FnRanks.j5 kj117 t437 t438 t444 t465 t469 t433 t441 t466 t477) else (none)) else (none))) else (laws_FnRanks.j5 kj117 t437 t438 t444 t465 t469 t433 t441 t466 t477)) = some r := by rw [if_neg (show ¬ (false = true) by decide)] at H; exact H
                 clear H
                 have H := H1
                 clear H1
                 have HC163 := A_ H
                 clear H
                 go_upto_if 149 with (fail)
                 go_cut [] (fun wc => ∃ (kq : Nat), Aside0 (laws_FnRanks.j5 kq t437 t438 t444 t465 t469 t433 t441 t466 t477 = some r) ∧ Aside0 (kq ≤ kj117) ∧ Aside0 (Kd.R (Kd.int .i64) 2 wc w.heap.size (fun k_ => some k_ ≠ ((.slice Ao23 t441.length co23) : Value).ownBlock ∧ some k_ ≠ ((.slice Ao29 t446.length co29) : Value).ownBlock ∧ some k_ ≠ ((.slice Ao49 t454.length co49) : Value).ownBlock ∧ some k_ ≠ ((.slice Ao56 t459.length co56) : Value).ownBlock ∧ some k_ ≠ ((.slice Ao82 t466.length co82) : Value).ownBlock ∧ some k_ ≠ ((.slice Ao91 t471.length co91) : Value).ownBlock ∧ some k_ ≠ ((.slice Ao121 t477.length co121) : Value).ownBlock ∧ some k_ ≠ ((.slice Ao132 t482.length co132) : Value).ownBlock) (.slice Ao10 t433.length co10) t433) ∧ Aside0 (Kd.R (Kd.int .i64) 2 wc w.heap.size (fun k_ => some k_ ≠ ((.slice Ao10 t433.length co10) : Value).ownBlock ∧ some k_ ≠ ((.slice Ao29 t446.length co29) : Value).ownBlock ∧ some k_ ≠ ((.slice Ao49 t454.length co49) : Value).ownBlock ∧ some k_ ≠ ((.slice Ao56 t459.length co56) : Value).ownBlock ∧ some k_ ≠ ((.slice Ao82 t466.length co82) : Value).ownBlock ∧ some k_ ≠ ((.slice Ao91 t471.length co91) : Value).ownBlock ∧ some k_ ≠ ((.slice Ao121 t477.length co121) : Value).ownBlock ∧ some k_ ≠ ((.slice Ao132 t482.length co132) : Value).ownBlock) (.slice Ao23 t441.length co23) t441) ∧ Aside0 (Kd.R (Kd.int .i64) 2 wc w.heap.size (fun k_ => some k_ ≠ ((.slice Ao10 t433.length co10) : Value).ownBlock ∧ some k_ ≠ ((.slice Ao23 t441.length co23) : Value).ownBlock ∧ some k_ ≠ ((.slice Ao49 t454.length co49) : Value).ownBlock ∧ some k_ ≠ ((.slice Ao56 t459.length co56) : Value).ownBlock ∧ some k_ ≠ ((.slice Ao82 t466.length co82) : Value).ownBlock ∧ some k_ ≠ ((.slice Ao91 t471.length co91) : Value).ownBlock ∧ some k_ ≠ ((.slice Ao121 t477.length co121) : Value).ownBlock ∧ some k_ ≠ ((.slice Ao132 t482.length co132) : Value).ownBlock) (.slice Ao29 t446.length co29) t446) ∧ Aside0 (Kd.R (Kd.int .i64) 2 wc w.heap.size (fun k_ => some k_ ≠ ((.slice Ao10 t433.length co10) : Value).ownBlock ∧ some k_ ≠ ((.slice Ao23 t441.length co23) : Value).ownBlock ∧ some k_ ≠ ((.slice Ao29 t446.length co29) : Value).ownBlock ∧ some k_ ≠ ((.slice Ao56 t459.length co56) : Value).ownBlock ∧ some k_ ≠ ((.slice Ao82 t466.length co82) : Value).ownBlock ∧ some k_ ≠ ((.slice Ao91 t471.length co91) : Value).ownBlock ∧ some k_ ≠ ((.slice Ao121 t477.length co121) : Value).ownBlock ∧ some k_ ≠ ((.slice Ao132 t482.length co132) : Value).ownBlock) (.slice Ao49 t454.length co49) t454) ∧ Aside0 (Kd.R (Kd.int .i64) 2 wc w.heap.size (fun k_ => some k_ ≠ ((.slice Ao10 t433.length co10) : Value).ownBlock ∧ some k_ ≠ ((.slice Ao23 t441.length co23) : Value).ownBlock ∧ some k_ ≠ ((.slice Ao29 t446.length co29) : Value).ownBlock ∧ some k_ ≠ ((.slice Ao49 t454.length co49) : Value).ownBlock ∧ some k_ ≠ ((.slice Ao82 t466.length co82) : Value).ownBlock ∧ some k_ ≠ ((.slice Ao91 t471.length co91) : Value).ownBlock ∧ some k_ ≠ ((.slice Ao121 t477.length co121) : Value).ownBlock ∧ some k_ ≠ ((.slice Ao132 t482.length co132) : Value).ownBlock) (.slice Ao56 t459.length co56) t459) ∧ Aside0 (Kd.R (Kd.int .i64) 2 wc w.heap.size (fun k_ => some k_ ≠ ((.slice Ao10 t433.length co10) : Value).ownBlock ∧ some k_ ≠ ((.slice Ao23 t441.length co23) : Value).ownBlock ∧ some k_ ≠ ((.slice Ao29 t446.length co29) : Value).ownBlock ∧ some k_ ≠ ((.slice Ao49 t454.length co49) : Value).ownBlock ∧ some k_ ≠ ((.slice Ao56 t459.length co56) : Value).ownBlock ∧ some k_ ≠ ((.slice Ao91 t471.length co91) : Value).ownBlock ∧ some k_ ≠ ((.slice Ao121 t477.length co121) : Value).ownBlock ∧ some k_ ≠ ((.slice Ao132 t482.length co132) : Value).ownBlock) (.slice Ao82 t466.length co82) t466) ∧ Aside0 (Kd.R (Kd.int .i64) 2 wc w.heap.size (fun k_ => some k_ ≠ ((.slice Ao10 t433.length co10) : Value).ownBlock ∧ some k_ ≠ ((.slice Ao23 t441.length co23) : Value).ownBlock ∧ some k_ ≠ ((.slice Ao29 t446.length co29) : Value).ownBlock ∧ some k_ ≠ ((.slice Ao49 t454.length co49) : Value).ownBlock ∧ some k_ ≠ ((.slice Ao56 t459.length co56) : Value).ownBlock ∧ some k_ ≠ ((.slice Ao82 t466.length co82) : Value).ownBlock ∧ some k_ ≠ ((.slice Ao121 t477.length co121) : Value).ownBlock ∧ some k_ ≠ ((.slice Ao132 t482.length co132) : Value).ownBlock) (.slice Ao91 t471.length co91) t471) ∧ Aside0 (Kd.R (Kd.int .i64) 2 wc w.heap.size (fun k_ => some k_ ≠ ((.slice Ao10 t433.length co10) : Value).ownBlock ∧ some k_ ≠ ((.slice Ao23 t441.length co23) : Value).ownBlock ∧ some k_ ≠ ((.slice Ao29 t446.length co29) : Value).ownBlock ∧ some k_ ≠ ((.slice Ao49 t454.length co49) : Value).ownBlock ∧ some k_ ≠ ((.slice Ao56 t459.length co56) : Value).ownBlock ∧ some k_ ≠ ((.slice Ao82 t466.length co82) : Value).ownBlock ∧ some k_ ≠ ((.slice Ao91 t471.length co91) : Value).ownBlock ∧ some k_ ≠ ((.slice Ao132 t482.length co132) : Value).ownBlock) (.slice Ao121 t477.length co121) t477) ∧ Aside0 (Kd.R (Kd.int .i64) 2 wc w.heap.size (fun k_ => some k_ ≠ ((.slice Ao10 t433.length co10) : Value).ownBlock ∧ some k_ ≠ ((.slice Ao23 t441.length co23) : Value).ownBlock ∧ some k_ ≠ ((.slice Ao29 t446.length co29) : Value).ownBlock ∧ some k_ ≠ ((.slice Ao49 t454.length co49) : Value).ownBlock ∧ some k_ ≠ ((.slice Ao56 t459.length co56) : Value).ownBlock ∧ some k_ ≠ ((.slice Ao82 t466.length co82) : Value).ownBlock ∧ some k_ ≠ ((.slice Ao91 t471.length co91) : Value).ownBlock ∧ some k_ ≠ ((.slice Ao121 t477.length co121) : Value).ownBlock) (.slice Ao132 t482.length co132) t482) ∧ Aside0 (wc.heap[gb436]? = some (.cells #[(.slice Ao10 t433.length co10)] 26 (0, 0))) ∧ Aside0 (wc.heap[gb445]? = some (.cells #[(.slice Ao23 t441.length co23)] 26 (0, 0))) ∧ Aside0 (wc.heap[gb450]? = some (.cells #[(.slice Ao29 t446.length co29)] 26 (0, 0))) ∧ Aside0 (wc.heap[gb458]? = some (.cells #[(.slice Ao49 t454.length co49)] 26 (0, 0))) ∧ Aside0 (wc.heap[gb463]? = some (.cells #[(.slice Ao56 t459.length co56)] 26 (0, 0))) ∧ Aside0 (wc.heap[gb470]? = some (.cells #[(.slice Ao82 t466.length co82)] 26 (0, 0))) ∧ Aside0 (wc.heap[gb475]? = some (.cells #[(.slice Ao91 t471.length co91)] 26 (0, 0))) ∧ Aside0 (wc.heap[gb481]? = some (.cells #[(.slice Ao121 t477.length co121)] 26 (0, 0))) ∧ Aside0 (wc.heap[gb486]? = some (.cells #[(.slice Ao132 t482.length co132)] 26 (0, 0))) ∧ Aside0 (Below w.heap.size w wc))
                 case first =>
                  as_aux_lemma =>
                   have H := HC163.out
                   clear HC163
                   by_cases c164 : t457 = 0
                   ·rw [if_pos c164] at H
                    have c164b0 : (t457 == 0) = true := beq_iff_eq.mpr c164
                    have c164b1 : (t457 != 0) = false := bne_eq_false_iff_eq.mpr c164
                    clear c164
                    (first | rw [c164b0] | (simp only [i64_w, i32_w]; rw [c164b0]) | skip)
                    replace H := Option.bind_eq_some_iff.mp H
                    obtain ⟨⟨t488, t489⟩, A1650, H⟩ := H
                    replace H : (if t489 = 0 then (if t488 = t453 then (laws_FnRanks.j5 kj117 t437 t438 t444 t465 t469 t433 t441 t466 t477) else (none)) else (none)) = some r := H
                    have A165 := A_ A1650
                    clear A1650
                    by_cases c166 : t489 = 0
                    rotate_left
                    ·rw [if_neg c166] at H
                     exact absurd H (by simp)
                    rw [if_pos c166] at H
                    have c166b0 : (t489 == 0) = true := beq_iff_eq.mpr c166
                    have c166b1 : (t489 != 0) = false := bne_eq_false_iff_eq.mpr c166
                    clear c166
                    by_cases c167 : t488 = t453
                    rotate_left
                    ·rw [if_neg c167] at H
                     exact absurd H (by simp)
                    rw [if_pos c167] at H
                    have c167b0 : (t488 == t453) = true := beq_iff_eq.mpr c167
                    have c167b1 : (t488 != t453) = false := bne_eq_false_iff_eq.mpr c167
                    clear c167
                    have H' := A_ H
                    clear H
                    have hnb168 := NB458_436.out
                    have hnc168 := NB436_458.out
                    have hnb169 := NB458_445.out
                    have hnc169 := NB445_458.out
                    have hnb170 := NB458_450.out
                    have hnc170 := NB450_458.out
                    have hnb171 := NB458_463.out
                    have hnc171 := NB463_458.out
                    have hnb172 := NB458_470.out
                    have hnc172 := NB470_458.out
                    have hnb173 := NB458_475.out
                    have hnc173 := NB475_458.out
                    have hnb174 := NB458_481.out
                    have hnc174 := NB481_458.out
                    have hnb175 := NB458_486.out
                    have hnc175 := NB486_458.out
                    have hcz176_0 : wc.cell? ⟨gb458, 0, none⟩ = some (.slice Ao49 t454.length co49) := (blk_cell BK458.out 0).trans rfl
                    have hfz176_0 := blk_frozen BK458.out 0
                    go_wp2_with (first | ((with_reducible refine gate_callee (f := 85) rfl ?_); refine goesL_ (some 152) rfl rfl Try.func85 (by kernel_rfl) rfl #[.agg #[.slice Ao49 t454.length co49]] rfl eg ?_; (with_reducible refine (impl_RankOfTree.calls kj117 _ _ t454 t488 t489 _ ?side1 ?side2 A165.out).mono ?_); (case side1 => repeat (first | exact (Kd.R_reads' HO_459000.out).2.2 | (with_reducible refine Kd.C_alloc ?_ _) | (with_reducible refine Kd.C_drewN ?_ _) | (with_reducible refine Kd.C_drew ?_))); (case side2 => exact (Kd.R_reads' HO_459000.out).2.1); rintro e w177 ⟨rfl, hb⟩; refine ⟨_, rfl, ?_⟩; have n0_ := A_ (Kd.R_below (ea HO_437000) hb); have n1_ := A_ (Kd.R_below (ea HO_446000) hb); have n2_ := A_ (Kd.R_below (ea HO_451000) hb); have n3_ := A_ (Kd.R_below (ea HO_459000) hb); have n4_ := A_ (Kd.R_below (ea HO_464000) hb); have n5_ := A_ (Kd.R_below (ea HO_471000) hb); have n6_ := A_ (Kd.R_below (ea HO_476000) hb); have n7_ := A_ (Kd.R_below (ea HO_482000) hb); have n8_ := A_ (Kd.R_below (ea HO_487000) hb); have n9_ := A_ (eB BK436 hb); have n10_ := A_ (eB BK445 hb); have n11_ := A_ (eB BK450 hb); have n12_ := A_ (eB BK458 hb); have n13_ := A_ (eB BK463 hb); have n14_ := A_ (eB BK470 hb); have n15_ := A_ (eB BK475 hb); have n16_ := A_ (eB BK481 hb); have n17_ := A_ (eB BK486 hb); have n18_ := A_ (below_step (el HB) hb); clear HO_437000; clear HO_446000; clear HO_451000; clear HO_459000; clear HO_464000; clear HO_471000; clear HO_476000; clear HO_482000; clear HO_487000; clear BK436; clear BK445; clear BK450; clear BK458; clear BK463; clear BK470; clear BK475; clear BK481; clear BK486; clear HB; have HO_437000 := n0_; have HO_446000 := n1_; have HO_451000 := n2_; have HO_459000 := n3_; have HO_464000 := n4_; have HO_471000 := n5_; have HO_476000 := n6_; have HO_482000 := n7_; have HO_487000 := n8_; have BK436 := n9_; have BK445 := n10_; have BK450 := n11_; have BK458 := n12_; have BK463 := n13_; have BK470 := n14_; have BK475 := n15_; have BK481 := n16_; have BK486 := n17_; have HB := n18_; clear n0_ n1_ n2_ n3_ n4_ n5_ n6_ n7_ n8_ n9_ n10_ n11_ n12_ n13_ n14_ n15_ n16_ n17_ n18_; (try clear hb); (try clear hb2); (try clear hk); (try clear hi)))
                    go_meet
                    case rel => exact ⟨_, H', ⟨by have := HJ6.out; have := HJ18.out; have := HJ44.out; have := HJ77.out; have := HJ117.out; first | omega | exact Nat.le_refl _⟩, ⟨es HO_437000⟩, ⟨es HO_446000⟩, ⟨es HO_451000⟩, ⟨es HO_459000⟩, ⟨es HO_464000⟩, ⟨es HO_471000⟩, ⟨es HO_476000⟩, ⟨es HO_482000⟩, ⟨es HO_487000⟩, ⟨eb BK436⟩, ⟨eb BK445⟩, ⟨eb BK450⟩, ⟨eb BK458⟩, ⟨eb BK463⟩, ⟨eb BK470⟩, ⟨eb BK475⟩, ⟨eb BK481⟩, ⟨eb BK486⟩, ⟨el HB⟩⟩
                   ·rw [if_neg c164] at H
                    have c164b0 : (t457 == 0) = false := beq_eq_false_iff_ne.mpr c164
                    have c164b1 : (t457 != 0) = true := bne_iff_ne.mpr c164
                    (first | rw [c164b0] | (simp only [i64_w, i32_w]; rw [c164b0]) | skip)
                    have H' := A_ H
                    clear H
                    go_wp2
                    go_meet
                    case rel => exact ⟨_, H', ⟨by have := HJ6.out; have := HJ18.out; have := HJ44.out; have := HJ77.out; have := HJ117.out; first | omega | exact Nat.le_refl _⟩, ⟨es HO_437000⟩, ⟨es HO_446000⟩, ⟨es HO_451000⟩, ⟨es HO_459000⟩, ⟨es HO_464000⟩, ⟨es HO_471000⟩, ⟨es HO_476000⟩, ⟨es HO_482000⟩, ⟨es HO_487000⟩, ⟨eb BK436⟩, ⟨eb BK445⟩, ⟨eb BK450⟩, ⟨eb BK458⟩, ⟨eb BK463⟩, ⟨eb BK470⟩, ⟨eb BK475⟩, ⟨eb BK481⟩, ⟨eb BK486⟩, ⟨el HB⟩⟩
                 case rest =>
                  as_aux_lemma =>
                   clear HC163
                   try clear c1
                   try clear c2
                   try clear p2
                   try clear c3
                   try clear c4
                   try clear c5
                   try clear c6
                   try clear c7
                   try clear c8
                   try clear c9
                   try clear c10
                   try clear c11
                   try clear c12
                   try clear c13
                   try clear c14
                   try clear c15
                   try clear c15b0
                   try clear c15b1
                   try clear c16
                   try clear c17
                   try clear c24
                   try clear c30
                   try clear c31
                   try clear c33
                   try clear c33b0
                   try clear c33b1
                   try clear c35
                   try clear c36
                   try clear c38
                   try clear c41
                   try clear c50
                   try clear c51
                   try clear c52
                   try clear c57
                   try clear c58
                   try clear c59
                   try clear c60
                   try clear c62
                   try clear c62b0
                   try clear c62b1
                   try clear c64
                   try clear c65
                   try clear c66
                   try clear c67
                   try clear c69
                   try clear c70
                   try clear c71
                   try clear c74
                   try clear c83
                   try clear c84
                   try clear c85
                   try clear c86
                   try clear c87
                   try clear c88
                   try clear c90
                   try clear c91
                   try clear c92
                   try clear c93
                   try clear c94
                   try clear c95
                   try clear c96
                   try clear c97
                   try clear c99
                   try clear c99b0
                   try clear c99b1
                   try clear c101
                   try clear c102
                   try clear c103
                   try clear c104
                   try clear c105
                   try clear c106
                   try clear c108
                   try clear c109
                   try clear c110
                   try clear c111
                   try clear c112
                   try clear c115
                   try clear c122
                   try clear c123
                   try clear c124
                   try clear c125
                   try clear c126
                   try clear c127
                   try clear c128
                   try clear c133
                   try clear c134
                   try clear c135
                   try clear c136
                   try clear c137
                   try clear c138
                   try clear c139
                   try clear c140
                   try clear c142
                   try clear c142b0
                   try clear c142b1
                   try clear c144
                   try clear c145
                   try clear c146
                   try clear c147
                   try clear c148
                   try clear c149
                   try clear c150
                   try clear c151
                   try clear c153
                   try clear c154
                   try clear c155
                   try clear c156
                   try clear c157
                   try clear c158
                   try clear c159
                   try clear c162
                   try clear c164
                   try clear c164b0
                   try clear c164b1
                   try clear c166
                   try clear c166b0
                   try clear c166b1
                   try clear c167
                   try clear c167b0
                   try clear c167b1
                   try clear c168
                   try clear c169
                   try clear c170
                   try clear c171
                   try clear c172
                   try clear c173
                   try clear c174
                   try clear c175
                   try clear hcz107_0
                   try clear hcz113_0
                   try clear hcz11_0
                   try clear hcz129_0
                   try clear hcz13_0
                   try clear hcz141_0
                   try clear hcz152_0
                   try clear hcz160_0
                   try clear hcz176_0
                   try clear hcz20_0
                   try clear hcz25_0
                   try clear hcz26_0
                   try clear hcz32_0
                   try clear hcz37_0
                   try clear hcz39_0
                   try clear hcz53_0
                   try clear hcz61_0
                   try clear hcz68_0
                   try clear hcz72_0
                   try clear hcz88_0
                   try clear hcz98_0
                   try clear hfz107_0
                   try clear hfz113_0
                   try clear hfz11_0
                   try clear hfz129_0
                   try clear hfz13_0
                   try clear hfz141_0
                   try clear hfz152_0
                   try clear hfz160_0
                   try clear hfz176_0
                   try clear hfz20_0
                   try clear hfz25_0
                   try clear hfz26_0
                   try clear hfz32_0
                   try clear hfz37_0
                   try clear hfz39_0
                   try clear hfz53_0
                   try clear hfz61_0
                   try clear hfz68_0
                   try clear hfz72_0
                   try clear hfz88_0
                   try clear hfz98_0
                   try clear p2
                   obtain ⟨kq, HA, HJ162, HO_437000, HO_446000, HO_451000, HO_459000, HO_464000, HO_471000, HO_476000, HO_482000, HO_487000, BK436, BK445, BK450, BK458, BK463, BK470, BK475, BK481, BK486, HB⟩ := hcut
                   cases kq with
                   | zero => exact absurd HA.out (by simp [laws_FnRanks.j5])
                   | succ kj162 =>
                    have H := HA.out
                    clear HA
                    simp only [laws_FnRanks.j5] at H
                    have HC178 := A_ H
                    clear H
                    go_upto_if 163 with (fail)
                    go_cut [] (fun wc => ∃ (kq : Nat), Aside0 (laws_FnRanks.j6 kq t437 t438 t444 t433 t441 = some r) ∧ Aside0 (kq ≤ kj162) ∧ Aside0 (Kd.R (Kd.int .i64) 2 wc w.heap.size (fun k_ => some k_ ≠ ((.slice Ao23 t441.length co23) : Value).ownBlock ∧ some k_ ≠ ((.slice Ao29 t446.length co29) : Value).ownBlock ∧ some k_ ≠ ((.slice Ao49 t454.length co49) : Value).ownBlock ∧ some k_ ≠ ((.slice Ao56 t459.length co56) : Value).ownBlock ∧ some k_ ≠ ((.slice Ao82 t466.length co82) : Value).ownBlock ∧ some k_ ≠ ((.slice Ao91 t471.length co91) : Value).ownBlock ∧ some k_ ≠ ((.slice Ao121 t477.length co121) : Value).ownBlock ∧ some k_ ≠ ((.slice Ao132 t482.length co132) : Value).ownBlock) (.slice Ao10 t433.length co10) t433) ∧ Aside0 (Kd.R (Kd.int .i64) 2 wc w.heap.size (fun k_ => some k_ ≠ ((.slice Ao10 t433.length co10) : Value).ownBlock ∧ some k_ ≠ ((.slice Ao29 t446.length co29) : Value).ownBlock ∧ some k_ ≠ ((.slice Ao49 t454.length co49) : Value).ownBlock ∧ some k_ ≠ ((.slice Ao56 t459.length co56) : Value).ownBlock ∧ some k_ ≠ ((.slice Ao82 t466.length co82) : Value).ownBlock ∧ some k_ ≠ ((.slice Ao91 t471.length co91) : Value).ownBlock ∧ some k_ ≠ ((.slice Ao121 t477.length co121) : Value).ownBlock ∧ some k_ ≠ ((.slice Ao132 t482.length co132) : Value).ownBlock) (.slice Ao23 t441.length co23) t441) ∧ Aside0 (Kd.R (Kd.int .i64) 2 wc w.heap.size (fun k_ => some k_ ≠ ((.slice Ao10 t433.length co10) : Value).ownBlock ∧ some k_ ≠ ((.slice Ao23 t441.length co23) : Value).ownBlock ∧ some k_ ≠ ((.slice Ao49 t454.length co49) : Value).ownBlock ∧ some k_ ≠ ((.slice Ao56 t459.length co56) : Value).ownBlock ∧ some k_ ≠ ((.slice Ao82 t466.length co82) : Value).ownBlock ∧ some k_ ≠ ((.slice Ao91 t471.length co91) : Value).ownBlock ∧ some k_ ≠ ((.slice Ao121 t477.length co121) : Value).ownBlock ∧ some k_ ≠ ((.slice Ao132 t482.length co132) : Value).ownBlock) (.slice Ao29 t446.length co29) t446) ∧ Aside0 (Kd.R (Kd.int .i64) 2 wc w.heap.size (fun k_ => some k_ ≠ ((.slice Ao10 t433.length co10) : Value).ownBlock ∧ some k_ ≠ ((.slice Ao23 t441.length co23) : Value).ownBlock ∧ some k_ ≠ ((.slice Ao29 t446.length co29) : Value).ownBlock ∧ some k_ ≠ ((.slice Ao56 t459.length co56) : Value).ownBlock ∧ some k_ ≠ ((.slice Ao82 t466.length co82) : Value).ownBlock ∧ some k_ ≠ ((.slice Ao91 t471.length co91) : Value).ownBlock ∧ some k_ ≠ ((.slice Ao121 t477.length co121) : Value).ownBlock ∧ some k_ ≠ ((.slice Ao132 t482.length co132) : Value).ownBlock) (.slice Ao49 t454.length co49) t454) ∧ Aside0 (Kd.R (Kd.int .i64) 2 wc w.heap.size (fun k_ => some k_ ≠ ((.slice Ao10 t433.length co10) : Value).ownBlock ∧ some k_ ≠ ((.slice Ao23 t441.length co23) : Value).ownBlock ∧ some k_ ≠ ((.slice Ao29 t446.length co29) : Value).ownBlock ∧ some k_ ≠ ((.slice Ao49 t454.length co49) : Value).ownBlock ∧ some k_ ≠ ((.slice Ao82 t466.length co82) : Value).ownBlock ∧ some k_ ≠ ((.slice Ao91 t471.length co91) : Value).ownBlock ∧ some k_ ≠ ((.slice Ao121 t477.length co121) : Value).ownBlock ∧ some k_ ≠ ((.slice Ao132 t482.length co132) : Value).ownBlock) (.slice Ao56 t459.length co56) t459) ∧ Aside0 (Kd.R (Kd.int .i64) 2 wc w.heap.size (fun k_ => some k_ ≠ ((.slice Ao10 t433.length co10) : Value).ownBlock ∧ some k_ ≠ ((.slice Ao23 t441.length co23) : Value).ownBlock ∧ some k_ ≠ ((.slice Ao29 t446.length co29) : Value).ownBlock ∧ some k_ ≠ ((.slice Ao49 t454.length co49) : Value).ownBlock ∧ some k_ ≠ ((.slice Ao56 t459.length co56) : Value).ownBlock ∧ some k_ ≠ ((.slice Ao91 t471.length co91) : Value).ownBlock ∧ some k_ ≠ ((.slice Ao121 t477.length co121) : Value).ownBlock ∧ some k_ ≠ ((.slice Ao132 t482.length co132) : Value).ownBlock) (.slice Ao82 t466.length co82) t466) ∧ Aside0 (Kd.R (Kd.int .i64) 2 wc w.heap.size (fun k_ => some k_ ≠ ((.slice Ao10 t433.length co10) : Value).ownBlock ∧ some k_ ≠ ((.slice Ao23 t441.length co23) : Value).ownBlock ∧ some k_ ≠ ((.slice Ao29 t446.length co29) : Value).ownBlock ∧ some k_ ≠ ((.slice Ao49 t454.length co49) : Value).ownBlock ∧ some k_ ≠ ((.slice Ao56 t459.length co56) : Value).ownBlock ∧ some k_ ≠ ((.slice Ao82 t466.length co82) : Value).ownBlock ∧ some k_ ≠ ((.slice Ao121 t477.length co121) : Value).ownBlock ∧ some k_ ≠ ((.slice Ao132 t482.length co132) : Value).ownBlock) (.slice Ao91 t471.length co91) t471) ∧ Aside0 (Kd.R (Kd.int .i64) 2 wc w.heap.size (fun k_ => some k_ ≠ ((.slice Ao10 t433.length co10) : Value).ownBlock ∧ some k_ ≠ ((.slice Ao23 t441.length co23) : Value).ownBlock ∧ some k_ ≠ ((.slice Ao29 t446.length co29) : Value).ownBlock ∧ some k_ ≠ ((.slice Ao49 t454.length co49) : Value).ownBlock ∧ some k_ ≠ ((.slice Ao56 t459.length co56) : Value).ownBlock ∧ some k_ ≠ ((.slice Ao82 t466.length co82) : Value).ownBlock ∧ some k_ ≠ ((.slice Ao91 t471.length co91) : Value).ownBlock ∧ some k_ ≠ ((.slice Ao132 t482.length co132) : Value).ownBlock) (.slice Ao121 t477.length co121) t477) ∧ Aside0 (Kd.R (Kd.int .i64) 2 wc w.heap.size (fun k_ => some k_ ≠ ((.slice Ao10 t433.length co10) : Value).ownBlock ∧ some k_ ≠ ((.slice Ao23 t441.length co23) : Value).ownBlock ∧ some k_ ≠ ((.slice Ao29 t446.length co29) : Value).ownBlock ∧ some k_ ≠ ((.slice Ao49 t454.length co49) : Value).ownBlock ∧ some k_ ≠ ((.slice Ao56 t459.length co56) : Value).ownBlock ∧ some k_ ≠ ((.slice Ao82 t466.length co82) : Value).ownBlock ∧ some k_ ≠ ((.slice Ao91 t471.length co91) : Value).ownBlock ∧ some k_ ≠ ((.slice Ao121 t477.length co121) : Value).ownBlock) (.slice Ao132 t482.length co132) t482) ∧ Aside0 (wc.heap[gb436]? = some (.cells #[(.slice Ao10 t433.length co10)] 26 (0, 0))) ∧ Aside0 (wc.heap[gb445]? = some (.cells #[(.slice Ao23 t441.length co23)] 26 (0, 0))) ∧ Aside0 (wc.heap[gb450]? = some (.cells #[(.slice Ao29 t446.length co29)] 26 (0, 0))) ∧ Aside0 (wc.heap[gb458]? = some (.cells #[(.slice Ao49 t454.length co49)] 26 (0, 0))) ∧ Aside0 (wc.heap[gb463]? = some (.cells #[(.slice Ao56 t459.length co56)] 26 (0, 0))) ∧ Aside0 (wc.heap[gb470]? = some (.cells #[(.slice Ao82 t466.length co82)] 26 (0, 0))) ∧ Aside0 (wc.heap[gb475]? = some (.cells #[(.slice Ao91 t471.length co91)] 26 (0, 0))) ∧ Aside0 (wc.heap[gb481]? = some (.cells #[(.slice Ao121 t477.length co121)] 26 (0, 0))) ∧ Aside0 (wc.heap[gb486]? = some (.cells #[(.slice Ao132 t482.length co132)] 26 (0, 0))) ∧ Aside0 (Below w.heap.size w wc))
                    case first =>
                     as_aux_lemma =>
                      have H := HC178.out
                      clear HC178
                      by_cases c179 : t469 = 0
                      ·rw [if_pos c179] at H
                       have c179b0 : (t469 == 0) = true := beq_iff_eq.mpr c179
                       have c179b1 : (t469 != 0) = false := bne_eq_false_iff_eq.mpr c179
                       clear c179
                       (first | rw [c179b0] | (simp only [i64_w, i32_w]; rw [c179b0]) | skip)
                       replace H := Option.bind_eq_some_iff.mp H
                       obtain ⟨⟨t490, t491⟩, A1800, H⟩ := H
                       replace H : ((impl_RankOfTree.f kj162 t477).bind fun bt492 => ((impl_CountTrees.f t465).bind fun bt494 => (if t491 = 0 then (if bt492.2 = 0 then (if bt494.2 = 0 then (if t490 = 0 then (if bt492.1 = (wrap64 (bt494.1 - 1)) then (laws_FnRanks.j6 kj162 t437 t438 t444 t433 t441) else (none)) else (none)) else (none)) else (none)) else (none)))) = some r := H
                       have A180 := A_ A1800
                       clear A1800
                       replace H := Option.bind_eq_some_iff.mp H
                       obtain ⟨⟨t492, t493⟩, A1810, H⟩ := H
                       replace H : ((impl_CountTrees.f t465).bind fun bt494 => (if t491 = 0 then (if t493 = 0 then (if bt494.2 = 0 then (if t490 = 0 then (if t492 = (wrap64 (bt494.1 - 1)) then (laws_FnRanks.j6 kj162 t437 t438 t444 t433 t441) else (none)) else (none)) else (none)) else (none)) else (none))) = some r := H
                       have A181 := A_ A1810
                       clear A1810
                       replace H := Option.bind_eq_some_iff.mp H
                       obtain ⟨⟨t494, t495⟩, A1820, H⟩ := H
                       replace H : (if t491 = 0 then (if t493 = 0 then (if t495 = 0 then (if t490 = 0 then (if t492 = (wrap64 (t494 - 1)) then (laws_FnRanks.j6 kj162 t437 t438 t444 t433 t441) else (none)) else (none)) else (none)) else (none)) else (none)) = some r := H
                       have A182 := A_ A1820
                       clear A1820
                       by_cases c183 : t491 = 0
                       rotate_left
                       ·rw [if_neg c183] at H
                        exact absurd H (by simp)
                       rw [if_pos c183] at H
                       have c183b0 : (t491 == 0) = true := beq_iff_eq.mpr c183
                       have c183b1 : (t491 != 0) = false := bne_eq_false_iff_eq.mpr c183
                       clear c183
                       by_cases c184 : t493 = 0
                       rotate_left
                       ·rw [if_neg c184] at H
                        exact absurd H (by simp)
                       rw [if_pos c184] at H
                       have c184b0 : (t493 == 0) = true := beq_iff_eq.mpr c184
                       have c184b1 : (t493 != 0) = false := bne_eq_false_iff_eq.mpr c184
                       clear c184
                       by_cases c185 : t495 = 0
                       rotate_left
                       ·rw [if_neg c185] at H
                        exact absurd H (by simp)
                       rw [if_pos c185] at H
                       have c185b0 : (t495 == 0) = true := beq_iff_eq.mpr c185
                       have c185b1 : (t495 != 0) = false := bne_eq_false_iff_eq.mpr c185
                       clear c185
                       by_cases c186 : t490 = 0
                       rotate_left
                       ·rw [if_neg c186] at H
                        exact absurd H (by simp)
                       rw [if_pos c186] at H
                       have c186b0 : (t490 == 0) = true := beq_iff_eq.mpr c186
                       have c186b1 : (t490 != 0) = false := bne_eq_false_iff_eq.mpr c186
                       clear c186
                       by_cases c187 : t492 = (wrap64 (t494 - 1))
                       rotate_left
                       ·rw [if_neg c187] at H
                        exact absurd H (by simp)
                       rw [if_pos c187] at H
                       have c187b0 : (t492 == (wrap64 (t494 - 1))) = true := beq_iff_eq.mpr c187
                       have c187b1 : (t492 != (wrap64 (t494 - 1))) = false := bne_eq_false_iff_eq.mpr c187
                       clear c187
                       have H' := A_ H
                       clear H
                       have hnb188 := NB470_436.out
                       have hnc188 := NB436_470.out
                       have hnb189 := NB470_445.out
                       have hnc189 := NB445_470.out
                       have hnb190 := NB470_450.out
                       have hnc190 := NB450_470.out
                       have hnb191 := NB470_458.out
                       have hnc191 := NB458_470.out
                       have hnb192 := NB470_463.out
                       have hnc192 := NB463_470.out
                       have hnb193 := NB470_475.out
                       have hnc193 := NB475_470.out
                       have hnb194 := NB470_481.out
                       have hnc194 := NB481_470.out
                       have hnb195 := NB470_486.out
                       have hnc195 := NB486_470.out
                       have hcz196_0 : wc.cell? ⟨gb470, 0, none⟩ = some (.slice Ao82 t466.length co82) := (blk_cell BK470.out 0).trans rfl
                       have hfz196_0 := blk_frozen BK470.out 0
                       go_wp2_with (first | ((with_reducible refine gate_callee (f := 85) rfl ?_); refine goesL_ (some 166) rfl rfl Try.func85 (by kernel_rfl) rfl #[.agg #[.slice Ao82 t466.length co82]] rfl eg ?_; (with_reducible refine (impl_RankOfTree.calls kj162 _ _ t466 t490 t491 _ ?side1 ?side2 A180.out).mono ?_); (case side1 => repeat (first | exact (Kd.R_reads' HO_471000.out).2.2 | (with_reducible refine Kd.C_alloc ?_ _) | (with_reducible refine Kd.C_drewN ?_ _) | (with_reducible refine Kd.C_drew ?_))); (case side2 => exact (Kd.R_reads' HO_471000.out).2.1); rintro e w197 ⟨rfl, hb⟩; refine ⟨_, rfl, ?_⟩; have n0_ := A_ (Kd.R_below (ea HO_437000) hb); have n1_ := A_ (Kd.R_below (ea HO_446000) hb); have n2_ := A_ (Kd.R_below (ea HO_451000) hb); have n3_ := A_ (Kd.R_below (ea HO_459000) hb); have n4_ := A_ (Kd.R_below (ea HO_464000) hb); have n5_ := A_ (Kd.R_below (ea HO_471000) hb); have n6_ := A_ (Kd.R_below (ea HO_476000) hb); have n7_ := A_ (Kd.R_below (ea HO_482000) hb); have n8_ := A_ (Kd.R_below (ea HO_487000) hb); have n9_ := A_ (eB BK436 hb); have n10_ := A_ (eB BK445 hb); have n11_ := A_ (eB BK450 hb); have n12_ := A_ (eB BK458 hb); have n13_ := A_ (eB BK463 hb); have n14_ := A_ (eB BK470 hb); have n15_ := A_ (eB BK475 hb); have n16_ := A_ (eB BK481 hb); have n17_ := A_ (eB BK486 hb); have n18_ := A_ (below_step (el HB) hb); clear HO_437000; clear HO_446000; clear HO_451000; clear HO_459000; clear HO_464000; clear HO_471000; clear HO_476000; clear HO_482000; clear HO_487000; clear BK436; clear BK445; clear BK450; clear BK458; clear BK463; clear BK470; clear BK475; clear BK481; clear BK486; clear HB; have HO_437000 := n0_; have HO_446000 := n1_; have HO_451000 := n2_; have HO_459000 := n3_; have HO_464000 := n4_; have HO_471000 := n5_; have HO_476000 := n6_; have HO_482000 := n7_; have HO_487000 := n8_; have BK436 := n9_; have BK445 := n10_; have BK450 := n11_; have BK458 := n12_; have BK463 := n13_; have BK470 := n14_; have BK475 := n15_; have BK481 := n16_; have BK486 := n17_; have HB := n18_; clear n0_ n1_ n2_ n3_ n4_ n5_ n6_ n7_ n8_ n9_ n10_ n11_ n12_ n13_ n14_ n15_ n16_ n17_ n18_; (try clear hb); (try clear hb2); (try clear hk); (try clear hi); have hnb198 := NB481_436.out; have hnc198 := NB436_481.out; have hnb199 := NB481_445.out; have hnc199 := NB445_481.out; have hnb200 := NB481_450.out; have hnc200 := NB450_481.out; have hnb201 := NB481_458.out; have hnc201 := NB458_481.out; have hnb202 := NB481_463.out; have hnc202 := NB463_481.out; have hnb203 := NB481_475.out; have hnc203 := NB475_481.out; have hnb204 := NB481_486.out; have hnc204 := NB486_481.out; have hcz205_0 : w197.cell? ⟨gb481, 0, none⟩ = some (.slice Ao121 t477.length co121) := (blk_cell BK481.out 0).trans rfl; have hfz205_0 := blk_frozen BK481.out 0) | ((with_reducible refine gate_callee (f := 85) rfl ?_); refine goesL_ (some 171) rfl rfl Try.func85 (by kernel_rfl) rfl #[.agg #[.slice Ao121 t477.length co121]] rfl eg ?_; (with_reducible refine (impl_RankOfTree.calls kj162 _ _ t477 t492 t493 _ ?side1 ?side2 A181.out).mono ?_); (case side1 => repeat (first | exact (Kd.R_reads' HO_482000.out).2.2 | (with_reducible refine Kd.C_alloc ?_ _) | (with_reducible refine Kd.C_drewN ?_ _) | (with_reducible refine Kd.C_drew ?_))); (case side2 => exact (Kd.R_reads' HO_482000.out).2.1); rintro e w206 ⟨rfl, hb⟩; refine ⟨_, rfl, ?_⟩; have n0_ := A_ (Kd.R_below (ea HO_437000) hb); have n1_ := A_ (Kd.R_below (ea HO_446000) hb); have n2_ := A_ (Kd.R_below (ea HO_451000) hb); have n3_ := A_ (Kd.R_below (ea HO_459000) hb); have n4_ := A_ (Kd.R_below (ea HO_464000) hb); have n5_ := A_ (Kd.R_below (ea HO_471000) hb); have n6_ := A_ (Kd.R_below (ea HO_476000) hb); have n7_ := A_ (Kd.R_below (ea HO_482000) hb); have n8_ := A_ (Kd.R_below (ea HO_487000) hb); have n9_ := A_ (eB BK436 hb); have n10_ := A_ (eB BK445 hb); have n11_ := A_ (eB BK450 hb); have n12_ := A_ (eB BK458 hb); have n13_ := A_ (eB BK463 hb); have n14_ := A_ (eB BK470 hb); have n15_ := A_ (eB BK475 hb); have n16_ := A_ (eB BK481 hb); have n17_ := A_ (eB BK486 hb); have n18_ := A_ (below_step (el HB) hb); clear HO_437000; clear HO_446000; clear HO_451000; clear HO_459000; clear HO_464000; clear HO_471000; clear HO_476000; clear HO_482000; clear HO_487000; clear BK436; clear BK445; clear BK450; clear BK458; clear BK463; clear BK470; clear BK475; clear BK481; clear BK486; clear HB; have HO_437000 := n0_; have HO_446000 := n1_; have HO_451000 := n2_; have HO_459000 := n3_; have HO_464000 := n4_; have HO_471000 := n5_; have HO_476000 := n6_; have HO_482000 := n7_; have HO_487000 := n8_; have BK436 := n9_; have BK445 := n10_; have BK450 := n11_; have BK458 := n12_; have BK463 := n13_; have BK470 := n14_; have BK475 := n15_; have BK481 := n16_; have BK486 := n17_; have HB := n18_; clear n0_ n1_ n2_ n3_ n4_ n5_ n6_ n7_ n8_ n9_ n10_ n11_ n12_ n13_ n14_ n15_ n16_ n17_ n18_; (try clear hb); (try clear hb2); (try clear hk); (try clear hi)) | ((with_reducible refine gate_callee (f := 83) rfl ?_); refine goesL_ (some 176) rfl rfl Try.func83 (by kernel_rfl) rfl #[.int .i64 t465] rfl eg ?_; (with_reducible refine (impl_CountTrees.calls t465 t494 t495 _ A182.out).mono ?_); rintro e w207 ⟨rfl, hb⟩; refine ⟨_, rfl, ?_⟩; have n0_ := A_ (Kd.R_below (ea HO_437000) hb); have n1_ := A_ (Kd.R_below (ea HO_446000) hb); have n2_ := A_ (Kd.R_below (ea HO_451000) hb); have n3_ := A_ (Kd.R_below (ea HO_459000) hb); have n4_ := A_ (Kd.R_below (ea HO_464000) hb); have n5_ := A_ (Kd.R_below (ea HO_471000) hb); have n6_ := A_ (Kd.R_below (ea HO_476000) hb); have n7_ := A_ (Kd.R_below (ea HO_482000) hb); have n8_ := A_ (Kd.R_below (ea HO_487000) hb); have n9_ := A_ (eB BK436 hb); have n10_ := A_ (eB BK445 hb); have n11_ := A_ (eB BK450 hb); have n12_ := A_ (eB BK458 hb); have n13_ := A_ (eB BK463 hb); have n14_ := A_ (eB BK470 hb); have n15_ := A_ (eB BK475 hb); have n16_ := A_ (eB BK481 hb); have n17_ := A_ (eB BK486 hb); have n18_ := A_ (below_step (el HB) hb); clear HO_437000; clear HO_446000; clear HO_451000; clear HO_459000; clear HO_464000; clear HO_471000; clear HO_476000; clear HO_482000; clear HO_487000; clear BK436; clear BK445; clear BK450; clear BK458; clear BK463; clear BK470; clear BK475; clear BK481; clear BK486; clear HB; have HO_437000 := n0_; have HO_446000 := n1_; have HO_451000 := n2_; have HO_459000 := n3_; have HO_464000 := n4_; have HO_471000 := n5_; have HO_476000 := n6_; have HO_482000 := n7_; have HO_487000 := n8_; have BK436 := n9_; have BK445 := n10_; have BK450 := n11_; have BK458 := n12_; have BK463 := n13_; have BK470 := n14_; have BK475 := n15_; have BK481 := n16_; have BK486 := n17_; have HB := n18_; clear n0_ n1_ n2_ n3_ n4_ n5_ n6_ n7_ n8_ n9_ n10_ n11_ n12_ n13_ n14_ n15_ n16_ n17_ n18_; (try clear hb); (try clear hb2); (try clear hk); (try clear hi)))
                       go_meet
                       case rel => exact ⟨_, H', ⟨by have := HJ6.out; have := HJ18.out; have := HJ44.out; have := HJ77.out; have := HJ117.out; have := HJ162.out; first | omega | exact Nat.le_refl _⟩, ⟨es HO_437000⟩, ⟨es HO_446000⟩, ⟨es HO_451000⟩, ⟨es HO_459000⟩, ⟨es HO_464000⟩, ⟨es HO_471000⟩, ⟨es HO_476000⟩, ⟨es HO_482000⟩, ⟨es HO_487000⟩, ⟨eb BK436⟩, ⟨eb BK445⟩, ⟨eb BK450⟩, ⟨eb BK458⟩, ⟨eb BK463⟩, ⟨eb BK470⟩, ⟨eb BK475⟩, ⟨eb BK481⟩, ⟨eb BK486⟩, ⟨el HB⟩⟩
                      ·rw [if_neg c179] at H
                       have c179b0 : (t469 == 0) = false := beq_eq_false_iff_ne.mpr c179
                       have c179b1 : (t469 != 0) = true := bne_iff_ne.mpr c179
                       (first | rw [c179b0] | (simp only [i64_w, i32_w]; rw [c179b0]) | skip)
                       have H' := A_ H
                       clear H
                       go_wp2
                       go_meet
                       case rel => exact ⟨_, H', ⟨by have := HJ6.out; have := HJ18.out; have := HJ44.out; have := HJ77.out; have := HJ117.out; have := HJ162.out; first | omega | exact Nat.le_refl _⟩, ⟨es HO_437000⟩, ⟨es HO_446000⟩, ⟨es HO_451000⟩, ⟨es HO_459000⟩, ⟨es HO_464000⟩, ⟨es HO_471000⟩, ⟨es HO_476000⟩, ⟨es HO_482000⟩, ⟨es HO_487000⟩, ⟨eb BK436⟩, ⟨eb BK445⟩, ⟨eb BK450⟩, ⟨eb BK458⟩, ⟨eb BK463⟩, ⟨eb BK470⟩, ⟨eb BK475⟩, ⟨eb BK481⟩, ⟨eb BK486⟩, ⟨el HB⟩⟩
                    case rest =>
                     as_aux_lemma =>
                      clear HC178
                      try clear c1
                      try clear c2
                      try clear p2
                      try clear c3
                      try clear c4
                      try clear c5
                      try clear c6
                      try clear p6
                      try clear c7
                      try clear c8
                      try clear c9
                      try clear c10
                      try clear c11
                      try clear c12
                      try clear c13
                      try clear c14
                      try clear c15
                      try clear c15b0
                      try clear c15b1
                      try clear c16
                      try clear c17
                      try clear c18
                      try clear c19
                      try clear c20
                      try clear c24
                      try clear c30
                      try clear c31
                      try clear c33
                      try clear c33b0
                      try clear c33b1
                      try clear c35
                      try clear c36
                      try clear c38
                      try clear c41
                      try clear c50
                      try clear c51
                      try clear c52
                      try clear c57
                      try clear c58
                      try clear c59
                      try clear c60
                      try clear c62
                      try clear c62b0
                      try clear c62b1
                      try clear c64
                      try clear p64
                      try clear c65
                      try clear c66
                      try clear c67
                      try clear c69
                      try clear c70
                      try clear c71
                      try clear c74
                      try clear c83
                      try clear c84
                      try clear c85
                      try clear c86
                      try clear c87
                      try clear c88
                      try clear c90
                      try clear c91
                      try clear c92
                      try clear c93
                      try clear c94
                      try clear c95
                      try clear c96
                      try clear c97
                      try clear c99
                      try clear c99b0
                      try clear c99b1
                      try clear c101
                      try clear c102
                      try clear c103
                      try clear c104
                      try clear c105
                      try clear c106
                      try clear c108
                      try clear c109
                      try clear c110
                      try clear c111
                      try clear c112
                      try clear c115
                      try clear c122
                      try clear c123
                      try clear c124
                      try clear c125
                      try clear c126
                      try clear c127
                      try clear c128
                      try clear c133
                      try clear c134
                      try clear c135
                      try clear c136
                      try clear c137
                      try clear c138
                      try clear c139
                      try clear c140
                      try clear c142
                      try clear c142b0
                      try clear c142b1
                      try clear c144
                      try clear c145
                      try clear c146
                      try clear c147
                      try clear c148
                      try clear c149
                      try clear c150
                      try clear c151
                      try clear c153
                      try clear c154
                      try clear c155
                      try clear c156
                      try clear c157
                      try clear c158
                      try clear c159
                      try clear c162
                      try clear c164
                      try clear c164b0
                      try clear c164b1
                      try clear c166
                      try clear c166b0
                      try clear c166b1
                      try clear c167
                      try clear c167b0
                      try clear c167b1
                      try clear c168
                      try clear c169
                      try clear c170
                      try clear c171
                      try clear c172
                      try clear c173
                      try clear c174
                      try clear c175
                      try clear c179
                      try clear c179b0
                      try clear c179b1
                      try clear c183
                      try clear c183b0
                      try clear c183b1
                      try clear c184
                      try clear c184b0
                      try clear c184b1
                      try clear c185
                      try clear c185b0
                      try clear c185b1
                      try clear c186
                      try clear c186b0
                      try clear c186b1
                      try clear c187
                      try clear c187b0
                      try clear c187b1
                      try clear c188
                      try clear c189
                      try clear c190
                      try clear c191
                      try clear c192
                      try clear c193
                      try clear c194
                      try clear c195
                      try clear c198
                      try clear c199
                      try clear c200
                      try clear c201
                      try clear c202
                      try clear c203
                      try clear c204
                      try clear hcz107_0
                      try clear hcz113_0
                      try clear hcz11_0
                      try clear hcz129_0
                      try clear hcz13_0
                      try clear hcz141_0
                      try clear hcz152_0
                      try clear hcz160_0
                      try clear hcz176_0
                      try clear hcz196_0
                      try clear hcz205_0
                      try clear hcz20_0
                      try clear hcz25_0
                      try clear hcz26_0
                      try clear hcz32_0
                      try clear hcz37_0
                      try clear hcz39_0
                      try clear hcz53_0
                      try clear hcz61_0
                      try clear hcz68_0
                      try clear hcz72_0
                      try clear hcz88_0
                      try clear hcz98_0
                      try clear hfz107_0
                      try clear hfz113_0
                      try clear hfz11_0
                      try clear hfz129_0
                      try clear hfz13_0
                      try clear hfz141_0
                      try clear hfz152_0
                      try clear hfz160_0
                      try clear hfz176_0
                      try clear hfz196_0
                      try clear hfz205_0
                      try clear hfz20_0
                      try clear hfz25_0
                      try clear hfz26_0
                      try clear hfz32_0
                      try clear hfz37_0
                      try clear hfz39_0
                      try clear hfz53_0
                      try clear hfz61_0
                      try clear hfz68_0
                      try clear hfz72_0
                      try clear hfz88_0
                      try clear hfz98_0
                      try clear p2
                      obtain ⟨kq, HA, HJ177, HO_437000, HO_446000, HO_451000, HO_459000, HO_464000, HO_471000, HO_476000, HO_482000, HO_487000, BK436, BK445, BK450, BK458, BK463, BK470, BK475, BK481, BK486, HB⟩ := hcut
                      cases kq with
                      | zero => exact absurd HA.out (by simp [laws_FnRanks.j6])
                      | succ kj177 =>
                       have H := HA.out
                       clear HA
                       simp only [laws_FnRanks.j6] at H
                       by_cases c208 : t438 = 0
                       ·rw [if_pos c208] at H
                        have c208b0 : (t438 == 0) = true := beq_iff_eq.mpr c208
                        have c208b1 : (t438 != 0) = false := bne_eq_false_iff_eq.mpr c208
                        clear c208
                        by_cases c209 : t444 = 0
                        ·rw [if_pos c209] at H
                         have c209b0 : (t444 == 0) = true := beq_iff_eq.mpr c209
                         have c209b1 : (t444 != 0) = false := bne_eq_false_iff_eq.mpr c209
                         clear c209
                         replace H := Option.bind_eq_some_iff.mp H
                         obtain ⟨⟨t496, t497⟩, A2100, H⟩ := H
                         replace H : ((impl_CompareTrees.f kj177 t433 t441).bind fun bt498 => (if t497 = 0 then (if t496 = (wrap64 (t437 + 1)) then (if bt498.2 = 0 then (some (bt498.1 == (-1))) else (none)) else (none)) else (none))) = some r := H
                         have A210 := A_ A2100
                         clear A2100
                         replace H := Option.bind_eq_some_iff.mp H
                         obtain ⟨⟨t498, t499⟩, A2110, H⟩ := H
                         replace H : (if t497 = 0 then (if t496 = (wrap64 (t437 + 1)) then (if t499 = 0 then (some (t498 == (-1))) else (none)) else (none)) else (none)) = some r := H
                         have A211 := A_ A2110
                         clear A2110
                         by_cases c212 : t497 = 0
                         rotate_left
                         ·rw [if_neg c212] at H
                          exact absurd H (by simp)
                         rw [if_pos c212] at H
                         have c212b0 : (t497 == 0) = true := beq_iff_eq.mpr c212
                         have c212b1 : (t497 != 0) = false := bne_eq_false_iff_eq.mpr c212
                         clear c212
                         by_cases c213 : t496 = (wrap64 (t437 + 1))
                         rotate_left
                         ·rw [if_neg c213] at H
                          exact absurd H (by simp)
                         rw [if_pos c213] at H
                         have c213b0 : (t496 == (wrap64 (t437 + 1))) = true := beq_iff_eq.mpr c213
                         have c213b1 : (t496 != (wrap64 (t437 + 1))) = false := bne_eq_false_iff_eq.mpr c213
                         clear c213
                         by_cases c214 : t499 = 0
                         rotate_left
                         ·rw [if_neg c214] at H
                          exact absurd H (by simp)
                         rw [if_pos c214] at H
                         have c214b0 : (t499 == 0) = true := beq_iff_eq.mpr c214
                         have c214b1 : (t499 != 0) = false := bne_eq_false_iff_eq.mpr c214
                         clear c214
                         obtain rfl := Option.some.inj H
                         have hnb215 := NB445_436.out
                         have hnc215 := NB436_445.out
                         have hnb216 := NB445_450.out
                         have hnc216 := NB450_445.out
                         have hnb217 := NB445_458.out
                         have hnc217 := NB458_445.out
                         have hnb218 := NB445_463.out
                         have hnc218 := NB463_445.out
                         have hnb219 := NB445_470.out
                         have hnc219 := NB470_445.out
                         have hnb220 := NB445_475.out
                         have hnc220 := NB475_445.out
                         have hnb221 := NB445_481.out
                         have hnc221 := NB481_445.out
                         have hnb222 := NB445_486.out
                         have hnc222 := NB486_445.out
                         have hcz223_0 : wc.cell? ⟨gb445, 0, none⟩ = some (.slice Ao23 t441.length co23) := (blk_cell BK445.out 0).trans rfl
                         have hfz223_0 := blk_frozen BK445.out 0
                         go_wp2_with (first | ((with_reducible refine gate_callee (f := 85) rfl ?_); refine goesL_ (some 230) rfl rfl Try.func85 (by kernel_rfl) rfl #[.agg #[.slice Ao23 t441.length co23]] rfl eg ?_; (with_reducible refine (impl_RankOfTree.calls kj177 _ _ t441 t496 t497 _ ?side1 ?side2 A210.out).mono ?_); (case side1 => repeat (first | exact (Kd.R_reads' HO_446000.out).2.2 | (with_reducible refine Kd.C_alloc ?_ _) | (with_reducible refine Kd.C_drewN ?_ _) | (with_reducible refine Kd.C_drew ?_))); (case side2 => exact (Kd.R_reads' HO_446000.out).2.1); rintro e w224 ⟨rfl, hb⟩; refine ⟨_, rfl, ?_⟩; have n0_ := A_ (Kd.R_below (ea HO_437000) hb); have n1_ := A_ (Kd.R_below (ea HO_446000) hb); have n2_ := A_ (Kd.R_below (ea HO_451000) hb); have n3_ := A_ (Kd.R_below (ea HO_459000) hb); have n4_ := A_ (Kd.R_below (ea HO_464000) hb); have n5_ := A_ (Kd.R_below (ea HO_471000) hb); have n6_ := A_ (Kd.R_below (ea HO_476000) hb); have n7_ := A_ (Kd.R_below (ea HO_482000) hb); have n8_ := A_ (Kd.R_below (ea HO_487000) hb); have n9_ := A_ (eB BK436 hb); have n10_ := A_ (eB BK445 hb); have n11_ := A_ (eB BK450 hb); have n12_ := A_ (eB BK458 hb); have n13_ := A_ (eB BK463 hb); have n14_ := A_ (eB BK470 hb); have n15_ := A_ (eB BK475 hb); have n16_ := A_ (eB BK481 hb); have n17_ := A_ (eB BK486 hb); have n18_ := A_ (below_step (el HB) hb); clear HO_437000; clear HO_446000; clear HO_451000; clear HO_459000; clear HO_464000; clear HO_471000; clear HO_476000; clear HO_482000; clear HO_487000; clear BK436; clear BK445; clear BK450; clear BK458; clear BK463; clear BK470; clear BK475; clear BK481; clear BK486; clear HB; have HO_437000 := n0_; have HO_446000 := n1_; have HO_451000 := n2_; have HO_459000 := n3_; have HO_464000 := n4_; have HO_471000 := n5_; have HO_476000 := n6_; have HO_482000 := n7_; have HO_487000 := n8_; have BK436 := n9_; have BK445 := n10_; have BK450 := n11_; have BK458 := n12_; have BK463 := n13_; have BK470 := n14_; have BK475 := n15_; have BK481 := n16_; have BK486 := n17_; have HB := n18_; clear n0_ n1_ n2_ n3_ n4_ n5_ n6_ n7_ n8_ n9_ n10_ n11_ n12_ n13_ n14_ n15_ n16_ n17_ n18_; (try clear hb); (try clear hb2); (try clear hk); (try clear hi); have hnb225 := NB436_450.out; have hnc225 := NB450_436.out; have hnb226 := NB436_458.out; have hnc226 := NB458_436.out; have hnb227 := NB436_463.out; have hnc227 := NB463_436.out; have hnb228 := NB436_470.out; have hnc228 := NB470_436.out; have hnb229 := NB436_475.out; have hnc229 := NB475_436.out; have hnb230 := NB436_481.out; have hnc230 := NB481_436.out; have hnb231 := NB436_486.out; have hnc231 := NB486_436.out; have hcz232_0 : w224.cell? ⟨gb436, 0, none⟩ = some (.slice Ao10 t433.length co10) := (blk_cell BK436.out 0).trans rfl; have hfz232_0 := blk_frozen BK436.out 0; have hcz233_0 : w224.cell? ⟨gb445, 0, none⟩ = some (.slice Ao23 t441.length co23) := (blk_cell BK445.out 0).trans rfl; have hfz233_0 := blk_frozen BK445.out 0) | ((with_reducible refine gate_callee (f := 46) rfl ?_); refine goesL_ (some 236) rfl rfl Try.func46 (by kernel_rfl) rfl #[.agg #[.slice Ao10 t433.length co10], .agg #[.slice Ao23 t441.length co23]] rfl eg ?_; (with_reducible refine (impl_CompareTrees.calls kj177 (fun k_ => some k_ = (.slice Ao10 t433.length co10 : Value).ownBlock) _ _ t433 (fun k_ => some k_ = (.slice Ao23 t441.length co23 : Value).ownBlock) _ _ t441 t498 t499 _ ?side1 ?side2 A211.out).mono ?_); (case side1 => exact Kd.R_V (Kd.R_tight rfl (Kd.R_types (Kd.R_types (Kd.R_types (Kd.R_types (Kd.R_types (Kd.R_types (Kd.R_types (Kd.R_types (Kd.R_types (HO_437000.out) BK436.out (by decide)) BK445.out (by decide)) BK450.out (by decide)) BK458.out (by decide)) BK463.out (by decide)) BK470.out (by decide)) BK475.out (by decide)) BK481.out (by decide)) BK486.out (by decide)))); (case side2 => exact Kd.R_V (Kd.R_tight rfl (Kd.R_types (Kd.R_types (Kd.R_types (Kd.R_types (Kd.R_types (Kd.R_types (Kd.R_types (Kd.R_types (Kd.R_types (HO_446000.out) BK436.out (by decide)) BK445.out (by decide)) BK450.out (by decide)) BK458.out (by decide)) BK463.out (by decide)) BK470.out (by decide)) BK475.out (by decide)) BK481.out (by decide)) BK486.out (by decide)))); rintro e w234 ⟨rfl, hb⟩; refine ⟨_, rfl, ?_⟩; have n0_ := A_ (Kd.R_below (ea HO_437000) hb); have n1_ := A_ (Kd.R_below (ea HO_446000) hb); have n2_ := A_ (Kd.R_below (ea HO_451000) hb); have n3_ := A_ (Kd.R_below (ea HO_459000) hb); have n4_ := A_ (Kd.R_below (ea HO_464000) hb); have n5_ := A_ (Kd.R_below (ea HO_471000) hb); have n6_ := A_ (Kd.R_below (ea HO_476000) hb); have n7_ := A_ (Kd.R_below (ea HO_482000) hb); have n8_ := A_ (Kd.R_below (ea HO_487000) hb); have n9_ := A_ (eB BK436 hb); have n10_ := A_ (eB BK445 hb); have n11_ := A_ (eB BK450 hb); have n12_ := A_ (eB BK458 hb); have n13_ := A_ (eB BK463 hb); have n14_ := A_ (eB BK470 hb); have n15_ := A_ (eB BK475 hb); have n16_ := A_ (eB BK481 hb); have n17_ := A_ (eB BK486 hb); have n18_ := A_ (below_step (el HB) hb); clear HO_437000; clear HO_446000; clear HO_451000; clear HO_459000; clear HO_464000; clear HO_471000; clear HO_476000; clear HO_482000; clear HO_487000; clear BK436; clear BK445; clear BK450; clear BK458; clear BK463; clear BK470; clear BK475; clear BK481; clear BK486; clear HB; have HO_437000 := n0_; have HO_446000 := n1_; have HO_451000 := n2_; have HO_459000 := n3_; have HO_464000 := n4_; have HO_471000 := n5_; have HO_476000 := n6_; have HO_482000 := n7_; have HO_487000 := n8_; have BK436 := n9_; have BK445 := n10_; have BK450 := n11_; have BK458 := n12_; have BK463 := n13_; have BK470 := n14_; have BK475 := n15_; have BK481 := n16_; have BK486 := n17_; have HB := n18_; clear n0_ n1_ n2_ n3_ n4_ n5_ n6_ n7_ n8_ n9_ n10_ n11_ n12_ n13_ n14_ n15_ n16_ n17_ n18_; (try clear hb); (try clear hb2); (try clear hk); (try clear hi)))
                         go_ret
                         exact ⟨er, el HB⟩
                        ·rw [if_neg c209] at H
                         have c209b0 : (t444 == 0) = false := beq_eq_false_iff_ne.mpr c209
                         have c209b1 : (t444 != 0) = true := bne_iff_ne.mpr c209
                         replace H := Option.bind_eq_some_iff.mp H
                         obtain ⟨⟨t500, t503⟩, A2350, H⟩ := H
                         replace H : (if t444 = 4 then (if t503 = 0 then ((laws_tree9.f kj177 t500 t433).bind fun t505 => (some t505)) else (none)) else (none)) = some r := H
                         have A235 := A_ A2350
                         clear A2350
                         by_cases c236 : t444 = 4
                         rotate_left
                         ·rw [if_neg c236] at H
                          exact absurd H (by simp)
                         rw [if_pos c236] at H
                         have c236b0 : (t444 == 4) = true := beq_iff_eq.mpr c236
                         have c236b1 : (t444 != 4) = false := bne_eq_false_iff_eq.mpr c236
                         clear c236
                         by_cases c237 : t503 = 0
                         rotate_left
                         ·rw [if_neg c237] at H
                          exact absurd H (by simp)
                         rw [if_pos c237] at H
                         have c237b0 : (t503 == 0) = true := beq_iff_eq.mpr c237
                         have c237b1 : (t503 != 0) = false := bne_eq_false_iff_eq.mpr c237
                         clear c237
                         replace H := Option.bind_eq_some_iff.mp H
                         obtain ⟨t505, A2380, H⟩ := H
                         replace H : (some t505) = some r := H
                         have A238 := A_ A2380
                         clear A2380
                         obtain rfl := Option.some.inj H
                         have hnb239 := NB436_445.out
                         have hnc239 := NB445_436.out
                         have hnb240 := NB436_450.out
                         have hnc240 := NB450_436.out
                         have hnb241 := NB436_458.out
                         have hnc241 := NB458_436.out
                         have hnb242 := NB436_463.out
                         have hnc242 := NB463_436.out
                         have hnb243 := NB436_470.out
                         have hnc243 := NB470_436.out
                         have hnb244 := NB436_475.out
                         have hnc244 := NB475_436.out
                         have hnb245 := NB436_481.out
                         have hnc245 := NB481_436.out
                         have hnb246 := NB436_486.out
                         have hnc246 := NB486_436.out
                         have hcz247_0 : wc.cell? ⟨gb436, 0, none⟩ = some (.slice Ao10 t433.length co10) := (blk_cell BK436.out 0).trans rfl
                         have hfz247_0 := blk_frozen BK436.out 0
                         go_wp2_with (first | ((with_reducible refine gate_callee (f := 96) rfl ?_); refine goesL_ (some 214) rfl rfl Try.func96 (by kernel_rfl) rfl #[.int .i64 (t433.length : Int)] rfl eg ?_; (with_reducible refine (impl_LastTree.calls (t433.length : Int) t500 t503 _ A235.out).mono ?_); rintro e w248 ⟨v501, rfl, ho0, hb⟩; refine ⟨_, rfl, ?_⟩; have n0_ := A_ (Kd.R_elder' (ea HO_437000) (Kd.R_base ho0) hb); have n1_ := A_ (Kd.R_elder' (ea HO_446000) (Kd.R_base ho0) hb); have n2_ := A_ (Kd.R_elder' (ea HO_451000) (Kd.R_base ho0) hb); have n3_ := A_ (Kd.R_elder' (ea HO_459000) (Kd.R_base ho0) hb); have n4_ := A_ (Kd.R_elder' (ea HO_464000) (Kd.R_base ho0) hb); have n5_ := A_ (Kd.R_elder' (ea HO_471000) (Kd.R_base ho0) hb); have n6_ := A_ (Kd.R_elder' (ea HO_476000) (Kd.R_base ho0) hb); have n7_ := A_ (Kd.R_elder' (ea HO_482000) (Kd.R_base ho0) hb); have n8_ := A_ (Kd.R_elder' (ea HO_487000) (Kd.R_base ho0) hb); have n9_ := A_ (Kd.R_lower (Kd.R_new' (Kd.R_new' (Kd.R_new' (Kd.R_new' (Kd.R_new' (Kd.R_new' (Kd.R_new' (Kd.R_new' (Kd.R_new' ho0 (Kd.R_lt (ea HO_437000))) (Kd.R_lt (ea HO_446000))) (Kd.R_lt (ea HO_451000))) (Kd.R_lt (ea HO_459000))) (Kd.R_lt (ea HO_464000))) (Kd.R_lt (ea HO_471000))) (Kd.R_lt (ea HO_476000))) (Kd.R_lt (ea HO_482000))) (Kd.R_lt (ea HO_487000))) (below_size (el HB))); have n10_ := A_ (eB BK436 hb); have n11_ := A_ (eB BK445 hb); have n12_ := A_ (eB BK450 hb); have n13_ := A_ (eB BK458 hb); have n14_ := A_ (eB BK463 hb); have n15_ := A_ (eB BK470 hb); have n16_ := A_ (eB BK475 hb); have n17_ := A_ (eB BK481 hb); have n18_ := A_ (eB BK486 hb); have n19_ := A_ (below_step (el HB) hb); clear HO_437000; clear HO_446000; clear HO_451000; clear HO_459000; clear HO_464000; clear HO_471000; clear HO_476000; clear HO_482000; clear HO_487000; clear BK436; clear BK445; clear BK450; clear BK458; clear BK463; clear BK470; clear BK475; clear BK481; clear BK486; clear HB; have HO_437000 := n0_; have HO_446000 := n1_; have HO_451000 := n2_; have HO_459000 := n3_; have HO_464000 := n4_; have HO_471000 := n5_; have HO_476000 := n6_; have HO_482000 := n7_; have HO_487000 := n8_; have HO502 := n9_; have BK436 := n10_; have BK445 := n11_; have BK450 := n12_; have BK458 := n13_; have BK463 := n14_; have BK470 := n15_; have BK475 := n16_; have BK481 := n17_; have BK486 := n18_; have HB := n19_; clear n0_ n1_ n2_ n3_ n4_ n5_ n6_ n7_ n8_ n9_ n10_ n11_ n12_ n13_ n14_ n15_ n16_ n17_ n18_ n19_; (try clear hb); (try clear hb2); (try clear hk); (try clear hi); (try clear ho0)) | ((with_reducible refine gate_dst (N := 35) rfl ?_); refine box_event ?hg (N := 35) ?hd (cs := #[.slice none 0 0]) (t := 26) ?hr ?_; (case hd => rfl); (case hg => rfl); (case hr => first | (go_simp; done) | (go_simp; rfl)); intro gb504 hg w249 hbox hb; have n0_ := A_ (Kd.R_below (ea HO_437000) hb); have n1_ := A_ (Kd.R_below (ea HO_446000) hb); have n2_ := A_ (Kd.R_below (ea HO_451000) hb); have n3_ := A_ (Kd.R_below (ea HO_459000) hb); have n4_ := A_ (Kd.R_below (ea HO_464000) hb); have n5_ := A_ (Kd.R_below (ea HO_471000) hb); have n6_ := A_ (Kd.R_below (ea HO_476000) hb); have n7_ := A_ (Kd.R_below (ea HO_482000) hb); have n8_ := A_ (Kd.R_below (ea HO_487000) hb); have n9_ := A_ (Kd.R_below (ea HO502) hb); have n10_ := A_ (eB BK436 hb); have n11_ := A_ (eB BK445 hb); have n12_ := A_ (eB BK450 hb); have n13_ := A_ (eB BK458 hb); have n14_ := A_ (eB BK463 hb); have n15_ := A_ (eB BK470 hb); have n16_ := A_ (eB BK475 hb); have n17_ := A_ (eB BK481 hb); have n18_ := A_ (eB BK486 hb); have n19_ := A_ (below_step (el HB) hb); have n20_ := A_ (hbox); have n21_ := A_ ((by rw [hg]; exact (below_size (el HB)) : w.heap.size ≤ gb504)); have n22_ := A_ ((by rw [hg]; exact (below_size (el HB)) : w.heap.size ≤ gb504)); have n23_ := A_ ((by rw [hg]; exact Nat.ne_of_lt (eL BK436) : gb436 ≠ gb504)); have n24_ := A_ ((by rw [hg]; exact Nat.ne_of_gt (eL BK436) : gb504 ≠ gb436)); have n25_ := A_ ((by rw [hg]; exact Nat.ne_of_lt (eL BK445) : gb445 ≠ gb504)); have n26_ := A_ ((by rw [hg]; exact Nat.ne_of_gt (eL BK445) : gb504 ≠ gb445)); have n27_ := A_ ((by rw [hg]; exact Nat.ne_of_lt (eL BK450) : gb450 ≠ gb504)); have n28_ := A_ ((by rw [hg]; exact Nat.ne_of_gt (eL BK450) : gb504 ≠ gb450)); have n29_ := A_ ((by rw [hg]; exact Nat.ne_of_lt (eL BK458) : gb458 ≠ gb504)); have n30_ := A_ ((by rw [hg]; exact Nat.ne_of_gt (eL BK458) : gb504 ≠ gb458)); have n31_ := A_ ((by rw [hg]; exact Nat.ne_of_lt (eL BK463) : gb463 ≠ gb504)); have n32_ := A_ ((by rw [hg]; exact Nat.ne_of_gt (eL BK463) : gb504 ≠ gb463)); have n33_ := A_ ((by rw [hg]; exact Nat.ne_of_lt (eL BK470) : gb470 ≠ gb504)); have n34_ := A_ ((by rw [hg]; exact Nat.ne_of_gt (eL BK470) : gb504 ≠ gb470)); have n35_ := A_ ((by rw [hg]; exact Nat.ne_of_lt (eL BK475) : gb475 ≠ gb504)); have n36_ := A_ ((by rw [hg]; exact Nat.ne_of_gt (eL BK475) : gb504 ≠ gb475)); have n37_ := A_ ((by rw [hg]; exact Nat.ne_of_lt (eL BK481) : gb481 ≠ gb504)); have n38_ := A_ ((by rw [hg]; exact Nat.ne_of_gt (eL BK481) : gb504 ≠ gb481)); have n39_ := A_ ((by rw [hg]; exact Nat.ne_of_lt (eL BK486) : gb486 ≠ gb504)); have n40_ := A_ ((by rw [hg]; exact Nat.ne_of_gt (eL BK486) : gb504 ≠ gb486)); clear HO_437000; clear HO_446000; clear HO_451000; clear HO_459000; clear HO_464000; clear HO_471000; clear HO_476000; clear HO_482000; clear HO_487000; clear HO502; clear BK436; clear BK445; clear BK450; clear BK458; clear BK463; clear BK470; clear BK475; clear BK481; clear BK486; clear HB; have HO_437000 := n0_; have HO_446000 := n1_; have HO_451000 := n2_; have HO_459000 := n3_; have HO_464000 := n4_; have HO_471000 := n5_; have HO_476000 := n6_; have HO_482000 := n7_; have HO_487000 := n8_; have HO502 := n9_; have BK436 := n10_; have BK445 := n11_; have BK450 := n12_; have BK458 := n13_; have BK463 := n14_; have BK470 := n15_; have BK475 := n16_; have BK481 := n17_; have BK486 := n18_; have HB := n19_; have BK504 := n20_; have GW504 := n21_; have GE504 := n22_; have NB436_504 := n23_; have NB504_436 := n24_; have NB445_504 := n25_; have NB504_445 := n26_; have NB450_504 := n27_; have NB504_450 := n28_; have NB458_504 := n29_; have NB504_458 := n30_; have NB463_504 := n31_; have NB504_463 := n32_; have NB470_504 := n33_; have NB504_470 := n34_; have NB475_504 := n35_; have NB504_475 := n36_; have NB481_504 := n37_; have NB504_481 := n38_; have NB486_504 := n39_; have NB504_486 := n40_; clear n0_ n1_ n2_ n3_ n4_ n5_ n6_ n7_ n8_ n9_ n10_ n11_ n12_ n13_ n14_ n15_ n16_ n17_ n18_ n19_ n20_ n21_ n22_ n23_ n24_ n25_ n26_ n27_ n28_ n29_ n30_ n31_ n32_ n33_ n34_ n35_ n36_ n37_ n38_ n39_ n40_; clear hb hbox hg; obtain ⟨Ao250, co250, eo250⟩ := Kd.R_slice HO502.out; subst eo250; have hnb251 := NB504_436.out; have hnc251 := NB436_504.out; have hnb252 := NB504_445.out; have hnc252 := NB445_504.out; have hnb253 := NB504_450.out; have hnc253 := NB450_504.out; have hnb254 := NB504_458.out; have hnc254 := NB458_504.out; have hnb255 := NB504_463.out; have hnc255 := NB463_504.out; have hnb256 := NB504_470.out; have hnc256 := NB470_504.out; have hnb257 := NB504_475.out; have hnc257 := NB475_504.out; have hnb258 := NB504_481.out; have hnc258 := NB481_504.out; have hnb259 := NB504_486.out; have hnc259 := NB486_504.out; have hcz260_0 : w249.cell? ⟨gb504, 0, none⟩ = some (.slice none 0 0) := (blk_cell BK504.out 0).trans rfl; have hfz260_0 := blk_frozen BK504.out 0; have hcz261_0 : w249.cell? ⟨gb436, 0, none⟩ = some (.slice Ao10 t433.length co10) := (blk_cell BK436.out 0).trans rfl; have hfz261_0 := blk_frozen BK436.out 0) | (go_at_call 89; (with_reducible refine (laws_tree9.calls kj177 _ _ t500 _ _ t433 t505 _ ?side1 ?side2 ?side3 ?side4 A238.out).mono ?_); (case side1 => refine (Kd.R_reads' (e := 2) (base := w.heap.size) (ok := fun k_ => (((((((((True ∧ some k_ ≠ (.slice Ao10 t433.length co10 : Value).ownBlock) ∧ some k_ ≠ (.slice Ao23 t441.length co23 : Value).ownBlock) ∧ some k_ ≠ (.slice Ao29 t446.length co29 : Value).ownBlock) ∧ some k_ ≠ (.slice Ao49 t454.length co49 : Value).ownBlock) ∧ some k_ ≠ (.slice Ao56 t459.length co56 : Value).ownBlock) ∧ some k_ ≠ (.slice Ao82 t466.length co82 : Value).ownBlock) ∧ some k_ ≠ (.slice Ao91 t471.length co91 : Value).ownBlock) ∧ some k_ ≠ (.slice Ao121 t477.length co121 : Value).ownBlock) ∧ some k_ ≠ (.slice Ao132 t482.length co132 : Value).ownBlock)) (n := t500.length) (c := co250) ?_).2.2; exact laws_FnRanks.Z20); (case side2 => exact (Kd.R_reads' HO502.out).2.1); (case side3 => refine (Kd.R_reads' (e := 2) (base := w.heap.size) (ok := fun k_ => ((some k_ ≠ (.slice Ao23 t441.length co23 : Value).ownBlock ∧ (some k_ ≠ (.slice Ao29 t446.length co29 : Value).ownBlock ∧ (some k_ ≠ (.slice Ao49 t454.length co49 : Value).ownBlock ∧ (some k_ ≠ (.slice Ao56 t459.length co56 : Value).ownBlock ∧ (some k_ ≠ (.slice Ao82 t466.length co82 : Value).ownBlock ∧ (some k_ ≠ (.slice Ao91 t471.length co91 : Value).ownBlock ∧ (some k_ ≠ (.slice Ao121 t477.length co121 : Value).ownBlock ∧ some k_ ≠ (.slice Ao132 t482.length co132 : Value).ownBlock))))))) ∧ some k_ ≠ (.slice Ao250 t500.length co250 : Value).ownBlock)) (n := t433.length) (c := co10) ?_).2.2; exact laws_FnRanks.Z7); (case side4 => exact (Kd.R_reads' HO_437000.out).2.1); rintro e w262 ⟨rfl, hb⟩; have n0_ := A_ (Kd.R_below laws_FnRanks.Z7 hb); have n1_ := A_ (Kd.R_below (by (with_reducible repeat (first | apply Kd.R_alloc | apply Kd.R_drewN | apply Kd.R_drew)); exact (Kd.R_mono (Kd.R_far (p := ⟨gb504, 0, none⟩) (Kd.R_types HO_446000.out BK504.out (by decide)) (fun _ hk => hk.2) (.slice Ao250 t500.length co250)) (fun _ h_ => h_.1))) hb); have n2_ := A_ (Kd.R_below (by (with_reducible repeat (first | apply Kd.R_alloc | apply Kd.R_drewN | apply Kd.R_drew)); exact (Kd.R_mono (Kd.R_far (p := ⟨gb504, 0, none⟩) (Kd.R_types HO_451000.out BK504.out (by decide)) (fun _ hk => hk.2) (.slice Ao250 t500.length co250)) (fun _ h_ => h_.1))) hb); have n3_ := A_ (Kd.R_below (by (with_reducible repeat (first | apply Kd.R_alloc | apply Kd.R_drewN | apply Kd.R_drew)); exact (Kd.R_mono (Kd.R_far (p := ⟨gb504, 0, none⟩) (Kd.R_types HO_459000.out BK504.out (by decide)) (fun _ hk => hk.2) (.slice Ao250 t500.length co250)) (fun _ h_ => h_.1))) hb); have n4_ := A_ (Kd.R_below (by (with_reducible repeat (first | apply Kd.R_alloc | apply Kd.R_drewN | apply Kd.R_drew)); exact (Kd.R_mono (Kd.R_far (p := ⟨gb504, 0, none⟩) (Kd.R_types HO_464000.out BK504.out (by decide)) (fun _ hk => hk.2) (.slice Ao250 t500.length co250)) (fun _ h_ => h_.1))) hb); have n5_ := A_ (Kd.R_below (by (with_reducible repeat (first | apply Kd.R_alloc | apply Kd.R_drewN | apply Kd.R_drew)); exact (Kd.R_mono (Kd.R_far (p := ⟨gb504, 0, none⟩) (Kd.R_types HO_471000.out BK504.out (by decide)) (fun _ hk => hk.2) (.slice Ao250 t500.length co250)) (fun _ h_ => h_.1))) hb); have n6_ := A_ (Kd.R_below (by (with_reducible repeat (first | apply Kd.R_alloc | apply Kd.R_drewN | apply Kd.R_drew)); exact (Kd.R_mono (Kd.R_far (p := ⟨gb504, 0, none⟩) (Kd.R_types HO_476000.out BK504.out (by decide)) (fun _ hk => hk.2) (.slice Ao250 t500.length co250)) (fun _ h_ => h_.1))) hb); have n7_ := A_ (Kd.R_below (by (with_reducible repeat (first | apply Kd.R_alloc | apply Kd.R_drewN | apply Kd.R_drew)); exact (Kd.R_mono (Kd.R_far (p := ⟨gb504, 0, none⟩) (Kd.R_types HO_482000.out BK504.out (by decide)) (fun _ hk => hk.2) (.slice Ao250 t500.length co250)) (fun _ h_ => h_.1))) hb); have n8_ := A_ (Kd.R_below (by (with_reducible repeat (first | apply Kd.R_alloc | apply Kd.R_drewN | apply Kd.R_drew)); exact (Kd.R_mono (Kd.R_far (p := ⟨gb504, 0, none⟩) (Kd.R_types HO_487000.out BK504.out (by decide)) (fun _ hk => hk.2) (.slice Ao250 t500.length co250)) (fun _ h_ => h_.1))) hb); have n9_ := A_ (Kd.R_below laws_FnRanks.Z20 hb); have n10_ := A_ (eB BK436 hb); have n11_ := A_ (eB BK445 hb); have n12_ := A_ (eB BK450 hb); have n13_ := A_ (eB BK458 hb); have n14_ := A_ (eB BK463 hb); have n15_ := A_ (eB BK470 hb); have n16_ := A_ (eB BK475 hb); have n17_ := A_ (eB BK481 hb); have n18_ := A_ (eB BK486 hb); have n19_ := A_ (blk_below (g := gb504) (o := .cells #[.slice Ao250 t500.length co250] 26 (0, 0)) (by (with_reducible repeat (first | refine blk_drewN ?_ _ | refine blk_drew ?_ | refine blk_alloc ?_ _)); refine blk_put (cs := #[.slice none 0 0]) ?_ 0 _ rfl; (with_reducible repeat (first | refine blk_drewN ?_ _ | refine blk_drew ?_ | refine blk_alloc ?_ _)); exact BK504.out) hb); have n20_ := A_ (below_step (el HB) hb); clear HO_437000; clear HO_446000; clear HO_451000; clear HO_459000; clear HO_464000; clear HO_471000; clear HO_476000; clear HO_482000; clear HO_487000; clear HO502; clear BK436; clear BK445; clear BK450; clear BK458; clear BK463; clear BK470; clear BK475; clear BK481; clear BK486; clear BK504; clear HB; have HO_437000 := n0_; have HO_446000 := n1_; have HO_451000 := n2_; have HO_459000 := n3_; have HO_464000 := n4_; have HO_471000 := n5_; have HO_476000 := n6_; have HO_482000 := n7_; have HO_487000 := n8_; have HO502 := n9_; have BK436 := n10_; have BK445 := n11_; have BK450 := n12_; have BK458 := n13_; have BK463 := n14_; have BK470 := n15_; have BK475 := n16_; have BK481 := n17_; have BK486 := n18_; have BK504 := n19_; have HB := n20_; clear n0_ n1_ n2_ n3_ n4_ n5_ n6_ n7_ n8_ n9_ n10_ n11_ n12_ n13_ n14_ n15_ n16_ n17_ n18_ n19_ n20_; (try clear hb); (try clear hb2); (try clear hk); (try clear hi)))
                         go_ret
                         exact ⟨er, el HB⟩
                       ·rw [if_neg c208] at H
                        have c208b0 : (t438 == 0) = false := beq_eq_false_iff_ne.mpr c208
                        have c208b1 : (t438 != 0) = true := bne_iff_ne.mpr c208
                        by_cases c263 : t437 = 0
                        ·rw [if_pos c263] at H
                         have c263b0 : (t437 == 0) = true := beq_iff_eq.mpr c263
                         have c263b1 : (t437 != 0) = false := bne_eq_false_iff_eq.mpr c263
                         clear c263
                         obtain rfl := Option.some.inj H
                         go_wp2
                         go_ret
                         exact ⟨er, el HB⟩
                        ·rw [if_neg c263] at H
                         exact absurd H (by simp)

/-- THE ONE PURE STATEMENT of laws_FnRanks: yours. -/
def laws_FnRanks.Pure : Prop := ∀ (l0 : List Int), l0.length ≤ maxLen → l0.length * 1 ≤ 140737488351232 → (∀ x ∈ l0, (Lit.int .u8 x).wf = true) → ∃ k, laws_FnRanks.f k l0 = some true
theorem laws_FnRanks.walk (P : laws_FnRanks.Pure) (a0 : Option Addr) (len0 cap0 : Nat) (z0 : List Int) (w : World) (w0 : (a0 = none ∧ len0 = 0 ∧ cap0 = 0 ∧ z0 = []) ∨ ∃ x, a0 = some x ∧ len0 ≤ cap0 ∧ cap0 ≤ maxLen ∧ z0.length = cap0 ∧ (∀ i, i < z0.length → w.cell? (x.add i) = some (.int .u8 (z0.getD i 0))) ∧ ∀ n ∈ z0, (Lit.int .u8 n).wf = true) (y0 : len0 * 1 ≤ 140737488351232) :
  Calls Try.prog 6 #[.slice a0 len0 cap0] w fun e w' => e = .returned (.bool true) ∧ Below w.heap.size w w' := by
 obtain ⟨l0, rfl, hr0, hm0, hw0, hc0⟩ := ReadsInt.ofRowC w0
 obtain ⟨k, h⟩ := P l0 hm0 y0 hw0
 refine (laws_FnRanks.calls k _ _ l0 true w (Kd.C_of_reads (d := (0 : Int)) (h1 := fun _ => rfl) hr0) hc0 h).mono ?_
 rintro e w' ⟨rfl, hd⟩
 exact ⟨rfl, hd⟩

end Go.Proofs.Ytocachknmgefaaa.QFnRanks
