/- Functions of the program as plain Lean functions, each with a proof that the machine's call answers what it answers. Conditions: none. -/
import Derived.Test.YtocachknmgefaaaQFnTreesx0
import Derived.Test.YtocachknmgefaaaQFnTreesx1
import Derived.Test.YtocachknmgefaaaQFnTreesx4
import Derived.Test.YtocachknmgefaaaQFnTreesx5
import Derived.Test.YtocachknmgefaaaQFnTreesx6
import Derived.Test.YtocachknmgefaaaQFnTreesx7
import Derived.Test.YtocachknmgefaaaQFnTreesx8
import Derived.Test.YtocachknmgefaaaQFnTreesx9
import Derived.Test.YtocachknmgefaaaQFnTreesx10
import Derived.Test.YtocachknmgefaaaQFnTreesx11
import Derived.Test.YtocachknmgefaaaQFnTreesx12
import Derived.Test.YtocachknmgefaaaQFnTreesx13
import Derived.Test.YtocachknmgefaaaQFnTreesx14
namespace Go.Proofs.Ytocachknmgefaaa.QFnTrees
open Go.RowKit Go.Proofs.YtocachknmgefaaaW.PrintWords Go.Proofs.YtocachknmgefaaaW.PrintLast Go.Proofs.YtocachknmgefaaaW.PrintMore
attribute [local go_sem] max2_int min2_int max_two min_two max_three min_three max_four min_four   -- for this text's walks alone
set_option linter.unusedVariables false
set_option maxHeartbeats 8000000
set_option maxRecDepth 100000
set_option linter.unusedSimpArgs false

/-! ### laws_FnTrees: function 3 -/
mutual
def laws_FnTrees.j0 : Nat → List Int → List Int → Int → List Int → List Int → List Int → List Int → List Int → Int → Bool → List Int → Option (Bool)
  | 0, _, _, _, _, _, _, _, _, _, _, _ => none
  | k + 1, x0, x4, x5, x8, x12, x16, x20, x24, x28, x210, x656000 => if x210 = true then (none) else (if x5 = 0 then ((impl_TreeText.f k x656000).bind fun bt716 => ((impl_ParseTree.f k bt716.1).bind fun bt718 => (if bt716.2 = 0 then (if bt718.2 = 0 then ((laws_trees5.f k bt718.1 x656000).bind fun t723 => (if t723 = true then (if 0 < (x4.length : Int) then (if (bt716.1.size : Int) = (wrap64 (2 * (rd x4 0))) then (if (x20.length : Int) = (x4.length : Int) then (if (x24.length : Int) = (x4.length : Int) then ((laws_sum.f k x4).bind fun t725 => ((laws_sum.f k x12).bind fun t726 => (laws_FnTrees.j1 k x0 x4 x8 x12 x16 x20 x24 x28 (t725 != (wrap64 (t726 + (rd x4 0)))) x656000))) else (laws_FnTrees.j1 k x0 x4 x8 x12 x16 x20 x24 x28 true x656000)) else (laws_FnTrees.j1 k x0 x4 x8 x12 x16 x20 x24 x28 true x656000)) else (laws_FnTrees.j1 k x0 x4 x8 x12 x16 x20 x24 x28 true x656000)) else (none)) else (laws_FnTrees.j1 k x0 x4 x8 x12 x16 x20 x24 x28 true x656000))) else (laws_FnTrees.j1 k x0 x4 x8 x12 x16 x20 x24 x28 true x656000)) else (laws_FnTrees.j1 k x0 x4 x8 x12 x16 x20 x24 x28 true x656000)))) else (laws_FnTrees.j4 k x0))
def laws_FnTrees.j4 : Nat → List Int → Option (Bool)
  | 0, _ => none
  | k + 1, x0 => (spec_DrawChildrenOf.f k x0).bind fun bt747 => ((impl_ChildrenOf.f k bt747.1 bt747.2).bind fun bt752 => ((spec_ChildrenOf.f k bt747.1 bt747.2).bind fun bt756 => ((spec_DrawParseTree.f k x0).bind fun t760 => ((impl_ParseTree.f k t760).bind fun bt761 => ((spec_ParseTree.f k t760).bind fun bt766 => ((impl_TreeText.f k bt747.1).bind fun bt771 => ((spec_TreeText.f k bt747.1).bind fun bt773 => (if bt752.2 = bt756.2 then ((laws_likeInts.f k bt752.1 bt756.1).bind fun t775 => (if t775 = true then (if bt761.2 = bt766.2 then ((laws_trees5.f k bt761.1 bt766.1).bind fun t776 => (if t776 = true then (if bt771.2 = bt773.2 then (some (bt771.1.toList == bt773.1.toList)) else (none)) else (none))) else (none)) else (none))) else (none)))))))))
def laws_FnTrees.j1 : Nat → List Int → List Int → List Int → List Int → List Int → List Int → List Int → Int → Bool → List Int → Option (Bool)
  | 0, _, _, _, _, _, _, _, _, _, _ => none
  | k + 1, x0, x4, x8, x12, x16, x20, x24, x28, x268, x656000 => if x268 = true then (none) else (laws_FnTrees.l0 k x0 x4 x8 x12 x16 x20 x24 x28 (x4.length : Int) 0 x656000)
def laws_FnTrees.l0 : Nat → List Int → List Int → List Int → List Int → List Int → List Int → List Int → Int → Int → Int → List Int → Option (Bool)
  | 0, _, _, _, _, _, _, _, _, _, _, _ => none
  | k + 1, x0, x4, x8, x12, x16, x20, x24, x28, x270, x271, x656000 => if x271 < x270 then ((impl_ChildrenOf.f k x656000 x271).bind fun bt728 => (laws_FnTrees.l1 k x0 x4 x8 x12 x16 x20 x24 x28 x271 bt728.1 bt728.2 1 x270 x271 (bt728.1.length : Int) 0 x656000)) else (laws_FnTrees.j4 k x0)
def laws_FnTrees.l1 : Nat → List Int → List Int → List Int → List Int → List Int → List Int → List Int → Int → Int → List Int → Int → Int → Int → Int → Int → Int → List Int → Option (Bool)
  | 0, _, _, _, _, _, _, _, _, _, _, _, _, _, _, _, _, _ => none
  | k + 1, x0, x4, x8, x12, x16, x20, x24, x28, x36, x37, x38, x39, x270, x271, x281, x282, x656000 => if x282 < x281 then (if 0 ≤ x282 then (if x282 < (x37.length : Int) then (if (rd x37 x282) < 0 then (none) else (if 0 < (x4.length : Int) then (if (rd x37 x282) ≥ (rd x4 0) then (none) else (if 0 ≤ (rd x37 x282) then (if (rd x37 x282) < (x8.length : Int) then (if (rd x8 (rd x37 x282)) = x36 then (if (rd x37 x282) < (x12.length : Int) then (if 0 ≤ x36 then (if x36 < (x12.length : Int) then (if (rd x12 (rd x37 x282)) = (wrap64 ((rd x12 x36) + 1)) then (if (rd x37 x282) < (x4.length : Int) then (laws_FnTrees.l1 k x0 x4 x8 x12 x16 x20 x24 x28 x36 x37 x38 (wrap64 (x39 + (rd x4 (rd x37 x282)))) x270 x271 x281 (wrap64 (x282 + 1)) x656000) else (none)) else (none)) else (none)) else (none)) else (none)) else (none)) else (none)) else (none))) else (none))) else (none)) else (none)) else (if x38 = 0 then (if 0 ≤ x36 then (if x36 < (x4.length : Int) then (if x39 = (rd x4 x36) then (if x36 < (x12.length : Int) then (if (rd x12 x36) > x28 then (none) else ((laws_hasInt.f k x16 x36).bind fun t744 => (if (t744 != ((x37.length : Int) == 0)) = true then (none) else ((laws_hasInt.f k x20 x36).bind fun t745 => (if t745 = true then ((laws_hasInt.f k x24 x36).bind fun t746 => (if t746 = true then (laws_FnTrees.l0 k x0 x4 x8 x12 x16 x20 x24 x28 x270 (wrap64 (x271 + 1)) x656000) else (none))) else (none)))))) else (none)) else (none)) else (none)) else (none)) else (none))
end
def laws_FnTrees.f (k : Nat) (l0 : List Int) : Option (Bool) := (laws_big.f l0).bind fun t651 => (if t651 = true then (some true) else ((spec_DrawSizesOf.f k l0).bind fun t652 => ((impl_SizesOf.f k t652).bind fun bt656 => ((spec_SizesOf.f k t652).bind fun bt660 => ((impl_ParentsOf.f k t652).bind fun bt664 => ((spec_ParentsOf.f k t652).bind fun bt668 => ((impl_DepthsOf.f k t652).bind fun bt672 => ((spec_DepthsOf.f k t652).bind fun bt676 => ((impl_LeavesOf.f k t652).bind fun bt680 => ((spec_LeavesOf.f k t652).bind fun bt684 => ((impl_PostorderOf.f k t652).bind fun bt688 => ((spec_PostorderOf.f k t652).bind fun bt692 => ((impl_LevelOrderOf.f k t652).bind fun bt696 => ((spec_LevelOrderOf.f k t652).bind fun bt700 => ((impl_HeightOf.f k t652).bind fun bt704 => ((spec_HeightOf.f k t652).bind fun bt706 => (if bt656.2 = bt660.2 then ((laws_likeInts.f k bt656.1 bt660.1).bind fun t708 => (if t708 = true then (if bt664.2 = bt668.2 then ((laws_likeInts.f k bt664.1 bt668.1).bind fun t709 => (if t709 = true then (if bt672.2 = bt676.2 then ((laws_likeInts.f k bt672.1 bt676.1).bind fun t710 => (if t710 = true then (if bt680.2 = bt684.2 then ((laws_likeInts.f k bt680.1 bt684.1).bind fun t711 => (if t711 = true then (if bt688.2 = bt692.2 then ((laws_likeInts.f k bt688.1 bt692.1).bind fun t712 => (if t712 = true then (if bt696.2 = bt700.2 then ((laws_likeInts.f k bt696.1 bt700.1).bind fun t713 => (if t713 = true then (if bt704.2 = bt706.2 then (if bt704.1 = bt706.1 then ((impl_IsTree.f k t652).bind fun t714 => ((spec_IsTree.f k t652).bind fun t715 => (laws_FnTrees.j0 k l0 bt656.1 bt656.2 bt664.1 bt672.1 bt680.1 bt688.1 bt696.1 bt704.1 (t714 != t715) t652))) else (laws_FnTrees.j0 k l0 bt656.1 bt656.2 bt664.1 bt672.1 bt680.1 bt688.1 bt696.1 bt704.1 true t652)) else (laws_FnTrees.j0 k l0 bt656.1 bt656.2 bt664.1 bt672.1 bt680.1 bt688.1 bt696.1 bt704.1 true t652)) else (laws_FnTrees.j0 k l0 bt656.1 bt656.2 bt664.1 bt672.1 bt680.1 bt688.1 bt696.1 bt704.1 true t652))) else (laws_FnTrees.j0 k l0 bt656.1 bt656.2 bt664.1 bt672.1 bt680.1 bt688.1 bt696.1 bt704.1 true t652)) else (laws_FnTrees.j0 k l0 bt656.1 bt656.2 bt664.1 bt672.1 bt680.1 bt688.1 bt696.1 bt704.1 true t652))) else (laws_FnTrees.j0 k l0 bt656.1 bt656.2 bt664.1 bt672.1 bt680.1 bt688.1 bt696.1 bt704.1 true t652)) else (laws_FnTrees.j0 k l0 bt656.1 bt656.2 bt664.1 bt672.1 bt680.1 bt688.1 bt696.1 bt704.1 true t652))) else (laws_FnTrees.j0 k l0 bt656.1 bt656.2 bt664.1 bt672.1 bt680.1 bt688.1 bt696.1 bt704.1 true t652)) else (laws_FnTrees.j0 k l0 bt656.1 bt656.2 bt664.1 bt672.1 bt680.1 bt688.1 bt696.1 bt704.1 true t652))) else (laws_FnTrees.j0 k l0 bt656.1 bt656.2 bt664.1 bt672.1 bt680.1 bt688.1 bt696.1 bt704.1 true t652)) else (laws_FnTrees.j0 k l0 bt656.1 bt656.2 bt664.1 bt672.1 bt680.1 bt688.1 bt696.1 bt704.1 true t652))) else (laws_FnTrees.j0 k l0 bt656.1 bt656.2 bt664.1 bt672.1 bt680.1 bt688.1 bt696.1 bt704.1 true t652)) else (laws_FnTrees.j0 k l0 bt656.1 bt656.2 bt664.1 bt672.1 bt680.1 bt688.1 bt696.1 bt704.1 true t652))) else (laws_FnTrees.j0 k l0 bt656.1 bt656.2 bt664.1 bt672.1 bt680.1 bt688.1 bt696.1 bt704.1 true t652))))))))))))))))))
theorem laws_FnTrees.dead0 {k : Nat} {a0 : _} {a1 : _} {a2 : _} {a3 : _} {a4 : _} {a5 : _} {a6 : _} {a7 : _} {a8 : _} {a10 : _} : laws_FnTrees.j0 k a0 a1 a2 a3 a4 a5 a6 a7 a8 true a10 = none := by cases k <;> simp [laws_FnTrees.j0]
theorem laws_FnTrees.dead1 {k : Nat} {a0 : _} {a1 : _} {a2 : _} {a3 : _} {a4 : _} {a5 : _} {a6 : _} {a7 : _} {a9 : _} : laws_FnTrees.j1 k a0 a1 a2 a3 a4 a5 a6 a7 true a9 = none := by cases k <;> simp [laws_FnTrees.j1]
theorem laws_FnTrees.mono_l : ∀ k, (∀ y0 y1 y2 y3 y4 y5 y6 y7 y8 y9 y10, LeO (laws_FnTrees.j0 k y0 y1 y2 y3 y4 y5 y6 y7 y8 y9 y10) (laws_FnTrees.j0 (k + 1) y0 y1 y2 y3 y4 y5 y6 y7 y8 y9 y10)) ∧ (∀ y0, LeO (laws_FnTrees.j4 k y0) (laws_FnTrees.j4 (k + 1) y0)) ∧ (∀ y0 y1 y2 y3 y4 y5 y6 y7 y8 y9, LeO (laws_FnTrees.j1 k y0 y1 y2 y3 y4 y5 y6 y7 y8 y9) (laws_FnTrees.j1 (k + 1) y0 y1 y2 y3 y4 y5 y6 y7 y8 y9)) ∧ (∀ y0 y1 y2 y3 y4 y5 y6 y7 y8 y9 y10, LeO (laws_FnTrees.l0 k y0 y1 y2 y3 y4 y5 y6 y7 y8 y9 y10) (laws_FnTrees.l0 (k + 1) y0 y1 y2 y3 y4 y5 y6 y7 y8 y9 y10)) ∧ (∀ y0 y1 y2 y3 y4 y5 y6 y7 y8 y9 y10 y11 y12 y13 y14 y15 y16, LeO (laws_FnTrees.l1 k y0 y1 y2 y3 y4 y5 y6 y7 y8 y9 y10 y11 y12 y13 y14 y15 y16) (laws_FnTrees.l1 (k + 1) y0 y1 y2 y3 y4 y5 y6 y7 y8 y9 y10 y11 y12 y13 y14 y15 y16))
  | 0 => ⟨fun _ _ _ _ _ _ _ _ _ _ _ r h => by simp [laws_FnTrees.j0] at h, fun _ r h => by simp [laws_FnTrees.j4] at h, fun _ _ _ _ _ _ _ _ _ _ r h => by simp [laws_FnTrees.j1] at h, fun _ _ _ _ _ _ _ _ _ _ _ r h => by simp [laws_FnTrees.l0] at h, fun _ _ _ _ _ _ _ _ _ _ _ _ _ _ _ _ _ r h => by simp [laws_FnTrees.l1] at h⟩
  | k + 1 => by
    obtain ⟨ih0, ih1, ih2, ih3, ih4⟩ := laws_FnTrees.mono_l k
    refine ⟨?_, ?_, ?_, ?_, ?_⟩
    · intro y0 y1 y2 y3 y4 y5 y6 y7 y8 y9 y10
      unfold laws_FnTrees.j0
      repeat' first | (with_reducible first | exact ih0 _ _ _ _ _ _ _ _ _ _ _ | exact ih1 _ | exact ih2 _ _ _ _ _ _ _ _ _ _ | exact ih3 _ _ _ _ _ _ _ _ _ _ _ | exact ih4 _ _ _ _ _ _ _ _ _ _ _ _ _ _ _ _ _ | exact impl_ChildrenOf.mono _ _ _ | exact impl_DepthsOf.mono _ _ | exact impl_HeightOf.mono _ _ | exact impl_IsTree.mono _ _ | exact impl_LeavesOf.mono _ _ | exact impl_LevelOrderOf.mono _ _ | exact impl_ParentsOf.mono _ _ | exact impl_ParseTree.mono _ _ | exact impl_PostorderOf.mono _ _ | exact impl_SizesOf.mono _ _ | exact impl_TreeText.mono _ _ | exact laws_hasInt.mono _ _ _ | exact laws_likeInts.mono _ _ _ | exact laws_sum.mono _ _ | exact laws_trees5.mono _ _ _ | exact spec_ChildrenOf.mono _ _ _ | exact spec_DepthsOf.mono _ _ | exact spec_DrawChildrenOf.mono _ _ | exact spec_DrawParseTree.mono _ _ | exact spec_DrawSizesOf.mono _ _ | exact spec_HeightOf.mono _ _ | exact spec_IsTree.mono _ _ | exact spec_LeavesOf.mono _ _ | exact spec_LevelOrderOf.mono _ _ | exact spec_ParentsOf.mono _ _ | exact spec_ParseTree.mono _ _ | exact spec_PostorderOf.mono _ _ | exact spec_SizesOf.mono _ _ | exact spec_TreeText.mono _ _ | exact LeO.refl _ | exact LeO.none _ | refine LeO.ite ?_ ?_ | refine LeO.bind ?_ (fun _ => ?_)) | exact ih0 _ _ _ _ _ _ _ _ _ _ _ | exact ih1 _ | exact ih2 _ _ _ _ _ _ _ _ _ _ | exact ih3 _ _ _ _ _ _ _ _ _ _ _ | exact ih4 _ _ _ _ _ _ _ _ _ _ _ _ _ _ _ _ _ | exact impl_ChildrenOf.mono _ _ _ | exact impl_DepthsOf.mono _ _ | exact impl_HeightOf.mono _ _ | exact impl_IsTree.mono _ _ | exact impl_LeavesOf.mono _ _ | exact impl_LevelOrderOf.mono _ _ | exact impl_ParentsOf.mono _ _ | exact impl_ParseTree.mono _ _ | exact impl_PostorderOf.mono _ _ | exact impl_SizesOf.mono _ _ | exact impl_TreeText.mono _ _ | exact laws_hasInt.mono _ _ _ | exact laws_likeInts.mono _ _ _ | exact laws_sum.mono _ _ | exact laws_trees5.mono _ _ _ | exact spec_ChildrenOf.mono _ _ _ | exact spec_DepthsOf.mono _ _ | exact spec_DrawChildrenOf.mono _ _ | exact spec_DrawParseTree.mono _ _ | exact spec_DrawSizesOf.mono _ _ | exact spec_HeightOf.mono _ _ | exact spec_IsTree.mono _ _ | exact spec_LeavesOf.mono _ _ | exact spec_LevelOrderOf.mono _ _ | exact spec_ParentsOf.mono _ _ | exact spec_ParseTree.mono _ _ | exact spec_PostorderOf.mono _ _ | exact spec_SizesOf.mono _ _ | exact spec_TreeText.mono _ _ | exact LeO.none _ | refine LeO.ite ?_ ?_ | refine LeO.bind ?_ (fun _ => ?_)
    · intro y0
      unfold laws_FnTrees.j4
      repeat' first | (with_reducible first | exact ih0 _ _ _ _ _ _ _ _ _ _ _ | exact ih1 _ | exact ih2 _ _ _ _ _ _ _ _ _ _ | exact ih3 _ _ _ _ _ _ _ _ _ _ _ | exact ih4 _ _ _ _ _ _ _ _ _ _ _ _ _ _ _ _ _ | exact impl_ChildrenOf.mono _ _ _ | exact impl_DepthsOf.mono _ _ | exact impl_HeightOf.mono _ _ | exact impl_IsTree.mono _ _ | exact impl_LeavesOf.mono _ _ | exact impl_LevelOrderOf.mono _ _ | exact impl_ParentsOf.mono _ _ | exact impl_ParseTree.mono _ _ | exact impl_PostorderOf.mono _ _ | exact impl_SizesOf.mono _ _ | exact impl_TreeText.mono _ _ | exact laws_hasInt.mono _ _ _ | exact laws_likeInts.mono _ _ _ | exact laws_sum.mono _ _ | exact laws_trees5.mono _ _ _ | exact spec_ChildrenOf.mono _ _ _ | exact spec_DepthsOf.mono _ _ | exact spec_DrawChildrenOf.mono _ _ | exact spec_DrawParseTree.mono _ _ | exact spec_DrawSizesOf.mono _ _ | exact spec_HeightOf.mono _ _ | exact spec_IsTree.mono _ _ | exact spec_LeavesOf.mono _ _ | exact spec_LevelOrderOf.mono _ _ | exact spec_ParentsOf.mono _ _ | exact spec_ParseTree.mono _ _ | exact spec_PostorderOf.mono _ _ | exact spec_SizesOf.mono _ _ | exact spec_TreeText.mono _ _ | exact LeO.refl _ | exact LeO.none _ | refine LeO.ite ?_ ?_ | refine LeO.bind ?_ (fun _ => ?_)) | exact ih0 _ _ _ _ _ _ _ _ _ _ _ | exact ih1 _ | exact ih2 _ _ _ _ _ _ _ _ _ _ | exact ih3 _ _ _ _ _ _ _ _ _ _ _ | exact ih4 _ _ _ _ _ _ _ _ _ _ _ _ _ _ _ _ _ | exact impl_ChildrenOf.mono _ _ _ | exact impl_DepthsOf.mono _ _ | exact impl_HeightOf.mono _ _ | exact impl_IsTree.mono _ _ | exact impl_LeavesOf.mono _ _ | exact impl_LevelOrderOf.mono _ _ | exact impl_ParentsOf.mono _ _ | exact impl_ParseTree.mono _ _ | exact impl_PostorderOf.mono _ _ | exact impl_SizesOf.mono _ _ | exact impl_TreeText.mono _ _ | exact laws_hasInt.mono _ _ _ | exact laws_likeInts.mono _ _ _ | exact laws_sum.mono _ _ | exact laws_trees5.mono _ _ _ | exact spec_ChildrenOf.mono _ _ _ | exact spec_DepthsOf.mono _ _ | exact spec_DrawChildrenOf.mono _ _ | exact spec_DrawParseTree.mono _ _ | exact spec_DrawSizesOf.mono _ _ | exact spec_HeightOf.mono _ _ | exact spec_IsTree.mono _ _ | exact spec_LeavesOf.mono _ _ | exact spec_LevelOrderOf.mono _ _ | exact spec_ParentsOf.mono _ _ | exact spec_ParseTree.mono _ _ | exact spec_PostorderOf.mono _ _ | exact spec_SizesOf.mono _ _ | exact spec_TreeText.mono _ _ | exact LeO.none _ | refine LeO.ite ?_ ?_ | refine LeO.bind ?_ (fun _ => ?_)
    · intro y0 y1 y2 y3 y4 y5 y6 y7 y8 y9
      unfold laws_FnTrees.j1
      repeat' first | (with_reducible first | exact ih0 _ _ _ _ _ _ _ _ _ _ _ | exact ih1 _ | exact ih2 _ _ _ _ _ _ _ _ _ _ | exact ih3 _ _ _ _ _ _ _ _ _ _ _ | exact ih4 _ _ _ _ _ _ _ _ _ _ _ _ _ _ _ _ _ | exact impl_ChildrenOf.mono _ _ _ | exact impl_DepthsOf.mono _ _ | exact impl_HeightOf.mono _ _ | exact impl_IsTree.mono _ _ | exact impl_LeavesOf.mono _ _ | exact impl_LevelOrderOf.mono _ _ | exact impl_ParentsOf.mono _ _ | exact impl_ParseTree.mono _ _ | exact impl_PostorderOf.mono _ _ | exact impl_SizesOf.mono _ _ | exact impl_TreeText.mono _ _ | exact laws_hasInt.mono _ _ _ | exact laws_likeInts.mono _ _ _ | exact laws_sum.mono _ _ | exact laws_trees5.mono _ _ _ | exact spec_ChildrenOf.mono _ _ _ | exact spec_DepthsOf.mono _ _ | exact spec_DrawChildrenOf.mono _ _ | exact spec_DrawParseTree.mono _ _ | exact spec_DrawSizesOf.mono _ _ | exact spec_HeightOf.mono _ _ | exact spec_IsTree.mono _ _ | exact spec_LeavesOf.mono _ _ | exact spec_LevelOrderOf.mono _ _ | exact spec_ParentsOf.mono _ _ | exact spec_ParseTree.mono _ _ | exact spec_PostorderOf.mono _ _ | exact spec_SizesOf.mono _ _ | exact spec_TreeText.mono _ _ | exact LeO.refl _ | exact LeO.none _ | refine LeO.ite ?_ ?_ | refine LeO.bind ?_ (fun _ => ?_)) | exact ih0 _ _ _ _ _ _ _ _ _ _ _ | exact ih1 _ | exact ih2 _ _ _ _ _ _ _ _ _ _ | exact ih3 _ _ _ _ _ _ _ _ _ _ _ | exact ih4 _ _ _ _ _ _ _ _ _ _ _ _ _ _ _ _ _ | exact impl_ChildrenOf.mono _ _ _ | exact impl_DepthsOf.mono _ _ | exact impl_HeightOf.mono _ _ | exact impl_IsTree.mono _ _ | exact impl_LeavesOf.mono _ _ | exact impl_LevelOrderOf.mono _ _ | exact impl_ParentsOf.mono _ _ | exact impl_ParseTree.mono _ _ | exact impl_PostorderOf.mono _ _ | exact impl_SizesOf.mono _ _ | exact impl_TreeText.mono _ _ | exact laws_hasInt.mono _ _ _ | exact laws_likeInts.mono _ _ _ | exact laws_sum.mono _ _ | exact laws_trees5.mono _ _ _ | exact spec_ChildrenOf.mono _ _ _ | exact spec_DepthsOf.mono _ _ | exact spec_DrawChildrenOf.mono _ _ | exact spec_DrawParseTree.mono _ _ | exact spec_DrawSizesOf.mono _ _ | exact spec_HeightOf.mono _ _ | exact spec_IsTree.mono _ _ | exact spec_LeavesOf.mono _ _ | exact spec_LevelOrderOf.mono _ _ | exact spec_ParentsOf.mono _ _ | exact spec_ParseTree.mono _ _ | exact spec_PostorderOf.mono _ _ | exact spec_SizesOf.mono _ _ | exact spec_TreeText.mono _ _ | exact LeO.none _ | refine LeO.ite ?_ ?_ | refine LeO.bind ?_ (fun _ => ?_)
    · intro y0 y1 y2 y3 y4 y5 y6 y7 y8 y9 y10
      unfold laws_FnTrees.l0
      repeat' first | (with_reducible first | exact ih0 _ _ _ _ _ _ _ _ _ _ _ | exact ih1 _ | exact ih2 _ _ _ _ _ _ _ _ _ _ | exact ih3 _ _ _ _ _ _ _ _ _ _ _ | exact ih4 _ _ _ _ _ _ _ _ _ _ _ _ _ _ _ _ _ | exact impl_ChildrenOf.mono _ _ _ | exact impl_DepthsOf.mono _ _ | exact impl_HeightOf.mono _ _ | exact impl_IsTree.mono _ _ | exact impl_LeavesOf.mono _ _ | exact impl_LevelOrderOf.mono _ _ | exact impl_ParentsOf.mono _ _ | exact impl_ParseTree.mono _ _ | exact impl_PostorderOf.mono _ _ | exact impl_SizesOf.mono _ _ | exact impl_TreeText.mono _ _ | exact laws_hasInt.mono _ _ _ | exact laws_likeInts.mono _ _ _ | exact laws_sum.mono _ _ | exact laws_trees5.mono _ _ _ | exact spec_ChildrenOf.mono _ _ _ | exact spec_DepthsOf.mono _ _ | exact spec_DrawChildrenOf.mono _ _ | exact spec_DrawParseTree.mono _ _ | exact spec_DrawSizesOf.mono _ _ | exact spec_HeightOf.mono _ _ | exact spec_IsTree.mono _ _ | exact spec_LeavesOf.mono _ _ | exact spec_LevelOrderOf.mono _ _ | exact spec_ParentsOf.mono _ _ | exact spec_ParseTree.mono _ _ | exact spec_PostorderOf.mono _ _ | exact spec_SizesOf.mono _ _ | exact spec_TreeText.mono _ _ | exact LeO.refl _ | exact LeO.none _ | refine LeO.ite ?_ ?_ | refine LeO.bind ?_ (fun _ => ?_)) | exact ih0 _ _ _ _ _ _ _ _ _ _ _ | exact ih1 _ | exact ih2 _ _ _ _ _ _ _ _ _ _ | exact ih3 _ _ _ _ _ _ _ _ _ _ _ | exact ih4 _ _ _ _ _ _ _ _ _ _ _ _ _ _ _ _ _ | exact impl_ChildrenOf.mono _ _ _ | exact impl_DepthsOf.mono _ _ | exact impl_HeightOf.mono _ _ | exact impl_IsTree.mono _ _ | exact impl_LeavesOf.mono _ _ | exact impl_LevelOrderOf.mono _ _ | exact impl_ParentsOf.mono _ _ | exact impl_ParseTree.mono _ _ | exact impl_PostorderOf.mono _ _ | exact impl_SizesOf.mono _ _ | exact impl_TreeText.mono _ _ | exact laws_hasInt.mono _ _ _ | exact laws_likeInts.mono _ _ _ | exact laws_sum.mono _ _ | exact laws_trees5.mono _ _ _ | exact spec_ChildrenOf.mono _ _ _ | exact spec_DepthsOf.mono _ _ | exact spec_DrawChildrenOf.mono _ _ | exact spec_DrawParseTree.mono _ _ | exact spec_DrawSizesOf.mono _ _ | exact spec_HeightOf.mono _ _ | exact spec_IsTree.mono _ _ | exact spec_LeavesOf.mono _ _ | exact spec_LevelOrderOf.mono _ _ | exact spec_ParentsOf.mono _ _ | exact spec_ParseTree.mono _ _ | exact spec_PostorderOf.mono _ _ | exact spec_SizesOf.mono _ _ | exact spec_TreeText.mono _ _ | exact LeO.none _ | refine LeO.ite ?_ ?_ | refine LeO.bind ?_ (fun _ => ?_)
    · intro y0 y1 y2 y3 y4 y5 y6 y7 y8 y9 y10 y11 y12 y13 y14 y15 y16
      unfold laws_FnTrees.l1
      repeat' first | (with_reducible first | exact ih0 _ _ _ _ _ _ _ _ _ _ _ | exact ih1 _ | exact ih2 _ _ _ _ _ _ _ _ _ _ | exact ih3 _ _ _ _ _ _ _ _ _ _ _ | exact ih4 _ _ _ _ _ _ _ _ _ _ _ _ _ _ _ _ _ | exact impl_ChildrenOf.mono _ _ _ | exact impl_DepthsOf.mono _ _ | exact impl_HeightOf.mono _ _ | exact impl_IsTree.mono _ _ | exact impl_LeavesOf.mono _ _ | exact impl_LevelOrderOf.mono _ _ | exact impl_ParentsOf.mono _ _ | exact impl_ParseTree.mono _ _ | exact impl_PostorderOf.mono _ _ | exact impl_SizesOf.mono _ _ | exact impl_TreeText.mono _ _ | exact laws_hasInt.mono _ _ _ | exact laws_likeInts.mono _ _ _ | exact laws_sum.mono _ _ | exact laws_trees5.mono _ _ _ | exact spec_ChildrenOf.mono _ _ _ | exact spec_DepthsOf.mono _ _ | exact spec_DrawChildrenOf.mono _ _ | exact spec_DrawParseTree.mono _ _ | exact spec_DrawSizesOf.mono _ _ | exact spec_HeightOf.mono _ _ | exact spec_IsTree.mono _ _ | exact spec_LeavesOf.mono _ _ | exact spec_LevelOrderOf.mono _ _ | exact spec_ParentsOf.mono _ _ | exact spec_ParseTree.mono _ _ | exact spec_PostorderOf.mono _ _ | exact spec_SizesOf.mono _ _ | exact spec_TreeText.mono _ _ | exact LeO.refl _ | exact LeO.none _ | refine LeO.ite ?_ ?_ | refine LeO.bind ?_ (fun _ => ?_)) | exact ih0 _ _ _ _ _ _ _ _ _ _ _ | exact ih1 _ | exact ih2 _ _ _ _ _ _ _ _ _ _ | exact ih3 _ _ _ _ _ _ _ _ _ _ _ | exact ih4 _ _ _ _ _ _ _ _ _ _ _ _ _ _ _ _ _ | exact impl_ChildrenOf.mono _ _ _ | exact impl_DepthsOf.mono _ _ | exact impl_HeightOf.mono _ _ | exact impl_IsTree.mono _ _ | exact impl_LeavesOf.mono _ _ | exact impl_LevelOrderOf.mono _ _ | exact impl_ParentsOf.mono _ _ | exact impl_ParseTree.mono _ _ | exact impl_PostorderOf.mono _ _ | exact impl_SizesOf.mono _ _ | exact impl_TreeText.mono _ _ | exact laws_hasInt.mono _ _ _ | exact laws_likeInts.mono _ _ _ | exact laws_sum.mono _ _ | exact laws_trees5.mono _ _ _ | exact spec_ChildrenOf.mono _ _ _ | exact spec_DepthsOf.mono _ _ | exact spec_DrawChildrenOf.mono _ _ | exact spec_DrawParseTree.mono _ _ | exact spec_DrawSizesOf.mono _ _ | exact spec_HeightOf.mono _ _ | exact spec_IsTree.mono _ _ | exact spec_LeavesOf.mono _ _ | exact spec_LevelOrderOf.mono _ _ | exact spec_ParentsOf.mono _ _ | exact spec_ParseTree.mono _ _ | exact spec_PostorderOf.mono _ _ | exact spec_SizesOf.mono _ _ | exact spec_TreeText.mono _ _ | exact LeO.none _ | refine LeO.ite ?_ ?_ | refine LeO.bind ?_ (fun _ => ?_)
theorem laws_FnTrees.mono : ∀ a0 k, LeO (laws_FnTrees.f k a0) (laws_FnTrees.f (k + 1) a0) := by
  intro a0 k
  obtain ⟨ih0, ih1, ih2, ih3, ih4⟩ := laws_FnTrees.mono_l k
  unfold laws_FnTrees.f
  repeat' first | (with_reducible first | exact ih0 _ _ _ _ _ _ _ _ _ _ _ | exact ih1 _ | exact ih2 _ _ _ _ _ _ _ _ _ _ | exact ih3 _ _ _ _ _ _ _ _ _ _ _ | exact ih4 _ _ _ _ _ _ _ _ _ _ _ _ _ _ _ _ _ | exact impl_ChildrenOf.mono _ _ _ | exact impl_DepthsOf.mono _ _ | exact impl_HeightOf.mono _ _ | exact impl_IsTree.mono _ _ | exact impl_LeavesOf.mono _ _ | exact impl_LevelOrderOf.mono _ _ | exact impl_ParentsOf.mono _ _ | exact impl_ParseTree.mono _ _ | exact impl_PostorderOf.mono _ _ | exact impl_SizesOf.mono _ _ | exact impl_TreeText.mono _ _ | exact laws_hasInt.mono _ _ _ | exact laws_likeInts.mono _ _ _ | exact laws_sum.mono _ _ | exact laws_trees5.mono _ _ _ | exact spec_ChildrenOf.mono _ _ _ | exact spec_DepthsOf.mono _ _ | exact spec_DrawChildrenOf.mono _ _ | exact spec_DrawParseTree.mono _ _ | exact spec_DrawSizesOf.mono _ _ | exact spec_HeightOf.mono _ _ | exact spec_IsTree.mono _ _ | exact spec_LeavesOf.mono _ _ | exact spec_LevelOrderOf.mono _ _ | exact spec_ParentsOf.mono _ _ | exact spec_ParseTree.mono _ _ | exact spec_PostorderOf.mono _ _ | exact spec_SizesOf.mono _ _ | exact spec_TreeText.mono _ _ | exact LeO.refl _ | exact LeO.none _ | refine LeO.ite ?_ ?_ | refine LeO.bind ?_ (fun _ => ?_)) | exact ih0 _ _ _ _ _ _ _ _ _ _ _ | exact ih1 _ | exact ih2 _ _ _ _ _ _ _ _ _ _ | exact ih3 _ _ _ _ _ _ _ _ _ _ _ | exact ih4 _ _ _ _ _ _ _ _ _ _ _ _ _ _ _ _ _ | exact impl_ChildrenOf.mono _ _ _ | exact impl_DepthsOf.mono _ _ | exact impl_HeightOf.mono _ _ | exact impl_IsTree.mono _ _ | exact impl_LeavesOf.mono _ _ | exact impl_LevelOrderOf.mono _ _ | exact impl_ParentsOf.mono _ _ | exact impl_ParseTree.mono _ _ | exact impl_PostorderOf.mono _ _ | exact impl_SizesOf.mono _ _ | exact impl_TreeText.mono _ _ | exact laws_hasInt.mono _ _ _ | exact laws_likeInts.mono _ _ _ | exact laws_sum.mono _ _ | exact laws_trees5.mono _ _ _ | exact spec_ChildrenOf.mono _ _ _ | exact spec_DepthsOf.mono _ _ | exact spec_DrawChildrenOf.mono _ _ | exact spec_DrawParseTree.mono _ _ | exact spec_DrawSizesOf.mono _ _ | exact spec_HeightOf.mono _ _ | exact spec_IsTree.mono _ _ | exact spec_LeavesOf.mono _ _ | exact spec_LevelOrderOf.mono _ _ | exact spec_ParentsOf.mono _ _ | exact spec_ParseTree.mono _ _ | exact spec_PostorderOf.mono _ _ | exact spec_SizesOf.mono _ _ | exact spec_TreeText.mono _ _ | exact LeO.none _ | refine LeO.ite ?_ ?_ | refine LeO.bind ?_ (fun _ => ?_)
def laws_FnTrees.T18 : Bool × List (List Nat × List Nat) := (true, [([], []), ([], []), ([0, 1], [0, 1]), ([2], [2]), ([3], [3]), ([3], [3]), ([4, 5, 3, 3], [3, 4, 5]), ([6, 3], [3, 6]), ([3, 7], [3, 7]), ([8, 6], [8]), ([9], [9]), ([9], [9]), ([10, 11, 9], [9, 10, 11]), ([9, 12], [9, 12]), ([13, 9], [13]), ([14], [14]), ([14], [14]), ([15, 16, 14, 14], [14, 15, 16]), ([17, 14], [14, 17]), ([14, 18], [14, 18]), ([19, 17], [19]), ([20], [20]), ([20], [20]), ([21, 22, 20], [20, 21, 22]), ([20, 23], [20, 23]), ([24, 20], [24]), ([25], [25]), ([25], [25]), ([26, 27, 25, 25], [25, 26, 27]), ([28, 25], [25, 28]), ([25, 29], [25, 29]), ([30, 28], [30]), ([31], [31]), ([31], [31]), ([32, 33, 31], [31, 32, 33]), ([31, 34], [31, 34]), ([35, 31], [35]), ([36], [36]), ([36], [36]), ([37, 38, 36, 36], [36, 37, 38]), ([39, 36], [36, 39]), ([36, 40], [36, 40]), ([41, 39], [41]), ([42], [42]), ([42], [42]), ([43, 44, 42], [42, 43, 44]), ([42, 45], [42, 45]), ([46, 42], [46]), ([47], [47]), ([47], [47]), ([48, 49, 47, 47], [47, 48, 49]), ([50, 47], [47, 50]), ([47, 51], [47, 51]), ([52, 50], [52]), ([53], [53]), ([53], [53]), ([54, 55, 53], [53, 54, 55]), ([53, 56], [53, 56]), ([57, 53], [57]), ([58], [58]), ([58], [58]), ([59, 60, 58, 58], [58, 59, 60]), ([61, 58], [58, 61]), ([58, 62], [58, 62]), ([63, 61], [63]), ([64], [64]), ([64], [64]), ([65, 66, 64], [64, 65, 66]), ([64, 67], [64, 67]), ([68, 64], [68]), ([69], [69]), ([69], [69]), ([70, 71, 69], [69, 70, 71]), ([69, 72], [69, 72]), ([73, 69], [73]), ([74], [74]), ([75, 74, 74], [74, 75]), ([74], [74]), ([77, 76, 74], [74, 77]), ([76, 78, 74], [74, 76, 78]), ([74, 79], [74, 79])])
def laws_FnTrees.B18 : List Nat := [0, 0, 3, 7, 15, 15, 63, 127, 255, 511, 1023, 1023, 4095, 8191, 16383, 32767, 32767, 131071, 262143, 524287, 1048575, 2097151, 2097151, 8388607, 16777215, 33554431, 67108863, 67108863, 268435455, 536870911, 1073741823, 2147483647, 4294967295, 4294967295, 17179869183, 34359738367, 68719476735, 137438953471, 137438953471, 549755813887, 1099511627775, 2199023255551, 4398046511103, 8796093022207, 8796093022207, 35184372088831, 70368744177663, 140737488355327, 281474976710655, 281474976710655, 1125899906842623, 2251799813685247, 4503599627370495, 9007199254740991, 18014398509481983, 18014398509481983, 72057594037927935, 144115188075855871, 288230376151711743, 576460752303423487, 576460752303423487, 2305843009213693951, 4611686018427387903, 9223372036854775807, 18446744073709551615, 36893488147419103231, 36893488147419103231, 147573952589676412927, 295147905179352825855, 590295810358705651711, 1180591620717411303423, 1180591620717411303423, 4722366482869645213695, 9444732965739290427391, 18889465931478580854783, 37778931862957161709567, 75557863725914323419135, 37778931862957161709567, 302231454903657293676543, 604462909807314587353087, 1208925819614629174706175]
theorem laws_FnTrees.tab18 : rtab .any (opsOf Try.f3 18) = laws_FnTrees.T18 := by kernel_rfl
theorem laws_FnTrees.bits18 : waitsOk laws_FnTrees.T18.2 laws_FnTrees.B18 = true := by kernel_rfl
def laws_FnTrees.T23 : Bool × List (List Nat × List Nat) := (true, [([], []), ([0], [0]), ([1], [1]), ([2], [2]), ([3, 2], [2, 3]), ([2, 4], [2, 4]), ([5, 2], [5]), ([6], [6]), ([6], [6]), ([7, 8, 6, 6], [6, 7, 8]), ([9, 6], [6, 9]), ([6, 10], [6, 10]), ([11, 9], [11]), ([12], [12]), ([13, 12], [12, 13]), ([12], [12]), ([15, 12], [12, 15]), ([16, 12], [12, 16]), ([17, 12], [12, 17]), ([14, 18, 12], [12, 14, 18]), ([12, 19], [12, 19]), ([20, 12], [20]), ([21], [21]), ([22, 21], [21, 22]), ([21], [21]), ([24, 21], [21, 24]), ([23, 25, 21], [21, 23, 25]), ([21, 26], [21, 26]), ([27, 21], [27]), ([28], [28]), ([29, 28], [28, 29]), ([28], [28]), ([31, 28], [28, 31]), ([30, 32, 28], [28, 30, 32]), ([28, 33], [28, 33]), ([34, 28], [34]), ([35], [35]), ([36, 35, 35], [35, 36]), ([35], [35]), ([38, 37, 35], [35, 38]), ([35], [35]), ([40, 35], [35, 40]), ([41, 35], [35, 41]), ([39, 42, 35], [35, 39, 42]), ([37, 43, 35], [35, 37, 43]), ([35, 44], [35, 44])])
def laws_FnTrees.B23 : List Nat := [0, 1, 3, 7, 15, 31, 63, 127, 127, 511, 1023, 2047, 4095, 8191, 16383, 8191, 40959, 106495, 237567, 524287, 1048575, 2097151, 4194303, 8388607, 4194303, 20971519, 67108863, 134217727, 268435455, 536870911, 1073741823, 536870911, 2684354559, 8589934591, 17179869183, 34359738367, 68719476735, 137438953471, 68719476735, 549755813887, 68719476735, 1168231104511, 3367254360063, 8796093022207, 17592186044415, 35184372088831]
theorem laws_FnTrees.tab23 : rtab .any (opsOf Try.f3 23) = laws_FnTrees.T23 := by kernel_rfl
theorem laws_FnTrees.bits23 : waitsOk laws_FnTrees.T23.2 laws_FnTrees.B23 = true := by kernel_rfl
def laws_FnTrees.T33 : Bool × List (List Nat × List Nat) := (true, [([], []), ([], []), ([0, 1], [0, 1]), ([2], [2]), ([3], [3]), ([4], [4]), ([5], [5]), ([5], [5]), ([6, 7, 5], [5, 6, 7]), ([8, 5], [5, 8]), ([5], [5]), ([10, 5], [5, 10]), ([11, 5], [5, 11]), ([9, 12, 5], [5, 9, 12]), ([5, 13], [5, 13]), ([14, 5], [14]), ([15], [15]), ([15], [15]), ([15], [15]), ([17, 18, 15], [15, 17, 18]), ([19, 15], [15, 19]), ([16, 20, 15], [15, 16, 20]), ([21, 15], [15, 21]), ([15], [15]), ([22, 23, 15], [15, 22, 23]), ([15, 24], [15, 24]), ([25, 15], [25]), ([26], [26]), ([26], [26]), ([26], [26]), ([28, 29, 26], [26, 28, 29]), ([30, 26], [26, 30]), ([27, 31, 26], [26, 27, 31]), ([32, 26], [26, 32]), ([26], [26]), ([26], [26]), ([34, 35, 26], [26, 34, 35]), ([36, 26], [26, 36]), ([37, 26], [26, 37]), ([33, 38, 26], [26, 33, 38]), ([26, 39], [26, 39])])
def laws_FnTrees.B33 : List Nat := [0, 0, 3, 7, 15, 31, 63, 63, 255, 511, 63, 1087, 3135, 8191, 16383, 32767, 65535, 65535, 65535, 458751, 983039, 2097151, 4194303, 65535, 16777215, 33554431, 67108863, 134217727, 134217727, 134217727, 939524095, 2013265919, 4294967295, 8589934591, 134217727, 134217727, 51673825279, 120393302015, 257832255487, 549755813887, 1099511627775]
theorem laws_FnTrees.tab33 : rtab .any (opsOf Try.f3 33) = laws_FnTrees.T33 := by kernel_rfl
theorem laws_FnTrees.bits33 : waitsOk laws_FnTrees.T33.2 laws_FnTrees.B33 = true := by kernel_rfl
theorem laws_FnTrees.Z0 {p : Prop} (h : p := by (with_reducible repeat (first | apply Kd.R_alloc | apply Kd.R_drewN | apply Kd.R_drew)); exact (Kd.R_mono (Kd.R_far (p := ⟨gb751, 0, none⟩) (Kd.R_types HO_656000.out BK751.out (by decide)) (fun _ hk => hk.2) (.slice Ao308 t747.length co308)) (fun _ h_ => h_.1))) : p := h
theorem laws_FnTrees.Z1 {p : Prop} (h : p := by (with_reducible repeat (first | apply Kd.R_alloc | apply Kd.R_drewN | apply Kd.R_drew)); exact (Kd.R_mono (Kd.R_far (p := ⟨gb765, 0, none⟩) (Kd.R_types HO_656000.out BK765.out (by decide)) (fun _ hk => hk.2) (.slice Ao317 t761.length co317)) (fun _ h_ => h_.1))) : p := h
theorem laws_FnTrees.Z2 {p : Prop} (h : p := by (with_reducible repeat (first | apply Kd.R_alloc | apply Kd.R_drewN | apply Kd.R_drew)); exact (Kd.R_mono (Kd.R_far (p := ⟨gb765, 0, none⟩) (Kd.R_types HO749.out BK765.out (by decide)) (fun _ hk => hk.2) (.slice Ao317 t761.length co317)) (fun _ h_ => h_.1))) : p := h
theorem laws_FnTrees.Z3 {p : Prop} (h : p := by (with_reducible repeat (first | apply Kd.R_alloc | apply Kd.R_drewN | apply Kd.R_drew)); exact (Kd.R_mono (Kd.R_far (p := ⟨gb765, 0, none⟩) (Kd.R_types HO754.out BK765.out (by decide)) (fun _ hk => hk.2) (.slice Ao317 t761.length co317)) (fun _ h_ => h_.1))) : p := h
theorem laws_FnTrees.Z4 {p : Prop} (h : p := by (with_reducible repeat (first | apply Kd.R_alloc | apply Kd.R_drewN | apply Kd.R_drew)); exact (Kd.R_mono (Kd.R_far (p := ⟨gb765, 0, none⟩) (Kd.R_types HO758.out BK765.out (by decide)) (fun _ hk => hk.2) (.slice Ao317 t761.length co317)) (fun _ h_ => h_.1))) : p := h
theorem laws_FnTrees.Z5 {p : Prop} (h : p := by (with_reducible repeat (first | apply Kd.R_alloc | apply Kd.R_drewN | apply Kd.R_drew)); exact (Kd.R_mono (Kd.R_far (p := ⟨gb765, 0, none⟩) (Kd.R_types HO763.out BK765.out (by decide)) (fun _ hk => hk.2) (.slice Ao317 t761.length co317)) (fun _ h_ => h_.1))) : p := h
theorem laws_FnTrees.Z6 {p : Prop} (h : p := by (with_reducible repeat (first | apply Kd.R_alloc | apply Kd.R_drewN | apply Kd.R_drew)); exact (Kd.R_mono (Kd.R_far (p := ⟨gb770, 0, none⟩) (Kd.R_types HO749.out BK770.out (by decide)) (fun _ hk => hk.2) (.slice Ao323 t766.length co323)) (fun _ h_ => h_.1))) : p := h
theorem laws_FnTrees.Z7 {p : Prop} (h : p := by (with_reducible repeat (first | apply Kd.R_alloc | apply Kd.R_drewN | apply Kd.R_drew)); exact (Kd.R_mono (Kd.R_far (p := ⟨gb751, 0, none⟩) (Kd.R_types HO749.out BK751.out (by decide)) (fun _ hk => hk.2) (.slice Ao308 t747.length co308)) (fun _ h_ => h_.1))) : p := h
theorem laws_FnTrees.Z8 {p : Prop} (h : p := by (with_reducible repeat (first | apply Kd.R_alloc | apply Kd.R_drewN | apply Kd.R_drew)); exact (Kd.R_mono (Kd.R_far (p := ⟨gb655, 0, none⟩) (Kd.R_types HO654.out BK655.out (by decide)) (fun _ hk => hk.2) (.slice Ao22 t652.length co22)) (fun _ h_ => h_.1))) : p := h
theorem laws_FnTrees.Z9 {p : Prop} (h : p := by first | (with_reducible assumption) | assumption) : p := h
theorem laws_FnTrees.Z10 {p : Prop} (h : p := by first | rfl | (simp; done) | (simp [*]; done)) : p := h
theorem laws_FnTrees.calls (k : Nat) (A0 : Option Addr) (c0 : Nat) (l0 : List Int) (r : Bool) (w : World) (hr0 : Kd.C (Kd.int .u8) w A0 l0.length l0) (hc0 : l0.length ≤ c0) (h : laws_FnTrees.f k l0 = some r) :
  Calls Try.prog 3 #[.slice A0 l0.length c0] w fun e w' => e = .returned (.bool r) ∧ Below w.heap.size w w' := by
 have hu26 := Try.underlying26
 have HR0 := A_ hr0
 have HC0 := A_ hc0
 clear hr0 hc0
 have HB := A_ (Below.refl w.heap.size w)
 have H : ((laws_big.f l0).bind fun t651 => (if t651 = true then (some true) else ((spec_DrawSizesOf.f k l0).bind fun t652 => ((impl_SizesOf.f k t652).bind fun bt656 => ((spec_SizesOf.f k t652).bind fun bt660 => ((impl_ParentsOf.f k t652).bind fun bt664 => ((spec_ParentsOf.f k t652).bind fun bt668 => ((impl_DepthsOf.f k t652).bind fun bt672 => ((spec_DepthsOf.f k t652).bind fun bt676 => ((impl_LeavesOf.f k t652).bind fun bt680 => ((spec_LeavesOf.f k t652).bind fun bt684 => ((impl_PostorderOf.f k t652).bind fun bt688 => ((spec_PostorderOf.f k t652).bind fun bt692 => ((impl_LevelOrderOf.f k t652).bind fun bt696 => ((spec_LevelOrderOf.f k t652).bind fun bt700 => ((impl_HeightOf.f k t652).bind fun bt704 => ((spec_HeightOf.f k t652).bind fun bt706 => (if bt656.2 = bt660.2 then ((laws_likeInts.f k bt656.1 bt660.1).bind fun t708 => (if t708 = true then (if bt664.2 = bt668.2 then ((laws_likeInts.f k bt664.1 bt668.1).bind fun t709 => (if t709 = true then (if bt672.2 = bt676.2 then ((laws_likeInts.f k bt672.1 bt676.1).bind fun t710 => (if t710 = true then (if bt680.2 = bt684.2 then ((laws_likeInts.f k bt680.1 bt684.1).bind fun t711 => (if t711 = true then (if bt688.2 = bt692.2 then ((laws_likeInts.f k bt688.1 bt692.1).bind fun t712 => (if t712 = true then (if bt696.2 = bt700.2 then ((laws_likeInts.f k bt696.1 bt700.1).bind fun t713 => (if t713 = true then (if bt704.2 = bt706.2 then (if bt704.1 = bt706.1 then ((impl_IsTree.f k t652).bind fun t714 => ((spec_IsTree.f k t652).bind fun t715 => (laws_FnTrees.j0 k l0 bt656.1 bt656.2 bt664.1 bt672.1 bt680.1 bt688.1 bt696.1 bt704.1 (t714 != t715) t652))) else (laws_FnTrees.j0 k l0 bt656.1 bt656.2 bt664.1 bt672.1 bt680.1 bt688.1 bt696.1 bt704.1 true t652)) else (laws_FnTrees.j0 k l0 bt656.1 bt656.2 bt664.1 bt672.1 bt680.1 bt688.1 bt696.1 bt704.1 true t652)) else (laws_FnTrees.j0 k l0 bt656.1 bt656.2 bt664.1 bt672.1 bt680.1 bt688.1 bt696.1 bt704.1 true t652))) else (laws_FnTrees.j0 k l0 bt656.1 bt656.2 bt664.1 bt672.1 bt680.1 bt688.1 bt696.1 bt704.1 true t652)) else (laws_FnTrees.j0 k l0 bt656.1 bt656.2 bt664.1 bt672.1 bt680.1 bt688.1 bt696.1 bt704.1 true t652))) else (laws_FnTrees.j0 k l0 bt656.1 bt656.2 bt664.1 bt672.1 bt680.1 bt688.1 bt696.1 bt704.1 true t652)) else (laws_FnTrees.j0 k l0 bt656.1 bt656.2 bt664.1 bt672.1 bt680.1 bt688.1 bt696.1 bt704.1 true t652))) else (laws_FnTrees.j0 k l0 bt656.1 bt656.2 bt664.1 bt672.1 bt680.1 bt688.1 bt696.1 bt704.1 true t652)) else (laws_FnTrees.j0 k l0 bt656.1 bt656.2 bt664.1 bt672.1 bt680.1 bt688.1 bt696.1 bt704.1 true t652))) else (laws_FnTrees.j0 k l0 bt656.1 bt656.2 bt664.1 bt672.1 bt680.1 bt688.1 bt696.1 bt704.1 true t652)) else (laws_FnTrees.j0 k l0 bt656.1 bt656.2 bt664.1 bt672.1 bt680.1 bt688.1 bt696.1 bt704.1 true t652))) else (laws_FnTrees.j0 k l0 bt656.1 bt656.2 bt664.1 bt672.1 bt680.1 bt688.1 bt696.1 bt704.1 true t652)) else (laws_FnTrees.j0 k l0 bt656.1 bt656.2 bt664.1 bt672.1 bt680.1 bt688.1 bt696.1 bt704.1 true t652))) else (laws_FnTrees.j0 k l0 bt656.1 bt656.2 bt664.1 bt672.1 bt680.1 bt688.1 bt696.1 bt704.1 true t652))))))))))))))))))) = some r := h
 clear h
 replace H := Option.bind_eq_some_iff.mp H
 obtain ⟨t651, A20, H⟩ := H
 try dsimp only at H
 have A2 := A_ A20
 clear A20
 by_cases c3 : t651 = true
 ·subst c3
  have H1 : (some true) = some r := by rw [if_pos rfl] at H; exact H
  clear H
  have H := H1
  clear H1
  obtain rfl := Option.some.inj H
  go_enter Try.func3, Try.ntmps3
  go_wp2_with (first | ((with_reducible refine gate_callee (f := 7) rfl ?_); refine goesL_ (some 57) rfl rfl Try.func7 (by kernel_rfl) rfl #[.slice A0 l0.length c0] rfl eg ?_; (with_reducible refine (laws_big.calls _ _ l0 true _ ?side1 ?side2 A2.out).mono ?_); (case side1 => repeat (first | exact HR0.out | (with_reducible refine Kd.C_alloc ?_ _) | (with_reducible refine Kd.C_drewN ?_ _) | (with_reducible refine Kd.C_drew ?_))); (case side2 => exact HC0.out); rintro e w' ⟨rfl, ⟨nd, rfl⟩⟩; refine ⟨_, rfl, ?_⟩))
  go_ret
  exact ⟨er, el HB⟩
 ·replace c3 := Bool.eq_false_iff.mpr c3
  subst c3
  have H1 : ((spec_DrawSizesOf.f k l0).bind fun t652 => ((impl_SizesOf.f k t652).bind fun bt656 => ((spec_SizesOf.f k t652).bind fun bt660 => ((impl_ParentsOf.f k t652).bind fun bt664 => ((spec_ParentsOf.f k t652).bind fun bt668 => ((impl_DepthsOf.f k t652).bind fun bt672 => ((spec_DepthsOf.f k t652).bind fun bt676 => ((impl_LeavesOf.f k t652).bind fun bt680 => ((spec_LeavesOf.f k t652).bind fun bt684 => ((impl_PostorderOf.f k t652).bind fun bt688 => ((spec_PostorderOf.f k t652).bind fun bt692 => ((impl_LevelOrderOf.f k t652).bind fun bt696 => ((spec_LevelOrderOf.f k t652).bind fun bt700 => ((impl_HeightOf.f k t652).bind fun bt704 => ((spec_HeightOf.f k t652).bind fun bt706 => (if bt656.2 = bt660.2 then ((laws_likeInts.f k bt656.1 bt660.1).bind fun t708 => (if t708 = true then (if bt664.2 = bt668.2 then ((laws_likeInts.f k bt664.1 bt668.1).bind fun t709 => (if t709 = true then (if bt672.2 = bt676.2 then ((laws_likeInts.f k bt672.1 bt676.1).bind fun t710 => (if t710 = true then (if bt680.2 = bt684.2 then ((laws_likeInts.f k bt680.1 bt684.1).bind fun t711 => (if t711 = true then (if bt688.2 = bt692.2 then ((laws_likeInts.f k bt688.1 bt692.1).bind fun t712 => (if t712 = true then (if bt696.2 = bt700.2 then ((laws_likeInts.f k bt696.1 bt700.1).bind fun t713 => (if t713 = true then (if bt704.2 = bt706.2 then (if bt704.1 = bt706.1 then ((impl_IsTree.f k t652).bind fun t714 => ((spec_IsTree.f k t652).bind fun t715 => (laws_FnTrees.j0 k l0 bt656.1 bt656.2 bt664.1 bt672.1 bt680.1 bt688.1 bt696.1 bt704.1 (t714 != t715) t652))) else (laws_FnTrees.j0 k l0 bt656.1 bt656.2 bt664.1 bt672.1 bt680.1 bt688.1 bt696.1 bt704.1 true t652)) else (laws_FnTrees.j0 k l0 bt656.1 bt656.2 bt664.1 bt672.1 bt680.1 bt688.1 bt696.1 bt704.1 true t652)) else (laws_FnTrees.j0 k l0 bt656.1 bt656.2 bt664.1 bt672.1 bt680.1 bt688.1 bt696.1 bt704.1 true t652))) else (laws_FnTrees.j0 k l0 bt656.1 bt656.2 bt664.1 bt672.1 bt680.1 bt688.1 bt696.1 bt704.1 true t652)) else (laws_FnTrees.j0 k l0 bt656.1 bt656.2 bt664.1 bt672.1 bt680.1 bt688.1 bt696.1 bt704.1 true t652))) else (laws_FnTrees.j0 k l0 bt656.1 bt656.2 bt664.1 bt672.1 bt680.1 bt688.1 bt696.1 bt704.1 true t652)) else (laws_FnTrees.j0 k l0 bt656.1 bt656.2 bt664.1 bt672.1 bt680.1 bt688.1 bt696.1 bt704.1 true t652))) else (laws_FnTrees.j0 k l0 bt656.1 bt656.2 bt664.1 bt672.1 bt680.1 bt688.1 bt696.1 bt704.1 true t652)) else (laws_FnTrees.j0 k l0 bt656.1 bt656.2 bt664.1 bt672.1 bt680.1 bt688.1 bt696.1 bt704.1 true t652))) else (laws_FnTrees.j0 k l0 bt656.1 bt656.2 bt664.1 bt672.1 bt680.1 bt688.1 bt696.1 bt704.1 true t652)) else (laws_FnTrees.j0 k l0 bt656.1 bt656.2 bt664.1 bt672.1 bt680.1 bt688.1 bt696.1 bt704.1 true t652))) else (laws_FnTrees.j0 k l0 bt656.1 bt656.2 bt664.1 bt672.1 bt680.1 bt688.1 bt696.1 bt704.1 true t652)) else (laws_FnTrees.j0 k l0 bt656.1 bt656.2 bt664.1 bt672.1 bt680.1 bt688.1 bt696.1 bt704.1 true t652))) else (laws_FnTrees.j0 k l0 bt656.1 bt656.2 bt664.1 bt672.1 bt680.1 bt688.1 bt696.1 bt704.1 true t652))))))))))))))))) = some r := by rw [if_neg (show ¬ (false = true) by decide)] at H; exact H
  clear H
  have H := H1
  clear H1
  replace H := Option.bind_eq_some_iff.mp H
  obtain ⟨t652, A40, H⟩ := H
  try dsimp only at H
  have A4 := A_ A40
  clear A40
  replace H := Option.bind_eq_some_iff.mp H
  obtain ⟨⟨t656, t659⟩, A50, H⟩ := H
  try dsimp only at H
  have A5 := A_ A50
  clear A50
  replace H := Option.bind_eq_some_iff.mp H
  obtain ⟨⟨t660, t663⟩, A60, H⟩ := H
  try dsimp only at H
  have A6 := A_ A60
  clear A60
  replace H := Option.bind_eq_some_iff.mp H
  obtain ⟨⟨t664, t667⟩, A70, H⟩ := H
  try dsimp only at H
  have A7 := A_ A70
  clear A70
  replace H := Option.bind_eq_some_iff.mp H
  obtain ⟨⟨t668, t671⟩, A80, H⟩ := H
  try dsimp only at H
  have A8 := A_ A80
  clear A80
  replace H := Option.bind_eq_some_iff.mp H
  obtain ⟨⟨t672, t675⟩, A90, H⟩ := H
  try dsimp only at H
  have A9 := A_ A90
  clear A90
  replace H := Option.bind_eq_some_iff.mp H
  obtain ⟨⟨t676, t679⟩, A100, H⟩ := H
  try dsimp only at H
  have A10 := A_ A100
  clear A100
  replace H := Option.bind_eq_some_iff.mp H
  obtain ⟨⟨t680, t683⟩, A110, H⟩ := H
  try dsimp only at H
  have A11 := A_ A110
  clear A110
  replace H := Option.bind_eq_some_iff.mp H
  obtain ⟨⟨t684, t687⟩, A120, H⟩ := H
  try dsimp only at H
  have A12 := A_ A120
  clear A120
  replace H := Option.bind_eq_some_iff.mp H
  obtain ⟨⟨t688, t691⟩, A130, H⟩ := H
  try dsimp only at H
  have A13 := A_ A130
  clear A130
  replace H := Option.bind_eq_some_iff.mp H
  obtain ⟨⟨t692, t695⟩, A140, H⟩ := H
  try dsimp only at H
  have A14 := A_ A140
  clear A140
  replace H := Option.bind_eq_some_iff.mp H
  obtain ⟨⟨t696, t699⟩, A150, H⟩ := H
  try dsimp only at H
  have A15 := A_ A150
  clear A150
  replace H := Option.bind_eq_some_iff.mp H
  obtain ⟨⟨t700, t703⟩, A160, H⟩ := H
  try dsimp only at H
  have A16 := A_ A160
  clear A160
  replace H := Option.bind_eq_some_iff.mp H
  obtain ⟨⟨t704, t705⟩, A170, H⟩ := H
  try dsimp only at H
  have A17 := A_ A170
  clear A170
  replace H := Option.bind_eq_some_iff.mp H
  obtain ⟨⟨t706, t707⟩, A180, H⟩ := H
  try dsimp only at H
  have A18 := A_ A180
  clear A180
  have HC19 := A_ H
  clear H
  go_enter Try.func3, Try.ntmps3
  go_upto_region 18 with (first | ((with_reducible refine gate_callee (f := 7) rfl ?_); refine goesL_ (some 57) rfl rfl Try.func7 (by kernel_rfl) rfl #[.slice A0 l0.length c0] rfl eg ?_; (with_reducible refine (laws_big.calls _ _ l0 false _ ?side1 ?side2 A2.out).mono ?_); (case side1 => repeat (first | exact HR0.out | (with_reducible refine Kd.C_alloc ?_ _) | (with_reducible refine Kd.C_drewN ?_ _) | (with_reducible refine Kd.C_drew ?_))); (case side2 => exact HC0.out); rintro e w' ⟨rfl, ⟨nd, rfl⟩⟩; refine ⟨_, rfl, ?_⟩) | ((with_reducible refine gate_callee (f := 8) rfl ?_); refine goesL_ (some 59) rfl rfl Try.func8 (by kernel_rfl) rfl #[.slice A0 l0.length c0] rfl eg ?_; (with_reducible refine (spec_DrawSizesOf.calls k _ _ l0 t652 _ ?side1 ?side2 A4.out).mono ?_); (case side1 => repeat (first | exact HR0.out | (with_reducible refine Kd.C_alloc ?_ _) | (with_reducible refine Kd.C_drewN ?_ _) | (with_reducible refine Kd.C_drew ?_))); (case side2 => exact HC0.out); rintro e w20 ⟨v653, rfl, ho0, hb⟩; refine ⟨_, rfl, ?_⟩; have HO654 := A_ (Kd.R_lower ho0 (below_size (el HB))); replace HB := A_ (below_step (el HB) hb); (try clear hb); (try clear hb2); (try clear hk); (try clear hi); (try clear ho0)) | ((with_reducible refine gate_dst (N := 3) rfl ?_); (try (refine gate_guard (by rfl) ?_; dsimp only)); refine bx 3 #[.slice none 0 0] 26 ?_; intro gb655 hg w21 hbox hb; replace HO654 := A_ (Kd.R_below (ea HO654) hb); have BK655 := A_ hbox; have GW655 := A_ (eG hg (below_size (el HB)) : w.heap.size ≤ gb655); have GE655 := A_ (eG hg (below_size (el HB)) : w.heap.size ≤ gb655); replace HB := A_ (below_step (el HB) hb); clear hb hbox hg; obtain ⟨Ao22, co22, eo22⟩ := Kd.R_slice HO654.out; subst eo22; have hcz23_0 : w21.cell? ⟨gb655, 0, none⟩ = some (.slice none 0 0) := (blk_cell BK655.out 0).trans rfl; have hfz23_0 := blk_frozen BK655.out 0) | ((with_reducible refine gate_callee (f := 9) rfl ?_); refine goesL_ (some 62) rfl rfl Try.func9 (by kernel_rfl) rfl #[.agg #[.slice Ao22 t652.length co22]] rfl eg ?_; (with_reducible refine (impl_SizesOf.calls k _ _ t652 t656 t659 _ ?side1 ?side2 A5.out).mono ?_); (case side1 => refine (Kd.R_reads' (e := 2) (base := w.heap.size) (ok := fun k_ => True) (n := t652.length) (c := co22) ?_).2.2; exact laws_FnTrees.Z8); (case side2 => exact (Kd.R_reads' HO654.out).2.1); rintro e w24 ⟨v657, rfl, ho0, hb⟩; refine ⟨_, rfl, ?_⟩; have HO658 := A_ (Kd.R_lower (Kd.R_new' ho0 (Kd.R_lt laws_FnTrees.Z8)) (below_size (el HB))); replace HO654 := A_ (Kd.R_elder' laws_FnTrees.Z8 (Kd.R_base ho0) hb); replace BK655 := A_ (blk_below (g := gb655) (o := .cells #[.slice Ao22 t652.length co22] 26 (0, 0)) (by (with_reducible repeat (first | refine blk_drewN ?_ _ | refine blk_drew ?_ | refine blk_alloc ?_ _)); refine blk_put (cs := #[.slice none 0 0]) ?_ 0 _ rfl; (with_reducible repeat (first | refine blk_drewN ?_ _ | refine blk_drew ?_ | refine blk_alloc ?_ _)); exact BK655.out) hb); replace HB := A_ (below_step (el HB) hb); (try clear hb); (try clear hb2); (try clear hk); (try clear hi); (try clear ho0); have hcz25_0 : w24.cell? ⟨gb655, 0, none⟩ = some (.slice Ao22 t652.length co22) := (blk_cell BK655.out 0).trans rfl; have hfz25_0 := blk_frozen BK655.out 0) | ((with_reducible refine gate_callee (f := 10) rfl ?_); refine goesL_ (some 67) rfl rfl Try.func10 (by kernel_rfl) rfl #[.agg #[.slice Ao22 t652.length co22]] rfl eg ?_; (with_reducible refine (spec_SizesOf.calls k _ _ t652 t660 t663 _ ?side1 ?side2 A6.out).mono ?_); (case side1 => exact cS ((Kd.R_reads' HO654.out).2.2)); (case side2 => exact (Kd.R_reads' HO654.out).2.1); rintro e w26 ⟨v661, rfl, ho0, hb⟩; refine ⟨_, rfl, ?_⟩; have HO662 := A_ (Kd.R_lower (Kd.R_new' (Kd.R_new' ho0 (Kd.R_lt (ea HO654))) (Kd.R_lt (ea HO658))) (below_size (el HB))); replace HO654 := A_ (Kd.R_elder' (ea HO654) (Kd.R_base ho0) hb); replace HO658 := A_ (Kd.R_elder' (ea HO658) (Kd.R_base ho0) hb); replace BK655 := A_ (eB BK655 hb); replace HB := A_ (below_step (el HB) hb); (try clear hb); (try clear hb2); (try clear hk); (try clear hi); (try clear ho0); have hcz27_0 : w26.cell? ⟨gb655, 0, none⟩ = some (.slice Ao22 t652.length co22) := (blk_cell BK655.out 0).trans rfl; have hfz27_0 := blk_frozen BK655.out 0) | ((with_reducible refine gate_callee (f := 11) rfl ?_); refine goesL_ (some 72) rfl rfl Try.func11 (by kernel_rfl) rfl #[.agg #[.slice Ao22 t652.length co22]] rfl eg ?_; (with_reducible refine (impl_ParentsOf.calls k _ _ t652 t664 t667 _ ?side1 ?side2 A7.out).mono ?_); (case side1 => exact cS ((Kd.R_reads' HO654.out).2.2)); (case side2 => exact (Kd.R_reads' HO654.out).2.1); rintro e w28 ⟨v665, rfl, ho0, hb⟩; refine ⟨_, rfl, ?_⟩; have HO666 := A_ (Kd.R_lower (Kd.R_new' (Kd.R_new' (Kd.R_new' ho0 (Kd.R_lt (ea HO654))) (Kd.R_lt (ea HO658))) (Kd.R_lt (ea HO662))) (below_size (el HB))); replace HO654 := A_ (Kd.R_elder' (ea HO654) (Kd.R_base ho0) hb); replace HO658 := A_ (Kd.R_elder' (ea HO658) (Kd.R_base ho0) hb); replace HO662 := A_ (Kd.R_elder' (ea HO662) (Kd.R_base ho0) hb); replace BK655 := A_ (eB BK655 hb); replace HB := A_ (below_step (el HB) hb); (try clear hb); (try clear hb2); (try clear hk); (try clear hi); (try clear ho0); have hcz29_0 : w28.cell? ⟨gb655, 0, none⟩ = some (.slice Ao22 t652.length co22) := (blk_cell BK655.out 0).trans rfl; have hfz29_0 := blk_frozen BK655.out 0) | ((with_reducible refine gate_callee (f := 12) rfl ?_); refine goesL_ (some 77) rfl rfl Try.func12 (by kernel_rfl) rfl #[.agg #[.slice Ao22 t652.length co22]] rfl eg ?_; (with_reducible refine (spec_ParentsOf.calls k _ _ t652 t668 t671 _ ?side1 ?side2 A8.out).mono ?_); (case side1 => exact cS ((Kd.R_reads' HO654.out).2.2)); (case side2 => exact (Kd.R_reads' HO654.out).2.1); rintro e w30 ⟨v669, rfl, ho0, hb⟩; refine ⟨_, rfl, ?_⟩; have HO670 := A_ (Kd.R_lower (Kd.R_new' (Kd.R_new' (Kd.R_new' (Kd.R_new' ho0 (Kd.R_lt (ea HO654))) (Kd.R_lt (ea HO658))) (Kd.R_lt (ea HO662))) (Kd.R_lt (ea HO666))) (below_size (el HB))); replace HO654 := A_ (Kd.R_elder' (ea HO654) (Kd.R_base ho0) hb); replace HO658 := A_ (Kd.R_elder' (ea HO658) (Kd.R_base ho0) hb); replace HO662 := A_ (Kd.R_elder' (ea HO662) (Kd.R_base ho0) hb); replace HO666 := A_ (Kd.R_elder' (ea HO666) (Kd.R_base ho0) hb); replace BK655 := A_ (eB BK655 hb); replace HB := A_ (below_step (el HB) hb); (try clear hb); (try clear hb2); (try clear hk); (try clear hi); (try clear ho0); have hcz31_0 : w30.cell? ⟨gb655, 0, none⟩ = some (.slice Ao22 t652.length co22) := (blk_cell BK655.out 0).trans rfl; have hfz31_0 := blk_frozen BK655.out 0) | ((with_reducible refine gate_callee (f := 13) rfl ?_); refine goesL_ (some 82) rfl rfl Try.func13 (by kernel_rfl) rfl #[.agg #[.slice Ao22 t652.length co22]] rfl eg ?_; (with_reducible refine (impl_DepthsOf.calls k _ _ t652 t672 t675 _ ?side1 ?side2 A9.out).mono ?_); (case side1 => exact cS ((Kd.R_reads' HO654.out).2.2)); (case side2 => exact (Kd.R_reads' HO654.out).2.1); rintro e w32 ⟨v673, rfl, ho0, hb⟩; refine ⟨_, rfl, ?_⟩; have HO674 := A_ (Kd.R_lower (Kd.R_new' (Kd.R_new' (Kd.R_new' (Kd.R_new' (Kd.R_new' ho0 (Kd.R_lt (ea HO654))) (Kd.R_lt (ea HO658))) (Kd.R_lt (ea HO662))) (Kd.R_lt (ea HO666))) (Kd.R_lt (ea HO670))) (below_size (el HB))); replace HO654 := A_ (Kd.R_elder' (ea HO654) (Kd.R_base ho0) hb); replace HO658 := A_ (Kd.R_elder' (ea HO658) (Kd.R_base ho0) hb); replace HO662 := A_ (Kd.R_elder' (ea HO662) (Kd.R_base ho0) hb); replace HO666 := A_ (Kd.R_elder' (ea HO666) (Kd.R_base ho0) hb); replace HO670 := A_ (Kd.R_elder' (ea HO670) (Kd.R_base ho0) hb); replace BK655 := A_ (eB BK655 hb); replace HB := A_ (below_step (el HB) hb); (try clear hb); (try clear hb2); (try clear hk); (try clear hi); (try clear ho0); have hcz33_0 : w32.cell? ⟨gb655, 0, none⟩ = some (.slice Ao22 t652.length co22) := (blk_cell BK655.out 0).trans rfl; have hfz33_0 := blk_frozen BK655.out 0) | ((with_reducible refine gate_callee (f := 14) rfl ?_); refine goesL_ (some 87) rfl rfl Try.func14 (by kernel_rfl) rfl #[.agg #[.slice Ao22 t652.length co22]] rfl eg ?_; (with_reducible refine (spec_DepthsOf.calls k _ _ t652 t676 t679 _ ?side1 ?side2 A10.out).mono ?_); (case side1 => exact cS ((Kd.R_reads' HO654.out).2.2)); (case side2 => exact (Kd.R_reads' HO654.out).2.1); rintro e w34 ⟨v677, rfl, ho0, hb⟩; refine ⟨_, rfl, ?_⟩; have HO678 := A_ (Kd.R_lower (Kd.R_new' (Kd.R_new' (Kd.R_new' (Kd.R_new' (Kd.R_new' (Kd.R_new' ho0 (Kd.R_lt (ea HO654))) (Kd.R_lt (ea HO658))) (Kd.R_lt (ea HO662))) (Kd.R_lt (ea HO666))) (Kd.R_lt (ea HO670))) (Kd.R_lt (ea HO674))) (below_size (el HB))); replace HO654 := A_ (Kd.R_elder' (ea HO654) (Kd.R_base ho0) hb); replace HO658 := A_ (Kd.R_elder' (ea HO658) (Kd.R_base ho0) hb); replace HO662 := A_ (Kd.R_elder' (ea HO662) (Kd.R_base ho0) hb); replace HO666 := A_ (Kd.R_elder' (ea HO666) (Kd.R_base ho0) hb); replace HO670 := A_ (Kd.R_elder' (ea HO670) (Kd.R_base ho0) hb); replace HO674 := A_ (Kd.R_elder' (ea HO674) (Kd.R_base ho0) hb); replace BK655 := A_ (eB BK655 hb); replace HB := A_ (below_step (el HB) hb); (try clear hb); (try clear hb2); (try clear hk); (try clear hi); (try clear ho0); have hcz35_0 : w34.cell? ⟨gb655, 0, none⟩ = some (.slice Ao22 t652.length co22) := (blk_cell BK655.out 0).trans rfl; have hfz35_0 := blk_frozen BK655.out 0) | ((with_reducible refine gate_callee (f := 15) rfl ?_); refine goesL_ (some 92) rfl rfl Try.func15 (by kernel_rfl) rfl #[.agg #[.slice Ao22 t652.length co22]] rfl eg ?_; (with_reducible refine (impl_LeavesOf.calls k _ _ t652 t680 t683 _ ?side1 ?side2 A11.out).mono ?_); (case side1 => exact cS ((Kd.R_reads' HO654.out).2.2)); (case side2 => exact (Kd.R_reads' HO654.out).2.1); rintro e w36 ⟨v681, rfl, ho0, hb⟩; refine ⟨_, rfl, ?_⟩; have HO682 := A_ (Kd.R_lower (Kd.R_new' (Kd.R_new' (Kd.R_new' (Kd.R_new' (Kd.R_new' (Kd.R_new' (Kd.R_new' ho0 (Kd.R_lt (ea HO654))) (Kd.R_lt (ea HO658))) (Kd.R_lt (ea HO662))) (Kd.R_lt (ea HO666))) (Kd.R_lt (ea HO670))) (Kd.R_lt (ea HO674))) (Kd.R_lt (ea HO678))) (below_size (el HB))); replace HO654 := A_ (Kd.R_elder' (ea HO654) (Kd.R_base ho0) hb); replace HO658 := A_ (Kd.R_elder' (ea HO658) (Kd.R_base ho0) hb); replace HO662 := A_ (Kd.R_elder' (ea HO662) (Kd.R_base ho0) hb); replace HO666 := A_ (Kd.R_elder' (ea HO666) (Kd.R_base ho0) hb); replace HO670 := A_ (Kd.R_elder' (ea HO670) (Kd.R_base ho0) hb); replace HO674 := A_ (Kd.R_elder' (ea HO674) (Kd.R_base ho0) hb); replace HO678 := A_ (Kd.R_elder' (ea HO678) (Kd.R_base ho0) hb); replace BK655 := A_ (eB BK655 hb); replace HB := A_ (below_step (el HB) hb); (try clear hb); (try clear hb2); (try clear hk); (try clear hi); (try clear ho0); have hcz37_0 : w36.cell? ⟨gb655, 0, none⟩ = some (.slice Ao22 t652.length co22) := (blk_cell BK655.out 0).trans rfl; have hfz37_0 := blk_frozen BK655.out 0) | ((with_reducible refine gate_callee (f := 16) rfl ?_); refine goesL_ (some 97) rfl rfl Try.func16 (by kernel_rfl) rfl #[.agg #[.slice Ao22 t652.length co22]] rfl eg ?_; (with_reducible refine (spec_LeavesOf.calls k _ _ t652 t684 t687 _ ?side1 ?side2 A12.out).mono ?_); (case side1 => exact cS ((Kd.R_reads' HO654.out).2.2)); (case side2 => exact (Kd.R_reads' HO654.out).2.1); rintro e w38 ⟨v685, rfl, ho0, hb⟩; refine ⟨_, rfl, ?_⟩; have HO686 := A_ (Kd.R_lower (Kd.R_new' (Kd.R_new' (Kd.R_new' (Kd.R_new' (Kd.R_new' (Kd.R_new' (Kd.R_new' (Kd.R_new' ho0 (Kd.R_lt (ea HO654))) (Kd.R_lt (ea HO658))) (Kd.R_lt (ea HO662))) (Kd.R_lt (ea HO666))) (Kd.R_lt (ea HO670))) (Kd.R_lt (ea HO674))) (Kd.R_lt (ea HO678))) (Kd.R_lt (ea HO682))) (below_size (el HB))); replace HO654 := A_ (Kd.R_elder' (ea HO654) (Kd.R_base ho0) hb); replace HO658 := A_ (Kd.R_elder' (ea HO658) (Kd.R_base ho0) hb); replace HO662 := A_ (Kd.R_elder' (ea HO662) (Kd.R_base ho0) hb); replace HO666 := A_ (Kd.R_elder' (ea HO666) (Kd.R_base ho0) hb); replace HO670 := A_ (Kd.R_elder' (ea HO670) (Kd.R_base ho0) hb); replace HO674 := A_ (Kd.R_elder' (ea HO674) (Kd.R_base ho0) hb); replace HO678 := A_ (Kd.R_elder' (ea HO678) (Kd.R_base ho0) hb); replace HO682 := A_ (Kd.R_elder' (ea HO682) (Kd.R_base ho0) hb); replace BK655 := A_ (eB BK655 hb); replace HB := A_ (below_step (el HB) hb); (try clear hb); (try clear hb2); (try clear hk); (try clear hi); (try clear ho0); have hcz39_0 : w38.cell? ⟨gb655, 0, none⟩ = some (.slice Ao22 t652.length co22) := (blk_cell BK655.out 0).trans rfl; have hfz39_0 := blk_frozen BK655.out 0) | ((with_reducible refine gate_callee (f := 17) rfl ?_); refine goesL_ (some 102) rfl rfl Try.func17 (by kernel_rfl) rfl #[.agg #[.slice Ao22 t652.length co22]] rfl eg ?_; (with_reducible refine (impl_PostorderOf.calls k _ _ t652 t688 t691 _ ?side1 ?side2 A13.out).mono ?_); (case side1 => exact cS ((Kd.R_reads' HO654.out).2.2)); (case side2 => exact (Kd.R_reads' HO654.out).2.1); rintro e w40 ⟨v689, rfl, ho0, hb⟩; refine ⟨_, rfl, ?_⟩; have HO690 := A_ (Kd.R_lower (Kd.R_new' (Kd.R_new' (Kd.R_new' (Kd.R_new' (Kd.R_new' (Kd.R_new' (Kd.R_new' (Kd.R_new' (Kd.R_new' ho0 (Kd.R_lt (ea HO654))) (Kd.R_lt (ea HO658))) (Kd.R_lt (ea HO662))) (Kd.R_lt (ea HO666))) (Kd.R_lt (ea HO670))) (Kd.R_lt (ea HO674))) (Kd.R_lt (ea HO678))) (Kd.R_lt (ea HO682))) (Kd.R_lt (ea HO686))) (below_size (el HB))); replace HO654 := A_ (Kd.R_elder' (ea HO654) (Kd.R_base ho0) hb); replace HO658 := A_ (Kd.R_elder' (ea HO658) (Kd.R_base ho0) hb); replace HO662 := A_ (Kd.R_elder' (ea HO662) (Kd.R_base ho0) hb); replace HO666 := A_ (Kd.R_elder' (ea HO666) (Kd.R_base ho0) hb); replace HO670 := A_ (Kd.R_elder' (ea HO670) (Kd.R_base ho0) hb); replace HO674 := A_ (Kd.R_elder' (ea HO674) (Kd.R_base ho0) hb); replace HO678 := A_ (Kd.R_elder' (ea HO678) (Kd.R_base ho0) hb); replace HO682 := A_ (Kd.R_elder' (ea HO682) (Kd.R_base ho0) hb); replace HO686 := A_ (Kd.R_elder' (ea HO686) (Kd.R_base ho0) hb); replace BK655 := A_ (eB BK655 hb); replace HB := A_ (below_step (el HB) hb); (try clear hb); (try clear hb2); (try clear hk); (try clear hi); (try clear ho0); have hcz41_0 : w40.cell? ⟨gb655, 0, none⟩ = some (.slice Ao22 t652.length co22) := (blk_cell BK655.out 0).trans rfl; have hfz41_0 := blk_frozen BK655.out 0) | ((with_reducible refine gate_callee (f := 18) rfl ?_); refine goesL_ (some 107) rfl rfl Try.func18 (by kernel_rfl) rfl #[.agg #[.slice Ao22 t652.length co22]] rfl eg ?_; (with_reducible refine (spec_PostorderOf.calls k _ _ t652 t692 t695 _ ?side1 ?side2 A14.out).mono ?_); (case side1 => exact cS ((Kd.R_reads' HO654.out).2.2)); (case side2 => exact (Kd.R_reads' HO654.out).2.1); rintro e w42 ⟨v693, rfl, ho0, hb⟩; refine ⟨_, rfl, ?_⟩; have HO694 := A_ (Kd.R_lower (Kd.R_new' (Kd.R_new' (Kd.R_new' (Kd.R_new' (Kd.R_new' (Kd.R_new' (Kd.R_new' (Kd.R_new' (Kd.R_new' (Kd.R_new' ho0 (Kd.R_lt (ea HO654))) (Kd.R_lt (ea HO658))) (Kd.R_lt (ea HO662))) (Kd.R_lt (ea HO666))) (Kd.R_lt (ea HO670))) (Kd.R_lt (ea HO674))) (Kd.R_lt (ea HO678))) (Kd.R_lt (ea HO682))) (Kd.R_lt (ea HO686))) (Kd.R_lt (ea HO690))) (below_size (el HB))); replace HO654 := A_ (Kd.R_elder' (ea HO654) (Kd.R_base ho0) hb); replace HO658 := A_ (Kd.R_elder' (ea HO658) (Kd.R_base ho0) hb); replace HO662 := A_ (Kd.R_elder' (ea HO662) (Kd.R_base ho0) hb); replace HO666 := A_ (Kd.R_elder' (ea HO666) (Kd.R_base ho0) hb); replace HO670 := A_ (Kd.R_elder' (ea HO670) (Kd.R_base ho0) hb); replace HO674 := A_ (Kd.R_elder' (ea HO674) (Kd.R_base ho0) hb); replace HO678 := A_ (Kd.R_elder' (ea HO678) (Kd.R_base ho0) hb); replace HO682 := A_ (Kd.R_elder' (ea HO682) (Kd.R_base ho0) hb); replace HO686 := A_ (Kd.R_elder' (ea HO686) (Kd.R_base ho0) hb); replace HO690 := A_ (Kd.R_elder' (ea HO690) (Kd.R_base ho0) hb); replace BK655 := A_ (eB BK655 hb); replace HB := A_ (below_step (el HB) hb); (try clear hb); (try clear hb2); (try clear hk); (try clear hi); (try clear ho0); have hcz43_0 : w42.cell? ⟨gb655, 0, none⟩ = some (.slice Ao22 t652.length co22) := (blk_cell BK655.out 0).trans rfl; have hfz43_0 := blk_frozen BK655.out 0) | ((with_reducible refine gate_callee (f := 19) rfl ?_); refine goesL_ (some 112) rfl rfl Try.func19 (by kernel_rfl) rfl #[.agg #[.slice Ao22 t652.length co22]] rfl eg ?_; (with_reducible refine (impl_LevelOrderOf.calls k _ _ t652 t696 t699 _ ?side1 ?side2 A15.out).mono ?_); (case side1 => exact cS ((Kd.R_reads' HO654.out).2.2)); (case side2 => exact (Kd.R_reads' HO654.out).2.1); rintro e w44 ⟨v697, rfl, ho0, hb⟩; refine ⟨_, rfl, ?_⟩; have HO698 := A_ (Kd.R_lower (Kd.R_new' (Kd.R_new' (Kd.R_new' (Kd.R_new' (Kd.R_new' (Kd.R_new' (Kd.R_new' (Kd.R_new' (Kd.R_new' (Kd.R_new' (Kd.R_new' ho0 (Kd.R_lt (ea HO654))) (Kd.R_lt (ea HO658))) (Kd.R_lt (ea HO662))) (Kd.R_lt (ea HO666))) (Kd.R_lt (ea HO670))) (Kd.R_lt (ea HO674))) (Kd.R_lt (ea HO678))) (Kd.R_lt (ea HO682))) (Kd.R_lt (ea HO686))) (Kd.R_lt (ea HO690))) (Kd.R_lt (ea HO694))) (below_size (el HB))); replace HO654 := A_ (Kd.R_elder' (ea HO654) (Kd.R_base ho0) hb); replace HO658 := A_ (Kd.R_elder' (ea HO658) (Kd.R_base ho0) hb); replace HO662 := A_ (Kd.R_elder' (ea HO662) (Kd.R_base ho0) hb); replace HO666 := A_ (Kd.R_elder' (ea HO666) (Kd.R_base ho0) hb); replace HO670 := A_ (Kd.R_elder' (ea HO670) (Kd.R_base ho0) hb); replace HO674 := A_ (Kd.R_elder' (ea HO674) (Kd.R_base ho0) hb); replace HO678 := A_ (Kd.R_elder' (ea HO678) (Kd.R_base ho0) hb); replace HO682 := A_ (Kd.R_elder' (ea HO682) (Kd.R_base ho0) hb); replace HO686 := A_ (Kd.R_elder' (ea HO686) (Kd.R_base ho0) hb); replace HO690 := A_ (Kd.R_elder' (ea HO690) (Kd.R_base ho0) hb); replace HO694 := A_ (Kd.R_elder' (ea HO694) (Kd.R_base ho0) hb); replace BK655 := A_ (eB BK655 hb); replace HB := A_ (below_step (el HB) hb); (try clear hb); (try clear hb2); (try clear hk); (try clear hi); (try clear ho0); have hcz45_0 : w44.cell? ⟨gb655, 0, none⟩ = some (.slice Ao22 t652.length co22) := (blk_cell BK655.out 0).trans rfl; have hfz45_0 := blk_frozen BK655.out 0) | ((with_reducible refine gate_callee (f := 20) rfl ?_); refine goesL_ (some 117) rfl rfl Try.func20 (by kernel_rfl) rfl #[.agg #[.slice Ao22 t652.length co22]] rfl eg ?_; (with_reducible refine (spec_LevelOrderOf.calls k _ _ t652 t700 t703 _ ?side1 ?side2 A16.out).mono ?_); (case side1 => exact cS ((Kd.R_reads' HO654.out).2.2)); (case side2 => exact (Kd.R_reads' HO654.out).2.1); rintro e w46 ⟨v701, rfl, ho0, hb⟩; refine ⟨_, rfl, ?_⟩; have HO702 := A_ (Kd.R_lower (Kd.R_new' (Kd.R_new' (Kd.R_new' (Kd.R_new' (Kd.R_new' (Kd.R_new' (Kd.R_new' (Kd.R_new' (Kd.R_new' (Kd.R_new' (Kd.R_new' (Kd.R_new' ho0 (Kd.R_lt (ea HO654))) (Kd.R_lt (ea HO658))) (Kd.R_lt (ea HO662))) (Kd.R_lt (ea HO666))) (Kd.R_lt (ea HO670))) (Kd.R_lt (ea HO674))) (Kd.R_lt (ea HO678))) (Kd.R_lt (ea HO682))) (Kd.R_lt (ea HO686))) (Kd.R_lt (ea HO690))) (Kd.R_lt (ea HO694))) (Kd.R_lt (ea HO698))) (below_size (el HB))); replace HO654 := A_ (Kd.R_elder' (ea HO654) (Kd.R_base ho0) hb); replace HO658 := A_ (Kd.R_elder' (ea HO658) (Kd.R_base ho0) hb); replace HO662 := A_ (Kd.R_elder' (ea HO662) (Kd.R_base ho0) hb); replace HO666 := A_ (Kd.R_elder' (ea HO666) (Kd.R_base ho0) hb); replace HO670 := A_ (Kd.R_elder' (ea HO670) (Kd.R_base ho0) hb); replace HO674 := A_ (Kd.R_elder' (ea HO674) (Kd.R_base ho0) hb); replace HO678 := A_ (Kd.R_elder' (ea HO678) (Kd.R_base ho0) hb); replace HO682 := A_ (Kd.R_elder' (ea HO682) (Kd.R_base ho0) hb); replace HO686 := A_ (Kd.R_elder' (ea HO686) (Kd.R_base ho0) hb); replace HO690 := A_ (Kd.R_elder' (ea HO690) (Kd.R_base ho0) hb); replace HO694 := A_ (Kd.R_elder' (ea HO694) (Kd.R_base ho0) hb); replace HO698 := A_ (Kd.R_elder' (ea HO698) (Kd.R_base ho0) hb); replace BK655 := A_ (eB BK655 hb); replace HB := A_ (below_step (el HB) hb); (try clear hb); (try clear hb2); (try clear hk); (try clear hi); (try clear ho0); have hcz47_0 : w46.cell? ⟨gb655, 0, none⟩ = some (.slice Ao22 t652.length co22) := (blk_cell BK655.out 0).trans rfl; have hfz47_0 := blk_frozen BK655.out 0) | ((with_reducible refine gate_callee (f := 21) rfl ?_); refine goesL_ (some 122) rfl rfl Try.func21 (by kernel_rfl) rfl #[.agg #[.slice Ao22 t652.length co22]] rfl eg ?_; (with_reducible refine (impl_HeightOf.calls k _ _ t652 t704 t705 _ ?side1 ?side2 A17.out).mono ?_); (case side1 => exact cS ((Kd.R_reads' HO654.out).2.2)); (case side2 => exact (Kd.R_reads' HO654.out).2.1); rintro e w48 ⟨rfl, hb⟩; refine ⟨_, rfl, ?_⟩; replace HO654 := A_ (Kd.R_below (ea HO654) hb); replace HO658 := A_ (Kd.R_below (ea HO658) hb); replace HO662 := A_ (Kd.R_below (ea HO662) hb); replace HO666 := A_ (Kd.R_below (ea HO666) hb); replace HO670 := A_ (Kd.R_below (ea HO670) hb); replace HO674 := A_ (Kd.R_below (ea HO674) hb); replace HO678 := A_ (Kd.R_below (ea HO678) hb); replace HO682 := A_ (Kd.R_below (ea HO682) hb); replace HO686 := A_ (Kd.R_below (ea HO686) hb); replace HO690 := A_ (Kd.R_below (ea HO690) hb); replace HO694 := A_ (Kd.R_below (ea HO694) hb); replace HO698 := A_ (Kd.R_below (ea HO698) hb); replace HO702 := A_ (Kd.R_below (ea HO702) hb); replace BK655 := A_ (eB BK655 hb); replace HB := A_ (below_step (el HB) hb); (try clear hb); (try clear hb2); (try clear hk); (try clear hi); have hcz49_0 : w48.cell? ⟨gb655, 0, none⟩ = some (.slice Ao22 t652.length co22) := (blk_cell BK655.out 0).trans rfl; have hfz49_0 := blk_frozen BK655.out 0) | ((with_reducible refine gate_callee (f := 22) rfl ?_); refine goesL_ (some 127) rfl rfl Try.func22 (by kernel_rfl) rfl #[.agg #[.slice Ao22 t652.length co22]] rfl eg ?_; (with_reducible refine (spec_HeightOf.calls k _ _ t652 t706 t707 _ ?side1 ?side2 A18.out).mono ?_); (case side1 => exact cS ((Kd.R_reads' HO654.out).2.2)); (case side2 => exact (Kd.R_reads' HO654.out).2.1); rintro e w50 ⟨rfl, hb⟩; refine ⟨_, rfl, ?_⟩; replace HO654 := A_ (Kd.R_below (ea HO654) hb); replace HO658 := A_ (Kd.R_below (ea HO658) hb); replace HO662 := A_ (Kd.R_below (ea HO662) hb); replace HO666 := A_ (Kd.R_below (ea HO666) hb); replace HO670 := A_ (Kd.R_below (ea HO670) hb); replace HO674 := A_ (Kd.R_below (ea HO674) hb); replace HO678 := A_ (Kd.R_below (ea HO678) hb); replace HO682 := A_ (Kd.R_below (ea HO682) hb); replace HO686 := A_ (Kd.R_below (ea HO686) hb); replace HO690 := A_ (Kd.R_below (ea HO690) hb); replace HO694 := A_ (Kd.R_below (ea HO694) hb); replace HO698 := A_ (Kd.R_below (ea HO698) hb); replace HO702 := A_ (Kd.R_below (ea HO702) hb); replace BK655 := A_ (eB BK655 hb); replace HB := A_ (below_step (el HB) hb); (try clear hb); (try clear hb2); (try clear hk); (try clear hi)))
  (try simp only [Act.put, List.setIfInBounds_toArray, List.set_cons_zero, List.set_cons_succ])
  go_cut [210] (fun v210 wc => ∃ (kq : Nat) (x210_18 : Bool), v210 = .bool x210_18 ∧ Aside0 (laws_FnTrees.j0 kq l0 t656 t659 t664 t672 t680 t688 t696 t704 x210_18 t652 = some r) ∧ Aside0 (kq ≤ k) ∧ Aside0 (Kd.R (Kd.int .i64) 2 wc w.heap.size (fun k_ => some k_ ≠ (v665 : Value).ownBlock ∧ some k_ ≠ (v673 : Value).ownBlock ∧ some k_ ≠ (v681 : Value).ownBlock ∧ some k_ ≠ (v689 : Value).ownBlock ∧ some k_ ≠ (v697 : Value).ownBlock ∧ some k_ ≠ ((.slice Ao22 t652.length co22) : Value).ownBlock) v657 t656) ∧ Aside0 (Kd.R (Kd.int .i64) 2 wc w.heap.size (fun k_ => some k_ ≠ (v657 : Value).ownBlock ∧ some k_ ≠ (v673 : Value).ownBlock ∧ some k_ ≠ (v681 : Value).ownBlock ∧ some k_ ≠ (v689 : Value).ownBlock ∧ some k_ ≠ (v697 : Value).ownBlock ∧ some k_ ≠ ((.slice Ao22 t652.length co22) : Value).ownBlock) v665 t664) ∧ Aside0 (Kd.R (Kd.int .i64) 2 wc w.heap.size (fun k_ => some k_ ≠ (v657 : Value).ownBlock ∧ some k_ ≠ (v665 : Value).ownBlock ∧ some k_ ≠ (v681 : Value).ownBlock ∧ some k_ ≠ (v689 : Value).ownBlock ∧ some k_ ≠ (v697 : Value).ownBlock ∧ some k_ ≠ ((.slice Ao22 t652.length co22) : Value).ownBlock) v673 t672) ∧ Aside0 (Kd.R (Kd.int .i64) 2 wc w.heap.size (fun k_ => some k_ ≠ (v657 : Value).ownBlock ∧ some k_ ≠ (v665 : Value).ownBlock ∧ some k_ ≠ (v673 : Value).ownBlock ∧ some k_ ≠ (v689 : Value).ownBlock ∧ some k_ ≠ (v697 : Value).ownBlock ∧ some k_ ≠ ((.slice Ao22 t652.length co22) : Value).ownBlock) v681 t680) ∧ Aside0 (Kd.R (Kd.int .i64) 2 wc w.heap.size (fun k_ => some k_ ≠ (v657 : Value).ownBlock ∧ some k_ ≠ (v665 : Value).ownBlock ∧ some k_ ≠ (v673 : Value).ownBlock ∧ some k_ ≠ (v681 : Value).ownBlock ∧ some k_ ≠ (v697 : Value).ownBlock ∧ some k_ ≠ ((.slice Ao22 t652.length co22) : Value).ownBlock) v689 t688) ∧ Aside0 (Kd.R (Kd.int .i64) 2 wc w.heap.size (fun k_ => some k_ ≠ (v657 : Value).ownBlock ∧ some k_ ≠ (v665 : Value).ownBlock ∧ some k_ ≠ (v673 : Value).ownBlock ∧ some k_ ≠ (v681 : Value).ownBlock ∧ some k_ ≠ (v689 : Value).ownBlock ∧ some k_ ≠ ((.slice Ao22 t652.length co22) : Value).ownBlock) v697 t696) ∧ Aside0 (Kd.R (Kd.int .i64) 2 wc w.heap.size (fun k_ => some k_ ≠ (v657 : Value).ownBlock ∧ some k_ ≠ (v665 : Value).ownBlock ∧ some k_ ≠ (v673 : Value).ownBlock ∧ some k_ ≠ (v681 : Value).ownBlock ∧ some k_ ≠ (v689 : Value).ownBlock ∧ some k_ ≠ (v697 : Value).ownBlock) (.slice Ao22 t652.length co22) t652) ∧ Aside0 (wc.heap[gb655]? = some (.cells #[(.slice Ao22 t652.length co22)] 26 (0, 0))) ∧ Aside0 (Below w.heap.size w wc))
  case first =>
   as_aux_lemma =>
    have H := HC19.out
    clear HC19
    by_cases c51 : t659 = t663
    rotate_left
    ·rw [if_neg c51] at H
     have c51b0 : (t659 == t663) = false := beq_eq_false_iff_ne.mpr c51
     have c51b1 : (t659 != t663) = true := bne_iff_ne.mpr c51
     (first | rw [c51b0] | (simp only [i64_w, i32_w]; rw [c51b0]) | skip)
     simp only [laws_FnTrees.dead0, laws_FnTrees.dead1] at H
     exact absurd H (by simp)
    rw [if_pos c51] at H
    have c51b0 : (t659 == t663) = true := beq_iff_eq.mpr c51
    have c51b1 : (t659 != t663) = false := bne_eq_false_iff_eq.mpr c51
    clear c51
    (first | rw [c51b0] | (simp only [i64_w, i32_w]; rw [c51b0]) | skip)
    replace H := Option.bind_eq_some_iff.mp H
    obtain ⟨t708, A520, H⟩ := H
    try dsimp only at H
    have A52 := A_ A520
    clear A520
    by_cases c53 : t708 = true
    rotate_left
    ·replace c53 := Bool.eq_false_iff.mpr c53
     subst c53
     have H1 : (laws_FnTrees.j0 k l0 t656 t659 t664 t672 t680 t688 t696 t704 true t652) = some r := by rw [if_neg (show ¬ (false = true) by decide)] at H; exact H
     clear H
     have H := H1
     clear H1
     simp only [laws_FnTrees.dead0, laws_FnTrees.dead1] at H
     exact absurd H (by simp)
    subst c53
    have H1 : (if t667 = t671 then ((laws_likeInts.f k t664 t668).bind fun t709 => (if t709 = true then (if t675 = t679 then ((laws_likeInts.f k t672 t676).bind fun t710 => (if t710 = true then (if t683 = t687 then ((laws_likeInts.f k t680 t684).bind fun t711 => (if t711 = true then (if t691 = t695 then ((laws_likeInts.f k t688 t692).bind fun t712 => (if t712 = true then (if t699 = t703 then ((laws_likeInts.f k t696 t700).bind fun t713 => (if t713 = true then (if t705 = t707 then (if t704 = t706 then ((impl_IsTree.f k t652).bind fun t714 => ((spec_IsTree.f k t652).bind fun t715 => (laws_FnTrees.j0 k l0 t656 t659 t664 t672 t680 t688 t696 t704 (t714 != t715) t652))) else (laws_FnTrees.j0 k l0 t656 t659 t664 t672 t680 t688 t696 t704 true t652)) else (laws_FnTrees.j0 k l0 t656 t659 t664 t672 t680 t688 t696 t704 true t652)) else (laws_FnTrees.j0 k l0 t656 t659 t664 t672 t680 t688 t696 t704 true t652))) else (laws_FnTrees.j0 k l0 t656 t659 t664 t672 t680 t688 t696 t704 true t652)) else (laws_FnTrees.j0 k l0 t656 t659 t664 t672 t680 t688 t696 t704 true t652))) else (laws_FnTrees.j0 k l0 t656 t659 t664 t672 t680 t688 t696 t704 true t652)) else (laws_FnTrees.j0 k l0 t656 t659 t664 t672 t680 t688 t696 t704 true t652))) else (laws_FnTrees.j0 k l0 t656 t659 t664 t672 t680 t688 t696 t704 true t652)) else (laws_FnTrees.j0 k l0 t656 t659 t664 t672 t680 t688 t696 t704 true t652))) else (laws_FnTrees.j0 k l0 t656 t659 t664 t672 t680 t688 t696 t704 true t652)) else (laws_FnTrees.j0 k l0 t656 t659 t664 t672 t680 t688 t696 t704 true t652))) else (laws_FnTrees.j0 k l0 t656 t659 t664 t672 t680 t688 t696 t704 true t652)) = some r := by rw [if_pos rfl] at H; exact H
    clear H
    have H := H1
    clear H1
    by_cases c54 : t667 = t671
    rotate_left
    ·rw [if_neg c54] at H
     have c54b0 : (t667 == t671) = false := beq_eq_false_iff_ne.mpr c54
     have c54b1 : (t667 != t671) = true := bne_iff_ne.mpr c54
     simp only [laws_FnTrees.dead0, laws_FnTrees.dead1] at H
     exact absurd H (by simp)
    rw [if_pos c54] at H
    have c54b0 : (t667 == t671) = true := beq_iff_eq.mpr c54
    have c54b1 : (t667 != t671) = false := bne_eq_false_iff_eq.mpr c54
    clear c54
    replace H := Option.bind_eq_some_iff.mp H
    obtain ⟨t709, A550, H⟩ := H
    try dsimp only at H
    have A55 := A_ A550
    clear A550
    by_cases c56 : t709 = true
    rotate_left
    ·replace c56 := Bool.eq_false_iff.mpr c56
     subst c56
     have H1 : (laws_FnTrees.j0 k l0 t656 t659 t664 t672 t680 t688 t696 t704 true t652) = some r := by rw [if_neg (show ¬ (false = true) by decide)] at H; exact H
     clear H
     have H := H1
     clear H1
     simp only [laws_FnTrees.dead0, laws_FnTrees.dead1] at H
     exact absurd H (by simp)
    subst c56
    have H1 : (if t675 = t679 then ((laws_likeInts.f k t672 t676).bind fun t710 => (if t710 = true then (if t683 = t687 then ((laws_likeInts.f k t680 t684).bind fun t711 => (if t711 = true then (if t691 = t695 then ((laws_likeInts.f k t688 t692).bind fun t712 => (if t712 = true then (if t699 = t703 then ((laws_likeInts.f k t696 t700).bind fun t713 => (if t713 = true then (if t705 = t707 then (if t704 = t706 then ((impl_IsTree.f k t652).bind fun t714 => ((spec_IsTree.f k t652).bind fun t715 => (laws_FnTrees.j0 k l0 t656 t659 t664 t672 t680 t688 t696 t704 (t714 != t715) t652))) else (laws_FnTrees.j0 k l0 t656 t659 t664 t672 t680 t688 t696 t704 true t652)) else (laws_FnTrees.j0 k l0 t656 t659 t664 t672 t680 t688 t696 t704 true t652)) else (laws_FnTrees.j0 k l0 t656 t659 t664 t672 t680 t688 t696 t704 true t652))) else (laws_FnTrees.j0 k l0 t656 t659 t664 t672 t680 t688 t696 t704 true t652)) else (laws_FnTrees.j0 k l0 t656 t659 t664 t672 t680 t688 t696 t704 true t652))) else (laws_FnTrees.j0 k l0 t656 t659 t664 t672 t680 t688 t696 t704 true t652)) else (laws_FnTrees.j0 k l0 t656 t659 t664 t672 t680 t688 t696 t704 true t652))) else (laws_FnTrees.j0 k l0 t656 t659 t664 t672 t680 t688 t696 t704 true t652)) else (laws_FnTrees.j0 k l0 t656 t659 t664 t672 t680 t688 t696 t704 true t652))) else (laws_FnTrees.j0 k l0 t656 t659 t664 t672 t680 t688 t696 t704 true t652)) = some r := by rw [if_pos rfl] at H; exact H
    clear H
    have H := H1
    clear H1
    by_cases c57 : t675 = t679
    rotate_left
    ·rw [if_neg c57] at H
     have c57b0 : (t675 == t679) = false := beq_eq_false_iff_ne.mpr c57
     have c57b1 : (t675 != t679) = true := bne_iff_ne.mpr c57
     simp only [laws_FnTrees.dead0, laws_FnTrees.dead1] at H
     exact absurd H (by simp)
    rw [if_pos c57] at H
    have c57b0 : (t675 == t679) = true := beq_iff_eq.mpr c57
    have c57b1 : (t675 != t679) = false := bne_eq_false_iff_eq.mpr c57
    clear c57
    replace H := Option.bind_eq_some_iff.mp H
    obtain ⟨t710, A580, H⟩ := H
    try dsimp only at H
    have A58 := A_ A580
    clear A580
    by_cases c59 : t710 = true
    rotate_left
    ·replace c59 := Bool.eq_false_iff.mpr c59
     subst c59
     have H1 : (laws_FnTrees.j0 k l0 t656 t659 t664 t672 t680 t688 t696 t704 true t652) = some r := by rw [if_neg (show ¬ (false = true) by decide)] at H; exact H
     clear H
     have H := H1
     clear H1
     simp only [laws_FnTrees.dead0, laws_FnTrees.dead1] at H
     exact absurd H (by simp)
    subst c59
    have H1 : (if t683 = t687 then ((laws_likeInts.f k t680 t684).bind fun t711 => (if t711 = true then (if t691 = t695 then ((laws_likeInts.f k t688 t692).bind fun t712 => (if t712 = true then (if t699 = t703 then ((laws_likeInts.f k t696 t700).bind fun t713 => (if t713 = true then (if t705 = t707 then (if t704 = t706 then ((impl_IsTree.f k t652).bind fun t714 => ((spec_IsTree.f k t652).bind fun t715 => (laws_FnTrees.j0 k l0 t656 t659 t664 t672 t680 t688 t696 t704 (t714 != t715) t652))) else (laws_FnTrees.j0 k l0 t656 t659 t664 t672 t680 t688 t696 t704 true t652)) else (laws_FnTrees.j0 k l0 t656 t659 t664 t672 t680 t688 t696 t704 true t652)) else (laws_FnTrees.j0 k l0 t656 t659 t664 t672 t680 t688 t696 t704 true t652))) else (laws_FnTrees.j0 k l0 t656 t659 t664 t672 t680 t688 t696 t704 true t652)) else (laws_FnTrees.j0 k l0 t656 t659 t664 t672 t680 t688 t696 t704 true t652))) else (laws_FnTrees.j0 k l0 t656 t659 t664 t672 t680 t688 t696 t704 true t652)) else (laws_FnTrees.j0 k l0 t656 t659 t664 t672 t680 t688 t696 t704 true t652))) else (laws_FnTrees.j0 k l0 t656 t659 t664 t672 t680 t688 t696 t704 true t652)) = some r := by rw [if_pos rfl] at H; exact H
    clear H
    have H := H1
    clear H1
    by_cases c60 : t683 = t687
    rotate_left
    ·rw [if_neg c60] at H
     have c60b0 : (t683 == t687) = false := beq_eq_false_iff_ne.mpr c60
     have c60b1 : (t683 != t687) = true := bne_iff_ne.mpr c60
     simp only [laws_FnTrees.dead0, laws_FnTrees.dead1] at H
     exact absurd H (by simp)
    rw [if_pos c60] at H
    have c60b0 : (t683 == t687) = true := beq_iff_eq.mpr c60
    have c60b1 : (t683 != t687) = false := bne_eq_false_iff_eq.mpr c60
    clear c60
    replace H := Option.bind_eq_some_iff.mp H
    obtain ⟨t711, A610, H⟩ := H
    try dsimp only at H
    have A61 := A_ A610
    clear A610
    by_cases c62 : t711 = true
    rotate_left
    ·replace c62 := Bool.eq_false_iff.mpr c62
     subst c62
     have H1 : (laws_FnTrees.j0 k l0 t656 t659 t664 t672 t680 t688 t696 t704 true t652) = some r := by rw [if_neg (show ¬ (false = true) by decide)] at H; exact H
     clear H
     have H := H1
     clear H1
     simp only [laws_FnTrees.dead0, laws_FnTrees.dead1] at H
     exact absurd H (by simp)
    subst c62
    have H1 : (if t691 = t695 then ((laws_likeInts.f k t688 t692).bind fun t712 => (if t712 = true then (if t699 = t703 then ((laws_likeInts.f k t696 t700).bind fun t713 => (if t713 = true then (if t705 = t707 then (if t704 = t706 then ((impl_IsTree.f k t652).bind fun t714 => ((spec_IsTree.f k t652).bind fun t715 => (laws_FnTrees.j0 k l0 t656 t659 t664 t672 t680 t688 t696 t704 (t714 != t715) t652))) else (laws_FnTrees.j0 k l0 t656 t659 t664 t672 t680 t688 t696 t704 true t652)) else (laws_FnTrees.j0 k l0 t656 t659 t664 t672 t680 t688 t696 t704 true t652)) else (laws_FnTrees.j0 k l0 t656 t659 t664 t672 t680 t688 t696 t704 true t652))) else (laws_FnTrees.j0 k l0 t656 t659 t664 t672 t680 t688 t696 t704 true t652)) else (laws_FnTrees.j0 k l0 t656 t659 t664 t672 t680 t688 t696 t704 true t652))) else (laws_FnTrees.j0 k l0 t656 t659 t664 t672 t680 t688 t696 t704 true t652)) = some r := by rw [if_pos rfl] at H; exact H
    clear H
    have H := H1
    clear H1
    by_cases c63 : t691 = t695
    rotate_left
    ·rw [if_neg c63] at H
     have c63b0 : (t691 == t695) = false := beq_eq_false_iff_ne.mpr c63
     have c63b1 : (t691 != t695) = true := bne_iff_ne.mpr c63
     simp only [laws_FnTrees.dead0, laws_FnTrees.dead1] at H
     exact absurd H (by simp)
    rw [if_pos c63] at H
    have c63b0 : (t691 == t695) = true := beq_iff_eq.mpr c63
    have c63b1 : (t691 != t695) = false := bne_eq_false_iff_eq.mpr c63
    clear c63
    replace H := Option.bind_eq_some_iff.mp H
    obtain ⟨t712, A640, H⟩ := H
    try dsimp only at H
    have A64 := A_ A640
    clear A640
    by_cases c65 : t712 = true
    rotate_left
    ·replace c65 := Bool.eq_false_iff.mpr c65
     subst c65
     have H1 : (laws_FnTrees.j0 k l0 t656 t659 t664 t672 t680 t688 t696 t704 true t652) = some r := by rw [if_neg (show ¬ (false = true) by decide)] at H; exact H
     clear H
     have H := H1
     clear H1
     simp only [laws_FnTrees.dead0, laws_FnTrees.dead1] at H
     exact absurd H (by simp)
    subst c65
    have H1 : (if t699 = t703 then ((laws_likeInts.f k t696 t700).bind fun t713 => (if t713 = true then (if t705 = t707 then (if t704 = t706 then ((impl_IsTree.f k t652).bind fun t714 => ((spec_IsTree.f k t652).bind fun t715 => (laws_FnTrees.j0 k l0 t656 t659 t664 t672 t680 t688 t696 t704 (t714 != t715) t652))) else (laws_FnTrees.j0 k l0 t656 t659 t664 t672 t680 t688 t696 t704 true t652)) else (laws_FnTrees.j0 k l0 t656 t659 t664 t672 t680 t688 t696 t704 true t652)) else (laws_FnTrees.j0 k l0 t656 t659 t664 t672 t680 t688 t696 t704 true t652))) else (laws_FnTrees.j0 k l0 t656 t659 t664 t672 t680 t688 t696 t704 true t652)) = some r := by rw [if_pos rfl] at H; exact H
    clear H
    have H := H1
    clear H1
    by_cases c66 : t699 = t703
    rotate_left
    ·rw [if_neg c66] at H
     have c66b0 : (t699 == t703) = false := beq_eq_false_iff_ne.mpr c66
     have c66b1 : (t699 != t703) = true := bne_iff_ne.mpr c66
     simp only [laws_FnTrees.dead0, laws_FnTrees.dead1] at H
     exact absurd H (by simp)
    rw [if_pos c66] at H
    have c66b0 : (t699 == t703) = true := beq_iff_eq.mpr c66
    have c66b1 : (t699 != t703) = false := bne_eq_false_iff_eq.mpr c66
    clear c66
    replace H := Option.bind_eq_some_iff.mp H
    obtain ⟨t713, A670, H⟩ := H
    try dsimp only at H
    have A67 := A_ A670
    clear A670
    by_cases c68 : t713 = true
    rotate_left
    ·replace c68 := Bool.eq_false_iff.mpr c68
     subst c68
     have H1 : (laws_FnTrees.j0 k l0 t656 t659 t664 t672 t680 t688 t696 t704 true t652) = some r := by rw [if_neg (show ¬ (false = true) by decide)] at H; exact H
     clear H
     have H := H1
     clear H1
     simp only [laws_FnTrees.dead0, laws_FnTrees.dead1] at H
     exact absurd H (by simp)
    subst c68
    have H1 : (if t705 = t707 then (if t704 = t706 then ((impl_IsTree.f k t652).bind fun t714 => ((spec_IsTree.f k t652).bind fun t715 => (laws_FnTrees.j0 k l0 t656 t659 t664 t672 t680 t688 t696 t704 (t714 != t715) t652))) else (laws_FnTrees.j0 k l0 t656 t659 t664 t672 t680 t688 t696 t704 true t652)) else (laws_FnTrees.j0 k l0 t656 t659 t664 t672 t680 t688 t696 t704 true t652)) = some r := by rw [if_pos rfl] at H; exact H
    clear H
    have H := H1
    clear H1
    by_cases c69 : t705 = t707
    rotate_left
    ·rw [if_neg c69] at H
     have c69b0 : (t705 == t707) = false := beq_eq_false_iff_ne.mpr c69
     have c69b1 : (t705 != t707) = true := bne_iff_ne.mpr c69
     simp only [laws_FnTrees.dead0, laws_FnTrees.dead1] at H
     exact absurd H (by simp)
    rw [if_pos c69] at H
    have c69b0 : (t705 == t707) = true := beq_iff_eq.mpr c69
    have c69b1 : (t705 != t707) = false := bne_eq_false_iff_eq.mpr c69
    clear c69
    by_cases c70 : t704 = t706
    rotate_left
    ·rw [if_neg c70] at H
     have c70b0 : (t704 == t706) = false := beq_eq_false_iff_ne.mpr c70
     have c70b1 : (t704 != t706) = true := bne_iff_ne.mpr c70
     simp only [laws_FnTrees.dead0, laws_FnTrees.dead1] at H
     exact absurd H (by simp)
    rw [if_pos c70] at H
    have c70b0 : (t704 == t706) = true := beq_iff_eq.mpr c70
    have c70b1 : (t704 != t706) = false := bne_eq_false_iff_eq.mpr c70
    clear c70
    replace H := Option.bind_eq_some_iff.mp H
    obtain ⟨t714, A710, H⟩ := H
    try dsimp only at H
    have A71 := A_ A710
    clear A710
    replace H := Option.bind_eq_some_iff.mp H
    obtain ⟨t715, A720, H⟩ := H
    try dsimp only at H
    have A72 := A_ A720
    clear A720
    have H' := A_ H
    clear H
    try go_wp2
    replace HO654 := A_ (Kd.R_drew HO654.out)
    replace HO658 := A_ (Kd.R_drew HO658.out)
    replace HO662 := A_ (Kd.R_drew HO662.out)
    replace HO666 := A_ (Kd.R_drew HO666.out)
    replace HO670 := A_ (Kd.R_drew HO670.out)
    replace HO674 := A_ (Kd.R_drew HO674.out)
    replace HO678 := A_ (Kd.R_drew HO678.out)
    replace HO682 := A_ (Kd.R_drew HO682.out)
    replace HO686 := A_ (Kd.R_drew HO686.out)
    replace HO690 := A_ (Kd.R_drew HO690.out)
    replace HO694 := A_ (Kd.R_drew HO694.out)
    replace HO698 := A_ (Kd.R_drew HO698.out)
    replace HO702 := A_ (Kd.R_drew HO702.out)
    replace BK655 := A_ (blk_drew BK655.out)
    replace HB := A_ (below_drew1 HB.out)
    obtain ⟨Ao74, co74, eo74⟩ := Kd.R_slice HO658.out
    (first | subst eo74 | (injection eo74 with f1_ f2_ f3_; have f4_ := f1_.symm; have f5_ := f3_.symm; clear f1_ f2_ f3_; subst f4_; subst f5_))
    obtain ⟨Ao75, co75, eo75⟩ := Kd.R_slice HO662.out
    (first | subst eo75 | (injection eo75 with f1_ f2_ f3_; have f4_ := f1_.symm; have f5_ := f3_.symm; clear f1_ f2_ f3_; subst f4_; subst f5_))
    as_aux_lemma =>
     refine start_ (n := 81) (S := fun w' => w'.cell? ⟨gb655, 0, none⟩ = some (.slice Ao22 t652.length co22)) (ds := []) (bM 81 0) (by kernel_rfl) rfl rfl ((blk_cell BK655.out 0).trans rfl) (fun hHeld => ?_); refine with_tabW laws_FnTrees.tab18 laws_FnTrees.bits18 (fun HT_ HW_ => ?_)
     generalize w50.drew = w73 at HO654 HO658 HO662 HO666 HO670 HO674 HO678 HO682 HO686 HO690 HO694 HO698 HO702 BK655 HB hHeld ⊢
     refine pA 0 130 (bM 81 1) HT_ ?_
     refine pA 1 131 (bM 81 3) HT_ ?_
     refine pA 2 132 (bM 81 7) HT_ ?_
     refine pA 3 133 (bM 81 15) HT_ ?_
     refine pA 4 134 (bM 81 31) HT_ ?_
     refine pA 5 135 (bM 81 63) HT_ ?_
     refine one_ (i := 6) (N := some 136) (bM 81 127) rfl rfl (one_of HT_.out (by kernel_rfl)) (by decide) (fun K hK => ?_)
     refine goes_ Try.func23 (by kernel_rfl) rfl #[.slice Ao74 t656.length co74, .slice Ao75 t660.length co75] (by rfl) rfl rfl eg ?_
     with_reducible refine (laws_likeInts.calls k _ _ t656 _ _ t660 true _ ?side1 ?side2 ?side3 ?side4 A52.out).mono ?_
     (case side1 => exact cS ((Kd.R_reads' HO658.out).2.2))
     (case side2 => exact (Kd.R_reads' HO658.out).2.1)
     (case side3 => exact cS ((Kd.R_reads' HO662.out).2.2))
     (case side4 => exact (Kd.R_reads' HO662.out).2.1)
     rintro e w' ⟨rfl, ⟨nd, rfl⟩⟩
     refine ⟨_, rfl, ?_⟩
     obtain ⟨Ao76, co76, eo76⟩ := Kd.R_slice HO666.out
     (first | subst eo76 | (injection eo76 with f1_ f2_ f3_; have f4_ := f1_.symm; have f5_ := f3_.symm; clear f1_ f2_ f3_; subst f4_; subst f5_))
     obtain ⟨Ao77, co77, eo77⟩ := Kd.R_slice HO670.out
     (first | subst eo77 | (injection eo77 with f1_ f2_ f3_; have f4_ := f1_.symm; have f5_ := f3_.symm; clear f1_ f2_ f3_; subst f4_; subst f5_))
     refine hK.out _ _ ((blk_cell BK655.out 0).trans rfl) (fun hHeld => ?_)
     clear hK K
     refine norm_ (a' := ?_) ?_ ?_
     rotate_left
     ·show Act.put _ (some 136) _ = _
      simp only [Act.put, List.setIfInBounds_toArray, List.set_cons_zero, List.set_cons_succ, i64_w, i32_w]
      rfl
     refine pA 7 137 (bM 81 255) HT_ ?_
     refine pA 8 138 (bM 81 511) HT_ ?_
     refine pA 9 139 (bM 81 1023) HT_ ?_
     refine pA 10 140 (bM 81 2047) HT_ ?_
     refine pA 11 141 (bM 81 4095) HT_ ?_
     refine pA 12 142 (bM 81 8191) HT_ ?_
     refine pA 13 143 (bM 81 16383) HT_ ?_
     as_aux_lemma =>
      refine pA 14 144 (bM 81 32767) HT_ ?_
      refine pA 15 145 (bM 81 65535) HT_ ?_
      refine pA 16 146 (bM 81 131071) HT_ ?_
      refine one_ (i := 17) (N := some 147) (bM 81 262143) rfl rfl (one_of HT_.out (by kernel_rfl)) (by decide) (fun K hK => ?_)
      refine goes_ Try.func23 (by kernel_rfl) rfl #[.slice Ao76 t664.length co76, .slice Ao77 t668.length co77] (by rfl) rfl rfl eg ?_
      with_reducible refine (laws_likeInts.calls k _ _ t664 _ _ t668 true _ ?side1 ?side2 ?side3 ?side4 A55.out).mono ?_
      (case side1 => exact cS ((Kd.R_reads' HO666.out).2.2))
      (case side2 => exact (Kd.R_reads' HO666.out).2.1)
      (case side3 => exact cS ((Kd.R_reads' HO670.out).2.2))
      (case side4 => exact (Kd.R_reads' HO670.out).2.1)
      rintro e w' ⟨rfl, ⟨nd, rfl⟩⟩
      refine ⟨_, rfl, ?_⟩
      obtain ⟨Ao78, co78, eo78⟩ := Kd.R_slice HO674.out
      (first | subst eo78 | (injection eo78 with f1_ f2_ f3_; have f4_ := f1_.symm; have f5_ := f3_.symm; clear f1_ f2_ f3_; subst f4_; subst f5_))
      obtain ⟨Ao79, co79, eo79⟩ := Kd.R_slice HO678.out
      (first | subst eo79 | (injection eo79 with f1_ f2_ f3_; have f4_ := f1_.symm; have f5_ := f3_.symm; clear f1_ f2_ f3_; subst f4_; subst f5_))
      refine hK.out _ _ ((blk_cell BK655.out 0).trans rfl) (fun hHeld => ?_)
      clear hK K
      refine norm_ (a' := ?_) ?_ ?_
      rotate_left
      ·show Act.put _ (some 147) _ = _
       simp only [Act.put, List.setIfInBounds_toArray, List.set_cons_zero, List.set_cons_succ, i64_w, i32_w]
       rfl
      refine pA 18 148 (bM 81 524287) HT_ ?_
      refine pA 19 149 (bM 81 1048575) HT_ ?_
      refine pA 20 150 (bM 81 2097151) HT_ ?_
      refine pA 21 151 (bM 81 4194303) HT_ ?_
      refine pA 22 152 (bM 81 8388607) HT_ ?_
      refine pA 23 153 (bM 81 16777215) HT_ ?_
      refine pA 24 154 (bM 81 33554431) HT_ ?_
      refine pA 25 155 (bM 81 67108863) HT_ ?_
      refine pA 26 156 (bM 81 134217727) HT_ ?_
      refine pA 27 157 (bM 81 268435455) HT_ ?_
      refine one_ (i := 28) (N := some 158) (bM 81 536870911) rfl rfl (one_of HT_.out (by kernel_rfl)) (by decide) (fun K hK => ?_)
      refine goes_ Try.func23 (by kernel_rfl) rfl #[.slice Ao78 t672.length co78, .slice Ao79 t676.length co79] (by rfl) rfl rfl eg ?_
      with_reducible refine (laws_likeInts.calls k _ _ t672 _ _ t676 true _ ?side1 ?side2 ?side3 ?side4 A58.out).mono ?_
      (case side1 => exact cS ((Kd.R_reads' HO674.out).2.2))
      (case side2 => exact (Kd.R_reads' HO674.out).2.1)
      (case side3 => exact cS ((Kd.R_reads' HO678.out).2.2))
      (case side4 => exact (Kd.R_reads' HO678.out).2.1)
      rintro e w' ⟨rfl, ⟨nd, rfl⟩⟩
      refine ⟨_, rfl, ?_⟩
      obtain ⟨Ao80, co80, eo80⟩ := Kd.R_slice HO682.out
      (first | subst eo80 | (injection eo80 with f1_ f2_ f3_; have f4_ := f1_.symm; have f5_ := f3_.symm; clear f1_ f2_ f3_; subst f4_; subst f5_))
      obtain ⟨Ao81, co81, eo81⟩ := Kd.R_slice HO686.out
      (first | subst eo81 | (injection eo81 with f1_ f2_ f3_; have f4_ := f1_.symm; have f5_ := f3_.symm; clear f1_ f2_ f3_; subst f4_; subst f5_))
      refine hK.out _ _ ((blk_cell BK655.out 0).trans rfl) (fun hHeld => ?_)
      clear hK K
      refine norm_ (a' := ?_) ?_ ?_
      rotate_left
      ·show Act.put _ (some 158) _ = _
       simp only [Act.put, List.setIfInBounds_toArray, List.set_cons_zero, List.set_cons_succ, i64_w, i32_w]
       rfl
      refine pA 29 159 (bM 81 1073741823) HT_ ?_
      as_aux_lemma =>
       refine pA 30 160 (bM 81 2147483647) HT_ ?_
       refine pA 31 161 (bM 81 4294967295) HT_ ?_
       refine pA 32 162 (bM 81 8589934591) HT_ ?_
       refine pA 33 163 (bM 81 17179869183) HT_ ?_
       refine pA 34 164 (bM 81 34359738367) HT_ ?_
       refine pA 35 165 (bM 81 68719476735) HT_ ?_
       refine pA 36 166 (bM 81 137438953471) HT_ ?_
       refine pA 37 167 (bM 81 274877906943) HT_ ?_
       refine pA 38 168 (bM 81 549755813887) HT_ ?_
       refine one_ (i := 39) (N := some 169) (bM 81 1099511627775) rfl rfl (one_of HT_.out (by kernel_rfl)) (by decide) (fun K hK => ?_)
       refine goes_ Try.func23 (by kernel_rfl) rfl #[.slice Ao80 t680.length co80, .slice Ao81 t684.length co81] (by rfl) rfl rfl eg ?_
       with_reducible refine (laws_likeInts.calls k _ _ t680 _ _ t684 true _ ?side1 ?side2 ?side3 ?side4 A61.out).mono ?_
       (case side1 => exact cS ((Kd.R_reads' HO682.out).2.2))
       (case side2 => exact (Kd.R_reads' HO682.out).2.1)
       (case side3 => exact cS ((Kd.R_reads' HO686.out).2.2))
       (case side4 => exact (Kd.R_reads' HO686.out).2.1)
       rintro e w' ⟨rfl, ⟨nd, rfl⟩⟩
       refine ⟨_, rfl, ?_⟩
       obtain ⟨Ao82, co82, eo82⟩ := Kd.R_slice HO690.out
       (first | subst eo82 | (injection eo82 with f1_ f2_ f3_; have f4_ := f1_.symm; have f5_ := f3_.symm; clear f1_ f2_ f3_; subst f4_; subst f5_))
       obtain ⟨Ao83, co83, eo83⟩ := Kd.R_slice HO694.out
       (first | subst eo83 | (injection eo83 with f1_ f2_ f3_; have f4_ := f1_.symm; have f5_ := f3_.symm; clear f1_ f2_ f3_; subst f4_; subst f5_))
       refine hK.out _ _ ((blk_cell BK655.out 0).trans rfl) (fun hHeld => ?_)
       clear hK K
       refine norm_ (a' := ?_) ?_ ?_
       rotate_left
       ·show Act.put _ (some 169) _ = _
        simp only [Act.put, List.setIfInBounds_toArray, List.set_cons_zero, List.set_cons_succ, i64_w, i32_w]
        rfl
       refine pA 40 170 (bM 81 2199023255551) HT_ ?_
       refine pA 41 171 (bM 81 4398046511103) HT_ ?_
       refine pA 42 172 (bM 81 8796093022207) HT_ ?_
       refine pA 43 173 (bM 81 17592186044415) HT_ ?_
       refine pA 44 174 (bM 81 35184372088831) HT_ ?_
       as_aux_lemma =>
        refine pA 45 175 (bM 81 70368744177663) HT_ ?_
        refine pA 46 176 (bM 81 140737488355327) HT_ ?_
        refine pA 47 177 (bM 81 281474976710655) HT_ ?_
        refine pA 48 178 (bM 81 562949953421311) HT_ ?_
        refine pA 49 179 (bM 81 1125899906842623) HT_ ?_
        refine one_ (i := 50) (N := some 180) (bM 81 2251799813685247) rfl rfl (one_of HT_.out (by kernel_rfl)) (by decide) (fun K hK => ?_)
        refine goes_ Try.func23 (by kernel_rfl) rfl #[.slice Ao82 t688.length co82, .slice Ao83 t692.length co83] (by rfl) rfl rfl eg ?_
        with_reducible refine (laws_likeInts.calls k _ _ t688 _ _ t692 true _ ?side1 ?side2 ?side3 ?side4 A64.out).mono ?_
        (case side1 => exact cS ((Kd.R_reads' HO690.out).2.2))
        (case side2 => exact (Kd.R_reads' HO690.out).2.1)
        (case side3 => exact cS ((Kd.R_reads' HO694.out).2.2))
        (case side4 => exact (Kd.R_reads' HO694.out).2.1)
        rintro e w' ⟨rfl, ⟨nd, rfl⟩⟩
        refine ⟨_, rfl, ?_⟩
        obtain ⟨Ao84, co84, eo84⟩ := Kd.R_slice HO698.out
        (first | subst eo84 | (injection eo84 with f1_ f2_ f3_; have f4_ := f1_.symm; have f5_ := f3_.symm; clear f1_ f2_ f3_; subst f4_; subst f5_))
        obtain ⟨Ao85, co85, eo85⟩ := Kd.R_slice HO702.out
        (first | subst eo85 | (injection eo85 with f1_ f2_ f3_; have f4_ := f1_.symm; have f5_ := f3_.symm; clear f1_ f2_ f3_; subst f4_; subst f5_))
        refine hK.out _ _ ((blk_cell BK655.out 0).trans rfl) (fun hHeld => ?_)
        clear hK K
        refine norm_ (a' := ?_) ?_ ?_
        rotate_left
        ·show Act.put _ (some 180) _ = _
         simp only [Act.put, List.setIfInBounds_toArray, List.set_cons_zero, List.set_cons_succ, i64_w, i32_w]
         rfl
        refine pA 51 181 (bM 81 4503599627370495) HT_ ?_
        refine pA 52 182 (bM 81 9007199254740991) HT_ ?_
        refine pA 53 183 (bM 81 18014398509481983) HT_ ?_
        refine pA 54 184 (bM 81 36028797018963967) HT_ ?_
        refine pA 55 185 (bM 81 72057594037927935) HT_ ?_
        refine pA 56 186 (bM 81 144115188075855871) HT_ ?_
        refine pA 57 187 (bM 81 288230376151711743) HT_ ?_
        refine pA 58 188 (bM 81 576460752303423487) HT_ ?_
        refine pA 59 189 (bM 81 1152921504606846975) HT_ ?_
        as_aux_lemma =>
         refine pA 60 190 (bM 81 2305843009213693951) HT_ ?_
         refine one_ (i := 61) (N := some 191) (bM 81 4611686018427387903) rfl rfl (one_of HT_.out (by kernel_rfl)) (by decide) (fun K hK => ?_)
         refine goes_ Try.func23 (by kernel_rfl) rfl #[.slice Ao84 t696.length co84, .slice Ao85 t700.length co85] (by rfl) rfl rfl eg ?_
         with_reducible refine (laws_likeInts.calls k _ _ t696 _ _ t700 true _ ?side1 ?side2 ?side3 ?side4 A67.out).mono ?_
         (case side1 => exact cS ((Kd.R_reads' HO698.out).2.2))
         (case side2 => exact (Kd.R_reads' HO698.out).2.1)
         (case side3 => exact cS ((Kd.R_reads' HO702.out).2.2))
         (case side4 => exact (Kd.R_reads' HO702.out).2.1)
         rintro e w' ⟨rfl, ⟨nd, rfl⟩⟩
         refine ⟨_, rfl, ?_⟩
         refine hK.out _ _ ((blk_cell BK655.out 0).trans rfl) (fun hHeld => ?_)
         clear hK K
         refine norm_ (a' := ?_) ?_ ?_
         rotate_left
         ·show Act.put _ (some 191) _ = _
          simp only [Act.put, List.setIfInBounds_toArray, List.set_cons_zero, List.set_cons_succ, i64_w, i32_w]
          rfl
         refine pA 62 192 (bM 81 9223372036854775807) HT_ ?_
         refine pA 63 193 (bM 81 18446744073709551615) HT_ ?_
         refine pA 64 194 (bM 81 36893488147419103231) HT_ ?_
         refine pA 65 195 (bM 81 73786976294838206463) HT_ ?_
         refine pA 66 196 (bM 81 147573952589676412927) HT_ ?_
         refine pA 67 197 (bM 81 295147905179352825855) HT_ ?_
         refine pA 68 198 (bM 81 590295810358705651711) HT_ ?_
         refine pA 69 199 (bM 81 1180591620717411303423) HT_ ?_
         refine pA 70 200 (bM 81 2361183241434822606847) HT_ ?_
         refine pA 71 201 (bM 81 4722366482869645213695) HT_ ?_
         refine pA 72 202 (bM 81 9444732965739290427391) HT_ ?_
         refine pA 73 203 (bM 81 18889465931478580854783) HT_ ?_
         refine pA 74 204 (bM 81 37778931862957161709567) HT_ ?_
         refine take_ (i := 75) (N := some 205) (v := ?_) (a' := ?_) (bM 81 75557863725914323419135) rfl rfl (take_ofW HT_.out HW_.out (by kernel_rfl)) (fun _ _ _ h => h) (Or.inl ⟨by rfl, ?_⟩) hHeld ?_ ?_
         rotate_left
         ·intro w' s0
          go_simp
          with_reducible rfl
         rotate_left
         ·simp only [Act.put, List.setIfInBounds_toArray, List.set_cons_zero, List.set_cons_succ, i64_w, i32_w]
          rfl
         refine take_ (i := 77) (N := some 207) (v := ?_) (a' := ?_) (bM 81 226673591177742970257407) rfl rfl (take_ofW HT_.out HW_.out (by kernel_rfl)) (fun _ _ _ h => h) (Or.inl ⟨by rfl, ?_⟩) hHeld ?_ ?_
         rotate_left
         ·intro w' s0
          go_simp
          with_reducible rfl
         rotate_left
         ·simp only [Act.put, List.setIfInBounds_toArray, List.set_cons_zero, List.set_cons_succ, i64_w, i32_w]
          rfl
         refine one_ (i := 76) (N := some 206) (bM 81 302231454903657293676543) rfl rfl (one_of HT_.out (by kernel_rfl)) (by decide) (fun K hK => ?_)
         refine goes_ Try.func24 (by kernel_rfl) rfl #[.agg #[.slice Ao22 t652.length co22]] (by rfl) rfl rfl eg ?_
         with_reducible refine (impl_IsTree.calls k _ _ t652 t714 _ ?side1 ?side2 A71.out).mono ?_
         (case side1 => exact cS ((Kd.R_reads' HO654.out).2.2))
         (case side2 => exact (Kd.R_reads' HO654.out).2.1)
         rintro e w86 ⟨rfl, hb⟩
         refine ⟨_, rfl, ?_⟩
         replace HO654 := A_ (Kd.R_below (ea HO654) hb)
         replace HO658 := A_ (Kd.R_below (ea HO658) hb)
         replace HO662 := A_ (Kd.R_below (ea HO662) hb)
         replace HO666 := A_ (Kd.R_below (ea HO666) hb)
         replace HO670 := A_ (Kd.R_below (ea HO670) hb)
         replace HO674 := A_ (Kd.R_below (ea HO674) hb)
         replace HO678 := A_ (Kd.R_below (ea HO678) hb)
         replace HO682 := A_ (Kd.R_below (ea HO682) hb)
         replace HO686 := A_ (Kd.R_below (ea HO686) hb)
         replace HO690 := A_ (Kd.R_below (ea HO690) hb)
         replace HO694 := A_ (Kd.R_below (ea HO694) hb)
         replace HO698 := A_ (Kd.R_below (ea HO698) hb)
         replace HO702 := A_ (Kd.R_below (ea HO702) hb)
         replace BK655 := A_ (eB BK655 hb)
         replace HB := A_ (below_step (el HB) hb)
         (try clear hb)
         (try clear hb2)
         (try clear hk)
         (try clear hi)
         refine hK.out _ _ ((blk_cell BK655.out 0).trans rfl) (fun hHeld => ?_)
         clear hK K
         refine norm_ (a' := ?_) ?_ ?_
         rotate_left
         ·show Act.put _ (some 206) _ = _
          simp only [Act.put, List.setIfInBounds_toArray, List.set_cons_zero, List.set_cons_succ, i64_w, i32_w]
          rfl
         refine one_ (i := 78) (N := some 208) (bM 81 604462909807314587353087) rfl rfl (one_of HT_.out (by kernel_rfl)) (by decide) (fun K hK => ?_)
         refine goes_ Try.func25 (by kernel_rfl) rfl #[.agg #[.slice Ao22 t652.length co22]] (by rfl) rfl rfl eg ?_
         with_reducible refine (spec_IsTree.calls k _ _ t652 t715 _ ?side1 ?side2 A72.out).mono ?_
         (case side1 => exact cS ((Kd.R_reads' HO654.out).2.2))
         (case side2 => exact (Kd.R_reads' HO654.out).2.1)
         rintro e w87 ⟨rfl, hb⟩
         refine ⟨_, rfl, ?_⟩
         replace HO654 := A_ (Kd.R_below (ea HO654) hb)
         replace HO658 := A_ (Kd.R_below (ea HO658) hb)
         replace HO662 := A_ (Kd.R_below (ea HO662) hb)
         replace HO666 := A_ (Kd.R_below (ea HO666) hb)
         replace HO670 := A_ (Kd.R_below (ea HO670) hb)
         replace HO674 := A_ (Kd.R_below (ea HO674) hb)
         replace HO678 := A_ (Kd.R_below (ea HO678) hb)
         replace HO682 := A_ (Kd.R_below (ea HO682) hb)
         replace HO686 := A_ (Kd.R_below (ea HO686) hb)
         replace HO690 := A_ (Kd.R_below (ea HO690) hb)
         replace HO694 := A_ (Kd.R_below (ea HO694) hb)
         replace HO698 := A_ (Kd.R_below (ea HO698) hb)
         replace HO702 := A_ (Kd.R_below (ea HO702) hb)
         replace BK655 := A_ (eB BK655 hb)
         replace HB := A_ (below_step (el HB) hb)
         (try clear hb)
         (try clear hb2)
         (try clear hk)
         (try clear hi)
         refine hK.out _ _ ((blk_cell BK655.out 0).trans rfl) (fun hHeld => ?_)
         clear hK K
         refine norm_ (a' := ?_) ?_ ?_
         rotate_left
         ·show Act.put _ (some 208) _ = _
          simp only [Act.put, List.setIfInBounds_toArray, List.set_cons_zero, List.set_cons_succ, i64_w, i32_w]
          rfl
         as_aux_lemma =>
          refine pA 79 209 (bM 81 1208925819614629174706175) HT_ ?_
          refine pA 80 210 (bM 81 2417851639229258349412351) HT_ ?_
          refine done_ (done_of HT_.out (by kernel_rfl)) ?_
          try go_wp2
          go_meet
          case rel => exact ⟨_, ((t714 != t715)), laws_FnTrees.Z10, H', ⟨by first | omega | exact Nat.le_refl _⟩, ⟨by (with_reducible repeat (first | apply Kd.R_alloc | apply Kd.R_drewN | apply Kd.R_drew)); exact Kd.R_mono HO658.out (fun _ hk => ⟨hk.1.1.1.1.1.1.1.1.1.2, ⟨hk.1.1.1.1.1.1.1.2, ⟨hk.1.1.1.1.1.2, ⟨hk.1.1.1.2, ⟨hk.1.2, hk.1.1.1.1.1.1.1.1.1.1.1.2⟩⟩⟩⟩⟩)⟩, ⟨by (with_reducible repeat (first | apply Kd.R_alloc | apply Kd.R_drewN | apply Kd.R_drew)); exact Kd.R_mono HO666.out (fun _ hk => ⟨hk.1.1.1.1.1.1.1.1.1.1.2, ⟨hk.1.1.1.1.1.1.1.2, ⟨hk.1.1.1.1.1.2, ⟨hk.1.1.1.2, ⟨hk.1.2, hk.1.1.1.1.1.1.1.1.1.1.1.2⟩⟩⟩⟩⟩)⟩, ⟨by (with_reducible repeat (first | apply Kd.R_alloc | apply Kd.R_drewN | apply Kd.R_drew)); exact Kd.R_mono HO674.out (fun _ hk => ⟨hk.1.1.1.1.1.1.1.1.1.1.2, ⟨hk.1.1.1.1.1.1.1.1.2, ⟨hk.1.1.1.1.1.2, ⟨hk.1.1.1.2, ⟨hk.1.2, hk.1.1.1.1.1.1.1.1.1.1.1.2⟩⟩⟩⟩⟩)⟩, ⟨by (with_reducible repeat (first | apply Kd.R_alloc | apply Kd.R_drewN | apply Kd.R_drew)); exact Kd.R_mono HO682.out (fun _ hk => ⟨hk.1.1.1.1.1.1.1.1.1.1.2, ⟨hk.1.1.1.1.1.1.1.1.2, ⟨hk.1.1.1.1.1.1.2, ⟨hk.1.1.1.2, ⟨hk.1.2, hk.1.1.1.1.1.1.1.1.1.1.1.2⟩⟩⟩⟩⟩)⟩, ⟨by (with_reducible repeat (first | apply Kd.R_alloc | apply Kd.R_drewN | apply Kd.R_drew)); exact Kd.R_mono HO690.out (fun _ hk => ⟨hk.1.1.1.1.1.1.1.1.1.1.2, ⟨hk.1.1.1.1.1.1.1.1.2, ⟨hk.1.1.1.1.1.1.2, ⟨hk.1.1.1.1.2, ⟨hk.1.2, hk.1.1.1.1.1.1.1.1.1.1.1.2⟩⟩⟩⟩⟩)⟩, ⟨by (with_reducible repeat (first | apply Kd.R_alloc | apply Kd.R_drewN | apply Kd.R_drew)); exact Kd.R_mono HO698.out (fun _ hk => ⟨hk.1.1.1.1.1.1.1.1.1.1.2, ⟨hk.1.1.1.1.1.1.1.1.2, ⟨hk.1.1.1.1.1.1.2, ⟨hk.1.1.1.1.2, ⟨hk.1.1.2, hk.1.1.1.1.1.1.1.1.1.1.1.2⟩⟩⟩⟩⟩)⟩, ⟨by (with_reducible repeat (first | apply Kd.R_alloc | apply Kd.R_drewN | apply Kd.R_drew)); exact Kd.R_mono HO654.out (fun _ hk => ⟨hk.1.1.1.1.1.1.1.1.1.1.1.2, ⟨hk.1.1.1.1.1.1.1.1.1.2, ⟨hk.1.1.1.1.1.1.1.2, ⟨hk.1.1.1.1.1.2, ⟨hk.1.1.1.2, hk.1.2⟩⟩⟩⟩⟩)⟩, ⟨eb BK655⟩, ⟨el HB⟩⟩
  case rest =>
   as_aux_lemma =>
    clear HC19
    try clear p2
    try clear c5
    try clear c51
    try clear c51b0
    try clear c51b1
    obtain ⟨kq, x210_18, rfl, HA, HJ18, HO_4, HO_8, HO_12, HO_16, HO_20, HO_24, HO_656000, BK655, HB⟩ := hcut
    cases kq with
    | zero => exact absurd HA.out (by simp [laws_FnTrees.j0])
    | succ kj18 =>
     have H := HA.out
     clear HA
     simp only [laws_FnTrees.j0] at H
     by_cases c198 : x210_18 = true
     ·subst c198
      have H1 : (none) = some r := by rw [if_pos rfl] at H; exact H
      clear H
      have H := H1
      clear H1
      exact absurd H (by simp)
     replace c198 := Bool.eq_false_iff.mpr c198
     subst c198
     have H1 : (if t659 = 0 then ((impl_TreeText.f kj18 t652).bind fun bt716 => ((impl_ParseTree.f kj18 bt716.1).bind fun bt718 => (if bt716.2 = 0 then (if bt718.2 = 0 then ((laws_trees5.f kj18 bt718.1 t652).bind fun t723 => (if t723 = true then (if 0 < (t656.length : Int) then (if (bt716.1.size : Int) = (wrap64 (2 * (rd t656 0))) then (if (t688.length : Int) = (t656.length : Int) then (if (t696.length : Int) = (t656.length : Int) then ((laws_sum.f kj18 t656).bind fun t725 => ((laws_sum.f kj18 t672).bind fun t726 => (laws_FnTrees.j1 kj18 l0 t656 t664 t672 t680 t688 t696 t704 (t725 != (wrap64 (t726 + (rd t656 0)))) t652))) else (laws_FnTrees.j1 kj18 l0 t656 t664 t672 t680 t688 t696 t704 true t652)) else (laws_FnTrees.j1 kj18 l0 t656 t664 t672 t680 t688 t696 t704 true t652)) else (laws_FnTrees.j1 kj18 l0 t656 t664 t672 t680 t688 t696 t704 true t652)) else (none)) else (laws_FnTrees.j1 kj18 l0 t656 t664 t672 t680 t688 t696 t704 true t652))) else (laws_FnTrees.j1 kj18 l0 t656 t664 t672 t680 t688 t696 t704 true t652)) else (laws_FnTrees.j1 kj18 l0 t656 t664 t672 t680 t688 t696 t704 true t652)))) else (laws_FnTrees.j4 kj18 l0)) = some r := by rw [if_neg (show ¬ (false = true) by decide)] at H; exact H
     clear H
     have H := H1
     clear H1
     have HC199 := A_ H
     clear H
     go_upto_if 212 with (fail)
     go_cut [] (fun wc => ∃ (kq : Nat), Aside0 (laws_FnTrees.j4 kq l0 = some r) ∧ Aside0 (kq ≤ kj18) ∧ Aside0 (Kd.R (Kd.int .i64) 2 wc w.heap.size (fun _ => True) (.slice Ao22 t652.length co22) t652) ∧ Aside0 (wc.heap[gb655]? = some (.cells #[(.slice Ao22 t652.length co22)] 26 (0, 0))) ∧ Aside0 (Below w.heap.size w wc))
     case first =>
      as_aux_lemma =>
       have H := HC199.out
       clear HC199
       by_cases c200 : t659 = 0
       ·rw [if_pos c200] at H
        have c200b0 : (t659 == 0) = true := beq_iff_eq.mpr c200
        have c200b1 : (t659 != 0) = false := bne_eq_false_iff_eq.mpr c200
        clear c200
        (first | rw [c200b0] | (simp only [i64_w, i32_w]; rw [c200b0]) | skip)
        replace H := Option.bind_eq_some_iff.mp H
        obtain ⟨⟨t716, t717⟩, A2010, H⟩ := H
        try dsimp only at H
        have A201 := A_ A2010
        clear A2010
        replace H := Option.bind_eq_some_iff.mp H
        obtain ⟨⟨t718, t721⟩, A2020, H⟩ := H
        try dsimp only at H
        have A202 := A_ A2020
        clear A2020
        have HC203 := A_ H
        clear H
        have hcz204_0 : wc.cell? ⟨gb655, 0, none⟩ = some (.slice Ao22 t652.length co22) := (blk_cell BK655.out 0).trans rfl
        have hfz204_0 := blk_frozen BK655.out 0
        go_upto_region 23 with (first | ((with_reducible refine gate_callee (f := 26) rfl ?_); refine goesL_ (some 215) rfl rfl Try.func26 (by kernel_rfl) rfl #[.agg #[.slice Ao22 t652.length co22]] rfl eg ?_; (with_reducible refine (impl_TreeText.calls kj18 _ _ t652 t716 t717 _ ?side1 ?side2 A201.out).mono ?_); (case side1 => exact cS ((Kd.R_reads' HO_656000.out).2.2)); (case side2 => exact (Kd.R_reads' HO_656000.out).2.1); rintro e w205 ⟨rfl, hb⟩; refine ⟨_, rfl, ?_⟩; replace HO_4 := A_ (Kd.R_below (ea HO_4) hb); replace HO_8 := A_ (Kd.R_below (ea HO_8) hb); replace HO_12 := A_ (Kd.R_below (ea HO_12) hb); replace HO_16 := A_ (Kd.R_below (ea HO_16) hb); replace HO_20 := A_ (Kd.R_below (ea HO_20) hb); replace HO_24 := A_ (Kd.R_below (ea HO_24) hb); replace HO_656000 := A_ (Kd.R_below (ea HO_656000) hb); replace BK655 := A_ (eB BK655 hb); replace HB := A_ (below_step (el HB) hb); (try clear hb); (try clear hb2); (try clear hk); (try clear hi)) | ((with_reducible refine gate_callee (f := 27) rfl ?_); refine goesL_ (some 220) rfl rfl Try.func27 (by kernel_rfl) rfl #[.string t716] rfl eg ?_; (with_reducible refine (impl_ParseTree.calls kj18 t716 t718 t721 _ A202.out).mono ?_); rintro e w206 ⟨v719, rfl, ho0, hb⟩; refine ⟨_, rfl, ?_⟩; have HO720 := A_ (Kd.R_lower (Kd.R_new' (Kd.R_new' (Kd.R_new' (Kd.R_new' (Kd.R_new' (Kd.R_new' (Kd.R_new' ho0 (Kd.R_lt (ea HO_4))) (Kd.R_lt (ea HO_8))) (Kd.R_lt (ea HO_12))) (Kd.R_lt (ea HO_16))) (Kd.R_lt (ea HO_20))) (Kd.R_lt (ea HO_24))) (Kd.R_lt (ea HO_656000))) (below_size (el HB))); replace HO_4 := A_ (Kd.R_elder' (ea HO_4) (Kd.R_base ho0) hb); replace HO_8 := A_ (Kd.R_elder' (ea HO_8) (Kd.R_base ho0) hb); replace HO_12 := A_ (Kd.R_elder' (ea HO_12) (Kd.R_base ho0) hb); replace HO_16 := A_ (Kd.R_elder' (ea HO_16) (Kd.R_base ho0) hb); replace HO_20 := A_ (Kd.R_elder' (ea HO_20) (Kd.R_base ho0) hb); replace HO_24 := A_ (Kd.R_elder' (ea HO_24) (Kd.R_base ho0) hb); replace HO_656000 := A_ (Kd.R_elder' (ea HO_656000) (Kd.R_base ho0) hb); replace BK655 := A_ (eB BK655 hb); replace HB := A_ (below_step (el HB) hb); (try clear hb); (try clear hb2); (try clear hk); (try clear hi); (try clear ho0)) | ((with_reducible refine gate_dst (N := 34) rfl ?_); (try (refine gate_guard (by rfl) ?_; dsimp only)); refine bx 34 #[.slice none 0 0] 26 ?_; intro gb722 hg w207 hbox hb; replace HO_4 := A_ (Kd.R_below (ea HO_4) hb); replace HO_8 := A_ (Kd.R_below (ea HO_8) hb); replace HO_12 := A_ (Kd.R_below (ea HO_12) hb); replace HO_16 := A_ (Kd.R_below (ea HO_16) hb); replace HO_20 := A_ (Kd.R_below (ea HO_20) hb); replace HO_24 := A_ (Kd.R_below (ea HO_24) hb); replace HO_656000 := A_ (Kd.R_below (ea HO_656000) hb); replace HO720 := A_ (Kd.R_below (ea HO720) hb); have BK722 := A_ hbox; have GW722 := A_ (eG hg (below_size (el HB)) : w.heap.size ≤ gb722); have GE722 := A_ (eG hg (below_size (el HB)) : w.heap.size ≤ gb722); replace HB := A_ (below_step (el HB) hb); have NB655_722 := A_ ((by rw [hg]; exact Nat.ne_of_lt (eL BK655) : gb655 ≠ gb722)); have NB722_655 := A_ ((by rw [hg]; exact Nat.ne_of_gt (eL BK655) : gb722 ≠ gb655)); replace BK655 := A_ (eB BK655 hb); clear hb hbox hg; obtain ⟨Ao208, co208, eo208⟩ := Kd.R_slice HO720.out; subst eo208; have hnb209 := NB722_655.out; have hnc209 := NB655_722.out; have hcz210_0 : w207.cell? ⟨gb722, 0, none⟩ = some (.slice none 0 0) := (blk_cell BK722.out 0).trans rfl; have hfz210_0 := blk_frozen BK722.out 0))
        (try simp only [Act.put, List.setIfInBounds_toArray, List.set_cons_zero, List.set_cons_succ])
        go_cut [268] (fun v268 wc => ∃ (kq : Nat) (x268_202 : Bool), v268 = .bool x268_202 ∧ Aside0 (laws_FnTrees.j1 kq l0 t656 t664 t672 t680 t688 t696 t704 x268_202 t652 = some r) ∧ Aside0 (kq ≤ kj18) ∧ Aside0 (Kd.R (Kd.int .i64) 2 wc w.heap.size (fun k_ => some k_ ≠ (v665 : Value).ownBlock ∧ some k_ ≠ (v673 : Value).ownBlock ∧ some k_ ≠ (v681 : Value).ownBlock ∧ some k_ ≠ (v689 : Value).ownBlock ∧ some k_ ≠ (v697 : Value).ownBlock ∧ some k_ ≠ ((.slice Ao22 t652.length co22) : Value).ownBlock ∧ some k_ ≠ ((.slice Ao208 t718.length co208) : Value).ownBlock) v657 t656) ∧ Aside0 (Kd.R (Kd.int .i64) 2 wc w.heap.size (fun k_ => some k_ ≠ (v657 : Value).ownBlock ∧ some k_ ≠ (v673 : Value).ownBlock ∧ some k_ ≠ (v681 : Value).ownBlock ∧ some k_ ≠ (v689 : Value).ownBlock ∧ some k_ ≠ (v697 : Value).ownBlock ∧ some k_ ≠ ((.slice Ao22 t652.length co22) : Value).ownBlock ∧ some k_ ≠ ((.slice Ao208 t718.length co208) : Value).ownBlock) v665 t664) ∧ Aside0 (Kd.R (Kd.int .i64) 2 wc w.heap.size (fun k_ => some k_ ≠ (v657 : Value).ownBlock ∧ some k_ ≠ (v665 : Value).ownBlock ∧ some k_ ≠ (v681 : Value).ownBlock ∧ some k_ ≠ (v689 : Value).ownBlock ∧ some k_ ≠ (v697 : Value).ownBlock ∧ some k_ ≠ ((.slice Ao22 t652.length co22) : Value).ownBlock ∧ some k_ ≠ ((.slice Ao208 t718.length co208) : Value).ownBlock) v673 t672) ∧ Aside0 (Kd.R (Kd.int .i64) 2 wc w.heap.size (fun k_ => some k_ ≠ (v657 : Value).ownBlock ∧ some k_ ≠ (v665 : Value).ownBlock ∧ some k_ ≠ (v673 : Value).ownBlock ∧ some k_ ≠ (v689 : Value).ownBlock ∧ some k_ ≠ (v697 : Value).ownBlock ∧ some k_ ≠ ((.slice Ao22 t652.length co22) : Value).ownBlock ∧ some k_ ≠ ((.slice Ao208 t718.length co208) : Value).ownBlock) v681 t680) ∧ Aside0 (Kd.R (Kd.int .i64) 2 wc w.heap.size (fun k_ => some k_ ≠ (v657 : Value).ownBlock ∧ some k_ ≠ (v665 : Value).ownBlock ∧ some k_ ≠ (v673 : Value).ownBlock ∧ some k_ ≠ (v681 : Value).ownBlock ∧ some k_ ≠ (v697 : Value).ownBlock ∧ some k_ ≠ ((.slice Ao22 t652.length co22) : Value).ownBlock ∧ some k_ ≠ ((.slice Ao208 t718.length co208) : Value).ownBlock) v689 t688) ∧ Aside0 (Kd.R (Kd.int .i64) 2 wc w.heap.size (fun k_ => some k_ ≠ (v657 : Value).ownBlock ∧ some k_ ≠ (v665 : Value).ownBlock ∧ some k_ ≠ (v673 : Value).ownBlock ∧ some k_ ≠ (v681 : Value).ownBlock ∧ some k_ ≠ (v689 : Value).ownBlock ∧ some k_ ≠ ((.slice Ao22 t652.length co22) : Value).ownBlock ∧ some k_ ≠ ((.slice Ao208 t718.length co208) : Value).ownBlock) v697 t696) ∧ Aside0 (Kd.R (Kd.int .i64) 2 wc w.heap.size (fun k_ => some k_ ≠ (v657 : Value).ownBlock ∧ some k_ ≠ (v665 : Value).ownBlock ∧ some k_ ≠ (v673 : Value).ownBlock ∧ some k_ ≠ (v681 : Value).ownBlock ∧ some k_ ≠ (v689 : Value).ownBlock ∧ some k_ ≠ (v697 : Value).ownBlock ∧ some k_ ≠ ((.slice Ao208 t718.length co208) : Value).ownBlock) (.slice Ao22 t652.length co22) t652) ∧ Aside0 (Kd.R (Kd.int .i64) 2 wc w.heap.size (fun k_ => some k_ ≠ (v657 : Value).ownBlock ∧ some k_ ≠ (v665 : Value).ownBlock ∧ some k_ ≠ (v673 : Value).ownBlock ∧ some k_ ≠ (v681 : Value).ownBlock ∧ some k_ ≠ (v689 : Value).ownBlock ∧ some k_ ≠ (v697 : Value).ownBlock ∧ some k_ ≠ ((.slice Ao22 t652.length co22) : Value).ownBlock) (.slice Ao208 t718.length co208) t718) ∧ Aside0 (wc.heap[gb655]? = some (.cells #[(.slice Ao22 t652.length co22)] 26 (0, 0))) ∧ Aside0 (wc.heap[gb722]? = some (.cells #[(.slice Ao208 t718.length co208)] 26 (0, 0))) ∧ Aside0 (Below w.heap.size w wc))
        case first =>
         as_aux_lemma =>
          have H := HC203.out
          clear HC203
          by_cases c211 : t717 = 0
          rotate_left
          ·rw [if_neg c211] at H
           have c211b0 : (t717 == 0) = false := beq_eq_false_iff_ne.mpr c211
           have c211b1 : (t717 != 0) = true := bne_iff_ne.mpr c211
           (first | rw [c211b0] | (simp only [i64_w, i32_w]; rw [c211b0]) | skip)
           simp only [laws_FnTrees.dead0, laws_FnTrees.dead1] at H
           exact absurd H (by simp)
          rw [if_pos c211] at H
          have c211b0 : (t717 == 0) = true := beq_iff_eq.mpr c211
          have c211b1 : (t717 != 0) = false := bne_eq_false_iff_eq.mpr c211
          clear c211
          (first | rw [c211b0] | (simp only [i64_w, i32_w]; rw [c211b0]) | skip)
          by_cases c212 : t721 = 0
          rotate_left
          ·rw [if_neg c212] at H
           have c212b0 : (t721 == 0) = false := beq_eq_false_iff_ne.mpr c212
           have c212b1 : (t721 != 0) = true := bne_iff_ne.mpr c212
           simp only [laws_FnTrees.dead0, laws_FnTrees.dead1] at H
           exact absurd H (by simp)
          rw [if_pos c212] at H
          have c212b0 : (t721 == 0) = true := beq_iff_eq.mpr c212
          have c212b1 : (t721 != 0) = false := bne_eq_false_iff_eq.mpr c212
          clear c212
          replace H := Option.bind_eq_some_iff.mp H
          obtain ⟨t723, A2130, H⟩ := H
          try dsimp only at H
          have A213 := A_ A2130
          clear A2130
          by_cases c214 : t723 = true
          rotate_left
          ·replace c214 := Bool.eq_false_iff.mpr c214
           subst c214
           have H1 : (laws_FnTrees.j1 kj18 l0 t656 t664 t672 t680 t688 t696 t704 true t652) = some r := by rw [if_neg (show ¬ (false = true) by decide)] at H; exact H
           clear H
           have H := H1
           clear H1
           simp only [laws_FnTrees.dead0, laws_FnTrees.dead1] at H
           exact absurd H (by simp)
          subst c214
          have H1 : (if 0 < (t656.length : Int) then (if (t716.size : Int) = (wrap64 (2 * (rd t656 0))) then (if (t688.length : Int) = (t656.length : Int) then (if (t696.length : Int) = (t656.length : Int) then ((laws_sum.f kj18 t656).bind fun t725 => ((laws_sum.f kj18 t672).bind fun t726 => (laws_FnTrees.j1 kj18 l0 t656 t664 t672 t680 t688 t696 t704 (t725 != (wrap64 (t726 + (rd t656 0)))) t652))) else (laws_FnTrees.j1 kj18 l0 t656 t664 t672 t680 t688 t696 t704 true t652)) else (laws_FnTrees.j1 kj18 l0 t656 t664 t672 t680 t688 t696 t704 true t652)) else (laws_FnTrees.j1 kj18 l0 t656 t664 t672 t680 t688 t696 t704 true t652)) else (none)) = some r := by rw [if_pos rfl] at H; exact H
          clear H
          have H := H1
          clear H1
          by_cases c215 : 0 < (t656.length : Int)
          rotate_left
          ·rw [if_neg c215] at H
           exact absurd H (by simp)
          rw [if_pos c215] at H
          have c215b0 := decide_eq_true c215
          have c215b1 : decide (0 < t656.length) = true := decide_eq_true (by omega)
          clear c215
          by_cases c216 : (t716.size : Int) = (wrap64 (2 * (rd t656 0)))
          rotate_left
          ·rw [if_neg c216] at H
           have c216b0 : ((t716.size : Int) == (wrap64 (2 * (rd t656 0)))) = false := beq_eq_false_iff_ne.mpr c216
           have c216b1 : ((t716.size : Int) != (wrap64 (2 * (rd t656 0)))) = true := bne_iff_ne.mpr c216
           simp only [laws_FnTrees.dead0, laws_FnTrees.dead1] at H
           exact absurd H (by simp)
          rw [if_pos c216] at H
          have c216b0 : ((t716.size : Int) == (wrap64 (2 * (rd t656 0)))) = true := beq_iff_eq.mpr c216
          have c216b1 : ((t716.size : Int) != (wrap64 (2 * (rd t656 0)))) = false := bne_eq_false_iff_eq.mpr c216
          clear c216
          by_cases c217 : (t688.length : Int) = (t656.length : Int)
          rotate_left
          ·rw [if_neg c217] at H
           have c217b0 : ((t688.length : Int) == (t656.length : Int)) = false := beq_eq_false_iff_ne.mpr c217
           have c217b1 : ((t688.length : Int) != (t656.length : Int)) = true := bne_iff_ne.mpr c217
           have c217b2 : (t688.length == t656.length) = false := by first | simpa using c217 | (simp at c217 ⊢; omega)
           simp only [laws_FnTrees.dead0, laws_FnTrees.dead1] at H
           exact absurd H (by simp)
          rw [if_pos c217] at H
          have c217b0 : ((t688.length : Int) == (t656.length : Int)) = true := beq_iff_eq.mpr c217
          have c217b1 : ((t688.length : Int) != (t656.length : Int)) = false := bne_eq_false_iff_eq.mpr c217
          have c217b2 : (t688.length == t656.length) = true := by first | simpa using c217 | (simp at c217 ⊢; omega)
          clear c217
          by_cases c218 : (t696.length : Int) = (t656.length : Int)
          rotate_left
          ·rw [if_neg c218] at H
           have c218b0 : ((t696.length : Int) == (t656.length : Int)) = false := beq_eq_false_iff_ne.mpr c218
           have c218b1 : ((t696.length : Int) != (t656.length : Int)) = true := bne_iff_ne.mpr c218
           have c218b2 : (t696.length == t656.length) = false := by first | simpa using c218 | (simp at c218 ⊢; omega)
           simp only [laws_FnTrees.dead0, laws_FnTrees.dead1] at H
           exact absurd H (by simp)
          rw [if_pos c218] at H
          have c218b0 : ((t696.length : Int) == (t656.length : Int)) = true := beq_iff_eq.mpr c218
          have c218b1 : ((t696.length : Int) != (t656.length : Int)) = false := bne_eq_false_iff_eq.mpr c218
          have c218b2 : (t696.length == t656.length) = true := by first | simpa using c218 | (simp at c218 ⊢; omega)
          clear c218
          replace H := Option.bind_eq_some_iff.mp H
          obtain ⟨t725, A2190, H⟩ := H
          try dsimp only at H
          have A219 := A_ A2190
          clear A2190
          replace H := Option.bind_eq_some_iff.mp H
          obtain ⟨t726, A2200, H⟩ := H
          try dsimp only at H
          have A220 := A_ A2200
          clear A2200
          have H' := A_ H
          clear H
          try go_wp2
          have n0_ : Aside0 (Kd.R (Kd.int .i64) 2 (w207.setCell ⟨gb722, 0, none⟩ (.slice Ao208 t718.length co208)) w.heap.size (fun k_ => some k_ ≠ (v665 : Value).ownBlock ∧ some k_ ≠ (v673 : Value).ownBlock ∧ some k_ ≠ (v681 : Value).ownBlock ∧ some k_ ≠ (v689 : Value).ownBlock ∧ some k_ ≠ (v697 : Value).ownBlock ∧ some k_ ≠ (.slice Ao22 t652.length co22 : Value).ownBlock ∧ some k_ ≠ (.slice Ao208 t718.length co208 : Value).ownBlock) v657 t656) := ⟨by (with_reducible repeat (first | apply Kd.R_alloc | apply Kd.R_drewN | apply Kd.R_drew)); exact Kd.R_mono (Kd.R_far (p := ⟨gb722, 0, none⟩) (Kd.R_types HO_4.out BK722.out (by decide)) (fun _ hk => hk.2) (.slice Ao208 t718.length co208)) (fun _ hk => ⟨hk.1.1.1, ⟨hk.1.1.2.1, ⟨hk.1.1.2.2.1, ⟨hk.1.1.2.2.2.1, ⟨hk.1.1.2.2.2.2.1, ⟨hk.1.1.2.2.2.2.2, hk.1.2⟩⟩⟩⟩⟩⟩)⟩
          have n1_ : Aside0 (Kd.R (Kd.int .i64) 2 (w207.setCell ⟨gb722, 0, none⟩ (.slice Ao208 t718.length co208)) w.heap.size (fun k_ => some k_ ≠ (v657 : Value).ownBlock ∧ some k_ ≠ (v673 : Value).ownBlock ∧ some k_ ≠ (v681 : Value).ownBlock ∧ some k_ ≠ (v689 : Value).ownBlock ∧ some k_ ≠ (v697 : Value).ownBlock ∧ some k_ ≠ (.slice Ao22 t652.length co22 : Value).ownBlock ∧ some k_ ≠ (.slice Ao208 t718.length co208 : Value).ownBlock) v665 t664) := ⟨by (with_reducible repeat (first | apply Kd.R_alloc | apply Kd.R_drewN | apply Kd.R_drew)); exact Kd.R_mono (Kd.R_far (p := ⟨gb722, 0, none⟩) (Kd.R_types HO_8.out BK722.out (by decide)) (fun _ hk => hk.2) (.slice Ao208 t718.length co208)) (fun _ hk => ⟨hk.1.1.1, ⟨hk.1.1.2.1, ⟨hk.1.1.2.2.1, ⟨hk.1.1.2.2.2.1, ⟨hk.1.1.2.2.2.2.1, ⟨hk.1.1.2.2.2.2.2, hk.1.2⟩⟩⟩⟩⟩⟩)⟩
          have n2_ : Aside0 (Kd.R (Kd.int .i64) 2 (w207.setCell ⟨gb722, 0, none⟩ (.slice Ao208 t718.length co208)) w.heap.size (fun k_ => some k_ ≠ (v657 : Value).ownBlock ∧ some k_ ≠ (v665 : Value).ownBlock ∧ some k_ ≠ (v681 : Value).ownBlock ∧ some k_ ≠ (v689 : Value).ownBlock ∧ some k_ ≠ (v697 : Value).ownBlock ∧ some k_ ≠ (.slice Ao22 t652.length co22 : Value).ownBlock ∧ some k_ ≠ (.slice Ao208 t718.length co208 : Value).ownBlock) v673 t672) := ⟨by (with_reducible repeat (first | apply Kd.R_alloc | apply Kd.R_drewN | apply Kd.R_drew)); exact Kd.R_mono (Kd.R_far (p := ⟨gb722, 0, none⟩) (Kd.R_types HO_12.out BK722.out (by decide)) (fun _ hk => hk.2) (.slice Ao208 t718.length co208)) (fun _ hk => ⟨hk.1.1.1, ⟨hk.1.1.2.1, ⟨hk.1.1.2.2.1, ⟨hk.1.1.2.2.2.1, ⟨hk.1.1.2.2.2.2.1, ⟨hk.1.1.2.2.2.2.2, hk.1.2⟩⟩⟩⟩⟩⟩)⟩
          have n3_ : Aside0 (Kd.R (Kd.int .i64) 2 (w207.setCell ⟨gb722, 0, none⟩ (.slice Ao208 t718.length co208)) w.heap.size (fun k_ => some k_ ≠ (v657 : Value).ownBlock ∧ some k_ ≠ (v665 : Value).ownBlock ∧ some k_ ≠ (v673 : Value).ownBlock ∧ some k_ ≠ (v689 : Value).ownBlock ∧ some k_ ≠ (v697 : Value).ownBlock ∧ some k_ ≠ (.slice Ao22 t652.length co22 : Value).ownBlock ∧ some k_ ≠ (.slice Ao208 t718.length co208 : Value).ownBlock) v681 t680) := ⟨by (with_reducible repeat (first | apply Kd.R_alloc | apply Kd.R_drewN | apply Kd.R_drew)); exact Kd.R_mono (Kd.R_far (p := ⟨gb722, 0, none⟩) (Kd.R_types HO_16.out BK722.out (by decide)) (fun _ hk => hk.2) (.slice Ao208 t718.length co208)) (fun _ hk => ⟨hk.1.1.1, ⟨hk.1.1.2.1, ⟨hk.1.1.2.2.1, ⟨hk.1.1.2.2.2.1, ⟨hk.1.1.2.2.2.2.1, ⟨hk.1.1.2.2.2.2.2, hk.1.2⟩⟩⟩⟩⟩⟩)⟩
          have n4_ : Aside0 (Kd.R (Kd.int .i64) 2 (w207.setCell ⟨gb722, 0, none⟩ (.slice Ao208 t718.length co208)) w.heap.size (fun k_ => some k_ ≠ (v657 : Value).ownBlock ∧ some k_ ≠ (v665 : Value).ownBlock ∧ some k_ ≠ (v673 : Value).ownBlock ∧ some k_ ≠ (v681 : Value).ownBlock ∧ some k_ ≠ (v697 : Value).ownBlock ∧ some k_ ≠ (.slice Ao22 t652.length co22 : Value).ownBlock ∧ some k_ ≠ (.slice Ao208 t718.length co208 : Value).ownBlock) v689 t688) := ⟨by (with_reducible repeat (first | apply Kd.R_alloc | apply Kd.R_drewN | apply Kd.R_drew)); exact Kd.R_mono (Kd.R_far (p := ⟨gb722, 0, none⟩) (Kd.R_types HO_20.out BK722.out (by decide)) (fun _ hk => hk.2) (.slice Ao208 t718.length co208)) (fun _ hk => ⟨hk.1.1.1, ⟨hk.1.1.2.1, ⟨hk.1.1.2.2.1, ⟨hk.1.1.2.2.2.1, ⟨hk.1.1.2.2.2.2.1, ⟨hk.1.1.2.2.2.2.2, hk.1.2⟩⟩⟩⟩⟩⟩)⟩
          have n5_ : Aside0 (Kd.R (Kd.int .i64) 2 (w207.setCell ⟨gb722, 0, none⟩ (.slice Ao208 t718.length co208)) w.heap.size (fun k_ => some k_ ≠ (v657 : Value).ownBlock ∧ some k_ ≠ (v665 : Value).ownBlock ∧ some k_ ≠ (v673 : Value).ownBlock ∧ some k_ ≠ (v681 : Value).ownBlock ∧ some k_ ≠ (v689 : Value).ownBlock ∧ some k_ ≠ (.slice Ao22 t652.length co22 : Value).ownBlock ∧ some k_ ≠ (.slice Ao208 t718.length co208 : Value).ownBlock) v697 t696) := ⟨by (with_reducible repeat (first | apply Kd.R_alloc | apply Kd.R_drewN | apply Kd.R_drew)); exact Kd.R_mono (Kd.R_far (p := ⟨gb722, 0, none⟩) (Kd.R_types HO_24.out BK722.out (by decide)) (fun _ hk => hk.2) (.slice Ao208 t718.length co208)) (fun _ hk => ⟨hk.1.1.1, ⟨hk.1.1.2.1, ⟨hk.1.1.2.2.1, ⟨hk.1.1.2.2.2.1, ⟨hk.1.1.2.2.2.2.1, ⟨hk.1.1.2.2.2.2.2, hk.1.2⟩⟩⟩⟩⟩⟩)⟩
          have n6_ : Aside0 (Kd.R (Kd.int .i64) 2 (w207.setCell ⟨gb722, 0, none⟩ (.slice Ao208 t718.length co208)) w.heap.size (fun k_ => some k_ ≠ (v657 : Value).ownBlock ∧ some k_ ≠ (v665 : Value).ownBlock ∧ some k_ ≠ (v673 : Value).ownBlock ∧ some k_ ≠ (v681 : Value).ownBlock ∧ some k_ ≠ (v689 : Value).ownBlock ∧ some k_ ≠ (v697 : Value).ownBlock ∧ some k_ ≠ (.slice Ao208 t718.length co208 : Value).ownBlock) (.slice Ao22 t652.length co22) t652) := ⟨by (with_reducible repeat (first | apply Kd.R_alloc | apply Kd.R_drewN | apply Kd.R_drew)); exact Kd.R_mono (Kd.R_far (p := ⟨gb722, 0, none⟩) (Kd.R_types HO_656000.out BK722.out (by decide)) (fun _ hk => hk.2) (.slice Ao208 t718.length co208)) (fun _ hk => ⟨hk.1.1.1, ⟨hk.1.1.2.1, ⟨hk.1.1.2.2.1, ⟨hk.1.1.2.2.2.1, ⟨hk.1.1.2.2.2.2.1, ⟨hk.1.1.2.2.2.2.2, hk.1.2⟩⟩⟩⟩⟩⟩)⟩
          have n7_ : Aside0 (Kd.R (Kd.int .i64) 2 (w207.setCell ⟨gb722, 0, none⟩ (.slice Ao208 t718.length co208)) w.heap.size (fun k_ => some k_ ≠ (v657 : Value).ownBlock ∧ some k_ ≠ (v665 : Value).ownBlock ∧ some k_ ≠ (v673 : Value).ownBlock ∧ some k_ ≠ (v681 : Value).ownBlock ∧ some k_ ≠ (v689 : Value).ownBlock ∧ some k_ ≠ (v697 : Value).ownBlock ∧ some k_ ≠ (.slice Ao22 t652.length co22 : Value).ownBlock) (.slice Ao208 t718.length co208) t718) := ⟨by (with_reducible repeat (first | apply Kd.R_alloc | apply Kd.R_drewN | apply Kd.R_drew)); exact Kd.R_mono (Kd.R_far (p := ⟨gb722, 0, none⟩) (Kd.R_types HO720.out BK722.out (by decide)) (fun _ hk => hk.2) (.slice Ao208 t718.length co208)) (fun _ hk => ⟨hk.1.1.1.1.1.1.1.2, ⟨hk.1.1.1.1.1.1.2, ⟨hk.1.1.1.1.1.2, ⟨hk.1.1.1.1.2, ⟨hk.1.1.1.2, ⟨hk.1.1.2, hk.1.2⟩⟩⟩⟩⟩⟩)⟩
          have n8_ : Aside0 ((w207.setCell ⟨gb722, 0, none⟩ (.slice Ao208 t718.length co208)).heap[gb655]? = some (.cells #[.slice Ao22 t652.length co22] 26 (0, 0))) := ⟨eb BK655⟩
          have n9_ : Aside0 ((w207.setCell ⟨gb722, 0, none⟩ (.slice Ao208 t718.length co208)).heap[gb722]? = some (.cells #[.slice Ao208 t718.length co208] 26 (0, 0))) := ⟨by (with_reducible repeat (first | refine blk_drewN ?_ _ | refine blk_drew ?_ | refine blk_alloc ?_ _)); refine blk_put (cs := #[.slice none 0 0]) ?_ 0 _ rfl; (with_reducible repeat (first | refine blk_drewN ?_ _ | refine blk_drew ?_ | refine blk_alloc ?_ _)); exact BK722.out⟩
          have n10_ : Aside0 (Below w.heap.size w (w207.setCell ⟨gb722, 0, none⟩ (.slice Ao208 t718.length co208))) := ⟨el HB⟩
          (try clear HO_4)
          (try clear HO_8)
          (try clear HO_12)
          (try clear HO_16)
          (try clear HO_20)
          (try clear HO_24)
          (try clear HO_656000)
          (try clear HO720)
          (try clear BK655)
          (try clear BK722)
          (try clear HB)
          generalize (w207.setCell ⟨gb722, 0, none⟩ (.slice Ao208 t718.length co208)) = w221 at n0_ n1_ n2_ n3_ n4_ n5_ n6_ n7_ n8_ n9_ n10_ ⊢
          have HO_4 := n0_
          have HO_8 := n1_
          have HO_12 := n2_
          have HO_16 := n3_
          have HO_20 := n4_
          have HO_24 := n5_
          have HO_656000 := n6_
          have HO720 := n7_
          have BK655 := n8_
          have BK722 := n9_
          have HB := n10_
          clear n0_ n1_ n2_ n3_ n4_ n5_ n6_ n7_ n8_ n9_ n10_
          replace HO_4 := A_ (Kd.R_drew HO_4.out)
          replace HO_8 := A_ (Kd.R_drew HO_8.out)
          replace HO_12 := A_ (Kd.R_drew HO_12.out)
          replace HO_16 := A_ (Kd.R_drew HO_16.out)
          replace HO_20 := A_ (Kd.R_drew HO_20.out)
          replace HO_24 := A_ (Kd.R_drew HO_24.out)
          replace HO_656000 := A_ (Kd.R_drew HO_656000.out)
          replace HO720 := A_ (Kd.R_drew HO720.out)
          replace BK655 := A_ (blk_drew BK655.out)
          replace BK722 := A_ (blk_drew BK722.out)
          replace HB := A_ (below_drew1 HB.out)
          have p724 : 0 ≤ (0 : Int) := (by omega)
          have q724 : 0 < (t656.length : Int) := of_decide_eq_true laws_FnTrees.Z9
          obtain ⟨Ar724, cr724, er724⟩ := Kd.R_slice HO_4.out
          (first | subst er724 | (injection er724 with f1_ f2_ f3_; have f4_ := f1_.symm; have f5_ := f3_.symm; clear f1_ f2_ f3_; subst f4_; subst f5_))
          obtain ⟨ad724, e724, hx724_0⟩ := Kd.at_int (Kd.R_reads' HO_4.out).2.2 0 p724 q724
          cases e724
          have qi724 : (0 < t656.length) = True := eq_true (by omega)
          (try rw [show ((0 : Int)).toNat = 0 from rfl] at hx724_0)
          (try rw [Addr.add_zero'] at hx724_0)
          replace p724 := eq_true p724
          replace q724 := eq_true q724
          have p727 : 0 ≤ (0 : Int) := (by omega)
          have q727 : 0 < (t656.length : Int) := of_decide_eq_true laws_FnTrees.Z9
          obtain ⟨ad727, e727, hx727_0⟩ := Kd.at_int (Kd.R_reads' HO_4.out).2.2 0 p727 q727
          obtain rfl : ad724 = ad727 := (by injection e727)
          have qi727 : (0 < t656.length) = True := eq_true (by omega)
          (try rw [show ((0 : Int)).toNat = 0 from rfl] at hx727_0)
          (try rw [Addr.add_zero'] at hx727_0)
          replace p727 := eq_true p727
          replace q727 := eq_true q727
          as_aux_lemma =>
           refine start_ (n := 46) (S := fun w' => w'.cell? ⟨gb722, 0, none⟩ = some (.slice Ao208 t718.length co208) ∧ w'.cell? ⟨gb655, 0, none⟩ = some (.slice Ao22 t652.length co22) ∧ w'.cell? ad724 = some (.int .i64 (rd t656 0)) ∧ w'.cell? ad724 = some (.int .i64 (rd t656 0))) (ds := []) (bM 46 0) (by kernel_rfl) rfl rfl ⟨(blk_cell BK722.out 0).trans rfl, (blk_cell BK655.out 0).trans rfl, hx724_0, hx727_0⟩ (fun hHeld => ?_); refine with_tabW laws_FnTrees.tab23 laws_FnTrees.bits23 (fun HT_ HW_ => ?_)
           generalize w221.drew = w222 at HO_4 HO_8 HO_12 HO_16 HO_20 HO_24 HO_656000 HO720 BK655 BK722 HB hx724_0 hx727_0 hHeld ⊢
           refine pA 0 223 (bM 46 1) HT_ ?_
           refine pA 1 224 (bM 46 3) HT_ ?_
           refine pA 2 225 (bM 46 7) HT_ ?_
           refine pA 3 226 (bM 46 15) HT_ ?_
           refine pA 4 227 (bM 46 31) HT_ ?_
           refine pA 5 228 (bM 46 63) HT_ ?_
           refine pA 6 229 (bM 46 127) HT_ ?_
           refine take_ (i := 7) (N := some 230) (v := ?_) (a' := ?_) (bM 46 255) rfl rfl (take_ofW HT_.out HW_.out (by kernel_rfl)) (fun _ _ _ h => h) (Or.inl ⟨by rfl, ?_⟩) hHeld ?_ ?_
           rotate_left
           ·rintro w' ⟨s0, s1, s2, s3⟩
            go_simp
            with_reducible rfl
           rotate_left
           ·simp only [Act.put, List.setIfInBounds_toArray, List.set_cons_zero, List.set_cons_succ, i64_w, i32_w]
            rfl
           refine take_ (i := 8) (N := some 231) (v := ?_) (a' := ?_) (bM 46 511) rfl rfl (take_ofW HT_.out HW_.out (by kernel_rfl)) (fun _ _ _ h => h) (Or.inl ⟨by rfl, ?_⟩) hHeld ?_ ?_
           rotate_left
           ·rintro w' ⟨s0, s1, s2, s3⟩
            go_simp
            with_reducible rfl
           rotate_left
           ·simp only [Act.put, List.setIfInBounds_toArray, List.set_cons_zero, List.set_cons_succ, i64_w, i32_w]
            rfl
           refine one_ (i := 9) (N := some 232) (bM 46 1023) rfl rfl (one_of HT_.out (by kernel_rfl)) (by decide) (fun K hK => ?_)
           refine goes_ Try.func28 (by kernel_rfl) rfl #[.agg #[.slice Ao208 t718.length co208], .agg #[.slice Ao22 t652.length co22]] (by rfl) rfl rfl eg ?_
           with_reducible refine (laws_trees5.calls kj18 _ _ t718 _ _ t652 true _ ?side1 ?side2 ?side3 ?side4 A213.out).mono ?_
           (case side1 => exact cS ((Kd.R_reads' HO720.out).2.2))
           (case side2 => exact (Kd.R_reads' HO720.out).2.1)
           (case side3 => exact cS ((Kd.R_reads' HO_656000.out).2.2))
           (case side4 => exact (Kd.R_reads' HO_656000.out).2.1)
           rintro e w223 ⟨rfl, hb⟩
           have HS2_ := (hb.cell (World.block_lt_of_cell? _ _ (hHeld.2.2.1))).trans (hHeld.2.2.1)
           have HS3_ := (hb.cell (World.block_lt_of_cell? _ _ (hHeld.2.2.2))).trans (hHeld.2.2.2)
           refine ⟨_, rfl, ?_⟩
           replace HO_4 := A_ (Kd.R_below (ea HO_4) hb)
           replace HO_8 := A_ (Kd.R_below (ea HO_8) hb)
           replace HO_12 := A_ (Kd.R_below (ea HO_12) hb)
           replace HO_16 := A_ (Kd.R_below (ea HO_16) hb)
           replace HO_20 := A_ (Kd.R_below (ea HO_20) hb)
           replace HO_24 := A_ (Kd.R_below (ea HO_24) hb)
           replace HO_656000 := A_ (Kd.R_below (ea HO_656000) hb)
           replace HO720 := A_ (Kd.R_below (ea HO720) hb)
           replace BK655 := A_ (eB BK655 hb)
           replace BK722 := A_ (eB BK722 hb)
           replace HB := A_ (below_step (el HB) hb)
           (try clear hb)
           (try clear hb2)
           (try clear hk)
           (try clear hi)
           obtain ⟨Ao224, co224, eo224⟩ := Kd.R_slice HO_4.out
           (first | subst eo224 | (injection eo224 with f1_ f2_ f3_; have f4_ := f1_.symm; have f5_ := f3_.symm; clear f1_ f2_ f3_; subst f4_; subst f5_))
           obtain ⟨Ao225, co225, eo225⟩ := Kd.R_slice HO_20.out
           (first | subst eo225 | (injection eo225 with f1_ f2_ f3_; have f4_ := f1_.symm; have f5_ := f3_.symm; clear f1_ f2_ f3_; subst f4_; subst f5_))
           obtain ⟨Ao226, co226, eo226⟩ := Kd.R_slice HO_24.out
           (first | subst eo226 | (injection eo226 with f1_ f2_ f3_; have f4_ := f1_.symm; have f5_ := f3_.symm; clear f1_ f2_ f3_; subst f4_; subst f5_))
           refine hK.out _ _ ⟨(blk_cell BK722.out 0).trans rfl, (blk_cell BK655.out 0).trans rfl, HS2_, HS3_⟩ (fun hHeld => ?_)
           clear hK K
           refine norm_ (a' := ?_) ?_ ?_
           rotate_left
           ·show Act.put _ (some 232) _ = _
            simp only [Act.put, List.setIfInBounds_toArray, List.set_cons_zero, List.set_cons_succ, i64_w, i32_w]
            rfl
           refine pA 10 233 (bM 46 2047) HT_ ?_
           refine pA 11 234 (bM 46 4095) HT_ ?_
           refine pA 12 235 (bM 46 8191) HT_ ?_
           refine pA 13 236 (bM 46 16383) HT_ ?_
           as_aux_lemma =>
            refine pA 14 237 (bM 46 32767) HT_ ?_
            refine pA 15 238 (bM 46 65535) HT_ ?_
            refine pA 16 239 (bM 46 131071) HT_ ?_
            refine take_ (i := 17) (N := some 240) (v := ?_) (a' := ?_) (bM 46 262143) rfl rfl (take_ofW HT_.out HW_.out (by kernel_rfl)) (fun _ _ _ h => h) (Or.inl ⟨by rfl, ?_⟩) hHeld ?_ ?_
            rotate_left
            ·rintro w' ⟨s0, s1, s2, s3⟩
             go_simp
             with_reducible rfl
            rotate_left
            ·simp only [Act.put, List.setIfInBounds_toArray, List.set_cons_zero, List.set_cons_succ, i64_w, i32_w]
             rfl
            refine pA 18 241 (bM 46 524287) HT_ ?_
            refine pA 19 242 (bM 46 1048575) HT_ ?_
            refine pA 20 243 (bM 46 2097151) HT_ ?_
            refine pA 21 244 (bM 46 4194303) HT_ ?_
            refine pA 22 245 (bM 46 8388607) HT_ ?_
            refine pA 23 246 (bM 46 16777215) HT_ ?_
            refine pA 24 247 (bM 46 33554431) HT_ ?_
            refine pA 25 248 (bM 46 67108863) HT_ ?_
            refine pA 26 249 (bM 46 134217727) HT_ ?_
            refine pA 27 250 (bM 46 268435455) HT_ ?_
            as_aux_lemma =>
             refine pA 28 251 (bM 46 536870911) HT_ ?_
             refine pA 29 252 (bM 46 1073741823) HT_ ?_
             refine pA 30 253 (bM 46 2147483647) HT_ ?_
             refine pA 31 254 (bM 46 4294967295) HT_ ?_
             refine pA 32 255 (bM 46 8589934591) HT_ ?_
             refine pA 33 256 (bM 46 17179869183) HT_ ?_
             refine pA 34 257 (bM 46 34359738367) HT_ ?_
             refine pA 35 258 (bM 46 68719476735) HT_ ?_
             refine pA 36 259 (bM 46 137438953471) HT_ ?_
             refine pA 38 261 (bM 46 412316860415) HT_ ?_
             refine pA 40 263 (bM 46 1511828488191) HT_ ?_
             refine pA 41 264 (bM 46 3710851743743) HT_ ?_
             refine take_ (i := 42) (N := some 265) (v := ?_) (a' := ?_) (bM 46 8108898254847) rfl rfl (take_ofW HT_.out HW_.out (by kernel_rfl)) (fun _ _ _ h => h) (Or.inl ⟨by rfl, ?_⟩) hHeld ?_ ?_
             rotate_left
             ·rintro w' ⟨s0, s1, s2, s3⟩
              go_simp
              with_reducible rfl
             rotate_left
             ·simp only [Act.put, List.setIfInBounds_toArray, List.set_cons_zero, List.set_cons_succ, i64_w, i32_w]
              rfl
             refine one_ (i := 37) (N := some 260) (bM 46 8246337208319) rfl rfl (one_of HT_.out (by kernel_rfl)) (by decide) (fun K hK => ?_)
             refine goes_ Try.func29 (by kernel_rfl) rfl #[.slice (some ad724) t656.length co224] (by rfl) rfl rfl eg ?_
             with_reducible refine (laws_sum.calls kj18 _ _ t656 t725 _ ?side1 ?side2 A219.out).mono ?_
             (case side1 => exact cS ((Kd.R_reads' HO_4.out).2.2))
             (case side2 => exact (Kd.R_reads' HO_4.out).2.1)
             rintro e w' ⟨rfl, ⟨nd, rfl⟩⟩
             refine ⟨_, rfl, ?_⟩
             obtain ⟨Ao227, co227, eo227⟩ := Kd.R_slice HO_12.out
             (first | subst eo227 | (injection eo227 with f1_ f2_ f3_; have f4_ := f1_.symm; have f5_ := f3_.symm; clear f1_ f2_ f3_; subst f4_; subst f5_))
             refine hK.out _ _ ⟨(blk_cell BK722.out 0).trans rfl, (blk_cell BK655.out 0).trans rfl, hHeld.2.2.1, hHeld.2.2.2⟩ (fun hHeld => ?_)
             clear hK K
             refine norm_ (a' := ?_) ?_ ?_
             rotate_left
             ·show Act.put _ (some 260) _ = _
              simp only [Act.put, List.setIfInBounds_toArray, List.set_cons_zero, List.set_cons_succ, i64_w, i32_w]
              rfl
             refine one_ (i := 39) (N := some 262) (bM 46 8796093022207) rfl rfl (one_of HT_.out (by kernel_rfl)) (by decide) (fun K hK => ?_)
             refine goes_ Try.func29 (by kernel_rfl) rfl #[.slice Ao227 t672.length co227] (by rfl) rfl rfl eg ?_
             with_reducible refine (laws_sum.calls kj18 _ _ t672 t726 _ ?side1 ?side2 A220.out).mono ?_
             (case side1 => exact cS ((Kd.R_reads' HO_12.out).2.2))
             (case side2 => exact (Kd.R_reads' HO_12.out).2.1)
             rintro e w' ⟨rfl, ⟨nd, rfl⟩⟩
             refine ⟨_, rfl, ?_⟩
             refine hK.out _ _ ⟨(blk_cell BK722.out 0).trans rfl, (blk_cell BK655.out 0).trans rfl, hHeld.2.2.1, hHeld.2.2.2⟩ (fun hHeld => ?_)
             clear hK K
             refine norm_ (a' := ?_) ?_ ?_
             rotate_left
             ·show Act.put _ (some 262) _ = _
              simp only [Act.put, List.setIfInBounds_toArray, List.set_cons_zero, List.set_cons_succ, i64_w, i32_w]
              rfl
             refine pA 43 266 (bM 46 17592186044415) HT_ ?_
             as_aux_lemma =>
              refine pA 44 267 (bM 46 35184372088831) HT_ ?_
              refine pA 45 268 (bM 46 70368744177663) HT_ ?_
              refine done_ (done_of HT_.out (by kernel_rfl)) ?_
              try go_wp2
              go_meet
              case rel => exact ⟨_, ((t725 != (wrap64 (t726 + (rd t656 0))))), laws_FnTrees.Z10, H', ⟨by have := HJ18.out; first | omega | exact Nat.le_refl _⟩, ⟨es HO_4⟩, ⟨es HO_8⟩, ⟨es HO_12⟩, ⟨es HO_16⟩, ⟨es HO_20⟩, ⟨es HO_24⟩, ⟨es HO_656000⟩, ⟨es HO720⟩, ⟨eb BK655⟩, ⟨eb BK722⟩, ⟨el HB⟩⟩
        case rest =>
         as_aux_lemma =>
          clear HC203
          try clear c2
          try clear p2
          try clear c21
          try clear c211
          try clear c211b0
          try clear c211b1
          obtain ⟨kq, x268_202, rfl, HA, HJ202, HO_4, HO_8, HO_12, HO_16, HO_20, HO_24, HO_656000, HO_723000, BK655, BK722, HB⟩ := hcut
          cases kq with
          | zero => exact absurd HA.out (by simp [laws_FnTrees.j1])
          | succ kj202 =>
           have H := HA.out
           clear HA
           simp only [laws_FnTrees.j1] at H
           by_cases c250 : x268_202 = true
           ·subst c250
            have H1 : (none) = some r := by rw [if_pos rfl] at H; exact H
            clear H
            have H := H1
            clear H1
            exact absurd H (by simp)
           replace c250 := Bool.eq_false_iff.mpr c250
           subst c250
           have H1 : (laws_FnTrees.l0 kj202 l0 t656 t664 t672 t680 t688 t696 t704 (t656.length : Int) 0 t652) = some r := by rw [if_neg (show ¬ (false = true) by decide)] at H; exact H
           clear H
           have H := H1
           clear H1
           have H' := A_ H
           clear H
           obtain ⟨Ao251, co251, eo251⟩ := Kd.R_slice HO_4.out
           subst eo251
           go_wp2
           go_loopg [271] kj202 (fun kq v271 w' => ∃ (x271_3 : Int), v271 = .int .i64 x271_3 ∧ Aside0 (laws_FnTrees.l0 kq l0 t656 t664 t672 t680 t688 t696 t704 (t656.length : Int) x271_3 t652 = some r) ∧ Aside0 (kq ≤ kj202) ∧ Aside0 (Kd.R (Kd.int .i64) 2 w' w.heap.size (fun k_ => some k_ ≠ (v665 : Value).ownBlock ∧ some k_ ≠ (v673 : Value).ownBlock ∧ some k_ ≠ (v681 : Value).ownBlock ∧ some k_ ≠ (v689 : Value).ownBlock ∧ some k_ ≠ (v697 : Value).ownBlock ∧ some k_ ≠ ((.slice Ao22 t652.length co22) : Value).ownBlock ∧ some k_ ≠ ((.slice Ao208 t718.length co208) : Value).ownBlock) (.slice Ao251 t656.length co251) t656) ∧ Aside0 (Kd.R (Kd.int .i64) 2 w' w.heap.size (fun k_ => some k_ ≠ ((.slice Ao251 t656.length co251) : Value).ownBlock ∧ some k_ ≠ (v673 : Value).ownBlock ∧ some k_ ≠ (v681 : Value).ownBlock ∧ some k_ ≠ (v689 : Value).ownBlock ∧ some k_ ≠ (v697 : Value).ownBlock ∧ some k_ ≠ ((.slice Ao22 t652.length co22) : Value).ownBlock ∧ some k_ ≠ ((.slice Ao208 t718.length co208) : Value).ownBlock) v665 t664) ∧ Aside0 (Kd.R (Kd.int .i64) 2 w' w.heap.size (fun k_ => some k_ ≠ ((.slice Ao251 t656.length co251) : Value).ownBlock ∧ some k_ ≠ (v665 : Value).ownBlock ∧ some k_ ≠ (v681 : Value).ownBlock ∧ some k_ ≠ (v689 : Value).ownBlock ∧ some k_ ≠ (v697 : Value).ownBlock ∧ some k_ ≠ ((.slice Ao22 t652.length co22) : Value).ownBlock ∧ some k_ ≠ ((.slice Ao208 t718.length co208) : Value).ownBlock) v673 t672) ∧ Aside0 (Kd.R (Kd.int .i64) 2 w' w.heap.size (fun k_ => some k_ ≠ ((.slice Ao251 t656.length co251) : Value).ownBlock ∧ some k_ ≠ (v665 : Value).ownBlock ∧ some k_ ≠ (v673 : Value).ownBlock ∧ some k_ ≠ (v689 : Value).ownBlock ∧ some k_ ≠ (v697 : Value).ownBlock ∧ some k_ ≠ ((.slice Ao22 t652.length co22) : Value).ownBlock ∧ some k_ ≠ ((.slice Ao208 t718.length co208) : Value).ownBlock) v681 t680) ∧ Aside0 (Kd.R (Kd.int .i64) 2 w' w.heap.size (fun k_ => some k_ ≠ ((.slice Ao251 t656.length co251) : Value).ownBlock ∧ some k_ ≠ (v665 : Value).ownBlock ∧ some k_ ≠ (v673 : Value).ownBlock ∧ some k_ ≠ (v681 : Value).ownBlock ∧ some k_ ≠ (v697 : Value).ownBlock ∧ some k_ ≠ ((.slice Ao22 t652.length co22) : Value).ownBlock ∧ some k_ ≠ ((.slice Ao208 t718.length co208) : Value).ownBlock) v689 t688) ∧ Aside0 (Kd.R (Kd.int .i64) 2 w' w.heap.size (fun k_ => some k_ ≠ ((.slice Ao251 t656.length co251) : Value).ownBlock ∧ some k_ ≠ (v665 : Value).ownBlock ∧ some k_ ≠ (v673 : Value).ownBlock ∧ some k_ ≠ (v681 : Value).ownBlock ∧ some k_ ≠ (v689 : Value).ownBlock ∧ some k_ ≠ ((.slice Ao22 t652.length co22) : Value).ownBlock ∧ some k_ ≠ ((.slice Ao208 t718.length co208) : Value).ownBlock) v697 t696) ∧ Aside0 (Kd.R (Kd.int .i64) 2 w' w.heap.size (fun k_ => some k_ ≠ ((.slice Ao251 t656.length co251) : Value).ownBlock ∧ some k_ ≠ (v665 : Value).ownBlock ∧ some k_ ≠ (v673 : Value).ownBlock ∧ some k_ ≠ (v681 : Value).ownBlock ∧ some k_ ≠ (v689 : Value).ownBlock ∧ some k_ ≠ (v697 : Value).ownBlock ∧ some k_ ≠ ((.slice Ao208 t718.length co208) : Value).ownBlock) (.slice Ao22 t652.length co22) t652) ∧ Aside0 (Kd.R (Kd.int .i64) 2 w' w.heap.size (fun k_ => some k_ ≠ ((.slice Ao251 t656.length co251) : Value).ownBlock ∧ some k_ ≠ (v665 : Value).ownBlock ∧ some k_ ≠ (v673 : Value).ownBlock ∧ some k_ ≠ (v681 : Value).ownBlock ∧ some k_ ≠ (v689 : Value).ownBlock ∧ some k_ ≠ (v697 : Value).ownBlock ∧ some k_ ≠ ((.slice Ao22 t652.length co22) : Value).ownBlock) (.slice Ao208 t718.length co208) t718) ∧ Aside0 (w'.heap[gb655]? = some (.cells #[(.slice Ao22 t652.length co22)] 26 (0, 0))) ∧ Aside0 (w'.heap[gb722]? = some (.cells #[(.slice Ao208 t718.length co208)] 26 (0, 0))) ∧ Aside0 (Below w.heap.size w w'))
           case atStart => exact ⟨(0), laws_FnTrees.Z10, H', ⟨Nat.le_refl _⟩, ⟨ea HO_4⟩, ⟨ea HO_8⟩, ⟨ea HO_12⟩, ⟨ea HO_16⟩, ⟨ea HO_20⟩, ⟨ea HO_24⟩, ⟨ea HO_656000⟩, ⟨ea HO_723000⟩, ⟨eb BK655⟩, ⟨eb BK722⟩, ⟨el HB⟩⟩
           case round =>
            as_aux_lemma =>
             clear H'
             try clear c2
             try clear p2
             try clear c21
             try clear c25
             try clear c211
             try clear c211b0
             try clear c211b1
             try clear c250
             try clear p2
             obtain ⟨x271_3, rfl, HA, HK3, HO_4, HO_8, HO_12, HO_16, HO_20, HO_24, HO_656000, HO_723000, BK655, BK722, HB⟩ := hrel
             cases gk with
             | zero => exact absurd HA.out (by simp [laws_FnTrees.l0])
             | succ k3 =>
              have H := HA.out
              clear HA
              simp only [laws_FnTrees.l0] at H
              by_cases c252 : x271_3 < (t656.length : Int)
              ·rw [if_pos c252] at H
               have c252b0 := decide_eq_true c252
               clear c252
               replace H := Option.bind_eq_some_iff.mp H
               obtain ⟨⟨t728, t731⟩, A2530, H⟩ := H
               try dsimp only at H
               have A253 := A_ A2530
               clear A2530
               have H' := A_ H
               clear H
               have hnb254 := NB655_722.out
               have hnc254 := NB722_655.out
               have hcz255_0 : wr.cell? ⟨gb655, 0, none⟩ = some (.slice Ao22 t652.length co22) := (blk_cell BK655.out 0).trans rfl
               have hfz255_0 := blk_frozen BK655.out 0
               go_wp2_with (first | ((with_reducible refine gate_callee (f := 30) rfl ?_); refine goesL_ (some 277) rfl rfl Try.func30 (by kernel_rfl) rfl #[.agg #[.slice Ao22 t652.length co22], .int .i64 x271_3] rfl eg ?_; (with_reducible refine (impl_ChildrenOf.calls k3 _ _ t652 x271_3 t728 t731 _ ?side1 ?side2 A253.out).mono ?_); (case side1 => exact cS ((Kd.R_reads' HO_656000.out).2.2)); (case side2 => exact (Kd.R_reads' HO_656000.out).2.1); rintro e w256 ⟨v729, rfl, ho0, hb⟩; refine ⟨_, rfl, ?_⟩; have HO730 := A_ (Kd.R_lower (Kd.R_new' (Kd.R_new' (Kd.R_new' (Kd.R_new' (Kd.R_new' (Kd.R_new' (Kd.R_new' (Kd.R_new' ho0 (Kd.R_lt (ea HO_4))) (Kd.R_lt (ea HO_8))) (Kd.R_lt (ea HO_12))) (Kd.R_lt (ea HO_16))) (Kd.R_lt (ea HO_20))) (Kd.R_lt (ea HO_24))) (Kd.R_lt (ea HO_656000))) (Kd.R_lt (ea HO_723000))) (below_size (el HB))); replace HO_4 := A_ (Kd.R_elder' (ea HO_4) (Kd.R_base ho0) hb); replace HO_8 := A_ (Kd.R_elder' (ea HO_8) (Kd.R_base ho0) hb); replace HO_12 := A_ (Kd.R_elder' (ea HO_12) (Kd.R_base ho0) hb); replace HO_16 := A_ (Kd.R_elder' (ea HO_16) (Kd.R_base ho0) hb); replace HO_20 := A_ (Kd.R_elder' (ea HO_20) (Kd.R_base ho0) hb); replace HO_24 := A_ (Kd.R_elder' (ea HO_24) (Kd.R_base ho0) hb); replace HO_656000 := A_ (Kd.R_elder' (ea HO_656000) (Kd.R_base ho0) hb); replace HO_723000 := A_ (Kd.R_elder' (ea HO_723000) (Kd.R_base ho0) hb); replace BK655 := A_ (eB BK655 hb); replace BK722 := A_ (eB BK722 hb); replace HB := A_ (below_step (el HB) hb); (try clear hb); (try clear hb2); (try clear hk); (try clear hi); (try clear ho0); obtain ⟨Ao257, co257, eo257⟩ := Kd.R_slice HO730.out; subst eo257))
               go_loopg [39, 282] k3 (fun kq v39 v282 w' => ∃ (x39_4 : Int) (x282_4 : Int), v39 = .int .i64 x39_4 ∧ v282 = .int .i64 x282_4 ∧ Aside0 (laws_FnTrees.l1 kq l0 t656 t664 t672 t680 t688 t696 t704 x271_3 t728 t731 x39_4 (t656.length : Int) x271_3 (t728.length : Int) x282_4 t652 = some r) ∧ Aside0 (kq ≤ k3) ∧ Aside0 (Kd.R (Kd.int .i64) 2 w' w.heap.size (fun k_ => some k_ ≠ (v665 : Value).ownBlock ∧ some k_ ≠ (v673 : Value).ownBlock ∧ some k_ ≠ (v681 : Value).ownBlock ∧ some k_ ≠ (v689 : Value).ownBlock ∧ some k_ ≠ (v697 : Value).ownBlock ∧ some k_ ≠ ((.slice Ao257 t728.length co257) : Value).ownBlock ∧ some k_ ≠ ((.slice Ao22 t652.length co22) : Value).ownBlock ∧ some k_ ≠ ((.slice Ao208 t718.length co208) : Value).ownBlock) (.slice Ao251 t656.length co251) t656) ∧ Aside0 (Kd.R (Kd.int .i64) 2 w' w.heap.size (fun k_ => some k_ ≠ ((.slice Ao251 t656.length co251) : Value).ownBlock ∧ some k_ ≠ (v673 : Value).ownBlock ∧ some k_ ≠ (v681 : Value).ownBlock ∧ some k_ ≠ (v689 : Value).ownBlock ∧ some k_ ≠ (v697 : Value).ownBlock ∧ some k_ ≠ ((.slice Ao257 t728.length co257) : Value).ownBlock ∧ some k_ ≠ ((.slice Ao22 t652.length co22) : Value).ownBlock ∧ some k_ ≠ ((.slice Ao208 t718.length co208) : Value).ownBlock) v665 t664) ∧ Aside0 (Kd.R (Kd.int .i64) 2 w' w.heap.size (fun k_ => some k_ ≠ ((.slice Ao251 t656.length co251) : Value).ownBlock ∧ some k_ ≠ (v665 : Value).ownBlock ∧ some k_ ≠ (v681 : Value).ownBlock ∧ some k_ ≠ (v689 : Value).ownBlock ∧ some k_ ≠ (v697 : Value).ownBlock ∧ some k_ ≠ ((.slice Ao257 t728.length co257) : Value).ownBlock ∧ some k_ ≠ ((.slice Ao22 t652.length co22) : Value).ownBlock ∧ some k_ ≠ ((.slice Ao208 t718.length co208) : Value).ownBlock) v673 t672) ∧ Aside0 (Kd.R (Kd.int .i64) 2 w' w.heap.size (fun k_ => some k_ ≠ ((.slice Ao251 t656.length co251) : Value).ownBlock ∧ some k_ ≠ (v665 : Value).ownBlock ∧ some k_ ≠ (v673 : Value).ownBlock ∧ some k_ ≠ (v689 : Value).ownBlock ∧ some k_ ≠ (v697 : Value).ownBlock ∧ some k_ ≠ ((.slice Ao257 t728.length co257) : Value).ownBlock ∧ some k_ ≠ ((.slice Ao22 t652.length co22) : Value).ownBlock ∧ some k_ ≠ ((.slice Ao208 t718.length co208) : Value).ownBlock) v681 t680) ∧ Aside0 (Kd.R (Kd.int .i64) 2 w' w.heap.size (fun k_ => some k_ ≠ ((.slice Ao251 t656.length co251) : Value).ownBlock ∧ some k_ ≠ (v665 : Value).ownBlock ∧ some k_ ≠ (v673 : Value).ownBlock ∧ some k_ ≠ (v681 : Value).ownBlock ∧ some k_ ≠ (v697 : Value).ownBlock ∧ some k_ ≠ ((.slice Ao257 t728.length co257) : Value).ownBlock ∧ some k_ ≠ ((.slice Ao22 t652.length co22) : Value).ownBlock ∧ some k_ ≠ ((.slice Ao208 t718.length co208) : Value).ownBlock) v689 t688) ∧ Aside0 (Kd.R (Kd.int .i64) 2 w' w.heap.size (fun k_ => some k_ ≠ ((.slice Ao251 t656.length co251) : Value).ownBlock ∧ some k_ ≠ (v665 : Value).ownBlock ∧ some k_ ≠ (v673 : Value).ownBlock ∧ some k_ ≠ (v681 : Value).ownBlock ∧ some k_ ≠ (v689 : Value).ownBlock ∧ some k_ ≠ ((.slice Ao257 t728.length co257) : Value).ownBlock ∧ some k_ ≠ ((.slice Ao22 t652.length co22) : Value).ownBlock ∧ some k_ ≠ ((.slice Ao208 t718.length co208) : Value).ownBlock) v697 t696) ∧ Aside0 (Kd.R (Kd.int .i64) 2 w' w.heap.size (fun k_ => some k_ ≠ ((.slice Ao251 t656.length co251) : Value).ownBlock ∧ some k_ ≠ (v665 : Value).ownBlock ∧ some k_ ≠ (v673 : Value).ownBlock ∧ some k_ ≠ (v681 : Value).ownBlock ∧ some k_ ≠ (v689 : Value).ownBlock ∧ some k_ ≠ (v697 : Value).ownBlock ∧ some k_ ≠ ((.slice Ao22 t652.length co22) : Value).ownBlock ∧ some k_ ≠ ((.slice Ao208 t718.length co208) : Value).ownBlock) (.slice Ao257 t728.length co257) t728) ∧ Aside0 (Kd.R (Kd.int .i64) 2 w' w.heap.size (fun k_ => some k_ ≠ ((.slice Ao251 t656.length co251) : Value).ownBlock ∧ some k_ ≠ (v665 : Value).ownBlock ∧ some k_ ≠ (v673 : Value).ownBlock ∧ some k_ ≠ (v681 : Value).ownBlock ∧ some k_ ≠ (v689 : Value).ownBlock ∧ some k_ ≠ (v697 : Value).ownBlock ∧ some k_ ≠ ((.slice Ao257 t728.length co257) : Value).ownBlock ∧ some k_ ≠ ((.slice Ao208 t718.length co208) : Value).ownBlock) (.slice Ao22 t652.length co22) t652) ∧ Aside0 (Kd.R (Kd.int .i64) 2 w' w.heap.size (fun k_ => some k_ ≠ ((.slice Ao251 t656.length co251) : Value).ownBlock ∧ some k_ ≠ (v665 : Value).ownBlock ∧ some k_ ≠ (v673 : Value).ownBlock ∧ some k_ ≠ (v681 : Value).ownBlock ∧ some k_ ≠ (v689 : Value).ownBlock ∧ some k_ ≠ (v697 : Value).ownBlock ∧ some k_ ≠ ((.slice Ao257 t728.length co257) : Value).ownBlock ∧ some k_ ≠ ((.slice Ao22 t652.length co22) : Value).ownBlock) (.slice Ao208 t718.length co208) t718) ∧ Aside0 (w'.heap[gb655]? = some (.cells #[(.slice Ao22 t652.length co22)] 26 (0, 0))) ∧ Aside0 (w'.heap[gb722]? = some (.cells #[(.slice Ao208 t718.length co208)] 26 (0, 0))) ∧ Aside0 (Below w.heap.size w w'))
               case atStart => exact ⟨(1), (0), laws_FnTrees.Z10, laws_FnTrees.Z10, H', ⟨Nat.le_refl _⟩, ⟨by (with_reducible repeat (first | apply Kd.R_alloc | apply Kd.R_drewN | apply Kd.R_drew)); exact Kd.R_mono HO_4.out (fun _ hk => ⟨hk.1.1, ⟨hk.1.2.1, ⟨hk.1.2.2.1, ⟨hk.1.2.2.2.1, ⟨hk.1.2.2.2.2.1, ⟨hk.2, ⟨hk.1.2.2.2.2.2.1, hk.1.2.2.2.2.2.2⟩⟩⟩⟩⟩⟩⟩)⟩, ⟨by (with_reducible repeat (first | apply Kd.R_alloc | apply Kd.R_drewN | apply Kd.R_drew)); exact Kd.R_mono HO_8.out (fun _ hk => ⟨hk.1.1, ⟨hk.1.2.1, ⟨hk.1.2.2.1, ⟨hk.1.2.2.2.1, ⟨hk.1.2.2.2.2.1, ⟨hk.2, ⟨hk.1.2.2.2.2.2.1, hk.1.2.2.2.2.2.2⟩⟩⟩⟩⟩⟩⟩)⟩, ⟨by (with_reducible repeat (first | apply Kd.R_alloc | apply Kd.R_drewN | apply Kd.R_drew)); exact Kd.R_mono HO_12.out (fun _ hk => ⟨hk.1.1, ⟨hk.1.2.1, ⟨hk.1.2.2.1, ⟨hk.1.2.2.2.1, ⟨hk.1.2.2.2.2.1, ⟨hk.2, ⟨hk.1.2.2.2.2.2.1, hk.1.2.2.2.2.2.2⟩⟩⟩⟩⟩⟩⟩)⟩, ⟨by (with_reducible repeat (first | apply Kd.R_alloc | apply Kd.R_drewN | apply Kd.R_drew)); exact Kd.R_mono HO_16.out (fun _ hk => ⟨hk.1.1, ⟨hk.1.2.1, ⟨hk.1.2.2.1, ⟨hk.1.2.2.2.1, ⟨hk.1.2.2.2.2.1, ⟨hk.2, ⟨hk.1.2.2.2.2.2.1, hk.1.2.2.2.2.2.2⟩⟩⟩⟩⟩⟩⟩)⟩, ⟨by (with_reducible repeat (first | apply Kd.R_alloc | apply Kd.R_drewN | apply Kd.R_drew)); exact Kd.R_mono HO_20.out (fun _ hk => ⟨hk.1.1, ⟨hk.1.2.1, ⟨hk.1.2.2.1, ⟨hk.1.2.2.2.1, ⟨hk.1.2.2.2.2.1, ⟨hk.2, ⟨hk.1.2.2.2.2.2.1, hk.1.2.2.2.2.2.2⟩⟩⟩⟩⟩⟩⟩)⟩, ⟨by (with_reducible repeat (first | apply Kd.R_alloc | apply Kd.R_drewN | apply Kd.R_drew)); exact Kd.R_mono HO_24.out (fun _ hk => ⟨hk.1.1, ⟨hk.1.2.1, ⟨hk.1.2.2.1, ⟨hk.1.2.2.2.1, ⟨hk.1.2.2.2.2.1, ⟨hk.2, ⟨hk.1.2.2.2.2.2.1, hk.1.2.2.2.2.2.2⟩⟩⟩⟩⟩⟩⟩)⟩, ⟨by (with_reducible repeat (first | apply Kd.R_alloc | apply Kd.R_drewN | apply Kd.R_drew)); exact Kd.R_mono HO730.out (fun _ hk => ⟨hk.1.1.1.1.1.1.1.2, ⟨hk.1.1.1.1.1.1.2, ⟨hk.1.1.1.1.1.2, ⟨hk.1.1.1.1.2, ⟨hk.1.1.1.2, ⟨hk.1.1.2, ⟨hk.1.2, hk.2⟩⟩⟩⟩⟩⟩⟩)⟩, ⟨by (with_reducible repeat (first | apply Kd.R_alloc | apply Kd.R_drewN | apply Kd.R_drew)); exact Kd.R_mono HO_656000.out (fun _ hk => ⟨hk.1.1, ⟨hk.1.2.1, ⟨hk.1.2.2.1, ⟨hk.1.2.2.2.1, ⟨hk.1.2.2.2.2.1, ⟨hk.1.2.2.2.2.2.1, ⟨hk.2, hk.1.2.2.2.2.2.2⟩⟩⟩⟩⟩⟩⟩)⟩, ⟨by (with_reducible repeat (first | apply Kd.R_alloc | apply Kd.R_drewN | apply Kd.R_drew)); exact Kd.R_mono HO_723000.out (fun _ hk => ⟨hk.1.1, ⟨hk.1.2.1, ⟨hk.1.2.2.1, ⟨hk.1.2.2.2.1, ⟨hk.1.2.2.2.2.1, ⟨hk.1.2.2.2.2.2.1, ⟨hk.2, hk.1.2.2.2.2.2.2⟩⟩⟩⟩⟩⟩⟩)⟩, ⟨eb BK655⟩, ⟨eb BK722⟩, ⟨el HB⟩⟩
               case round =>
                as_aux_lemma =>
                 clear H'
                 try clear c2
                 try clear p2
                 try clear c3
                 try clear c21
                 try clear c25
                 try clear c30
                 try clear c211
                 try clear c211b0
                 try clear c211b1
                 try clear c250
                 try clear c252
                 try clear c252b0
                 try clear c254
                 try clear hcz255_0
                 try clear hfz255_0
                 try clear p2
                 obtain ⟨x39_4, x282_4, rfl, rfl, HA, HK4, HO_4, HO_8, HO_12, HO_16, HO_20, HO_24, HO_37, HO_656000, HO_723000, BK655, BK722, HB⟩ := hrel
                 cases gk with
                 | zero => exact absurd HA.out (by simp [laws_FnTrees.l1])
                 | succ k4 =>
                  have H := HA.out
                  clear HA
                  simp only [laws_FnTrees.l1] at H
                  by_cases c258 : x282_4 < (t728.length : Int)
                  ·rw [if_pos c258] at H
                   have c258b0 := decide_eq_true c258
                   clear c258
                   by_cases c259 : 0 ≤ x282_4
                   rotate_left
                   ·rw [if_neg c259] at H
                    exact absurd H (by simp)
                   rw [if_pos c259] at H
                   have c259b0 := decide_eq_true c259
                   clear c259
                   by_cases c260 : x282_4 < (t728.length : Int)
                   rotate_left
                   ·rw [if_neg c260] at H
                    exact absurd H (by simp)
                   rw [if_pos c260] at H
                   have c260b0 := decide_eq_true c260
                   clear c260
                   by_cases c261 : (rd t728 x282_4) < 0
                   ·rw [if_pos c261] at H
                    have c261b0 := decide_eq_true c261
                    clear c261
                    exact absurd H (by simp)
                   rw [if_neg c261] at H
                   have c261b0 := decide_eq_false c261
                   clear c261
                   by_cases c262 : 0 < (t656.length : Int)
                   rotate_left
                   ·rw [if_neg c262] at H
                    exact absurd H (by simp)
                   rw [if_pos c262] at H
                   have c262b0 := decide_eq_true c262
                   have c262b1 : decide (0 < t656.length) = true := decide_eq_true (by omega)
                   clear c262
                   by_cases c263 : (rd t728 x282_4) ≥ (rd t656 0)
                   ·rw [if_pos c263] at H
                    have c263b0 := decide_eq_true c263
                    clear c263
                    exact absurd H (by simp)
                   rw [if_neg c263] at H
                   have c263b0 := decide_eq_false c263
                   clear c263
                   by_cases c264 : 0 ≤ (rd t728 x282_4)
                   rotate_left
                   ·rw [if_neg c264] at H
                    exact absurd H (by simp)
                   rw [if_pos c264] at H
                   have c264b0 := decide_eq_true c264
                   clear c264
                   by_cases c265 : (rd t728 x282_4) < (t664.length : Int)
                   rotate_left
                   ·rw [if_neg c265] at H
                    exact absurd H (by simp)
                   rw [if_pos c265] at H
                   have c265b0 := decide_eq_true c265
                   clear c265
                   by_cases c266 : (rd t664 (rd t728 x282_4)) = x271_3
                   rotate_left
                   ·rw [if_neg c266] at H
                    have c266b0 : ((rd t664 (rd t728 x282_4)) == x271_3) = false := beq_eq_false_iff_ne.mpr c266
                    have c266b1 : ((rd t664 (rd t728 x282_4)) != x271_3) = true := bne_iff_ne.mpr c266
                    exact absurd H (by simp)
                   rw [if_pos c266] at H
                   have c266b0 : ((rd t664 (rd t728 x282_4)) == x271_3) = true := beq_iff_eq.mpr c266
                   have c266b1 : ((rd t664 (rd t728 x282_4)) != x271_3) = false := bne_eq_false_iff_eq.mpr c266
                   clear c266
                   by_cases c267 : (rd t728 x282_4) < (t672.length : Int)
                   rotate_left
                   ·rw [if_neg c267] at H
                    exact absurd H (by simp)
                   rw [if_pos c267] at H
                   have c267b0 := decide_eq_true c267
                   clear c267
                   by_cases c268 : 0 ≤ x271_3
                   rotate_left
                   ·rw [if_neg c268] at H
                    exact absurd H (by simp)
                   rw [if_pos c268] at H
                   have c268b0 := decide_eq_true c268
                   clear c268
                   by_cases c269 : x271_3 < (t672.length : Int)
                   rotate_left
                   ·rw [if_neg c269] at H
                    exact absurd H (by simp)
                   rw [if_pos c269] at H
                   have c269b0 := decide_eq_true c269
                   clear c269
                   by_cases c270 : (rd t672 (rd t728 x282_4)) = (wrap64 ((rd t672 x271_3) + 1))
                   rotate_left
                   ·rw [if_neg c270] at H
                    exact absurd H (by simp)
                   rw [if_pos c270] at H
                   have c270b0 : ((rd t672 (rd t728 x282_4)) == (wrap64 ((rd t672 x271_3) + 1))) = true := beq_iff_eq.mpr c270
                   have c270b1 : ((rd t672 (rd t728 x282_4)) != (wrap64 ((rd t672 x271_3) + 1))) = false := bne_eq_false_iff_eq.mpr c270
                   clear c270
                   by_cases c271 : (rd t728 x282_4) < (t656.length : Int)
                   rotate_left
                   ·rw [if_neg c271] at H
                    exact absurd H (by simp)
                   rw [if_pos c271] at H
                   have c271b0 := decide_eq_true c271
                   clear c271
                   have H' := A_ H
                   clear H
                   try go_wp2
                   replace HO_4 := A_ (Kd.R_drew HO_4.out)
                   replace HO_8 := A_ (Kd.R_drew HO_8.out)
                   replace HO_12 := A_ (Kd.R_drew HO_12.out)
                   replace HO_16 := A_ (Kd.R_drew HO_16.out)
                   replace HO_20 := A_ (Kd.R_drew HO_20.out)
                   replace HO_24 := A_ (Kd.R_drew HO_24.out)
                   replace HO_37 := A_ (Kd.R_drew HO_37.out)
                   replace HO_656000 := A_ (Kd.R_drew HO_656000.out)
                   replace HO_723000 := A_ (Kd.R_drew HO_723000.out)
                   replace BK655 := A_ (blk_drew BK655.out)
                   replace BK722 := A_ (blk_drew BK722.out)
                   replace HB := A_ (below_drew1 HB.out)
                   have p732 : 0 ≤ (x282_4 : Int) := of_decide_eq_true laws_FnTrees.Z9
                   have q732 : x282_4 < (t728.length : Int) := of_decide_eq_true laws_FnTrees.Z9
                   obtain ⟨Ar732, cr732, er732⟩ := Kd.R_slice HO_37.out
                   (first | subst er732 | (injection er732 with f1_ f2_ f3_; have f4_ := f1_.symm; have f5_ := f3_.symm; clear f1_ f2_ f3_; subst f4_; subst f5_))
                   obtain ⟨ad732, e732, hx732_0⟩ := Kd.at_int (Kd.R_reads' HO_37.out).2.2 x282_4 p732 q732
                   cases e732
                   replace p732 := eq_true p732
                   replace q732 := eq_true q732
                   have p733 : 0 ≤ (x282_4 : Int) := of_decide_eq_true laws_FnTrees.Z9
                   have q733 : x282_4 < (t728.length : Int) := of_decide_eq_true laws_FnTrees.Z9
                   obtain ⟨ad733, e733, hx733_0⟩ := Kd.at_int (Kd.R_reads' HO_37.out).2.2 x282_4 p733 q733
                   obtain rfl : ad732 = ad733 := (by injection e733)
                   replace p733 := eq_true p733
                   replace q733 := eq_true q733
                   have p734 : 0 ≤ (0 : Int) := (by omega)
                   have q734 : 0 < (t656.length : Int) := of_decide_eq_true laws_FnTrees.Z9
                   obtain ⟨Ar734, cr734, er734⟩ := Kd.R_slice HO_4.out
                   (first | subst er734 | (injection er734 with f1_ f2_ f3_; have f4_ := f1_.symm; have f5_ := f3_.symm; clear f1_ f2_ f3_; subst f4_; subst f5_))
                   obtain ⟨ad734, e734, hx734_0⟩ := Kd.at_int (Kd.R_reads' HO_4.out).2.2 0 p734 q734
                   cases e734
                   have qi734 : (0 < t656.length) = True := eq_true (by omega)
                   (try rw [show ((0 : Int)).toNat = 0 from rfl] at hx734_0)
                   (try rw [Addr.add_zero'] at hx734_0)
                   replace p734 := eq_true p734
                   replace q734 := eq_true q734
                   have p735 : 0 ≤ (x282_4 : Int) := of_decide_eq_true laws_FnTrees.Z9
                   have q735 : x282_4 < (t728.length : Int) := of_decide_eq_true laws_FnTrees.Z9
                   obtain ⟨ad735, e735, hx735_0⟩ := Kd.at_int (Kd.R_reads' HO_37.out).2.2 x282_4 p735 q735
                   obtain rfl : ad732 = ad735 := (by injection e735)
                   replace p735 := eq_true p735
                   replace q735 := eq_true q735
                   obtain ⟨Ao273, co273, eo273⟩ := Kd.R_slice HO_8.out
                   (first | subst eo273 | (injection eo273 with f1_ f2_ f3_; have f4_ := f1_.symm; have f5_ := f3_.symm; clear f1_ f2_ f3_; subst f4_; subst f5_))
                   have p736 : 0 ≤ ((rd t728 x282_4) : Int) := of_decide_eq_true laws_FnTrees.Z9
                   have q736 : (rd t728 x282_4) < (t664.length : Int) := of_decide_eq_true laws_FnTrees.Z9
                   obtain ⟨ad736, e736, hx736_0⟩ := Kd.at_int (Kd.R_reads' HO_8.out).2.2 (rd t728 x282_4) p736 q736
                   cases e736
                   replace p736 := eq_true p736
                   replace q736 := eq_true q736
                   have p737 : 0 ≤ (x282_4 : Int) := of_decide_eq_true laws_FnTrees.Z9
                   have q737 : x282_4 < (t728.length : Int) := of_decide_eq_true laws_FnTrees.Z9
                   obtain ⟨ad737, e737, hx737_0⟩ := Kd.at_int (Kd.R_reads' HO_37.out).2.2 x282_4 p737 q737
                   obtain rfl : ad732 = ad737 := (by injection e737)
                   replace p737 := eq_true p737
                   replace q737 := eq_true q737
                   obtain ⟨Ao274, co274, eo274⟩ := Kd.R_slice HO_12.out
                   (first | subst eo274 | (injection eo274 with f1_ f2_ f3_; have f4_ := f1_.symm; have f5_ := f3_.symm; clear f1_ f2_ f3_; subst f4_; subst f5_))
                   have p738 : 0 ≤ ((rd t728 x282_4) : Int) := of_decide_eq_true laws_FnTrees.Z9
                   have q738 : (rd t728 x282_4) < (t672.length : Int) := of_decide_eq_true laws_FnTrees.Z9
                   obtain ⟨ad738, e738, hx738_0⟩ := Kd.at_int (Kd.R_reads' HO_12.out).2.2 (rd t728 x282_4) p738 q738
                   cases e738
                   replace p738 := eq_true p738
                   replace q738 := eq_true q738
                   have p739 : 0 ≤ (x271_3 : Int) := of_decide_eq_true laws_FnTrees.Z9
                   have q739 : x271_3 < (t672.length : Int) := of_decide_eq_true laws_FnTrees.Z9
                   obtain ⟨ad739, e739, hx739_0⟩ := Kd.at_int (Kd.R_reads' HO_12.out).2.2 x271_3 p739 q739
                   obtain rfl : ad738 = ad739 := (by injection e739)
                   replace p739 := eq_true p739
                   replace q739 := eq_true q739
                   as_aux_lemma =>
                    refine start_ (n := 41) (S := fun w' => w'.cell? (ad732.add (x282_4).toNat) = some (.int .i64 (rd t728 x282_4)) ∧ w'.cell? (ad732.add (x282_4).toNat) = some (.int .i64 (rd t728 x282_4)) ∧ w'.cell? ad734 = some (.int .i64 (rd t656 0)) ∧ w'.cell? (ad732.add (x282_4).toNat) = some (.int .i64 (rd t728 x282_4)) ∧ w'.cell? (ad736.add ((rd t728 x282_4)).toNat) = some (.int .i64 (rd t664 (rd t728 x282_4))) ∧ w'.cell? (ad732.add (x282_4).toNat) = some (.int .i64 (rd t728 x282_4)) ∧ w'.cell? (ad738.add ((rd t728 x282_4)).toNat) = some (.int .i64 (rd t672 (rd t728 x282_4))) ∧ w'.cell? (ad738.add (x271_3).toNat) = some (.int .i64 (rd t672 x271_3))) (ds := []) (bM 41 0) (by kernel_rfl) rfl rfl ⟨hx732_0, hx733_0, hx734_0, hx735_0, hx736_0, hx737_0, hx738_0, hx739_0⟩ (fun hHeld => ?_); refine with_tabW laws_FnTrees.tab33 laws_FnTrees.bits33 (fun HT_ HW_ => ?_)
                    generalize wr.drew = w272 at HO_4 HO_8 HO_12 HO_16 HO_20 HO_24 HO_37 HO_656000 HO_723000 BK655 BK722 HB hx732_0 hx733_0 hx734_0 hx735_0 hx736_0 hx737_0 hx738_0 hx739_0 hHeld ⊢
                    refine pA 0 285 (bM 41 1) HT_ ?_
                    refine pA 1 286 (bM 41 3) HT_ ?_
                    refine pA 2 287 (bM 41 7) HT_ ?_
                    refine take_ (i := 3) (N := some 288) (v := ?_) (a' := ?_) (bM 41 15) rfl rfl (take_ofW HT_.out HW_.out (by kernel_rfl)) (fun _ _ _ h => h) (Or.inl ⟨by rfl, ?_⟩) hHeld ?_ ?_
                    rotate_left
                    ·rintro w' ⟨s0, s1, s2, s3, s4, s5, s6, s7⟩
                     go_simp
                     with_reducible rfl
                    rotate_left
                    ·simp only [Act.put, List.setIfInBounds_toArray, List.set_cons_zero, List.set_cons_succ, i64_w, i32_w]
                     rfl
                    refine pA 4 289 (bM 41 31) HT_ ?_
                    refine pA 5 290 (bM 41 63) HT_ ?_
                    refine pA 6 291 (bM 41 127) HT_ ?_
                    refine pA 7 292 (bM 41 255) HT_ ?_
                    refine pA 8 293 (bM 41 511) HT_ ?_
                    refine pA 10 295 (bM 41 1535) HT_ ?_
                    refine pA 11 296 (bM 41 3583) HT_ ?_
                    refine take_ (i := 9) (N := some 294) (v := ?_) (a' := ?_) (bM 41 4095) rfl rfl (take_ofW HT_.out HW_.out (by kernel_rfl)) (fun _ _ _ h => h) (Or.inl ⟨by rfl, ?_⟩) hHeld ?_ ?_
                    rotate_left
                    ·rintro w' ⟨s0, s1, s2, s3, s4, s5, s6, s7⟩
                     go_simp
                     with_reducible rfl
                    rotate_left
                    ·simp only [Act.put, List.setIfInBounds_toArray, List.set_cons_zero, List.set_cons_succ, i64_w, i32_w]
                     rfl
                    refine take_ (i := 12) (N := some 297) (v := ?_) (a' := ?_) (bM 41 8191) rfl rfl (take_ofW HT_.out HW_.out (by kernel_rfl)) (fun _ _ _ h => h) (Or.inl ⟨by rfl, ?_⟩) hHeld ?_ ?_
                    rotate_left
                    ·rintro w' ⟨s0, s1, s2, s3, s4, s5, s6, s7⟩
                     go_simp
                     with_reducible rfl
                    rotate_left
                    ·simp only [Act.put, List.setIfInBounds_toArray, List.set_cons_zero, List.set_cons_succ, i64_w, i32_w]
                     rfl
                    as_aux_lemma =>
                     refine pA 13 298 (bM 41 16383) HT_ ?_
                     refine pA 14 299 (bM 41 32767) HT_ ?_
                     refine pA 15 300 (bM 41 65535) HT_ ?_
                     refine pA 16 301 (bM 41 131071) HT_ ?_
                     refine pA 17 302 (bM 41 262143) HT_ ?_
                     refine pA 18 303 (bM 41 524287) HT_ ?_
                     refine pA 19 304 (bM 41 1048575) HT_ ?_
                     refine pA 23 308 (bM 41 9437183) HT_ ?_
                     refine take_ (i := 20) (N := some 305) (v := ?_) (a' := ?_) (bM 41 10485759) rfl rfl (take_ofW HT_.out HW_.out (by kernel_rfl)) (fun _ _ _ h => h) (Or.inl ⟨by rfl, ?_⟩) hHeld ?_ ?_
                     rotate_left
                     ·rintro w' ⟨s0, s1, s2, s3, s4, s5, s6, s7⟩
                      go_simp
                      with_reducible rfl
                     rotate_left
                     ·simp only [Act.put, List.setIfInBounds_toArray, List.set_cons_zero, List.set_cons_succ, i64_w, i32_w]
                      rfl
                     refine pA 21 306 (bM 41 12582911) HT_ ?_
                     refine take_ (i := 22) (N := some 307) (v := ?_) (a' := ?_) (bM 41 16777215) rfl rfl (take_ofW HT_.out HW_.out (by kernel_rfl)) (fun _ _ _ h => h) (Or.inl ⟨by rfl, ?_⟩) hHeld ?_ ?_
                     rotate_left
                     ·rintro w' ⟨s0, s1, s2, s3, s4, s5, s6, s7⟩
                      go_simp
                      with_reducible rfl
                     rotate_left
                     ·simp only [Act.put, List.setIfInBounds_toArray, List.set_cons_zero, List.set_cons_succ, i64_w, i32_w]
                      rfl
                     refine pA 24 309 (bM 41 33554431) HT_ ?_
                     refine pA 25 310 (bM 41 67108863) HT_ ?_
                     refine pA 26 311 (bM 41 134217727) HT_ ?_
                     as_aux_lemma =>
                      refine pA 27 312 (bM 41 268435455) HT_ ?_
                      refine pA 28 313 (bM 41 536870911) HT_ ?_
                      refine pA 29 314 (bM 41 1073741823) HT_ ?_
                      refine pA 30 315 (bM 41 2147483647) HT_ ?_
                      refine pA 34 319 (bM 41 19327352831) HT_ ?_
                      refine pA 35 320 (bM 41 53687091199) HT_ ?_
                      refine pA 36 321 (bM 41 122406567935) HT_ ?_
                      refine take_ (i := 31) (N := some 316) (v := ?_) (a' := ?_) (bM 41 124554051583) rfl rfl (take_ofW HT_.out HW_.out (by kernel_rfl)) (fun _ _ _ h => h) (Or.inl ⟨by rfl, ?_⟩) hHeld ?_ ?_
                      rotate_left
                      ·rintro w' ⟨s0, s1, s2, s3, s4, s5, s6, s7⟩
                       go_simp
                       with_reducible rfl
                      rotate_left
                      ·simp only [Act.put, List.setIfInBounds_toArray, List.set_cons_zero, List.set_cons_succ, i64_w, i32_w]
                       rfl
                      refine pA 32 317 (bM 41 128849018879) HT_ ?_
                      refine take_ (i := 33) (N := some 318) (v := ?_) (a' := ?_) (bM 41 137438953471) rfl rfl (take_ofW HT_.out HW_.out (by kernel_rfl)) (fun _ _ _ h => h) (Or.inl ⟨by rfl, ?_⟩) hHeld ?_ ?_
                      rotate_left
                      ·rintro w' ⟨s0, s1, s2, s3, s4, s5, s6, s7⟩
                       go_simp
                       with_reducible rfl
                      rotate_left
                      ·simp only [Act.put, List.setIfInBounds_toArray, List.set_cons_zero, List.set_cons_succ, i64_w, i32_w]
                       rfl
                      refine take_ (i := 37) (N := some 322) (v := ?_) (a' := ?_) (bM 41 274877906943) rfl rfl (take_ofW HT_.out HW_.out (by kernel_rfl)) (fun _ _ _ h => h) (Or.inl ⟨by rfl, ?_⟩) hHeld ?_ ?_
                      rotate_left
                      ·rintro w' ⟨s0, s1, s2, s3, s4, s5, s6, s7⟩
                       go_simp
                       with_reducible rfl
                      rotate_left
                      ·simp only [Act.put, List.setIfInBounds_toArray, List.set_cons_zero, List.set_cons_succ, i64_w, i32_w]
                       rfl
                      refine pA 38 323 (bM 41 549755813887) HT_ ?_
                      refine pA 39 324 (bM 41 1099511627775) HT_ ?_
                      refine pA 40 325 (bM 41 2199023255551) HT_ ?_
                      refine done_ (done_of HT_.out (by kernel_rfl)) ?_
                      have p740 : 0 ≤ (x282_4 : Int) := of_decide_eq_true laws_FnTrees.Z9
                      have q740 : x282_4 < (t728.length : Int) := of_decide_eq_true laws_FnTrees.Z9
                      obtain ⟨ad740, e740, hx740_0⟩ := Kd.at_int (Kd.R_reads' HO_37.out).2.2 x282_4 p740 q740
                      obtain rfl : ad732 = ad740 := (by injection e740)
                      replace p740 := eq_true p740
                      replace q740 := eq_true q740
                      have p741 : 0 ≤ ((rd t728 x282_4) : Int) := of_decide_eq_true laws_FnTrees.Z9
                      have q741 : (rd t728 x282_4) < (t656.length : Int) := of_decide_eq_true laws_FnTrees.Z9
                      obtain ⟨ad741, e741, hx741_0⟩ := Kd.at_int (Kd.R_reads' HO_4.out).2.2 (rd t728 x282_4) p741 q741
                      obtain rfl : ad734 = ad741 := (by injection e741)
                      replace p741 := eq_true p741
                      replace q741 := eq_true q741
                      try go_wp2
                      go_roundg k4
                      case measure => have := HJ18.out; have := HJ202.out; have := HK3.out; have := HK4.out; omega
                      case rel => exact ⟨(wrap64 (x39_4 + (rd t656 (rd t728 x282_4)))), (wrap64 (x282_4 + 1)), laws_FnTrees.Z10, laws_FnTrees.Z10, H', ⟨by have := HJ18.out; have := HJ202.out; have := HK3.out; have := HK4.out; omega⟩, ⟨es HO_4⟩, ⟨es HO_8⟩, ⟨es HO_12⟩, ⟨es HO_16⟩, ⟨es HO_20⟩, ⟨es HO_24⟩, ⟨es HO_37⟩, ⟨es HO_656000⟩, ⟨es HO_723000⟩, ⟨eb BK655⟩, ⟨eb BK722⟩, ⟨el HB⟩⟩
                  ·rw [if_neg c258] at H
                   have c258b0 := decide_eq_false c258
                   clear c258
                   by_cases c275 : t731 = 0
                   rotate_left
                   ·rw [if_neg c275] at H
                    exact absurd H (by simp)
                   rw [if_pos c275] at H
                   have c275b0 : (t731 == 0) = true := beq_iff_eq.mpr c275
                   have c275b1 : (t731 != 0) = false := bne_eq_false_iff_eq.mpr c275
                   clear c275
                   by_cases c276 : 0 ≤ x271_3
                   rotate_left
                   ·rw [if_neg c276] at H
                    exact absurd H (by simp)
                   rw [if_pos c276] at H
                   have c276b0 := decide_eq_true c276
                   clear c276
                   by_cases c277 : x271_3 < (t656.length : Int)
                   rotate_left
                   ·rw [if_neg c277] at H
                    exact absurd H (by simp)
                   rw [if_pos c277] at H
                   have c277b0 := decide_eq_true c277
                   clear c277
                   by_cases c278 : x39_4 = (rd t656 x271_3)
                   rotate_left
                   ·rw [if_neg c278] at H
                    exact absurd H (by simp)
                   rw [if_pos c278] at H
                   have c278b0 : (x39_4 == (rd t656 x271_3)) = true := beq_iff_eq.mpr c278
                   have c278b1 : (x39_4 != (rd t656 x271_3)) = false := bne_eq_false_iff_eq.mpr c278
                   clear c278
                   by_cases c279 : x271_3 < (t672.length : Int)
                   rotate_left
                   ·rw [if_neg c279] at H
                    exact absurd H (by simp)
                   rw [if_pos c279] at H
                   have c279b0 := decide_eq_true c279
                   clear c279
                   by_cases c280 : (rd t672 x271_3) > t704
                   ·rw [if_pos c280] at H
                    exact absurd H (by simp)
                   rw [if_neg c280] at H
                   have c280b0 := decide_eq_false c280
                   clear c280
                   replace H := Option.bind_eq_some_iff.mp H
                   obtain ⟨t744, A2810, H⟩ := H
                   try dsimp only at H
                   have A281 := A_ A2810
                   clear A2810
                   by_cases c282 : (t744 != ((t728.length : Int) == 0)) = true
                   ·rw [if_pos c282] at H
                    exact absurd H (by simp)
                   rw [if_neg c282] at H
                   have c282b0 : (t744 != ((t728.length : Int) == 0)) = false := by simpa using c282
                   (try (have c282b1 : decide (t744 = ((t728.length : Int) == 0)) = true := by simpa using c282))
                   (try (have c282b2 : (t744 == ((t728.length : Int) == 0)) = true := by simpa using c282))
                   clear c282
                   replace H := Option.bind_eq_some_iff.mp H
                   obtain ⟨t745, A2830, H⟩ := H
                   try dsimp only at H
                   have A283 := A_ A2830
                   clear A2830
                   by_cases c284 : t745 = true
                   rotate_left
                   ·replace c284 := Bool.eq_false_iff.mpr c284
                    subst c284
                    have H1 : (none) = some r := by rw [if_neg (show ¬ (false = true) by decide)] at H; exact H
                    clear H
                    have H := H1
                    clear H1
                    exact absurd H (by simp)
                   subst c284
                   have H1 : ((laws_hasInt.f k4 t696 x271_3).bind fun t746 => (if t746 = true then (laws_FnTrees.l0 k4 l0 t656 t664 t672 t680 t688 t696 t704 (t656.length : Int) (wrap64 (x271_3 + 1)) t652) else (none))) = some r := by rw [if_pos rfl] at H; exact H
                   clear H
                   have H := H1
                   clear H1
                   replace H := Option.bind_eq_some_iff.mp H
                   obtain ⟨t746, A2850, H⟩ := H
                   try dsimp only at H
                   have A285 := A_ A2850
                   clear A2850
                   by_cases c286 : t746 = true
                   rotate_left
                   ·replace c286 := Bool.eq_false_iff.mpr c286
                    subst c286
                    have H1 : (none) = some r := by rw [if_neg (show ¬ (false = true) by decide)] at H; exact H
                    clear H
                    have H := H1
                    clear H1
                    exact absurd H (by simp)
                   subst c286
                   have H1 : (laws_FnTrees.l0 k4 l0 t656 t664 t672 t680 t688 t696 t704 (t656.length : Int) (wrap64 (x271_3 + 1)) t652) = some r := by rw [if_pos rfl] at H; exact H
                   clear H
                   have H := H1
                   clear H1
                   have H' := A_ H
                   clear H
                   have p742 : 0 ≤ (x271_3 : Int) := of_decide_eq_true laws_FnTrees.Z9
                   have q742 : x271_3 < (t656.length : Int) := of_decide_eq_true laws_FnTrees.Z9
                   obtain ⟨ad742, e742, hx742_0⟩ := Kd.at_int (Kd.R_reads' HO_4.out).2.2 x271_3 p742 q742
                   cases e742
                   replace p742 := eq_true p742
                   replace q742 := eq_true q742
                   obtain ⟨Ao287, co287, eo287⟩ := Kd.R_slice HO_12.out
                   subst eo287
                   have p743 : 0 ≤ (x271_3 : Int) := of_decide_eq_true laws_FnTrees.Z9
                   have q743 : x271_3 < (t672.length : Int) := of_decide_eq_true laws_FnTrees.Z9
                   obtain ⟨ad743, e743, hx743_0⟩ := Kd.at_int (Kd.R_reads' HO_12.out).2.2 x271_3 p743 q743
                   cases e743
                   replace p743 := eq_true p743
                   replace q743 := eq_true q743
                   obtain ⟨Ao288, co288, eo288⟩ := Kd.R_slice HO_16.out
                   subst eo288
                   go_wp2_with (first | (go_at_call 31; (with_reducible refine (laws_hasInt.calls k4 _ _ t680 x271_3 t744 _ ?side1 ?side2 A281.out).mono ?_); (case side1 => exact cS ((Kd.R_reads' HO_16.out).2.2)); (case side2 => exact (Kd.R_reads' HO_16.out).2.1); rintro e w' ⟨rfl, ⟨nd, rfl⟩⟩; obtain ⟨Ao289, co289, eo289⟩ := Kd.R_slice HO_20.out; subst eo289) | (go_at_call 31; (with_reducible refine (laws_hasInt.calls k4 _ _ t688 x271_3 true _ ?side1 ?side2 A283.out).mono ?_); (case side1 => exact cS ((Kd.R_reads' HO_20.out).2.2)); (case side2 => exact (Kd.R_reads' HO_20.out).2.1); rintro e w' ⟨rfl, ⟨nd, rfl⟩⟩; obtain ⟨Ao290, co290, eo290⟩ := Kd.R_slice HO_24.out; subst eo290) | (go_at_call 31; (with_reducible refine (laws_hasInt.calls k4 _ _ t696 x271_3 true _ ?side1 ?side2 A285.out).mono ?_); (case side1 => exact cS ((Kd.R_reads' HO_24.out).2.2)); (case side2 => exact (Kd.R_reads' HO_24.out).2.1); rintro e w' ⟨rfl, ⟨nd, rfl⟩⟩))
                   go_roundg k4
                   case measure => have := HJ18.out; have := HJ202.out; have := HK3.out; have := HK4.out; omega
                   case rel => exact ⟨(wrap64 (x271_3 + 1)), laws_FnTrees.Z10, H', ⟨by have := HJ18.out; have := HJ202.out; have := HK3.out; have := HK4.out; omega⟩, ⟨by (with_reducible repeat (first | apply Kd.R_alloc | apply Kd.R_drewN | apply Kd.R_drew)); exact Kd.R_mono HO_4.out (fun _ hk => ⟨hk.1, ⟨hk.2.1, ⟨hk.2.2.1, ⟨hk.2.2.2.1, ⟨hk.2.2.2.2.1, ⟨hk.2.2.2.2.2.2.1, hk.2.2.2.2.2.2.2⟩⟩⟩⟩⟩⟩)⟩, ⟨by (with_reducible repeat (first | apply Kd.R_alloc | apply Kd.R_drewN | apply Kd.R_drew)); exact Kd.R_mono HO_8.out (fun _ hk => ⟨hk.1, ⟨hk.2.1, ⟨hk.2.2.1, ⟨hk.2.2.2.1, ⟨hk.2.2.2.2.1, ⟨hk.2.2.2.2.2.2.1, hk.2.2.2.2.2.2.2⟩⟩⟩⟩⟩⟩)⟩, ⟨by (with_reducible repeat (first | apply Kd.R_alloc | apply Kd.R_drewN | apply Kd.R_drew)); exact Kd.R_mono HO_12.out (fun _ hk => ⟨hk.1, ⟨hk.2.1, ⟨hk.2.2.1, ⟨hk.2.2.2.1, ⟨hk.2.2.2.2.1, ⟨hk.2.2.2.2.2.2.1, hk.2.2.2.2.2.2.2⟩⟩⟩⟩⟩⟩)⟩, ⟨by (with_reducible repeat (first | apply Kd.R_alloc | apply Kd.R_drewN | apply Kd.R_drew)); exact Kd.R_mono HO_16.out (fun _ hk => ⟨hk.1, ⟨hk.2.1, ⟨hk.2.2.1, ⟨hk.2.2.2.1, ⟨hk.2.2.2.2.1, ⟨hk.2.2.2.2.2.2.1, hk.2.2.2.2.2.2.2⟩⟩⟩⟩⟩⟩)⟩, ⟨by (with_reducible repeat (first | apply Kd.R_alloc | apply Kd.R_drewN | apply Kd.R_drew)); exact Kd.R_mono HO_20.out (fun _ hk => ⟨hk.1, ⟨hk.2.1, ⟨hk.2.2.1, ⟨hk.2.2.2.1, ⟨hk.2.2.2.2.1, ⟨hk.2.2.2.2.2.2.1, hk.2.2.2.2.2.2.2⟩⟩⟩⟩⟩⟩)⟩, ⟨by (with_reducible repeat (first | apply Kd.R_alloc | apply Kd.R_drewN | apply Kd.R_drew)); exact Kd.R_mono HO_24.out (fun _ hk => ⟨hk.1, ⟨hk.2.1, ⟨hk.2.2.1, ⟨hk.2.2.2.1, ⟨hk.2.2.2.2.1, ⟨hk.2.2.2.2.2.2.1, hk.2.2.2.2.2.2.2⟩⟩⟩⟩⟩⟩)⟩, ⟨by (with_reducible repeat (first | apply Kd.R_alloc | apply Kd.R_drewN | apply Kd.R_drew)); exact Kd.R_mono HO_656000.out (fun _ hk => ⟨hk.1, ⟨hk.2.1, ⟨hk.2.2.1, ⟨hk.2.2.2.1, ⟨hk.2.2.2.2.1, ⟨hk.2.2.2.2.2.1, hk.2.2.2.2.2.2.2⟩⟩⟩⟩⟩⟩)⟩, ⟨by (with_reducible repeat (first | apply Kd.R_alloc | apply Kd.R_drewN | apply Kd.R_drew)); exact Kd.R_mono HO_723000.out (fun _ hk => ⟨hk.1, ⟨hk.2.1, ⟨hk.2.2.1, ⟨hk.2.2.2.1, ⟨hk.2.2.2.2.1, ⟨hk.2.2.2.2.2.1, hk.2.2.2.2.2.2.2⟩⟩⟩⟩⟩⟩)⟩, ⟨eb BK655⟩, ⟨eb BK722⟩, ⟨el HB⟩⟩
              ·rw [if_neg c252] at H
               have c252b0 := decide_eq_false c252
               clear c252
               have H' := A_ H
               clear H
               go_wp2
               go_meet
               case rel => exact ⟨_, H', ⟨by have := HJ18.out; have := HJ202.out; have := HK3.out; first | omega | exact Nat.le_refl _⟩, ⟨by (with_reducible repeat (first | apply Kd.R_alloc | apply Kd.R_drewN | apply Kd.R_drew)); exact Kd.R_mono HO_656000.out (fun _ hk => trivial)⟩, ⟨eb BK655⟩, ⟨el HB⟩⟩
       ·rw [if_neg c200] at H
        have c200b0 : (t659 == 0) = false := beq_eq_false_iff_ne.mpr c200
        have c200b1 : (t659 != 0) = true := bne_iff_ne.mpr c200
        (first | rw [c200b0] | (simp only [i64_w, i32_w]; rw [c200b0]) | skip)
        have H' := A_ H
        clear H
        go_wp2
        go_meet
        case rel => exact ⟨_, H', ⟨by have := HJ18.out; first | omega | exact Nat.le_refl _⟩, ⟨by (with_reducible repeat (first | apply Kd.R_alloc | apply Kd.R_drewN | apply Kd.R_drew)); exact Kd.R_mono HO_656000.out (fun _ hk => trivial)⟩, ⟨eb BK655⟩, ⟨el HB⟩⟩
     case rest =>
      as_aux_lemma =>
       clear HC199
       try clear c2
       try clear p2
       try clear p6
       try clear p7
       try clear q7
       try clear hx7
       try clear qi7
       try clear c20
       try clear c25
       try clear c26
       try clear c27
       try clear c28
       try clear p64
       try clear p73
       try clear q73
       try clear hx73
       try clear qi73
       try clear p74
       try clear q74
       try clear hx74
       try clear c200
       try clear c200b0
       try clear c200b1
       try clear c252
       try clear c252b0
       try clear c258
       try clear c258b0
       try clear c259
       try clear c260
       try clear c262
       try clear c264
       try clear c265
       try clear c266
       try clear c266b0
       try clear c266b1
       try clear c267
       try clear c268
       try clear c269
       try clear c270
       try clear c271
       try clear c271b0
       try clear c275
       try clear c275b0
       try clear c275b1
       try clear c276
       try clear c276b0
       try clear c277
       try clear c277b0
       try clear c278
       try clear c278b0
       try clear c278b1
       try clear c279
       try clear c279b0
       try clear c280
       try clear c280b0
       try clear c282
       try clear c282b0
       try clear c282b1
       try clear c282b2
       try clear c284
       try clear c286
       try clear hx732_0
       try clear hx733_0
       try clear hx734_0
       try clear hx735_0
       try clear hx736_0
       try clear hx737_0
       try clear hx738_0
       try clear hx739_0
       try clear hx740_0
       try clear hx741_0
       try clear hx742_0
       try clear hx743_0
       try clear p732
       try clear p733
       try clear p734
       try clear p735
       try clear p736
       try clear p737
       try clear p738
       try clear p739
       try clear p740
       try clear p741
       try clear p742
       try clear p743
       try clear q732
       try clear q733
       try clear q734
       try clear q735
       try clear q736
       try clear q737
       try clear q738
       try clear q739
       try clear q740
       try clear q741
       try clear q742
       try clear q743
       obtain ⟨kq, HA, HJ198, HO_656000, BK655, HB⟩ := hcut
       cases kq with
       | zero => exact absurd HA.out (by simp [laws_FnTrees.j4])
       | succ kj198 =>
        have H := HA.out
        clear HA
        simp only [laws_FnTrees.j4] at H
        replace H := Option.bind_eq_some_iff.mp H
        obtain ⟨⟨t747, t750⟩, A2910, H⟩ := H
        try dsimp only at H
        have A291 := A_ A2910
        clear A2910
        replace H := Option.bind_eq_some_iff.mp H
        obtain ⟨⟨t752, t755⟩, A2920, H⟩ := H
        try dsimp only at H
        have A292 := A_ A2920
        clear A2920
        replace H := Option.bind_eq_some_iff.mp H
        obtain ⟨⟨t756, t759⟩, A2930, H⟩ := H
        try dsimp only at H
        have A293 := A_ A2930
        clear A2930
        replace H := Option.bind_eq_some_iff.mp H
        obtain ⟨t760, A2940, H⟩ := H
        try dsimp only at H
        have A294 := A_ A2940
        clear A2940
        replace H := Option.bind_eq_some_iff.mp H
        obtain ⟨⟨t761, t764⟩, A2950, H⟩ := H
        try dsimp only at H
        have A295 := A_ A2950
        clear A2950
        replace H := Option.bind_eq_some_iff.mp H
        obtain ⟨⟨t766, t769⟩, A2960, H⟩ := H
        try dsimp only at H
        have A296 := A_ A2960
        clear A2960
        replace H := Option.bind_eq_some_iff.mp H
        obtain ⟨⟨t771, t772⟩, A2970, H⟩ := H
        try dsimp only at H
        have A297 := A_ A2970
        clear A2970
        replace H := Option.bind_eq_some_iff.mp H
        obtain ⟨⟨t773, t774⟩, A2980, H⟩ := H
        try dsimp only at H
        have A298 := A_ A2980
        clear A2980
        by_cases c299 : t755 = t759
        ·rw [if_pos c299] at H
         have c299b0 : (t755 == t759) = true := beq_iff_eq.mpr c299
         have c299b1 : (t755 != t759) = false := bne_eq_false_iff_eq.mpr c299
         clear c299
         replace H := Option.bind_eq_some_iff.mp H
         obtain ⟨t775, A3000, H⟩ := H
         try dsimp only at H
         have A300 := A_ A3000
         clear A3000
         by_cases c301 : t775 = true
         rotate_left
         ·replace c301 := Bool.eq_false_iff.mpr c301
          subst c301
          have H1 : (none) = some r := by rw [if_neg (show ¬ (false = true) by decide)] at H; exact H
          clear H
          have H := H1
          clear H1
          exact absurd H (by simp)
         subst c301
         have H1 : (if t764 = t769 then ((laws_trees5.f kj198 t761 t766).bind fun t776 => (if t776 = true then (if t772 = t774 then (some (t771.toList == t773.toList)) else (none)) else (none))) else (none)) = some r := by rw [if_pos rfl] at H; exact H
         clear H
         have H := H1
         clear H1
         by_cases c302 : t764 = t769
         rotate_left
         ·rw [if_neg c302] at H
          exact absurd H (by simp)
         rw [if_pos c302] at H
         have c302b0 : (t764 == t769) = true := beq_iff_eq.mpr c302
         have c302b1 : (t764 != t769) = false := bne_eq_false_iff_eq.mpr c302
         clear c302
         replace H := Option.bind_eq_some_iff.mp H
         obtain ⟨t776, A3030, H⟩ := H
         try dsimp only at H
         have A303 := A_ A3030
         clear A3030
         by_cases c304 : t776 = true
         rotate_left
         ·replace c304 := Bool.eq_false_iff.mpr c304
          subst c304
          have H1 : (none) = some r := by rw [if_neg (show ¬ (false = true) by decide)] at H; exact H
          clear H
          have H := H1
          clear H1
          exact absurd H (by simp)
         subst c304
         have H1 : (if t772 = t774 then (some (t771.toList == t773.toList)) else (none)) = some r := by rw [if_pos rfl] at H; exact H
         clear H
         have H := H1
         clear H1
         by_cases c305 : t772 = t774
         rotate_left
         ·rw [if_neg c305] at H
          exact absurd H (by simp)
         rw [if_pos c305] at H
         have c305b0 : (t772 == t774) = true := beq_iff_eq.mpr c305
         have c305b1 : (t772 != t774) = false := bne_eq_false_iff_eq.mpr c305
         clear c305
         obtain rfl := Option.some.inj H
         go_wp2_with (first | ((with_reducible refine gate_callee (f := 32) rfl ?_); refine goesL_ (some 378) rfl rfl Try.func32 (by kernel_rfl) rfl #[.slice A0 l0.length c0] rfl eg ?_; (with_reducible refine (spec_DrawChildrenOf.calls kj198 _ _ l0 t747 t750 _ ?side1 ?side2 A291.out).mono ?_); (case side1 => exact cS (Kd.C_below HR0.out HB.out)); (case side2 => exact HC0.out); rintro e w306 ⟨v748, rfl, ho0, hb⟩; refine ⟨_, rfl, ?_⟩; have HO749 := A_ (Kd.R_lower (Kd.R_new' ho0 (Kd.R_lt (ea HO_656000))) (below_size (el HB))); replace HO_656000 := A_ (Kd.R_elder' (ea HO_656000) (Kd.R_base ho0) hb); replace BK655 := A_ (eB BK655 hb); replace HB := A_ (below_step (el HB) hb); (try clear hb); (try clear hb2); (try clear hk); (try clear hi); (try clear ho0)) | ((with_reducible refine gate_dst (N := 41) rfl ?_); (try (refine gate_guard (by rfl) ?_; dsimp only)); refine bx 41 #[.slice none 0 0] 26 ?_; intro gb751 hg w307 hbox hb; replace HO_656000 := A_ (Kd.R_below (ea HO_656000) hb); replace HO749 := A_ (Kd.R_below (ea HO749) hb); have BK751 := A_ hbox; have GW751 := A_ (eG hg (below_size (el HB)) : w.heap.size ≤ gb751); have GE751 := A_ (eG hg (below_size (el HB)) : w.heap.size ≤ gb751); replace HB := A_ (below_step (el HB) hb); have NB655_751 := A_ ((by rw [hg]; exact Nat.ne_of_lt (eL BK655) : gb655 ≠ gb751)); have NB751_655 := A_ ((by rw [hg]; exact Nat.ne_of_gt (eL BK655) : gb751 ≠ gb655)); replace BK655 := A_ (eB BK655 hb); clear hb hbox hg; obtain ⟨Ao308, co308, eo308⟩ := Kd.R_slice HO749.out; subst eo308; have hnb309 := NB751_655.out; have hnc309 := NB655_751.out; have hcz310_0 : w307.cell? ⟨gb751, 0, none⟩ = some (.slice none 0 0) := (blk_cell BK751.out 0).trans rfl; have hfz310_0 := blk_frozen BK751.out 0) | ((with_reducible refine gate_callee (f := 30) rfl ?_); refine goesL_ (some 384) rfl rfl Try.func30 (by kernel_rfl) rfl #[.agg #[.slice Ao308 t747.length co308], .int .i64 t750] rfl eg ?_; (with_reducible refine (impl_ChildrenOf.calls kj198 _ _ t747 t750 t752 t755 _ ?side1 ?side2 A292.out).mono ?_); (case side1 => refine (Kd.R_reads' (e := 2) (base := w.heap.size) (ok := fun k_ => (True ∧ some k_ ≠ (.slice Ao22 t652.length co22 : Value).ownBlock)) (n := t747.length) (c := co308) ?_).2.2; exact laws_FnTrees.Z7); (case side2 => exact (Kd.R_reads' HO749.out).2.1); rintro e w311 ⟨v753, rfl, ho0, hb⟩; refine ⟨_, rfl, ?_⟩; have HO754 := A_ (Kd.R_lower (Kd.R_new' (Kd.R_new' ho0 (Kd.R_lt laws_FnTrees.Z0)) (Kd.R_lt laws_FnTrees.Z7)) (below_size (el HB))); replace HO_656000 := A_ (Kd.R_elder' laws_FnTrees.Z0 (Kd.R_base ho0) hb); replace HO749 := A_ (Kd.R_elder' laws_FnTrees.Z7 (Kd.R_base ho0) hb); replace BK655 := A_ (eB BK655 hb); replace BK751 := A_ (blk_below (g := gb751) (o := .cells #[.slice Ao308 t747.length co308] 26 (0, 0)) (by (with_reducible repeat (first | refine blk_drewN ?_ _ | refine blk_drew ?_ | refine blk_alloc ?_ _)); refine blk_put (cs := #[.slice none 0 0]) ?_ 0 _ rfl; (with_reducible repeat (first | refine blk_drewN ?_ _ | refine blk_drew ?_ | refine blk_alloc ?_ _)); exact BK751.out) hb); replace HB := A_ (below_step (el HB) hb); (try clear hb); (try clear hb2); (try clear hk); (try clear hi); (try clear ho0); have hcz312_0 : w311.cell? ⟨gb751, 0, none⟩ = some (.slice Ao308 t747.length co308) := (blk_cell BK751.out 0).trans rfl; have hfz312_0 := blk_frozen BK751.out 0) | ((with_reducible refine gate_callee (f := 33) rfl ?_); refine goesL_ (some 390) rfl rfl Try.func33 (by kernel_rfl) rfl #[.agg #[.slice Ao308 t747.length co308], .int .i64 t750] rfl eg ?_; (with_reducible refine (spec_ChildrenOf.calls kj198 _ _ t747 t750 t756 t759 _ ?side1 ?side2 A293.out).mono ?_); (case side1 => exact cS ((Kd.R_reads' HO749.out).2.2)); (case side2 => exact (Kd.R_reads' HO749.out).2.1); rintro e w313 ⟨v757, rfl, ho0, hb⟩; refine ⟨_, rfl, ?_⟩; have HO758 := A_ (Kd.R_lower (Kd.R_new' (Kd.R_new' (Kd.R_new' ho0 (Kd.R_lt (ea HO_656000))) (Kd.R_lt (ea HO749))) (Kd.R_lt (ea HO754))) (below_size (el HB))); replace HO_656000 := A_ (Kd.R_elder' (ea HO_656000) (Kd.R_base ho0) hb); replace HO749 := A_ (Kd.R_elder' (ea HO749) (Kd.R_base ho0) hb); replace HO754 := A_ (Kd.R_elder' (ea HO754) (Kd.R_base ho0) hb); replace BK655 := A_ (eB BK655 hb); replace BK751 := A_ (eB BK751 hb); replace HB := A_ (below_step (el HB) hb); (try clear hb); (try clear hb2); (try clear hk); (try clear hi); (try clear ho0)) | ((with_reducible refine gate_callee (f := 34) rfl ?_); refine goesL_ (some 394) rfl rfl Try.func34 (by kernel_rfl) rfl #[.slice A0 l0.length c0] rfl eg ?_; (with_reducible refine (spec_DrawParseTree.calls kj198 _ _ l0 t760 _ ?side1 ?side2 A294.out).mono ?_); (case side1 => exact cS (Kd.C_below HR0.out HB.out)); (case side2 => exact HC0.out); rintro e w314 ⟨rfl, hb⟩; refine ⟨_, rfl, ?_⟩; replace HO_656000 := A_ (Kd.R_below (ea HO_656000) hb); replace HO749 := A_ (Kd.R_below (ea HO749) hb); replace HO754 := A_ (Kd.R_below (ea HO754) hb); replace HO758 := A_ (Kd.R_below (ea HO758) hb); replace BK655 := A_ (eB BK655 hb); replace BK751 := A_ (eB BK751 hb); replace HB := A_ (below_step (el HB) hb); (try clear hb); (try clear hb2); (try clear hk); (try clear hi)) | ((with_reducible refine gate_callee (f := 27) rfl ?_); refine goesL_ (some 397) rfl rfl Try.func27 (by kernel_rfl) rfl #[.string t760] rfl eg ?_; (with_reducible refine (impl_ParseTree.calls kj198 t760 t761 t764 _ A295.out).mono ?_); rintro e w315 ⟨v762, rfl, ho0, hb⟩; refine ⟨_, rfl, ?_⟩; have HO763 := A_ (Kd.R_lower (Kd.R_new' (Kd.R_new' (Kd.R_new' (Kd.R_new' ho0 (Kd.R_lt (ea HO_656000))) (Kd.R_lt (ea HO749))) (Kd.R_lt (ea HO754))) (Kd.R_lt (ea HO758))) (below_size (el HB))); replace HO_656000 := A_ (Kd.R_elder' (ea HO_656000) (Kd.R_base ho0) hb); replace HO749 := A_ (Kd.R_elder' (ea HO749) (Kd.R_base ho0) hb); replace HO754 := A_ (Kd.R_elder' (ea HO754) (Kd.R_base ho0) hb); replace HO758 := A_ (Kd.R_elder' (ea HO758) (Kd.R_base ho0) hb); replace BK655 := A_ (eB BK655 hb); replace BK751 := A_ (eB BK751 hb); replace HB := A_ (below_step (el HB) hb); (try clear hb); (try clear hb2); (try clear hk); (try clear hi); (try clear ho0)) | ((with_reducible refine gate_dst (N := 48) rfl ?_); (try (refine gate_guard (by rfl) ?_; dsimp only)); refine bx 48 #[.slice none 0 0] 26 ?_; intro gb765 hg w316 hbox hb; replace HO_656000 := A_ (Kd.R_below (ea HO_656000) hb); replace HO749 := A_ (Kd.R_below (ea HO749) hb); replace HO754 := A_ (Kd.R_below (ea HO754) hb); replace HO758 := A_ (Kd.R_below (ea HO758) hb); replace HO763 := A_ (Kd.R_below (ea HO763) hb); have BK765 := A_ hbox; have GW765 := A_ (eG hg (below_size (el HB)) : w.heap.size ≤ gb765); have GE765 := A_ (eG hg (below_size (el HB)) : w.heap.size ≤ gb765); replace HB := A_ (below_step (el HB) hb); have NB655_765 := A_ ((by rw [hg]; exact Nat.ne_of_lt (eL BK655) : gb655 ≠ gb765)); have NB765_655 := A_ ((by rw [hg]; exact Nat.ne_of_gt (eL BK655) : gb765 ≠ gb655)); replace BK655 := A_ (eB BK655 hb); have NB751_765 := A_ ((by rw [hg]; exact Nat.ne_of_lt (eL BK751) : gb751 ≠ gb765)); have NB765_751 := A_ ((by rw [hg]; exact Nat.ne_of_gt (eL BK751) : gb765 ≠ gb751)); replace BK751 := A_ (eB BK751 hb); clear hb hbox hg; obtain ⟨Ao317, co317, eo317⟩ := Kd.R_slice HO763.out; subst eo317; have hnb318 := NB765_655.out; have hnc318 := NB655_765.out; have hnb319 := NB765_751.out; have hnc319 := NB751_765.out; have hcz320_0 : w316.cell? ⟨gb765, 0, none⟩ = some (.slice none 0 0) := (blk_cell BK765.out 0).trans rfl; have hfz320_0 := blk_frozen BK765.out 0) | ((with_reducible refine gate_callee (f := 35) rfl ?_); refine goesL_ (some 402) rfl rfl Try.func35 (by kernel_rfl) rfl #[.string t760] rfl eg ?_; (with_reducible refine (spec_ParseTree.calls kj198 t760 t766 t769 _ A296.out).mono ?_); rintro e w321 ⟨v767, rfl, ho0, hb⟩; refine ⟨_, rfl, ?_⟩; have HO768 := A_ (Kd.R_lower (Kd.R_new' (Kd.R_new' (Kd.R_new' (Kd.R_new' (Kd.R_new' ho0 (Kd.R_lt laws_FnTrees.Z1)) (Kd.R_lt laws_FnTrees.Z2)) (Kd.R_lt laws_FnTrees.Z3)) (Kd.R_lt laws_FnTrees.Z4)) (Kd.R_lt laws_FnTrees.Z5)) (below_size (el HB))); replace HO_656000 := A_ (Kd.R_elder' laws_FnTrees.Z1 (Kd.R_base ho0) hb); replace HO749 := A_ (Kd.R_elder' laws_FnTrees.Z2 (Kd.R_base ho0) hb); replace HO754 := A_ (Kd.R_elder' laws_FnTrees.Z3 (Kd.R_base ho0) hb); replace HO758 := A_ (Kd.R_elder' laws_FnTrees.Z4 (Kd.R_base ho0) hb); replace HO763 := A_ (Kd.R_elder' laws_FnTrees.Z5 (Kd.R_base ho0) hb); replace BK655 := A_ (eB BK655 hb); replace BK751 := A_ (eB BK751 hb); replace BK765 := A_ (blk_below (g := gb765) (o := .cells #[.slice Ao317 t761.length co317] 26 (0, 0)) (by (with_reducible repeat (first | refine blk_drewN ?_ _ | refine blk_drew ?_ | refine blk_alloc ?_ _)); refine blk_put (cs := #[.slice none 0 0]) ?_ 0 _ rfl; (with_reducible repeat (first | refine blk_drewN ?_ _ | refine blk_drew ?_ | refine blk_alloc ?_ _)); exact BK765.out) hb); replace HB := A_ (below_step (el HB) hb); (try clear hb); (try clear hb2); (try clear hk); (try clear hi); (try clear ho0)) | ((with_reducible refine gate_dst (N := 50) rfl ?_); (try (refine gate_guard (by rfl) ?_; dsimp only)); refine bx 50 #[.slice none 0 0] 26 ?_; intro gb770 hg w322 hbox hb; replace HO_656000 := A_ (Kd.R_below (ea HO_656000) hb); replace HO749 := A_ (Kd.R_below (ea HO749) hb); replace HO754 := A_ (Kd.R_below (ea HO754) hb); replace HO758 := A_ (Kd.R_below (ea HO758) hb); replace HO763 := A_ (Kd.R_below (ea HO763) hb); replace HO768 := A_ (Kd.R_below (ea HO768) hb); have BK770 := A_ hbox; have GW770 := A_ (eG hg (below_size (el HB)) : w.heap.size ≤ gb770); have GE770 := A_ (eG hg (below_size (el HB)) : w.heap.size ≤ gb770); replace HB := A_ (below_step (el HB) hb); have NB655_770 := A_ ((by rw [hg]; exact Nat.ne_of_lt (eL BK655) : gb655 ≠ gb770)); have NB770_655 := A_ ((by rw [hg]; exact Nat.ne_of_gt (eL BK655) : gb770 ≠ gb655)); replace BK655 := A_ (eB BK655 hb); have NB751_770 := A_ ((by rw [hg]; exact Nat.ne_of_lt (eL BK751) : gb751 ≠ gb770)); have NB770_751 := A_ ((by rw [hg]; exact Nat.ne_of_gt (eL BK751) : gb770 ≠ gb751)); replace BK751 := A_ (eB BK751 hb); have NB765_770 := A_ ((by rw [hg]; exact Nat.ne_of_lt (eL BK765) : gb765 ≠ gb770)); have NB770_765 := A_ ((by rw [hg]; exact Nat.ne_of_gt (eL BK765) : gb770 ≠ gb765)); replace BK765 := A_ (eB BK765 hb); clear hb hbox hg; obtain ⟨Ao323, co323, eo323⟩ := Kd.R_slice HO768.out; subst eo323; have hnb324 := NB770_655.out; have hnc324 := NB655_770.out; have hnb325 := NB770_751.out; have hnc325 := NB751_770.out; have hnb326 := NB770_765.out; have hnc326 := NB765_770.out; have hcz327_0 : w322.cell? ⟨gb770, 0, none⟩ = some (.slice none 0 0) := (blk_cell BK770.out 0).trans rfl; have hfz327_0 := blk_frozen BK770.out 0; have hcz328_0 : w322.cell? ⟨gb751, 0, none⟩ = some (.slice Ao308 t747.length co308) := (blk_cell BK751.out 0).trans rfl; have hfz328_0 := blk_frozen BK751.out 0) | ((with_reducible refine gate_callee (f := 26) rfl ?_); refine goesL_ (some 407) rfl rfl Try.func26 (by kernel_rfl) rfl #[.agg #[.slice Ao308 t747.length co308]] rfl eg ?_; (with_reducible refine (impl_TreeText.calls kj198 _ _ t747 t771 t772 _ ?side1 ?side2 A297.out).mono ?_); (case side1 => refine (Kd.R_reads' (e := 2) (base := w.heap.size) (ok := fun k_ => (((((True ∧ some k_ ≠ (.slice Ao22 t652.length co22 : Value).ownBlock) ∧ some k_ ≠ (v753 : Value).ownBlock) ∧ some k_ ≠ (v757 : Value).ownBlock) ∧ some k_ ≠ (.slice Ao317 t761.length co317 : Value).ownBlock) ∧ some k_ ≠ (.slice Ao323 t766.length co323 : Value).ownBlock)) (n := t747.length) (c := co308) ?_).2.2; exact laws_FnTrees.Z6); (case side2 => exact (Kd.R_reads' HO749.out).2.1); rintro e w329 ⟨rfl, hb⟩; refine ⟨_, rfl, ?_⟩; replace HO_656000 := A_ (Kd.R_below (by (with_reducible repeat (first | apply Kd.R_alloc | apply Kd.R_drewN | apply Kd.R_drew)); exact (Kd.R_mono (Kd.R_far (p := ⟨gb770, 0, none⟩) (Kd.R_types HO_656000.out BK770.out (by decide)) (fun _ hk => hk.2) (.slice Ao323 t766.length co323)) (fun _ h_ => h_.1))) hb); replace HO749 := A_ (Kd.R_below laws_FnTrees.Z6 hb); replace HO754 := A_ (Kd.R_below (by (with_reducible repeat (first | apply Kd.R_alloc | apply Kd.R_drewN | apply Kd.R_drew)); exact (Kd.R_mono (Kd.R_far (p := ⟨gb770, 0, none⟩) (Kd.R_types HO754.out BK770.out (by decide)) (fun _ hk => hk.2) (.slice Ao323 t766.length co323)) (fun _ h_ => h_.1))) hb); replace HO758 := A_ (Kd.R_below (by (with_reducible repeat (first | apply Kd.R_alloc | apply Kd.R_drewN | apply Kd.R_drew)); exact (Kd.R_mono (Kd.R_far (p := ⟨gb770, 0, none⟩) (Kd.R_types HO758.out BK770.out (by decide)) (fun _ hk => hk.2) (.slice Ao323 t766.length co323)) (fun _ h_ => h_.1))) hb); replace HO763 := A_ (Kd.R_below (by (with_reducible repeat (first | apply Kd.R_alloc | apply Kd.R_drewN | apply Kd.R_drew)); exact (Kd.R_mono (Kd.R_far (p := ⟨gb770, 0, none⟩) (Kd.R_types HO763.out BK770.out (by decide)) (fun _ hk => hk.2) (.slice Ao323 t766.length co323)) (fun _ h_ => h_.1))) hb); replace HO768 := A_ (Kd.R_below (by (with_reducible repeat (first | apply Kd.R_alloc | apply Kd.R_drewN | apply Kd.R_drew)); exact (Kd.R_mono (Kd.R_far (p := ⟨gb770, 0, none⟩) (Kd.R_types HO768.out BK770.out (by decide)) (fun _ hk => hk.2) (.slice Ao323 t766.length co323)) (fun _ h_ => h_.1))) hb); replace BK655 := A_ (eB BK655 hb); replace BK751 := A_ (eB BK751 hb); replace BK765 := A_ (eB BK765 hb); replace BK770 := A_ (blk_below (g := gb770) (o := .cells #[.slice Ao323 t766.length co323] 26 (0, 0)) (by (with_reducible repeat (first | refine blk_drewN ?_ _ | refine blk_drew ?_ | refine blk_alloc ?_ _)); refine blk_put (cs := #[.slice none 0 0]) ?_ 0 _ rfl; (with_reducible repeat (first | refine blk_drewN ?_ _ | refine blk_drew ?_ | refine blk_alloc ?_ _)); exact BK770.out) hb); replace HB := A_ (below_step (el HB) hb); (try clear hb); (try clear hb2); (try clear hk); (try clear hi); have hcz330_0 : w329.cell? ⟨gb751, 0, none⟩ = some (.slice Ao308 t747.length co308) := (blk_cell BK751.out 0).trans rfl; have hfz330_0 := blk_frozen BK751.out 0) | ((with_reducible refine gate_callee (f := 36) rfl ?_); refine goesL_ (some 412) rfl rfl Try.func36 (by kernel_rfl) rfl #[.agg #[.slice Ao308 t747.length co308]] rfl eg ?_; (with_reducible refine (spec_TreeText.calls kj198 _ _ t747 t773 t774 _ ?side1 ?side2 A298.out).mono ?_); (case side1 => exact cS ((Kd.R_reads' HO749.out).2.2)); (case side2 => exact (Kd.R_reads' HO749.out).2.1); rintro e w331 ⟨rfl, hb⟩; refine ⟨_, rfl, ?_⟩; replace HO_656000 := A_ (Kd.R_below (ea HO_656000) hb); replace HO749 := A_ (Kd.R_below (ea HO749) hb); replace HO754 := A_ (Kd.R_below (ea HO754) hb); replace HO758 := A_ (Kd.R_below (ea HO758) hb); replace HO763 := A_ (Kd.R_below (ea HO763) hb); replace HO768 := A_ (Kd.R_below (ea HO768) hb); replace BK655 := A_ (eB BK655 hb); replace BK751 := A_ (eB BK751 hb); replace BK765 := A_ (eB BK765 hb); replace BK770 := A_ (eB BK770 hb); replace HB := A_ (below_step (el HB) hb); (try clear hb); (try clear hb2); (try clear hk); (try clear hi); obtain ⟨Ao332, co332, eo332⟩ := Kd.R_slice HO754.out; subst eo332; obtain ⟨Ao333, co333, eo333⟩ := Kd.R_slice HO758.out; subst eo333) | (go_at_call 23; (with_reducible refine (laws_likeInts.calls kj198 _ _ t752 _ _ t756 true _ ?side1 ?side2 ?side3 ?side4 A300.out).mono ?_); (case side1 => exact cS ((Kd.R_reads' HO754.out).2.2)); (case side2 => exact (Kd.R_reads' HO754.out).2.1); (case side3 => exact cS ((Kd.R_reads' HO758.out).2.2)); (case side4 => exact (Kd.R_reads' HO758.out).2.1); rintro e w' ⟨rfl, ⟨nd, rfl⟩⟩; have hcz334_0 : w331.cell? ⟨gb765, 0, none⟩ = some (.slice Ao317 t761.length co317) := (blk_cell BK765.out 0).trans rfl; have hfz334_0 := blk_frozen BK765.out 0; have hcz335_0 : w331.cell? ⟨gb770, 0, none⟩ = some (.slice Ao323 t766.length co323) := (blk_cell BK770.out 0).trans rfl; have hfz335_0 := blk_frozen BK770.out 0) | (go_at_call 28; (with_reducible refine (laws_trees5.calls kj198 _ _ t761 _ _ t766 true _ ?side1 ?side2 ?side3 ?side4 A303.out).mono ?_); (case side1 => exact cS ((Kd.R_reads' HO763.out).2.2)); (case side2 => exact (Kd.R_reads' HO763.out).2.1); (case side3 => exact cS ((Kd.R_reads' HO768.out).2.2)); (case side4 => exact (Kd.R_reads' HO768.out).2.1); rintro e w336 ⟨rfl, hb⟩; replace HO_656000 := A_ (Kd.R_below (ea HO_656000) hb); replace HO749 := A_ (Kd.R_below (ea HO749) hb); replace HO754 := A_ (Kd.R_below (ea HO754) hb); replace HO758 := A_ (Kd.R_below (ea HO758) hb); replace HO763 := A_ (Kd.R_below (ea HO763) hb); replace HO768 := A_ (Kd.R_below (ea HO768) hb); replace BK655 := A_ (eB BK655 hb); replace BK751 := A_ (eB BK751 hb); replace BK765 := A_ (eB BK765 hb); replace BK770 := A_ (eB BK770 hb); replace HB := A_ (below_step (el HB) hb); (try clear hb); (try clear hb2); (try clear hk); (try clear hi)))
         go_ret
         exact ⟨er, el HB⟩
        ·rw [if_neg c299] at H
         exact absurd H (by simp)

/-- THE ONE PURE STATEMENT of laws_FnTrees: yours. -/
def laws_FnTrees.Pure : Prop := ∀ (l0 : List Int), l0.length ≤ maxLen → l0.length * 1 ≤ 140737488351232 → (∀ x ∈ l0, (Lit.int .u8 x).wf = true) → ∃ k, laws_FnTrees.f k l0 = some true
theorem laws_FnTrees.walk (P : laws_FnTrees.Pure) (a0 : Option Addr) (len0 cap0 : Nat) (z0 : List Int) (w : World) (w0 : (a0 = none ∧ len0 = 0 ∧ cap0 = 0 ∧ z0 = []) ∨ ∃ x, a0 = some x ∧ len0 ≤ cap0 ∧ cap0 ≤ maxLen ∧ z0.length = cap0 ∧ (∀ i, i < z0.length → w.cell? (x.add i) = some (.int .u8 (z0.getD i 0))) ∧ ∀ n ∈ z0, (Lit.int .u8 n).wf = true) (y0 : len0 * 1 ≤ 140737488351232) :
  Calls Try.prog 3 #[.slice a0 len0 cap0] w fun e w' => e = .returned (.bool true) ∧ Below w.heap.size w w' := by
 obtain ⟨l0, rfl, hr0, hm0, hw0, hc0⟩ := ReadsInt.ofRowC w0
 obtain ⟨k, h⟩ := P l0 hm0 y0 hw0
 refine (laws_FnTrees.calls k _ _ l0 true w (Kd.C_of_reads (d := (0 : Int)) (h1 := fun _ => rfl) hr0) hc0 h).mono ?_
 rintro e w' ⟨rfl, hd⟩
 exact ⟨rfl, hd⟩

end Go.Proofs.Ytocachknmgefaaa.QFnTrees
