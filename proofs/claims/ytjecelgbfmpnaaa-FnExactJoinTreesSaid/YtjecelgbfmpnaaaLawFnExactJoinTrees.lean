/- The law FnExactJoinTrees holds for every input: its row, out of the walk of its code and of the pure statement. Conditions: those of the given statement alone. -/
import Derived.Test.YtjecelgbfmpnaaaRows
import Derived.Test.YtjecelgbfmpnaaaQFnExactJoinTreesx4
import Derived.Test.YtjecelgbfmpnaaaPureFnExactJoinTrees
import Derived.Test.YtjecelgbfmpnaaaOpen
import Derived.Test.YtjecelgbfmpnaaaOpenT
import Derived.WalkKit
import Derived.ProofKit
import Derived.OpenShut
import Derived.ShutString
import Derived.ChangeOld
import Derived.Below
import Derived.SizedLaws
namespace Go.Proofs.Ytjecelgbfmpnaaa.fnExactJoinTrees
open Go.ChangeShapes Go.WideShapes Go.ChangeAt Go.RowKit Go.Proofs.YtjecelgbfmpnaaaW.PrintWords Go.Proofs.YtjecelgbfmpnaaaW.PrintLast Go.Proofs.YtjecelgbfmpnaaaW.PrintMore Go.Proofs.Ytjecelgbfmpnaaa.Open
open Go.ChangeMaps (open_string shut_string)
set_option linter.unusedVariables false
theorem own : ownKnob Try.prog.godebug = none := by kernel_rfl
theorem laidOut : laidOutB Try.prog = true := by kernel_rfl
set_option maxRecDepth 100000 in
theorem lifted (os : Os) (started : os.Started) (H : Type) (enc : TypeId × Value → H) :
    ReturnsInHanded {} Try.checked os 4 .any (Rows.fnExactJoinTreesSpec.pre6 enc Try.prog Try.f4 Rows.fnExactJoinTreesRow.domain false) (Rows.fnExactJoinTreesSpec.post enc Try.prog Try.f4 false true false false) := by
  refine returnsInHanded_of_change_sized (C := Try.checked) own started (by kernel_rfl) Try.func4
    (ChangeSpec.witness6 (enc := enc) (C := Try.checked) false ⟨#[], #[.slice none 0 0], []⟩ 8 (by kernel_rfl) (by kernel_rfl) (by kernel_rfl) (by kernel_rfl)) ?_
  intro W base args ds gs before hval0 hW hcnd hsz0 _
  have hsz : (DataW.weightsEach Try.prog (Try.f4.params.toList ++ Rows.fnExactJoinTreesSpec.plain.varTypes Try.prog) (ds ++ gs)).all (· ≤ reachBytes) = true := hsz0
  have hval : ∀ (j : Nat) t v, Try.f4.params[j]? = some t → args[j]? = some v → Value.okWide Try.prog W .any base t v := hval0
  have hW' := hW
  obtain ⟨p, q, hA0, hV, rfl, hfz, hnd⟩ := hW
  have hA : DataW.TrodAll enc Try.prog W 0 (fun _ => true) true Try.f4.params.toList args.toList ds p := hA0
  rw [Try.params4] at hA hval hsz
  obtain ⟨v0, vs0, d0, ds0, p0, q0, hargs, rfl, rfl, h0, r0⟩ := trodAll_cons hA
  obtain ⟨rfl, rfl, rfl⟩ := trodAll_nil r0
  obtain rfl : args = #[v0] := by cases args; simp_all
  obtain ⟨rfl, rfl⟩ := trodVars_none hV
  have k0 := h0
  have lt0 : ∀ x ∈ p0, x.block < W.heap.size := by obtain ⟨m, hm⟩ := k0; exact DataW.trod_lt m _ _ _ hm
  obtain ⟨a0, cap0, l0, rfl, w0⟩ := open_trees_arg Try.underlying33 Try.underlying24 rfl (by kernel_rfl) Try.underlying22 (by kernel_rfl) Try.underlying2 (by kernel_rfl) (hval 0 33 v0 rfl rfl) h0
  obtain ⟨hc0, hm0, hx0, hr0⟩ := w0
  have e0 : l0.length = (l0.map (fun x : List Int => (⟨x⟩ : QFnExactJoinTrees.S24))).length := by rw [List.length_map]
  have hK0 : Kd.C QFnExactJoinTrees.k24 W a0 (l0.map (fun x : List Int => (⟨x⟩ : QFnExactJoinTrees.S24))).length (l0.map (fun x : List Int => (⟨x⟩ : QFnExactJoinTrees.S24))) := by
    refine ⟨rfl, by rw [List.length_map]; unfold maxLen at hm0; omega, fun hn => ?_⟩
    obtain ⟨ad, ea, hcl⟩ := hr0 (by rw [List.length_map] at hn; exact hn)
    refine ⟨ad, ea, fun j p hj => ?_⟩
    rw [List.getElem?_map] at hj
    obtain ⟨q, hq, rfl⟩ := Option.map_eq_some_iff.1 hj
    obtain ⟨A, c, h1, h2, h3⟩ := hcl j q hq
    refine ⟨[.slice A q.length c], rfl, QFnExactJoinTrees.k24_mk W ⟨q⟩ h2 h3, fun i u hu => ?_⟩
    cases i with
    | zero =>
      simp only [List.getElem?_cons_zero, Option.some.injEq] at hu
      subst hu
      rw [show QFnExactJoinTrees.k24.sz = 1 from rfl, Nat.mul_one, Nat.add_zero]
      exact h1
    | succ i => simp at hu
  clear hA0 hval0 hsz0 hsz
  obtain ⟨k, h⟩ := Pure.FnExactJoinTrees (l0.map (fun x : List Int => (⟨x⟩ : QFnExactJoinTrees.S24))) (by rw [List.length_map]; exact hm0) (fun x hx => by obtain ⟨y, hy, rfl⟩ := List.mem_map.1 hx; exact hx0 y hy)
  refine (show Calls Try.prog 4 #[.slice a0 l0.length cap0] W _ from by rw [e0]; exact QFnExactJoinTrees.laws_FnExactJoinTrees.calls k a0 cap0 (l0.map (fun x : List Int => (⟨x⟩ : QFnExactJoinTrees.S24))) true W hK0 (by rw [List.length_map]; exact hc0) h).mono ?_
  rintro e W' ⟨rfl, bel⟩
  exact ⟨_, rfl, _, _, _, [], _, [], hW', trodAll_mk1 (shut_bool Try.underlying4 _), (trodAll_cons_mk (Below.trod laidOut (by kernel_rfl) (of_decide_eq_true (by kernel_rfl)) k0 bel lt0) trodAll_mk0), rfl, bel.frame _, fun h => by cases h⟩
theorem over : Rows.fnExactJoinTreesRow.holds Try.pinned (OpenSpec.ofChange Rows.fnExactJoinTreesSpec) :=
  OpenClaim.holds_of_wide 4 Try.f4 rfl rfl rfl rfl rfl rfl rfl ⟨rfl, rfl, rfl, rfl, rfl⟩ rfl rfl rfl rfl rfl (by kernel_rfl) Try.func4 (by kernel_rfl)
    (of_decide_eq_true (by kernel_rfl)) (by unfold Func.isWrapper; first | (rw [if_pos (by decide +kernel)]; kernel_rfl) | (rw [if_neg (by decide +kernel)]; exact ⟨rfl, rfl⟩))
    (fun os started H enc _ => lifted os started H enc)
end Go.Proofs.Ytjecelgbfmpnaaa.fnExactJoinTrees
namespace Go.Proofs.Ytjecelgbfmpnaaa
/-- The law FnExactJoinTrees. -/
theorem fnExactJoinTrees_holds : Rows.FnExactJoinTreesSaid := fnExactJoinTrees.over
end Go.Proofs.Ytjecelgbfmpnaaa
