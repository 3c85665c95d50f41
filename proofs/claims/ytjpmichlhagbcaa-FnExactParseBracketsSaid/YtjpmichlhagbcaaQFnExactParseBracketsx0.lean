/- Functions of the program as plain Lean functions, each with a proof that the machine's call answers what it answers. Conditions: none. -/
import Derived.Test.YtjpmichlhagbcaaProg
import Derived.Below
import Derived.Deep.Draws
import Derived.Deep.AppendLies
import Derived.Maps.AppendAt
import Derived.OwnWalk
import Derived.Laws.BytesArg
import Derived.Laws.MakeOwn
import Derived.Laws.OwnMore
import Derived.Deep.OwnRows
import Derived.Tactics
import Derived.Lib.ConvBytes
import Derived.Laws.Slices
import Derived.WalkKit
import Derived.KernelRfl
import Derived.RowKit3
import Derived.Deep.LoopGhost
import Derived.Deep.QuietTactic
import Derived.BigQuiet
import Derived.WideLaws
import Derived.Deep.DeepCutAuto
import Derived.Deep.CutBlock
import Derived.Deep.RegionHeld3
import Derived.Laws.Rows
import Derived.Lib.AppendStr
import Derived.ArgAppend
import Derived.Laws.IdiomCopy
import Derived.OrdersHeld
import Derived.Laws.BitsLemmas
import Derived.RowKit
import Derived.Lib.Walk
import Derived.Lib.SliceRun
import Derived.Lib.AppendZeros
import Derived.SizedLaws
import Derived.Laws.CopyOwn
import Derived.OwnWalk
import Derived.Test.YtjpmichlhagbcaaWWords
import Derived.Test.YtjpmichlhagbcaaWLast
import Derived.Test.YtjpmichlhagbcaaWTab
import Derived.Test.YtjpmichlhagbcaaWFour
import Derived.Test.YtjpmichlhagbcaaWQPut
import Derived.Test.YtjpmichlhagbcaaWApart
import Derived.Test.YtjpmichlhagbcaaWArr
import Derived.Test.YtjpmichlhagbcaaWZeros
import Derived.Test.YtjpmichlhagbcaaWFoot
import Derived.Test.YtjpmichlhagbcaaWKept
import Derived.Test.YtjpmichlhagbcaaWShare
import Derived.Test.YtjpmichlhagbcaaWN
import Derived.Test.YtjpmichlhagbcaaWFootNe
import Derived.Test.YtjpmichlhagbcaaWAt
import Derived.Test.YtjpmichlhagbcaaWEqStruct
import Derived.Test.YtjpmichlhagbcaaWRepsOne
import Derived.Test.YtjpmichlhagbcaaWInv
import Derived.Test.YtjpmichlhagbcaaWInvWords
import Derived.Test.YtjpmichlhagbcaaWGuard
import Derived.Test.YtjpmichlhagbcaaWNEv
import Derived.Test.YtjpmichlhagbcaaWMore
namespace Go.Proofs.Ytjpmichlhagbcaa.QFnExactParseBrackets
open Go.RowKit Go.Proofs.YtjpmichlhagbcaaW.PrintWords Go.Proofs.YtjpmichlhagbcaaW.PrintLast Go.Proofs.YtjpmichlhagbcaaW.PrintMore
attribute [local go_sem] max2_int min2_int max_two min_two max_three min_three max_four min_four   -- for this text's walks alone
set_option linter.unusedVariables false
set_option linter.unusedSimpArgs false



theorem more_' {P : Program} {md : Region.Mode} {ops : Array Oper} {Q : Exit → Act → World → Prop} {S S' : World → Prop} (hSS : ∀ w, S' w → S w) : ∀ (fuel : Nat) {l : Array Bool} {a : Act} {w : World}, S' w → wpAnyLast P md ops Q S' [] fuel l a w → wpAnyLast P md ops Q S [] fuel l a w
  | 0, _, _, _, _, h => h
  | fuel + 1, _, _, _, hs, h => ⟨h.1, fun i hi => wpOp_mono (fun a' w' h' => ⟨fun _ _ => hSS _ (h'.1 (by simp) hs), more_' hSS fuel (h'.1 (by simp) hs) h'.2⟩) (h.2 i hi)⟩
theorem more_ {P : Program} {md : Region.Mode} {ops : Array Oper} {Q : Exit → Act → World → Prop} {S : World → Prop} (S' : World → Prop) {fuel : Nat} {l : Array Bool} {a : Act} {w : World} (hs : S' w) (hSS : ∀ w, S' w → S w) (h : S' w → wpAnyLast P md ops Q S' [] fuel l a w) : wpAnyLast P md ops Q S [] fuel l a w := more_' hSS fuel hs (h hs)
theorem apart_new {α β : Type} {d : Kd α} {d' : Kd β} {e e' : Nat} {w1 W : World} {b : Nat} {ok oku : Nat → Prop} {v u : Value} {xs : List α} {ys : List β} {p : Prop} (h : d.R e w1 W.heap.size ok v xs) (hu : p → d'.R e' W b oku u ys) : d.R e w1 W.heap.size (fun k => p → some k ≠ u.ownBlock) v xs := by
  by_cases c : p
  · exact Kd.R_mono (Kd.R_newR h (hu c)) (fun k hk _ => hk.2)
  · exact Kd.R_mono h (fun k _ hp => absurd hp c)
theorem ownBlock_slice (a : Option Addr) (n c : Nat) : (Value.slice a n c).ownBlock = a.map (·.block) := by cases a <;> rfl
def errW : Option Int → Value
  | none => .nilIface
  | some c => .iface 0 (.int .i64 c)
theorem errW_none : errW none = .nilIface := rfl
theorem errW_some (c : Int) : errW (some c) = .iface 0 (.int .i64 c) := rfl

theorem info5 : (Try.prog.info? 5).map (fun i => (i.zero, i.size, i.bytes)) = some (some (.int .u8 0), 1, 1) := by kernel_rfl
-- the values' own types

end Go.Proofs.Ytjpmichlhagbcaa.QFnExactParseBrackets
