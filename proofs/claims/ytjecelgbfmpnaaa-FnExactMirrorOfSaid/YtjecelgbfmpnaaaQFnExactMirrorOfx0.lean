/- Functions of the program as plain Lean functions, each with a proof that the machine's call answers what it answers. Conditions: none. -/
import Derived.Test.YtjecelgbfmpnaaaProg
import Derived.Below
import Derived.Deep.Draws
import Derived.Deep.AppendLies
import Derived.Maps.AppendAt
import Derived.OwnWalk
import Derived.Laws.BytesArg
import Derived.Laws.MakeOwn
import Derived.Laws.OwnMore
import Derived.Deep.OwnRows
import Derived.Tactics
import Derived.Lib.ConvBytes
import Derived.Laws.Slices
import Derived.WalkKit
import Derived.KernelRfl
import Derived.RowKit3
import Derived.Deep.LoopGhost
import Derived.Deep.QuietTactic
import Derived.BigQuiet
import Derived.WideLaws
import Derived.Deep.DeepCutAuto
import Derived.Deep.CutBlock
import Derived.Deep.RegionHeld3
import Derived.Laws.Rows
import Derived.Lib.AppendStr
import Derived.ArgAppend
import Derived.Laws.IdiomCopy
import Derived.OrdersHeld
import Derived.Laws.BitsLemmas
import Derived.RowKit
import Derived.Lib.Walk
import Derived.Lib.SliceRun
import Derived.Lib.AppendZeros
import Derived.SizedLaws
import Derived.Laws.CopyOwn
import Derived.OwnWalk
import Derived.Test.YtjecelgbfmpnaaaWWords
import Derived.Test.YtjecelgbfmpnaaaWLast
import Derived.Test.YtjecelgbfmpnaaaWTab
import Derived.Test.YtjecelgbfmpnaaaWFour
import Derived.Test.YtjecelgbfmpnaaaWQPut
import Derived.Test.YtjecelgbfmpnaaaWApart
import Derived.Test.YtjecelgbfmpnaaaWArr
import Derived.Test.YtjecelgbfmpnaaaWZeros
import Derived.Test.YtjecelgbfmpnaaaWFoot
import Derived.Test.YtjecelgbfmpnaaaWKept
import Derived.Test.YtjecelgbfmpnaaaWShare
import Derived.Test.YtjecelgbfmpnaaaWN
import Derived.Test.YtjecelgbfmpnaaaWFootNe
import Derived.Test.YtjecelgbfmpnaaaWAt
import Derived.Test.YtjecelgbfmpnaaaWEqStruct
import Derived.Test.YtjecelgbfmpnaaaWRepsOne
import Derived.Test.YtjecelgbfmpnaaaWInv
import Derived.Test.YtjecelgbfmpnaaaWInvWords
import Derived.Test.YtjecelgbfmpnaaaWGuard
import Derived.Test.YtjecelgbfmpnaaaWNEv
import Derived.Test.YtjecelgbfmpnaaaWMore
namespace Go.Proofs.Ytjecelgbfmpnaaa.QFnExactMirrorOf
open Go.RowKit Go.Proofs.YtjecelgbfmpnaaaW.PrintWords Go.Proofs.YtjecelgbfmpnaaaW.PrintLast Go.Proofs.YtjecelgbfmpnaaaW.PrintMore
attribute [local go_sem] max2_int min2_int max_two min_two max_three min_three max_four min_four   -- for this text's walks alone
set_option linter.unusedVariables false
set_option linter.unusedSimpArgs false



theorem more_' {P : Program} {md : Region.Mode} {ops : Array Oper} {Q : Exit → Act → World → Prop} {S S' : World → Prop} (hSS : ∀ w, S' w → S w) : ∀ (fuel : Nat) {l : Array Bool} {a : Act} {w : World}, S' w → wpAnyLast P md ops Q S' [] fuel l a w → wpAnyLast P md ops Q S [] fuel l a w
  | 0, _, _, _, _, h => h
  | fuel + 1, _, _, _, hs, h => ⟨h.1, fun i hi => wpOp_mono (fun a' w' h' => ⟨fun _ _ => hSS _ (h'.1 (by simp) hs), more_' hSS fuel (h'.1 (by simp) hs) h'.2⟩) (h.2 i hi)⟩
theorem more_ {P : Program} {md : Region.Mode} {ops : Array Oper} {Q : Exit → Act → World → Prop} {S : World → Prop} (S' : World → Prop) {fuel : Nat} {l : Array Bool} {a : Act} {w : World} (hs : S' w) (hSS : ∀ w, S' w → S w) (h : S' w → wpAnyLast P md ops Q S' [] fuel l a w) : wpAnyLast P md ops Q S [] fuel l a w := more_' hSS fuel hs (h hs)
theorem apart_new {α β : Type} {d : Kd α} {d' : Kd β} {e e' : Nat} {w1 W : World} {b : Nat} {ok oku : Nat → Prop} {v u : Value} {xs : List α} {ys : List β} {p : Prop} (h : d.R e w1 W.heap.size ok v xs) (hu : p → d'.R e' W b oku u ys) : d.R e w1 W.heap.size (fun k => p → some k ≠ u.ownBlock) v xs := by
  by_cases c : p
  · exact Kd.R_mono (Kd.R_newR h (hu c)) (fun k hk _ => hk.2)
  · exact Kd.R_mono h (fun k _ hp => absurd hp c)
theorem ownBlock_slice (a : Option Addr) (n c : Nat) : (Value.slice a n c).ownBlock = a.map (·.block) := by cases a <;> rfl
def errW : Option Int → Value
  | none => .nilIface
  | some c => .iface 0 (.int .i64 c)
theorem errW_none : errW none = .nilIface := rfl
theorem errW_some (c : Int) : errW (some c) = .iface 0 (.int .i64 c) := rfl

theorem info2 : (Try.prog.info? 2).map (fun i => (i.zero, i.size, i.bytes)) = some (some (.int .i64 0), 1, 8) := by kernel_rfl
-- the values' own types

end Go.Proofs.Ytjecelgbfmpnaaa.QFnExactMirrorOf
