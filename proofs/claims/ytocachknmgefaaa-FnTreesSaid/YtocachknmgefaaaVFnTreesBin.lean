/- Texts of binary trees: plain lists of bytes, no program. Conditions: none. -/
import Derived.Test.YtocachknmgefaaaVFnTreesBase
namespace Go.Proofs.Ytocachknmgefaaa.Base
open Go.RowKit Go.Proofs.YtocachknmgefaaaW.PrintWords Go.Proofs.YtocachknmgefaaaW.PrintLast Go.Proofs.YtocachknmgefaaaW.PrintMore
set_option linter.unusedVariables false
set_option linter.unusedSimpArgs false
open F
/-! ### Strings as lists of bytes -/
/-- the string of some bytes -/
def S (l : List UInt8) : ByteArray := ⟨l.toArray⟩
theorem S_of (s : ByteArray) : ∃ l, s = S l := ⟨s.data.toList, rfl⟩
theorem S_size (l : List UInt8) : (S l).size = l.length := by simp [S, ByteArray.size]
theorem S_append (l m : List UInt8) : S l ++ S m = S (l ++ m) := by
  apply ByteArray.ext
  simp [S, ByteArray.data_append]
theorem S_bt (l : List UInt8) (i : Nat) : bt (S l) (i : Int) = ((l.getD i 0).toNat : Int) := by
  unfold bt
  rw [Int.toNat_natCast]
  by_cases h : i < l.length
  · rw [dif_pos (by rw [S_size]; exact h), List.getD_eq_getElem?_getD, List.getElem?_eq_getElem h]
    rfl
  · rw [dif_neg (by rw [S_size]; exact h), List.getD_eq_getElem?_getD, List.getElem?_eq_none (by omega)]
    rfl
theorem S_bt_drop {l tl : List UInt8} {c : UInt8} {i : Nat} (h : l.drop i = c :: tl) : bt (S l) (i : Int) = (c.toNat : Int) := by
  rw [S_bt, List.getD_eq_getElem?_getD, (drop_cons h).2.1]
  rfl
theorem byte_eq (c d : UInt8) : ((c.toNat : Int) = (d.toNat : Int)) ↔ c = d := by
  constructor
  · intro h
    exact UInt8.toNat_inj.1 (by omega)
  · intro h
    rw [h]
/-! ### Binary trees as forests: a node's left part is the forest below it -/
namespace F
end F
end Go.Proofs.Ytocachknmgefaaa.Base
