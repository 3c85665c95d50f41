/- How an argument that is a slice of structs, each with one slice of whole numbers, is opened. Conditions: none. -/
import Derived.Test.YtjecelgbfmpnaaaWMore
import Derived.Test.YtjecelgbfmpnaaaOpen
import Derived.Deep.Slices
namespace Go.Proofs.Ytjecelgbfmpnaaa.Open
open Go.ChangeShapes Go.WideShapes Go.RowKit Go.Proofs.YtjecelgbfmpnaaaW.PrintWords Go.Proofs.YtjecelgbfmpnaaaW.PrintLast Go.Proofs.YtjecelgbfmpnaaaW.PrintMore
set_option linter.unusedVariables false
/-- what such a slice reads -/
def IsTrees (w : World) (a : Option Addr) (cap : Nat) (l : List (List Int)) : Prop :=
  l.length ≤ cap ∧ l.length ≤ maxLen ∧ (∀ x ∈ l, x.length ≤ maxLen) ∧
    (0 < l.length → ∃ ad, a = some ad ∧ ∀ j p, l[j]? = some p → ∃ A c, w.cell? (ad.add j) = some (.slice A p.length c) ∧ p.length ≤ c ∧ Kd.C (Kd.int .i64) w A p.length p)
section
variable {H : Type} {enc : TypeId × Value → H} {P : Program} {W : World} {base : Nat}
theorem open_trees_arg {r : Reach} {b0 : Nat} {t e q : TypeId} {f : Field} {v : Value} {d : DataW H} {ps : List MemPlace} (ht : P.underlying t = some (.slice e)) (hs : P.underlying e = some (.struct #[f])) (h0 : f.offset = 0) (hC : P.cellsOf e = 1)
    (hq : P.underlying f.type = some (.slice q)) (h1 : P.cellsOf f.type = 1) (hi : P.underlying q = some (.int .i64)) (hc : P.cellsOf q = 1)
    (hv : Value.okWide P W r b0 t v) (h : DataW.Trod enc P W base (fun _ => true) true t v d ps) : ∃ a cap l, v = .slice a l.length cap ∧ IsTrees W a cap l := by
  obtain ⟨a, len, cap, rfl⟩ := okWide_slice ht hv
  obtain ⟨fuel, hf⟩ := h
  rcases Go.Deep.open_slice ht hf with ⟨hcs, _⟩ | ⟨a', len', cap', m, n, D, Pl, hcs, hb, hl, hm, hmm, hx, hel⟩
  · simp only [Value.cells, List.cons.injEq, Value.slice.injEq, and_true] at hcs
    obtain ⟨rfl, rfl, rfl⟩ := hcs
    exact ⟨none, 0, [], rfl, by simp, by simp, by simp, by simp⟩
  · simp only [Value.cells, List.cons.injEq, Value.slice.injEq, and_true] at hcs
    obtain ⟨rfl, rfl, rfl⟩ := hcs
    have elem : ∀ i, i < len → ∃ p : List Int, p.length ≤ maxLen ∧ ∃ A c, W.cell? (a'.add i) = some (.slice A p.length c) ∧ p.length ≤ c ∧ Kd.C (Kd.int .i64) W A p.length p := by
      intro i hlt
      obtain ⟨cs', hc', ht'⟩ := hel i (by simp only [if_true] at hmm; omega)
      rw [hC, Nat.mul_one] at hc'
      obtain ⟨_, hcl, hat⟩ := World.cells?_some hc'
      obtain ⟨xs, n2, _, _, _, hlen, hg⟩ := DataW.trod_struct hs ht'
      have h2 := hg 0 f rfl
      match cs', hcl with
      | [c0], _ =>
        match xs, hlen with
        | [y0], _ =>
          rw [h0, h1] at h2
          obtain ⟨A, ln, cp, zs, e1, hz⟩ := open_row hq hi hc h2
          simp only [List.drop_zero, List.take_succ_cons, List.take_zero, List.cons.injEq, and_true] at e1
          subst e1
          obtain ⟨l, rfl, hr, hm', hw', hc2⟩ := ReadsInt.ofRowC (k := .i64) hz
          have hcell := cell_of_cells?_one hc'
          exact ⟨l, hm', A, cp, hcell, hc2, Kd.C_of_reads (d := (0 : Int)) (h1 := fun _ => rfl) hr⟩
    obtain ⟨g, hg⟩ : ∃ g : Nat → List Int, ∀ i, i < len → (g i).length ≤ maxLen ∧ ∃ A c, W.cell? (a'.add i) = some (.slice A (g i).length c) ∧ (g i).length ≤ c ∧ Kd.C (Kd.int .i64) W A (g i).length (g i) :=
      ⟨fun i => if hlt : i < len then Classical.choose (elem i hlt) else [], fun i hlt => by
        simp only [dif_pos hlt]
        exact Classical.choose_spec (elem i hlt)⟩
    have hgl : ((List.range len).map g).length = len := by simp
    refine ⟨some a', cap, (List.range len).map g, by rw [hgl], by rw [hgl]; exact hl, by rw [hgl]; omega, ?_, fun _ => ⟨a', rfl, fun j p hj => ?_⟩⟩
    · intro x hx
      obtain ⟨i, hi', rfl⟩ := List.mem_map.1 hx
      exact (hg i (List.mem_range.1 hi')).1
    · rw [List.getElem?_map] at hj
      obtain ⟨i, hi', rfl⟩ := Option.map_eq_some_iff.1 hj
      obtain ⟨hlt, rfl⟩ := List.getElem?_eq_some_iff.1 hi'
      rw [List.getElem_range]
      rw [List.length_range] at hlt
      exact (hg j hlt).2
end
end Go.Proofs.Ytjecelgbfmpnaaa.Open
