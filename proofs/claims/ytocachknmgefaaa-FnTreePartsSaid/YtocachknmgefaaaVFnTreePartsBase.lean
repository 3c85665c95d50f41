/- Forests, their sizes and their degrees: plain lists and numbers, no program. Conditions: none. -/
import Derived.Test.YtocachknmgefaaaVFnTreePartsMore
namespace Go.Proofs.Ytocachknmgefaaa.Base
open Go.RowKit Go.Proofs.YtocachknmgefaaaW.PrintWords Go.Proofs.YtocachknmgefaaaW.PrintLast Go.Proofs.YtocachknmgefaaaW.PrintMore
set_option linter.unusedVariables false
set_option linter.unusedSimpArgs false

/-! ### Rounds -/
theorem Ev.succ {α : Type} {g : Nat → Option α} {r : α} (h : Ev (fun k => g (k + 1)) r) : Ev g r := Ev.step (fun _ => rfl) h
theorem Ev.some {α : Type} {r r' : α} (h : r = r') : Ev (fun _ => Option.some r) r' := by subst h; exact Ev.now _
theorem Ev.const {α : Type} {g : Option α} {r : α} (h : g = Option.some r) : Ev (fun _ => g) r := ⟨0, fun _ _ => h⟩
theorem Ev.pos {α : Type} {c : Prop} [Decidable c] {f g : Nat → Option α} {r : α} (h : c) (e : Ev f r) : Ev (fun k => if c then f k else g k) r :=
  Ev.congr (fun _ => if_pos h) e
theorem Ev.neg {α : Type} {c : Prop} [Decidable c] {f g : Nat → Option α} {r : α} (h : ¬ c) (e : Ev g r) : Ev (fun k => if c then f k else g k) r :=
  Ev.congr (fun _ => if_neg h) e
/-- What two that both come to an answer say of it. -/
theorem Ev.unique {α : Type} {g : Nat → Option α} {r r' : α} (h : Ev g r) (h' : Ev g r') : r = r' := by
  obtain ⟨K, h⟩ := h
  obtain ⟨K', h'⟩ := h'
  have h1 := h (K + K') (by omega)
  have h2 := h' (K + K') (by omega)
  rw [h1] at h2
  exact Option.some.inj h2

/-! ### Words of the machine -/
theorem w64 {x : Int} (h : -9223372036854775808 ≤ x ∧ x ≤ 9223372036854775807) : wrap64 x = x := by
  unfold wrap64
  omega
theorem rd_nat (xs : List Int) (i : Nat) : rd xs (i : Int) = xs.getD i 0 := by
  unfold rd
  rw [Int.toNat_natCast]
theorem drop_cons {α : Type} {d tl : List α} {x : α} {v : Nat} (h : d.drop v = x :: tl) : v < d.length ∧ d[v]? = some x ∧ d.drop (v + 1) = tl := by
  have hl : v < d.length := by
    by_cases c : v < d.length
    · exact c
    · rw [List.drop_eq_nil_of_le (by omega)] at h
      cases h
  rw [List.drop_eq_getElem_cons hl] at h
  injection h with h1 h2
  exact ⟨hl, by rw [List.getElem?_eq_getElem hl, h1], h2⟩
theorem rd_drop {d tl : List Int} {x : Int} {v : Nat} (h : d.drop v = x :: tl) : rd d (v : Int) = x := by
  rw [rd_nat, List.getD_eq_getElem?_getD, (drop_cons h).2.1]
  rfl

/-! ### Marks and stores -/
theorem rd_append_right {a b : List Int} {i : Nat} (h : a.length ≤ i) : rd (a ++ b) (i : Int) = rd b ((i - a.length : Nat) : Int) := by
  rw [rd_nat, rd_nat, List.getD_eq_getElem?_getD, List.getD_eq_getElem?_getD, List.getElem?_append_right h]
theorem rd_cons_zero (x : Int) (xs : List Int) : rd (x :: xs) ((0 : Nat) : Int) = x := by
  rw [rd_nat]; rfl
theorem set_at {a b : List Int} {x v : Int} : (a ++ x :: b).set a.length v = a ++ v :: b := by
  rw [List.set_append_right _ _ (Nat.le_refl _)]
  simp
theorem rd_at {a b : List Int} {x : Int} : rd (a ++ x :: b) (a.length : Int) = x := by
  rw [rd_append_right (Nat.le_refl _), Nat.sub_self, rd_cons_zero]

/-- a place of a list -/
theorem rd_of_get {xs : List Int} {i : Nat} {v : Int} (h : xs[i]? = some v) : rd xs (i : Int) = v := by
  rw [rd_nat, List.getD_eq_getElem?_getD, h]
  rfl

/-! ### Forests -/
inductive F where
  | nil : F
  | cons : F → F → F

namespace F
/-- the number of nodes -/
def sz : F → Nat
  | nil => 0
  | cons k r => 1 + sz k + sz r
/-- the number of trees -/
def len : F → Nat
  | nil => 0
  | cons _ r => 1 + len r
/-- the degrees in preorder -/
def degs : F → List Int
  | nil => []
  | cons k r => (len k : Int) :: (degs k ++ degs r)
/-- side by side -/
def app : F → F → F
  | nil, g => g
  | cons k r, g => cons k (app r g)

theorem degs_length (f : F) : (degs f).length = sz f := by
  induction f with
  | nil => rfl
  | cons k r ihk ihr => simp only [degs, sz, List.length_cons, List.length_append, ihk, ihr]; omega
theorem len_le_sz (f : F) : len f ≤ sz f := by
  induction f with
  | nil => simp [len]
  | cons k r ihk ihr => simp only [len, sz]; omega
theorem degs_app (f g : F) : degs (app f g) = degs f ++ degs g := by
  induction f with
  | nil => simp [app, degs]
  | cons k r ihk ihr => simp [app, degs, ihr]
theorem len_app (f g : F) : len (app f g) = len f + len g := by
  induction f with
  | nil => simp [app, len]
  | cons k r ihk ihr => simp only [app, len, ihr]; omega
theorem sz_app (f g : F) : sz (app f g) = sz f + sz g := by
  induction f with
  | nil => simp [app, sz]
  | cons k r ihk ihr => simp only [app, sz, ihr]; omega
theorem app_nil (f : F) : app f nil = f := by
  induction f with
  | nil => rfl
  | cons k r ihk ihr => simp [app, ihr]
theorem app_assoc (f g h : F) : app (app f g) h = app f (app g h) := by
  induction f with
  | nil => rfl
  | cons k r ihk ihr => simp [app, ihr]
theorem split (g : F) : ∀ m, m ≤ len g → ∃ a b, g = app a b ∧ len a = m := by
  induction g with
  | nil => intro m h; exact ⟨nil, nil, rfl, by simp [len] at h ⊢; omega⟩
  | cons k r _ ihr =>
    intro m h
    cases m with
    | zero => exact ⟨nil, cons k r, rfl, rfl⟩
    | succ m =>
      obtain ⟨a, b, rfl, e⟩ := ihr m (by simp only [len] at h; omega)
      exact ⟨cons k a, b, rfl, by simp only [len, e]; omega⟩
theorem len_zero {f : F} (h : len f = 0) : f = nil := by
  cases f with
  | nil => rfl
  | cons k r => simp only [len] at h; omega
theorem len_one {f : F} (h : len f = 1) : ∃ k, f = cons k nil := by
  cases f with
  | nil => simp [len] at h
  | cons k r => exact ⟨k, by rw [len_zero (f := r) (by simp only [len] at h; omega)]⟩
theorem degs_nonneg (f : F) : ∀ x ∈ degs f, 0 ≤ x ∧ x < (sz f : Int) := by
  induction f with
  | nil => intro x h; simp [degs] at h
  | cons k r ihk ihr =>
    intro x h
    simp only [degs, List.mem_cons, List.mem_append] at h
    have := len_le_sz k
    simp only [sz]
    rcases h with rfl | h | h
    · omega
    · have := ihk x h; omega
    · have := ihr x h; omega
end F
open F

/-! ### Which lists are degrees -/
/-- 'm': a degree is below it -/
def okT (m : Int) : List Int → Int → Bool
  | [], need => decide (need = 0)
  | x :: xs, need => if need = 0 then false else if x < 0 then false else if x ≥ m then false else okT m xs (need + (x - 1))
theorem okT_sound (m : Int) : ∀ (d : List Int) (n : Nat), okT m d n = true → ∃ f, len f = n ∧ d = degs f := by
  intro d
  induction d with
  | nil => intro n h; simp [okT] at h; exact ⟨nil, by simp [len, h], rfl⟩
  | cons x xs ih =>
    intro n h
    simp only [okT] at h
    by_cases h0 : (n : Int) = 0
    · rw [if_pos h0] at h; cases h
    · rw [if_neg h0] at h
      by_cases h1 : x < 0
      · rw [if_pos h1] at h; cases h
      · rw [if_neg h1] at h
        by_cases h2 : x ≥ m
        · rw [if_pos h2] at h; cases h
        · rw [if_neg h2] at h
          have e : (n : Int) + (x - 1) = ((n + x.toNat - 1 : Nat) : Int) := by omega
          rw [e] at h
          obtain ⟨g, hg, rfl⟩ := ih _ h
          obtain ⟨a, b, rfl, ha⟩ := split g x.toNat (by omega)
          refine ⟨cons a b, ?_, ?_⟩
          · rw [len_app] at hg; simp only [len]; omega
          · simp only [degs, degs_app, ha]
            rw [Int.toNat_of_nonneg (by omega)]
theorem okT_degs (m : Int) : ∀ (n : Nat) (f : F), sz f = n → (∀ x ∈ degs f, x < m) → okT m (degs f) (len f) = true := by
  intro n
  induction n with
  | zero =>
    intro f hf _
    cases f with
    | nil => simp [degs, okT, len]
    | cons k r => simp only [sz] at hf; omega
  | succ n ih =>
    intro f hf hm
    cases f with
    | nil => simp [sz] at hf
    | cons k r =>
      have hx : (len k : Int) < m := hm _ (by simp [degs])
      simp only [degs, okT, len]
      rw [if_neg (by omega), if_neg (by omega), if_neg (by omega)]
      have e : ((1 + len r : Nat) : Int) + ((len k : Int) - 1) = (len (app k r) : Int) := by rw [len_app]; omega
      rw [e, ← degs_app]
      refine ih _ (by rw [sz_app]; simp only [sz] at hf; omega) (fun x h => hm x ?_)
      rw [degs_app] at h
      simp only [degs, List.mem_cons]
      exact .inr h
def isT (d : List Int) : Bool := decide (1 ≤ d.length) && (decide (d.length ≤ 24) && okT 24 d 1)
theorem isT_iff (d : List Int) : isT d = true ↔ ∃ k, d = degs (cons k nil) ∧ sz k ≤ 23 := by
  constructor
  · intro h
    simp only [isT, Bool.and_eq_true, decide_eq_true_eq] at h
    obtain ⟨h1, h2, h3⟩ := h
    obtain ⟨f, hf, rfl⟩ := okT_sound 24 d 1 h3
    obtain ⟨k, rfl⟩ := len_one hf
    refine ⟨k, rfl, ?_⟩
    rw [degs_length] at h2
    simp only [sz] at h2
    omega
  · rintro ⟨k, rfl, hk⟩
    simp only [isT, Bool.and_eq_true, decide_eq_true_eq, degs_length]
    refine ⟨by simp only [sz]; omega, by simp only [sz]; omega, okT_degs 24 _ (cons k nil) rfl (fun x h => ?_)⟩
    have := degs_nonneg _ x h
    simp only [sz] at this
    omega
theorem okT_25 (d : List Int) (h : d.length ≤ 24) : okT 25 d 1 = okT 24 d 1 := by
  rw [Bool.eq_iff_iff]
  constructor
  · intro h3
    obtain ⟨f, hf, rfl⟩ := okT_sound 25 d 1 h3
    obtain ⟨k, rfl⟩ := len_one hf
    refine okT_degs 24 _ (cons k nil) rfl (fun x hx => ?_)
    have h1 := degs_nonneg _ x hx
    have h2 := degs_nonneg k
    rw [degs_length] at h
    simp only [degs, sz, List.mem_cons, List.append_nil] at h hx h1
    have := len_le_sz k
    rcases hx with rfl | hx
    · omega
    · have := h2 x hx; omega
  · intro h3
    obtain ⟨f, hf, rfl⟩ := okT_sound 24 d 1 h3
    obtain ⟨k, rfl⟩ := len_one hf
    refine okT_degs 25 _ (cons k nil) rfl (fun x hx => ?_)
    have h1 := degs_nonneg _ x hx
    rw [degs_length] at h
    omega
/-- the bound on a degree is met by a tree of at most 24 nodes -/
theorem isT_length {d : List Int} (h : isT d = true) : 1 ≤ d.length ∧ d.length ≤ 24 := by
  simp only [isT, Bool.and_eq_true, decide_eq_true_eq] at h
  exact ⟨h.1, h.2.1⟩
end Go.Proofs.Ytocachknmgefaaa.Base
