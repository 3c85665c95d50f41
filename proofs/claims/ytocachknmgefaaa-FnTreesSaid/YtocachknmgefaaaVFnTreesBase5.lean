/- Texts of trees read; lists compared. Plain lists, no program. Conditions: none. -/
import Derived.Test.YtocachknmgefaaaVFnTreesBase4
namespace Go.Proofs.Ytocachknmgefaaa.Base
open Go.RowKit Go.Proofs.YtocachknmgefaaaW.PrintWords Go.Proofs.YtocachknmgefaaaW.PrintLast Go.Proofs.YtocachknmgefaaaW.PrintMore
set_option linter.unusedVariables false
set_option linter.unusedSimpArgs false
open F
/-! ### Reading -/
/-- the degrees so far, of open nodes with the forests below them that are whole, the innermost first; c: how many more children each of the others has -/
def enc : List F → Int → List Int
  | [], _ => []
  | f :: fs, c => enc fs 1 ++ ((len f : Int) + c) :: degs f
/-- the open nodes, the outermost first -/
def stk : List F → List Int
  | [] => []
  | _ :: fs => stk fs ++ [((enc fs 1).length : Int)]
def parseF : List UInt8 → List F → Option F
  | [], _ => none
  | _ :: _, [] => none
  | c :: cs, f :: fs => if c = 40 then parseF cs (nil :: f :: fs) else if c = 41 then (match fs with
      | [] => if cs = [] then some f else none
      | g :: hs => parseF cs (app g (cons f nil) :: hs)) else none
/-- the tree with a text -/
def parseT : List UInt8 → Option F
  | [] => none
  | c :: cs => if c = 40 then parseF cs [nil] else none
theorem enc_length (fs : List F) : ∀ c c', (enc fs c).length = (enc fs c').length := by
  intro c c'
  cases fs with
  | nil => rfl
  | cons f fs => simp [enc]
theorem stk_length (fs : List F) : (stk fs).length = fs.length := by
  induction fs with
  | nil => rfl
  | cons f fs ih => simp [stk, ih]
theorem enc_open (f : F) (fs : List F) : enc (nil :: f :: fs) 0 = (enc (f :: fs) 0).set (enc fs 1).length ((len f : Int) + 1) ++ [0] := by
  simp only [enc, len, degs, Int.add_zero]
  rw [set_at]
  rfl
theorem enc_close (f g : F) (hs : List F) : enc (app g (cons f nil) :: hs) 0 = enc (f :: g :: hs) 0 := by
  simp only [enc, len_app, len, degs_app, degs, Int.add_zero, List.append_nil, List.append_assoc, List.cons_append]
  congr 2
theorem enc_one (f : F) : enc [f] 0 = tr f := by
  simp [enc, tr, degs]
theorem rd_enc (f : F) (fs : List F) : rd (enc (f :: fs) 0) (((enc fs 1).length : Nat) : Int) = (len f : Int) := by
  simp only [enc, Int.add_zero]
  exact rd_at
/-- nodes that are open or whole -/
def szl : List F → Nat
  | [] => 0
  | f :: fs => 1 + sz f + szl fs
theorem enc_len (fs : List F) : ∀ c, (enc fs c).length = szl fs := by
  induction fs with
  | nil => intro c; rfl
  | cons f fs ih => intro c; simp only [enc, szl, List.length_append, List.length_cons, degs_length, ih]; omega
/-- a text of at most 2 n signs that is read leaves a tree of at most n nodes -/
theorem parseF_size : ∀ (cs : List UInt8) (fs : List F) (t : F), parseF cs fs = some t → 2 * (sz t + 1) + fs.length = 2 * szl fs + cs.length := by
  intro cs
  induction cs with
  | nil => intro fs t h; simp [parseF] at h
  | cons c cs ih =>
    intro fs t h
    cases fs with
    | nil => simp [parseF] at h
    | cons f fs =>
      simp only [parseF] at h
      by_cases c0 : c = 40
      · rw [if_pos c0] at h
        have := ih _ _ h
        simp only [szl, sz, List.length_cons] at this ⊢
        omega
      · rw [if_neg c0] at h
        by_cases c1 : c = 41
        · rw [if_pos c1] at h
          cases fs with
          | nil =>
            simp only at h
            by_cases c2 : cs = []
            · rw [if_pos c2] at h
              simp only [Option.some.injEq] at h
              subst h
              subst c2
              simp [szl]
              omega
            · rw [if_neg c2] at h; cases h
          | cons g hs =>
            have := ih _ _ h
            simp only [szl, sz_app, sz, List.length_cons] at this ⊢
            omega
        · rw [if_neg c1] at h; cases h
theorem parseT_size {l : List UInt8} {t : F} (h : parseT l = some t) : 2 * (sz t + 1) = l.length := by
  cases l with
  | nil => simp [parseT] at h
  | cons c cs =>
    simp only [parseT] at h
    by_cases c0 : c = 40
    · rw [if_pos c0] at h
      have := parseF_size _ _ _ h
      simp only [szl, sz, List.length_cons, List.length_nil] at this ⊢
      omega
    · rw [if_neg c0] at h; cases h
theorem parseF_txt (f : F) : ∀ (g : F) (hs : List F) (cs : List UInt8), parseF (txt f ++ cs) (g :: hs) = parseF cs (app g f :: hs) := by
  induction f with
  | nil => intro g hs cs; simp [txt, app_nil]
  | cons k r ihk ihr =>
    intro g hs cs
    simp only [txt, List.cons_append, List.append_assoc, parseF]
    rw [if_pos (by trivial), ihk]
    simp only [parseF]
    rw [if_neg (by decide), if_pos (by trivial), ihr]
    simp only [app]
    rw [app_assoc]
    rfl
theorem parseT_txt (k : F) : parseT (txt (cons k nil)) = some k := by
  simp only [txt, parseT]
  rw [if_pos (by trivial), parseF_txt]
  simp [parseF, app]
/-- the answer of the reader of texts -/
def readV (l : List UInt8) : List Int × Int := if l.length > 48 then ([], 6) else match parseT l with
  | some k => (tr k, 0)
  | none => ([], 6)
theorem readV_len (l : List UInt8) : (readV l).1.length ≤ 1000 := by
  unfold readV
  by_cases c : l.length > 48
  · rw [if_pos c]; simp
  · rw [if_neg c]
    cases h : parseT l with
    | none => simp
    | some k =>
      have := parseT_size h
      simp only [tr_length]
      omega
end Go.Proofs.Ytocachknmgefaaa.Base
