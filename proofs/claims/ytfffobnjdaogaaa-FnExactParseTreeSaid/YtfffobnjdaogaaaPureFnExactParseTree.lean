/- The pure statement of the law FnExactParseTree is proved. Conditions: those of the statement alone. -/
import Derived.Test.YtfffobnjdaogaaaQFnExactParseTreex3
import Derived.Test.YtfffobnjdaogaaaBase
import Derived.Test.YtfffobnjdaogaaaBase2
import Derived.Test.YtfffobnjdaogaaaBin
import Derived.Test.YtfffobnjdaogaaaBase3
import Derived.Test.YtfffobnjdaogaaaBase4
import Derived.Test.YtfffobnjdaogaaaBase5
import Derived.Test.YtfffobnjdaogaaaBin2
import Derived.Test.YtfffobnjdaogaaaNum
namespace Go.Proofs.Ytfffobnjdaogaaa.Pure
open Go.RowKit Go.Proofs.Ytfffobnjdaogaaa.QFnExactParseTree Go.Proofs.Ytfffobnjdaogaaa.Base Go.Proofs.YtfffobnjdaogaaaW.PrintWords Go.Proofs.YtfffobnjdaogaaaW.PrintLast Go.Proofs.YtfffobnjdaogaaaW.PrintMore
open Go.Proofs.Ytfffobnjdaogaaa.Base.F
set_option linter.unusedVariables false
set_option linter.unusedSimpArgs false

theorem laws_eqInt64S_ev (xs : List Int) (hm : xs.length ≤ 140737488351232) : Ev (fun k => laws_eqInt64S.f k xs xs) true := by
  have key : ∀ (d i : Nat), i + d = xs.length → Ev (fun k => laws_eqInt64S.l0 k xs xs i) true := by
    intro d
    induction d with
    | zero =>
      intro i h
      apply Ev.succ
      simp (disch := omega) only [laws_eqInt64S.l0, if_pos, if_neg]
      exact Ev.now _
    | succ d ih =>
      intro i h
      apply Ev.succ
      simp (disch := omega) only [laws_eqInt64S.l0, if_pos, if_neg, w64]
      exact ih (i + 1) (by omega)
  unfold laws_eqInt64S.f
  exact Ev.pos rfl (key xs.length 0 (by omega))
theorem laws_eqTree_ev (xs : List Int) (hm : xs.length ≤ 140737488351232) : Ev (fun k => laws_eqTree.f k xs xs) true := by
  unfold laws_eqTree.f
  exact Ev.bind (laws_eqInt64S_ev xs hm) (Ev.now _)
theorem laws_markInt64S_ev (xs : List Int) (a : Int) (ha : 0 ≤ a) (hm : a + (xs.length : Int) ≤ 1000000000000000000) :
    Ev (fun k => laws_markInt64S.f k xs a) (a + xs.length, marks a xs.length) := by
  have key : ∀ (d i : Nat) (ys : List Int), i + d = xs.length → ys.length = xs.length → ys.take i = marks a i →
      Ev (fun k => laws_markInt64S.l0 k ys (a + i) i) (a + xs.length, marks a xs.length) := by
    intro d
    induction d with
    | zero =>
      intro i ys h hl ht
      apply Ev.succ
      simp (disch := omega) only [laws_markInt64S.l0, if_pos, if_neg]
      refine Ev.some ?_
      rw [show i = xs.length by omega] at ht ⊢
      rw [← ht, List.take_of_length_le (by omega)]
    | succ d ih =>
      intro i ys h hl ht
      apply Ev.succ
      simp (disch := omega) only [laws_markInt64S.l0, if_pos, if_neg, w64]
      have := ih (i + 1) (ys.set i (a + i)) (by omega) (by rw [List.length_set, hl]) (by rw [marks_succ, ← ht, take_set_succ _ _ _ (by omega)])
      rw [show a + ((i + 1 : Nat) : Int) = a + i + 1 by omega] at this
      exact this
  unfold laws_markInt64S.f
  have := key xs.length 0 xs (by omega) rfl (by simp [marks])
  simpa using this
theorem laws_markTree_ev (xs : List Int) (a : Int) (ha : 0 ≤ a) (hm : a + (xs.length : Int) ≤ 1000000000000000000) :
    Ev (fun k => laws_markTree.f k xs a) (a + xs.length, marks a xs.length) := by
  unfold laws_markTree.f
  exact Ev.bind (laws_markInt64S_ev xs a ha hm) (Ev.now _)
theorem spec_l01Read_ev (l : List UInt8) (hm : l.length ≤ 140737488351232) : Ev (fun m => spec_l01Read.f m (S l)) (if l.length > 48 then ([], false) else match parseT l with | some k => (tr k, true) | none => ([], false)) := by
  have hs := S_size l
  have close : ∀ (d : List Int) (i : Nat) (c : UInt8) (cs : List UInt8), d ≠ [] → l.drop i = c :: cs → i < 48 → i + cs.length + 1 = l.length → Ev (fun m => spec_l01Read.l0 m (S l) d [] i) ([], false) := by
    intro d i c cs hne h hi hl
    have hb := S_bt_drop h
    have hd0 : d.length ≠ 0 := fun e => hne (List.eq_nil_of_length_eq_zero e)
    refine Ev.step (fun k => by rw [spec_l01Read.l0]) (Ev.pos (by omega) (Ev.pos (by omega) ?_))
    have fin : Ev (fun k => spec_l01Read.j1 k (S l) d [] i false) ([], false) := by
      refine Ev.step (fun k => by rw [spec_l01Read.j1]) (Ev.neg (by simp) (Ev.pos (by omega) (Ev.pos (by omega) ?_)))
      refine Ev.ite (fun _ => ?_) (fun _ => Ev.now _)
      exact Ev.neg (by simp) (Ev.now _)
    refine Ev.ite (fun _ => ?_) (fun _ => fin)
    refine Ev.neg (by simp) ?_
    have : ((d.length : Int) == 0) = false := by simp; omega
    rw [this]
    exact fin
  have key : ∀ (cs : List UInt8) (i : Nat) (f : F) (fs : List F), l.drop i = cs → i + cs.length = l.length → l.length ≤ 48 → (enc (f :: fs) 0).length ≤ i → fs.length < i →
      Ev (fun m => spec_l01Read.l0 m (S l) (enc (f :: fs) 0) (stk (f :: fs)) i) (match parseF cs (f :: fs) with | some k => (tr k, true) | none => ([], false)) := by
    intro cs
    induction cs with
    | nil =>
      intro i f fs h hi h48 hen hf
      simp only [List.length_nil] at hi
      have hsl := stk_length (f :: fs)
      simp only [List.length_cons] at hsl
      refine Ev.step (fun k => by rw [spec_l01Read.l0]) (Ev.neg (by omega) (Ev.pos (by omega) ?_))
      exact Ev.now _
    | cons c cs ih =>
      intro i f fs h hi h48 hen hf
      simp only [List.length_cons] at hi
      have hb := S_bt_drop h
      have hdr := (drop_cons h).2.2
      have hsl := stk_length (f :: fs)
      simp only [List.length_cons] at hsl
      have hel := enc_len (f :: fs) 0
      have hel1 := enc_len fs 1
      simp only [szl] at hel
      have htop : rd (stk (f :: fs)) ((fs.length : Nat) : Int) = (((enc fs 1).length : Nat) : Int) := rd_mid (stk_length fs)
      refine Ev.step (fun k => by rw [spec_l01Read.l0]) (Ev.pos (by omega) (Ev.pos (by omega) ?_))
      simp only [parseF]
      by_cases c0 : c = 40
      · rw [if_pos c0]
        refine Ev.pos (by rw [hb, c0]; rfl) (Ev.pos (by omega) ?_)
        refine Ev.step (fun k => by rw [spec_l01Read.j1]) (Ev.pos rfl (Ev.pos (by omega) ?_))
        rw [show ((stk (f :: fs)).length : Int) - 1 = ((fs.length : Nat) : Int) by omega, w64 (x := ((fs.length : Nat) : Int)) (by omega), htop]
        refine Ev.pos (by omega) (Ev.pos (by omega) (Ev.pos (by omega) (Ev.pos (by omega) ?_)))
        simp only [Option.bind_some]
        rw [rd_enc, w64 (x := (len f : Int) + 1) (by have := len_le_sz f; omega), w64 (x := (i : Int) + 1) (by omega), Int.toNat_natCast]
        refine Ev.pos (by omega) (Ev.pos (by rw [List.length_set]; omega) ?_)
        have := ih (i + 1) nil (f :: fs) hdr (by omega) h48 (by rw [enc_len]; simp only [szl, sz]; omega) (by simp; omega)
        rw [enc_open] at this
        have e2 : stk (nil :: f :: fs) = stk (f :: fs) ++ [((enc (f :: fs) 0).length : Int)] := by
          show stk (f :: fs) ++ [((enc (f :: fs) 1).length : Int)] = _
          rw [enc_length (f :: fs) 1 0]
        rw [e2] at this
        exact this
      · rw [if_neg c0]
        refine Ev.neg (by rw [hb]; exact fun e => c0 ((byte_eq c 40).1 e)) ?_
        refine Ev.step (fun k => by rw [spec_l01Read.j1]) (Ev.neg (by simp) (Ev.pos (by omega) (Ev.pos (by omega) ?_)))
        by_cases c1 : c = 41
        · rw [if_pos c1]
          refine Ev.pos (by rw [hb, c1]; rfl) (Ev.pos (by omega) ?_)
          rw [show ((stk (f :: fs)).length : Int) - 1 = ((fs.length : Nat) : Int) by omega, w64 (x := ((fs.length : Nat) : Int)) (by omega), w64 (x := (i : Int) + 1) (by omega), Int.toNat_natCast]
          refine Ev.pos (by omega) (Ev.pos (by omega) ?_)
          have e3 : (stk (f :: fs)).take fs.length = stk fs := by
            show (stk fs ++ _).take fs.length = _
            rw [← stk_length fs, List.take_left]
          rw [e3]
          cases fs with
          | nil =>
            by_cases c2 : cs = []
            · simp only [if_pos c2]
              subst c2
              simp only [List.length_nil] at hi
              rw [enc_one]
              have htr := tr_length f
              refine Ev.step (fun k => by rw [spec_l01Read.l0]) (Ev.neg (by omega) (Ev.neg (by simp [stk]) (Ev.neg (by omega) (Ev.now _))))
            · simp only [if_neg c2]
              obtain ⟨c', cs', rfl⟩ : ∃ c' cs', cs = c' :: cs' := by
                cases cs with
                | nil => exact absurd rfl c2
                | cons a b => exact ⟨a, b, rfl⟩
              simp only [List.length_cons] at hi
              exact close (enc [f] 0) (i + 1) c' cs' (by rw [enc_one]; simp [tr, degs]) hdr (by omega) (by omega)
          | cons g hs =>
            have := ih (i + 1) (app g (cons f nil)) hs hdr (by omega) h48 (by rw [enc_close]; omega) (by simp only [List.length_cons] at hf; omega)
            rw [enc_close] at this
            exact this
        · rw [if_neg c1]
          exact Ev.neg (by rw [hb]; exact fun e => c1 ((byte_eq c 41).1 e)) (Ev.now _)
  unfold spec_l01Read.f
  by_cases c : l.length > 48
  · rw [if_pos c]
    exact Ev.pos (by omega) (Ev.now _)
  · rw [if_neg c]
    refine Ev.neg (by omega) ?_
    cases hl : l with
    | nil =>
      subst hl
      refine Ev.step (f := fun _ => some ([], false)) (fun k => ?_) (Ev.now _)
      rw [spec_l01Read.l0, if_neg (by rw [hs]; simp), if_neg (by simp), if_pos (by simp)]
    | cons a cs =>
      rw [← hl]
      have hl1 : l.length = cs.length + 1 := by rw [hl]; simp
      have h0 : l.drop 0 = a :: cs := by rw [hl]; rfl
      have hb := S_bt_drop h0
      have hb0 : bt (S l) 0 = (a.toNat : Int) := hb
      have hdr := (drop_cons h0).2.2
      have hp : parseT l = if a = 40 then parseF cs [nil] else none := by rw [hl]; rfl
      rw [hp]
      refine Ev.step (fun k => by rw [spec_l01Read.l0]) (Ev.pos (by omega) (Ev.pos (by omega) ?_))
      by_cases c0 : a = 40
      · rw [if_pos c0]
        refine Ev.pos (by rw [hb0, c0]; rfl) (Ev.neg (by simp) ?_)
        refine Ev.step (fun k => by rw [spec_l01Read.j1]) (Ev.pos (by simp) (Ev.neg (by simp) (Ev.pos (by simp) (Ev.pos (by simp) ?_))))
        rw [show wrap64 (0 + 1) = ((1 : Nat) : Int) by rw [w64 (by omega)]; rfl]
        exact key cs 1 nil [] hdr (by omega) (by omega) (by simp [enc, degs]) (by simp)
      · rw [if_neg c0]
        refine Ev.neg (by rw [hb0]; exact fun e => c0 ((byte_eq a 40).1 e)) ?_
        refine Ev.step (fun k => by rw [spec_l01Read.j1]) (Ev.neg (by simp) (Ev.pos (by omega) (Ev.pos (by omega) ?_)))
        refine Ev.ite (fun _ => ?_) (fun _ => Ev.now _)
        exact Ev.neg (by simp) (Ev.now _)
theorem spec_ParseTree_ev (l : List UInt8) (hm : l.length ≤ 140737488351232) : Ev (fun m => spec_ParseTree.f m (S l)) (readV l) := by
  unfold spec_ParseTree.f readV
  refine Ev.bind (spec_l01Read_ev l hm) ?_
  by_cases c : l.length > 48
  · rw [if_pos c, if_pos c]
    exact Ev.neg (by simp) (Ev.now _)
  · rw [if_neg c, if_neg c]
    cases h : parseT l with
    | none => exact Ev.neg (by simp) (Ev.now _)
    | some k => exact Ev.pos rfl (Ev.now _)
theorem impl_isTree_ev (d : List Int) (hm : d.length ≤ 9223372036854775807) : Ev (fun k => impl_isTree.f k d) (isT d) := by
  have key : ∀ (n i : Nat) (need : Int), i + n = d.length → d.length ≤ 24 → 0 ≤ need → need ≤ 1 + 24 * (i : Int) →
      Ev (fun k => impl_isTree.l0 k need d d.length i) (okT 24 (d.drop i) need) := by
    intro n
    induction n with
    | zero =>
      intro i need h h24 h0 h1
      apply Ev.succ
      simp (disch := omega) only [impl_isTree.l0, if_pos, if_neg]
      rw [List.drop_eq_nil_of_le (by omega)]
      exact Ev.some (by simp only [okT]; rw [Bool.eq_iff_iff]; simp)
    | succ n ih =>
      intro i need h h24 h0 h1
      apply Ev.succ
      have hi : i < d.length := by omega
      have hr : rd d i = d[i] := by rw [rd_nat, List.getD_eq_getElem?_getD, List.getElem?_eq_getElem hi]; rfl
      simp (disch := omega) only [impl_isTree.l0, if_pos, if_neg, hr]
      rw [List.drop_eq_getElem_cons hi]
      simp only [okT]
      by_cases c0 : need = 0
      · rw [if_pos c0]; exact Ev.pos c0 (Ev.now _)
      · rw [if_neg c0]
        refine Ev.neg c0 ?_
        by_cases c1 : d[i] < 0
        · rw [if_pos c1]; exact Ev.pos c1 (Ev.now _)
        · rw [if_neg c1]
          refine Ev.neg c1 ?_
          by_cases c2 : d[i] ≥ 24
          · rw [if_pos c2]; exact Ev.pos c2 (Ev.now _)
          · rw [if_neg c2]
            refine Ev.neg c2 ?_
            rw [w64 (x := d[i] - 1) (by omega), w64 (by omega), w64 (by omega)]
            exact ih (i + 1) _ (by omega) h24 (by omega) (by omega)
  unfold impl_isTree.f
  by_cases c1 : (d.length : Int) < 1
  · refine Ev.pos c1 (Ev.succ ?_)
    simp only [impl_isTree.j0, if_true]
    refine Ev.some ?_
    rw [eq_comm, Bool.eq_false_iff]
    intro h
    have := isT_length h
    omega
  · refine Ev.neg c1 (Ev.succ ?_)
    simp only [impl_isTree.j0, decide_eq_true_eq]
    by_cases c : (d.length : Int) > 24
    · refine Ev.pos c (Ev.some ?_)
      rw [eq_comm, Bool.eq_false_iff]
      intro h
      have := isT_length h
      omega
    · refine Ev.neg c ?_
      have := key d.length 0 1 (by omega) (by omega) (by omega) (by omega)
      rw [List.drop_zero] at this
      have e : isT d = okT 24 d 1 := by
        unfold isT
        rw [decide_eq_true (by omega : 1 ≤ d.length), decide_eq_true (by omega : d.length ≤ 24)]
        simp
      rw [e]
      exact this
theorem impl_parseTree_ev (l : List UInt8) (hm : l.length ≤ 140737488351232) : ∃ d : List Int, Ev (fun m => impl_parseTree.f m (S l)) (if l.length > 48 then ([], false) else match parseT l with | some k => (tr k, true) | none => (d, false)) := by
  have hs := S_size l
  have close : ∀ (d : List Int) (i : Nat) (c : UInt8) (cs : List UInt8), 0 < i → l.drop i = c :: cs → i < 48 → i + cs.length + 1 = l.length → Ev (fun m => impl_parseTree.l0 m (S l) d [] (S l).size i) ([], false) := by
    intro d i c cs hne h hi hl
    have hb := S_bt_drop h
    refine Ev.step (fun k => by rw [impl_parseTree.l0]) (Ev.pos (by omega) (Ev.pos (by omega) (Ev.pos (by omega) ?_)))
    refine Ev.ite (fun _ => Ev.neg (by simp) (Ev.pos (by omega) (Ev.now _))) (fun _ => ?_)
    refine Ev.ite (fun _ => Ev.pos (by simp) (Ev.now _)) (fun _ => Ev.now _)
  have key : ∀ (cs : List UInt8) (i : Nat) (f : F) (fs : List F), l.drop i = cs → i + cs.length = l.length → l.length ≤ 48 → (enc (f :: fs) 0).length ≤ i → fs.length < i → szl (f :: fs) * 2 + cs.length ≤ 48 + fs.length + 1 →
      ∃ d, Ev (fun m => impl_parseTree.l0 m (S l) (enc (f :: fs) 0) (stk (f :: fs)) (S l).size i) (match parseF cs (f :: fs) with | some k => (tr k, true) | none => (d, false)) := by
    intro cs
    induction cs with
    | nil =>
      intro i f fs h hi h48 hen hf hsz
      simp only [List.length_nil] at hi
      have hsl := stk_length (f :: fs)
      simp only [List.length_cons] at hsl
      refine ⟨enc (f :: fs) 0, ?_⟩
      refine Ev.step (fun k => by rw [impl_parseTree.l0]) (Ev.neg (by omega) (Ev.neg (by omega) ?_))
      exact Ev.now _
    | cons c cs ih =>
      intro i f fs h hi h48 hen hf hsz
      simp only [List.length_cons] at hi hsz
      have hb := S_bt_drop h
      have hdr := (drop_cons h).2.2
      have hsl := stk_length (f :: fs)
      simp only [List.length_cons] at hsl
      have hel := enc_len (f :: fs) 0
      have hel1 := enc_len fs 1
      simp only [szl] at hel hsz
      have htop : rd (stk (f :: fs)) ((fs.length : Nat) : Int) = (((enc fs 1).length : Nat) : Int) := rd_mid (stk_length fs)
      have start : ∀ {r}, Ev (fun k => if bt (S l) (i : Int) = 40 then (if ((stk (f :: fs)).length : Int) > 0 then (if 0 ≤ (wrap64 (((stk (f :: fs)).length : Int) - 1)) then (if (wrap64 (((stk (f :: fs)).length : Int) - 1)) < ((stk (f :: fs)).length : Int) then (if 0 ≤ (rd (stk (f :: fs)) (wrap64 (((stk (f :: fs)).length : Int) - 1))) then (if (rd (stk (f :: fs)) (wrap64 (((stk (f :: fs)).length : Int) - 1))) < ((enc (f :: fs) 0).length : Int) then ((some ((enc (f :: fs) 0).set ((rd (stk (f :: fs)) (wrap64 (((stk (f :: fs)).length : Int) - 1))) : Int).toNat (wrap64 ((rd (enc (f :: fs) 0) (rd (stk (f :: fs)) (wrap64 (((stk (f :: fs)).length : Int) - 1)))) + 1)) : List Int)).bind fun y152 => (if (stk (f :: fs)).length < 17592186044416 then (if y152.length < 17592186044416 then (impl_parseTree.l0 k (S l) (y152 ++ [0]) ((stk (f :: fs)) ++ [((enc (f :: fs) 0).length : Int)]) (S l).size (wrap64 ((i : Int) + 1))) else (none)) else (none))) else (none)) else (none)) else (none)) else (none)) else (if (i : Int) > 0 then (some (([] : List Int), false)) else (if (stk (f :: fs)).length < 17592186044416 then (if (enc (f :: fs) 0).length < 17592186044416 then (impl_parseTree.l0 k (S l) ((enc (f :: fs) 0) ++ [0]) ((stk (f :: fs)) ++ [((enc (f :: fs) 0).length : Int)]) (S l).size (wrap64 ((i : Int) + 1))) else (none)) else (none)))) else (if bt (S l) (i : Int) = 41 then (if ((stk (f :: fs)).length : Int) = 0 then (some (([] : List Int), false)) else (if 0 ≤ (wrap64 (((stk (f :: fs)).length : Int) - 1)) then (if (wrap64 (((stk (f :: fs)).length : Int) - 1)) ≤ ((stk (f :: fs)).length : Int) then (impl_parseTree.l0 k (S l) (enc (f :: fs) 0) ((stk (f :: fs)).take ((wrap64 (((stk (f :: fs)).length : Int) - 1)) : Int).toNat) (S l).size (wrap64 ((i : Int) + 1))) else (none)) else (none))) else (some (([] : List Int), false)))) r → Ev (fun m => impl_parseTree.l0 m (S l) (enc (f :: fs) 0) (stk (f :: fs)) (S l).size i) r := by
        intro r hr
        exact Ev.step (fun k => by rw [impl_parseTree.l0]) (Ev.pos (by omega) (Ev.pos (by omega) (Ev.pos (by omega) hr)))
      simp only [parseF]
      by_cases c0 : c = 40
      · rw [if_pos c0]
        obtain ⟨d, this⟩ := ih (i + 1) nil (f :: fs) hdr (by omega) h48 (by rw [enc_len]; simp only [szl, sz]; omega) (by simp; omega) (by simp only [szl, sz, List.length_cons]; omega)
        refine ⟨d, start (Ev.pos (by rw [hb, c0]; rfl) (Ev.pos (by omega) ?_))⟩
        rw [show ((stk (f :: fs)).length : Int) - 1 = ((fs.length : Nat) : Int) by omega, w64 (x := ((fs.length : Nat) : Int)) (by omega), htop]
        refine Ev.pos (by omega) (Ev.pos (by omega) (Ev.pos (by omega) (Ev.pos (by omega) ?_)))
        simp only [Option.bind_some]
        rw [rd_enc, w64 (x := (len f : Int) + 1) (by have := len_le_sz f; omega), w64 (x := (i : Int) + 1) (by omega), Int.toNat_natCast]
        refine Ev.pos (by omega) (Ev.pos (by rw [List.length_set]; omega) ?_)
        rw [enc_open] at this
        have e2 : stk (nil :: f :: fs) = stk (f :: fs) ++ [((enc (f :: fs) 0).length : Int)] := by
          show stk (f :: fs) ++ [((enc (f :: fs) 1).length : Int)] = _
          rw [enc_length (f :: fs) 1 0]
        rw [e2] at this
        exact this
      · rw [if_neg c0]
        by_cases c1 : c = 41
        · rw [if_pos c1]
          have e3 : (stk (f :: fs)).take fs.length = stk fs := by
            show (stk fs ++ _).take fs.length = _
            rw [← stk_length fs, List.take_left]
          have go : ∀ {r}, Ev (fun m => impl_parseTree.l0 m (S l) (enc (f :: fs) 0) (stk fs) (S l).size ((i + 1 : Nat) : Int)) r → Ev (fun m => impl_parseTree.l0 m (S l) (enc (f :: fs) 0) (stk (f :: fs)) (S l).size i) r := by
            intro r hr
            refine start (Ev.neg (by rw [hb]; exact fun e => c0 ((byte_eq c 40).1 e)) (Ev.pos (by rw [hb, c1]; rfl) (Ev.neg (by omega) ?_)))
            rw [show ((stk (f :: fs)).length : Int) - 1 = ((fs.length : Nat) : Int) by omega, w64 (x := ((fs.length : Nat) : Int)) (by omega), w64 (x := (i : Int) + 1) (by omega), Int.toNat_natCast, e3]
            exact Ev.pos (by omega) (Ev.pos (by omega) hr)
          cases fs with
          | nil =>
            by_cases c2 : cs = []
            · simp only [if_pos c2]
              subst c2
              simp only [List.length_nil] at hi hsz
              refine ⟨[], go ?_⟩
              rw [enc_one]
              have htr := tr_length f
              simp only [szl] at hsz
              have ht := impl_isTree_ev (tr f) (by omega)
              rw [isT_tr (by omega)] at ht
              refine Ev.step (fun k => by rw [impl_parseTree.l0]) (Ev.neg (by omega) (Ev.pos (by simp [stk]) (Ev.bind ht (Ev.now _))))
            · simp only [if_neg c2]
              obtain ⟨c', cs', rfl⟩ : ∃ c' cs', cs = c' :: cs' := by
                cases cs with
                | nil => exact absurd rfl c2
                | cons a b => exact ⟨a, b, rfl⟩
              simp only [List.length_cons] at hi
              exact ⟨[], go (close (enc [f] 0) (i + 1) c' cs' (by omega) hdr (by omega) (by omega))⟩
          | cons g hs =>
            obtain ⟨d, this⟩ := ih (i + 1) (app g (cons f nil)) hs hdr (by omega) h48 (by rw [enc_close]; omega) (by simp only [List.length_cons] at hf; omega) (by simp only [szl, sz_app, sz, List.length_cons] at hsz ⊢; omega)
            rw [enc_close] at this
            exact ⟨d, go this⟩
        · rw [if_neg c1]
          exact ⟨[], start (Ev.neg (by rw [hb]; exact fun e => c0 ((byte_eq c 40).1 e)) (Ev.neg (by rw [hb]; exact fun e => c1 ((byte_eq c 41).1 e)) (Ev.now _)))⟩
  unfold impl_parseTree.f
  by_cases c : l.length > 48
  · refine ⟨[], ?_⟩
    rw [if_pos c]
    exact Ev.pos (by omega) (Ev.now _)
  · simp only [if_neg c]
    cases hl : l with
    | nil =>
      subst hl
      have ht := impl_isTree_ev [] (by simp)
      refine ⟨[], Ev.neg (by rw [hs]; simp) (Ev.step (f := fun k => (impl_isTree.f k []).bind fun t149 => some ([], t149)) (fun k => ?_) (Ev.bind ht (Ev.some (by simp [isT, parseT]))))⟩
      rw [impl_parseTree.l0, if_neg (by rw [hs]; simp), if_pos (by simp)]
    | cons a cs =>
      rw [← hl]
      have hl1 : l.length = cs.length + 1 := by rw [hl]; simp
      have h0 : l.drop 0 = a :: cs := by rw [hl]; rfl
      have hb := S_bt_drop h0
      have hb0 : bt (S l) 0 = (a.toNat : Int) := hb
      have hdr := (drop_cons h0).2.2
      have hp : parseT l = if a = 40 then parseF cs [nil] else none := by rw [hl]; rfl
      rw [hp]
      by_cases c0 : a = 40
      · rw [if_pos c0]
        obtain ⟨d, this⟩ := key cs 1 nil [] hdr (by omega) (by omega) (by simp [enc, degs]) (by simp) (by simp [szl, sz]; omega)
        refine ⟨d, Ev.neg (by omega) (Ev.step (fun k => by rw [impl_parseTree.l0]) (Ev.pos (by omega) (Ev.pos (by omega) (Ev.pos (by omega) (Ev.pos (by rw [hb0, c0]; rfl) (Ev.neg (by simp) (Ev.neg (by omega) (Ev.pos (by simp) (Ev.pos (by simp) ?_)))))))))⟩
        rw [show wrap64 (0 + 1) = ((1 : Nat) : Int) by rw [w64 (by omega)]; rfl]
        exact this
      · rw [if_neg c0]
        refine ⟨[], Ev.neg (by omega) (Ev.step (fun k => by rw [impl_parseTree.l0]) (Ev.pos (by omega) (Ev.pos (by omega) (Ev.pos (by omega) (Ev.neg (by rw [hb0]; exact fun e => c0 ((byte_eq a 40).1 e)) ?_)))))⟩
        refine Ev.ite (fun _ => Ev.pos (by simp) (Ev.now _)) (fun _ => Ev.now _)
theorem impl_ParseTree_ev (l : List UInt8) (hm : l.length ≤ 140737488351232) : Ev (fun m => impl_ParseTree.f m (S l)) (readV l) := by
  obtain ⟨d, e⟩ := impl_parseTree_ev l hm
  unfold impl_ParseTree.f readV
  refine Ev.bind e ?_
  by_cases c : l.length > 48
  · rw [if_pos c, if_pos c]
    exact Ev.neg (by simp) (Ev.now _)
  · rw [if_neg c, if_neg c]
    cases h : parseT l with
    | none => exact Ev.neg (by simp) (Ev.now _)
    | some k => exact Ev.pos rfl (Ev.now _)
theorem laws_heldInt64S_ev (n : Nat) (a : Int) (ha : 0 ≤ a) (hm : a + (n : Int) ≤ 1000000000000000000) :
    Ev (fun k => laws_heldInt64S.f k (marks a n) a) (a + n) := by
  have key : ∀ (d i : Nat), i + d = n → Ev (fun k => laws_heldInt64S.l0 k (marks a n) (a + i) i) (a + n) := by
    intro d
    induction d with
    | zero =>
      intro i h
      have hl := marks_length a n
      apply Ev.succ
      simp (disch := omega) only [laws_heldInt64S.l0, if_pos, if_neg]
      refine Ev.some ?_
      omega
    | succ d ih =>
      intro i h
      have hl := marks_length a n
      have hr := rd_marks a n i (by omega)
      apply Ev.succ
      simp (disch := omega) only [laws_heldInt64S.l0, if_pos, if_neg, w64, hr]
      have := ih (i + 1) (by omega)
      rw [show a + ((i + 1 : Nat) : Int) = a + i + 1 by omega] at this
      exact this
  unfold laws_heldInt64S.f
  simpa using key n 0 (by omega)
theorem laws_heldTree_ev (n : Nat) (a : Int) (ha : 0 ≤ a) (hm : a + (n : Int) ≤ 1000000000000000000) :
    Ev (fun k => laws_heldTree.f k (marks a n) a) (a + n) := by
  unfold laws_heldTree.f
  exact Ev.bind (laws_heldInt64S_ev n a ha hm) (Ev.neg (by omega) (Ev.now _))
theorem FnExactParseTree : laws_FnExactParseTree.Pure := by
  intro a0 hm
  obtain ⟨w, rfl⟩ := S_of a0
  have hs := S_size w
  apply Ev.rounds
  unfold laws_FnExactParseTree.f
  by_cases c : ((S w).size : Int) > 1048576
  · exact Ev.pos c (Ev.now _)
  · have e1 := spec_ParseTree_ev w (by omega)
    have e2 := impl_ParseTree_ev w (by omega)
    have hb := readV_len w
    generalize readV w = R at e1 e2 hb
    have e3 := laws_eqTree_ev R.1 (by omega)
    have e4 := laws_markTree_ev R.1 1 (by omega) (by omega)
    have e5 := laws_heldTree_ev R.1.length 1 (by omega) (by omega)
    refine Ev.neg c ?_
    repeat' (first
      | exact Ev.now _
      | (with_reducible refine Ev.bind e1 ?_; try dsimp only)
      | (with_reducible refine Ev.bind e2 ?_; try dsimp only)
      | (with_reducible refine Ev.bind e3 ?_; try dsimp only)
      | (with_reducible refine Ev.bind e4 ?_; try dsimp only)
      | (with_reducible refine Ev.bind e5 ?_; try dsimp only)
      | ((with_reducible apply Ev.pos); (solve | rfl | trivial | omega))
      | ((with_reducible apply Ev.neg); (solve | omega | simp))
      | (apply Ev.succ; simp only [laws_FnExactParseTree.j0, laws_FnExactParseTree.j1]))

end Go.Proofs.Ytfffobnjdaogaaa.Pure
