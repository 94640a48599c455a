import Derived.Test.YtopejcaiabebpaaDoorB
import Derived.Test.YtopejcaiabebpaaDoorPAx1
import Derived.Test.YtopejcaiabebpaaDoorPAx11
import Derived.Test.YtopejcaiabebpaaDoorPAx2
import Derived.Test.YtopejcaiabebpaaDoorPAx3
import Derived.Test.YtopejcaiabebpaaDoorPAx4
import Derived.Test.YtopejcaiabebpaaDoorPAx6
import Derived.Test.YtopejcaiabebpaaDoorPL
import Derived.Test.YtopejcaiabebpaaDoorS2
import Derived.Test.YtopejcaiabebpaaDoorX
namespace Go.Proofs.YtopejcaiabebpaaDoor.PA
open Go.RowKit Go.Proofs.YtopejcaiabebpaaDoorW.PrintWords Go.Proofs.YtopejcaiabebpaaDoorW.PrintLast Go.Proofs.YtopejcaiabebpaaDoorW.PrintMore Go.Proofs.YtopejcaiabebpaaDoorPL
open Go.Proofs.YtopejcaiabebpaaDoorWS
set_option linter.unusedVariables false
set_option linter.unusedSimpArgs false
/-! ASCII -/
theorem ASCII_l0 {xs : List Int} (hx : Bytes xs) (hl : xs.length < 4611686018427387904) : ∀ (suf pre : List Int), xs = pre ++ suf → Ev (fun k => csp_ASCII.l0 k (st xs) (xs.length : Int) (pre.length : Int)) (asciiB suf)
  | [], pre, e => by
    have e1 := mid_end e
    refine Ev.step (fun k => by rw [csp_ASCII.l0]) ?_
    simp (maxSteps := 2000000) (disch := omega) only [w64, w32, wu64, st_size, st_nil, st_empty, List.length_append, List.length_cons, List.length_nil, List.length_take, List.length_drop]
    (repeat (first | (refine ev_pos (by first | assumption | omega | (simp (disch := omega) only [w64, st_size, List.length_append, List.length_cons, List.length_nil]; first | done | omega)) ?_) | (refine ev_neg (by first | assumption | omega | (simp (disch := omega) only [w64, st_size, List.length_append, List.length_cons, List.length_nil]; first | done | omega)) ?_)))
    exact Ev.now _
  | x :: suf, pre, e => by
    obtain ⟨e1, e2, e3⟩ := mid e
    refine Ev.step (fun k => by rw [csp_ASCII.l0]) ?_
    simp (maxSteps := 2000000) (disch := omega) only [w64, w32, wu64, st_size, st_nil, st_empty, List.length_append, List.length_cons, List.length_nil, List.length_take, List.length_drop]
    rw [mid_bt hx e]
    (repeat (first | (refine ev_pos (by first | assumption | omega | (simp (disch := omega) only [w64, st_size, List.length_append, List.length_cons, List.length_nil]; first | done | omega)) ?_) | (refine ev_neg (by first | assumption | omega | (simp (disch := omega) only [w64, st_size, List.length_append, List.length_cons, List.length_nil]; first | done | omega)) ?_)))
    by_cases h : x ≥ 128
    · rw [show asciiB (x :: suf) = false by simp [asciiB]; intro h'; omega]
      exact ev_pos h (Ev.now _)
    · rw [show asciiB (x :: suf) = asciiB suf by simp [asciiB]; intro _; omega]
      refine ev_neg h ?_
      rw [e2]
      exact ASCII_l0 hx hl suf _ e3
theorem ASCII_f {xs : List Int} (hx : Bytes xs) (hl : xs.length < 4611686018427387904) : Ev (fun k => csp_ASCII.f k (st xs)) (asciiB xs) := by
  unfold csp_ASCII.f
  rw [st_size]
  exact ASCII_l0 hx hl xs [] rfl
theorem rASCII_l0 {xs : List Int} (hx : Bytes xs) (hl : xs.length < 4611686018427387904) : ∀ (suf pre : List Int), xs = pre ++ suf → Ev (fun k => parapetref9_ASCII.l0 k (st xs) (pre.length : Int)) (asciiB suf)
  | [], pre, e => by
    have e1 := mid_end e
    refine Ev.step (fun k => by rw [parapetref9_ASCII.l0]) ?_
    simp (maxSteps := 2000000) (disch := omega) only [w64, w32, wu64, st_size, st_nil, st_empty, List.length_append, List.length_cons, List.length_nil, List.length_take, List.length_drop]
    (repeat (first | (refine ev_pos (by first | assumption | omega | (simp (disch := omega) only [w64, st_size, List.length_append, List.length_cons, List.length_nil]; first | done | omega)) ?_) | (refine ev_neg (by first | assumption | omega | (simp (disch := omega) only [w64, st_size, List.length_append, List.length_cons, List.length_nil]; first | done | omega)) ?_)))
    exact Ev.now _
  | x :: suf, pre, e => by
    obtain ⟨e1, e2, e3⟩ := mid e
    refine Ev.step (fun k => by rw [parapetref9_ASCII.l0]) ?_
    simp (maxSteps := 2000000) (disch := omega) only [w64, w32, wu64, st_size, st_nil, st_empty, List.length_append, List.length_cons, List.length_nil, List.length_take, List.length_drop]
    rw [mid_bt hx e]
    (repeat (first | (refine ev_pos (by first | assumption | omega | (simp (disch := omega) only [w64, st_size, List.length_append, List.length_cons, List.length_nil]; first | done | omega)) ?_) | (refine ev_neg (by first | assumption | omega | (simp (disch := omega) only [w64, st_size, List.length_append, List.length_cons, List.length_nil]; first | done | omega)) ?_)))
    by_cases h : x ≥ 128
    · rw [show asciiB (x :: suf) = false by simp [asciiB]; intro h'; omega]
      exact ev_pos h (Ev.now _)
    · rw [show asciiB (x :: suf) = asciiB suf by simp [asciiB]; intro _; omega]
      refine ev_neg h ?_
      rw [e2]
      exact rASCII_l0 hx hl suf _ e3
theorem rASCII_f {xs : List Int} (hx : Bytes xs) (hl : xs.length < 4611686018427387904) : Ev (fun k => parapetref9_ASCII.f k (st xs)) (asciiB xs) := by
  unfold parapetref9_ASCII.f
  exact rASCII_l0 hx hl xs [] rfl
/-! Blanks -/
theorem blank_index {c : Int} (h : 0 ≤ c ∧ c < 256) : (strings_IndexByte.f (⟨#[9, 10, 12, 13, 32]⟩ : ByteArray) c).map (fun t => decide (t ≥ 0)) = some (blB c) := byteAll (P := fun c => (strings_IndexByte.f (⟨#[9, 10, 12, 13, 32]⟩ : ByteArray) c).map (fun t => decide (t ≥ 0)) = some (blB c)) (by decide +kernel) h.1 h.2
theorem blank_bind {c : Int} (h : 0 ≤ c ∧ c < 256) {α : Type} (g : Bool → Option α) : ((strings_IndexByte.f (⟨#[9, 10, 12, 13, 32]⟩ : ByteArray) c).bind fun t => g (decide (t ≥ 0))) = g (blB c) := by
  have e := blank_index h
  cases hq : strings_IndexByte.f (⟨#[9, 10, 12, 13, 32]⟩ : ByteArray) c with
  | none => rw [hq] at e; cases e
  | some t =>
    rw [hq] at e
    have e2 : decide (t ≥ 0) = blB c := Option.some.inj e
    rw [Option.bind_some, e2]
/-- where a word began: its first byte, or none -/
def fromI (P cur : List Int) : Int := if cur = [] then -1 else (P.length : Int)
theorem blanksG_nil (cur : List Int) : blanksG cur [] = if cur = [] then [] else [cur] := rfl
theorem aBlanks_l0 {xs : List Int} (hx : Bytes xs) (hl : xs.length < 8796093022207) : ∀ (suf P cur : List Int) (acc : List ByteArray), xs = (P ++ cur) ++ suf → acc.length ≤ (P ++ cur).length →
    Ev (fun k => ascii_Blanks.l0 k (st xs) acc (fromI P cur) ((xs.length : Int) + 1) ((P ++ cur).length : Int)) (acc ++ (blanksG cur suf).map st)
  | [], P, cur, acc, e, ha => by
    have e1 := mid_end e
    have e2 : P.length ≤ (P ++ cur).length := by simp
    have fin : ∀ acc' (f : Int), Ev (fun k => ascii_Blanks.l0 k (st xs) acc' f ((xs.length : Int) + 1) (wrap64 (((P ++ cur).length : Int) + 1))) acc' := by
      intro acc' f
      rw [w64 (by omega) (by omega), e1]
      refine Ev.step (fun k => by rw [ascii_Blanks.l0]) ?_
      refine ev_neg (by omega) ?_
      exact Ev.now _
    refine Ev.step (fun k => by rw [ascii_Blanks.l0]) ?_
    refine ev_pos (by omega) (ev_pos (by rw [st_size]; exact e1) ?_)
    refine Ev.step (fun k => by rw [ascii_Blanks.j1]) ?_
    refine ev_pos rfl ?_
    refine Ev.step (fun k => by rw [ascii_Blanks.j2]) ?_
    refine ev_neg (by simp) (ev_pos rfl ?_)
    rw [blanksG_nil]
    by_cases h : cur = []
    · rw [if_pos h, fromI, if_pos h]
      refine ev_neg (by omega) ?_
      rw [List.map_nil, List.append_nil]
      exact fin _ _
    · rw [if_neg h, fromI, if_neg h]
      have ee : (st xs).extract P.length (P ++ cur).length = st cur := ext_mid e
      refine ev_pos (by omega) (ev_pos (by omega) (ev_pos (by omega) (ev_pos (by rw [st_size]; omega) (ev_pos (by omega) ?_))))
      rw [show (P.length : Int).toNat = P.length by omega, show ((P ++ cur).length : Int).toNat = (P ++ cur).length by omega, ee]
      exact fin _ _
  | x :: suf, P, cur, acc, e, ha => by
    obtain ⟨e1, e2, e3⟩ := mid e
    have e4 : P.length ≤ (P ++ cur).length := by simp
    have hb := mid_byte hx e
    refine Ev.step (fun k => by rw [ascii_Blanks.l0]) ?_
    refine ev_pos (by omega) (ev_neg (by rw [st_size]; omega) (ev_pos (by omega) (ev_pos (by rw [st_size]; omega) ?_)))
    rw [mid_bt hx e]
    refine Ev.congr (fun k => blank_bind hb (fun b => ascii_Blanks.j1 k (st xs) acc (fromI P cur) ((P ++ cur).length : Int) b ((xs.length : Int) + 1) ((P ++ cur).length : Int))) ?_
    rw [blanksG]
    refine Ev.step (fun k => by rw [ascii_Blanks.j1]) ?_
    have hw : wrap64 (((P ++ cur).length : Int) + 1) = ((P ++ cur ++ [x]).length : Int) := by rw [w64 (by omega) (by omega), e2]
    by_cases hbl : blB x = true
    · rw [if_pos hbl]
      refine ev_pos hbl ?_
      refine Ev.step (fun k => by rw [ascii_Blanks.j2]) ?_
      refine ev_neg (by simp) (ev_pos hbl ?_)
      rw [hw]
      by_cases h : cur = []
      · subst h
        rw [if_pos rfl, fromI, if_pos rfl]
        refine ev_neg (by omega) ?_
        have := aBlanks_l0 hx hl suf (P ++ [] ++ [x]) [] acc (by rw [List.append_nil]; exact e3) (by simp only [List.length_append, List.length_cons, List.length_nil] at ha ⊢; omega)
        rw [fromI, if_pos rfl, List.append_nil] at this
        exact this
      · rw [if_neg h, fromI, if_neg h]
        refine ev_pos (by omega) (ev_pos (by omega) (ev_pos (by omega) (ev_pos (by rw [st_size]; omega) (ev_pos (by omega) ?_))))
        rw [show (P.length : Int).toNat = P.length by omega, show ((P ++ cur).length : Int).toNat = (P ++ cur).length by omega, ext_mid e]
        have := aBlanks_l0 hx hl suf (P ++ cur ++ [x]) [] (acc ++ [st cur]) (by rw [List.append_nil]; exact e3) (by simp only [List.length_append, List.length_cons, List.length_nil] at ha ⊢; omega)
        rw [fromI, if_pos rfl, List.append_nil] at this
        rw [List.map_cons, show acc ++ st cur :: (blanksG [] suf).map st = (acc ++ [st cur]) ++ (blanksG [] suf).map st by simp]
        exact this
    · rw [if_neg hbl]
      refine ev_neg hbl ?_
      refine Ev.step (fun k => by rw [ascii_Blanks.j2]) ?_
      rw [hw]
      have ih := aBlanks_l0 hx hl suf P (cur ++ [x]) acc (by rw [← List.append_assoc P cur [x]]; exact e3) (by simp only [List.length_append, List.length_cons, List.length_nil] at ha ⊢; omega)
      rw [fromI, if_neg (by simp), ← List.append_assoc] at ih
      by_cases h : cur = []
      · subst h
        rw [show decide (fromI P [] < 0) = true by simp [fromI]]
        refine ev_pos rfl ?_
        rw [List.append_nil] at ih ⊢
        exact ih
      · rw [show decide (fromI P cur < 0) = false by simp [fromI, h]]
        refine ev_neg (by simp) (ev_neg hbl ?_)
        rw [fromI, if_neg h]
        exact ih
theorem aBlanks_f {xs : List Int} (hx : Bytes xs) (hl : xs.length < 8796093022207) : Ev (fun k => ascii_Blanks.f k (st xs)) ((blanksL xs).map st) := by
  unfold ascii_Blanks.f
  rw [st_size, w64 (by omega) (by omega)]
  exact aBlanks_l0 hx hl xs [] [] [] rfl (by simp)
theorem blB_eq (x : Int) : blB x = (x == 9 || x == 10 || x == 12 || x == 13 || x == 32) := by simp only [blB, List.contains_cons, List.contains_nil, Bool.or_false, Bool.or_assoc]
theorem rBlanks_go {xs : List Int} (hx : Bytes xs) (hl : xs.length < 8796093022207) (suf P cur : List Int) (acc : List ByteArray) (b : Bool) (r : List ByteArray)
    (e : (P ++ cur).length ≤ xs.length) (ha : acc.length ≤ (P ++ cur).length) (ee : (st xs).extract P.length (P ++ cur).length = st cur)
    (h1 : b = true → Ev (fun k => parapetref1_Blanks.l0 k (st xs) (if cur = [] then acc else acc ++ [st cur]) (-1) (((P ++ cur).length : Int) + 1)) r)
    (h2 : b = false → Ev (fun k => parapetref1_Blanks.l0 k (st xs) acc (P.length : Int) (((P ++ cur).length : Int) + 1)) r) :
    Ev (fun k => parapetref1_Blanks.j1 k (st xs) acc (fromI P cur) ((P ++ cur).length : Int) b) r := by
  have e4 : P.length ≤ (P ++ cur).length := by simp
  have hw : wrap64 (((P ++ cur).length : Int) + 1) = ((P ++ cur).length : Int) + 1 := by rw [w64 (by omega) (by omega)]
  refine Ev.step (fun k => by rw [parapetref1_Blanks.j1]) ?_
  cases b with
  | true =>
    refine ev_pos rfl ?_
    refine Ev.step (fun k => by rw [parapetref1_Blanks.j2]) ?_
    have h := h1 rfl
    by_cases hc : cur = []
    · rw [if_pos hc] at h
      rw [fromI, if_pos hc]
      refine ev_neg (by simp) (ev_pos rfl ?_)
      rw [hw]
      exact h
    · rw [if_neg hc] at h
      rw [fromI, if_neg hc]
      refine ev_pos (by simp) (ev_pos (by omega) (ev_pos (by omega) (ev_pos (by rw [st_size]; omega) (ev_pos (by omega) ?_))))
      rw [show (P.length : Int).toNat = P.length by omega, show ((P ++ cur).length : Int).toNat = (P ++ cur).length by omega, ee]
      refine ev_some (ev_pos rfl ?_)
      rw [hw]
      exact h
  | false =>
    refine ev_neg (by simp) ?_
    refine Ev.step (fun k => by rw [parapetref1_Blanks.j2]) ?_
    refine ev_neg (by simp) (ev_neg (by simp) ?_)
    rw [hw]
    have h := h2 rfl
    by_cases hc : cur = []
    · rw [fromI, if_pos hc]
      refine ev_pos (by omega) ?_
      rw [hc, List.append_nil] at h ⊢
      exact h
    · rw [fromI, if_neg hc]
      refine ev_neg (by omega) ?_
      exact h
theorem rBlanks_l0 {xs : List Int} (hx : Bytes xs) (hl : xs.length < 8796093022207) : ∀ (suf P cur : List Int) (acc : List ByteArray), xs = (P ++ cur) ++ suf → acc.length ≤ (P ++ cur).length →
    Ev (fun k => parapetref1_Blanks.l0 k (st xs) acc (fromI P cur) ((P ++ cur).length : Int)) (acc ++ (blanksG cur suf).map st)
  | [], P, cur, acc, e, ha => by
    have e1 := mid_end e
    refine Ev.step (fun k => by rw [parapetref1_Blanks.l0]) ?_
    refine ev_pos (by rw [st_size]; omega) (ev_pos (by rw [st_size]; exact e1) ?_)
    refine rBlanks_go hx hl [] P cur acc true _ (by omega) ha (ext_mid e) (fun _ => ?_) (fun h => by cases h)
    refine Ev.step (fun k => by rw [parapetref1_Blanks.l0]) ?_
    refine ev_neg (by rw [st_size]; omega) ?_
    rw [blanksG_nil]
    by_cases h : cur = []
    · rw [if_pos h, if_pos h, List.map_nil, List.append_nil]; exact Ev.now _
    · rw [if_neg h, if_neg h]; exact Ev.now _
  | x :: suf, P, cur, acc, e, ha => by
    obtain ⟨e1, e2, e3⟩ := mid e
    have hb := mid_byte hx e
    have hgo : Ev (fun k => parapetref1_Blanks.j1 k (st xs) acc (fromI P cur) ((P ++ cur).length : Int) (blB x)) (acc ++ (blanksG cur (x :: suf)).map st) := by
      rw [blanksG]
      refine rBlanks_go hx hl (x :: suf) P cur acc (blB x) _ (by omega) ha (ext_mid e) (fun h => ?_) (fun h => ?_)
      · rw [if_pos h, e2]
        by_cases hc : cur = []
        · subst hc
          rw [if_pos rfl, if_pos rfl]
          have := rBlanks_l0 hx hl suf (P ++ [] ++ [x]) [] acc (by rw [List.append_nil]; exact e3) (by simp only [List.length_append, List.length_cons, List.length_nil] at ha ⊢; omega)
          rw [fromI, if_pos rfl, List.append_nil] at this
          exact this
        · rw [if_neg hc, if_neg hc]
          have := rBlanks_l0 hx hl suf (P ++ cur ++ [x]) [] (acc ++ [st cur]) (by rw [List.append_nil]; exact e3) (by simp only [List.length_append, List.length_cons, List.length_nil] at ha ⊢; omega)
          rw [fromI, if_pos rfl, List.append_nil] at this
          rw [List.map_cons, show acc ++ st cur :: (blanksG [] suf).map st = (acc ++ [st cur]) ++ (blanksG [] suf).map st by simp]
          exact this
      · rw [if_neg (by rw [h]; simp), e2]
        have ih := rBlanks_l0 hx hl suf P (cur ++ [x]) acc (by rw [← List.append_assoc P cur [x]]; exact e3) (by simp only [List.length_append, List.length_cons, List.length_nil] at ha ⊢; omega)
        rw [fromI, if_neg (by simp), ← List.append_assoc] at ih
        exact ih
    refine Ev.step (fun k => by rw [parapetref1_Blanks.l0]) ?_
    refine ev_pos (by rw [st_size]; omega) (ev_neg (by rw [st_size]; omega) (ev_pos (by omega) (ev_pos (by rw [st_size]; omega) ?_)))
    rw [mid_bt hx e]
    rw [blB_eq] at hgo
    by_cases h1 : x = 9
    · refine ev_pos h1 ?_; subst h1; exact hgo
    refine ev_neg h1 ?_
    by_cases h2 : x = 10
    · refine ev_pos h2 ?_; subst h2; exact hgo
    refine ev_neg h2 ?_
    by_cases h3 : x = 12
    · refine ev_pos h3 ?_; subst h3; exact hgo
    refine ev_neg h3 ?_
    by_cases h4 : x = 13
    · refine ev_pos h4 ?_; subst h4; exact hgo
    refine ev_neg h4 ?_
    rw [beq_false_of_ne h1, beq_false_of_ne h2, beq_false_of_ne h3, beq_false_of_ne h4] at hgo
    exact hgo
theorem rBlanks_f {xs : List Int} (hx : Bytes xs) (hl : xs.length < 8796093022207) : Ev (fun k => parapetref1_Blanks.f k (st xs)) ((blanksL xs).map st) := by
  unfold parapetref1_Blanks.f
  exact rBlanks_l0 hx hl xs [] [] [] rfl (by simp)
/-! Texts, Total, Round -/
theorem Texts_l0 {l : List (List Int)} (hl : ∀ x ∈ l, Bytes x) {m : List (List Int)} (hm : ∀ x ∈ m, Bytes x) (he : l.length = m.length) (hn : l.length < 4611686018427387904) : ∀ (d i : Nat), l.length - i = d → i ≤ l.length → Ev (fun k => parapetalike_Texts.l0 k (l.map st) (m.map st) (i : Int)) (l.drop i == m.drop i)
  | 0, i, hd, hi => by
    have : i = l.length := by omega
    subst this
    refine Ev.step (fun k => by rw [parapetalike_Texts.l0]) ?_
    refine ev_neg (by rw [List.length_map]; omega) ?_
    rw [List.drop_length, he, List.drop_length]
    exact Ev.now _
  | d + 1, i, hd, hi => by
    have ih := Texts_l0 hl hm he hn d (i + 1) (by omega) (by omega)
    refine Ev.step (fun k => by rw [parapetalike_Texts.l0]) ?_
    refine ev_pos (by rw [List.length_map]; omega) (ev_pos (by omega) (ev_pos (by rw [List.length_map]; omega) ?_))
    rw [st_rdOf, st_rdOf, Int.toNat_natCast, w64 (by omega) (by omega), show (i : Int) + 1 = ((i + 1 : Nat) : Int) by omega]
    have c1 : l.drop i = l.getD i [] :: l.drop (i + 1) := by rw [List.drop_eq_getElem_cons (by omega), List.getD_eq_getElem?_getD, List.getElem?_eq_getElem (by omega)]; rfl
    have c2 : m.drop i = m.getD i [] :: m.drop (i + 1) := by rw [List.drop_eq_getElem_cons (by omega), List.getD_eq_getElem?_getD, List.getElem?_eq_getElem (by omega)]; rfl
    rw [c1, c2]
    by_cases h : l.getD i [] = m.getD i []
    · refine ev_pos (by rw [h]) ?_
      rw [h, show (m.getD i [] :: l.drop (i + 1) == m.getD i [] :: m.drop (i + 1)) = (l.drop (i + 1) == m.drop (i + 1)) by simp]
      exact ih
    · refine ev_neg (fun h2 => h ((toList_eq (getD_bytes hl i) (getD_bytes hm i)).1 h2)) ?_
      rw [show (l.getD i [] :: l.drop (i + 1) == m.getD i [] :: m.drop (i + 1)) = false by simp [-List.getD_eq_getElem?_getD]; intro h2; exact absurd h2 h]
      exact Ev.now _
theorem Texts_f {l : List (List Int)} (hl : ∀ x ∈ l, Bytes x) {m : List (List Int)} (hm : ∀ x ∈ m, Bytes x) (hn : l.length < 4611686018427387904) : Ev (fun k => parapetalike_Texts.f k (l.map st) (m.map st)) (l == m) := by
  unfold parapetalike_Texts.f
  by_cases he : l.length = m.length
  · refine ev_pos (by rw [List.length_map, List.length_map]; omega) ?_
    exact Texts_l0 hl hm he hn l.length 0 (by omega) (by omega)
  · refine ev_neg (by rw [List.length_map, List.length_map]; omega) ?_
    rw [show (l == m) = false by rw [beq_eq_false_iff_ne]; intro h; exact he (by rw [h])]
    exact Ev.now _
/-- what is counted is at least the sum of what was looked at, and no more than a bound is let through -/
theorem Total_l0 {l : List (List Int)} (hb : ∀ x ∈ l, x.length < 1152921504606846976) (hn : l.length < 4611686018427387904) (mx : Int) (h0 : 0 ≤ mx) (h1 : mx < 2305843009213693952) : ∀ (d i : Nat) (s : Int), l.length - i = d → i ≤ l.length → 0 ≤ s → s < 4611686018427387904 →
    ∃ r, Ev (fun k => parapetalike_Total.l0 k (l.map st) mx s (i : Int)) r ∧ 0 ≤ r ∧ r < 4611686018427387904 ∧ (r ≤ mx → r = s + (((l.drop i).map List.length).sum : Nat))
  | 0, i, s, hd, hi, hs, hs2 => by
    have : i = l.length := by omega
    subst this
    refine ⟨s, ?_, hs, hs2, fun _ => by simp⟩
    refine Ev.step (fun k => by rw [parapetalike_Total.l0]) ?_
    refine ev_neg (by rw [List.length_map]; omega) ?_
    exact Ev.now _
  | d + 1, i, s, hd, hi, hs, hs2 => by
    by_cases h : s ≤ mx
    · have c1 : l.drop i = l.getD i [] :: l.drop (i + 1) := by rw [List.drop_eq_getElem_cons (by omega), List.getD_eq_getElem?_getD, List.getElem?_eq_getElem (by omega)]; rfl
      have hlen : (l.getD i []).length < 1152921504606846976 := by
        rw [List.getD_eq_getElem?_getD, List.getElem?_eq_getElem (by omega)]
        exact hb _ (List.getElem_mem _)
      obtain ⟨r, hr, hr0, hr1, hr2⟩ := Total_l0 hb hn mx h0 h1 d (i + 1) (s + (l.getD i []).length) (by omega) (by omega) (by omega) (by omega)
      refine ⟨r, ?_, hr0, hr1, fun h => ?_⟩
      · refine Ev.step (fun k => by rw [parapetalike_Total.l0]) ?_
        refine ev_pos (by rw [List.length_map]; omega) (ev_pos h (ev_pos (by omega) ?_))
        rw [st_rdOf, Int.toNat_natCast, st_size, w64 (x := (i : Int) + 1) (by omega) (by omega), show (i : Int) + 1 = ((i + 1 : Nat) : Int) by omega, w64 (by omega) (by omega)]
        exact hr
      · rw [hr2 h, c1, List.map_cons, List.sum_cons]
        omega
    · refine ⟨s, ?_, hs, hs2, fun h2 => absurd h2 h⟩
      refine Ev.step (fun k => by rw [parapetalike_Total.l0]) ?_
      refine ev_pos (by rw [List.length_map]; omega) (ev_neg h ?_)
      exact Ev.now _
theorem Total_f {l : List (List Int)} (hb : ∀ x ∈ l, x.length < 1152921504606846976) (hn : l.length < 4611686018427387904) {mx : Int} (h0 : 0 ≤ mx) (h1 : mx < 2305843009213693952)  :
    ∃ r, Ev (fun k => parapetalike_Total.f k (l.map st) mx) r ∧ 0 ≤ r ∧ r < 4611686018427387904 ∧ (r ≤ mx → r = l.length + ((l.map List.length).sum : Nat)) := by
  unfold parapetalike_Total.f
  rw [List.length_map]
  exact Total_l0 hb hn mx h0 h1 l.length 0 l.length (by omega) (by omega) (by omega) (by omega)
theorem Round_f {a n : Int} (hn : 0 < n) (hn2 : n < 4611686018427387904) : ∃ r, parapetalike_Round.f a n = some r ∧ 0 ≤ r ∧ r < n ∧ r = a % n := by
  unfold parapetalike_Round.f
  have h1 := Int.tmod_lt_of_pos a hn
  have h2 : -n < Int.tmod a n := Int.lt_tmod_of_pos a hn
  have h3 : (Int.tmod a n) % n = a % n := by rw [Int.tmod_def, Int.sub_mul_emod_self_left]
  rw [if_neg (by omega)]
  by_cases h : Int.tmod a n < 0
  · rw [if_pos h, w64 (by omega) (by omega)]
    refine ⟨_, rfl, by omega, by omega, ?_⟩
    rw [← h3, ← Int.add_emod_right]
    exact (Int.emod_eq_of_lt (by omega) (by omega)).symm
  · rw [if_neg h]
    refine ⟨_, rfl, by omega, by omega, ?_⟩
    rw [← h3]
    exact (Int.emod_eq_of_lt (by omega) (by omega)).symm
end Go.Proofs.YtopejcaiabebpaaDoor.PA
