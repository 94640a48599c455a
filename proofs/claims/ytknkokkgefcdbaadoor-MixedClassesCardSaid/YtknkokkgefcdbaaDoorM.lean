import Derived.Test.YtknkokkgefcdbaaDoorPAx15
import Derived.Test.YtknkokkgefcdbaaDoorPAx20
import Derived.Test.YtknkokkgefcdbaaDoorPAx21
import Derived.Test.YtknkokkgefcdbaaDoorU3
import Derived.Test.YtknkokkgefcdbaaDoorXU
namespace Go.Proofs.YtknkokkgefcdbaaDoor.PA
open Go.RowKit Go.Proofs.YtknkokkgefcdbaaDoorW.PrintWords Go.Proofs.YtknkokkgefcdbaaDoorW.PrintLast Go.Proofs.YtknkokkgefcdbaaDoorW.PrintMore Go.Proofs.YtknkokkgefcdbaaDoorPL
open Go.Proofs.YtknkokkgefcdbaaDoorWS
set_option linter.unusedVariables false
set_option linter.unusedSimpArgs false
theorem Index_l0s {xs : List Int} (hx : Bytes xs) {ls : List (List Int)} (hl : ∀ x ∈ ls, Bytes x) (hn : ls.length < 1048576) : ∀ (d i : Nat), ls.length - i = d → i ≤ ls.length → ∃ r, Ev (fun k => slices_Index_string_string.l0 k (ls.map st) (st xs) (ls.length : Int) (i : Int)) r ∧ (decide (r ≥ 0)) = decide (xs ∈ ls.drop i)
  | 0, i, hd, hi => by
    have : i = ls.length := by omega
    subst this
    refine ⟨-1, ?_, by rw [List.drop_length]; rfl⟩
    refine Ev.step (fun k => by rw [slices_Index_string_string.l0]) ?_
    exact ev_neg (by omega) (Ev.now _)
  | d + 1, i, hd, hi => by
    have hil : i < ls.length := by omega
    obtain ⟨r, hr, h2⟩ := Index_l0s hx hl hn d (i + 1) (by omega) (by omega)
    rw [show ((i + 1 : Nat) : Int) = (i : Int) + 1 by omega] at hr
    have hd2 : ls.drop i = ls.getD i [] :: ls.drop (i + 1) := by rw [List.drop_eq_getElem_cons hil, List.getD_eq_getElem?_getD, List.getElem?_eq_getElem hil]; rfl
    by_cases h : xs = ls.getD i []
    · refine ⟨(i : Int), ?_, ?_⟩
      · refine Ev.step (fun k => by rw [slices_Index_string_string.l0]) ?_
        refine ev_pos (by omega) (ev_pos (by omega) (ev_pos (by rw [List.length_map]; omega) ?_))
        rw [st_rdOf, Int.toNat_natCast]
        exact ev_pos (by rw [h]) (Ev.now _)
      · rw [hd2, h]; simp
    · refine ⟨r, ?_, ?_⟩
      · refine Ev.step (fun k => by rw [slices_Index_string_string.l0]) ?_
        refine ev_pos (by omega) (ev_pos (by omega) (ev_pos (by rw [List.length_map]; omega) ?_))
        rw [st_rdOf, Int.toNat_natCast, w64 (by omega) (by omega)]
        exact ev_neg (fun e => h ((toList_eq hx (getD_bytes hl i)).1 e)) hr
      · rw [h2, hd2]; simp [-List.getD_eq_getElem?_getD, h]
theorem Any_f {xs : List Int} (hx : Bytes xs) {ls : List (List Int)} (hl : ∀ x ∈ ls, Bytes x) (hn : ls.length < 1048576) : Ev (fun k => ascii_Any.f k (st xs) (ls.map st)) (decide (xs ∈ ls)) := by
  obtain ⟨r, hr, h2⟩ := Index_l0s hx hl hn _ 0 rfl (by omega)
  rw [List.drop_zero] at h2
  unfold ascii_Any.f slices_Contains_string_string.f slices_Index_string_string.f
  rw [List.length_map]
  rw [← h2]
  exact Ev.bind (Ev.bind hr (Ev.now _)) (Ev.now _)
theorem rows_bytes {ls : List (List Int)} (h : ls.all (fun l => l.all (fun c => decide (0 ≤ c) && decide (c < 256))) = true) : ∀ x ∈ ls, Bytes x := fun x hx => bytes_lit (List.all_eq_true.1 h x hx)
theorem uDefault_f {xs : List Int} (hx : Bytes xs) : Ev (fun k => url_Default.f k (st xs)) (dflt xs) := by
  have e1 : (st xs).toList = [104, 116, 116, 112] ↔ xs = [104, 116, 116, 112] := st_lit hx _ (bytes_lit (by decide)) _ (by rw [Lib.toList_data]; rfl)
  have e2 : (st xs).toList = [119, 115] ↔ xs = [119, 115] := st_lit hx _ (bytes_lit (by decide)) _ (by rw [Lib.toList_data]; rfl)
  have e3 : (st xs).toList = [104, 116, 116, 112, 115] ↔ xs = [104, 116, 116, 112, 115] := st_lit hx _ (bytes_lit (by decide)) _ (by rw [Lib.toList_data]; rfl)
  have e4 : (st xs).toList = [119, 115, 115] ↔ xs = [119, 115, 115] := st_lit hx _ (bytes_lit (by decide)) _ (by rw [Lib.toList_data]; rfl)
  have e5 : (st xs).toList = [102, 116, 112] ↔ xs = [102, 116, 112] := st_lit hx _ (bytes_lit (by decide)) _ (by rw [Lib.toList_data]; rfl)
  have b3 : ((st xs).toList == [104, 116, 116, 112, 115]) = decide (xs = [104, 116, 116, 112, 115]) := by rw [Bool.eq_iff_iff, beq_iff_eq, decide_eq_true_iff]; exact e3
  have b4 : ((st xs).toList == [119, 115, 115]) = decide (xs = [119, 115, 115]) := by rw [Bool.eq_iff_iff, beq_iff_eq, decide_eq_true_iff]; exact e4
  have b1 : ((st xs).toList == [104, 116, 116, 112]) = decide (xs = [104, 116, 116, 112]) := by rw [Bool.eq_iff_iff, beq_iff_eq, decide_eq_true_iff]; exact e1
  have b2 : ((st xs).toList == [119, 115]) = decide (xs = [119, 115]) := by rw [Bool.eq_iff_iff, beq_iff_eq, decide_eq_true_iff]; exact e2
  have j1 : ∀ b : Bool, (xs = [104, 116, 116, 112, 115] ∨ xs = [119, 115, 115] ↔ b = true) → Ev (fun k => url_Default.j1 k (st xs) b) (if xs = [104, 116, 116, 112, 115] ∨ xs = [119, 115, 115] then (443, true) else if xs = [102, 116, 112] then (21, true) else (0, false)) := by
    intro b hb
    refine Ev.step (fun k => by rw [url_Default.j1]) ?_
    cases b with
    | true => rw [if_pos (hb.2 rfl)]; exact ev_pos rfl (Ev.now _)
    | false =>
      have hn : ¬ (xs = [104, 116, 116, 112, 115] ∨ xs = [119, 115, 115]) := fun h => by have := hb.1 h; cases this
      rw [if_neg hn]
      refine ev_neg (by simp) ?_
      by_cases h : xs = [102, 116, 112]
      · rw [if_pos h]; exact ev_pos (e5.2 h) (Ev.now _)
      · rw [if_neg h]; exact ev_neg (fun x => h (e5.1 x)) (Ev.now _)
  have j0 : ∀ b : Bool, (xs = [104, 116, 116, 112] ∨ xs = [119, 115] ↔ b = true) → Ev (fun k => url_Default.j0 k (st xs) b) (dflt xs) := by
    intro b hb
    unfold dflt
    refine Ev.step (fun k => by rw [url_Default.j0]) ?_
    cases b with
    | true => rw [if_pos (hb.2 rfl)]; exact ev_pos rfl (Ev.now _)
    | false =>
      have hn : ¬ (xs = [104, 116, 116, 112] ∨ xs = [119, 115]) := fun h => by have := hb.1 h; cases this
      rw [if_neg hn]
      refine ev_neg (by simp) ?_
      by_cases h : xs = [104, 116, 116, 112, 115]
      · refine ev_pos (e3.2 h) ?_
        exact j1 _ (by rw [b3, decide_eq_true_iff]; exact ⟨fun _ => h, fun x => .inl x⟩)
      · refine ev_neg (fun x => h (e3.1 x)) ?_
        exact j1 _ (by rw [b4, decide_eq_true_iff]; exact ⟨fun x => x.elim (fun y => absurd y h) id, .inr⟩)
  unfold url_Default.f
  by_cases h : xs = [104, 116, 116, 112]
  · refine ev_pos (e1.2 h) ?_
    exact j0 _ (by rw [b1, decide_eq_true_iff]; exact ⟨fun _ => h, fun x => .inl x⟩)
  · refine ev_neg (fun x => h (e1.1 x)) ?_
    exact j0 _ (by rw [b2, decide_eq_true_iff]; exact ⟨fun x => x.elim (fun y => absurd y h) id, .inr⟩)
/-- a URL's port -/
def portV (sc : List Int) (po : Int) : Int := if po = -1 then (dflt sc).1 else po
theorem uPort_f {sc us ps h pa qf ff : List Int} (hs : Bytes sc) (po : Int) (qb fb : Bool) : Ev (fun k => url_Port.f k (st sc) (st us) (st ps) (st h) po (st pa) qb (st qf) fb (st ff)) (portV sc po) := by
  unfold url_Port.f portV
  by_cases e : po = -1
  · rw [if_pos e]; exact ev_pos e (Ev.bind (uDefault_f hs) (Ev.now _))
  · rw [if_neg e]; exact ev_neg e (Ev.now _)
theorem uOf_f {sc us ps h pa qf ff : List Int} (hs : Bytes sc) (po : Int) (qb fb : Bool) : Ev (fun k => origin_Of.f k (st sc) (st us) (st ps) (st h) po (st pa) qb (st qf) fb (st ff)) (st sc, st h, portV sc po) := by
  unfold origin_Of.f
  exact Ev.bind (uPort_f hs po qb fb) (Ev.now _)
def endsB (xs t : List Int) : Bool := decide (t.length ≤ xs.length) && xs.drop (xs.length - t.length) == t
theorem drop_beq {xs t : List Int} (hx : Bytes xs) (ht : Bytes t) : ((st xs).toList == (st t).toList) = (xs == t) := by
  rw [Bool.eq_iff_iff, beq_iff_eq, beq_iff_eq]; exact toList_eq hx ht
theorem ends_gen {xs t : List Int} (hx : Bytes xs) (ht : Bytes t) (hl : xs.length < 4611686018427387904) : (if ((st xs).size : Int) ≥ ((st t).size : Int) then (if 0 ≤ (wrap64 (((st xs).size : Int) - ((st t).size : Int))) then (if (wrap64 (((st xs).size : Int) - ((st t).size : Int))) ≤ ((st xs).size : Int) then (some (((st xs).extract ((wrap64 (((st xs).size : Int) - ((st t).size : Int))) : Int).toNat (st xs).size).toList == (st t).toList)) else (none)) else (none)) else (some false)) = some (endsB xs t) := by
  unfold endsB
  by_cases h : t.length ≤ xs.length
  · rw [if_pos (by rw [st_size, st_size]; omega)]
    rw [show wrap64 (((st xs).size : Int) - ((st t).size : Int)) = ((xs.length - t.length : Nat) : Int) by rw [st_size, st_size, w64 (by omega) (by omega)]; omega]
    rw [if_pos (by omega), if_pos (by rw [st_size]; omega), Int.toNat_natCast, st_extr, drop_beq (hx.drop _) ht, decide_eq_true h, Bool.true_and]
  · rw [if_neg (by rw [st_size, st_size]; omega), decide_eq_false h, Bool.false_and]
theorem HasSuffix_f {xs t : List Int} (hx : Bytes xs) (ht : Bytes t) (hl : xs.length < 4611686018427387904) : strings_HasSuffix.f (st xs) (st t) = some (endsB xs t) := by
  unfold strings_HasSuffix.f stringslite_HasSuffix.f
  rw [ends_gen hx ht hl]; rfl
/-- may it be trusted? -/
def trustB (sc h : List Int) : Bool := decide (sc ∈ [[104, 116, 116, 112, 115], [119, 115, 115]]) || ((match addrL h with | some a => decide (a / 16777216 = 127) | none => false) || (h == [108, 111, 99, 97, 108, 104, 111, 115, 116] || endsB h [46, 108, 111, 99, 97, 108, 104, 111, 115, 116]))
theorem tail_gen {h : List Int} (hh : Bytes h) (hl : h.length < 1048576) {f : ByteArray → ByteArray → Option Bool} (hf : f (st h) (⟨#[46, 108, 111, 99, 97, 108, 104, 111, 115, 116]⟩ : ByteArray) = some (endsB h [46, 108, 111, 99, 97, 108, 104, 111, 115, 116])) :
    (if (resV (addrL h)).2 = true then (if ((resV (addrL h)).1 / 16777216) = 127 then (some true) else (if (st h).toList = ([108, 111, 99, 97, 108, 104, 111, 115, 116] : List UInt8) then (some true) else ((f (st h) (⟨#[46, 108, 111, 99, 97, 108, 104, 111, 115, 116]⟩ : ByteArray)).bind fun t293 => (some t293)))) else (if (st h).toList = ([108, 111, 99, 97, 108, 104, 111, 115, 116] : List UInt8) then (some true) else ((f (st h) (⟨#[46, 108, 111, 99, 97, 108, 104, 111, 115, 116]⟩ : ByteArray)).bind fun t294 => (some t294)))) = some ((match addrL h with | some a => decide (a / 16777216 = 127) | none => false) || (h == [108, 111, 99, 97, 108, 104, 111, 115, 116] || endsB h [46, 108, 111, 99, 97, 108, 104, 111, 115, 116])) := by
  have e1 : (st h).toList = [108, 111, 99, 97, 108, 104, 111, 115, 116] ↔ h = [108, 111, 99, 97, 108, 104, 111, 115, 116] := st_lit hh _ (bytes_lit (by decide)) _ (by rw [Lib.toList_data]; rfl)
  have fin : (if (st h).toList = ([108, 111, 99, 97, 108, 104, 111, 115, 116] : List UInt8) then (some true) else ((f (st h) (⟨#[46, 108, 111, 99, 97, 108, 104, 111, 115, 116]⟩ : ByteArray)).bind fun t293 => (some t293))) = some (h == [108, 111, 99, 97, 108, 104, 111, 115, 116] || endsB h [46, 108, 111, 99, 97, 108, 104, 111, 115, 116]) := by
    by_cases e : h = [108, 111, 99, 97, 108, 104, 111, 115, 116]
    · rw [if_pos (e1.2 e), beq_iff_eq.2 e]; rfl
    · rw [if_neg (fun x => e (e1.1 x)), hf, beq_false_of_ne e]; rfl
  rw [fin]
  cases ha : addrL h with
  | none => rw [if_neg (show ¬ (resV none).2 = true by decide)]; rfl
  | some a =>
    rw [if_pos (show (resV (some a)).2 = true from rfl)]
    show (if a / 16777216 = 127 then _ else _) = some (decide (a / 16777216 = 127) || _)
    by_cases h2 : a / 16777216 = 127
    · rw [if_pos h2, decide_eq_true h2]; rfl
    · rw [if_neg h2, decide_eq_false h2]; rfl
theorem local_bytes : Bytes [46, 108, 111, 99, 97, 108, 104, 111, 115, 116] := bytes_lit (by decide)
theorem Trusted_f {sc h : List Int} (hs : Bytes sc) (hh : Bytes h) (hl : h.length < 1048576) (po : Int) : Ev (fun k => origin_Trusted.f k (st sc) (st h) po) (trustB sc h) := by
  have hA := Any_f hs (ls := [[104, 116, 116, 112, 115], [119, 115, 115]]) (rows_bytes (by decide)) (by decide)
  unfold origin_Trusted.f trustB
  refine Ev.bind hA ?_
  by_cases c : sc ∈ [[104, 116, 116, 112, 115], [119, 115, 115]]
  · rw [decide_eq_true c]
    exact ev_pos rfl (Ev.now _)
  · rw [decide_eq_false c, Bool.false_or]
    refine ev_neg (by simp) (Ev.bind (Address_f hh hl) ?_)
    rw [tail_gen hh hl (f := strings_HasSuffix.f) (HasSuffix_f hh local_bytes (by omega))]
    exact Ev.now _
theorem Secure_f {sc us ps h pa qf ff : List Int} (hs : Bytes sc) (hh : Bytes h) (hl : h.length < 1048576) (po : Int) (qb fb : Bool) : Ev (fun k => origin_Secure.f k (st sc) (st us) (st ps) (st h) po (st pa) qb (st qf) fb (st ff)) (trustB sc h) := by
  unfold origin_Secure.f
  exact Ev.bind (uOf_f hs po qb fb) (Ev.bind (Trusted_f hs hh hl _) (Ev.now _))
/-- what a document may do with a URL -/
def classV (d sc h dest : List Int) : Int :=
  if decide (d ∈ [[104, 116, 116, 112, 115], [119, 115, 115]]) = true ∧ trustB sc h = false ∧ dest ≠ [100, 111, 99, 117, 109, 101, 110, 116] then
    (if dest ∈ [[105, 109, 97, 103, 101], [97, 117, 100, 105, 111], [118, 105, 100, 101, 111]] then (if (addrL h).isSome = true then 2 else 1) else 2) else 0
theorem resV_some (r : Option Int) : (resV r).2 = r.isSome := by cases r <;> rfl
theorem Class_j0 {dest : List Int} (hd : Bytes dest) (b c : Bool) : Ev (fun k => mixed_Class.j0 k (st dest) b c) (if c = true then 0 else if dest ∈ [[105, 109, 97, 103, 101], [97, 117, 100, 105, 111], [118, 105, 100, 101, 111]] then (if b = true then 2 else 1) else 2) := by
  have hA := Any_f hd (ls := [[105, 109, 97, 103, 101], [97, 117, 100, 105, 111], [118, 105, 100, 101, 111]]) (rows_bytes (by decide)) (by decide)
  refine Ev.step (fun k => by rw [mixed_Class.j0]) ?_
  cases c with
  | true => exact ev_pos rfl (Ev.now _)
  | false =>
    refine ev_neg (show ¬ (false = true) by decide) (Ev.bind hA ?_)
    by_cases e : dest ∈ [[105, 109, 97, 103, 101], [97, 117, 100, 105, 111], [118, 105, 100, 101, 111]]
    · rw [decide_eq_true e]
      refine ev_pos rfl ?_
      rw [show (if false = true then (0 : Int) else if dest ∈ [[105, 109, 97, 103, 101], [97, 117, 100, 105, 111], [118, 105, 100, 101, 111]] then (if b = true then 2 else 1) else 2) = if b = true then 2 else 1 by rw [if_neg (show ¬ (false = true) by decide), if_pos e]]
      cases b with
      | true => exact ev_pos rfl (Ev.now _)
      | false => exact ev_neg (show ¬ (false = true) by decide) (Ev.now _)
    · rw [decide_eq_false e]
      refine ev_neg (show ¬ (false = true) by decide) ?_
      rw [if_neg (show ¬ (false = true) by decide), if_neg e]
      exact Ev.now _
theorem doc_beq {dest : List Int} (hd : Bytes dest) : ((st dest).toList == ([100, 111, 99, 117, 109, 101, 110, 116] : List UInt8)) = decide (dest = [100, 111, 99, 117, 109, 101, 110, 116]) := by
  rw [Bool.eq_iff_iff, beq_iff_eq, decide_eq_true_iff]
  exact st_lit hd _ (bytes_lit (by decide)) _ (by rw [Lib.toList_data]; rfl)
theorem Class_f {d x sc us ps h pa qf ff dest : List Int} (hd : Bytes d) (hs : Bytes sc) (hh : Bytes h) (hl : h.length < 1048576) (hde : Bytes dest) (p po : Int) (qb fb : Bool) :
    Ev (fun k => mixed_Class.f k (st d) (st x) p (st sc) (st us) (st ps) (st h) po (st pa) qb (st qf) fb (st ff) (st dest)) (classV d sc h dest) := by
  have hA := Any_f hd (ls := [[104, 116, 116, 112, 115], [119, 115, 115]]) (rows_bytes (by decide)) (by decide)
  unfold mixed_Class.f classV
  refine Ev.bind (Address_f hh hl) (Ev.bind hA ?_)
  rw [resV_some]
  by_cases c : d ∈ [[104, 116, 116, 112, 115], [119, 115, 115]]
  · rw [decide_eq_true c]
    refine ev_pos rfl (Ev.bind (Secure_f hs hh hl po qb fb) ?_)
    have hj := Class_j0 hde (addrL h).isSome
    cases ht : trustB sc h with
    | true =>
      rw [if_neg (show ¬ (true = true ∧ true = false ∧ dest ≠ [100, 111, 99, 117, 109, 101, 110, 116]) by simp)]
      exact ev_pos rfl (hj true)
    | false =>
      refine ev_neg (by simp) ?_
      rw [doc_beq hde]
      by_cases e : dest = [100, 111, 99, 117, 109, 101, 110, 116]
      · rw [if_neg (fun x => x.2.2 e), decide_eq_true e]
        exact hj true
      · rw [if_pos ⟨rfl, rfl, e⟩, decide_eq_false e]
        exact hj false
  · rw [decide_eq_false c, if_neg (fun x => by cases x.1)]
    refine ev_neg (by simp) ?_
    exact Class_j0 hde _ (!false)
end Go.Proofs.YtknkokkgefcdbaaDoor.PA
