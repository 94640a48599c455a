import Derived.Test.YtknkokkgefcdbaaDoorD
import Derived.Test.YtknkokkgefcdbaaDoorPAx13
import Derived.Test.YtknkokkgefcdbaaDoorPAx19
namespace Go.Proofs.YtknkokkgefcdbaaDoor.PA
open Go.RowKit Go.Proofs.YtknkokkgefcdbaaDoorW.PrintWords Go.Proofs.YtknkokkgefcdbaaDoorW.PrintLast Go.Proofs.YtknkokkgefcdbaaDoorW.PrintMore Go.Proofs.YtknkokkgefcdbaaDoorPL
open Go.Proofs.YtknkokkgefcdbaaDoorWS (lowB lowerL hexv decodeL splitL partsL digitsB hexP accV baseV restV partV numL numberL numericB decD textL forbB hostL addrL domainB resV)
set_option linter.unusedVariables false
set_option linter.unusedSimpArgs false
theorem last_st {ps : List (List Int)} (h : ps ≠ []) (hl : ps.length < 4611686018427387904) : rdOf ByteArray.empty (ps.map st) (wrap64 (((ps.map st).length : Int) - 1)) = st (ps.getLastD []) := by
  have hp : 0 < ps.length := List.length_pos_iff.2 h
  rw [List.length_map, w64 (by omega) (by omega), st_rdOf, show ((ps.length : Int) - 1).toNat = ps.length - 1 by omega, last_get (List.getLast?_eq_some_getLast h), List.getLastD_eq_getLast?, List.getLast?_eq_some_getLast h]
  rfl
theorem lastD_mem {ps : List (List Int)} (h : ps ≠ []) : ps.getLastD [] ∈ ps := by
  rw [List.getLastD_eq_getLast?, List.getLast?_eq_some_getLast h]
  exact List.getLast_mem h
theorem parts_last {xs : List Int} (hx : Bytes xs) : Bytes ((partsL xs).getLastD []) ∧ ((partsL xs).getLastD []).length ≤ xs.length :=
  have h := partsL_mem (lastD_mem (partsL_ne xs))
  ⟨splitL_bytes hx _ h, splitL_short _ h⟩
theorem numberL_range {xs : List Int} {n : Int} (h : numberL xs = some n) : 0 ≤ n ∧ n < 4294967296 := by
  unfold numberL at h
  split at h
  · cases h
  · have := numL_range (by omega) (by omega) h
    simpa using this
def stR : Option (List Int) → ByteArray × Int
  | none => (st [], 8)
  | some h => (st h, 0)
def finL (d : List Int) : Option (List Int) := if numericB ((partsL d).getLastD []) then (numberL d).map textL else some d
theorem hostL_eq (xs : List Int) : hostL xs = if lowerL (decodeL xs) = [] then none else if (lowerL (decodeL xs)).any forbB = true then none else finL (lowerL (decodeL xs)) := by
  unfold hostL finL
  by_cases h1 : lowerL (decodeL xs) = []
  · rw [if_pos (Or.inl h1), if_pos h1]
  · rw [if_neg h1]
    by_cases h2 : (lowerL (decodeL xs)).any forbB = true
    · rw [if_pos (Or.inr h2), if_pos h2]
    · rw [if_neg (by simp [h1, h2]), if_neg h2]
theorem dec_low_bytes {xs : List Int} (hx : Bytes xs) : Bytes (lowerL (decodeL xs)) := lowerL_bytes (decodeL_bytes hx)
theorem dec_low_length (xs : List Int) : (lowerL (decodeL xs)).length ≤ xs.length := by rw [lowerL_length]; exact decodeL_length xs
/-! the document's own -/
theorem dig10_nohex {xs : List Int} (h : digitsB 10 xs = true) : hexP xs = false := by
  match xs, h with
  | [], _ => rfl
  | [_], _ => rfl
  | a :: b :: t, h =>
    have := (digitsB_cons (digitsB_cons h).2).1
    rw [hexP_cons]
    by_cases h1 : b = 120
    · subst h1; exact absurd this (by decide)
    · by_cases h2 : b = 88
      · subst h2; exact absurd this (by decide)
      · simp [h1, h2]
theorem hexP_true {xs : List Int} (h : hexP xs = true) : ∃ b t, xs = 48 :: b :: t ∧ (b = 120 ∨ b = 88) := by
  match xs, h with
  | a :: b :: t, h =>
    rw [hexP_cons, Bool.and_eq_true, Bool.or_eq_true, beq_iff_eq, beq_iff_eq, beq_iff_eq] at h
    exact ⟨b, t, by rw [h.1], h.2⟩
theorem rnumeric_f {xs : List Int} (hx : Bytes xs) (hl : xs.length < 1048576) : Ev (fun k => parapetref9_numeric.f k (st xs)) (numericB ((partsL xs).getLastD [])) := by
  have hp := partsL_length xs
  have hq : 0 < (partsL xs).length := List.length_pos_iff.2 (partsL_ne xs)
  obtain ⟨hb, hs⟩ := parts_last hx
  unfold parapetref9_numeric.f
  refine Ev.bind (rparts_f hx hl) ?_
  rw [last_st (partsL_ne xs) (by omega), List.length_map, w64 (x := ((partsL xs).length : Int) - 1) (by omega) (by omega)]
  generalize (partsL xs).getLastD [] = p at hb hs ⊢
  refine ev_pos (by omega) (ev_pos (by omega) ?_)
  refine Ev.bind (rdigits_f 10 hb (by omega)) ?_
  unfold numericB
  by_cases h1 : (digitsB 10 p && p != []) = true
  · refine ev_pos h1 ?_
    rw [Bool.and_eq_true] at h1
    rw [if_neg (by rw [dig10_nohex h1.1]; simp), h1.1, h1.2]
    exact Ev.now _
  · refine ev_neg h1 ?_
    cases hh : hexP p with
    | true =>
      obtain ⟨b, t, rfl, h2⟩ := hexP_true hh
      have hz : ((st (48 :: b :: t)).size : Int) = (t.length : Int) + 1 + 1 := by rw [st_size]; simp
      have et : Ev (fun k => if ((st (48 :: b :: t)).size : Int) = 2 then some true else if 2 ≤ ((st (48 :: b :: t)).size : Int) then (parapetref9_digits.f k ((st (48 :: b :: t)).extract 2 (st (48 :: b :: t)).size) 16).bind fun t345 => some t345 else none) (digitsB 16 t) := by
        by_cases h0 : t = []
        · subst h0
          exact ev_pos (by rw [hz]; rfl) (Ev.now _)
        · have : 0 < t.length := List.length_pos_iff.2 h0
          refine ev_neg (by omega) (ev_pos (by omega) ?_)
          rw [st_extr]
          have hd := rdigits_f 16 (xs := t) hb.tail.tail (by simp at hs; omega)
          rw [show (digitsB 16 t && t != []) = digitsB 16 t by simp [h0]] at hd
          exact Ev.bind hd (Ev.now _)
      refine ev_pos (by omega) (ev_pos (by omega) ?_)
      rw [bt_0 hb, bt_1 hb]
      refine ev_pos rfl (ev_pos (by omega) ?_)
      rw [if_pos rfl]
      by_cases h3 : b = 120
      · exact ev_pos h3 et
      · exact ev_neg h3 (ev_pos (h2.resolve_left h3) et)
    | false =>
      rw [if_neg (by simp), show (p != [] && digitsB 10 p) = false by rw [Bool.and_comm]; simpa using h1]
      match p, hb, hh with
      | [], hb, _ => exact ev_neg (by rw [st_size]; simp) (Ev.now _)
      | [_], hb, _ => exact ev_neg (by rw [st_size]; simp) (Ev.now _)
      | a :: b :: t, hb, hh =>
        have hz : ((st (a :: b :: t)).size : Int) = (t.length : Int) + 1 + 1 := by rw [st_size]; simp
        rw [hexP_cons] at hh
        refine ev_pos (by omega) (ev_pos (by omega) ?_)
        rw [bt_0 hb, bt_1 hb]
        by_cases h3 : a = 48
        · refine ev_pos h3 (ev_pos (by omega) (ev_neg (fun x => by simp [h3, x] at hh) (ev_neg (fun x => by simp [h3, x] at hh) (Ev.now _))))
        · exact ev_neg h3 (Ev.now _)
theorem rHost_l0 {d : List Int} (hd : Bytes d) (hl : d.length < 1048576) : ∀ (suf pre : List Int), d = pre ++ suf → Ev (fun k => parapetref9_Host.l0 k (st d) (pre.length : Int)) (stR (if suf.any forbB = true then none else finL d))
  | [], pre, e => by
    have e1 := mid_end e
    refine Ev.step (fun k => by rw [parapetref9_Host.l0]) ?_
    refine ev_neg (by rw [st_size]; omega) ?_
    refine Ev.bind (rnumeric_f hd hl) ?_
    rw [if_neg (by simp)]
    unfold finL
    cases hn : numericB ((partsL d).getLastD []) with
    | false => exact ev_neg (by simp) (Ev.now _)
    | true =>
      refine ev_pos rfl ?_
      refine Ev.bind (rNumber_f hd hl) ?_
      cases hv : numberL d with
      | none => exact ev_neg (by simp [resV]) (Ev.now _)
      | some n =>
        refine ev_pos rfl ?_
        exact Ev.bind (rAddress_f (numberL_range hv).1 (numberL_range hv).2) (Ev.now _)
  | x :: suf, pre, e => by
    obtain ⟨e1, e2, e3⟩ := mid e
    have hb := mid_byte hd e
    have ih := rHost_l0 hd hl suf _ e3
    rw [← e2] at ih
    refine Ev.step (fun k => by rw [parapetref9_Host.l0]) ?_
    refine ev_pos (by rw [st_size]; omega) (ev_pos (by omega) ?_)
    rw [mid_bt hd e, w64 (x := (pre.length : Int) + 1) (by omega) (by omega), List.any_cons]
    unfold forbB
    by_cases h1 : x ≤ 32
    · rw [decide_eq_true h1]
      exact ev_pos h1 (Ev.now _)
    · refine ev_neg h1 ?_
      rw [decide_eq_false h1]
      by_cases h2 : x ≥ 127
      · rw [decide_eq_true h2]
        exact ev_pos h2 (Ev.now _)
      · refine ev_neg h2 ?_
        rw [decide_eq_false h2, Bool.false_or, Bool.false_or, show (⟨#[35, 37, 47, 58, 60, 62, 63, 64, 91, 92, 93, 94, 124]⟩ : ByteArray) = st [35, 37, 47, 58, 60, 62, 63, 64, 91, 92, 93, 94, 124] from rfl]
        refine Ev.bind (Has_f x (by unfold Bytes; decide) (by decide)) ?_
        rw [show ([35, 37, 47, 58, 60, 62, 63, 64, 91, 92, 93, 94, 124] : List Int).contains x = decide (x ∈ ([35, 37, 47, 58, 60, 62, 63, 64, 91, 92, 93, 94, 124] : List Int)) from List.contains_eq_mem _ _]
        cases hf : decide (x ∈ ([35, 37, 47, 58, 60, 62, 63, 64, 91, 92, 93, 94, 124] : List Int)) with
        | true => exact ev_pos rfl (Ev.now _)
        | false => exact ev_neg (by simp) ih
theorem rHost_f {xs : List Int} (hx : Bytes xs) (hl : xs.length < 1048576) : Ev (fun k => parapetref9_Host.f k (st xs)) (stR (hostL xs)) := by
  have hd := dec_low_bytes hx
  have hdl := dec_low_length xs
  unfold parapetref9_Host.f
  rw [hostL_eq]
  refine Ev.bind (rDecode_f hx (by omega)) ?_
  refine Ev.bind (rLower_f (decodeL_bytes hx) (by have := decodeL_length xs; omega)) ?_
  by_cases h : lowerL (decodeL xs) = []
  · rw [if_pos h]
    exact ev_pos (toList_nil.2 h) (Ev.now _)
  · rw [if_neg h]
    refine ev_neg (fun x => h (toList_nil.1 x)) ?_
    exact rHost_l0 hd (by omega) _ [] rfl
/-! addresses, names -/
theorem textL_bytes {a : Int} : Bytes (textL a) := by
  have h : Bytes [46] := by unfold Bytes; decide
  exact ((((((decD_bytes _).append h).append (decD_bytes _)).append h).append (decD_bytes _)).append h).append (decD_bytes _)
theorem Address_f {xs : List Int} (hx : Bytes xs) (hl : xs.length < 1048576) : Ev (fun k => host_Address.f k (st xs)) (resV (addrL xs)) := by
  unfold host_Address.f addrL
  refine Ev.bind (Number_f hx hl) ?_
  cases e : numberL xs with
  | none => exact ev_neg (by simp [resV]) (Ev.now _)
  | some n =>
    refine ev_pos rfl ?_
    refine Ev.bind (Text_f (numberL_range e).1 (numberL_range e).2) ?_
    rw [Option.bind_some]
    by_cases h : textL n = xs
    · rw [if_pos h]
      exact ev_pos ((toList_eq textL_bytes hx).2 h) (Ev.now _)
    · rw [if_neg h]
      exact ev_neg (fun x => h ((toList_eq textL_bytes hx).1 x)) (Ev.now _)
theorem hostL_bytes {xs h : List Int} (hx : Bytes xs) (e : hostL xs = some h) : Bytes h := by
  rw [hostL_eq] at e
  split at e
  · cases e
  · split at e
    · cases e
    · unfold finL at e
      split at e
      · obtain ⟨n, _, rfl⟩ := Option.map_eq_some_iff.1 e
        exact textL_bytes
      · obtain rfl := Option.some.inj e
        exact dec_low_bytes hx
theorem stR_eq {r : Option (List Int)} (hr : ∀ h, r = some h → Bytes h) {xs : List Int} (hx : Bytes xs) : ((stR r).2 = 0 ∧ (stR r).1.toList = (st xs).toList) ↔ r = some xs := by
  cases r with
  | none => simp [stR]
  | some h =>
    show ((0 : Int) = 0 ∧ (st h).toList = (st xs).toList) ↔ _
    rw [toList_eq (hr h rfl) hx]
    simp
end Go.Proofs.YtknkokkgefcdbaaDoor.PA
