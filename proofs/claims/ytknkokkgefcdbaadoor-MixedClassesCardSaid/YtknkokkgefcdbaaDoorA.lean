import Derived.Test.YtknkokkgefcdbaaDoorPAx12
import Derived.Test.YtknkokkgefcdbaaDoorPAx16
import Derived.Test.YtknkokkgefcdbaaDoorPAx5
import Derived.Test.YtknkokkgefcdbaaDoorPAx6
import Derived.Test.YtknkokkgefcdbaaDoorPAx8
import Derived.Test.YtknkokkgefcdbaaDoorPL
import Derived.Test.YtknkokkgefcdbaaDoorS
import Derived.Test.YtknkokkgefcdbaaDoorX
namespace Go.Proofs.YtknkokkgefcdbaaDoor.PA
open Go.RowKit Go.Proofs.YtknkokkgefcdbaaDoorW.PrintWords Go.Proofs.YtknkokkgefcdbaaDoorW.PrintLast Go.Proofs.YtknkokkgefcdbaaDoorW.PrintMore Go.Proofs.YtknkokkgefcdbaaDoorPL
open Go.Proofs.YtknkokkgefcdbaaDoorWS (lowB lowerL hexv decodeL splitL partsL digitsB hexP accV baseV restV partV numL numberL numericB decD textL forbB hostL addrL domainB)
set_option linter.unusedVariables false
set_option linter.unusedSimpArgs false
/-! parapetref1.Has -/
theorem Has_l0 (c : Int) {xs : List Int} (hx : Bytes xs) (hl : xs.length < 4611686018427387904) : ∀ (suf pre : List Int), xs = pre ++ suf → Ev (fun k => parapetref1_Has.l0 k (st xs) c (pre.length : Int)) (decide (c ∈ suf))
  | [], pre, e => by
    have e1 := mid_end e
    refine Ev.step (fun k => by rw [parapetref1_Has.l0]) ?_
    simp (maxSteps := 2000000) (disch := omega) only [w64, w32, wu64, st_size, st_nil, st_empty, List.length_append, List.length_cons, List.length_nil, List.length_take, List.length_drop]
    (repeat (first | (refine ev_pos (by first | assumption | omega | (simp (disch := omega) only [w64, st_size, List.length_append, List.length_cons, List.length_nil]; first | done | omega)) ?_) | (refine ev_neg (by first | assumption | omega | (simp (disch := omega) only [w64, st_size, List.length_append, List.length_cons, List.length_nil]; first | done | omega)) ?_)))
    exact Ev.now _
  | x :: suf, pre, e => by
    obtain ⟨e1, e2, e3⟩ := mid e
    refine Ev.step (fun k => by rw [parapetref1_Has.l0]) ?_
    simp (maxSteps := 2000000) (disch := omega) only [w64, w32, wu64, st_size, st_nil, st_empty, List.length_append, List.length_cons, List.length_nil, List.length_take, List.length_drop]
    rw [mid_bt hx e]
    (repeat (first | (refine ev_pos (by first | assumption | omega | (simp (disch := omega) only [w64, st_size, List.length_append, List.length_cons, List.length_nil]; first | done | omega)) ?_) | (refine ev_neg (by first | assumption | omega | (simp (disch := omega) only [w64, st_size, List.length_append, List.length_cons, List.length_nil]; first | done | omega)) ?_)))
    by_cases h : x = c
    · subst h
      rw [show decide (x ∈ x :: suf) = true by simp]
      exact ev_pos rfl (Ev.now _)
    · rw [show decide (c ∈ x :: suf) = decide (c ∈ suf) by simp [Ne.symm h]]
      refine ev_neg h ?_
      rw [e2]
      exact Has_l0 c hx hl suf _ e3
theorem Has_f (c : Int) {xs : List Int} (hx : Bytes xs) (hl : xs.length < 4611686018427387904) : Ev (fun k => parapetref1_Has.f k (st xs) c) (decide (c ∈ xs)) := by
  unfold parapetref1_Has.f
  exact Has_l0 c hx hl xs [] rfl
/-! Bytes -/
theorem value_f {c : Int} (h : 0 ≤ c ∧ c < 256) : Ev (fun k => host_value.f k c) (hexv c) :=
  Ev.of (k := 3) (fun k => host_value.mono c k) (byteAll (P := fun c => host_value.f 3 c = some (hexv c)) (by decide +kernel) h.1 h.2)
theorem hex_f {c : Int} (h : 0 ≤ c ∧ c < 256) : Ev (fun k => parapetref9_hex.f k c) (hexv c) :=
  Ev.of (k := 3) (fun k => parapetref9_hex.mono c k) (byteAll (P := fun c => parapetref9_hex.f 3 c = some (hexv c)) (by decide +kernel) h.1 h.2)
theorem hexv_lo (c : Int) : -1 ≤ hexv c ∧ hexv c < 16 := by unfold hexv; omega
/-! digits -/
theorem digits_l0 (base : Int) {xs : List Int} (hx : Bytes xs) (hl : xs.length < 4611686018427387904) : ∀ (suf pre : List Int), xs = pre ++ suf → Ev (fun k => host_digits.l0 k (st xs) base (xs.length : Int) (pre.length : Int)) (digitsB base suf)
  | [], pre, e => by
    have e1 := mid_end e
    refine Ev.step (fun k => by rw [host_digits.l0]) ?_
    (repeat (first | (refine ev_pos (by first | assumption | omega | (simp (disch := omega) only [w64, st_size, List.length_append, List.length_cons, List.length_nil]; first | done | omega)) ?_) | (refine ev_neg (by first | assumption | omega | (simp (disch := omega) only [w64, st_size, List.length_append, List.length_cons, List.length_nil]; first | done | omega)) ?_)))
    exact Ev.now _
  | x :: suf, pre, e => by
    obtain ⟨e1, e2, e3⟩ := mid e
    refine Ev.step (fun k => by rw [host_digits.l0]) ?_
    simp (maxSteps := 2000000) (disch := omega) only [w64, w32, wu64, st_size, st_nil, st_empty, List.length_append, List.length_cons, List.length_nil, List.length_take, List.length_drop]
    rw [mid_bt hx e]
    (repeat (first | (refine ev_pos (by first | assumption | omega | (simp (disch := omega) only [w64, st_size, List.length_append, List.length_cons, List.length_nil]; first | done | omega)) ?_) | (refine ev_neg (by first | assumption | omega | (simp (disch := omega) only [w64, st_size, List.length_append, List.length_cons, List.length_nil]; first | done | omega)) ?_)))
    refine Ev.bind (value_f (mid_byte hx e)) ?_
    have ih := digits_l0 base hx hl suf _ e3
    rw [← e2] at ih
    simp only [digitsB, List.all_cons]
    by_cases h1 : hexv x < 0
    · rw [show decide (0 ≤ hexv x ∧ hexv x < base) = false from decide_eq_false (by omega)]
      exact ev_pos h1 (Ev.now _)
    · refine ev_neg h1 ?_
      by_cases h2 : hexv x ≥ base
      · rw [show decide (0 ≤ hexv x ∧ hexv x < base) = false from decide_eq_false (by omega)]
        exact ev_pos h2 (Ev.now _)
      · rw [show decide (0 ≤ hexv x ∧ hexv x < base) = true from decide_eq_true (by omega)]
        exact ev_neg h2 ih
theorem digits_f (base : Int) {xs : List Int} (hx : Bytes xs) (hl : xs.length < 4611686018427387904) : Ev (fun k => host_digits.f k (st xs) base) (digitsB base xs) := by
  unfold host_digits.f
  rw [st_size]
  exact digits_l0 base hx hl xs [] rfl
theorem rdigits_l0 (base : Int) {xs : List Int} (hx : Bytes xs) (hl : xs.length < 4611686018427387904) : ∀ (suf pre : List Int), xs = pre ++ suf → Ev (fun k => parapetref9_digits.l0 k (st xs) base (pre.length : Int)) (digitsB base suf && xs != [])
  | [], pre, e => by
    have e1 := mid_end e
    refine Ev.step (fun k => by rw [parapetref9_digits.l0]) ?_
    simp (maxSteps := 2000000) (disch := omega) only [w64, w32, wu64, st_size, st_nil, st_empty, List.length_append, List.length_cons, List.length_nil, List.length_take, List.length_drop]
    (repeat (first | (refine ev_pos (by first | assumption | omega | (simp (disch := omega) only [w64, st_size, List.length_append, List.length_cons, List.length_nil]; first | done | omega)) ?_) | (refine ev_neg (by first | assumption | omega | (simp (disch := omega) only [w64, st_size, List.length_append, List.length_cons, List.length_nil]; first | done | omega)) ?_)))
    exact Ev.congr (fun k => by rw [toList_bne]; rfl) (Ev.now _)
  | x :: suf, pre, e => by
    obtain ⟨e1, e2, e3⟩ := mid e
    refine Ev.step (fun k => by rw [parapetref9_digits.l0]) ?_
    simp (maxSteps := 2000000) (disch := omega) only [w64, w32, wu64, st_size, st_nil, st_empty, List.length_append, List.length_cons, List.length_nil, List.length_take, List.length_drop]
    rw [mid_bt hx e]
    (repeat (first | (refine ev_pos (by first | assumption | omega | (simp (disch := omega) only [w64, st_size, List.length_append, List.length_cons, List.length_nil]; first | done | omega)) ?_) | (refine ev_neg (by first | assumption | omega | (simp (disch := omega) only [w64, st_size, List.length_append, List.length_cons, List.length_nil]; first | done | omega)) ?_)))
    refine Ev.bind (hex_f (mid_byte hx e)) ?_
    have ih := rdigits_l0 base hx hl suf _ e3
    rw [← e2] at ih
    simp only [digitsB, List.all_cons]
    by_cases h1 : hexv x < 0
    · rw [show decide (0 ≤ hexv x ∧ hexv x < base) = false from decide_eq_false (by omega)]
      exact ev_pos h1 (Ev.now _)
    · refine ev_neg h1 ?_
      by_cases h2 : hexv x ≥ base
      · rw [show decide (0 ≤ hexv x ∧ hexv x < base) = false from decide_eq_false (by omega)]
        exact ev_pos h2 (Ev.now _)
      · rw [show decide (0 ≤ hexv x ∧ hexv x < base) = true from decide_eq_true (by omega)]
        exact ev_neg h2 ih
theorem rdigits_f (base : Int) {xs : List Int} (hx : Bytes xs) (hl : xs.length < 4611686018427387904) : Ev (fun k => parapetref9_digits.f k (st xs) base) (digitsB base xs && xs != []) := by
  unfold parapetref9_digits.f
  exact rdigits_l0 base hx hl xs [] rfl
/-! Lower -/
theorem rLower_l0 {xs : List Int} (hx : Bytes xs) (hl : xs.length < 140737488355328) : ∀ (suf pre : List Int), xs = pre ++ suf → Ev (fun k => parapetref1_Lower.l0 k (st xs) (lowerL pre) (pre.length : Int)) (st (lowerL xs))
  | [], pre, e => by
    have e1 := mid_end e
    refine Ev.step (fun k => by rw [parapetref1_Lower.l0]) ?_
    simp (maxSteps := 2000000) (disch := omega) only [w64, w32, wu64, st_size, st_nil, st_empty, List.length_append, List.length_cons, List.length_nil, List.length_take, List.length_drop]
    (repeat (first | (refine ev_pos (by first | assumption | omega | (simp (disch := omega) only [w64, st_size, List.length_append, List.length_cons, List.length_nil]; first | done | omega)) ?_) | (refine ev_neg (by first | assumption | omega | (simp (disch := omega) only [w64, st_size, List.length_append, List.length_cons, List.length_nil]; first | done | omega)) ?_)))
    rw [e, List.append_nil]
    exact Ev.now _
  | x :: suf, pre, e => by
    obtain ⟨e1, e2, e3⟩ := mid e
    have ih := rLower_l0 hx hl suf _ e3
    rw [← e2, show lowerL (pre ++ [x]) = lowerL pre ++ [lowB x] by simp [lowerL]] at ih
    have hb := mid_byte hx e
    refine Ev.step (fun k => by rw [parapetref1_Lower.l0]) ?_
    simp (maxSteps := 2000000) (disch := omega) only [w64, w32, wu64, st_size, st_nil, st_empty, List.length_append, List.length_cons, List.length_nil, List.length_take, List.length_drop]
    rw [mid_bt hx e, show (lowerL pre).length = pre.length by simp [lowerL]]
    (repeat (first | (refine ev_pos (by first | assumption | omega | (simp (disch := omega) only [w64, st_size, List.length_append, List.length_cons, List.length_nil]; first | done | omega)) ?_) | (refine ev_neg (by first | assumption | omega | (simp (disch := omega) only [w64, st_size, List.length_append, List.length_cons, List.length_nil]; first | done | omega)) ?_)))
    by_cases h1 : x ≥ 65
    · refine ev_pos h1 ?_
      by_cases h2 : x ≤ 90
      · refine ev_pos h2 ?_
        (repeat (first | (refine ev_pos (by first | assumption | omega | (simp (disch := omega) only [w64, st_size, List.length_append, List.length_cons, List.length_nil]; first | done | omega)) ?_) | (refine ev_neg (by first | assumption | omega | (simp (disch := omega) only [w64, st_size, List.length_append, List.length_cons, List.length_nil]; first | done | omega)) ?_)))
        rw [show (x + 32) % 256 = lowB x by unfold lowB; omega]
        exact ih
      · refine ev_neg h2 ?_
        (repeat (first | (refine ev_pos (by first | assumption | omega | (simp (disch := omega) only [w64, st_size, List.length_append, List.length_cons, List.length_nil]; first | done | omega)) ?_) | (refine ev_neg (by first | assumption | omega | (simp (disch := omega) only [w64, st_size, List.length_append, List.length_cons, List.length_nil]; first | done | omega)) ?_)))
        rw [show lowB x = x by unfold lowB; omega] at ih
        exact ih
    · refine ev_neg h1 ?_
      (repeat (first | (refine ev_pos (by first | assumption | omega | (simp (disch := omega) only [w64, st_size, List.length_append, List.length_cons, List.length_nil]; first | done | omega)) ?_) | (refine ev_neg (by first | assumption | omega | (simp (disch := omega) only [w64, st_size, List.length_append, List.length_cons, List.length_nil]; first | done | omega)) ?_)))
      rw [show lowB x = x by unfold lowB; omega] at ih
      exact ih
theorem rLower_f {xs : List Int} (hx : Bytes xs) (hl : xs.length < 140737488355328) : Ev (fun k => parapetref1_Lower.f k (st xs)) (st (lowerL xs)) := by
  unfold parapetref1_Lower.f
  exact rLower_l0 hx hl xs [] rfl
theorem Lower_f {xs : List Int} (hx : Bytes xs) (hl : xs.length < 4611686018427387904) : ascii_Lower.f (st xs) = some (st (lowerL xs)) := by
  unfold ascii_Lower.f
  rw [if_pos (by rw [st_size]; exact hl), bytesOf_st hx]
theorem lowB_byte {c : Int} (h : 0 ≤ c ∧ c < 256) : 0 ≤ lowB c ∧ lowB c < 256 := by unfold lowB; omega
theorem lowerL_bytes {xs : List Int} (h : Bytes xs) : Bytes (lowerL xs) := Bytes.map fun x hx => lowB_byte (h x hx)
theorem lowerL_length (xs : List Int) : (lowerL xs).length = xs.length := List.length_map _
/-! Decode -/
theorem decodeL_bytes : ∀ {xs : List Int}, Bytes xs → Bytes (decodeL xs)
  | [], h => h
  | [_], h => h
  | [_, _], h => h
  | c :: a :: b :: t, h => by
    unfold decodeL
    by_cases e : c = 37 ∧ 0 ≤ hexv a ∧ 0 ≤ hexv b
    · rw [if_pos e]
      have h1 := hexv_lo a
      have h2 := hexv_lo b
      exact Bytes.cons (by omega) (decodeL_bytes h.tail.tail.tail)
    · rw [if_neg e]
      exact Bytes.cons h.head (decodeL_bytes h.tail)
theorem decodeL_length : ∀ (xs : List Int), (decodeL xs).length ≤ xs.length
  | [] => Nat.le_refl _
  | [_] => Nat.le_refl _
  | [_, _] => Nat.le_refl _
  | c :: a :: b :: t => by
    unfold decodeL
    have h1 := decodeL_length t
    have h2 := decodeL_length (a :: b :: t)
    simp only [List.length_cons] at h2 ⊢
    split <;> simp only [List.length_cons] <;> omega
theorem nib_or {a b : Int} (ha : 0 ≤ a ∧ a < 16) (hb : 0 ≤ b ∧ b < 16) : (Go.bits .or .i64 (wrap64 (a * 16)) b) % 256 = 16 * a + b := by
  have h : ∀ m n : Fin 16, (Go.bits .or .i64 (wrap64 ((m.val : Int) * 16)) (n.val : Int)) % 256 = 16 * (m.val : Int) + (n.val : Int) := by decide +kernel
  have := h ⟨a.toNat, by omega⟩ ⟨b.toNat, by omega⟩
  rwa [show ((a.toNat : Nat) : Int) = a by omega, show ((b.toNat : Nat) : Int) = b by omega] at this
theorem decodeL_short {l : List Int} (h : l.length ≤ 2) : decodeL l = l := by
  match l, h with
  | [], _ => rfl
  | [_], _ => rfl
  | [_, _], _ => rfl
theorem decodeL_cons {c : Int} {l : List Int} (h : c ≠ 37 ∨ l.length < 2) : decodeL (c :: l) = c :: decodeL l := by
  match l with
  | [] => rfl
  | [_] => rfl
  | a :: b :: t =>
    rw [decodeL, if_neg]
    rintro ⟨e, _⟩
    rcases h with h | h
    · exact h e
    · simp only [List.length_cons] at h; omega
theorem app_rd {xs pre suf : List Int} (e : xs = pre ++ suf) (i : Nat) : rd xs ((pre.length : Int) + (i : Int)) = rd suf (i : Int) := by
  subst e
  rw [show (pre.length : Int) + (i : Int) = ((pre.length + i : Nat) : Int) by omega, rd_nat, rd_nat]
  rw [List.getD_eq_getElem?_getD, List.getD_eq_getElem?_getD, List.getElem?_append_right (by omega)]
  congr 2
  omega
theorem app_bt {xs pre suf : List Int} (h : Bytes xs) (e : xs = pre ++ suf) (i : Nat) : bt (st xs) ((pre.length : Int) + (i : Int)) = rd suf (i : Int) := by rw [bt_st h, app_rd e]
theorem rDecode_l0 {xs : List Int} (hx : Bytes xs) (hl : xs.length < 140737488355328) : ∀ (n : Nat) (suf pre acc : List Int), suf.length ≤ n → xs = pre ++ suf → acc.length ≤ pre.length → Ev (fun k => parapetref9_Decode.l0 k (st xs) acc (pre.length : Int)) (st (acc ++ decodeL suf)) := by
  intro n
  induction n with
  | zero =>
    intro suf pre acc hn e ha
    obtain rfl : suf = [] := List.eq_nil_of_length_eq_zero (by omega)
    have e1 := mid_end e
    refine Ev.step (fun k => by rw [parapetref9_Decode.l0]) ?_
    (repeat (first | (refine ev_pos (by first | assumption | omega | (simp (disch := omega) only [w64, st_size, List.length_append, List.length_cons, List.length_nil]; first | done | omega)) ?_) | (refine ev_neg (by first | assumption | omega | (simp (disch := omega) only [w64, st_size, List.length_append, List.length_cons, List.length_nil]; first | done | omega)) ?_)))
    rw [decodeL_short (by simp), List.append_nil]
    exact Ev.now _
  | succ n ih =>
    intro suf pre acc hn e ha
    match suf, e with
    | [], e =>
      have e1 := mid_end e
      refine Ev.step (fun k => by rw [parapetref9_Decode.l0]) ?_
      (repeat (first | (refine ev_pos (by first | assumption | omega | (simp (disch := omega) only [w64, st_size, List.length_append, List.length_cons, List.length_nil]; first | done | omega)) ?_) | (refine ev_neg (by first | assumption | omega | (simp (disch := omega) only [w64, st_size, List.length_append, List.length_cons, List.length_nil]; first | done | omega)) ?_)))
      rw [decodeL_short (by simp), List.append_nil]
      exact Ev.now _
    | c :: t, e =>
      obtain ⟨e1, e2, e3⟩ := mid e
      have hb := mid_bt hx e
      have hlen : xs.length = pre.length + (t.length + 1) := by rw [e, List.length_append, List.length_cons]
      simp only [List.length_cons] at hn
      have plain : decodeL (c :: t) = c :: decodeL t → Ev (fun k => parapetref9_Decode.j1 k (st xs) acc (pre.length : Int) false) (st (acc ++ decodeL (c :: t))) := fun hp => by
        refine Ev.step (fun k => by rw [parapetref9_Decode.j1]) ?_
        simp only [w64 (show -9223372036854775808 ≤ (pre.length : Int) + 1 by omega) (by omega), w64 (show -9223372036854775808 ≤ (pre.length : Int) + 2 by omega) (by omega), st_size]
        refine ev_neg (by simp) ?_
        rw [hb]
        (repeat (first | (refine ev_pos (by first | assumption | omega | (simp (disch := omega) only [w64, st_size, List.length_append, List.length_cons, List.length_nil]; first | done | omega)) ?_) | (refine ev_neg (by first | assumption | omega | (simp (disch := omega) only [w64, st_size, List.length_append, List.length_cons, List.length_nil]; first | done | omega)) ?_)))
        rw [e2, hp, show acc ++ c :: decodeL t = (acc ++ [c]) ++ decodeL t by simp]
        exact ih t (pre ++ [c]) (acc ++ [c]) (by omega) e3 (by simp only [List.length_append, List.length_cons, List.length_nil]; omega)
      refine Ev.step (fun k => by rw [parapetref9_Decode.l0]) ?_
      simp only [w64 (show -9223372036854775808 ≤ (pre.length : Int) + 1 by omega) (by omega), w64 (show -9223372036854775808 ≤ (pre.length : Int) + 2 by omega) (by omega), st_size]
      rw [hb]
      (repeat (first | (refine ev_pos (by first | assumption | omega | (simp (disch := omega) only [w64, st_size, List.length_append, List.length_cons, List.length_nil]; first | done | omega)) ?_) | (refine ev_neg (by first | assumption | omega | (simp (disch := omega) only [w64, st_size, List.length_append, List.length_cons, List.length_nil]; first | done | omega)) ?_)))
      by_cases h37 : c = 37
      · refine ev_pos h37 ?_
        by_cases hl2 : 2 ≤ t.length
        · match t, hl2 with
          | a :: b :: t, _ =>
            have ha1 : bt (st xs) ((pre.length : Int) + 1) = a := app_bt hx e 1
            have hb1 : bt (st xs) ((pre.length : Int) + 2) = b := app_bt hx e 2
            have hxa : 0 ≤ a ∧ a < 256 := hx a (by rw [e]; simp)
            have hxb : 0 ≤ b ∧ b < 256 := hx b (by rw [e]; simp)
            simp only [List.length_cons] at hlen hn
            (repeat (first | (refine ev_pos (by first | assumption | omega | (simp (disch := omega) only [w64, st_size, List.length_append, List.length_cons, List.length_nil]; first | done | omega)) ?_) | (refine ev_neg (by first | assumption | omega | (simp (disch := omega) only [w64, st_size, List.length_append, List.length_cons, List.length_nil]; first | done | omega)) ?_)))
            rw [ha1, hb1]
            refine Ev.bind (hex_f hxa) ?_
            by_cases hA : hexv a ≥ 0
            · refine ev_pos hA ?_
              (repeat (first | (refine ev_pos (by first | assumption | omega | (simp (disch := omega) only [w64, st_size, List.length_append, List.length_cons, List.length_nil]; first | done | omega)) ?_) | (refine ev_neg (by first | assumption | omega | (simp (disch := omega) only [w64, st_size, List.length_append, List.length_cons, List.length_nil]; first | done | omega)) ?_)))
              refine Ev.bind (hex_f hxb) ?_
              by_cases hB : hexv b ≥ 0
              · rw [show decide (hexv b ≥ 0) = true from decide_eq_true hB]
                refine Ev.step (fun k => by rw [parapetref9_Decode.j1]) ?_
                simp only [w64 (show -9223372036854775808 ≤ (pre.length : Int) + 1 by omega) (by omega), w64 (show -9223372036854775808 ≤ (pre.length : Int) + 2 by omega) (by omega), w64 (show -9223372036854775808 ≤ (pre.length : Int) + 2 + 1 by omega) (by omega), st_size]
                refine ev_pos (by simp) ?_
                (repeat (first | (refine ev_pos (by first | assumption | omega | (simp (disch := omega) only [w64, st_size, List.length_append, List.length_cons, List.length_nil]; first | done | omega)) ?_) | (refine ev_neg (by first | assumption | omega | (simp (disch := omega) only [w64, st_size, List.length_append, List.length_cons, List.length_nil]; first | done | omega)) ?_)))
                rw [ha1, hb1]
                refine Ev.bind (hex_f hxa) ?_
                (repeat (first | (refine ev_pos (by first | assumption | omega | (simp (disch := omega) only [w64, st_size, List.length_append, List.length_cons, List.length_nil]; first | done | omega)) ?_) | (refine ev_neg (by first | assumption | omega | (simp (disch := omega) only [w64, st_size, List.length_append, List.length_cons, List.length_nil]; first | done | omega)) ?_)))
                refine Ev.bind (hex_f hxb) ?_
                (repeat (first | (refine ev_pos (by first | assumption | omega | (simp (disch := omega) only [w64, st_size, List.length_append, List.length_cons, List.length_nil]; first | done | omega)) ?_) | (refine ev_neg (by first | assumption | omega | (simp (disch := omega) only [w64, st_size, List.length_append, List.length_cons, List.length_nil]; first | done | omega)) ?_)))
                have h1 := hexv_lo a
                have h2 := hexv_lo b
                rw [w64 (x := 16 * hexv a) (by omega) (by omega), w64 (x := 16 * hexv a + hexv b) (by omega) (by omega)]
                rw [show (16 * hexv a + hexv b) % 256 = 16 * hexv a + hexv b by omega, decodeL, if_pos ⟨h37, hA, hB⟩, show acc ++ (16 * hexv a + hexv b) :: decodeL t = (acc ++ [16 * hexv a + hexv b]) ++ decodeL t by simp]
                have := ih t (pre ++ [c, a, b]) (acc ++ [16 * hexv a + hexv b]) (by omega) (by rw [e]; simp) (by simp; omega)
                rw [show (pre.length : Int) + 2 + 1 = ((pre ++ [c, a, b]).length : Int) by simp <;> omega]
                exact this
              · rw [show decide (hexv b ≥ 0) = false from decide_eq_false hB]
                exact plain (by rw [decodeL, if_neg (fun x => hB x.2.2)])
            · exact ev_neg hA (plain (by rw [decodeL, if_neg (fun x => hA x.2.1)]))
        · (repeat (first | (refine ev_pos (by first | assumption | omega | (simp (disch := omega) only [w64, st_size, List.length_append, List.length_cons, List.length_nil]; first | done | omega)) ?_) | (refine ev_neg (by first | assumption | omega | (simp (disch := omega) only [w64, st_size, List.length_append, List.length_cons, List.length_nil]; first | done | omega)) ?_)))
          exact plain (decodeL_cons (Or.inr (by omega)))
      · exact ev_neg h37 (plain (decodeL_cons (Or.inl h37)))
theorem rDecode_f {xs : List Int} (hx : Bytes xs) (hl : xs.length < 140737488355328) : Ev (fun k => parapetref9_Decode.f k (st xs)) (st (decodeL xs)) := by
  unfold parapetref9_Decode.f
  exact rDecode_l0 hx hl xs.length xs [] [] (Nat.le_refl _) rfl (Nat.le_refl _)
end Go.Proofs.YtknkokkgefcdbaaDoor.PA
