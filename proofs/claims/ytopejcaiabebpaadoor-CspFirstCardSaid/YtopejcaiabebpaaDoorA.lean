import Derived.Test.YtopejcaiabebpaaDoorPAx2
import Derived.Test.YtopejcaiabebpaaDoorPAx7
import Derived.Test.YtopejcaiabebpaaDoorPL
import Derived.Test.YtopejcaiabebpaaDoorS
import Derived.Test.YtopejcaiabebpaaDoorX
namespace Go.Proofs.YtopejcaiabebpaaDoor.PA
open Go.RowKit Go.Proofs.YtopejcaiabebpaaDoorW.PrintWords Go.Proofs.YtopejcaiabebpaaDoorW.PrintLast Go.Proofs.YtopejcaiabebpaaDoorW.PrintMore Go.Proofs.YtopejcaiabebpaaDoorPL
open Go.Proofs.YtopejcaiabebpaaDoorWS (lowB lowerL hexv decodeL splitL partsL digitsB hexP accV baseV restV partV numL numberL numericB decD textL forbB hostL addrL domainB)
set_option linter.unusedVariables false
set_option linter.unusedSimpArgs false
/-! parapetref1.Has -/
/-! Bytes -/
theorem hexv_lo (c : Int) : -1 ≤ hexv c ∧ hexv c < 16 := by unfold hexv; omega
/-! digits -/
/-! Lower -/
theorem rLower_l0 {xs : List Int} (hx : Bytes xs) (hl : xs.length < 140737488355328) : ∀ (suf pre : List Int), xs = pre ++ suf → Ev (fun k => parapetref1_Lower.l0 k (st xs) (lowerL pre) (pre.length : Int)) (st (lowerL xs))
  | [], pre, e => by
    have e1 := mid_end e
    refine Ev.step (fun k => by rw [parapetref1_Lower.l0]) ?_
    simp (maxSteps := 2000000) (disch := omega) only [w64, w32, wu64, st_size, st_nil, st_empty, List.length_append, List.length_cons, List.length_nil, List.length_take, List.length_drop]
    (repeat (first | (refine ev_pos (by first | assumption | omega | (simp (disch := omega) only [w64, st_size, List.length_append, List.length_cons, List.length_nil]; first | done | omega)) ?_) | (refine ev_neg (by first | assumption | omega | (simp (disch := omega) only [w64, st_size, List.length_append, List.length_cons, List.length_nil]; first | done | omega)) ?_)))
    rw [e, List.append_nil]
    exact Ev.now _
  | x :: suf, pre, e => by
    obtain ⟨e1, e2, e3⟩ := mid e
    have ih := rLower_l0 hx hl suf _ e3
    rw [← e2, show lowerL (pre ++ [x]) = lowerL pre ++ [lowB x] by simp [lowerL]] at ih
    have hb := mid_byte hx e
    refine Ev.step (fun k => by rw [parapetref1_Lower.l0]) ?_
    simp (maxSteps := 2000000) (disch := omega) only [w64, w32, wu64, st_size, st_nil, st_empty, List.length_append, List.length_cons, List.length_nil, List.length_take, List.length_drop]
    rw [mid_bt hx e, show (lowerL pre).length = pre.length by simp [lowerL]]
    (repeat (first | (refine ev_pos (by first | assumption | omega | (simp (disch := omega) only [w64, st_size, List.length_append, List.length_cons, List.length_nil]; first | done | omega)) ?_) | (refine ev_neg (by first | assumption | omega | (simp (disch := omega) only [w64, st_size, List.length_append, List.length_cons, List.length_nil]; first | done | omega)) ?_)))
    by_cases h1 : x ≥ 65
    · refine ev_pos h1 ?_
      by_cases h2 : x ≤ 90
      · refine ev_pos h2 ?_
        (repeat (first | (refine ev_pos (by first | assumption | omega | (simp (disch := omega) only [w64, st_size, List.length_append, List.length_cons, List.length_nil]; first | done | omega)) ?_) | (refine ev_neg (by first | assumption | omega | (simp (disch := omega) only [w64, st_size, List.length_append, List.length_cons, List.length_nil]; first | done | omega)) ?_)))
        rw [show (x + 32) % 256 = lowB x by unfold lowB; omega]
        exact ih
      · refine ev_neg h2 ?_
        (repeat (first | (refine ev_pos (by first | assumption | omega | (simp (disch := omega) only [w64, st_size, List.length_append, List.length_cons, List.length_nil]; first | done | omega)) ?_) | (refine ev_neg (by first | assumption | omega | (simp (disch := omega) only [w64, st_size, List.length_append, List.length_cons, List.length_nil]; first | done | omega)) ?_)))
        rw [show lowB x = x by unfold lowB; omega] at ih
        exact ih
    · refine ev_neg h1 ?_
      (repeat (first | (refine ev_pos (by first | assumption | omega | (simp (disch := omega) only [w64, st_size, List.length_append, List.length_cons, List.length_nil]; first | done | omega)) ?_) | (refine ev_neg (by first | assumption | omega | (simp (disch := omega) only [w64, st_size, List.length_append, List.length_cons, List.length_nil]; first | done | omega)) ?_)))
      rw [show lowB x = x by unfold lowB; omega] at ih
      exact ih
theorem rLower_f {xs : List Int} (hx : Bytes xs) (hl : xs.length < 140737488355328) : Ev (fun k => parapetref1_Lower.f k (st xs)) (st (lowerL xs)) := by
  unfold parapetref1_Lower.f
  exact rLower_l0 hx hl xs [] rfl
theorem Lower_f {xs : List Int} (hx : Bytes xs) (hl : xs.length < 4611686018427387904) : ascii_Lower.f (st xs) = some (st (lowerL xs)) := by
  unfold ascii_Lower.f
  rw [if_pos (by rw [st_size]; exact hl), bytesOf_st hx]
theorem lowB_byte {c : Int} (h : 0 ≤ c ∧ c < 256) : 0 ≤ lowB c ∧ lowB c < 256 := by unfold lowB; omega
theorem lowerL_bytes {xs : List Int} (h : Bytes xs) : Bytes (lowerL xs) := Bytes.map fun x hx => lowB_byte (h x hx)
theorem lowerL_length (xs : List Int) : (lowerL xs).length = xs.length := List.length_map _
/-! Decode -/
theorem decodeL_bytes : ∀ {xs : List Int}, Bytes xs → Bytes (decodeL xs)
  | [], h => h
  | [_], h => h
  | [_, _], h => h
  | c :: a :: b :: t, h => by
    unfold decodeL
    by_cases e : c = 37 ∧ 0 ≤ hexv a ∧ 0 ≤ hexv b
    · rw [if_pos e]
      have h1 := hexv_lo a
      have h2 := hexv_lo b
      exact Bytes.cons (by omega) (decodeL_bytes h.tail.tail.tail)
    · rw [if_neg e]
      exact Bytes.cons h.head (decodeL_bytes h.tail)
theorem decodeL_length : ∀ (xs : List Int), (decodeL xs).length ≤ xs.length
  | [] => Nat.le_refl _
  | [_] => Nat.le_refl _
  | [_, _] => Nat.le_refl _
  | c :: a :: b :: t => by
    unfold decodeL
    have h1 := decodeL_length t
    have h2 := decodeL_length (a :: b :: t)
    simp only [List.length_cons] at h2 ⊢
    split <;> simp only [List.length_cons] <;> omega
theorem nib_or {a b : Int} (ha : 0 ≤ a ∧ a < 16) (hb : 0 ≤ b ∧ b < 16) : (Go.bits .or .i64 (wrap64 (a * 16)) b) % 256 = 16 * a + b := by
  have h : ∀ m n : Fin 16, (Go.bits .or .i64 (wrap64 ((m.val : Int) * 16)) (n.val : Int)) % 256 = 16 * (m.val : Int) + (n.val : Int) := by decide +kernel
  have := h ⟨a.toNat, by omega⟩ ⟨b.toNat, by omega⟩
  rwa [show ((a.toNat : Nat) : Int) = a by omega, show ((b.toNat : Nat) : Int) = b by omega] at this
theorem decodeL_short {l : List Int} (h : l.length ≤ 2) : decodeL l = l := by
  match l, h with
  | [], _ => rfl
  | [_], _ => rfl
  | [_, _], _ => rfl
theorem decodeL_cons {c : Int} {l : List Int} (h : c ≠ 37 ∨ l.length < 2) : decodeL (c :: l) = c :: decodeL l := by
  match l with
  | [] => rfl
  | [_] => rfl
  | a :: b :: t =>
    rw [decodeL, if_neg]
    rintro ⟨e, _⟩
    rcases h with h | h
    · exact h e
    · simp only [List.length_cons] at h; omega
theorem app_rd {xs pre suf : List Int} (e : xs = pre ++ suf) (i : Nat) : rd xs ((pre.length : Int) + (i : Int)) = rd suf (i : Int) := by
  subst e
  rw [show (pre.length : Int) + (i : Int) = ((pre.length + i : Nat) : Int) by omega, rd_nat, rd_nat]
  rw [List.getD_eq_getElem?_getD, List.getD_eq_getElem?_getD, List.getElem?_append_right (by omega)]
  congr 2
  omega
theorem app_bt {xs pre suf : List Int} (h : Bytes xs) (e : xs = pre ++ suf) (i : Nat) : bt (st xs) ((pre.length : Int) + (i : Int)) = rd suf (i : Int) := by rw [bt_st h, app_rd e]
end Go.Proofs.YtopejcaiabebpaaDoor.PA
