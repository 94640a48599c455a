import Derived.Test.YtknkokkgefcdbaaDoorB
import Derived.Test.YtknkokkgefcdbaaDoorPAx10
import Derived.Test.YtknkokkgefcdbaaDoorPAx16
import Derived.Test.YtknkokkgefcdbaaDoorPAx17
import Derived.Test.YtknkokkgefcdbaaDoorPAx18
import Derived.Test.YtknkokkgefcdbaaDoorPAx9
namespace Go.Proofs.YtknkokkgefcdbaaDoor.PA
open Go.RowKit Go.Proofs.YtknkokkgefcdbaaDoorW.PrintWords Go.Proofs.YtknkokkgefcdbaaDoorW.PrintLast Go.Proofs.YtknkokkgefcdbaaDoorW.PrintMore Go.Proofs.YtknkokkgefcdbaaDoorPL
open Go.Proofs.YtknkokkgefcdbaaDoorWS (lowB lowerL hexv decodeL splitL partsL digitsB hexP accV baseV restV partV numL numberL numericB decD textL forbB hostL addrL domainB resV)
set_option linter.unusedVariables false
set_option linter.unusedSimpArgs false
theorem bt_0 {a : Int} {t : List Int} (h : Bytes (a :: t)) : bt (st (a :: t)) 0 = a := by rw [bt_st h]; rfl
theorem bt_1 {a b : Int} {t : List Int} (h : Bytes (a :: b :: t)) : bt (st (a :: b :: t)) 1 = b := by rw [bt_st h]; rfl
theorem hexP_short {l : List Int} (h : l.length ≤ 1) : hexP l = false := by
  match l, h with
  | [], _ => rfl
  | [_], _ => rfl
theorem hexP_cons (a b : Int) (t : List Int) : hexP (a :: b :: t) = (a == 48 && (b == 120 || b == 88)) := rfl
theorem hhex_t : ∀ {xs : List Int}, Bytes xs → hexP xs = true → host_hex.f (st xs) = some (st (xs.drop 2), true)
  | [], _, h => by cases h
  | [_], _, h => by cases h
  | a :: b :: t, hx, h => by
    have hs : ((st (a :: b :: t)).size : Int) = (t.length : Int) + 1 + 1 := by rw [st_size]; simp
    have e2 : (st (a :: b :: t)).extract 2 (st (a :: b :: t)).size = st t := by rw [st_extr]; rfl
    rw [hexP_cons, Bool.and_eq_true, Bool.or_eq_true, beq_iff_eq, beq_iff_eq, beq_iff_eq] at h
    unfold host_hex.f
    rw [bt_0 hx, bt_1 hx, if_pos (by omega), if_pos (by omega), if_pos h.1, if_pos (by omega), e2]
    by_cases h2 : b = 120
    · rw [if_pos h2, if_pos (by omega)]; rfl
    · rw [if_neg h2, if_pos (h.2.resolve_left h2), if_pos (by omega)]; rfl
theorem hhex_n : ∀ {xs : List Int}, Bytes xs → hexP xs = false → host_hex.f (st xs) = some (st [], false)
  | [], _, _ => by unfold host_hex.f; rw [if_neg (by rw [st_size]; simp)]; rfl
  | [_], _, _ => by unfold host_hex.f; rw [if_neg (by rw [st_size]; simp)]; rfl
  | a :: b :: t, hx, h => by
    have hs : ((st (a :: b :: t)).size : Int) = (t.length : Int) + 1 + 1 := by rw [st_size]; simp
    rw [hexP_cons] at h
    unfold host_hex.f
    rw [bt_0 hx, bt_1 hx, if_pos (by omega), if_pos (by omega)]
    by_cases h1 : a = 48
    · have h2 : ¬ b = 120 := fun e => by simp [h1, e] at h
      have h3 : ¬ b = 88 := fun e => by simp [h1, e] at h
      rw [if_pos h1, if_pos (by omega), if_neg h2, if_neg h3]; rfl
    · rw [if_neg h1]; rfl
theorem drop_bytes {xs : List Int} (h : Bytes xs) (n : Nat) : Bytes (xs.drop n) := h.drop n
/-! part -/
theorem digitsB_cons {base x : Int} {l : List Int} (h : digitsB base (x :: l) = true) : (0 ≤ hexv x ∧ hexv x < base) ∧ digitsB base l = true := by
  simpa [digitsB, List.all_cons] using h
theorem part_l0 {base : Int} (hb : 0 ≤ base ∧ base ≤ 16) {xs : List Int} (hx : Bytes xs) (hl : xs.length < 4611686018427387904) : ∀ (suf pre : List Int) (n : Int), xs = pre ++ suf → digitsB base suf = true → 0 ≤ n → n < 4294967296 →
    Ev (fun k => host_part.l0 k n base (st xs) (xs.length : Int) (pre.length : Int)) (resV (accV base n suf))
  | [], pre, n, e, hd, h0, h1 => by
    have e1 := mid_end e
    refine Ev.step (fun k => by rw [host_part.l0]) ?_
    refine ev_neg (by omega) ?_
    exact Ev.now _
  | x :: suf, pre, n, e, hd, h0, h1 => by
    obtain ⟨e1, e2, e3⟩ := mid e
    obtain ⟨d1, d2⟩ := digitsB_cons hd
    have m0 : 0 ≤ base * n := Int.mul_nonneg hb.1 h0
    have m1 : base * n ≤ 16 * 4294967296 := Int.le_trans (Int.mul_le_mul_of_nonneg_right hb.2 h0) (by omega)
    refine Ev.step (fun k => by rw [host_part.l0]) ?_
    refine ev_pos (by omega) (ev_pos (by omega) (ev_pos (by rw [st_size]; omega) ?_))
    rw [mid_bt hx e]
    refine Ev.bind (value_f (mid_byte hx e)) ?_
    rw [w64 (x := base * n) (by omega) (by omega), w64 (x := base * n + hexv x) (by omega) (by omega), w64 (x := (pre.length : Int) + 1) (by omega) (by omega), accV]
    by_cases h : base * n + hexv x ≥ 4294967296
    · rw [if_pos h]
      exact ev_pos h (Ev.now _)
    · rw [if_neg h]
      refine ev_neg h ?_
      rw [e2]
      exact part_l0 hb hx hl suf _ _ e3 d2 (by omega) (by omega)
theorem part_j0 {base : Int} (hb : 0 ≤ base ∧ base ≤ 16) {xs rest : List Int} (hx : Bytes xs) (hr : Bytes rest) (hl : rest.length < 4611686018427387904) :
    Ev (fun k => host_part.j0 k (st xs) 0 base (st rest)) (resV (if xs = [] ∨ digitsB base rest = false then none else accV base 0 rest)) := by
  refine Ev.step (fun k => by rw [host_part.j0]) ?_
  by_cases h : xs = []
  · rw [if_pos (Or.inl h)]
    refine ev_pos (toList_nil.2 h) ?_
    refine Ev.step (fun k => by rw [host_part.j1]) ?_
    exact ev_pos rfl (Ev.now _)
  · refine ev_neg (fun x => h (toList_nil.1 x)) ?_
    refine Ev.bind (digits_f base hr hl) ?_
    refine Ev.step (fun k => by rw [host_part.j1]) ?_
    cases hd : digitsB base rest with
    | false =>
      rw [if_pos (Or.inr rfl)]
      exact ev_pos rfl (Ev.now _)
    | true =>
      rw [if_neg (by simp [h])]
      refine ev_neg (by simp) ?_
      rw [st_size]
      exact part_l0 hb hr hl rest [] 0 rfl hd (by omega) (by omega)
theorem partV_hex {xs : List Int} (h : hexP xs = true) : partV xs = if xs = [] ∨ digitsB 16 (xs.drop 2) = false then none else accV 16 0 (xs.drop 2) := by
  unfold partV baseV restV; rw [if_pos h, if_pos h]
theorem partV_oct {t : List Int} (h : hexP (48 :: t) = false) (h2 : 0 < t.length) : partV (48 :: t) = if (48 :: t) = [] ∨ digitsB 8 t = false then none else accV 8 0 t := by
  have e : 1 < (48 :: t).length ∧ (48 :: t).head? = some (48 : Int) := ⟨by simp; exact h2, rfl⟩
  have hn : ¬ hexP (48 :: t) = true := by rw [h]; simp
  have b : baseV (48 :: t) = 8 := by unfold baseV; rw [if_neg hn, if_pos e]
  have r : restV (48 :: t) = t := by unfold restV; rw [if_neg hn, if_pos e]; rfl
  unfold partV; rw [b, r]
theorem partV_dec {xs : List Int} (h : hexP xs = false) (h2 : ¬ (1 < xs.length ∧ xs.head? = some 48)) : partV xs = if xs = [] ∨ digitsB 10 xs = false then none else accV 10 0 xs := by
  have hn : ¬ hexP xs = true := by rw [h]; simp
  have b : baseV xs = 10 := by unfold baseV; rw [if_neg hn, if_neg h2]
  have r : restV xs = xs := by unfold restV; rw [if_neg hn, if_neg h2]
  unfold partV; rw [b, r]
theorem part_f {xs : List Int} (hx : Bytes xs) (hl : xs.length < 4611686018427387904) : Ev (fun k => host_part.f k (st xs)) (resV (partV xs)) := by
  unfold host_part.f
  cases h : hexP xs with
  | true =>
    rw [partV_hex h]
    refine ev_const (hhex_t hx h) (ev_pos rfl ?_)
    exact part_j0 (base := 16) (by omega) hx (hx.drop 2) (by rw [List.length_drop]; omega)
  | false =>
    refine ev_const (hhex_n hx h) (ev_neg (by simp) ?_)
    by_cases h2 : 1 < xs.length
    · match xs, h2, hx, hl, h with
      | a :: t, h2, hx, hl, h =>
        refine ev_pos (by rw [st_size]; omega) (ev_pos (by rw [st_size]; omega) ?_)
        rw [bt_0 hx]
        by_cases h3 : a = 48
        · refine ev_pos h3 (ev_pos (by rw [st_size]; omega) ?_)
          rw [st_extr]
          subst h3
          rw [partV_oct h (by simp at h2; omega)]
          exact part_j0 (base := 8) (by omega) hx (hx.drop 1) (by rw [List.length_drop]; omega)
        · refine ev_neg h3 ?_
          rw [partV_dec h (by simp [h3])]
          exact part_j0 (base := 10) (by omega) hx hx hl
    · refine ev_neg (by rw [st_size]; omega) ?_
      rw [partV_dec h (fun x => h2 x.1)]
      exact part_j0 (base := 10) (by omega) hx hx hl
/-! parapetref9.part -/
theorem wu {x : Int} (h0 : 0 ≤ x) (h1 : x < 18446744073709551616) : IntKind.u64.wrap x = x := wu64 h0 h1
theorem rpart_l0 {base : Int} (hb : 0 ≤ base ∧ base ≤ 16) {xs : List Int} (hx : Bytes xs) (hl : xs.length < 4611686018427387904) : ∀ (suf pre : List Int) (n : Int), xs = pre ++ suf → digitsB base suf = true → 0 ≤ n → n < 4294967296 →
    Ev (fun k => parapetref9_part.l0 k (st xs) base n (pre.length : Int)) (resV (accV base n suf))
  | [], pre, n, e, hd, h0, h1 => by
    have e1 := mid_end e
    refine Ev.step (fun k => by rw [parapetref9_part.l0]) ?_
    refine ev_neg (by rw [st_size]; omega) ?_
    exact Ev.now _
  | x :: suf, pre, n, e, hd, h0, h1 => by
    obtain ⟨e1, e2, e3⟩ := mid e
    obtain ⟨d1, d2⟩ := digitsB_cons hd
    have m0 : 0 ≤ base * n := Int.mul_nonneg hb.1 h0
    have m1 : base * n ≤ 16 * 4294967296 := Int.le_trans (Int.mul_le_mul_of_nonneg_right hb.2 h0) (by omega)
    refine Ev.step (fun k => by rw [parapetref9_part.l0]) ?_
    refine ev_pos (by rw [st_size]; omega) (ev_pos (by omega) ?_)
    rw [mid_bt hx e]
    refine Ev.bind (hex_f (mid_byte hx e)) ?_
    rw [wu (x := base) (by omega) (by omega), Int.mul_comm n base, wu (x := base * n) (by omega) (by omega), wu (x := hexv x) (by omega) (by omega), wu (x := base * n + hexv x) (by omega) (by omega), w64 (x := (pre.length : Int) + 1) (by omega) (by omega), accV]
    by_cases h : base * n + hexv x ≥ 4294967296
    · rw [if_pos h]
      exact ev_pos h (Ev.now _)
    · rw [if_neg h]
      refine ev_neg h ?_
      rw [e2]
      exact rpart_l0 hb hx hl suf _ _ e3 d2 (by omega) (by omega)
theorem rpart_j1 {base : Int} (hb : 0 ≤ base ∧ base ≤ 16) {xs : List Int} (hx : Bytes xs) (hl : xs.length < 4611686018427387904) :
    Ev (fun k => parapetref9_part.j1 k (st xs) base) (resV (if xs = [] ∨ digitsB base xs = false then none else accV base 0 xs)) := by
  refine Ev.step (fun k => by rw [parapetref9_part.j1]) ?_
  refine Ev.bind (rdigits_f base hx hl) ?_
  by_cases h : xs = []
  · rw [if_pos (Or.inl h), h]
    exact ev_neg (by simp) (Ev.now _)
  · cases hd : digitsB base xs with
    | false =>
      rw [if_pos (Or.inr rfl)]
      exact ev_neg (by simp) (Ev.now _)
    | true =>
      rw [if_neg (by simp [h])]
      refine ev_pos (by simp [h]) ?_
      exact rpart_l0 hb hx hl xs [] 0 rfl hd (by omega) (by omega)
theorem rpart_hex {xs : List Int} (hx : Bytes xs) (hl : xs.length < 4611686018427387904) (h : hexP xs = true) : Ev (fun k => parapetref9_part.j0 k (st xs) 10 true) (resV (partV xs)) := by
  match xs, h, hx, hl with
  | a :: b :: t, h, hx, hl =>
    rw [partV_hex h]
    have hs : ((st (a :: b :: t)).size : Int) = (t.length : Int) + 1 + 1 := by rw [st_size]; simp
    have e2 : (st (a :: b :: t)).extract 2 (st (a :: b :: t)).size = st t := by rw [st_extr]; rfl
    refine Ev.step (fun k => by rw [parapetref9_part.j0]) ?_
    refine ev_pos rfl (ev_pos (by omega) ?_)
    rw [e2]
    have hrest : Bytes t := hx.tail.tail
    show Ev _ (resV (if a :: b :: t = [] ∨ digitsB 16 t = false then none else accV 16 0 t))
    by_cases h0 : t = []
    · subst h0
      exact ev_pos (toList_nil.2 rfl) (Ev.now _)
    · refine ev_neg (fun x => h0 (toList_nil.1 x)) ?_
      have := rpart_j1 (base := 16) (by omega) hrest (by simp at hl; omega)
      simpa [h0] using this
theorem rpart_plain {xs : List Int} (hx : Bytes xs) (hl : xs.length < 4611686018427387904) (h : hexP xs = false) : Ev (fun k => parapetref9_part.j0 k (st xs) 10 false) (resV (partV xs)) := by
  refine Ev.step (fun k => by rw [parapetref9_part.j0]) ?_
  refine ev_neg (by simp) ?_
  by_cases h2 : 1 < xs.length
  · match xs, h2, hx, hl, h with
    | a :: t, h2, hx, hl, h =>
      refine ev_pos (by rw [st_size]; omega) (ev_pos (by rw [st_size]; omega) ?_)
      rw [bt_0 hx]
      by_cases h3 : a = 48
      · refine ev_pos h3 (ev_pos (by rw [st_size]; omega) ?_)
        rw [st_extr]
        subst h3
        have ht : t ≠ [] := fun e => by subst e; simp at h2
        rw [partV_oct h (by simp at h2; omega)]
        have := rpart_j1 (base := 8) (by omega) (hx.drop 1) (by rw [List.length_drop]; omega)
        simpa [ht] using this
      · refine ev_neg h3 ?_
        rw [partV_dec h (by simp [h3])]
        exact rpart_j1 (base := 10) (by omega) hx hl
  · refine ev_neg (by rw [st_size]; omega) ?_
    rw [partV_dec h (fun x => h2 x.1)]
    exact rpart_j1 (base := 10) (by omega) hx hl
theorem rpart_f {xs : List Int} (hx : Bytes xs) (hl : xs.length < 4611686018427387904) : Ev (fun k => parapetref9_part.f k (st xs)) (resV (partV xs)) := by
  unfold parapetref9_part.f
  match xs, hx, hl with
  | [], hx, hl => exact ev_neg (by rw [st_size]; simp) (rpart_plain hx hl rfl)
  | [a], hx, hl => exact ev_neg (by rw [st_size]; simp) (rpart_plain hx hl rfl)
  | a :: b :: t, hx, hl =>
    have hs : ((st (a :: b :: t)).size : Int) = (t.length : Int) + 1 + 1 := by rw [st_size]; simp
    refine ev_pos (by omega) (ev_pos (by omega) ?_)
    rw [bt_0 hx, bt_1 hx]
    by_cases h1 : a = 48
    · refine ev_pos h1 (ev_pos (by omega) ?_)
      by_cases h2 : b = 120
      · exact ev_pos h2 (rpart_hex hx hl (by simp [hexP_cons, h1, h2]))
      · refine ev_neg h2 ?_
        by_cases h3 : b = 88
        · rw [show (b == 88) = true by simp [h3]]
          exact rpart_hex hx hl (by simp [hexP_cons, h1, h3])
        · rw [show (b == 88) = false by simp [h3]]
          exact rpart_plain hx hl (by simp [hexP_cons, h1, h2, h3])
    · exact ev_neg h1 (rpart_plain hx hl (by simp [hexP_cons, h1]))
/-! numbers of parts -/
theorem accV_range {base : Int} (hb : 0 ≤ base) : ∀ {l : List Int} {n m : Int}, digitsB base l = true → 0 ≤ n → n < 4294967296 → accV base n l = some m → 0 ≤ m ∧ m < 4294967296
  | [], n, m, _, h0, h1, h => by rw [accV] at h; obtain rfl := Option.some.inj h; exact ⟨h0, h1⟩
  | c :: t, n, m, hd, h0, h1, h => by
    obtain ⟨d1, d2⟩ := digitsB_cons hd
    have m0 : 0 ≤ base * n := Int.mul_nonneg hb h0
    rw [accV] at h
    by_cases e : base * n + hexv c ≥ 4294967296
    · rw [if_pos e] at h; cases h
    · rw [if_neg e] at h
      exact accV_range hb d2 (by omega) (by omega) h
theorem baseV_range (xs : List Int) : 0 ≤ baseV xs := by
  unfold baseV; split
  · omega
  · split <;> omega
theorem partV_range {xs : List Int} {m : Int} (h : partV xs = some m) : 0 ≤ m ∧ m < 4294967296 := by
  unfold partV at h
  split at h
  · cases h
  · rename_i hn
    exact accV_range (baseV_range xs) (by cases e : digitsB (baseV xs) (restV xs) with | true => rfl | false => exact absurd (Or.inr e) hn) (by omega) (by omega) h
theorem numL_range : ∀ {ps : List (List Int)} {left : Nat} {v : Int}, ps.length ≤ left → left ≤ 4 → numL left ps = some v → 0 ≤ v ∧ v < 2 ^ (8 * left)
  | [], left, v, _, _, h => by rw [numL] at h; cases h
  | [p], left, v, _, _, h => by
    rw [numL] at h
    obtain ⟨n, hn, h⟩ := Option.bind_eq_some_iff.1 h
    split at h
    · obtain rfl := Option.some.inj h
      exact ⟨(partV_range hn).1, by assumption⟩
    · cases h
  | p :: q :: t, left, v, hl, h4, h => by
    rw [numL] at h
    obtain ⟨n, hn, h⟩ := Option.bind_eq_some_iff.1 h
    split at h
    · cases h
    · rename_i hn2
      obtain ⟨w, hw, rfl⟩ := Option.map_eq_some_iff.1 h
      have ih := numL_range (left := left - 1) (by simp at hl ⊢; omega) (by omega) hw
      have h0 := (partV_range hn).1
      simp only [List.length_cons] at hl
      have : left = 2 ∨ left = 3 ∨ left = 4 := by omega
      rcases this with rfl | rfl | rfl <;> simp only [Nat.reduceSub, Nat.reduceMul, Int.reducePow] at ih ⊢ <;> omega
theorem number_f : ∀ (ps : List (List Int)) (left : Nat) (a : Int), (∀ p ∈ ps, Bytes p ∧ p.length < 4611686018427387904) → ps ≠ [] → ps.length ≤ left → left ≤ 4 → 0 ≤ a → a < 4294967296 →
    ∃ x : Int, Ev (fun k => host_number.f k a (left : Int) (ps.map st)) (x, (numL left ps).isSome) ∧ ∀ v, numL left ps = some v → x = (a + v) % 4294967296
  | [], _, _, _, h, _, _, _, _ => absurd rfl h
  | [p], left, a, hp, _, hl, h4, h0, h1 => by
    obtain ⟨hx, hs⟩ := hp p (by simp)
    simp only [List.length_cons, List.length_nil] at hl
    cases e : partV p with
    | none =>
      refine ⟨0, ?_, fun v h => by rw [numL, e] at h; cases h⟩
      rw [numL, e]
      refine Ev.step (fun k => by rw [host_number.f]) ?_
      refine ev_pos (by simp) ?_
      refine Ev.bind (part_f hx hs) ?_
      rw [e]
      exact ev_neg (by simp [resV]) (Ev.now _)
    | some n =>
      have hr := partV_range e
      refine ⟨(a + n % 4294967296) % 4294967296, ?_, fun v h => by
        rw [numL, e] at h
        simp only [Option.bind_some] at h
        split at h
        · obtain rfl := Option.some.inj h; omega
        · cases h⟩
      rw [numL, e]
      refine Ev.step (fun k => by rw [host_number.f]) ?_
      refine ev_pos (by simp) ?_
      refine Ev.bind (part_f hx hs) ?_
      rw [e]
      refine ev_pos rfl (ev_pos (by simp) ?_)
      have : left = 1 ∨ left = 2 ∨ left = 3 ∨ left = 4 := by omega
      have e2 : decide (n < shl .i64 1 (wrap64 (8 * (left : Int)))) = ((some n).bind fun n => if n < 2 ^ (8 * left) then some n else none).isSome := by
        have q : shl .i64 1 (wrap64 (8 * (left : Int))) = 2 ^ (8 * left) := by
          rw [w64 (by omega) (by omega), show (8 * (left : Int)) = ((8 * left : Nat) : Int) by omega, shl_i64 (by omega)]
          rcases this with rfl | rfl | rfl | rfl <;> rw [w64 (by decide) (by decide)] <;> rfl
        rw [q, Option.bind_some]
        by_cases hh : n < 2 ^ (8 * left)
        · rw [if_pos hh, decide_eq_true hh]; rfl
        · rw [if_neg hh, decide_eq_false hh]; rfl
      refine ev_pos (by rw [w64 (by omega) (by omega)]; omega) ?_
      show Ev (fun _ => some ((a + n % 4294967296) % 4294967296, decide (n < shl .i64 1 (wrap64 (8 * (left : Int)))))) _
      rw [e2]
      exact Ev.now _
  | p :: q :: t, left, a, hp, _, hl, h4, h0, h1 => by
    obtain ⟨hx, hs⟩ := hp p (by simp)
    simp only [List.length_cons] at hl
    cases e : partV p with
    | none =>
      refine ⟨0, ?_, fun v h => by rw [numL, e] at h; cases h⟩
      rw [numL, e]
      refine Ev.step (fun k => by rw [host_number.f]) ?_
      refine ev_pos (by simp; omega) ?_
      refine Ev.bind (part_f hx hs) ?_
      rw [e]
      exact ev_neg (by simp [resV]) (Ev.now _)
    | some n =>
      have hr := partV_range e
      by_cases hn : n > 255
      · refine ⟨0, ?_, fun v h => by rw [numL, e, Option.bind_some, if_pos hn] at h; cases h⟩
        rw [numL, e, Option.bind_some, if_pos hn]
        refine Ev.step (fun k => by rw [host_number.f]) ?_
        refine ev_pos (by simp; omega) ?_
        refine Ev.bind (part_f hx hs) ?_
        rw [e]
        exact ev_pos rfl (ev_neg (by simp; omega) (ev_pos hn (Ev.now _)))
      · have c3 : left = 2 ∨ left = 3 ∨ left = 4 := by omega
        have es : shl .u32 (n % 4294967296) (wrap64 (8 * (wrap64 ((left : Int) - 1)))) = n * 2 ^ (8 * (left - 1)) := by
          have q1 : n % 4294967296 = n := by omega
          rw [q1, w64 (x := (left : Int) - 1) (by omega) (by omega), w64 (by omega) (by omega), show 8 * ((left : Int) - 1) = ((8 * (left - 1) : Nat) : Int) by omega, shl_u32 (by omega)]
          rcases c3 with rfl | rfl | rfl <;> simp only [Nat.reduceSub, Nat.reduceMul, Int.reducePow] <;> omega
        obtain ⟨x, hx1, hx2⟩ := number_f (q :: t) (left - 1) ((a + n * 2 ^ (8 * (left - 1))) % 4294967296) (fun r hr => hp r (List.mem_cons_of_mem _ hr)) (by simp) (by simp; omega) (by omega) (by omega) (by omega)
        refine ⟨x, ?_, fun v h => ?_⟩
        · rw [numL, e, Option.bind_some, if_neg hn, Option.isSome_map]
          refine Ev.step (fun k => by rw [host_number.f]) ?_
          refine ev_pos (by simp; omega) ?_
          refine Ev.bind (part_f hx hs) ?_
          rw [e]
          refine ev_pos rfl (ev_neg (by simp; omega) (ev_neg hn (ev_pos (by rw [w64 (x := (left : Int) - 1) (by omega) (by omega), w64 (by omega) (by omega)]; omega) (ev_pos (by simp; omega) ?_))))
          rw [show ((resV (some n)).1 : Int) = n from rfl, es, show wrap64 ((left : Int) - 1) = ((left - 1 : Nat) : Int) by rw [w64 (by omega) (by omega)]; omega]
          exact Ev.bind hx1 (Ev.now _)
        · rw [numL, e, Option.bind_some, if_neg hn] at h
          obtain ⟨w, hw, rfl⟩ := Option.map_eq_some_iff.1 h
          rw [hx2 w hw]
          omega
theorem Number_f {xs : List Int} (hx : Bytes xs) (hl : xs.length < 1048576) : Ev (fun k => host_Number.f k (st xs)) (resV (numberL xs)) := by
  unfold host_Number.f numberL
  refine Ev.bind (parts_f hx hl) ?_
  have hm : ∀ p ∈ partsL xs, Bytes p ∧ p.length < 4611686018427387904 := fun p hp => ⟨splitL_bytes hx p (partsL_mem hp), by have := splitL_short p (partsL_mem hp); omega⟩
  have hne := partsL_ne xs
  generalize partsL xs = ps at hm hne ⊢
  rw [List.length_map]
  by_cases h : 4 < ps.length
  · rw [if_pos h]
    exact ev_pos (by omega) (Ev.now _)
  · rw [if_neg h]
    refine ev_neg (by omega) ?_
    obtain ⟨x, h1, h2⟩ := number_f ps 4 0 hm hne (by omega) (by omega) (by omega) (by omega)
    refine Ev.bind h1 ?_
    cases e : numL 4 ps with
    | none => exact ev_neg (by simp) (Ev.now _)
    | some v =>
      have hr := numL_range (by omega) (by omega) e
      rw [h2 v e, show (0 + v) % 4294967296 = v by simp only [Nat.reduceMul, Int.reducePow] at hr; omega]
      exact ev_pos rfl (Ev.now _)
end Go.Proofs.YtknkokkgefcdbaaDoor.PA
