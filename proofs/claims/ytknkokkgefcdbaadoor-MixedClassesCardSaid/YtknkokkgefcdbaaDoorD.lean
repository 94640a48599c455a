import Derived.Test.YtknkokkgefcdbaaDoorC
import Derived.Test.YtknkokkgefcdbaaDoorPAx10
import Derived.Test.YtknkokkgefcdbaaDoorPAx11
import Derived.Test.YtknkokkgefcdbaaDoorPAx19
namespace Go.Proofs.YtknkokkgefcdbaaDoor.PA
open Go.RowKit Go.Proofs.YtknkokkgefcdbaaDoorW.PrintWords Go.Proofs.YtknkokkgefcdbaaDoorW.PrintLast Go.Proofs.YtknkokkgefcdbaaDoorW.PrintMore Go.Proofs.YtknkokkgefcdbaaDoorPL
open Go.Proofs.YtknkokkgefcdbaaDoorWS (lowB lowerL hexv decodeL splitL partsL digitsB hexP accV baseV restV partV numL numberL numericB decD textL forbB hostL addrL domainB resV)
set_option linter.unusedVariables false
set_option linter.unusedSimpArgs false
/-! parapetref9.Number -/
theorem mid_rdOf {ps pre suf : List (List Int)} {p : List Int} (e : ps = pre ++ p :: suf) : rdOf ByteArray.empty (ps.map st) (pre.length : Int) = st p := by
  rw [st_rdOf, Int.toNat_natCast, e, List.getD_eq_getElem?_getD, List.getElem?_append_right (Nat.le_refl _), Nat.sub_self]
  rfl
theorem rnum_bad (k4 : List ByteArray) (x5 x6 x7 : Int) : Ev (fun k => parapetref9_Number.j1 k k4 x5 x6 x7 true) (0, false) := by
  refine Ev.step (fun k => by rw [parapetref9_Number.j1]) ?_
  exact ev_pos rfl (Ev.now _)
theorem rnum_l0 {ps : List (List Int)} (hp : ∀ p ∈ ps, Bytes p ∧ p.length < 4611686018427387904) (h4 : ps.length ≤ 4) : ∀ (suf pre : List (List Int)) (x : Int), ps = pre ++ suf → suf ≠ [] → 0 ≤ x → x < (pre.length + 1) * 4294967296 →
    Ev (fun k => parapetref9_Number.l0 k (ps.map st) x (pre.length : Int)) (resV ((numL (4 - pre.length) suf).map fun v => (x + v) % 4294967296)) := by
  intro suf
  induction suf with
  | nil => intro _ _ _ h _ _; exact absurd rfl h
  | cons p t0 ihh =>
    cases t0 with
    | nil =>
      intro pre x e _ h0 h1
      obtain ⟨e1, e2, e3⟩ := mid e
      obtain ⟨hx, hs⟩ := hp p (by rw [e]; simp)
      have hlen : ps.length = pre.length + 1 := by rw [e]; simp
      refine Ev.step (fun k => by rw [parapetref9_Number.l0]) ?_
      refine ev_pos (by rw [List.length_map]; omega) (ev_pos (by omega) ?_)
      rw [mid_rdOf e]
      refine Ev.bind (rpart_f hx hs) ?_
      rw [List.length_map, w64 (x := (pre.length : Int) + 1) (by omega) (by omega), w64 (x := 5 - (ps.length : Int)) (by omega) (by omega), w64 (x := 8 * (5 - (ps.length : Int))) (by omega) (by omega), show 8 * (5 - (ps.length : Int)) = ((8 * (4 - pre.length) : Nat) : Int) by omega, shl_u64 (by omega)]
      cases ep : partV p with
      | none =>
        rw [numL, ep]
        exact ev_neg (by simp [resV]) (rnum_bad _ _ _ _)
      | some n =>
        have hr := partV_range ep
        rw [numL, ep, Option.bind_some]
        refine ev_pos rfl (ev_neg (by omega) (ev_pos (by omega) (ev_pos (by omega) ?_)))
        have hj : 4 - pre.length = 1 ∨ 4 - pre.length = 2 ∨ 4 - pre.length = 3 ∨ 4 - pre.length = 4 := by omega
        have hsh : (1 * 2 ^ (8 * (4 - pre.length)) : Int) % 18446744073709551616 = 2 ^ (8 * (4 - pre.length)) := by
          rcases hj with q | q | q | q <;> rw [q] <;> decide
        rw [hsh, show ((resV (some n)).1 : Int) = n from rfl]
        by_cases hn : n < 2 ^ (8 * (4 - pre.length))
        · rw [if_pos hn, decide_eq_false (by omega)]
          refine Ev.step (fun k => by rw [parapetref9_Number.j1]) ?_
          rw [List.length_map, w64 (x := (pre.length : Int) + 1) (by omega) (by omega)]
          refine ev_neg (by simp) (ev_neg (by omega) ?_)
          rw [wu (x := x + n) (by omega) (by omega)]
          refine Ev.step (fun k => by rw [parapetref9_Number.l0]) ?_
          refine ev_neg (by rw [List.length_map]; omega) ?_
          exact Ev.now _
        · rw [if_neg hn, decide_eq_true (by omega)]
          exact rnum_bad _ _ _ _
    | cons q t =>
      intro pre x e _ h0 h1
      obtain ⟨e1, e2, e3⟩ := mid e
      obtain ⟨hx, hs⟩ := hp p (by rw [e]; simp)
      have hlen : ps.length = pre.length + (t.length + 1 + 1) := by rw [e]; simp
      refine Ev.step (fun k => by rw [parapetref9_Number.l0]) ?_
      refine ev_pos (by rw [List.length_map]; omega) (ev_pos (by omega) ?_)
      rw [mid_rdOf e]
      refine Ev.bind (rpart_f hx hs) ?_
      rw [List.length_map, w64 (x := (pre.length : Int) + 1) (by omega) (by omega)]
      cases ep : partV p with
      | none =>
        rw [numL, ep]
        exact ev_neg (by simp [resV]) (rnum_bad _ _ _ _)
      | some n =>
        have hr := partV_range ep
        rw [numL, ep, Option.bind_some]
        refine ev_pos rfl (ev_pos (by omega) ?_)
        by_cases hn : n > 255
        · rw [if_pos hn]
          exact ev_pos hn (rnum_bad _ _ _ _)
        · rw [if_neg hn]
          refine ev_neg hn (ev_neg (by omega) ?_)
          rw [show ((resV (some n)).1 : Int) = n from rfl]
          refine Ev.step (fun k => by rw [parapetref9_Number.j1]) ?_
          rw [List.length_map, w64 (x := (pre.length : Int) + 1) (by omega) (by omega), w64 (x := 3 - (pre.length : Int)) (by omega) (by omega), w64 (x := 8 * (3 - (pre.length : Int))) (by omega) (by omega), show 8 * (3 - (pre.length : Int)) = ((8 * (3 - pre.length) : Nat) : Int) by omega, shl_u64 (by omega)]
          refine ev_neg (by simp) (ev_pos (by omega) (ev_pos (by omega) ?_))
          have hj : 3 - pre.length = 1 ∨ 3 - pre.length = 2 ∨ 3 - pre.length = 3 := by omega
          have hb : 0 ≤ n * 2 ^ (8 * (3 - pre.length)) ∧ n * 2 ^ (8 * (3 - pre.length)) < 4294967296 := by
            rcases hj with q | q | q <;> rw [q] <;> simp only [Nat.reduceMul, Int.reducePow] <;> omega
          rw [show n * 2 ^ (8 * (3 - pre.length)) % 18446744073709551616 = n * 2 ^ (8 * (3 - pre.length)) by omega, wu (by omega) (by omega), e2]
          have ih := ihh (pre ++ [p]) (x + n * 2 ^ (8 * (3 - pre.length))) e3 (by simp) (by omega) (by rw [List.length_append, List.length_singleton]; omega)
          rw [show 4 - (pre ++ [p]).length = 4 - pre.length - 1 by simp; omega] at ih
          rw [Option.map_map]
          rw [show 4 - pre.length - 1 = 3 - pre.length by omega] at ih ⊢
          refine (Eq.mp ?_ ih)
          congr 3
          funext v
          simp only [Function.comp]
          omega
theorem rNumber_f {xs : List Int} (hx : Bytes xs) (hl : xs.length < 1048576) : Ev (fun k => parapetref9_Number.f k (st xs)) (resV (numberL xs)) := by
  unfold parapetref9_Number.f numberL
  refine Ev.bind (rparts_f hx hl) ?_
  have hm : ∀ p ∈ partsL xs, Bytes p ∧ p.length < 4611686018427387904 := fun p hp => ⟨splitL_bytes hx p (partsL_mem hp), by have := splitL_short p (partsL_mem hp); omega⟩
  have hne := partsL_ne xs
  generalize partsL xs = ps at hm hne ⊢
  rw [List.length_map]
  by_cases h : 4 < ps.length
  · rw [if_pos h]
    exact ev_pos (by omega) (Ev.now _)
  · rw [if_neg h]
    refine ev_neg (by omega) ?_
    have := rnum_l0 hm (by omega) ps [] 0 rfl hne (by omega) (by simp)
    refine Eq.mp ?_ this
    congr 1
    show resV ((numL 4 ps).map fun v => (0 + v) % 4294967296) = resV (numL 4 ps)
    cases e : numL 4 ps with
    | none => rfl
    | some v =>
      have hr := numL_range (by omega) (by omega) e
      simp only [Nat.reduceMul, Int.reducePow] at hr
      rw [Option.map_some, show (0 + v) % 4294967296 = v by omega]
/-! Decimal -/
theorem rev_l0 : ∀ (n : Nat) (A M B : List Int), M.length ≤ n → (A ++ M ++ B).length < 4611686018427387904 → Ev (fun k => slices_Reverse_byte_byte.l0 k (A ++ M ++ B) (A.length : Int) ((A.length : Int) + (M.length : Int) - 1)) (A ++ M.reverse ++ B) := by
  intro n
  induction n with
  | zero =>
    intro A M B h hl
    obtain rfl : M = [] := List.eq_nil_of_length_eq_zero (by omega)
    refine Ev.step (fun k => by rw [slices_Reverse_byte_byte.l0]) ?_
    refine ev_neg (by simp; omega) (Ev.now _)
  | succ n ih =>
    intro A M B h hl
    match M, h with
    | [], h =>
      refine Ev.step (fun k => by rw [slices_Reverse_byte_byte.l0]) ?_
      exact ev_neg (by simp; omega) (Ev.now _)
    | [x], h =>
      refine Ev.step (fun k => by rw [slices_Reverse_byte_byte.l0]) ?_
      exact ev_neg (by simp) (Ev.now _)
    | x :: y :: t, h =>
      obtain ⟨M', z, hM⟩ : ∃ M' z, y :: t = M' ++ [z] := ⟨(y :: t).dropLast, (y :: t).getLast (by simp), (List.dropLast_concat_getLast (by simp)).symm⟩
      rw [hM] at h hl ⊢
      simp only [List.length_cons, List.length_append, List.length_nil] at h hl
      have hlen : ((x :: (M' ++ [z])).length : Int) = (M'.length : Int) + 2 := by simp; omega
      rw [hlen]
      have hl2 : ((A ++ x :: (M' ++ [z]) ++ B).length : Int) = (A.length : Int) + (M'.length : Int) + 2 + (B.length : Int) := by simp; omega
      have r0 : rd (A ++ x :: (M' ++ [z]) ++ B) (A.length : Int) = x := mid_rd (pre := A) (suf := M' ++ [z] ++ B) (by simp)
      have r1 : rd (A ++ x :: (M' ++ [z]) ++ B) ((A.length : Int) + ((M'.length : Int) + 2) - 1) = z := by
        rw [show (A.length : Int) + ((M'.length : Int) + 2) - 1 = ((A ++ x :: M').length : Int) by simp; omega]
        exact mid_rd (suf := B) (by simp)
      refine Ev.step (fun k => by rw [slices_Reverse_byte_byte.l0]) ?_
      refine ev_pos (by omega) (ev_pos (by omega) (ev_pos (by omega) (ev_pos (by omega) (ev_pos (by omega) ?_))))
      rw [r0, r1, w64 (x := (A.length : Int) + 1) (by omega) (by omega), w64 (x := (A.length : Int) + ((M'.length : Int) + 2) - 1 - 1) (by omega) (by omega)]
      have s1 : ((A ++ x :: (M' ++ [z]) ++ B).set (A.length : Int).toNat z).set ((A.length : Int) + ((M'.length : Int) + 2) - 1).toNat x = (A ++ [z]) ++ M' ++ ([x] ++ B) := by
        rw [show (A.length : Int).toNat = A.length by omega, show ((A.length : Int) + ((M'.length : Int) + 2) - 1).toNat = (A ++ z :: M').length by simp; omega]
        rw [show A ++ x :: (M' ++ [z]) ++ B = A ++ x :: (M' ++ [z] ++ B) by simp, List.set_append_right _ _ (Nat.le_refl _), Nat.sub_self, List.set_cons_zero]
        rw [show A ++ z :: (M' ++ [z] ++ B) = (A ++ z :: M') ++ z :: B by simp, List.set_append_right _ _ (Nat.le_refl _), Nat.sub_self, List.set_cons_zero]
        simp
      rw [s1]
      have := ih (A ++ [z]) M' ([x] ++ B) (by omega) (by simp; omega)
      rw [show ((A ++ [z]).length : Int) = (A.length : Int) + 1 by simp] at this
      rw [show (A.length : Int) + ((M'.length : Int) + 2) - 1 - 1 = (A.length : Int) + 1 + (M'.length : Int) - 1 by omega]
      rw [show A ++ (x :: (M' ++ [z])).reverse ++ B = A ++ [z] ++ M'.reverse ++ ([x] ++ B) by simp]
      exact this
theorem rev_f {l : List Int} (hl : l.length < 4611686018427387904) : Ev (fun k => slices_Reverse_byte_byte.f k l) l.reverse := by
  unfold slices_Reverse_byte_byte.f
  rw [w64 (by omega) (by omega)]
  have := rev_l0 l.length [] l [] (Nat.le_refl _) (by simpa using hl)
  simpa using this
theorem tdiv10 {u : Nat} : Int.tdiv (u : Int) 10 = ((u / 10 : Nat) : Int) := by rw [Int.tdiv_eq_ediv_of_nonneg (by omega)]; omega
theorem tmod10 {u : Nat} : Int.tmod (u : Int) 10 = ((u % 10 : Nat) : Int) := by rw [Int.tmod_eq_emod_of_nonneg (by omega)]; omega
theorem decD_small {n : Nat} (h : n < 10) : decD n = [48 + (n : Int)] := by rw [decD, dif_pos h]
theorem decD_big {n : Nat} (h : ¬ n < 10) : decD n = decD (n / 10) ++ [48 + ((n % 10 : Nat) : Int)] := by rw [decD, dif_neg h]
theorem decD_length : ∀ (n : Nat), (decD n).length ≤ n + 1 := by
  intro n
  induction n using Nat.strongRecOn with
  | ind n ih =>
    by_cases h : n < 10
    · rw [decD_small h]; simp
    · rw [decD_big h, List.length_append]
      have := ih (n / 10) (by omega)
      simp only [List.length_singleton]; omega
theorem decD_bytes : ∀ (n : Nat), Bytes (decD n) := by
  intro n
  induction n using Nat.strongRecOn with
  | ind n ih =>
    by_cases h : n < 10
    · rw [decD_small h]; exact Bytes.cons (by omega) Bytes.nil
    · rw [decD_big h]
      exact (ih (n / 10) (by omega)).append (Bytes.cons (by omega) Bytes.nil)
/-- the digits of a number that is not nought -/
def decP (n : Nat) : List Int := if 0 < n then decD n else []
theorem decP_step {u : Nat} (h : 0 < u) : decP u = decP (u / 10) ++ [48 + ((u % 10 : Nat) : Int)] := by
  unfold decP
  rw [if_pos h]
  by_cases h2 : u < 10
  · rw [decD_small h2, if_neg (by omega), show u % 10 = u by omega]; rfl
  · rw [decD_big h2, if_pos (by omega)]
theorem Decimal_l0 (sg : List Int) (hs : sg.length ≤ 1) : ∀ (n u : Nat) (acc : List Int), u ≤ n → acc.length + u < 2000000 → Ev (fun k => ascii_Decimal.l0 k (u : Int) (st sg) acc) (st (sg ++ (decP u ++ acc.reverse))) := by
  intro n
  induction n with
  | zero =>
    intro u acc hu hl
    obtain rfl : u = 0 := by omega
    refine Ev.step (fun k => by rw [ascii_Decimal.l0]) ?_
    refine ev_neg (by omega) ?_
    refine Ev.bind (rev_f (by omega)) ?_
    refine ev_pos (by rw [st_size, strOfNums_size, List.length_reverse]; omega) ?_
    rw [st_app]
    exact Ev.now _
  | succ n ih =>
    intro u acc hu hl
    by_cases h : u = 0
    · subst h
      exact ih 0 acc (by omega) hl
    · refine Ev.step (fun k => by rw [ascii_Decimal.l0]) ?_
      refine ev_pos (by omega) (ev_pos (by omega) ?_)
      rw [tdiv10, tmod10, wu (by omega) (by omega), wu (by omega) (by omega), show (48 + ((u % 10 : Nat) : Int)) % 256 = 48 + ((u % 10 : Nat) : Int) by omega]
      have := ih (u / 10) (acc ++ [48 + ((u % 10 : Nat) : Int)]) (by omega) (by simp; omega)
      rw [decP_step (by omega)]
      simpa using this
theorem decP_tail (n : Nat) : decP (n / 10) ++ [48 + ((n % 10 : Nat) : Int)] = decD n := by
  by_cases h : 0 < n
  · rw [← decP_step h]; unfold decP; rw [if_pos h]
  · obtain rfl : n = 0 := by omega
    rw [decD_small (by omega)]; rfl
theorem Decimal_f {n : Nat} (h : n < 1000000) : Ev (fun k => ascii_Decimal.f k (n : Int)) (st (decD n)) := by
  unfold ascii_Decimal.f
  refine ev_neg (by omega) ?_
  refine Ev.step (fun k => by rw [ascii_Decimal.j0]) ?_
  rw [wu (x := (n : Int)) (by omega) (by omega), tdiv10, tmod10, wu (by omega) (by omega), wu (by omega) (by omega), show (48 + ((n % 10 : Nat) : Int)) % 256 = 48 + ((n % 10 : Nat) : Int) by omega]
  have := Decimal_l0 [] (by simp) (n / 10) (n / 10) [48 + ((n % 10 : Nat) : Int)] (Nat.le_refl _) (by simp; omega)
  rw [show ([] : List Int) ++ (decP (n / 10) ++ [48 + ((n % 10 : Nat) : Int)].reverse) = decD n by rw [List.nil_append, List.reverse_singleton, decP_tail]] at this
  exact this
theorem rDec_l1 (acc : List Int) (hl : acc.length < 4000000) : ∀ (n : Nat) (out : List Int), n ≤ acc.length → out.length + n ≤ 4000000 → Ev (fun k => parapetref1_Decimal.l1 k acc out ((n : Int) - 1)) (st (out ++ (acc.take n).reverse)) := by
  intro n
  induction n with
  | zero =>
    intro out h ho
    refine Ev.step (fun k => by rw [parapetref1_Decimal.l1]) ?_
    refine ev_neg (by omega) ?_
    rw [List.take_zero, List.reverse_nil, List.append_nil]
    exact Ev.now _
  | succ n ih =>
    intro out h ho
    refine Ev.step (fun k => by rw [parapetref1_Decimal.l1]) ?_
    rw [show ((n + 1 : Nat) : Int) - 1 = (n : Int) by omega, w64 (by omega) (by omega)]
    refine ev_pos (by omega) (ev_pos (by omega) (ev_pos (by omega) (ev_pos (by omega) ?_)))
    have := ih (out ++ [rd acc (n : Int)]) (by omega) (by simp; omega)
    rw [rd_nat] at this ⊢
    rw [List.take_succ_eq_append_getElem (by omega), List.reverse_append]
    simpa [List.getD_eq_getElem?_getD, show n < acc.length by omega] using this
theorem rDec_l0 {a : Int} (ha : 0 ≤ a) : ∀ (n u : Nat) (acc : List Int), u ≤ n → acc.length + u < 2000000 → Ev (fun k => parapetref1_Decimal.l0 k a (u : Int) acc) (st (decP u ++ acc.reverse)) := by
  intro n
  induction n with
  | zero =>
    intro u acc hu hl
    obtain rfl : u = 0 := by omega
    refine Ev.step (fun k => by rw [parapetref1_Decimal.l0]) ?_
    refine ev_neg (by omega) (ev_neg (by omega) ?_)
    refine Ev.step (fun k => by rw [parapetref1_Decimal.j2]) ?_
    rw [w64 (by omega) (by omega)]
    have := rDec_l1 acc (by omega) acc.length [] (Nat.le_refl _) (by simp; omega)
    rw [List.take_length] at this
    exact this
  | succ n ih =>
    intro u acc hu hl
    by_cases h : u = 0
    · subst h
      exact ih 0 acc (by omega) hl
    · refine Ev.step (fun k => by rw [parapetref1_Decimal.l0]) ?_
      refine ev_pos (by omega) (ev_pos (by omega) ?_)
      rw [tdiv10, tmod10, wu (by omega) (by omega), wu (by omega) (by omega), show (48 + ((u % 10 : Nat) : Int)) % 256 = 48 + ((u % 10 : Nat) : Int) by omega]
      have := ih (u / 10) (acc ++ [48 + ((u % 10 : Nat) : Int)]) (by omega) (by simp; omega)
      rw [decP_step (by omega)]
      simpa using this
theorem rDecimal_f {n : Nat} (h : n < 1000000) : Ev (fun k => parapetref1_Decimal.f k (n : Int)) (st (decD n)) := by
  unfold parapetref1_Decimal.f
  by_cases h0 : n = 0
  · subst h0
    refine ev_pos rfl ?_
    rw [decD_small (by omega)]
    exact Ev.now _
  · refine ev_neg (by omega) (ev_neg (by omega) ?_)
    refine Ev.step (fun k => by rw [parapetref1_Decimal.j0]) ?_
    rw [wu (x := (n : Int)) (by omega) (by omega)]
    have := rDec_l0 (a := (n : Int)) (by omega) n n [] (Nat.le_refl _) (by simp; omega)
    rw [List.reverse_nil, List.append_nil] at this
    rw [show decD n = decP n by unfold decP; rw [if_pos (by omega)]]
    exact this
/-! an address's text -/
theorem and255 {c : Int} (h0 : 0 ≤ c) (h1 : c < 4294967296) : Go.bits .and .u32 c 255 = c % 256 :=
  bits_mask .u32 32 (by decide) (fun n h₀ h₁ => by rw [IntKind.wrap_u32]; omega) 8 (by decide) c h0 (by omega)
theorem dec_at {x : Int} (h0 : 0 ≤ x) (h1 : x < 256) : Ev (fun k => ascii_Decimal.f k x) (st (decD x.toNat)) := by
  have := Decimal_f (n := x.toNat) (by omega)
  rwa [show ((x.toNat : Nat) : Int) = x by omega] at this
theorem rdec_at {x : Int} (h0 : 0 ≤ x) (h1 : x < 256) : Ev (fun k => parapetref1_Decimal.f k x) (st (decD x.toNat)) := by
  have := rDecimal_f (n := x.toNat) (by omega)
  rwa [show ((x.toNat : Nat) : Int) = x by omega] at this
theorem dot_st : (⟨#[46]⟩ : ByteArray) = st [46] := rfl
theorem Text_f {a : Int} (h0 : 0 ≤ a) (h1 : a < 4294967296) : Ev (fun k => host_Text.f k a) (st (textL a)) := by
  unfold host_Text.f
  rw [and255 (c := a / 65536) (by omega) (by omega), and255 (c := a / 256) (by omega) (by omega), and255 h0 h1, w64 (by omega) (by omega), w64 (by omega) (by omega), w64 (by omega) (by omega), w64 (by omega) (by omega), dot_st]
  have l0 := decD_length (a / 16777216).toNat
  have l1 := decD_length (a / 65536 % 256).toNat
  have l2 := decD_length (a / 256 % 256).toNat
  have l3 := decD_length (a % 256).toNat
  refine Ev.bind (dec_at (by omega) (by omega)) ?_
  refine ev_pos (by rw [st_size]; omega) ?_
  refine Ev.bind (dec_at (by omega) (by omega)) ?_
  simp only [st_app, st_size, List.length_append, List.length_cons, List.length_nil]
  refine ev_pos (by omega) (ev_pos (by omega) ?_)
  refine Ev.bind (dec_at (by omega) (by omega)) ?_
  simp only [st_app, st_size, List.length_append, List.length_cons, List.length_nil]
  refine ev_pos (by omega) (ev_pos (by omega) ?_)
  refine Ev.bind (dec_at (by omega) (by omega)) ?_
  simp only [st_app, st_size, List.length_append, List.length_cons, List.length_nil]
  refine ev_pos (by omega) ?_
  exact Ev.now _
theorem oct_range {a : Int} (h0 : 0 ≤ a) (h1 : a < 4294967296) {i : Nat} (hi : i ≤ 3) : 0 ≤ a / 2 ^ (8 * i) ∧ a / 2 ^ (8 * i) < 4294967296 := by
  have : i = 0 ∨ i = 1 ∨ i = 2 ∨ i = 3 := by omega
  rcases this with rfl | rfl | rfl | rfl <;> simp only [Nat.reduceMul, Int.reducePow] <;> omega
theorem oct_at {a : Int} (h0 : 0 ≤ a) (h1 : a < 4294967296) {i : Nat} (hi : i ≤ 3) : wrap64 (Go.bits .and .u32 (shr .u32 a (wrap64 (8 * (i : Int)))) 255) = a / 2 ^ (8 * i) % 256 := by
  have hr := oct_range h0 h1 hi
  rw [w64 (x := 8 * (i : Int)) (by omega) (by omega), show 8 * (i : Int) = ((8 * i : Nat) : Int) by omega, shr_u32 (by omega), and255 hr.1 hr.2, w64 (by omega) (by omega)]
theorem rAddr_step {a : Int} (h0 : 0 ≤ a) (h1 : a < 4294967296) {i : Nat} (hi : i ≤ 3) {out : List Int} (hl : out.length < 10000) {r : ByteArray}
    (H : Ev (fun k => parapetref9_Address.l0 k a (st (out ++ decD (a / 2 ^ (8 * i) % 256).toNat ++ (if 0 < i then [46] else []))) ((i : Int) - 1)) r) : Ev (fun k => parapetref9_Address.l0 k a (st out) (i : Int)) r := by
  have l3 := decD_length (a / 2 ^ (8 * i) % 256).toNat
  have hm : 0 ≤ a / 2 ^ (8 * i) % 256 ∧ a / 2 ^ (8 * i) % 256 < 256 := by omega
  refine Ev.step (fun k => by rw [parapetref9_Address.l0]) ?_
  rw [oct_at h0 h1 hi]
  refine ev_pos (by omega) (ev_pos (by rw [w64 (by omega) (by omega)]; omega) ?_)
  refine Ev.bind (rdec_at hm.1 hm.2) ?_
  rw [dot_st, w64 (x := (i : Int) - 1) (by omega) (by omega)]
  simp only [st_app, st_size, List.length_append]
  refine ev_pos (by omega) ?_
  by_cases h : 0 < i
  · rw [if_pos h] at H
    exact ev_pos (by omega) (ev_pos (by omega) H)
  · rw [if_neg h, List.append_nil] at H
    exact ev_neg (by omega) H
theorem rAddress_f {a : Int} (h0 : 0 ≤ a) (h1 : a < 4294967296) : Ev (fun k => parapetref9_Address.f k a) (st (textL a)) := by
  unfold parapetref9_Address.f
  have l0 := decD_length (a / 2 ^ (8 * 3) % 256).toNat
  have l1 := decD_length (a / 2 ^ (8 * 2) % 256).toNat
  have l2 := decD_length (a / 2 ^ (8 * 1) % 256).toNat
  have l3 := decD_length (a / 2 ^ (8 * 0) % 256).toNat
  refine rAddr_step h0 h1 (i := 3) (out := []) (by omega) (by simp) ?_
  rw [if_pos (by omega)]
  refine rAddr_step h0 h1 (i := 2) (by omega) (by simp only [List.length_append, List.length_cons, List.length_nil]; omega) ?_
  rw [if_pos (by omega)]
  refine rAddr_step h0 h1 (i := 1) (by omega) (by simp only [List.length_append, List.length_cons, List.length_nil]; omega) ?_
  rw [if_pos (by omega)]
  refine rAddr_step h0 h1 (i := 0) (by omega) (by simp only [List.length_append, List.length_cons, List.length_nil]; omega) ?_
  rw [if_neg (by omega)]
  refine Ev.step (fun k => by rw [parapetref9_Address.l0]) ?_
  refine ev_neg (by omega) ?_
  rw [show textL a = [] ++ decD (a / 2 ^ (8 * 3) % 256).toNat ++ [46] ++ decD (a / 2 ^ (8 * 2) % 256).toNat ++ [46] ++ decD (a / 2 ^ (8 * 1) % 256).toNat ++ [46] ++ decD (a / 2 ^ (8 * 0) % 256).toNat ++ [] by
    unfold textL
    simp only [Nat.reduceMul, Int.reducePow, List.nil_append, List.append_nil, Int.ediv_one]
    rw [show a / 16777216 % 256 = a / 16777216 by omega]]
  exact Ev.now _
end Go.Proofs.YtknkokkgefcdbaaDoor.PA
