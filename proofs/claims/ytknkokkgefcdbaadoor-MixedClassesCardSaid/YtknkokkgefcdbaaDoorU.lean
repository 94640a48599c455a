import Derived.Test.YtknkokkgefcdbaaDoorE
import Derived.Test.YtknkokkgefcdbaaDoorG
import Derived.Test.YtknkokkgefcdbaaDoorPAx14
import Derived.Test.YtknkokkgefcdbaaDoorPAx3
import Derived.Test.YtknkokkgefcdbaaDoorPAx4
import Derived.Test.YtknkokkgefcdbaaDoorPAx5
import Derived.Test.YtknkokkgefcdbaaDoorPAx6
import Derived.Test.YtknkokkgefcdbaaDoorPAx7
import Derived.Test.YtknkokkgefcdbaaDoorPL
import Derived.Test.YtknkokkgefcdbaaDoorS2
import Derived.Test.YtknkokkgefcdbaaDoorXU
namespace Go.Proofs.YtknkokkgefcdbaaDoor.PA
open Go.RowKit Go.Proofs.YtknkokkgefcdbaaDoorW.PrintWords Go.Proofs.YtknkokkgefcdbaaDoorW.PrintLast Go.Proofs.YtknkokkgefcdbaaDoorW.PrintMore Go.Proofs.YtknkokkgefcdbaaDoorPL
open Go.Proofs.YtknkokkgefcdbaaDoorWS
set_option linter.unusedVariables false
set_option linter.unusedSimpArgs false
/-! The document's URL: it always answers -/
theorem runeAt_l0 {xs : List Int} (hx : Bytes xs) (hl : xs.length < 1048576) {n least : Int} (hn : n ≤ (xs.length : Int)) (hn0 : 0 ≤ n) : ∀ (d : Nat) (i u : Int), (n - i).toNat = d → 0 ≤ i → ∃ r, Ev (fun k => parapetref9_runeAt.l0 k (st xs) n u least i) r ∧ 0 ≤ r ∧ r ≤ (xs.length : Int)
  | 0, i, u, hd, hi => by
    by_cases h1 : u < least
    · refine ⟨0, ?_, by omega, by omega⟩
      refine Ev.step (fun k => by rw [parapetref9_runeAt.l0]) ?_
      exact ev_neg (by omega) (ev_pos h1 (Ev.now _))
    by_cases h2 : u > 1114111
    · refine ⟨0, ?_, by omega, by omega⟩
      refine Ev.step (fun k => by rw [parapetref9_runeAt.l0]) ?_
      exact ev_neg (by omega) (ev_neg h1 (ev_pos h2 (Ev.now _)))
    by_cases h3 : u ≥ 55296
    · by_cases h4 : u ≤ 57343
      · refine ⟨0, ?_, by omega, by omega⟩
        refine Ev.step (fun k => by rw [parapetref9_runeAt.l0]) ?_
        exact ev_neg (by omega) (ev_neg h1 (ev_neg h2 (ev_pos h3 (ev_pos h4 (Ev.now _)))))
      · refine ⟨n, ?_, hn0, hn⟩
        refine Ev.step (fun k => by rw [parapetref9_runeAt.l0]) ?_
        exact ev_neg (by omega) (ev_neg h1 (ev_neg h2 (ev_pos h3 (ev_neg h4 (Ev.now _)))))
    · refine ⟨n, ?_, hn0, hn⟩
      refine Ev.step (fun k => by rw [parapetref9_runeAt.l0]) ?_
      exact ev_neg (by omega) (ev_neg h1 (ev_neg h2 (ev_neg h3 (Ev.now _))))
  | d + 1, i, u, hd, hi => by
    by_cases h1 : (Go.bits .and .u8 (bt (st xs) i) 192) = 128
    · obtain ⟨r, hr, h2, h3⟩ := runeAt_l0 hx hl hn hn0 (least := least) d (i + 1) (Go.bits .or .i64 (wrap64 (u * 64)) (wrap64 (Go.bits .and .u8 (bt (st xs) i) 63))) (by omega) (by omega)
      refine ⟨r, ?_, h2, h3⟩
      refine Ev.step (fun k => by rw [parapetref9_runeAt.l0]) ?_
      refine ev_pos (by omega) (ev_pos hi (ev_pos (by rw [st_size]; omega) (ev_pos h1 ?_)))
      rw [w64 (x := i + 1) (by omega) (by omega)]
      exact hr
    · refine ⟨0, ?_, by omega, by omega⟩
      refine Ev.step (fun k => by rw [parapetref9_runeAt.l0]) ?_
      exact ev_pos (by omega) (ev_pos hi (ev_pos (by rw [st_size]; omega) (ev_neg h1 (Ev.now _))))
theorem runeAt_j2 {xs : List Int} (hx : Bytes xs) (hl : xs.length < 1048576) {n least u : Int} (hn0 : 0 ≤ n) : ∃ r, Ev (fun k => parapetref9_runeAt.j2 k (st xs) n u least) r ∧ 0 ≤ r ∧ r ≤ (xs.length : Int) := by
  by_cases h : (xs.length : Int) < n
  · refine ⟨0, ?_, by omega, by omega⟩
    refine Ev.step (fun k => by rw [parapetref9_runeAt.j2]) ?_
    exact ev_pos (by rw [st_size]; exact h) (Ev.now _)
  · obtain ⟨r, hr, h2⟩ := runeAt_l0 hx hl (n := n) (least := least) (by omega) hn0 _ 1 u rfl (by omega)
    refine ⟨r, ?_, h2⟩
    refine Ev.step (fun k => by rw [parapetref9_runeAt.j2]) ?_
    exact ev_neg (by rw [st_size]; exact h) hr
theorem runeAt_f {xs : List Int} (hx : Bytes xs) (hl : xs.length < 1048576) (hne : 0 < xs.length) : ∃ r, Ev (fun k => parapetref9_runeAt.f k (st xs)) r ∧ 0 ≤ r ∧ r ≤ (xs.length : Int) := by
  have j1 : ∀ (c u : Int) (b : Bool), ∃ r, Ev (fun k => parapetref9_runeAt.j1 k (st xs) c u b) r ∧ 0 ≤ r ∧ r ≤ (xs.length : Int) := by
    intro c u b
    cases b with
    | true =>
      obtain ⟨r, hr, h2⟩ := runeAt_j2 hx hl (n := 3) (least := 2048) (u := Go.bits .and .i64 u 15) (by omega)
      refine ⟨r, ?_, h2⟩
      refine Ev.step (fun k => by rw [parapetref9_runeAt.j1]) ?_
      exact ev_pos rfl hr
    | false =>
      by_cases h1 : c ≥ 240
      · by_cases h3 : c < 245
        · obtain ⟨r, hr, h2⟩ := runeAt_j2 hx hl (n := 4) (least := 65536) (u := Go.bits .and .i64 u 7) (by omega)
          refine ⟨r, ?_, h2⟩
          refine Ev.step (fun k => by rw [parapetref9_runeAt.j1]) ?_
          exact ev_neg (by simp) (ev_pos h1 (ev_pos h3 hr))
        · refine ⟨0, ?_, by omega, by omega⟩
          refine Ev.step (fun k => by rw [parapetref9_runeAt.j1]) ?_
          exact ev_neg (by simp) (ev_pos h1 (ev_neg h3 (Ev.now _)))
      · refine ⟨0, ?_, by omega, by omega⟩
        refine Ev.step (fun k => by rw [parapetref9_runeAt.j1]) ?_
        exact ev_neg (by simp) (ev_neg h1 (Ev.now _))
  have j0 : ∀ (c u : Int) (b : Bool), ∃ r, Ev (fun k => parapetref9_runeAt.j0 k (st xs) c u b) r ∧ 0 ≤ r ∧ r ≤ (xs.length : Int) := by
    intro c u b
    cases b with
    | true =>
      obtain ⟨r, hr, h2⟩ := runeAt_j2 hx hl (n := 2) (least := 128) (u := Go.bits .and .i64 u 31) (by omega)
      refine ⟨r, ?_, h2⟩
      refine Ev.step (fun k => by rw [parapetref9_runeAt.j0]) ?_
      exact ev_pos rfl hr
    | false =>
      by_cases h1 : c ≥ 224
      · obtain ⟨r, hr, h2⟩ := j1 c u (decide (c < 240))
        refine ⟨r, ?_, h2⟩
        refine Ev.step (fun k => by rw [parapetref9_runeAt.j0]) ?_
        exact ev_neg (by simp) (ev_pos h1 hr)
      · obtain ⟨r, hr, h2⟩ := j1 c u false
        refine ⟨r, ?_, h2⟩
        refine Ev.step (fun k => by rw [parapetref9_runeAt.j0]) ?_
        exact ev_neg (by simp) (ev_neg h1 hr)
  unfold parapetref9_runeAt.f
  by_cases h1 : bt (st xs) 0 < 128
  · exact ⟨1, ev_pos (by rw [st_size]; omega) (ev_pos h1 (Ev.now _)), by omega, by omega⟩
  by_cases h2 : bt (st xs) 0 ≥ 194
  · obtain ⟨r, hr, h3⟩ := j0 (bt (st xs) 0) (wrap64 (bt (st xs) 0)) (decide (bt (st xs) 0 < 224))
    exact ⟨r, ev_pos (by rw [st_size]; omega) (ev_neg h1 (ev_pos h2 hr)), h3⟩
  · obtain ⟨r, hr, h3⟩ := j0 (bt (st xs) 0) (wrap64 (bt (st xs) 0)) false
    exact ⟨r, ev_pos (by rw [st_size]; omega) (ev_neg h1 (ev_neg h2 hr)), h3⟩
theorem Broken_l0 {xs : List Int} (hx : Bytes xs) (hl : xs.length < 1048576) : ∀ (d i : Nat), xs.length - i ≤ d → i ≤ xs.length → ∃ r, Ev (fun k => parapetref9_Broken.l0 k (st xs) (i : Int)) r
  | d, i, hd, hi => by
    by_cases h : i = xs.length
    · refine ⟨((st xs).size : Int), ?_⟩
      refine Ev.step (fun k => by rw [parapetref9_Broken.l0]) ?_
      exact ev_neg (by rw [st_size]; omega) (Ev.now _)
    · cases d with
      | zero => omega
      | succ d =>
        obtain ⟨r, hr, h1, h2⟩ := runeAt_f (hx.drop i) (by rw [List.length_drop]; omega) (by rw [List.length_drop]; omega)
        rw [List.length_drop] at h2
        by_cases h0 : r = 0
        · refine ⟨(i : Int), ?_⟩
          refine Ev.step (fun k => by rw [parapetref9_Broken.l0]) ?_
          refine ev_pos (by rw [st_size]; omega) (ev_pos (by omega) (ev_pos (by rw [st_size]; omega) ?_))
          rw [Int.toNat_natCast, st_extr]
          exact Ev.bind hr (ev_pos h0 (Ev.now _))
        · obtain ⟨m, rfl⟩ : ∃ m : Nat, r = (m : Int) := ⟨r.toNat, by omega⟩
          obtain ⟨q, hq⟩ := Broken_l0 hx hl d (i + m) (by omega) (by omega)
          refine ⟨q, ?_⟩
          refine Ev.step (fun k => by rw [parapetref9_Broken.l0]) ?_
          refine ev_pos (by rw [st_size]; omega) (ev_pos (by omega) (ev_pos (by rw [st_size]; omega) ?_))
          rw [Int.toNat_natCast, st_extr]
          refine Ev.bind hr (ev_neg h0 ?_)
          rw [w64 (by omega) (by omega), show (i : Int) + (m : Int) = ((i + m : Nat) : Int) by omega]
          exact hq
theorem UTF8_any {xs : List Int} (hx : Bytes xs) (hl : xs.length < 1048576) : ∃ b, Ev (fun k => parapetref9_UTF8.f k (st xs)) b := by
  obtain ⟨r, hr⟩ := Broken_l0 hx hl xs.length 0 (by omega) (by omega)
  refine ⟨r == ((st xs).size : Int), ?_⟩
  unfold parapetref9_UTF8.f parapetref9_Broken.f
  exact Ev.bind hr (Ev.now _)
theorem clean_l2 {xs : List Int} (hx : Bytes xs) (hl : xs.length < 1048576) : ∀ (suf pre acc : List Int), xs = pre ++ suf → acc.length ≤ pre.length → Bytes acc → ∃ ys, Ev (fun k => parapetref9_clean.l2 k (st xs) acc (pre.length : Int)) (st ys) ∧ Bytes ys ∧ ys.length ≤ xs.length
  | [], pre, acc, e, ha, hb => by
    have e1 := mid_end e
    refine ⟨acc, ?_, hb, by omega⟩
    refine Ev.step (fun k => by rw [parapetref9_clean.l2]) ?_
    exact ev_neg (by rw [st_size]; omega) (Ev.now _)
  | x :: suf, pre, acc, e, ha, hb => by
    obtain ⟨e1, e2, e3⟩ := mid e
    have hbx := mid_byte hx e
    obtain ⟨y1, r1, b1, l1⟩ := clean_l2 hx hl suf (pre ++ [x]) acc e3 (by simp only [List.length_append, List.length_cons, List.length_nil]; omega) hb
    obtain ⟨y2, r2, b2, l2⟩ := clean_l2 hx hl suf (pre ++ [x]) (acc ++ [x]) e3 (by simp only [List.length_append, List.length_cons, List.length_nil]; omega) (hb.append (Bytes.cons hbx Bytes.nil))
    rw [← e2] at r1 r2
    by_cases h : x = 9 ∨ x = 10 ∨ x = 13
    · refine ⟨y1, ?_, b1, l1⟩
      refine Ev.step (fun k => by rw [parapetref9_clean.l2]) ?_
      refine ev_pos (by rw [st_size]; omega) (ev_pos (by omega) ?_)
      rw [mid_bt hx e, w64 (by omega) (by omega)]
      by_cases h1 : x = 9
      · exact ev_pos h1 r1
      by_cases h2 : x = 10
      · exact ev_neg h1 (ev_pos h2 r1)
      · exact ev_neg h1 (ev_neg h2 (ev_pos (by omega) r1))
    · refine ⟨y2, ?_, b2, l2⟩
      refine Ev.step (fun k => by rw [parapetref9_clean.l2]) ?_
      refine ev_pos (by rw [st_size]; omega) (ev_pos (by omega) ?_)
      rw [mid_bt hx e, w64 (by omega) (by omega)]
      exact ev_neg (by omega) (ev_neg (by omega) (ev_neg (by omega) (ev_pos (by omega) r2)))
theorem clean_l1 : ∀ (n : Nat) {xs : List Int}, xs.length = n → Bytes xs → xs.length < 1048576 → ∃ ys, Ev (fun k => parapetref9_clean.l1 k (st xs)) (st ys) ∧ Bytes ys ∧ ys.length ≤ xs.length
  | 0, xs, hn, hx, hl => by
    obtain ⟨ys, hr, hb, hy⟩ := clean_l2 hx hl xs [] [] rfl (by simp) Bytes.nil
    refine ⟨ys, ?_, hb, hy⟩
    refine Ev.step (fun k => by rw [parapetref9_clean.l1]) ?_
    refine ev_neg (by rw [st_size]; omega) ?_
    refine Ev.step (fun k => by rw [parapetref9_clean.j3]) ?_
    exact hr
  | n + 1, xs, hn, hx, hl => by
    by_cases h : bt (st xs) (wrap64 ((xs.length : Int) - 1)) ≤ 32
    · obtain ⟨ys, hr, hb, hy⟩ := clean_l1 n (xs := xs.take n) (by rw [List.length_take]; omega) (hx.take n) (by rw [List.length_take]; omega)
      refine ⟨ys, ?_, hb, by rw [List.length_take] at hy; omega⟩
      refine Ev.step (fun k => by rw [parapetref9_clean.l1]) ?_
      rw [st_size]
      refine ev_pos (by omega) (ev_pos (by rw [w64 (by omega) (by omega)]; omega) (ev_pos (by rw [w64 (by omega) (by omega)]; omega) (ev_pos h (ev_pos (by rw [w64 (by omega) (by omega)]; omega) ?_))))
      rw [w64 (by omega) (by omega), show ((xs.length : Int) - 1).toNat = n by omega, st_extl]
      exact hr
    · obtain ⟨ys, hr, hb, hy⟩ := clean_l2 hx hl xs [] [] rfl (by simp) Bytes.nil
      refine ⟨ys, ?_, hb, hy⟩
      refine Ev.step (fun k => by rw [parapetref9_clean.l1]) ?_
      rw [st_size]
      refine ev_pos (by omega) (ev_pos (by rw [w64 (by omega) (by omega)]; omega) (ev_pos (by rw [w64 (by omega) (by omega)]; omega) (ev_neg h ?_)))
      refine Ev.step (fun k => by rw [parapetref9_clean.j3]) ?_
      exact hr
theorem clean_l0 : ∀ (n : Nat) {xs : List Int}, xs.length = n → Bytes xs → xs.length < 1048576 → ∃ ys, Ev (fun k => parapetref9_clean.l0 k (st xs)) (st ys) ∧ Bytes ys ∧ ys.length ≤ xs.length
  | 0, xs, hn, hx, hl => by
    obtain ⟨ys, hr, hb, hy⟩ := clean_l1 _ rfl hx hl
    refine ⟨ys, ?_, hb, hy⟩
    refine Ev.step (fun k => by rw [parapetref9_clean.l0]) ?_
    refine ev_neg (by rw [st_size]; omega) ?_
    refine Ev.step (fun k => by rw [parapetref9_clean.j1]) ?_
    exact hr
  | n + 1, xs, hn, hx, hl => by
    by_cases h : bt (st xs) 0 ≤ 32
    · obtain ⟨ys, hr, hb, hy⟩ := clean_l0 n (xs := xs.drop 1) (by rw [List.length_drop]; omega) (hx.drop 1) (by rw [List.length_drop]; omega)
      refine ⟨ys, ?_, hb, by rw [List.length_drop] at hy; omega⟩
      refine Ev.step (fun k => by rw [parapetref9_clean.l0]) ?_
      refine ev_pos (by rw [st_size]; omega) (ev_pos (by rw [st_size]; omega) (ev_pos h (ev_pos (by rw [st_size]; omega) ?_)))
      rw [st_extr]
      exact hr
    · obtain ⟨ys, hr, hb, hy⟩ := clean_l1 _ rfl hx hl
      refine ⟨ys, ?_, hb, hy⟩
      refine Ev.step (fun k => by rw [parapetref9_clean.l0]) ?_
      refine ev_pos (by rw [st_size]; omega) (ev_pos (by rw [st_size]; omega) (ev_neg h ?_))
      refine Ev.step (fun k => by rw [parapetref9_clean.j1]) ?_
      exact hr
theorem clean_any {xs : List Int} (hx : Bytes xs) (hl : xs.length < 1048576) : ∃ ys, Ev (fun k => parapetref9_clean.f k (st xs)) (st ys) ∧ Bytes ys ∧ ys.length ≤ xs.length := by
  unfold parapetref9_clean.f
  exact clean_l0 _ rfl hx hl
theorem scheme_l0 {xs : List Int} (hx : Bytes xs) (hl : xs.length < 1048576) : ∀ (suf pre : List Int), xs = pre ++ suf → ∃ n, Ev (fun k => parapetref9_scheme.l0 k (st xs) (pre.length : Int)) n ∧ 0 ≤ n ∧ (n = 0 ∨ n < (xs.length : Int))
  | [], pre, e => by
    have e1 := mid_end e
    refine ⟨0, ?_, by omega, .inl rfl⟩
    refine Ev.step (fun k => by rw [parapetref9_scheme.l0]) ?_
    exact ev_neg (by rw [st_size]; omega) (ev_pos (by rw [st_size]; omega) (Ev.now _))
  | x :: suf, pre, e => by
    obtain ⟨e1, e2, e3⟩ := mid e
    obtain ⟨n, hr, hn⟩ := scheme_l0 hx hl suf _ e3
    rw [← e2] at hr
    have let_ : ∃ b, parapetref1_Letter.f x = some b := by unfold parapetref1_Letter.f; (repeat' split) <;> exact ⟨_, rfl⟩
    have dig_ : ∃ b, parapetref1_Digit.f x = some b := by unfold parapetref1_Digit.f; (repeat' split) <;> exact ⟨_, rfl⟩
    obtain ⟨b1, h1⟩ := let_
    obtain ⟨b2, h2⟩ := dig_
    have start : ∀ r, Ev (fun k => if b1 = true then parapetref9_scheme.l0 k (st xs) ((pre.length : Int) + 1) else if b2 = true then parapetref9_scheme.l0 k (st xs) ((pre.length : Int) + 1) else if x = 43 then parapetref9_scheme.l0 k (st xs) ((pre.length : Int) + 1) else if x = 45 then parapetref9_scheme.l0 k (st xs) ((pre.length : Int) + 1) else if x = 46 then parapetref9_scheme.l0 k (st xs) ((pre.length : Int) + 1) else if (pre.length : Int) = ((st xs).size : Int) then some 0 else if x = 58 then some (pre.length : Int) else some 0) r → Ev (fun k => parapetref9_scheme.l0 k (st xs) (pre.length : Int)) r := by
      intro r H
      refine Ev.step (fun k => by rw [parapetref9_scheme.l0]) ?_
      refine ev_pos (by rw [st_size]; omega) (ev_pos (by omega) ?_)
      rw [mid_bt hx e, w64 (by omega) (by omega)]
      refine ev_const h1 ?_
      cases b1 with
      | true => exact ev_pos rfl (by simpa using H)
      | false =>
        refine ev_neg (by simp) (ev_const h2 ?_)
        simpa using H
    by_cases c : b1 = true ∨ b2 = true ∨ x = 43 ∨ x = 45 ∨ x = 46
    · refine ⟨n, start n ?_, hn⟩
      by_cases c1 : b1 = true
      · exact ev_pos c1 hr
      by_cases c2 : b2 = true
      · exact ev_neg c1 (ev_pos c2 hr)
      by_cases c3 : x = 43
      · exact ev_neg c1 (ev_neg c2 (ev_pos c3 hr))
      by_cases c4 : x = 45
      · exact ev_neg c1 (ev_neg c2 (ev_neg c3 (ev_pos c4 hr)))
      have c5 : x = 46 := by
        rcases c with c | c | c | c | c
        · exact absurd c c1
        · exact absurd c c2
        · exact absurd c c3
        · exact absurd c c4
        · exact c
      exact ev_neg c1 (ev_neg c2 (ev_neg c3 (ev_neg c4 (ev_pos c5 hr))))
    · have c1 : ¬ b1 = true := fun h => c (.inl h)
      have c2 : ¬ b2 = true := fun h => c (.inr (.inl h))
      have c3 : ¬ x = 43 := fun h => c (.inr (.inr (.inl h)))
      have c4 : ¬ x = 45 := fun h => c (.inr (.inr (.inr (.inl h))))
      have c5 : ¬ x = 46 := fun h => c (.inr (.inr (.inr (.inr h))))
      have c6 : ¬ (pre.length : Int) = ((st xs).size : Int) := by rw [st_size]; omega
      by_cases c7 : x = 58
      · exact ⟨(pre.length : Int), start _ (ev_neg c1 (ev_neg c2 (ev_neg c3 (ev_neg c4 (ev_neg c5 (ev_neg c6 (ev_pos c7 (Ev.now _)))))))), by omega, .inr (by omega)⟩
      · exact ⟨0, start _ (ev_neg c1 (ev_neg c2 (ev_neg c3 (ev_neg c4 (ev_neg c5 (ev_neg c6 (ev_neg c7 (Ev.now _)))))))), by omega, .inl rfl⟩
theorem scheme_any {xs : List Int} (hx : Bytes xs) (hl : xs.length < 1048576) : ∃ n, Ev (fun k => parapetref9_scheme.f k (st xs)) n ∧ 0 ≤ n ∧ (n = 0 ∨ n < (xs.length : Int)) := by
  unfold parapetref9_scheme.f
  cases xs with
  | nil =>
    refine ⟨0, ev_pos (toList_nil.2 rfl) ?_, by omega, .inl rfl⟩
    refine Ev.step (fun k => by rw [parapetref9_scheme.j0]) ?_
    exact ev_pos rfl (Ev.now _)
  | cons x xs =>
    obtain ⟨b, hb⟩ : ∃ b, parapetref1_Letter.f (bt (st (x :: xs)) 0) = some b := by unfold parapetref1_Letter.f; (repeat' split) <;> exact ⟨_, rfl⟩
    cases b with
    | false =>
      refine ⟨0, ev_neg (fun h => by have := toList_nil.1 h; cases this) (ev_pos (by rw [st_size, List.length_cons]; omega) (ev_const hb ?_)), by omega, .inl rfl⟩
      refine Ev.step (fun k => by rw [parapetref9_scheme.j0]) ?_
      exact ev_pos rfl (Ev.now _)
    | true =>
      obtain ⟨n, hr, hn⟩ := scheme_l0 hx hl xs [x] rfl
      refine ⟨n, ev_neg (fun h => by have := toList_nil.1 h; cases this) (ev_pos (by rw [st_size, List.length_cons]; omega) (ev_const hb ?_)), hn⟩
      refine Ev.step (fun k => by rw [parapetref9_scheme.j0]) ?_
      exact ev_neg (by simp) hr
/-- a scheme's port -/
def dflt (s : List Int) : Int × Bool :=
  if s = [104, 116, 116, 112] ∨ s = [119, 115] then (80, true) else if s = [104, 116, 116, 112, 115] ∨ s = [119, 115, 115] then (443, true) else if s = [102, 116, 112] then (21, true) else (0, false)
theorem st_lit {xs : List Int} (hx : Bytes xs) (l : List Int) (hl : Bytes l) (u : List UInt8) (hu : (st l).toList = u) : (st xs).toList = u ↔ xs = l := by
  rw [← hu]; exact toList_eq hx hl
theorem bytes_lit {l : List Int} (h : l.all (fun c => decide (0 ≤ c) && decide (c < 256)) = true) : Bytes l := fun x hx => by
  have := List.all_eq_true.1 h x hx
  simpa using this
theorem rDefault_f {xs : List Int} (hx : Bytes xs) : Ev (fun k => parapetref9_Default.f k (st xs)) (dflt xs) := by
  have e1 : (st xs).toList = [104, 116, 116, 112] ↔ xs = [104, 116, 116, 112] := st_lit hx _ (bytes_lit (by decide)) _ (by rw [Lib.toList_data]; rfl)
  have e2 : (st xs).toList = [119, 115] ↔ xs = [119, 115] := st_lit hx _ (bytes_lit (by decide)) _ (by rw [Lib.toList_data]; rfl)
  have e3 : (st xs).toList = [104, 116, 116, 112, 115] ↔ xs = [104, 116, 116, 112, 115] := st_lit hx _ (bytes_lit (by decide)) _ (by rw [Lib.toList_data]; rfl)
  have e4 : (st xs).toList = [119, 115, 115] ↔ xs = [119, 115, 115] := st_lit hx _ (bytes_lit (by decide)) _ (by rw [Lib.toList_data]; rfl)
  have e5 : (st xs).toList = [102, 116, 112] ↔ xs = [102, 116, 112] := st_lit hx _ (bytes_lit (by decide)) _ (by rw [Lib.toList_data]; rfl)
  have b3 : ((st xs).toList == [104, 116, 116, 112, 115]) = decide (xs = [104, 116, 116, 112, 115]) := by rw [Bool.eq_iff_iff, beq_iff_eq, decide_eq_true_iff]; exact e3
  have b4 : ((st xs).toList == [119, 115, 115]) = decide (xs = [119, 115, 115]) := by rw [Bool.eq_iff_iff, beq_iff_eq, decide_eq_true_iff]; exact e4
  have b1 : ((st xs).toList == [104, 116, 116, 112]) = decide (xs = [104, 116, 116, 112]) := by rw [Bool.eq_iff_iff, beq_iff_eq, decide_eq_true_iff]; exact e1
  have b2 : ((st xs).toList == [119, 115]) = decide (xs = [119, 115]) := by rw [Bool.eq_iff_iff, beq_iff_eq, decide_eq_true_iff]; exact e2
  have j1 : ∀ b : Bool, (xs = [104, 116, 116, 112, 115] ∨ xs = [119, 115, 115] ↔ b = true) → Ev (fun k => parapetref9_Default.j1 k (st xs) b) (if xs = [104, 116, 116, 112, 115] ∨ xs = [119, 115, 115] then (443, true) else if xs = [102, 116, 112] then (21, true) else (0, false)) := by
    intro b hb
    refine Ev.step (fun k => by rw [parapetref9_Default.j1]) ?_
    cases b with
    | true => rw [if_pos (hb.2 rfl)]; exact ev_pos rfl (Ev.now _)
    | false =>
      have hn : ¬ (xs = [104, 116, 116, 112, 115] ∨ xs = [119, 115, 115]) := fun h => by have := hb.1 h; cases this
      rw [if_neg hn]
      refine ev_neg (by simp) ?_
      by_cases h : xs = [102, 116, 112]
      · rw [if_pos h]; exact ev_pos (e5.2 h) (Ev.now _)
      · rw [if_neg h]; exact ev_neg (fun x => h (e5.1 x)) (Ev.now _)
  have j0 : ∀ b : Bool, (xs = [104, 116, 116, 112] ∨ xs = [119, 115] ↔ b = true) → Ev (fun k => parapetref9_Default.j0 k (st xs) b) (dflt xs) := by
    intro b hb
    unfold dflt
    refine Ev.step (fun k => by rw [parapetref9_Default.j0]) ?_
    cases b with
    | true => rw [if_pos (hb.2 rfl)]; exact ev_pos rfl (Ev.now _)
    | false =>
      have hn : ¬ (xs = [104, 116, 116, 112] ∨ xs = [119, 115]) := fun h => by have := hb.1 h; cases this
      rw [if_neg hn]
      refine ev_neg (by simp) ?_
      by_cases h : xs = [104, 116, 116, 112, 115]
      · refine ev_pos (e3.2 h) ?_
        exact j1 _ (by rw [b3, decide_eq_true_iff]; exact ⟨fun _ => h, fun x => .inl x⟩)
      · refine ev_neg (fun x => h (e3.1 x)) ?_
        exact j1 _ (by rw [b4, decide_eq_true_iff]; exact ⟨fun x => x.elim (fun y => absurd y h) id, .inr⟩)
  unfold parapetref9_Default.f
  by_cases h : xs = [104, 116, 116, 112]
  · refine ev_pos (e1.2 h) ?_
    exact j0 _ (by rw [b1, decide_eq_true_iff]; exact ⟨fun _ => h, fun x => .inl x⟩)
  · refine ev_neg (fun x => h (e1.1 x)) ?_
    exact j0 _ (by rw [b2, decide_eq_true_iff]; exact ⟨fun x => x.elim (fun y => absurd y h) id, .inr⟩)
theorem slashes_any : ∀ (n : Nat) {xs : List Int}, xs.length = n → Bytes xs → xs.length < 1048576 → ∃ ys, Ev (fun k => slashes k (st xs)) (st ys) ∧ Bytes ys ∧ ys.length ≤ xs.length
  | 0, xs, hn, hx, hl => by
    refine ⟨xs, ?_, hx, Nat.le_refl _⟩
    refine Ev.step (fun k => by rw [slashes]) ?_
    exact ev_neg (by rw [st_size]; omega) (Ev.now _)
  | n + 1, xs, hn, hx, hl => by
    obtain ⟨ys, hr, hb, hy⟩ := slashes_any n (xs := xs.drop 1) (by rw [List.length_drop]; omega) (hx.drop 1) (by rw [List.length_drop]; omega)
    rw [← st_extr] at hr
    rw [List.length_drop] at hy
    by_cases h1 : bt (st xs) 0 = 47
    · refine ⟨ys, ?_, hb, by omega⟩
      refine Ev.step (fun k => by rw [slashes]) ?_
      exact ev_pos (by rw [st_size]; omega) (ev_pos h1 hr)
    by_cases h2 : bt (st xs) 0 = 92
    · refine ⟨ys, ?_, hb, by omega⟩
      refine Ev.step (fun k => by rw [slashes]) ?_
      exact ev_pos (by rw [st_size]; omega) (ev_neg h1 (ev_pos h2 hr))
    · refine ⟨xs, ?_, hx, Nat.le_refl _⟩
      refine Ev.step (fun k => by rw [slashes]) ?_
      exact ev_pos (by rw [st_size]; omega) (ev_neg h1 (ev_neg h2 (Ev.now _)))
theorem upTo_l0 {xs of : List Int} (hx : Bytes xs) (ho : Bytes of) (hl : xs.length < 1048576) (hlo : of.length < 1048576) : ∀ (suf pre : List Int), xs = pre ++ suf → ∃ n : Nat, Ev (fun k => parapetref9_upTo.l0 k (st xs) (st of) (pre.length : Int)) (n : Int) ∧ n ≤ xs.length
  | [], pre, e => by
    have e1 := mid_end e
    refine ⟨xs.length, ?_, Nat.le_refl _⟩
    refine Ev.step (fun k => by rw [parapetref9_upTo.l0]) ?_
    refine ev_neg (by rw [st_size]; omega) ?_
    rw [st_size]
    exact Ev.now _
  | x :: suf, pre, e => by
    obtain ⟨e1, e2, e3⟩ := mid e
    obtain ⟨n, hr, hn⟩ := upTo_l0 hx ho hl hlo suf _ e3
    rw [← e2] at hr
    have hh := Has_f x ho (show of.length < 4611686018427387904 by omega)
    cases hd : decide (x ∈ of) with
    | true =>
      refine ⟨pre.length, ?_, by omega⟩
      refine Ev.step (fun k => by rw [parapetref9_upTo.l0]) ?_
      refine ev_pos (by rw [st_size]; omega) (ev_pos (by omega) ?_)
      rw [mid_bt hx e]
      rw [hd] at hh
      exact Ev.bind hh (ev_pos rfl (Ev.now _))
    | false =>
      refine ⟨n, ?_, hn⟩
      refine Ev.step (fun k => by rw [parapetref9_upTo.l0]) ?_
      refine ev_pos (by rw [st_size]; omega) (ev_pos (by omega) ?_)
      rw [mid_bt hx e, w64 (by omega) (by omega)]
      rw [hd] at hh
      exact Ev.bind hh (ev_neg (by simp) hr)
theorem upTo_any {xs of : List Int} (hx : Bytes xs) (ho : Bytes of) (hl : xs.length < 1048576) (hlo : of.length < 1048576) : ∃ n : Nat, Ev (fun k => parapetref9_upTo.f k (st xs) (st of)) (n : Int) ∧ n ≤ xs.length := by
  unfold parapetref9_upTo.f
  exact upTo_l0 hx ho hl hlo xs [] rfl
theorem In_any (c s : Int) : ∃ b, Ev (fun k => parapetref9_In.f k c s) b := by
  have hh : ∀ (of : List Int), Bytes of → of.length < 1048576 → ∃ b, Ev (fun k => if c < 33 then some true else if c > 126 then some true else (parapetref1_Has.f k (st of) c).bind fun t => some t) b := by
    intro of ho hl
    by_cases h1 : c < 33
    · exact ⟨true, ev_pos h1 (Ev.now _)⟩
    by_cases h2 : c > 126
    · exact ⟨true, ev_neg h1 (ev_pos h2 (Ev.now _))⟩
    · exact ⟨_, ev_neg h1 (ev_neg h2 (Ev.bind (Has_f c ho (by omega)) (Ev.now _)))⟩
  unfold parapetref9_In.f
  by_cases h1 : s = 1
  · obtain ⟨b, hb⟩ := hh [34, 60, 62, 96] (bytes_lit (by decide)) (by decide)
    exact ⟨b, ev_pos h1 hb⟩
  by_cases h2 : s = 2
  · obtain ⟨b, hb⟩ := hh [34, 35, 39, 60, 62] (bytes_lit (by decide)) (by decide)
    exact ⟨b, ev_neg h1 (ev_pos h2 hb)⟩
  by_cases h3 : s = 3
  · obtain ⟨b, hb⟩ := hh [34, 35, 60, 62, 63, 94, 96, 123, 125] (bytes_lit (by decide)) (by decide)
    exact ⟨b, ev_neg h1 (ev_neg h2 (ev_pos h3 hb))⟩
  by_cases h4 : s = 4
  · obtain ⟨b, hb⟩ := hh [34, 35, 60, 62, 63, 94, 96, 123, 125, 47, 58, 59, 61, 64, 91, 92, 93, 124] (bytes_lit (by decide)) (by decide)
    exact ⟨b, ev_neg h1 (ev_neg h2 (ev_neg h3 (ev_pos h4 hb)))⟩
  · exact ⟨false, ev_neg h1 (ev_neg h2 (ev_neg h3 (ev_neg h4 (Ev.now _))))⟩
end Go.Proofs.YtknkokkgefcdbaaDoor.PA
