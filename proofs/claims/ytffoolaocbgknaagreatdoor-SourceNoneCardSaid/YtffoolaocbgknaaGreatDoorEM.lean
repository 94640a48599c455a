import Derived.Test.YtffoolaocbgknaaGreatDoorEL
/-! Paths of sources as the document matches them. -/
namespace GoD
open Go Go.Proofs
set_option linter.unusedVariables false
set_option linter.unusedSimpArgs false
set_option maxHeartbeats 4000000
set_option maxRecDepth 100000
/-- are the segments of one the other's first ones, decoded? -/
def segB : List (List Int) → List (List Int) → Bool
  | [], _ => true
  | x :: s, y :: t => decide (decodeL x = decodeL y) && segB s t
  | _ :: _, [] => false
def pathB (p l : List Int) : Bool :=
  if p = [] ∨ (p = [47] ∧ l = []) then true
  else if p.getLast? = some 47 then decide ((splitL 47 p).length ≤ (splitL 47 l).length) && segB (splitL 47 p).dropLast (splitL 47 l)
  else decide ((splitL 47 p).length = (splitL 47 l).length) && segB (splitL 47 p) (splitL 47 l)
theorem segB_drop {a b : List (List Int)} {i : Nat} (h1 : i < a.length) (h2 : i < b.length) : segB (a.drop i) (b.drop i) = (decide (decodeL a[i] = decodeL b[i]) && segB (a.drop (i + 1)) (b.drop (i + 1))) := by
  rw [List.drop_eq_getElem_cons h1, List.drop_eq_getElem_cons h2, segB]
noncomputable def pathLoop : Code := loop1 Tryz.f18
theorem path_loop {P : Ex → Tm → Heap → Prop} {k : List Todo} {x y : List (List Int)} {m b1 b2 : Nat} {h : Heap} (hm : m ≤ x.length) (hm2 : m ≤ y.length) (hml : m ≤ 1048577) (hsx : ∀ p ∈ x, p.length ≤ 1048576) (hsy : ∀ p ∈ y, p.length ≤ 1048576)
    (hx : ∀ t h1, segB (x.take m) y = true → Ext h h1 → RunX (ctx Tryz.prog G0 [(48, rSplitC), (49, rDecodeC)]) P k (.e 0) t h1)
    (hr : ∀ t h1, segB (x.take m) y = false → get t 4 = .b false → Ext h h1 → RunX (ctx Tryz.prog G0 [(48, rSplitC), (49, rDecodeC)]) P k .r t h1)
    {t : Tm} {h1 : Heap} (t5 : get t 5 = .sl b1 0 m 1) (t6 : get t 6 = .sl b2 0 y.length 1) (t8 : get t 8 = .i .i64 0) (g1 : hget h1 b1 = ⟨2, false, sts x⟩) (g2 : hget h1 b2 = ⟨2, false, sts y⟩) (he : Ext h h1) : Run (ctx Tryz.prog G0 [(48, rSplitC), (49, rDecodeC)]) P (.again pathLoop :: k) t h1 := by
  refine run_inv _ _ _ _ _ (fun (i : Nat) t h1 => i ≤ m ∧ get t 5 = .sl b1 0 m 1 ∧ get t 6 = .sl b2 0 y.length 1 ∧ get t 8 = .i .i64 i ∧ hget h1 b1 = ⟨2, false, sts x⟩ ∧ hget h1 b2 = ⟨2, false, sts y⟩ ∧ Ext h h1 ∧ segB ((x.take m).drop i) (y.drop i) = segB (x.take m) y) (fun i => m - i) _ (x := 0) ⟨by simp, t5, t6, t8, g1, g2, he, rfl⟩ ?_
  rintro i t h1 ⟨hi, t5, t6, t8, g1, g2, he, ha⟩ ih
  by_cases hlt : i < m
  · have hix : i < x.length := by omega
    have hiy : i < y.length := by omega
    rw [segB_drop (by simp; omega) hiy, List.getElem_take] at ha
    have l1 := hsx _ (List.getElem_mem hix)
    have l2 := hsy _ (List.getElem_mem hiy)
    have d1 := ldN_s1 hix
    have d2 := ldN_s1 hiy
    obtain ⟨u, hu⟩ : ∃ u, x[i] = u := ⟨_, rfl⟩
    obtain ⟨v, hv⟩ : ∃ v, y[i] = v := ⟨_, rfl⟩
    rw [hu] at d1 l1 ha; rw [hv] at d2 l2 ha
    by_cases c1 : decodeL u = decodeL v
    · rw [decide_eq_true c1, Bool.true_and] at ha
      simp -implicitDefEqProofs [go_sem, pathLoop, loop1, loopC, Tryz.f18, t5, t6, t8, hlt, hiy, g1, g2, d1, d2, rDecodeC, l1, l2, c1]
      refine ih (i + 1) _ _ (by omega) ⟨hlt, ?_⟩
      simp -implicitDefEqProofs [go_sem, t5, t6, t8, g1, g2, he, i64_n (show i < 1152921504606846976 by omega)]
      exact ha
    · rw [decide_eq_false c1, Bool.false_and] at ha
      simp -implicitDefEqProofs [go_sem, pathLoop, loop1, loopC, Tryz.f18, t5, t6, t8, hlt, hiy, g1, g2, d1, d2, rDecodeC, l1, l2, c1]
      exact hr _ _ ha.symm (by simp -implicitDefEqProofs [go_sem]) he
  · have e : (x.take m).drop i = [] := List.drop_eq_nil_of_le (by simp; omega)
    rw [e, segB] at ha
    simp -implicitDefEqProofs [go_sem, pathLoop, loop1, loopC, Tryz.f18, t5, t6, t8, hlt]
    exact hx _ _ ha.symm he
def rPathMatchC : Ct := fun args h => match args with | [.s p, .s l] => if p.length ≤ 1048576 ∧ l.length ≤ 1048576 then some (.b (pathB p l), h) else none | _ => none
theorem rPathMatch_ok : CtOk Tryz.prog G0 18 rPathMatchC := by
  refine ct_plain (n := 2) fol (sound_cons rSplit_ok (sound_cons rDecode_ok sound_nil)) (by kernel_rfl) Tryz.func18 rfl fun args h v h' hc r xs H hr hx => ?_
  unfold rPathMatchC at hc; split at hc <;> (try split at hc) <;> cases hc
  rename_i p l hl
  obtain ⟨hpl, hll⟩ := hl
  refine ⟨rfl, rfl, by simp [renV, bndV, renL, bndL], ?_⟩
  by_cases h1 : p = []
  · simp -implicitDefEqProofs [go_sem, Tryz.f18, h1, pathB]
  by_cases h2 : p = [47] ∧ l = []
  · simp -implicitDefEqProofs [go_sem, Tryz.f18, h2.1, h2.2, pathB]
  obtain ⟨x, hx1⟩ : ∃ x, splitL 47 p = x := ⟨_, rfl⟩
  obtain ⟨y, hy1⟩ : ∃ y, splitL 47 l = y := ⟨_, rfl⟩
  obtain ⟨res, hE⟩ : ∃ v, pathB p l = v := ⟨_, rfl⟩
  have hres := hE
  rw [hE]
  unfold pathB at hres
  rw [hx1, hy1, if_neg (by simp only [not_or]; exact ⟨h1, h2⟩)] at hres
  obtain ⟨n, hn⟩ : ∃ n, p.length = n + 1 := ⟨p.length - 1, by have := List.length_pos_iff.2 h1; omega⟩
  have hn1 : n < p.length := by omega
  obtain ⟨c, hc⟩ : ∃ c, p[n] = c := ⟨_, rfl⟩
  have hlast : p.getLast? = some c := by rw [List.getLast?_eq_getElem?, hn, Nat.add_sub_cancel, List.getElem?_eq_getElem hn1, hc]
  rw [hlast] at hres
  have hnl : (p.length : Int) = (n : Int) + 1 := by omega
  have c4 : (n : Int) < (n : Int) + 1 := by omega
  have hsx : ∀ q ∈ x, q.length ≤ 1048576 := fun q hq => Nat.le_trans (splitL_mem (hx1 ▸ hq)) hpl
  have hsy : ∀ q ∈ y, q.length ≤ 1048576 := fun q hq => Nat.le_trans (splitL_mem (hy1 ▸ hq)) hll
  have hxn : x.length ≤ 1048577 := by have := splitL_len 47 p; rw [hx1] at this; omega
  have hx0 : 0 < x.length := List.length_pos_iff.2 (hx1 ▸ splitL_ne 47 p)
  have h2' : ¬ (p = [47] ∧ l.isEmpty = true) := by simpa using h2
  have emp : ∀ {a : List Int}, ¬ a = [] → a.isEmpty = false := fun {a} h => by cases a with | nil => exact absurd rfl h | cons => rfl
  have hp0 := emp h1
  by_cases e1 : y.length < x.length
  · have : res = false := by
      rw [← hres]
      split
      · rw [decide_eq_false (by omega)]; rfl
      · rw [decide_eq_false (by omega)]; rfl
    subst this
    by_cases e2 : p = [47]
    · have f2 : (p = [47]) = True := eq_true e2
      have f3 : l.isEmpty = false := emp fun e => h2 ⟨e2, e⟩
      simp -implicitDefEqProofs [go_sem, Tryz.f18, rSplitC, hpl, hll, h1, hp0, f2, f3, hx1, hy1, hnl, hn1, c4, hc, e1, w64 (x := (n : Int)) (by omega)]
    · have f2 : ¬ p = [47] := e2
      have f3 : True := trivial
      simp -implicitDefEqProofs [go_sem, Tryz.f18, rSplitC, hpl, hll, h1, hp0, f2, f3, hx1, hy1, hnl, hn1, c4, hc, e1, w64 (x := (n : Int)) (by omega)]
  · have e1' : x.length ≤ y.length := by omega
    have g4 : (1 : Int) ≤ (x.length : Int) := by omega
    have g5 : 1 ≤ x.length := by omega
    have g6 : 0 < x.length := by omega
    have g1 : (0 : Int) ≤ (x.length : Int) - 1 := by omega
    have g2 : (x.length : Int) - 1 ≤ x.length := by omega
    have g3 : ((x.length : Int) - 1).toNat = x.length - 1 := by omega
    by_cases e4 : c = 47
    · rw [if_pos (by rw [e4]), decide_eq_true e1', Bool.true_and, List.dropLast_eq_take] at hres
      by_cases e2 : p = [47]
      · have f2 : (p = [47]) = True := eq_true e2
        have f3 : l.isEmpty = false := emp fun e => h2 ⟨e2, e⟩
        simp -implicitDefEqProofs [go_sem, Tryz.f18, rSplitC, hpl, hll, h1, hp0, f2, f3, hx1, hy1, hnl, hn1, c4, hc, e1, e4, g1, g2, g3, g4, g5, g6, w64 (x := (n : Int)) (by omega), w64 (x := (x.length : Int) - 1) (by omega)]
        refine path_loop (x := x) (y := y) (m := x.length - 1) (h := h) (b1 := h.length) (b2 := h.length + 1) (by omega) (by omega) (by omega) hsx hsy ?_ ?_ (by simp -implicitDefEqProofs [go_sem]) (by simp -implicitDefEqProofs [go_sem]) (by simp -implicitDefEqProofs [go_sem]) (by simp -implicitDefEqProofs [go_sem]) (by simp -implicitDefEqProofs [go_sem]) (by simp -implicitDefEqProofs [go_sem])
        · intro t h1 e he
          rw [e] at hres
          simp -implicitDefEqProofs [go_sem, he, ← hres]
        · intro t h1 e t4 he
          rw [e] at hres
          simp -implicitDefEqProofs [go_sem, t4, he, ← hres]
      · have f2 : ¬ p = [47] := e2
        have f3 : True := trivial
        simp -implicitDefEqProofs [go_sem, Tryz.f18, rSplitC, hpl, hll, h1, hp0, f2, f3, hx1, hy1, hnl, hn1, c4, hc, e1, e4, g1, g2, g3, g4, g5, g6, w64 (x := (n : Int)) (by omega), w64 (x := (x.length : Int) - 1) (by omega)]
        refine path_loop (x := x) (y := y) (m := x.length - 1) (h := h) (b1 := h.length) (b2 := h.length + 1) (by omega) (by omega) (by omega) hsx hsy ?_ ?_ (by simp -implicitDefEqProofs [go_sem]) (by simp -implicitDefEqProofs [go_sem]) (by simp -implicitDefEqProofs [go_sem]) (by simp -implicitDefEqProofs [go_sem]) (by simp -implicitDefEqProofs [go_sem]) (by simp -implicitDefEqProofs [go_sem])
        · intro t h1 e he
          rw [e] at hres
          simp -implicitDefEqProofs [go_sem, he, ← hres]
        · intro t h1 e t4 he
          rw [e] at hres
          simp -implicitDefEqProofs [go_sem, t4, he, ← hres]
    · rw [if_neg (by intro e; exact e4 (Option.some.inj e))] at hres
      by_cases e6 : x.length < y.length
      · rw [decide_eq_false (by omega), Bool.false_and] at hres
        subst hres
        by_cases e2 : p = [47]
        · have f2 : (p = [47]) = True := eq_true e2
          have f3 : l.isEmpty = false := emp fun e => h2 ⟨e2, e⟩
          simp -implicitDefEqProofs [go_sem, Tryz.f18, rSplitC, hpl, hll, h1, hp0, f2, f3, hx1, hy1, hnl, hn1, c4, hc, e1, e4, e6, w64 (x := (n : Int)) (by omega)]
        · have f2 : ¬ p = [47] := e2
          have f3 : True := trivial
          simp -implicitDefEqProofs [go_sem, Tryz.f18, rSplitC, hpl, hll, h1, hp0, f2, f3, hx1, hy1, hnl, hn1, c4, hc, e1, e4, e6, w64 (x := (n : Int)) (by omega)]
      · rw [decide_eq_true (by omega), Bool.true_and] at hres
        by_cases e2 : p = [47]
        · have f2 : (p = [47]) = True := eq_true e2
          have f3 : l.isEmpty = false := emp fun e => h2 ⟨e2, e⟩
          simp -implicitDefEqProofs [go_sem, Tryz.f18, rSplitC, hpl, hll, h1, hp0, f2, f3, hx1, hy1, hnl, hn1, c4, hc, e1, e4, e6, g1, g2, g3, g4, g5, g6, w64 (x := (n : Int)) (by omega), w64 (x := (x.length : Int) - 1) (by omega)]
          refine path_loop (x := x) (y := y) (m := x.length) (h := h) (b1 := h.length) (b2 := h.length + 1) (by omega) (by omega) (by omega) hsx hsy ?_ ?_ (by simp -implicitDefEqProofs [go_sem]) (by simp -implicitDefEqProofs [go_sem]) (by simp -implicitDefEqProofs [go_sem]) (by simp -implicitDefEqProofs [go_sem]) (by simp -implicitDefEqProofs [go_sem]) (by simp -implicitDefEqProofs [go_sem])
          · intro t h1 e he
            rw [List.take_length] at e; rw [e] at hres
            simp -implicitDefEqProofs [go_sem, he, ← hres]
          · intro t h1 e t4 he
            rw [List.take_length] at e; rw [e] at hres
            simp -implicitDefEqProofs [go_sem, t4, he, ← hres]
        · have f2 : ¬ p = [47] := e2
          have f3 : True := trivial
          simp -implicitDefEqProofs [go_sem, Tryz.f18, rSplitC, hpl, hll, h1, hp0, f2, f3, hx1, hy1, hnl, hn1, c4, hc, e1, e4, e6, g1, g2, g3, g4, g5, g6, w64 (x := (n : Int)) (by omega), w64 (x := (x.length : Int) - 1) (by omega)]
          refine path_loop (x := x) (y := y) (m := x.length) (h := h) (b1 := h.length) (b2 := h.length + 1) (by omega) (by omega) (by omega) hsx hsy ?_ ?_ (by simp -implicitDefEqProofs [go_sem]) (by simp -implicitDefEqProofs [go_sem]) (by simp -implicitDefEqProofs [go_sem]) (by simp -implicitDefEqProofs [go_sem]) (by simp -implicitDefEqProofs [go_sem]) (by simp -implicitDefEqProofs [go_sem])
          · intro t h1 e he
            rw [List.take_length] at e; rw [e] at hres
            simp -implicitDefEqProofs [go_sem, he, ← hres]
          · intro t h1 e t4 he
            rw [List.take_length] at e; rw [e] at hres
            simp -implicitDefEqProofs [go_sem, t4, he, ← hres]
end GoD
