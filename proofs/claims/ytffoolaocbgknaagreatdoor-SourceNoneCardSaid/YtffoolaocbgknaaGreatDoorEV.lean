import Derived.Test.YtffoolaocbgknaaGreatDoorEU
/-! Source expressions as the document reads them. -/
namespace GoD
open Go Go.Proofs
set_option linter.unusedVariables false
set_option linter.unusedSimpArgs false
set_option maxHeartbeats 4000000
set_option maxRecDepth 100000
structure Expr5 where
  kind : Int
  sch : List Int
  ho : List Int
  po : List Int
  pa : List Int
def Expr5.cells (e : Expr5) : List V := [.i .i64 e.kind, .s e.sch, .s e.ho, .s e.po, .s e.pa]
def Expr5.V (e : Expr5) : V := .agg e.cells
def exprZ : Expr5 := ⟨0, [], [], [], []⟩
def pathC (c : Int) : Bool := decide (33 ≤ c) && decide (c ≤ 126) && !decide (c ∈ [63, 35, 59, 44])
def pathOk (s : List Int) : Bool := s.all pathC
def src4 (sch ho po s : List Int) : Expr5 := if s ≠ [] ∧ s.head? ≠ some 47 then exprZ else if pathOk s = true then ⟨4, sch, ho, po, s⟩ else exprZ
def src3 (sch ho : List Int) : List Int → Expr5
  | [] => src4 sch ho [] []
  | c :: r => if c = 58 then (if r.head? = some 42 then src4 sch ho [42] (r.drop 1) else if cntL digitB r = 0 ∨ 5 < cntL digitB r then exprZ else src4 sch ho (r.take (cntL digitB r)) (r.drop (cntL digitB r))) else src4 sch ho [] (c :: r)
def src2 (sch s : List Int) : Expr5 := if hostPartN s = 0 then exprZ else src3 sch (lowerL (s.take (hostPartN s))) (s.drop (hostPartN s))
def src1 (s : List Int) : Expr5 := if 0 < schemeN s ∧ schemeN s + 1 = s.length then ⟨3, lowerL (s.take (schemeN s)), [], [], []⟩ else if 0 < schemeN s ∧ (s.drop (schemeN s)).take 3 = [58, 47, 47] then src2 (lowerL (s.take (schemeN s))) (s.drop (schemeN s + 3)) else src2 [] s
def srcL (s : List Int) : Expr5 := if s = [42] then ⟨1, [], [], [], []⟩ else if lowerL s = [39, 115, 101, 108, 102, 39] then ⟨2, [], [], [], []⟩ else if 2 ≤ s.length ∧ s.head? = some 39 ∧ s.getLast? = some 39 then ⟨5, [], [], [], []⟩ else src1 s
theorem hostPartN_le (l : List Int) : hostPartN l ≤ l.length := by
  match l with
  | [] => simp [hostPartN]
  | [a] =>
    rw [hostPartN]
    split
    · simp
    · exact labelsN_le _
  | a :: b :: r =>
    have h1 := labelsN_le r
    have h2 := labelsN_le (a :: b :: r)
    rw [hostPartN]
    split
    · split
      · split <;> simp <;> omega
      · simp
    · exact h2
def exprBk (e : Expr5) : Blk := ⟨2, true, e.cells⟩
noncomputable def srcA : Code := loopAt Tryz.f11 0
noncomputable def srcB : Code := loopAt Tryz.f11 1
theorem srcA_ok {P : Ex → Tm → Heap → Prop} {k : List Todo} {s : List Int} {h : Heap} {d2 d4 : V} (hl : s.length ≤ 1048576) (hl0 : 1 ≤ s.length)
    (hx : ∀ t, get t 0 = .s s → get t 2 = d2 → get t 4 = d4 → get t 5 = .i .i64 ((1 + cntL digitB s.tail : Nat) : Int) → RunX (ctx Tryz.prog G0 [(33, rSameC), (34, rSchemeC), (35, rLowerC), (36, rHostPartC), (37, rDigitC), (38, rHasC)]) P k (.e 1) t h)
    {t : Tm} (t0 : get t 0 = .s s) (t2 : get t 2 = d2) (t4 : get t 4 = d4) (t5 : get t 5 = .i .i64 1) : Run (ctx Tryz.prog G0 [(33, rSameC), (34, rSchemeC), (35, rLowerC), (36, rHostPartC), (37, rDigitC), (38, rHasC)]) P (.again srcA :: k) t h := by
  refine run_inv _ _ _ _ _ (fun (i : Nat) t h1 => 1 ≤ i ∧ i ≤ s.length ∧ get t 0 = .s s ∧ get t 2 = d2 ∧ get t 4 = d4 ∧ get t 5 = .i .i64 i ∧ i + cntL digitB (s.drop i) = 1 + cntL digitB s.tail ∧ h1 = h) (fun i => s.length - i) _ (x := 1) ⟨Nat.le_refl _, hl0, t0, t2, t4, t5, by simp, rfl⟩ ?_
  clear t0 t2 t4 t5
  rintro i t h1 ⟨hi1, hi, t0, t2, t4, t5, hd, rfl⟩ ih
  have hi6 : i < 1152921504606846976 := by omega
  by_cases hlt : i < s.length
  · obtain ⟨d, hc⟩ : ∃ d, s[i] = d := ⟨_, rfl⟩
    rw [List.drop_eq_getElem_cons hlt, hc, cntL] at hd
    cases c1 : digitB d with
    | true =>
      rw [c1, if_pos rfl] at hd
      simp -implicitDefEqProofs [go_sem, srcA, loopAt, loopL, Tryz.f11, t0, t5, hlt, hc, rDigitC, c1]
      refine ih (i + 1) _ _ (by omega) ⟨by omega, hlt, ?_⟩
      simp -implicitDefEqProofs [go_sem, t0, t2, t4, t5, i64_n hi6]
      omega
    | false =>
      rw [c1, if_neg (by simp)] at hd
      simp -implicitDefEqProofs [go_sem, srcA, loopAt, loopL, Tryz.f11, t0, t5, hlt, hc, rDigitC, c1]
      refine hx _ ?_ ?_ ?_ ?_ <;> simp -implicitDefEqProofs [go_sem, t0, t2, t4, t5]
      omega
  · rw [List.drop_eq_nil_of_le (by omega), cntL] at hd
    simp -implicitDefEqProofs [go_sem, srcA, loopAt, loopL, Tryz.f11, t0, t5, hlt, rDigitC]
    refine hx _ ?_ ?_ ?_ ?_ <;> simp -implicitDefEqProofs [go_sem, t0, t2, t4, t5]
    omega
theorem pathOk_cons (c : Int) (t : List Int) : pathOk (c :: t) = (pathC c && pathOk t) := rfl
theorem srcB_ok {P : Ex → Tm → Heap → Prop} {k : List Todo} {s : List Int} {h : Heap} {d4 : V} {b : Nat} (hl : s.length ≤ 1048576) (hb : b < h.length) (hg : hget h b = exprBk exprZ)
    (hx : ∀ t, pathOk s = true → get t 0 = .s s → get t 2 = .p b 0 → get t 4 = d4 → RunX (ctx Tryz.prog G0 [(33, rSameC), (34, rSchemeC), (35, rLowerC), (36, rHostPartC), (37, rDigitC), (38, rHasC)]) P k (.e 3) t h)
    (hr : ∀ t, pathOk s = false → get t 2 = .p b 0 → RunX (ctx Tryz.prog G0 [(33, rSameC), (34, rSchemeC), (35, rLowerC), (36, rHostPartC), (37, rDigitC), (38, rHasC)]) P k .r t h)
    {t : Tm} (t0 : get t 0 = .s s) (t2 : get t 2 = .p b 0) (t4 : get t 4 = d4) (t6 : get t 6 = .i .i64 0) : Run (ctx Tryz.prog G0 [(33, rSameC), (34, rSchemeC), (35, rLowerC), (36, rHostPartC), (37, rDigitC), (38, rHasC)]) P (.again srcB :: k) t h := by
  have hsame : h.set b ⟨2, true, [.i .i64 0, .s [], .s [], .s [], .s []]⟩ = h := set_same hb hg
  have hg' : hget h b = ⟨2, true, [.i .i64 0, .s [], .s [], .s [], .s []]⟩ := hg
  refine run_inv _ _ _ _ _ (fun (i : Nat) t h1 => i ≤ s.length ∧ get t 0 = .s s ∧ get t 2 = .p b 0 ∧ get t 4 = d4 ∧ get t 6 = .i .i64 i ∧ pathOk (s.drop i) = pathOk s ∧ h1 = h) (fun i => s.length - i) _ (x := 0) ⟨by simp, t0, t2, t4, t6, rfl, rfl⟩ ?_
  clear t0 t2 t4 t6
  rintro i t h1 ⟨hi, t0, t2, t4, t6, hd, rfl⟩ ih
  have hi6 : i < 1152921504606846976 := by omega
  by_cases hlt : i < s.length
  · obtain ⟨d, hc⟩ : ∃ d, s[i] = d := ⟨_, rfl⟩
    rw [List.drop_eq_getElem_cons hlt, hc, pathOk_cons] at hd
    have bad : pathC d = false → pathOk s = false := fun e => by rw [← hd, e]; rfl
    by_cases c1 : d < 33
    · simp -implicitDefEqProofs [go_sem, srcB, loopAt, loopL, Tryz.f11, t0, t2, t6, hlt, hc, c1, hb, hg', hsame]
      exact hr _ (bad (by simp [pathC]; omega)) (by simp -implicitDefEqProofs [go_sem, t2])
    · by_cases c2 : 126 < d
      · simp -implicitDefEqProofs [go_sem, srcB, loopAt, loopL, Tryz.f11, t0, t2, t6, hlt, hc, c1, c2, hb, hg', hsame]
        exact hr _ (bad (by simp [pathC]; omega)) (by simp -implicitDefEqProofs [go_sem, t2])
      · by_cases c3 : d ∈ [63, 35, 59, 44]
        · simp -implicitDefEqProofs [go_sem, srcB, loopAt, loopL, Tryz.f11, t0, t2, t6, hlt, hc, c1, c2, rHasC, -List.mem_cons, c3, hb, hg', hsame]
          exact hr _ (bad (by rw [pathC, decide_eq_true c3]; simp)) (by simp -implicitDefEqProofs [go_sem, t2])
        · have good : pathC d = true := by rw [pathC, decide_eq_false c3]; simp; omega
          rw [good, Bool.true_and] at hd
          simp -implicitDefEqProofs [go_sem, srcB, loopAt, loopL, Tryz.f11, t0, t2, t6, hlt, hc, c1, c2, rHasC, -List.mem_cons, c3]
          refine ih (i + 1) _ _ (by omega) ⟨hlt, ?_⟩
          simp -implicitDefEqProofs [go_sem, t0, t2, t4, t6, i64_n hi6, hd]
  · rw [List.drop_eq_nil_of_le (by omega)] at hd
    simp -implicitDefEqProofs [go_sem, srcB, loopAt, loopL, Tryz.f11, t0, t6, hlt]
    refine hx _ hd.symm ?_ ?_ ?_ <;> simp -implicitDefEqProofs [go_sem, t0, t2, t4]
def rSourceC : Ct := fun args h => match args with | [.s l] => if l.length ≤ 1048576 then some ((srcL l).V, h) else none | _ => none
theorem Expr5.flat (e : Expr5) (m : Nat) : renV id e.V = e.V ∧ bndV m e.V := by simp [Expr5.V, Expr5.cells, renV, bndV, renL, bndL]
theorem rSource_ok : CtOk Tryz.prog G0 11 rSourceC := by
  refine ct_plain (n := 1) fol (sound_cons rSame_ok (sound_cons rScheme_ok (sound_cons rLower_ok (sound_cons rHostPart_ok (sound_cons rDigit_ok (sound_cons rHas_ok sound_nil)))))) (by kernel_rfl) Tryz.func11 rfl fun args h v h' hc r xs H hr hx => ?_
  unfold rSourceC at hc; split at hc <;> (try split at hc) <;> cases hc
  rename_i l hl
  obtain ⟨⟨hs, _⟩, _⟩ := str_of hx
  refine ⟨rfl, rfl, Expr5.flat _ _, ?_⟩
  simp only [Tryz.f11, run_seq]
  generalize hK7 : (Code.region 7 _ _).seq _ = K7
  have st7 : ∀ (t : Tm) (h1 : Heap), get t 0 = .s l → get t 2 = .p h.length 0 → h1 = h ++ [exprBk exprZ] → Run (ctx Tryz.prog G0 [(33, rSameC), (34, rSchemeC), (35, rLowerC), (36, rHostPartC), (37, rDigitC), (38, rHasC)]) (Fini (ctx Tryz.prog G0 [(33, rSameC), (34, rSchemeC), (35, rLowerC), (36, rHostPartC), (37, rDigitC), (38, rHasC)]) [ResultVar.cell 2 27] fun v' h1 => v' = (src1 l).V ∧ Ext h h1) [.c K7] t h1 := by
    subst hK7
    intro t h1 t0 t2 hh
    have hl1 : h1.length = h.length + 1 := by rw [hh]; simp
    have hg0 : hget h1 h.length = exprBk exprZ := by rw [hh, hget_at0 rfl]; rfl
    have hE : Ext h h1 := by rw [hh]; exact (Ext.refl h).new _
    simp only [run_seq]
    generalize hK14 : (Code.region 14 _ _).seq _ = K14
    have st14 : ∀ (s sch : List Int) (t : Tm) (h2 : Heap), s.length ≤ 1048576 → get t 0 = .s s → get t 2 = .p h.length 0 → get t 4 = .p (h.length + 1) 0 → h2.length = h.length + 2 → hget h2 h.length = exprBk exprZ → hget h2 (h.length + 1) = exprBk ⟨4, sch, [], [], []⟩ → Ext h h2 → Run (ctx Tryz.prog G0 [(33, rSameC), (34, rSchemeC), (35, rLowerC), (36, rHostPartC), (37, rDigitC), (38, rHasC)]) (Fini (ctx Tryz.prog G0 [(33, rSameC), (34, rSchemeC), (35, rLowerC), (36, rHostPartC), (37, rDigitC), (38, rHasC)]) [ResultVar.cell 2 27] fun v' h1 => v' = (src2 sch s).V ∧ Ext h h1) [.c K14] t h2 := by
      subst hK14
      clear t0 t2 hh hl1 hg0 hE
      intro s sch t h2 hsl t0 t2 t4 hl1 hg0 hg1 hE
      have same0 : h2.set h.length ⟨2, true, [.i .i64 0, .s [], .s [], .s [], .s []]⟩ = h2 := set_same (by omega) hg0
      simp only [run_seq]
      generalize hK29 : ((Code.region 29 _ _).seq _).seq _ = K29
      have st29 : ∀ (s ho po : List Int) (t : Tm) (h2 : Heap), s.length ≤ 1048576 → get t 0 = .s s → get t 2 = .p h.length 0 → get t 4 = .p (h.length + 1) 0 → h2.length = h.length + 2 → hget h2 h.length = exprBk exprZ → hget h2 (h.length + 1) = exprBk ⟨4, sch, ho, po, []⟩ → Ext h h2 → Run (ctx Tryz.prog G0 [(33, rSameC), (34, rSchemeC), (35, rLowerC), (36, rHostPartC), (37, rDigitC), (38, rHasC)]) (Fini (ctx Tryz.prog G0 [(33, rSameC), (34, rSchemeC), (35, rLowerC), (36, rHostPartC), (37, rDigitC), (38, rHasC)]) [ResultVar.cell 2 27] fun v' h1 => v' = (src4 sch ho po s).V ∧ Ext h h1) [.c K29] t h2 := by
        subst hK29
        clear same0 t0 t2 t4 hl1 hg0 hg1 hE hsl
        intro s ho po t h2 hsl t0 t2 t4 hl1 hg0 hg1 hE
        have same0 : h2.set h.length ⟨2, true, [.i .i64 0, .s [], .s [], .s [], .s []]⟩ = h2 := set_same (by omega) hg0
        have lp : ∀ (k : List Todo) (P : Ex → Tm → Heap → Prop) (t : Tm), get t 0 = .s s → get t 2 = .p h.length 0 → get t 4 = .p (h.length + 1) 0 → get t 6 = .i .i64 0 → (∀ t, pathOk s = true → get t 0 = .s s → get t 2 = .p h.length 0 → get t 4 = .p (h.length + 1) 0 → RunX (ctx Tryz.prog G0 [(33, rSameC), (34, rSchemeC), (35, rLowerC), (36, rHostPartC), (37, rDigitC), (38, rHasC)]) P k (.e 3) t h2) → (∀ t, pathOk s = false → get t 2 = .p h.length 0 → RunX (ctx Tryz.prog G0 [(33, rSameC), (34, rSchemeC), (35, rLowerC), (36, rHostPartC), (37, rDigitC), (38, rHasC)]) P k .r t h2) → Run (ctx Tryz.prog G0 [(33, rSameC), (34, rSchemeC), (35, rLowerC), (36, rHostPartC), (37, rDigitC), (38, rHasC)]) P (.again srcB :: k) t h2 := fun k P t a b c d e f => srcB_ok hsl (by omega) hg0 e f a b c d
        rcases hs0 : s with _ | ⟨c, r⟩
        · rw [hs0] at t0 lp
          have hres : src4 sch ho po [] = ⟨4, sch, ho, po, []⟩ := by simp [src4, pathOk]
          simp -implicitDefEqProofs [go_sem, t0]
          refine lp _ _ _ ?_ ?_ ?_ ?_ ?_ ?_
          · simp -implicitDefEqProofs [go_sem, t0]
          · simp -implicitDefEqProofs [go_sem, t2]
          · simp -implicitDefEqProofs [go_sem, t4]
          · simp -implicitDefEqProofs [go_sem]
          · intro t _ t0 t2 t4
            simp -implicitDefEqProofs [go_sem, t0, t2, t4, hg0, hg1, hl1, hget_set, exprBk, Expr5.cells, exprZ, Expr5.V, hres, hE, Ext.set]
          · intro t e; simp [pathOk] at e
        · rw [hs0] at t0 lp
          have k1 : (0 : Int) < (r.length : Int) + 1 := by omega
          by_cases c1 : c = 47
          · simp -implicitDefEqProofs [go_sem, t0, eq_true c1, k1]
            refine lp _ _ _ ?_ ?_ ?_ ?_ ?_ ?_
            · simp -implicitDefEqProofs [go_sem, t0]
            · simp -implicitDefEqProofs [go_sem, t2]
            · simp -implicitDefEqProofs [go_sem, t4]
            · simp -implicitDefEqProofs [go_sem]
            · intro t e t0 t2 t4
              have hres : src4 sch ho po (c :: r) = ⟨4, sch, ho, po, c :: r⟩ := by unfold src4; rw [if_neg (by simp [c1]), e, if_pos rfl]
              simp -implicitDefEqProofs [go_sem, t0, t2, t4, hg0, hg1, hl1, hget_set, exprBk, Expr5.cells, exprZ, Expr5.V, hres, hE, Ext.set]
            · intro t e t2
              have hres : src4 sch ho po (c :: r) = exprZ := by unfold src4; rw [if_neg (by simp [c1]), e, if_neg (by simp)]
              simp -implicitDefEqProofs [go_sem, t2, hg0, hl1, exprBk, Expr5.cells, exprZ, Expr5.V, hres, hE]
          · have hres : src4 sch ho po (c :: r) = exprZ := by unfold src4; rw [if_pos (by simp [c1])]
            simp -implicitDefEqProofs [go_sem, t0, t2, c1, k1, hg0, hl1, exprBk, Expr5.cells, exprZ, Expr5.V, hres, hE, same0]
      obtain ⟨n, hn⟩ : ∃ n, hostPartN s = n := ⟨_, rfl⟩
      have hnl : n ≤ s.length := by rw [← hn]; exact hostPartN_le s
      have hnl' : (n : Int) ≤ s.length := by omega
      have hn7 : n ≤ 1048576 := by omega
      unfold src2
      rw [hn]
      by_cases c1 : n = 0
      · rw [if_pos c1]
        simp -implicitDefEqProofs [go_sem, t0, t2, rHostPartC, hn, eq_true c1, hg0, hl1, exprBk, Expr5.cells, exprZ, Expr5.V, hE, same0]
      rw [if_neg c1]
      obtain ⟨ho, hho⟩ : ∃ ho, lowerL (s.take n) = ho := ⟨_, rfl⟩
      obtain ⟨w, hw⟩ : ∃ w, s.drop n = w := ⟨_, rfl⟩
      have hwl : w.length ≤ 1048576 := by rw [← hw]; simp; omega
      rw [hho, hw]
      rcases hw0 : w with _ | ⟨c, r⟩
      · rw [hw0] at hw
        rw [src3]
        simp -implicitDefEqProofs [go_sem, t0, t2, t4, rHostPartC, hn, c1, hnl, hnl', hn7, rLowerC, hho, hw, hg1, hl1, exprBk, Expr5.cells]
        refine st29 [] ho [] _ _ (by simp) ?_ ?_ ?_ ?_ ?_ ?_ ?_
        all_goals simp -implicitDefEqProofs [go_sem, t0, t2, t4, hl1, hget_set, hg0, hg1, exprBk, Expr5.cells, hE, Ext.set]
      · rw [hw0] at hw hwl
        have k1 : (0 : Int) < (r.length : Int) + 1 := by omega
        simp at hwl
        by_cases c2 : c = 58
        · rw [src3, if_pos c2]
          rcases hr0 : r with _ | ⟨d, q⟩
          · rw [hr0] at hw
            rw [if_neg (by simp), if_pos (by simp [cntL])]
            simp -implicitDefEqProofs [go_sem, t0, t2, t4, rHostPartC, hn, c1, hnl, hnl', hn7, rLowerC, hho, hw, hg1, hl1, exprBk, Expr5.cells, eq_true c2]
            refine srcA_ok (s := [c]) (d2 := .p h.length 0) (d4 := .p (h.length + 1) 0) (by simp) (by simp) ?_ ?_ ?_ ?_ ?_
            · intro t t0 t2 t4 t5
              simp [cntL] at t5
              simp -implicitDefEqProofs [go_sem, t5, t2, hl1, hg0, exprBk, Expr5.cells, exprZ, Expr5.V, hE, hget_set, Ext.set]
            all_goals simp -implicitDefEqProofs [go_sem, t0, t2, t4]
          · rw [hr0] at hw hwl
            simp at hwl
            have k2 : (1 : Int) < (q.length : Int) + 1 + 1 := by omega
            have k3 : (0 : Int) < (q.length : Int) + 1 + 1 := by omega
            have k4 : (2 : Int) ≤ (q.length : Int) + 1 + 1 := by omega
            by_cases c3 : d = 42
            · rw [if_pos (by rw [c3]; rfl)]
              simp -implicitDefEqProofs [go_sem, t0, t2, t4, rHostPartC, hn, c1, hnl, hnl', hn7, rLowerC, hho, hw, hg1, hl1, exprBk, Expr5.cells, eq_true c2, eq_true c3, k2, k3, k4, hget_set]
              refine st29 q ho [42] _ _ (by omega) ?_ ?_ ?_ ?_ ?_ ?_ ?_
              all_goals simp -implicitDefEqProofs [go_sem, t0, t2, t4, hl1, hget_set, hg0, hg1, exprBk, Expr5.cells, hE, Ext.set, c3]
            · rw [if_neg (by simp [c3])]
              simp -implicitDefEqProofs [go_sem, t0, t2, t4, rHostPartC, hn, c1, hnl, hnl', hn7, rLowerC, hho, hw, hg1, hl1, exprBk, Expr5.cells, eq_true c2, c3, k2, k3, k4, hget_set]
              obtain ⟨x, hx0⟩ : ∃ x, cntL digitB (d :: q) = x := ⟨_, rfl⟩
              have hxl : x ≤ q.length + 1 := by rw [← hx0]; exact cntL_le _ _
              have x1 : (x : Int) ≤ (q.length : Int) + 1 := by omega
              rw [hx0]
              refine srcA_ok (s := c :: d :: q) (d2 := .p h.length 0) (d4 := .p (h.length + 1) 0) (by simp; omega) (by simp) ?_ ?_ ?_ ?_ ?_
              · intro t t0 t2 t4 t5
                rw [List.tail_cons, hx0] at t5
                by_cases e1 : x = 0
                · rw [if_pos (.inl e1)]
                  rw [e1] at t5
                  simp at t5
                  simp -implicitDefEqProofs [go_sem, t5, t2, hl1, hg0, exprBk, Expr5.cells, exprZ, Expr5.V, hE, hget_set, Ext.set]
                · obtain ⟨y, rfl⟩ : ∃ y, x = y + 1 := ⟨x - 1, by omega⟩
                  have e3 : ((1 + (y + 1) : Nat) : Int) = (y : Int) + 2 := by omega
                  rw [e3] at t5
                  have e4 : ((y : Int) + 2 = 1) = False := eq_false (by omega)
                  by_cases e2 : 5 < y + 1
                  · rw [if_pos (.inr e2)]
                    have e5 : (6 : Int) < (y : Int) + 2 := by omega
                    simp -implicitDefEqProofs [go_sem, t5, t2, e4, e5, hl1, hg0, exprBk, Expr5.cells, exprZ, Expr5.V, hE, hget_set, Ext.set]
                  · rw [if_neg (by omega)]
                    have e5 : ¬ (6 : Int) < (y : Int) + 2 := by omega
                    have e6 : (1 : Int) ≤ (y : Int) + 2 := by omega
                    have e7 : (y : Int) + 2 ≤ (q.length : Int) + 1 + 1 := by omega
                    have e8 : ((y : Int) + 2).toNat = y + 2 := by omega
                    have e9 : (0 : Int) ≤ (y : Int) + 2 := by omega
                    simp -implicitDefEqProofs [go_sem, t0, t2, t4, t5, e4, e5, e6, e7, e8, e9, hl1, hg0, hg1, exprBk, Expr5.cells, hget_set]
                    refine st29 ((d :: q).drop (y + 1)) ho ((d :: q).take (y + 1)) _ _ (by simp; omega) ?_ ?_ ?_ ?_ ?_ ?_ ?_
                    all_goals simp -implicitDefEqProofs [go_sem, t0, t2, t4, hl1, hget_set, hg0, hg1, exprBk, Expr5.cells, hE, Ext.set]
              all_goals simp -implicitDefEqProofs [go_sem, t0, t2, t4]
        · rw [src3, if_neg c2]
          simp -implicitDefEqProofs [go_sem, t0, t2, t4, rHostPartC, hn, c1, hnl, hnl', hn7, rLowerC, hho, hw, hg1, hl1, exprBk, Expr5.cells, c2, k1]
          refine st29 (c :: r) ho [] _ _ (by simp; omega) ?_ ?_ ?_ ?_ ?_ ?_ ?_
          all_goals simp -implicitDefEqProofs [go_sem, t0, t2, t4, hl1, hget_set, hg0, hg1, exprBk, Expr5.cells, hE, Ext.set]
    obtain ⟨k, hk⟩ : ∃ k, schemeN l = k := ⟨_, rfl⟩
    have hkl : k ≤ l.length := by rw [← hk]; exact schemeN_le l
    have hkl' : (k : Int) ≤ l.length := by omega
    have hk7 : k ≤ 1048576 := by omega
    have hk6 : k < 1152921504606846976 := by omega
    unfold src1
    rw [hk]
    obtain ⟨sch, hsch⟩ : ∃ sch, lowerL (l.take k) = sch := ⟨_, rfl⟩
    rw [hsch]
    by_cases c1 : 0 < k
    · have c1' : (0 : Int) < k := by omega
      by_cases c2 : k + 1 = l.length
      · rw [if_pos ⟨c1, c2⟩]
        have c2' : ((k : Int) + 1 = l.length) = True := eq_true (by omega)
        simp -implicitDefEqProofs [go_sem, t0, t2, rSchemeC, hk, c1, c1', eq_true c2, c2', i64_n hk6, hkl, hkl', hk7, rLowerC, hsch, hl1, hg0, exprBk, Expr5.cells, exprZ, Expr5.V, hE, hget_set, Ext.set]
      · rw [if_neg fun e => c2 e.2]
        have c2' : ((k : Int) + 1 = l.length) = False := eq_false (by omega)
        by_cases c3 : k + 3 ≤ l.length
        · have c3' : (k : Int) + 3 ≤ l.length := by omega
          have c5 : k + 3 - k = 3 := by omega
          have c6 : (k : Int) ≤ (k : Int) + 3 := by omega
          obtain ⟨x, hx0⟩ : ∃ x, (l.drop k).take 3 = x := ⟨_, rfl⟩
          rw [hx0]
          by_cases c4 : x = [58, 47, 47]
          · rw [if_pos ⟨c1, c4⟩]
            simp -implicitDefEqProofs [go_sem, t0, t2, rSchemeC, hk, c1, c1', c2, c2', c3, c3', c5, c6, hx0, eq_true c4, i64_n hk6, w64 (x := (k : Int) + 3) (by omega), hkl, hkl', hk7, rLowerC, hsch, hl1, hg0, exprBk, Expr5.cells, exprZ, hget_set]
            refine st14 (l.drop (k + 3)) sch _ _ (by simp; omega) ?_ ?_ ?_ ?_ ?_ ?_ ?_
            all_goals simp -implicitDefEqProofs [go_sem, t0, t2, hl1, hget_set, hg0, exprBk, Expr5.cells, exprZ, hE, Ext.set]
          · rw [if_neg fun e => c4 e.2]
            simp -implicitDefEqProofs [go_sem, t0, t2, rSchemeC, hk, c1, c1', c2, c2', c3, c3', c5, c6, hx0, c4, i64_n hk6, w64 (x := (k : Int) + 3) (by omega), hkl, hkl', hl1, hg0, exprBk, Expr5.cells, exprZ, hget_set]
            refine st14 l [] _ _ hl ?_ ?_ ?_ ?_ ?_ ?_ ?_
            all_goals simp -implicitDefEqProofs [go_sem, t0, t2, hl1, hget_set, hg0, exprBk, Expr5.cells, exprZ, hE, Ext.set]
        · rw [if_neg fun e => c3 (by have := congrArg List.length e.2; simp at this; omega)]
          have c3' : ¬ (k : Int) + 3 ≤ l.length := by omega
          simp -implicitDefEqProofs [go_sem, t0, t2, rSchemeC, hk, c1, c1', c2, c2', c3, c3', i64_n hk6, w64 (x := (k : Int) + 3) (by omega), hkl, hkl', hl1, hg0, exprBk, Expr5.cells, exprZ, hget_set]
          refine st14 l [] _ _ hl ?_ ?_ ?_ ?_ ?_ ?_ ?_
          all_goals simp -implicitDefEqProofs [go_sem, t0, t2, hl1, hget_set, hg0, exprBk, Expr5.cells, exprZ, hE, Ext.set]
    · rw [if_neg fun e => c1 e.1, if_neg fun e => c1 e.1]
      have c1' : ¬ (0 : Int) < k := by omega
      simp -implicitDefEqProofs [go_sem, t0, t2, rSchemeC, hk, c1, c1', hl1, hg0, exprBk, Expr5.cells, exprZ, hget_set]
      refine st14 l [] _ _ hl ?_ ?_ ?_ ?_ ?_ ?_ ?_
      all_goals simp -implicitDefEqProofs [go_sem, t0, t2, hl1, hget_set, hg0, exprBk, Expr5.cells, exprZ, hE, Ext.set]
  obtain ⟨R, hR⟩ : ∃ R, srcL l = R := ⟨_, rfl⟩
  rw [hR]
  unfold srcL at hR
  by_cases c1 : l = [42]
  · rw [if_pos c1] at hR
    subst hR
    simp -implicitDefEqProofs [go_sem, eq_true c1, Expr5.V, Expr5.cells]
  rw [if_neg c1] at hR
  by_cases c2 : lowerL l = [39, 115, 101, 108, 102, 39]
  · rw [if_pos c2] at hR
    subst hR
    have c2' : (lowerL l = lowerL [39, 115, 101, 108, 102, 39]) = True := eq_true (by rw [c2]; rfl)
    simp -implicitDefEqProofs [go_sem, c1, rSameC, hl, c2', Expr5.V, Expr5.cells]
  rw [if_neg c2] at hR
  have c2' : (lowerL l = lowerL [39, 115, 101, 108, 102, 39]) = False := eq_false (by rw [show lowerL [39, 115, 101, 108, 102, 39] = [39, 115, 101, 108, 102, 39] from rfl]; exact c2)
  by_cases c3 : 2 ≤ l.length
  · have c3' : (2 : Int) ≤ l.length := by omega
    have c4 : 0 < l.length := by omega
    have c4' : (0 : Int) < l.length := by omega
    obtain ⟨a, ha⟩ : ∃ a, l[0] = a := ⟨_, rfl⟩
    obtain ⟨n, hn⟩ : ∃ n, l.length = n + 1 := ⟨l.length - 1, by omega⟩
    have hn1 : n < l.length := by omega
    obtain ⟨z, hz⟩ : ∃ z, l[n] = z := ⟨_, rfl⟩
    have hhd : l.head? = some a := by rw [List.head?_eq_getElem?, List.getElem?_eq_getElem c4, ha]
    have hla : l.getLast? = some z := by rw [List.getLast?_eq_getElem?, hn, Nat.add_sub_cancel, List.getElem?_eq_getElem hn1, hz]
    have hn2 : (l.length : Int) - 1 = n := by omega
    have hn3 : (n : Int) < l.length := by omega
    rw [hhd, hla] at hR
    by_cases c5 : a = 39
    · by_cases c6 : z = 39
      · rw [if_pos ⟨c3, by rw [c5], by rw [c6]⟩] at hR
        subst hR
        simp -implicitDefEqProofs [go_sem, c1, rSameC, hl, c2', c3, c3', c4, c4', ha, eq_true c5, hn2, hn3, hn1, hz, eq_true c6, w64 (x := (n : Int)) (by omega), Expr5.V, Expr5.cells]
      · rw [if_neg (by simp [c6])] at hR
        subst hR
        simp -implicitDefEqProofs [go_sem, c1, rSameC, hl, c2', c3, c3', c4, c4', ha, eq_true c5, hn2, hn3, hn1, hz, c6, w64 (x := (n : Int)) (by omega)]
        exact st7 _ _ (by simp -implicitDefEqProofs [go_sem]) (by simp -implicitDefEqProofs [go_sem]) (by simp [exprBk, Expr5.cells, exprZ])
    · rw [if_neg (by simp [c5])] at hR
      subst hR
      simp -implicitDefEqProofs [go_sem, c1, rSameC, hl, c2', c3, c3', c4, c4', ha, c5]
      exact st7 _ _ (by simp -implicitDefEqProofs [go_sem]) (by simp -implicitDefEqProofs [go_sem]) (by simp [exprBk, Expr5.cells, exprZ])
  · rw [if_neg fun e => c3 e.1] at hR
    subst hR
    have c3' : ¬ (2 : Int) ≤ l.length := by omega
    simp -implicitDefEqProofs [go_sem, c1, rSameC, hl, c2', c3, c3']
    exact st7 _ _ (by simp -implicitDefEqProofs [go_sem]) (by simp -implicitDefEqProofs [go_sem]) (by simp [exprBk, Expr5.cells, exprZ])
end GoD
