import Derived.Test.YtkhcoeampamegaaGreatDoorPK
/-! Source expressions as the program reads them. -/
namespace GoD
open Go Go.Proofs
set_option linter.unusedVariables false
set_option linter.unusedSimpArgs false
set_option maxHeartbeats 2000000
set_option maxRecDepth 100000
theorem schR_ne {m l x r : List Int} (h : schR m l = some (x, r)) : x ≠ [] := by
  unfold schR at h
  split at h
  · cases h
  · rename_i h1
    split at h
    · have h2 := Option.some.inj h
      have h3 := congrArg Prod.fst h2
      simp only at h3
      intro e
      rw [← h3] at e
      have := congrArg List.length e
      have hle := cntL_le schB l
      simp [lowerL] at this
      rw [not_or] at h1
      rcases this with h4 | h4
      · exact h1.1 h4
      · rw [h4] at h1; simp [cntL] at h1
    · cases h
theorem schR_colon (m l : List Int) (k : Nat) (hk : schemeN l = k) : schR (58 :: m) l = if 0 < k ∧ headB (l.drop (k + 1)) m = true then some (lowerL (l.take k), l.drop (k + 1 + m.length)) else none := by
  cases l with
  | nil => subst hk; simp [schR, cntL, schemeN]
  | cons c t =>
    unfold schR
    rw [List.headD_cons]
    cases h1 : letterB c with
    | false =>
      rw [if_pos (.inr rfl)]
      rw [schemeN, h1, if_neg (by simp)] at hk
      rw [if_neg (by omega)]
    | true =>
      have h2 : cntL schB (c :: t) = cntL schB t + 1 := by rw [cntL, if_pos (by simp [schB, h1])]
      rw [schemeN, h1, if_pos rfl] at hk
      rw [h2, if_neg (by simp)]
      have h3 : (c :: t).drop (cntL schB t + 1) = t.drop (cntL schB t) := rfl
      rw [h3]
      match hd : t.drop (cntL schB t) with
      | [] =>
        rw [hd, if_neg (by simp)] at hk
        rw [if_neg (by simp [headB]), if_neg (by omega)]
      | d :: q =>
        by_cases h4 : d = 58
        · subst h4
          rw [hd, List.head?_cons, if_pos rfl] at hk
          subst hk
          have h5 : t.drop (cntL schB t + 1) = q := by rw [← List.drop_drop, hd]; rfl
          have h6 : headB (58 :: q) (58 :: m) = headB q m := by simp [headB]
          have h7 : (c :: t).drop (cntL schB t + 1 + 1) = q := by rw [show (c :: t).drop (cntL schB t + 1 + 1) = t.drop (cntL schB t + 1) from rfl, h5]
          rw [h6, h7]
          cases h8 : headB q m with
          | false => rw [if_neg (by simp), if_neg (by simp)]
          | true =>
            rw [if_pos rfl, if_pos ⟨by omega, rfl⟩]
            congr 2
            rw [← List.drop_drop, h7]
            rfl
        · rw [hd, List.head?_cons, if_neg fun e => h4 (Option.some.inj e)] at hk
          rw [if_neg (by simp [headB]; intro _ e; exact absurd e h4), if_neg (by omega)]
theorem cntL_drop (p : Int → Bool) : ∀ l : List Int, (l.drop (cntL p l) = [] ↔ l.all p = true)
  | [] => by simp [cntL]
  | c :: t => by
    have ih := cntL_drop p t
    rw [cntL, List.all_cons]
    cases h : p c with
    | true => simpa using ih
    | false => simp
theorem cntL_full {p : Int → Bool} {l : List Int} (h : l.drop (cntL p l) = []) : l.take (cntL p l) = l := by
  have := List.take_append_drop (cntL p l) l
  rwa [h, List.append_nil] at this
def prs4 (sch ho po s : List Int) : Expr5 := if (pathR s []).1 = true then ⟨4, sch, ho, po, (pathR s []).2.1⟩ else exprZ
theorem prs4_eq (sch ho po s : List Int) : prs4 sch ho po s = src4 sch ho po s := by
  unfold prs4 src4
  match s with
  | [] => simp [pathR, headB, pathOk]
  | c :: r =>
    rw [List.head?_cons]
    by_cases h : c = 47
    · have hQ : pathR (c :: r) [] = (decide ((c :: r).drop (cntL pathC (c :: r)) = []), (c :: r).take (cntL pathC (c :: r)), (c :: r).drop (cntL pathC (c :: r))) := by unfold pathR; rw [headB_cons, decide_eq_true h, if_pos rfl]
      have hc : ¬ ((c :: r) ≠ [] ∧ some c ≠ some 47) := fun e => e.2 (by rw [h])
      rw [hQ, if_neg hc]
      by_cases h2 : pathOk (c :: r) = true
      · have h3 := (cntL_drop pathC (c :: r)).2 h2
        rw [if_pos h2, if_pos (decide_eq_true h3), cntL_full h3]
      · have h3 : ¬ (c :: r).drop (cntL pathC (c :: r)) = [] := fun e => h2 ((cntL_drop pathC (c :: r)).1 e)
        rw [if_neg h2, if_neg (by rw [decide_eq_false h3]; simp)]
    · have hQ : pathR (c :: r) [] = (false, [], c :: r) := by unfold pathR; rw [headB_cons, decide_eq_false h, if_neg (by simp)]; simp
      have hc : (c :: r) ≠ [] ∧ some c ≠ some 47 := ⟨by simp, fun e => h (Option.some.inj e)⟩
      rw [hQ, if_pos hc, if_neg (by simp)]
def prs3 (sch ho s : List Int) : Expr5 := if (portR s []).1 = true then prs4 sch ho (portR s []).2.1 (portR s []).2.2 else exprZ
theorem prs3_eq (sch ho s : List Int) : prs3 sch ho s = src3 sch ho s := by
  unfold prs3 portR
  match s with
  | [] => rw [headB_nil]; simp [prs4_eq, src3]
  | c :: r =>
    rw [headB_cons, src3]
    by_cases h : c = 58
    · rw [decide_eq_true h, if_pos rfl, if_pos h, List.drop_one, List.tail_cons]
      have h2 : headB r [42] = decide (r.head? = some 42) := by cases r with | nil => rfl | cons d q => rw [headB_cons]; simp
      rw [h2]
      by_cases h3 : r.head? = some 42
      · rw [if_pos h3]
        simp [h3, prs4_eq]
      · rw [if_neg h3]
        by_cases h4 : cntL digitB r = 0 ∨ 5 < cntL digitB r
        · rw [if_pos h4]
          rcases h4 with h4 | h4
          · simp [h3, h4]
          · have : ¬ cntL digitB r ≤ 5 := by omega
            simp [h3, this]
        · rw [if_neg h4]
          have h5 : cntL digitB r ≤ 5 := by omega
          have h6 : ¬ cntL digitB r = 0 := by omega
          simp [h3, h5, h6, prs4_eq]
    · rw [decide_eq_false h, if_neg h]
      simp [prs4_eq]
def prs2 (sch s : List Int) : Expr5 := if (hostR s []).1 = true then prs3 sch (hostR s []).2.1 (hostR s []).2.2 else exprZ
theorem prs2_eq (sch s : List Int) : prs2 sch s = src2 sch s := by
  have plain : ∀ s : List Int, headB s [42] = false → hostPartN s = labelsN s → prs2 sch s = src2 sch s := by
    intro s h1 h2
    unfold prs2 src2 hostR
    rw [h1, h2]
    obtain ⟨i1, i2⟩ := labsR_spec (s.length + 1) [] s (by omega)
    by_cases h3 : labelsN s = 0
    · have := i1 h3
      simp [h3, this]
    · have := i2 h3
      simp [h3, this, prs3_eq]
  match s with
  | [] => exact plain [] rfl rfl
  | [a] =>
    by_cases h : a = 42
    · subst h
      simp [prs2, src2, hostR, hostPartN, headB, prs3_eq, lowerL, lowB]
    · exact plain [a] (by rw [headB_cons, decide_eq_false h]) (by rw [hostPartN, if_neg h])
  | a :: b :: r =>
    by_cases h : a = 42
    · subst h
      by_cases h2 : b = 46
      · subst h2
        unfold prs2 src2 hostR
        rw [headB_cons, hostPartN, if_pos rfl, if_pos rfl]
        obtain ⟨i1, i2⟩ := labsR_spec (r.length + 1) [42, 46] r (by omega)
        by_cases h3 : labelsN r = 0
        · have := i1 h3
          simp [h3, this, headB_cons]
        · have := i2 h3
          have e1 : (42 :: 46 :: r).take (2 + labelsN r) = 42 :: 46 :: r.take (labelsN r) := by rw [Nat.add_comm]; rfl
          have e2 : (42 :: 46 :: r).drop (2 + labelsN r) = r.drop (labelsN r) := by rw [Nat.add_comm]; rfl
          have e3 : ¬ 2 + labelsN r = 0 := by omega
          simp [h3, this, headB_cons, prs3_eq, e1, e2, e3, lowerL, lowB]
      · unfold prs2 src2 hostR
        rw [headB_cons, hostPartN, if_pos rfl, if_neg h2]
        simp [headB_cons, h2, prs3_eq, lowerL, lowB]
    · exact plain (a :: b :: r) (by rw [headB_cons, decide_eq_false h]) (by rw [hostPartN, if_neg h])
def prs1 (s : List Int) : Expr5 := match schR [58] s with
  | some (x, []) => ⟨3, x, [], [], []⟩
  | _ => match schR [58, 47, 47] s with
    | some (x, r) => prs2 x r
    | none => prs2 [] s
theorem prs1_eq (s : List Int) : prs1 s = src1 s := by
  unfold prs1 src1
  obtain ⟨k, hk⟩ : ∃ k, schemeN s = k := ⟨_, rfl⟩
  have hkl : k ≤ s.length := by rw [← hk]; exact schemeN_le s
  have hklt : k ≠ 0 → k < s.length := by rw [← hk]; exact schemeN_lt
  rw [hk]
  have hA := schR_colon [] s k hk
  have hB := schR_colon [47, 47] s k hk
  by_cases c1 : 0 < k
  · have c1' := hklt (by omega)
    have e0 : headB (s.drop (k + 1)) [] = true := by simp [headB]
    rw [if_pos ⟨c1, e0⟩] at hA
    have colon : s[k]? = some 58 := by
      cases s with
      | nil => simp at c1'
      | cons c t =>
        rw [schemeN] at hk
        split at hk
        · split at hk
          · rename_i h1 h2
            subst hk
            rw [List.head?_drop] at h2
            rw [List.getElem?_cons_succ]; exact h2
          · omega
        · omega
    have e1 : (s.drop k).take 3 = [58, 47, 47] ↔ headB (s.drop (k + 1)) [47, 47] = true := by
      have : s.drop k = 58 :: s.drop (k + 1) := by
        rw [List.drop_eq_getElem_cons c1']
        rw [List.getElem?_eq_getElem c1'] at colon
        rw [Option.some.inj colon]
      rw [this, List.take_succ_cons]
      match s.drop (k + 1) with
      | [] => simp [headB]
      | [a] => simp [headB]
      | a :: b :: q => simp [headB]
    by_cases c2 : k + 1 = s.length
    · have : s.drop (k + 1 + 0) = [] := List.drop_eq_nil_of_le (by omega)
      rw [List.length_nil, this] at hA
      rw [hA, if_pos ⟨c1, c2⟩]
    · rw [if_neg fun e => c2 e.2]
      have hne : ∃ a q, s.drop (k + 1 + ([] : List Int).length) = a :: q := by
        match h : s.drop (k + 1 + ([] : List Int).length) with
        | [] => have := congrArg List.length h; simp at this; omega
        | a :: q => exact ⟨a, q, rfl⟩
      obtain ⟨a, q, hq⟩ := hne
      rw [hq] at hA
      rw [hA]
      simp only
      by_cases c3 : headB (s.drop (k + 1)) [47, 47] = true
      · rw [if_pos ⟨c1, c3⟩] at hB
        rw [hB, if_pos ⟨c1, e1.2 c3⟩]
        simp only [prs2_eq]
        congr 1
      · rw [if_neg fun e => c3 e.2] at hB
        rw [hB, if_neg fun e => c3 (e1.1 e.2)]
        simp only [prs2_eq]
  · rw [if_neg fun e => c1 e.1] at hA hB
    rw [hA, hB, if_neg fun e => c1 e.1, if_neg fun e => c1 e.1]
    exact prs2_eq _ _
end GoD

/-! Source expressions as the program reads them: the run. -/
namespace GoD
open Go Go.Proofs
set_option linter.unusedVariables false
set_option linter.unusedSimpArgs false
set_option maxHeartbeats 2000000
set_option maxRecDepth 100000
def pParseC : Ct := fun args h => match args with | [.s l] => if l.length ≤ 1048576 then some ((srcL l).V, h) else none | _ => none
theorem hostR_le {l c : List Int} (hl : l.length ≤ 1048576) : (hostR l c).2.2.length ≤ 1048576 := by
  have key : ∀ (f : Nat) (acc s : List Int), (labsR f acc s).2.2.length ≤ s.length := by
    intro f
    induction f with
    | zero => intro acc s; exact Nat.le_refl _
    | succ f ih =>
      intro acc s
      rw [labsR]
      split
      · exact Nat.le_refl _
      · split
        · exact Nat.le_trans (ih _ _) (by simp <;> omega)
        · simp
  unfold hostR
  split
  · split
    · exact Nat.le_trans (key _ _ _) (by simp; omega)
    · simp; omega
  · exact Nat.le_trans (key _ _ _) hl
theorem portR_le {l c : List Int} (hl : l.length ≤ 1048576) : (portR l c).2.2.length ≤ 1048576 := by
  unfold portR
  split
  · split
    · simp; omega
    · simp; omega
  · exact hl
theorem pParse_ok : CtOk Tryz.prog G0 51 pParseC := by
  refine ct_plain (n := 1) fol (sound_cons pSame_ok (sound_cons pSchR_ok (sound_cons pHostR_ok (sound_cons pPortR_ok (sound_cons pPathR_ok sound_nil))))) (by kernel_rfl) Tryz.func51 rfl fun args h v h' hc r xs H hr hx => ?_
  unfold pParseC at hc; split at hc <;> (try split at hc) <;> cases hc
  rename_i l hl
  obtain ⟨⟨hs, _⟩, _⟩ := str_of hx
  refine ⟨rfl, rfl, Expr5.flat _ _, ?_⟩
  simp only [Tryz.f51, run_seq]
  generalize hK7 : (Code.region 7 _ _).seq _ = K7
  have st7 : ∀ (t : Tm) (h1 : Heap), get t 0 = .s l → get t 2 = .p h.length 0 → h1 = h ++ [exprBk exprZ] → Run (ctx Tryz.prog G0 [(71, pSameC), (72, pSchRC), (73, pHostRC), (74, pPortRC), (75, pPathRC)]) (Fini (ctx Tryz.prog G0 [(71, pSameC), (72, pSchRC), (73, pHostRC), (74, pPortRC), (75, pPathRC)]) [ResultVar.cell 2 72] fun v' h1 => v' = (src1 l).V ∧ Ext h h1) [.c K7] t h1 := by
    subst hK7
    intro t h1 t0 t2 hh
    have hl1 : h1.length = h.length + 1 := by rw [hh]; simp
    have hg0 : hget h1 h.length = exprBk exprZ := by rw [hh, hget_at0 rfl]; rfl
    have hE : Ext h h1 := by rw [hh]; exact (Ext.refl h).new _
    rw [← prs1_eq]
    obtain ⟨R, hR⟩ : ∃ R, prs1 l = R := ⟨_, rfl⟩
    rw [hR]
    unfold prs1 at hR
    simp only [run_seq]
    generalize hK12 : (Code.region 12 _ _).seq _ = K12
    have st12 : ∀ (t : Tm) (h2 : Heap), (match schR [58, 47, 47] l with | some (x, r) => prs2 x r | none => prs2 [] l) = R → get t 0 = .s l → get t 2 = .p h.length 0 → h2.length = h.length + 2 → hget h2 h.length = exprBk exprZ → Ext h h2 → Run (ctx Tryz.prog G0 [(71, pSameC), (72, pSchRC), (73, pHostRC), (74, pPortRC), (75, pPathRC)]) (Fini (ctx Tryz.prog G0 [(71, pSameC), (72, pSchRC), (73, pHostRC), (74, pPortRC), (75, pPathRC)]) [ResultVar.cell 2 72] fun v' h1 => v' = (R).V ∧ Ext h h1) [.c K12] t h2 := by
      subst hK12
      clear hR t0 t2 hh hl1 hg0 hE
      intro t h2 hR t0 t2 hl1 hg0 hE
      have same0 : ∀ x, (h2 ++ [x]).set h.length ⟨2, true, [.i .i64 0, .s [], .s [], .s [], .s []]⟩ = h2 ++ [x] := by
        intro x
        refine set_same (by simp; omega) ?_
        rw [hget_lt (by omega)]; exact hg0
      have hg0' : hget h2 h.length = ⟨2, true, [.i .i64 0, .s [], .s [], .s [], .s []]⟩ := hg0
      obtain ⟨x, r, hr, hS, hR2⟩ : ∃ x r, r.length ≤ 1048576 ∧ schBk [58, 47, 47] l ⟨0, [], [], [], []⟩ = ⟨2, true, [.s r, .i .i64 0, .s x, .s [], .s [], .s []]⟩ ∧ prs2 x r = R := by
        cases hq : schR [58, 47, 47] l with
        | none =>
          rw [hq] at hR
          exact ⟨[], l, hl, by unfold schBk; rw [hq]; rfl, hR⟩
        | some y =>
          rw [hq] at hR
          refine ⟨y.1, y.2, ?_, by unfold schBk; rw [hq]; rfl, hR⟩
          unfold schR at hq
          split at hq
          · cases hq
          · split at hq
            · rw [← Option.some.inj hq]; simp; omega
            · cases hq
      clear hR
      unfold prs2 at hR2
      obtain ⟨⟨b1, ho, r1⟩, hW1⟩ : ∃ W, hostR r [] = W := ⟨_, rfl⟩
      have hr1 : r1.length ≤ 1048576 := by have := hostR_le (c := []) hr; rw [hW1] at this; exact this
      rw [hW1] at hR2
      simp only at hR2
      cases b1 with
      | false =>
        rw [if_neg (by simp)] at hR2
        subst hR2
        simp -implicitDefEqProofs [go_sem, t0, t2, hl1, hl, pSchRC, hget_new, hget_set, hS, pHostRC, hr, hW1, rdBk, List.set_set, hg0', same0, exprZ, Expr5.V, Expr5.cells, hE, Ext.set, Ext.new]
      | true =>
        rw [if_pos rfl] at hR2
        unfold prs3 at hR2
        obtain ⟨⟨b2, po, r2⟩, hW2⟩ : ∃ W, portR r1 [] = W := ⟨_, rfl⟩
        have hr2 : r2.length ≤ 1048576 := by have := portR_le (c := []) hr1; rw [hW2] at this; exact this
        rw [hW2] at hR2
        simp only at hR2
        cases b2 with
        | false =>
          rw [if_neg (by simp)] at hR2
          subst hR2
          simp -implicitDefEqProofs [go_sem, t0, t2, hl1, hl, pSchRC, hget_new, hget_set, hS, pHostRC, pPortRC, hr, hr1, hW1, hW2, rdBk, List.set_set, hg0', same0, exprZ, Expr5.V, Expr5.cells, hE, Ext.set, Ext.new]
        | true =>
          rw [if_pos rfl] at hR2
          unfold prs4 at hR2
          obtain ⟨⟨b3, pa, r3⟩, hW3⟩ : ∃ W, pathR r2 [] = W := ⟨_, rfl⟩
          rw [hW3] at hR2
          simp only at hR2
          cases b3 with
          | false =>
            rw [if_neg (by simp)] at hR2
            subst hR2
            simp -implicitDefEqProofs [go_sem, t0, t2, hl1, hl, pSchRC, hget_new, hget_set, hS, pHostRC, pPortRC, pPathRC, hr, hr1, hr2, hW1, hW2, hW3, rdBk, List.set_set, hg0', same0, exprZ, Expr5.V, Expr5.cells, hE, Ext.set, Ext.new]
          | true =>
            rw [if_pos rfl] at hR2
            subst hR2
            simp -implicitDefEqProofs [go_sem, t0, t2, hl1, hl, pSchRC, hget_new, hget_set, hS, pHostRC, pPortRC, pPathRC, hr, hr1, hr2, hW1, hW2, hW3, rdBk, List.set_set, hg0', same0, exprZ, Expr5.V, Expr5.cells, hE, Ext.set, Ext.new]
    cases hq : schR [58] l with
    | none =>
      rw [hq] at hR
      have hS : schBk [58] l ⟨0, [], [], [], []⟩ = ⟨2, true, [.s l, .i .i64 0, .s [], .s [], .s [], .s []]⟩ := by unfold schBk; rw [hq]; rfl
      simp -implicitDefEqProofs [go_sem, t0, t2, hl1, hl, pSchRC, hget_new, hget_set, hS, rdBk, List.set_set]
      refine st12 _ _ hR ?_ ?_ ?_ ?_ ?_
      all_goals simp -implicitDefEqProofs [go_sem, t0, t2, hl1, hget_new, hg0, hE, Ext.new]
    | some y =>
      obtain ⟨x, r⟩ := y
      rw [hq] at hR
      have hx0 := schR_ne hq
      have hx1 : x.isEmpty = false := by cases x with | nil => exact absurd rfl hx0 | cons _ _ => rfl
      have hS : schBk [58] l ⟨0, [], [], [], []⟩ = ⟨2, true, [.s r, .i .i64 0, .s x, .s [], .s [], .s []]⟩ := by unfold schBk; rw [hq]; rfl
      cases hr0 : r with
      | nil =>
        rw [hr0] at hR hS
        simp only at hR
        subst hR
        simp -implicitDefEqProofs [go_sem, t0, t2, hl1, hl, pSchRC, hget_new, hget_set, hS, hx0, hx1, rdBk, List.set_set, hg0, exprBk, exprZ, Expr5.V, Expr5.cells, hE, Ext.set, Ext.new]
      | cons c q =>
        rw [hr0] at hR hS
        simp only at hR
        simp -implicitDefEqProofs [go_sem, t0, t2, hl1, hl, pSchRC, hget_new, hget_set, hS, hx0, hx1, rdBk, List.set_set]
        refine st12 _ _ hR ?_ ?_ ?_ ?_ ?_
        all_goals simp -implicitDefEqProofs [go_sem, t0, t2, hl1, hget_new, hget_set, hg0, hE, Ext.new, Ext.set]
  obtain ⟨R, hR⟩ : ∃ R, srcL l = R := ⟨_, rfl⟩
  rw [hR]
  unfold srcL at hR
  by_cases c1 : l = [42]
  · rw [if_pos c1] at hR
    subst hR
    simp -implicitDefEqProofs [go_sem, eq_true c1, Expr5.V, Expr5.cells]
  rw [if_neg c1] at hR
  by_cases c2 : lowerL l = [39, 115, 101, 108, 102, 39]
  · rw [if_pos c2] at hR
    subst hR
    have c2' : (lowerL l = lowerL [39, 115, 101, 108, 102, 39]) = True := eq_true (by rw [c2]; rfl)
    simp -implicitDefEqProofs [go_sem, c1, pSameC, hl, c2', Expr5.V, Expr5.cells]
  rw [if_neg c2] at hR
  have c2' : (lowerL l = lowerL [39, 115, 101, 108, 102, 39]) = False := eq_false (by rw [show lowerL [39, 115, 101, 108, 102, 39] = [39, 115, 101, 108, 102, 39] from rfl]; exact c2)
  by_cases c3 : 2 ≤ l.length
  · have c3' : (1 : Int) < l.length := by omega
    have c4 : 0 < l.length := by omega
    have c4' : (0 : Int) < l.length := by omega
    obtain ⟨a, ha⟩ : ∃ a, l[0] = a := ⟨_, rfl⟩
    obtain ⟨n, hn⟩ : ∃ n, l.length = n + 1 := ⟨l.length - 1, by omega⟩
    have hn1 : n < l.length := by omega
    obtain ⟨z, hz⟩ : ∃ z, l[n] = z := ⟨_, rfl⟩
    have hhd : l.head? = some a := by rw [List.head?_eq_getElem?, List.getElem?_eq_getElem c4, ha]
    have hla : l.getLast? = some z := by rw [List.getLast?_eq_getElem?, hn, Nat.add_sub_cancel, List.getElem?_eq_getElem hn1, hz]
    have hn2 : (l.length : Int) - 1 = n := by omega
    have hn3 : (n : Int) < l.length := by omega
    rw [hhd, hla] at hR
    by_cases c5 : a = 39
    · by_cases c6 : z = 39
      · rw [if_pos ⟨c3, by rw [c5], by rw [c6]⟩] at hR
        subst hR
        simp -implicitDefEqProofs [go_sem, c1, pSameC, hl, c2', c3, show (1 < l.length) = True from eq_true (by omega), c3', c4, c4', ha, eq_true c5, hn2, hn3, hn1, hz, eq_true c6, w64 (x := (n : Int)) (by omega), Expr5.V, Expr5.cells]
      · rw [if_neg (by simp [c6])] at hR
        subst hR
        simp -implicitDefEqProofs [go_sem, c1, pSameC, hl, c2', c3, show (1 < l.length) = True from eq_true (by omega), c3', c4, c4', ha, eq_true c5, hn2, hn3, hn1, hz, c6, w64 (x := (n : Int)) (by omega)]
        exact st7 _ _ (by simp -implicitDefEqProofs [go_sem]) (by simp -implicitDefEqProofs [go_sem]) (by simp [exprBk, Expr5.cells, exprZ])
    · rw [if_neg (by simp [c5])] at hR
      subst hR
      simp -implicitDefEqProofs [go_sem, c1, pSameC, hl, c2', c3, show (1 < l.length) = True from eq_true (by omega), c3', c4, c4', ha, c5]
      exact st7 _ _ (by simp -implicitDefEqProofs [go_sem]) (by simp -implicitDefEqProofs [go_sem]) (by simp [exprBk, Expr5.cells, exprZ])
  · rw [if_neg fun e => c3 e.1] at hR
    subst hR
    have c3' : ¬ (1 : Int) < l.length := by omega
    simp -implicitDefEqProofs [go_sem, c1, pSameC, hl, c2', show ¬ 1 < l.length by omega, c3']
    exact st7 _ _ (by simp -implicitDefEqProofs [go_sem]) (by simp -implicitDefEqProofs [go_sem]) (by simp [exprBk, Expr5.cells, exprZ])
end GoD

/-! Whether one of some expressions matches, as the program answers it. -/
namespace GoD
open Go Go.Proofs
set_option linter.unusedVariables false
set_option linter.unusedSimpArgs false
set_option maxHeartbeats 4000000
set_option maxRecDepth 100000
def pListC : Ct := fun args h => match args with
  | [.sl bl o n 1, .agg [.s a, .s b, .s c, .s d, .i .i64 p, .s e, .b q, .s f, .b g, .s x], .agg [.s os, .s oh, .i .i64 op], .i .i64 rd] => (match strsAt h bl o n with
    | some y => if d.length ≤ 1048576 ∧ e.length ≤ 1048576 ∧ (∀ s ∈ y, s.length ≤ 1048576) then some (.b (listB y a d p e os oh op rd), h) else none
    | none => none)
  | _ => none
theorem pList_ok : CtOk Tryz.prog G0 32 pListC := by
  refine ct_plain (n := 4) fol (sound_cons pParse_ok (sound_cons pMatch_ok sound_nil)) (by kernel_rfl) Tryz.func32 rfl fun args h v h' hc r xs H hr hx => ?_
  unfold pListC at hc; split at hc <;> (try split at hc) <;> (try split at hc) <;> cases hc
  rename_i bl o n a b c d p e q f g x os oh op rd _ y hy hl
  obtain ⟨hdl, hel, hyl⟩ := hl
  obtain ⟨st, xx, cc, hg, hld, hn, hc⟩ := strsAt_eq hy
  have hn6 := (sl_of hx).1
  refine ⟨rfl, rfl, by simp [renV, bndV, renL, bndL], ?_⟩
  have hbl : bl < h.length := by
    by_cases hb : bl < h.length
    · exact hb
    · unfold hget at hg
      rw [List.getD_eq_getElem?_getD, List.getElem?_eq_none (by omega)] at hg
      cases hg
  obtain ⟨us, hus⟩ : ∃ us, us = V.agg [.s a, .s b, .s c, .s d, .i .i64 p, .s e, .b q, .s f, .b g, .s x] := ⟨_, rfl⟩
  obtain ⟨og, hog⟩ : ∃ og, og = V.agg [.s os, .s oh, .i .i64 op] := ⟨_, rfl⟩
  simp -implicitDefEqProofs [go_sem, Tryz.f32]
  refine run_inv _ _ _ _ _ (fun (i : Nat) t h1 => i ≤ n ∧ get t 11 = .sl bl o n 1 ∧ get t 12 = .i .i64 n ∧ get t 3 = .i .i64 rd ∧ get t 5 = .p h.length 0 ∧ get t 6 = .p (h.length + 1) 0 ∧ get t 13 = .i .i64 i ∧ listB (y.drop i) a d p e os oh op rd = listB y a d p e os oh op rd ∧ h1 = h ++ [⟨2, true, [.s a, .s b, .s c, .s d, .i .i64 p, .s e, .b q, .s f, .b g, .s x]⟩, ⟨2, true, [.s os, .s oh, .i .i64 op]⟩]) (fun i => n - i) _ (x := 0) ⟨by simp, rfl, rfl, rfl, rfl, rfl, rfl, rfl, by simp⟩ ?_
  rintro i t h1 ⟨hi, t11, t12, t3, t5, t6, t13, hd, hh⟩ ih
  have hl1 : h1.length = h.length + 2 := by rw [hh]; simp
  have hg0 : hget h1 h.length = ⟨2, true, [.s a, .s b, .s c, .s d, .i .i64 p, .s e, .b q, .s f, .b g, .s x]⟩ := by rw [hh, hget_at0 rfl]; rfl
  have hg1 : hget h1 (h.length + 1) = ⟨2, true, [.s os, .s oh, .i .i64 op]⟩ := by rw [hh, hget_at rfl]; rfl
  have hgb : hget h1 bl = ⟨st + 1, xx, cc⟩ := by rw [hh, hget_lt hbl]; exact hg
  have hE : Ext h h1 := by rw [hh]; exact ⟨by simp, fun i hi => hget_lt hi⟩
  have hi6 : i < 1152921504606846976 := by omega
  by_cases hlt : i < n
  · have hlt' : i < y.length := by omega
    obtain ⟨w, hw⟩ : ∃ w, y[i] = w := ⟨_, rfl⟩
    have hc1 := hc i hlt'
    have hwl := hyl w (hw ▸ List.getElem_mem hlt')
    rw [hw] at hc1
    have hpo := srcL_po w
    have hpa := Nat.le_trans (srcL_pa w) hwl
    have hd2 : listB (y.drop i) a d p e os oh op rd = (matchB (srcL w) a d p e os oh op rd || listB (y.drop (i + 1)) a d p e os oh op rd) := by rw [List.drop_eq_getElem_cons hlt', hw]; rfl
    rw [hd2] at hd
    obtain ⟨⟨ek, es, eh, ep, ea⟩, hsw⟩ : ∃ E, srcL w = E := ⟨_, rfl⟩
    rw [hsw] at hpo hpa hd
    simp only at hpo hpa
    cases c1 : matchB ⟨ek, es, eh, ep, ea⟩ a d p e os oh op rd with
    | true =>
      rw [c1, Bool.true_or] at hd
      simp -implicitDefEqProofs [go_sem, Tryz.f32, t11, t12, t3, t5, t6, t13, hlt, hc1, hgb, hg0, hg1, pParseC, hwl, hsw, Expr5.V, Expr5.cells, pMatchC, hpo, hpa, hdl, hel, c1, ← hd, hE]
    | false =>
      rw [c1, Bool.false_or] at hd
      simp -implicitDefEqProofs [go_sem, Tryz.f32, t11, t12, t3, t5, t6, t13, hlt, hc1, hgb, hg0, hg1, pParseC, hwl, hsw, Expr5.V, Expr5.cells, pMatchC, hpo, hpa, hdl, hel, c1]
      refine ih (i + 1) _ _ (by omega) ⟨by omega, ?_⟩
      simp -implicitDefEqProofs [go_sem, t11, t12, t3, t5, t6, t13, i64_n hi6, hd, hh]
  · have e0 : y.drop i = [] := List.drop_eq_nil_of_le (by omega)
    rw [e0] at hd
    have hd : listB y a d p e os oh op rd = false := hd.symm
    simp -implicitDefEqProofs [go_sem, Tryz.f32, t11, t12, t13, hlt, hd, hE]
end GoD
