import Derived.Test.YtgldmliemeadpaaDoorPK
/-! Source expressions as the program reads them. -/
namespace GoD
open Go Go.Proofs
set_option linter.unusedVariables false
set_option linter.unusedSimpArgs false
set_option maxHeartbeats 2000000
set_option maxRecDepth 100000
theorem schR_ne {m l x r : List Int} (h : schR m l = some (x, r)) : x ≠ [] := by
  unfold schR at h
  split at h
  · cases h
  · rename_i h1
    split at h
    · have h2 := Option.some.inj h
      have h3 := congrArg Prod.fst h2
      simp only at h3
      intro e
      rw [← h3] at e
      have := congrArg List.length e
      have hle := cntL_le schB l
      simp [lowerL] at this
      rw [not_or] at h1
      rcases this with h4 | h4
      · exact h1.1 h4
      · rw [h4] at h1; simp [cntL] at h1
    · cases h
theorem schR_colon (m l : List Int) (k : Nat) (hk : schemeN l = k) : schR (58 :: m) l = if 0 < k ∧ headB (l.drop (k + 1)) m = true then some (lowerL (l.take k), l.drop (k + 1 + m.length)) else none := by
  cases l with
  | nil => subst hk; simp [schR, cntL, schemeN]
  | cons c t =>
    unfold schR
    rw [List.headD_cons]
    cases h1 : letterB c with
    | false =>
      rw [if_pos (.inr rfl)]
      rw [schemeN, h1, if_neg (by simp)] at hk
      rw [if_neg (by omega)]
    | true =>
      have h2 : cntL schB (c :: t) = cntL schB t + 1 := by rw [cntL, if_pos (by simp [schB, h1])]
      rw [schemeN, h1, if_pos rfl] at hk
      rw [h2, if_neg (by simp)]
      have h3 : (c :: t).drop (cntL schB t + 1) = t.drop (cntL schB t) := rfl
      rw [h3]
      match hd : t.drop (cntL schB t) with
      | [] =>
        rw [hd, if_neg (by simp)] at hk
        rw [if_neg (by simp [headB]), if_neg (by omega)]
      | d :: q =>
        by_cases h4 : d = 58
        · subst h4
          rw [hd, List.head?_cons, if_pos rfl] at hk
          subst hk
          have h5 : t.drop (cntL schB t + 1) = q := by rw [← List.drop_drop, hd]; rfl
          have h6 : headB (58 :: q) (58 :: m) = headB q m := by simp [headB]
          have h7 : (c :: t).drop (cntL schB t + 1 + 1) = q := by rw [show (c :: t).drop (cntL schB t + 1 + 1) = t.drop (cntL schB t + 1) from rfl, h5]
          rw [h6, h7]
          cases h8 : headB q m with
          | false => rw [if_neg (by simp), if_neg (by simp)]
          | true =>
            rw [if_pos rfl, if_pos ⟨by omega, rfl⟩]
            congr 2
            rw [← List.drop_drop, h7]
            rfl
        · rw [hd, List.head?_cons, if_neg fun e => h4 (Option.some.inj e)] at hk
          rw [if_neg (by simp [headB]; intro _ e; exact absurd e h4), if_neg (by omega)]
theorem cntL_drop (p : Int → Bool) : ∀ l : List Int, (l.drop (cntL p l) = [] ↔ l.all p = true)
  | [] => by simp [cntL]
  | c :: t => by
    have ih := cntL_drop p t
    rw [cntL, List.all_cons]
    cases h : p c with
    | true => simpa using ih
    | false => simp
theorem cntL_full {p : Int → Bool} {l : List Int} (h : l.drop (cntL p l) = []) : l.take (cntL p l) = l := by
  have := List.take_append_drop (cntL p l) l
  rwa [h, List.append_nil] at this
def prs4 (sch ho po s : List Int) : Expr5 := if (pathR s []).1 = true then ⟨4, sch, ho, po, (pathR s []).2.1⟩ else exprZ
theorem prs4_eq (sch ho po s : List Int) : prs4 sch ho po s = src4 sch ho po s := by
  unfold prs4 src4
  match s with
  | [] => simp [pathR, headB, pathOk]
  | c :: r =>
    rw [List.head?_cons]
    by_cases h : c = 47
    · have hQ : pathR (c :: r) [] = (decide ((c :: r).drop (cntL pathC (c :: r)) = []), (c :: r).take (cntL pathC (c :: r)), (c :: r).drop (cntL pathC (c :: r))) := by unfold pathR; rw [headB_cons, decide_eq_true h, if_pos rfl]
      have hc : ¬ ((c :: r) ≠ [] ∧ some c ≠ some 47) := fun e => e.2 (by rw [h])
      rw [hQ, if_neg hc]
      by_cases h2 : pathOk (c :: r) = true
      · have h3 := (cntL_drop pathC (c :: r)).2 h2
        rw [if_pos h2, if_pos (decide_eq_true h3), cntL_full h3]
      · have h3 : ¬ (c :: r).drop (cntL pathC (c :: r)) = [] := fun e => h2 ((cntL_drop pathC (c :: r)).1 e)
        rw [if_neg h2, if_neg (by rw [decide_eq_false h3]; simp)]
    · have hQ : pathR (c :: r) [] = (false, [], c :: r) := by unfold pathR; rw [headB_cons, decide_eq_false h, if_neg (by simp)]; simp
      have hc : (c :: r) ≠ [] ∧ some c ≠ some 47 := ⟨by simp, fun e => h (Option.some.inj e)⟩
      rw [hQ, if_pos hc, if_neg (by simp)]
def prs3 (sch ho s : List Int) : Expr5 := if (portR s []).1 = true then prs4 sch ho (portR s []).2.1 (portR s []).2.2 else exprZ
theorem prs3_eq (sch ho s : List Int) : prs3 sch ho s = src3 sch ho s := by
  unfold prs3 portR
  match s with
  | [] => rw [headB_nil]; simp [prs4_eq, src3]
  | c :: r =>
    rw [headB_cons, src3]
    by_cases h : c = 58
    · rw [decide_eq_true h, if_pos rfl, if_pos h, List.drop_one, List.tail_cons]
      have h2 : headB r [42] = decide (r.head? = some 42) := by cases r with | nil => rfl | cons d q => rw [headB_cons]; simp
      rw [h2]
      by_cases h3 : r.head? = some 42
      · rw [if_pos h3]
        simp [h3, prs4_eq]
      · rw [if_neg h3]
        by_cases h4 : cntL digitB r = 0 ∨ 5 < cntL digitB r
        · rw [if_pos h4]
          rcases h4 with h4 | h4
          · simp [h3, h4]
          · have : ¬ cntL digitB r ≤ 5 := by omega
            simp [h3, this]
        · rw [if_neg h4]
          have h5 : cntL digitB r ≤ 5 := by omega
          have h6 : ¬ cntL digitB r = 0 := by omega
          simp [h3, h5, h6, prs4_eq]
    · rw [decide_eq_false h, if_neg h]
      simp [prs4_eq]
def prs2 (sch s : List Int) : Expr5 := if (hostR s []).1 = true then prs3 sch (hostR s []).2.1 (hostR s []).2.2 else exprZ
theorem prs2_eq (sch s : List Int) : prs2 sch s = src2 sch s := by
  have plain : ∀ s : List Int, headB s [42] = false → hostPartN s = labelsN s → prs2 sch s = src2 sch s := by
    intro s h1 h2
    unfold prs2 src2 hostR
    rw [h1, h2]
    obtain ⟨i1, i2⟩ := labsR_spec (s.length + 1) [] s (by omega)
    by_cases h3 : labelsN s = 0
    · have := i1 h3
      simp [h3, this]
    · have := i2 h3
      simp [h3, this, prs3_eq]
  match s with
  | [] => exact plain [] rfl rfl
  | [a] =>
    by_cases h : a = 42
    · subst h
      simp [prs2, src2, hostR, hostPartN, headB, prs3_eq, lowerL, lowB]
    · exact plain [a] (by rw [headB_cons, decide_eq_false h]) (by rw [hostPartN, if_neg h])
  | a :: b :: r =>
    by_cases h : a = 42
    · subst h
      by_cases h2 : b = 46
      · subst h2
        unfold prs2 src2 hostR
        rw [headB_cons, hostPartN, if_pos rfl, if_pos rfl]
        obtain ⟨i1, i2⟩ := labsR_spec (r.length + 1) [42, 46] r (by omega)
        by_cases h3 : labelsN r = 0
        · have := i1 h3
          simp [h3, this, headB_cons]
        · have := i2 h3
          have e1 : (42 :: 46 :: r).take (2 + labelsN r) = 42 :: 46 :: r.take (labelsN r) := by rw [Nat.add_comm]; rfl
          have e2 : (42 :: 46 :: r).drop (2 + labelsN r) = r.drop (labelsN r) := by rw [Nat.add_comm]; rfl
          have e3 : ¬ 2 + labelsN r = 0 := by omega
          simp [h3, this, headB_cons, prs3_eq, e1, e2, e3, lowerL, lowB]
      · unfold prs2 src2 hostR
        rw [headB_cons, hostPartN, if_pos rfl, if_neg h2]
        simp [headB_cons, h2, prs3_eq, lowerL, lowB]
    · exact plain (a :: b :: r) (by rw [headB_cons, decide_eq_false h]) (by rw [hostPartN, if_neg h])
def prs1 (s : List Int) : Expr5 := match schR [58] s with
  | some (x, []) => ⟨3, x, [], [], []⟩
  | _ => match schR [58, 47, 47] s with
    | some (x, r) => prs2 x r
    | none => prs2 [] s
theorem prs1_eq (s : List Int) : prs1 s = src1 s := by
  unfold prs1 src1
  obtain ⟨k, hk⟩ : ∃ k, schemeN s = k := ⟨_, rfl⟩
  have hkl : k ≤ s.length := by rw [← hk]; exact schemeN_le s
  have hklt : k ≠ 0 → k < s.length := by rw [← hk]; exact schemeN_lt
  rw [hk]
  have hA := schR_colon [] s k hk
  have hB := schR_colon [47, 47] s k hk
  by_cases c1 : 0 < k
  · have c1' := hklt (by omega)
    have e0 : headB (s.drop (k + 1)) [] = true := by simp [headB]
    rw [if_pos ⟨c1, e0⟩] at hA
    have colon : s[k]? = some 58 := by
      cases s with
      | nil => simp at c1'
      | cons c t =>
        rw [schemeN] at hk
        split at hk
        · split at hk
          · rename_i h1 h2
            subst hk
            rw [List.head?_drop] at h2
            rw [List.getElem?_cons_succ]; exact h2
          · omega
        · omega
    have e1 : (s.drop k).take 3 = [58, 47, 47] ↔ headB (s.drop (k + 1)) [47, 47] = true := by
      have : s.drop k = 58 :: s.drop (k + 1) := by
        rw [List.drop_eq_getElem_cons c1']
        rw [List.getElem?_eq_getElem c1'] at colon
        rw [Option.some.inj colon]
      rw [this, List.take_succ_cons]
      match s.drop (k + 1) with
      | [] => simp [headB]
      | [a] => simp [headB]
      | a :: b :: q => simp [headB]
    by_cases c2 : k + 1 = s.length
    · have : s.drop (k + 1 + 0) = [] := List.drop_eq_nil_of_le (by omega)
      rw [List.length_nil, this] at hA
      rw [hA, if_pos ⟨c1, c2⟩]
    · rw [if_neg fun e => c2 e.2]
      have hne : ∃ a q, s.drop (k + 1 + ([] : List Int).length) = a :: q := by
        match h : s.drop (k + 1 + ([] : List Int).length) with
        | [] => have := congrArg List.length h; simp at this; omega
        | a :: q => exact ⟨a, q, rfl⟩
      obtain ⟨a, q, hq⟩ := hne
      rw [hq] at hA
      rw [hA]
      simp only
      by_cases c3 : headB (s.drop (k + 1)) [47, 47] = true
      · rw [if_pos ⟨c1, c3⟩] at hB
        rw [hB, if_pos ⟨c1, e1.2 c3⟩]
        simp only [prs2_eq]
        congr 1
      · rw [if_neg fun e => c3 e.2] at hB
        rw [hB, if_neg fun e => c3 (e1.1 e.2)]
        simp only [prs2_eq]
  · rw [if_neg fun e => c1 e.1] at hA hB
    rw [hA, hB, if_neg fun e => c1 e.1, if_neg fun e => c1 e.1]
    exact prs2_eq _ _
end GoD

/-! Source expressions as the program reads them: the run. -/
namespace GoD
open Go Go.Proofs
set_option linter.unusedVariables false
set_option linter.unusedSimpArgs false
set_option maxHeartbeats 2000000
set_option maxRecDepth 100000
def pParseC : Ct := fun args h => match args with | [.s l] => if l.length ≤ 1048576 then some ((srcL l).V, h) else none | _ => none
theorem hostR_le {l c : List Int} (hl : l.length ≤ 1048576) : (hostR l c).2.2.length ≤ 1048576 := by
  have key : ∀ (f : Nat) (acc s : List Int), (labsR f acc s).2.2.length ≤ s.length := by
    intro f
    induction f with
    | zero => intro acc s; exact Nat.le_refl _
    | succ f ih =>
      intro acc s
      rw [labsR]
      split
      · exact Nat.le_refl _
      · split
        · exact Nat.le_trans (ih _ _) (by simp <;> omega)
        · simp
  unfold hostR
  split
  · split
    · exact Nat.le_trans (key _ _ _) (by simp; omega)
    · simp; omega
  · exact Nat.le_trans (key _ _ _) hl
theorem portR_le {l c : List Int} (hl : l.length ≤ 1048576) : (portR l c).2.2.length ≤ 1048576 := by
  unfold portR
  split
  · split
    · simp; omega
    · simp; omega
  · exact hl
end GoD

/-! Whether one of some expressions matches, as the program answers it. -/
namespace GoD
open Go Go.Proofs
set_option linter.unusedVariables false
set_option linter.unusedSimpArgs false
set_option maxHeartbeats 4000000
set_option maxRecDepth 100000
def pListC : Ct := fun args h => match args with
  | [.sl bl o n 1, .agg [.s a, .s b, .s c, .s d, .i .i64 p, .s e, .b q, .s f, .b g, .s x], .agg [.s os, .s oh, .i .i64 op], .i .i64 rd] => (match strsAt h bl o n with
    | some y => if d.length ≤ 1048576 ∧ e.length ≤ 1048576 ∧ (∀ s ∈ y, s.length ≤ 1048576) then some (.b (listB y a d p e os oh op rd), h) else none
    | none => none)
  | _ => none
end GoD
