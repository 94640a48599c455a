import Derived.Test.YtffoolaocbgknaaGreatDoorPL
/-! Source expressions as the program reads them: the run. -/
namespace GoD
open Go Go.Proofs
set_option linter.unusedVariables false
set_option linter.unusedSimpArgs false
set_option maxHeartbeats 2000000
set_option maxRecDepth 100000
def pParseC : Ct := fun args h => match args with | [.s l] => if l.length ≤ 1048576 then some ((srcL l).V, h) else none | _ => none
theorem hostR_le {l c : List Int} (hl : l.length ≤ 1048576) : (hostR l c).2.2.length ≤ 1048576 := by
  have key : ∀ (f : Nat) (acc s : List Int), (labsR f acc s).2.2.length ≤ s.length := by
    intro f
    induction f with
    | zero => intro acc s; exact Nat.le_refl _
    | succ f ih =>
      intro acc s
      rw [labsR]
      split
      · exact Nat.le_refl _
      · split
        · exact Nat.le_trans (ih _ _) (by simp <;> omega)
        · simp
  unfold hostR
  split
  · split
    · exact Nat.le_trans (key _ _ _) (by simp; omega)
    · simp; omega
  · exact Nat.le_trans (key _ _ _) hl
theorem portR_le {l c : List Int} (hl : l.length ≤ 1048576) : (portR l c).2.2.length ≤ 1048576 := by
  unfold portR
  split
  · split
    · simp; omega
    · simp; omega
  · exact hl
theorem pParse_ok : CtOk Tryz.prog G0 9 pParseC := by
  refine ct_plain (n := 1) fol (sound_cons pSame_ok (sound_cons pSchR_ok (sound_cons pHostR_ok (sound_cons pPortR_ok (sound_cons pPathR_ok sound_nil))))) (by kernel_rfl) Tryz.func9 rfl fun args h v h' hc r xs H hr hx => ?_
  unfold pParseC at hc; split at hc <;> (try split at hc) <;> cases hc
  rename_i l hl
  obtain ⟨⟨hs, _⟩, _⟩ := str_of hx
  refine ⟨rfl, rfl, Expr5.flat _ _, ?_⟩
  simp only [Tryz.f9, run_seq]
  generalize hK7 : (Code.region 7 _ _).seq _ = K7
  have st7 : ∀ (t : Tm) (h1 : Heap), get t 0 = .s l → get t 2 = .p h.length 0 → h1 = h ++ [exprBk exprZ] → Run (ctx Tryz.prog G0 [(28, pSameC), (29, pSchRC), (30, pHostRC), (31, pPortRC), (32, pPathRC)]) (Fini (ctx Tryz.prog G0 [(28, pSameC), (29, pSchRC), (30, pHostRC), (31, pPortRC), (32, pPathRC)]) [ResultVar.cell 2 24] fun v' h1 => v' = (src1 l).V ∧ Ext h h1) [.c K7] t h1 := by
    subst hK7
    intro t h1 t0 t2 hh
    have hl1 : h1.length = h.length + 1 := by rw [hh]; simp
    have hg0 : hget h1 h.length = exprBk exprZ := by rw [hh, hget_at0 rfl]; rfl
    have hE : Ext h h1 := by rw [hh]; exact (Ext.refl h).new _
    rw [← prs1_eq]
    obtain ⟨R, hR⟩ : ∃ R, prs1 l = R := ⟨_, rfl⟩
    rw [hR]
    unfold prs1 at hR
    simp only [run_seq]
    generalize hK12 : (Code.region 12 _ _).seq _ = K12
    have st12 : ∀ (t : Tm) (h2 : Heap), (match schR [58, 47, 47] l with | some (x, r) => prs2 x r | none => prs2 [] l) = R → get t 0 = .s l → get t 2 = .p h.length 0 → h2.length = h.length + 2 → hget h2 h.length = exprBk exprZ → Ext h h2 → Run (ctx Tryz.prog G0 [(28, pSameC), (29, pSchRC), (30, pHostRC), (31, pPortRC), (32, pPathRC)]) (Fini (ctx Tryz.prog G0 [(28, pSameC), (29, pSchRC), (30, pHostRC), (31, pPortRC), (32, pPathRC)]) [ResultVar.cell 2 24] fun v' h1 => v' = (R).V ∧ Ext h h1) [.c K12] t h2 := by
      subst hK12
      clear hR t0 t2 hh hl1 hg0 hE
      intro t h2 hR t0 t2 hl1 hg0 hE
      have same0 : ∀ x, (h2 ++ [x]).set h.length ⟨2, true, [.i .i64 0, .s [], .s [], .s [], .s []]⟩ = h2 ++ [x] := by
        intro x
        refine set_same (by simp; omega) ?_
        rw [hget_lt (by omega)]; exact hg0
      have hg0' : hget h2 h.length = ⟨2, true, [.i .i64 0, .s [], .s [], .s [], .s []]⟩ := hg0
      obtain ⟨x, r, hr, hS, hR2⟩ : ∃ x r, r.length ≤ 1048576 ∧ schBk [58, 47, 47] l ⟨0, [], [], [], []⟩ = ⟨2, true, [.s r, .i .i64 0, .s x, .s [], .s [], .s []]⟩ ∧ prs2 x r = R := by
        cases hq : schR [58, 47, 47] l with
        | none =>
          rw [hq] at hR
          exact ⟨[], l, hl, by unfold schBk; rw [hq]; rfl, hR⟩
        | some y =>
          rw [hq] at hR
          refine ⟨y.1, y.2, ?_, by unfold schBk; rw [hq]; rfl, hR⟩
          unfold schR at hq
          split at hq
          · cases hq
          · split at hq
            · rw [← Option.some.inj hq]; simp; omega
            · cases hq
      clear hR
      unfold prs2 at hR2
      obtain ⟨⟨b1, ho, r1⟩, hW1⟩ : ∃ W, hostR r [] = W := ⟨_, rfl⟩
      have hr1 : r1.length ≤ 1048576 := by have := hostR_le (c := []) hr; rw [hW1] at this; exact this
      rw [hW1] at hR2
      simp only at hR2
      cases b1 with
      | false =>
        rw [if_neg (by simp)] at hR2
        subst hR2
        simp -implicitDefEqProofs [go_sem, t0, t2, hl1, hl, pSchRC, hget_new, hget_set, hS, pHostRC, hr, hW1, rdBk, List.set_set, hg0', same0, exprZ, Expr5.V, Expr5.cells, hE, Ext.set, Ext.new]
      | true =>
        rw [if_pos rfl] at hR2
        unfold prs3 at hR2
        obtain ⟨⟨b2, po, r2⟩, hW2⟩ : ∃ W, portR r1 [] = W := ⟨_, rfl⟩
        have hr2 : r2.length ≤ 1048576 := by have := portR_le (c := []) hr1; rw [hW2] at this; exact this
        rw [hW2] at hR2
        simp only at hR2
        cases b2 with
        | false =>
          rw [if_neg (by simp)] at hR2
          subst hR2
          simp -implicitDefEqProofs [go_sem, t0, t2, hl1, hl, pSchRC, hget_new, hget_set, hS, pHostRC, pPortRC, hr, hr1, hW1, hW2, rdBk, List.set_set, hg0', same0, exprZ, Expr5.V, Expr5.cells, hE, Ext.set, Ext.new]
        | true =>
          rw [if_pos rfl] at hR2
          unfold prs4 at hR2
          obtain ⟨⟨b3, pa, r3⟩, hW3⟩ : ∃ W, pathR r2 [] = W := ⟨_, rfl⟩
          rw [hW3] at hR2
          simp only at hR2
          cases b3 with
          | false =>
            rw [if_neg (by simp)] at hR2
            subst hR2
            simp -implicitDefEqProofs [go_sem, t0, t2, hl1, hl, pSchRC, hget_new, hget_set, hS, pHostRC, pPortRC, pPathRC, hr, hr1, hr2, hW1, hW2, hW3, rdBk, List.set_set, hg0', same0, exprZ, Expr5.V, Expr5.cells, hE, Ext.set, Ext.new]
          | true =>
            rw [if_pos rfl] at hR2
            subst hR2
            simp -implicitDefEqProofs [go_sem, t0, t2, hl1, hl, pSchRC, hget_new, hget_set, hS, pHostRC, pPortRC, pPathRC, hr, hr1, hr2, hW1, hW2, hW3, rdBk, List.set_set, hg0', same0, exprZ, Expr5.V, Expr5.cells, hE, Ext.set, Ext.new]
    cases hq : schR [58] l with
    | none =>
      rw [hq] at hR
      have hS : schBk [58] l ⟨0, [], [], [], []⟩ = ⟨2, true, [.s l, .i .i64 0, .s [], .s [], .s [], .s []]⟩ := by unfold schBk; rw [hq]; rfl
      simp -implicitDefEqProofs [go_sem, t0, t2, hl1, hl, pSchRC, hget_new, hget_set, hS, rdBk, List.set_set]
      refine st12 _ _ hR ?_ ?_ ?_ ?_ ?_
      all_goals simp -implicitDefEqProofs [go_sem, t0, t2, hl1, hget_new, hg0, hE, Ext.new]
    | some y =>
      obtain ⟨x, r⟩ := y
      rw [hq] at hR
      have hx0 := schR_ne hq
      have hx1 : x.isEmpty = false := by cases x with | nil => exact absurd rfl hx0 | cons _ _ => rfl
      have hS : schBk [58] l ⟨0, [], [], [], []⟩ = ⟨2, true, [.s r, .i .i64 0, .s x, .s [], .s [], .s []]⟩ := by unfold schBk; rw [hq]; rfl
      cases hr0 : r with
      | nil =>
        rw [hr0] at hR hS
        simp only at hR
        subst hR
        simp -implicitDefEqProofs [go_sem, t0, t2, hl1, hl, pSchRC, hget_new, hget_set, hS, hx0, hx1, rdBk, List.set_set, hg0, exprBk, exprZ, Expr5.V, Expr5.cells, hE, Ext.set, Ext.new]
      | cons c q =>
        rw [hr0] at hR hS
        simp only at hR
        simp -implicitDefEqProofs [go_sem, t0, t2, hl1, hl, pSchRC, hget_new, hget_set, hS, hx0, hx1, rdBk, List.set_set]
        refine st12 _ _ hR ?_ ?_ ?_ ?_ ?_
        all_goals simp -implicitDefEqProofs [go_sem, t0, t2, hl1, hget_new, hget_set, hg0, hE, Ext.new, Ext.set]
  obtain ⟨R, hR⟩ : ∃ R, srcL l = R := ⟨_, rfl⟩
  rw [hR]
  unfold srcL at hR
  by_cases c1 : l = [42]
  · rw [if_pos c1] at hR
    subst hR
    simp -implicitDefEqProofs [go_sem, eq_true c1, Expr5.V, Expr5.cells]
  rw [if_neg c1] at hR
  by_cases c2 : lowerL l = [39, 115, 101, 108, 102, 39]
  · rw [if_pos c2] at hR
    subst hR
    have c2' : (lowerL l = lowerL [39, 115, 101, 108, 102, 39]) = True := eq_true (by rw [c2]; rfl)
    simp -implicitDefEqProofs [go_sem, c1, pSameC, hl, c2', Expr5.V, Expr5.cells]
  rw [if_neg c2] at hR
  have c2' : (lowerL l = lowerL [39, 115, 101, 108, 102, 39]) = False := eq_false (by rw [show lowerL [39, 115, 101, 108, 102, 39] = [39, 115, 101, 108, 102, 39] from rfl]; exact c2)
  by_cases c3 : 2 ≤ l.length
  · have c3' : (1 : Int) < l.length := by omega
    have c4 : 0 < l.length := by omega
    have c4' : (0 : Int) < l.length := by omega
    obtain ⟨a, ha⟩ : ∃ a, l[0] = a := ⟨_, rfl⟩
    obtain ⟨n, hn⟩ : ∃ n, l.length = n + 1 := ⟨l.length - 1, by omega⟩
    have hn1 : n < l.length := by omega
    obtain ⟨z, hz⟩ : ∃ z, l[n] = z := ⟨_, rfl⟩
    have hhd : l.head? = some a := by rw [List.head?_eq_getElem?, List.getElem?_eq_getElem c4, ha]
    have hla : l.getLast? = some z := by rw [List.getLast?_eq_getElem?, hn, Nat.add_sub_cancel, List.getElem?_eq_getElem hn1, hz]
    have hn2 : (l.length : Int) - 1 = n := by omega
    have hn3 : (n : Int) < l.length := by omega
    rw [hhd, hla] at hR
    by_cases c5 : a = 39
    · by_cases c6 : z = 39
      · rw [if_pos ⟨c3, by rw [c5], by rw [c6]⟩] at hR
        subst hR
        simp -implicitDefEqProofs [go_sem, c1, pSameC, hl, c2', c3, show (1 < l.length) = True from eq_true (by omega), c3', c4, c4', ha, eq_true c5, hn2, hn3, hn1, hz, eq_true c6, w64 (x := (n : Int)) (by omega), Expr5.V, Expr5.cells]
      · rw [if_neg (by simp [c6])] at hR
        subst hR
        simp -implicitDefEqProofs [go_sem, c1, pSameC, hl, c2', c3, show (1 < l.length) = True from eq_true (by omega), c3', c4, c4', ha, eq_true c5, hn2, hn3, hn1, hz, c6, w64 (x := (n : Int)) (by omega)]
        exact st7 _ _ (by simp -implicitDefEqProofs [go_sem]) (by simp -implicitDefEqProofs [go_sem]) (by simp [exprBk, Expr5.cells, exprZ])
    · rw [if_neg (by simp [c5])] at hR
      subst hR
      simp -implicitDefEqProofs [go_sem, c1, pSameC, hl, c2', c3, show (1 < l.length) = True from eq_true (by omega), c3', c4, c4', ha, c5]
      exact st7 _ _ (by simp -implicitDefEqProofs [go_sem]) (by simp -implicitDefEqProofs [go_sem]) (by simp [exprBk, Expr5.cells, exprZ])
  · rw [if_neg fun e => c3 e.1] at hR
    subst hR
    have c3' : ¬ (1 : Int) < l.length := by omega
    simp -implicitDefEqProofs [go_sem, c1, pSameC, hl, c2', show ¬ 1 < l.length by omega, c3']
    exact st7 _ _ (by simp -implicitDefEqProofs [go_sem]) (by simp -implicitDefEqProofs [go_sem]) (by simp [exprBk, Expr5.cells, exprZ])
end GoD
