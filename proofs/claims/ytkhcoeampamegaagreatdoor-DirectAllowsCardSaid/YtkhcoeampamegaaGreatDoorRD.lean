import Derived.Test.YtkhcoeampamegaaGreatDoorRB
/-! Whether policies allow a fetch, as the document answers it; whether two rows of texts are the same. -/
namespace GoD
open Go Go.Proofs
set_option linter.unusedVariables false
set_option linter.unusedSimpArgs false
set_option maxHeartbeats 4000000
set_option maxRecDepth 100000
def rAllowsC : Ct := fun args h => match args with
  | [.s pp, .s ds, .agg [.s a, .s b, .s c, .s d, .i .i64 p, .s e, .b q, .s f, .b g, .s x], .agg [.s os, .s oh, .i .i64 op], .i .i64 rd] =>
    if pp.length ≤ 1048576 ∧ d.length ≤ 1048576 ∧ e.length ≤ 1048576 then some (.b (allowB pp ds a d p e os oh op rd), h) else none
  | _ => none
theorem cspL_len {pp : List Int} (h1 : pp.length ≤ 1048576) : (cspL pp).length ≤ 1048577 := by
  have := (cspF_B (N := pp.length) (y := splitL 59 pp) (acc := []) (fun p hp => splitL_mem hp) (by simp)).2
  have h2 := splitL_len 59 pp
  unfold cspL
  simp at this; omega
theorem rAllows_ok : CtOk Tryz.prog G0 21 rAllowsC := by
  refine ct_plain (n := 5) fol (sound_cons rCsp_ok (sound_cons rChain_ok (sound_cons rFind_ok (sound_cons rList_ok sound_nil)))) (by kernel_rfl) Tryz.func21 rfl fun args h v h' hc r xs H hr hx => ?_
  unfold rAllowsC at hc; split at hc <;> (try split at hc) <;> cases hc
  rename_i pp ds a b c d p e q f g x os oh op rd hl
  obtain ⟨h1, h2, h3⟩ := hl
  refine ⟨rfl, rfl, by simp [renV, bndV], ?_⟩
  obtain ⟨us, hus⟩ : ∃ us, us = [V.s a, V.s b, V.s c, V.s d, V.i .i64 p, V.s e, V.b q, V.s f, V.b g, V.s x] := ⟨_, rfl⟩
  obtain ⟨og, hog⟩ : ∃ og, og = [V.s os, V.s oh, V.i .i64 op] := ⟨_, rfl⟩
  have hE0 : Ext h (h ++ [⟨2, true, us⟩, ⟨2, true, og⟩]) := (Ext.refl h).app _
  obtain ⟨v, g1, hC, hE1, bb, c, rfl, hg, hd⟩ := rCsp_go (h := h ++ [⟨2, true, us⟩, ⟨2, true, og⟩]) (l := pp) h1
  have hBn := cspL_len h1
  have hm := chainL_len ds
  obtain ⟨bl, hbl⟩ : ∃ bl, (chainL ds).isEmpty = bl := ⟨_, rfl⟩
  have hEc : Ext g1 (g1 ++ [⟨2, !bl, sts (chainL ds)⟩]) := (Ext.refl g1).app _
  obtain ⟨v, g2, hD, hE2, hv⟩ := rFind_go (h := g1 ++ [⟨2, !bl, sts (chainL ds)⟩]) (b := bb) (st := 1) (x := false) (c := c) (ds := cspL pp) (bn := g1.length) (on := 0) (names := chainL ds) (by rw [hget_lt (alive hg)]; exact hg) (drs_ext hEc hd) hBn (by unfold strsAt; rw [hget_at0 rfl]; simp only [List.getD_cons_succ, List.getD_cons_zero, ldN_sts, strsV_map]) (by omega)
  have hEg : Ext g1 g2 := hEc.trans hE2
  have hE : Ext h g2 := (hE0.trans hE1).trans hEg
  have hl1 : h.length + 2 ≤ g1.length := by have := hE1.1; simpa using this
  have hl2 : g1.length ≤ g2.length := hEg.1
  have gu : hget g2 h.length = ⟨2, true, us⟩ := by rw [hEg.2 _ (by omega), hE1.2 _ (by simp), hget_at0 rfl]; rfl
  have go : hget g2 (h.length + 1) = ⟨2, true, og⟩ := by rw [hEg.2 _ (by omega), hE1.2 _ (by simp), hget_at rfl]; rfl
  have hv0 : (Value.slice none 0 0).oneCell' = true := rfl
  cases hf : findL (cspL pp) (chainL ds) with
  | none =>
    rw [hf] at hv
    obtain rfl := hv
    have ha : allowB pp ds a d p e os oh op rd = true := by unfold allowB; rw [hf]
    subst hus hog
    simp -implicitDefEqProofs [go_sem, Tryz.f21, hC, rChainC, hbl, hD, hv0, ha]
    exact hE.app _
  | some y =>
    rw [hf] at hv
    obtain ⟨u, rfl, b', o', rfl, hs, hc'⟩ := hv
    have ha : allowB pp ds a d p e os oh op rd = listB y.2 a d p e os oh op rd := by unfold allowB; rw [hf]
    have hy := findL_mem hf
    have hys : ∀ s ∈ y.2, s.length ≤ 1048576 := fun s hs => by have := (cspL_B y hy).2 s hs; omega
    subst hus hog
    have hn1 : ¬ h.length = g2.length := by omega
    have hn2 : ¬ h.length + 1 = g2.length := by omega
    have hs2 := strsAt_ext ((Ext.refl g2).app [⟨2, true, [.s y.1, .sl b' o' y.2.length 1]⟩]) hs
    have hll : h.length < g2.length := by omega
    have hll1 : h.length + 1 < g2.length := by omega
    simp -implicitDefEqProofs [go_sem, Tryz.f21, hC, rChainC, hbl, hD, ha, hn1, hn2, gu, go, hget_lt hll, hget_lt hll1, rListC, hs2, h2, h3, eq_true hys]
    exact hE.app _
def pTexts1C : Ct := fun args h => match args with
  | [.sl b o n 1, .sl b' o' n' 1] => (match strsAt h b o n, strsAt h b' o' n' with | some x, some y => some (.b (decide (x = y)), h) | _, _ => none)
  | _ => none
theorem pTexts1_ok : CtOk Tryz.prog G0 14 pTexts1C := by
  refine ct_plain (n := 2) fol sound_nil (by kernel_rfl) Tryz.func14 rfl fun args h v h' hc r xs H hr hx => ?_
  unfold pTexts1C at hc; split at hc <;> (try split at hc) <;> (try split at hc) <;> cases hc
  rename_i b o n b' o' n' _ _ x y hx1 hy1
  obtain ⟨st, x1, c1, hg1, hld1, hn1, hc1⟩ := strsAt_eq hx1
  obtain ⟨st', x1', c1', hg1', hld1', hn1', hc1'⟩ := strsAt_eq hy1
  have hn6 := (sl_of hx).1
  refine ⟨rfl, rfl, by simp [renV, bndV], ?_⟩
  by_cases c2 : n = n'
  · subst c2
    simp -implicitDefEqProofs [go_sem, Tryz.f14]
    refine run_inv _ _ _ _ _ (fun (i : Nat) t h1 => i ≤ n ∧ get t 0 = .sl b o n 1 ∧ get t 1 = .sl b' o' n 1 ∧ get t 5 = .i .i64 i ∧ decide (x.drop i = y.drop i) = decide (x = y) ∧ h1 = h) (fun i => n - i) _ (x := 0) ⟨by simp, rfl, rfl, rfl, by simp, rfl⟩ ?_
    rintro i t h1 ⟨hi, t0, t1, t5, hd, rfl⟩ ih
    have hi6 : i < 1152921504606846976 := by omega
    by_cases hlt : i < n
    · have hxi : i < x.length := by omega
      have hyi : i < y.length := by omega
      have e1 := hc1 i hxi
      have e2 := hc1' i hyi
      rw [List.drop_eq_getElem_cons hxi, List.drop_eq_getElem_cons hyi] at hd
      by_cases c3 : x[i] = y[i]
      · rw [c3] at e1 hd
        simp only [List.cons.injEq, true_and] at hd
        simp -implicitDefEqProofs [go_sem, Tryz.f14, t0, t1, t5, hlt, hg1, hg1', e1, e2]
        refine ih (i + 1) _ _ (by omega) ⟨by omega, ?_⟩
        simp -implicitDefEqProofs [go_sem, t0, t1, t5, i64_n hi6]
        simpa using hd
      · have hne : ¬ x = y := by
          intro e
          rw [decide_eq_true e, decide_eq_true_iff] at hd
          exact c3 (List.cons.inj hd).1
        simp -implicitDefEqProofs [go_sem, Tryz.f14, t0, t1, t5, hlt, hg1, hg1', e1, e2, c3, hne]
    · have e1 : x.drop i = [] := List.drop_eq_nil_of_le (by omega)
      have e2 : y.drop i = [] := List.drop_eq_nil_of_le (by omega)
      rw [e1, e2] at hd
      have hd : x = y := by simpa using hd
      simp -implicitDefEqProofs [go_sem, Tryz.f14, t0, t1, t5, hlt, hd]
  · have c2' : ¬ (n : Int) = n' := by omega
    have hne : ¬ x = y := fun e => c2 (by rw [← hn1, ← hn1', e])
    simp -implicitDefEqProofs [go_sem, Tryz.f14, c2, c2', hne]
def pTexts2C : Ct := fun args h => match args with
  | [.c (.slice none 0 0), .c (.slice none 0 0)] => some (.b true, h)
  | _ => none
theorem pTexts2_ok : CtOk Tryz.prog G0 14 pTexts2C := by
  refine ct_plain (n := 2) fol sound_nil (by kernel_rfl) Tryz.func14 rfl fun args h v h' hc r xs H hr hx => ?_
  unfold pTexts2C at hc; split at hc <;> (try split at hc) <;> cases hc
  refine ⟨rfl, rfl, by simp [renV, bndV], ?_⟩
  simp -implicitDefEqProofs [go_sem, Tryz.f14]
  rw [run_again]
  simp -implicitDefEqProofs [go_sem, Tryz.f14]
theorem ct_or {P : Program} {G : Nat → List V} {f : FuncId} {c1 c2 : Ct} (h1 : CtOk P G f c1) (h2 : CtOk P G f c2) : CtOk P G f (fun a h => match c1 a h with | some x => some x | none => c2 a h) := fun args h v h' hc => by
  simp only at hc
  split at hc
  · rename_i x hx
    obtain rfl := Option.some.inj hc
    exact h1 _ _ _ _ hx
  · exact h2 _ _ _ _ hc
def pTextsC : Ct := fun a h => match pTexts1C a h with | some x => some x | none => pTexts2C a h
theorem pTexts_ok : CtOk Tryz.prog G0 14 pTextsC := ct_or pTexts1_ok pTexts2_ok
end GoD

/-! Whether all of some policies allow a fetch, as the document answers it. -/
namespace GoD
open Go Go.Proofs
set_option linter.unusedVariables false
set_option linter.unusedSimpArgs false
set_option maxHeartbeats 4000000
set_option maxRecDepth 100000
def rAllAllowC : Ct := fun args h => match args with
  | [.sl bl o n 1, .s ds, .agg [.s a, .s b, .s c, .s d, .i .i64 p, .s e, .b q, .s f, .b g, .s x], .agg [.s os, .s oh, .i .i64 op], .i .i64 rd] => (match strsAt h bl o n with
    | some y => if d.length ≤ 1048576 ∧ e.length ≤ 1048576 ∧ (∀ s ∈ y, s.length ≤ 1048576) then some (.b (y.all fun s => allowB s ds a d p e os oh op rd), h) else none
    | none => none)
  | _ => none
theorem rAllAllow_ok : CtOk Tryz.prog G0 23 rAllAllowC := by
  refine ct_plain (n := 5) fol (sound_cons rAllows_ok sound_nil) (by kernel_rfl) Tryz.func23 rfl fun args h v h' hc r xs H hr hx => ?_
  unfold rAllAllowC at hc; split at hc <;> (try split at hc) <;> (try split at hc) <;> cases hc
  rename_i bl o n ds a b c d p e q f g x os oh op rd _ y hy hl
  obtain ⟨hdl, hel, hyl⟩ := hl
  obtain ⟨st, xx, cc, hg, hld, hn, hc⟩ := strsAt_eq hy
  have hn6 := (sl_of hx).1
  refine ⟨rfl, rfl, by simp [renV, bndV, renL, bndL], ?_⟩
  have hbl := alive hg
  obtain ⟨us, hus⟩ : ∃ us, us = [V.s a, V.s b, V.s c, V.s d, V.i .i64 p, V.s e, V.b q, V.s f, V.b g, V.s x] := ⟨_, rfl⟩
  obtain ⟨og, hog⟩ : ∃ og, og = [V.s os, V.s oh, V.i .i64 op] := ⟨_, rfl⟩
  obtain ⟨A, hA⟩ : ∃ A : List Int → Bool, A = fun s => allowB s ds a d p e os oh op rd := ⟨_, rfl⟩
  rw [← hA]
  have hA1 : ∀ s, allowB s ds a d p e os oh op rd = A s := fun s => by rw [hA]
  simp -implicitDefEqProofs [go_sem, Tryz.f23]
  refine run_inv _ _ _ _ _ (fun (i : Nat) t h1 => i ≤ n ∧ get t 1 = .s ds ∧ get t 0 = .sl bl o n 1 ∧ get t 4 = .i .i64 rd ∧ get t 7 = .p h.length 0 ∧ get t 8 = .p (h.length + 1) 0 ∧ get t 11 = .i .i64 i ∧ (y.drop i).all A = y.all A ∧ h1 = h ++ [⟨2, true, us⟩, ⟨2, true, og⟩]) (fun i => n - i) _ (x := 0) ⟨by simp, rfl, rfl, rfl, rfl, rfl, rfl, by simp, by rw [hus, hog]⟩ ?_
  rintro i t h1 ⟨hi, t1, t0, t4, t7, t8, t11, hd, hh⟩ ih
  have hl1 : h1.length = h.length + 2 := by rw [hh]; simp
  have hg0 : hget h1 h.length = ⟨2, true, us⟩ := by rw [hh, hget_at0 rfl]; rfl
  have hg1 : hget h1 (h.length + 1) = ⟨2, true, og⟩ := by rw [hh, hget_at rfl]; rfl
  have hgb : hget h1 bl = ⟨st + 1, xx, cc⟩ := by rw [hh, hget_lt hbl]; exact hg
  have hE : Ext h h1 := by rw [hh]; exact (Ext.refl h).app _
  have hi6 : i < 1152921504606846976 := by omega
  rw [hus] at hg0
  rw [hog] at hg1
  by_cases hlt : i < n
  · have hlt' : i < y.length := by omega
    obtain ⟨w, hw⟩ : ∃ w, y[i] = w := ⟨_, rfl⟩
    have hc1 := hc i hlt'
    have hwl := hyl w (hw ▸ List.getElem_mem hlt')
    rw [hw] at hc1
    have hd2 : (y.drop i).all A = (A w && (y.drop (i + 1)).all A) := by rw [List.drop_eq_getElem_cons hlt', hw]; rfl
    rw [hd2] at hd
    cases c1 : A w with
    | false =>
      rw [c1, Bool.false_and] at hd
      simp -implicitDefEqProofs [go_sem, Tryz.f23, t1, t0, t4, t7, t8, t11, hlt, hc1, hgb, hg0, hg1, rAllowsC, hA1, hwl, hdl, hel, c1, hE]
      exact ⟨w, hw ▸ List.getElem_mem hlt', c1⟩
    | true =>
      rw [c1, Bool.true_and] at hd
      simp -implicitDefEqProofs [go_sem, Tryz.f23, t1, t0, t4, t7, t8, t11, hlt, hc1, hgb, hg0, hg1, rAllowsC, hA1, hwl, hdl, hel, c1]
      refine ih (i + 1) _ _ (by omega) ⟨by omega, ?_⟩
      simp -implicitDefEqProofs [go_sem, t1, t0, t4, t7, t8, t11, i64_n hi6, hh]
      exact hd
  · have e0 : y.drop i = [] := List.drop_eq_nil_of_le (by omega)
    rw [e0] at hd
    simp -implicitDefEqProofs [go_sem, Tryz.f23, t0, t11, hlt, hE]
    exact List.all_eq_true.1 (show y.all A = true from hd.symm)
end GoD
