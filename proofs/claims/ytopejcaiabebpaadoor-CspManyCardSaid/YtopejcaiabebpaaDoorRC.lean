import Derived.Test.YtopejcaiabebpaaDoorRB
/-! Whether policies allow a fetch, as the document answers it; whether two rows of texts are the same. -/
namespace GoD
open Go Go.Proofs
set_option linter.unusedVariables false
set_option linter.unusedSimpArgs false
set_option maxHeartbeats 4000000
set_option maxRecDepth 100000
def rAllowsC : Ct := fun args h => match args with
  | [.s pp, .s ds, .agg [.s a, .s b, .s c, .s d, .i .i64 p, .s e, .b q, .s f, .b g, .s x], .agg [.s os, .s oh, .i .i64 op], .i .i64 rd] =>
    if pp.length ≤ 1048576 ∧ d.length ≤ 1048576 ∧ e.length ≤ 1048576 then some (.b (allowB pp ds a d p e os oh op rd), h) else none
  | _ => none
theorem cspL_len {pp : List Int} (h1 : pp.length ≤ 1048576) : (cspL pp).length ≤ 1048577 := by
  have := (cspF_B (N := pp.length) (y := splitL 59 pp) (acc := []) (fun p hp => splitL_mem hp) (by simp)).2
  have h2 := splitL_len 59 pp
  unfold cspL
  simp at this; omega
def pTexts1C : Ct := fun args h => match args with
  | [.sl b o n 1, .sl b' o' n' 1] => (match strsAt h b o n, strsAt h b' o' n' with | some x, some y => some (.b (decide (x = y)), h) | _, _ => none)
  | _ => none
theorem pTexts1_ok : CtOk Tryd.prog G0 21 pTexts1C := by
  refine ct_plain (n := 2) fol sound_nil (by kernel_rfl) Tryd.func21 rfl fun args h v h' hc r xs H hr hx => ?_
  unfold pTexts1C at hc; split at hc <;> (try split at hc) <;> (try split at hc) <;> cases hc
  rename_i b o n b' o' n' _ _ x y hx1 hy1
  obtain ⟨st, x1, c1, hg1, hld1, hn1, hc1⟩ := strsAt_eq hx1
  obtain ⟨st', x1', c1', hg1', hld1', hn1', hc1'⟩ := strsAt_eq hy1
  have hn6 := (sl_of hx).1
  refine ⟨rfl, rfl, by simp [renV, bndV], ?_⟩
  by_cases c2 : n = n'
  · subst c2
    simp -implicitDefEqProofs [go_sem, Tryd.f21]
    refine run_inv _ _ _ _ _ (fun (i : Nat) t h1 => i ≤ n ∧ get t 0 = .sl b o n 1 ∧ get t 1 = .sl b' o' n 1 ∧ get t 5 = .i .i64 i ∧ decide (x.drop i = y.drop i) = decide (x = y) ∧ h1 = h) (fun i => n - i) _ (x := 0) ⟨by simp, rfl, rfl, rfl, by simp, rfl⟩ ?_
    rintro i t h1 ⟨hi, t0, t1, t5, hd, rfl⟩ ih
    have hi6 : i < 1152921504606846976 := by omega
    by_cases hlt : i < n
    · have hxi : i < x.length := by omega
      have hyi : i < y.length := by omega
      have e1 := hc1 i hxi
      have e2 := hc1' i hyi
      rw [List.drop_eq_getElem_cons hxi, List.drop_eq_getElem_cons hyi] at hd
      by_cases c3 : x[i] = y[i]
      · rw [c3] at e1 hd
        simp only [List.cons.injEq, true_and] at hd
        simp -implicitDefEqProofs [go_sem, Tryd.f21, t0, t1, t5, hlt, hg1, hg1', e1, e2]
        refine ih (i + 1) _ _ (by omega) ⟨by omega, ?_⟩
        simp -implicitDefEqProofs [go_sem, t0, t1, t5, i64_n hi6]
        simpa using hd
      · have hne : ¬ x = y := by
          intro e
          rw [decide_eq_true e, decide_eq_true_iff] at hd
          exact c3 (List.cons.inj hd).1
        simp -implicitDefEqProofs [go_sem, Tryd.f21, t0, t1, t5, hlt, hg1, hg1', e1, e2, c3, hne]
    · have e1 : x.drop i = [] := List.drop_eq_nil_of_le (by omega)
      have e2 : y.drop i = [] := List.drop_eq_nil_of_le (by omega)
      rw [e1, e2] at hd
      have hd : x = y := by simpa using hd
      simp -implicitDefEqProofs [go_sem, Tryd.f21, t0, t1, t5, hlt, hd]
  · have c2' : ¬ (n : Int) = n' := by omega
    have hne : ¬ x = y := fun e => c2 (by rw [← hn1, ← hn1', e])
    simp -implicitDefEqProofs [go_sem, Tryd.f21, c2, c2', hne]
def pTexts2C : Ct := fun args h => match args with
  | [.c (.slice none 0 0), .c (.slice none 0 0)] => some (.b true, h)
  | _ => none
theorem pTexts2_ok : CtOk Tryd.prog G0 21 pTexts2C := by
  refine ct_plain (n := 2) fol sound_nil (by kernel_rfl) Tryd.func21 rfl fun args h v h' hc r xs H hr hx => ?_
  unfold pTexts2C at hc; split at hc <;> (try split at hc) <;> cases hc
  refine ⟨rfl, rfl, by simp [renV, bndV], ?_⟩
  simp -implicitDefEqProofs [go_sem, Tryd.f21]
  rw [run_again]
  simp -implicitDefEqProofs [go_sem, Tryd.f21]
theorem ct_or {P : Program} {G : Nat → List V} {f : FuncId} {c1 c2 : Ct} (h1 : CtOk P G f c1) (h2 : CtOk P G f c2) : CtOk P G f (fun a h => match c1 a h with | some x => some x | none => c2 a h) := fun args h v h' hc => by
  simp only at hc
  split at hc
  · rename_i x hx
    obtain rfl := Option.some.inj hc
    exact h1 _ _ _ _ hx
  · exact h2 _ _ _ _ hc
def pTextsC : Ct := fun a h => match pTexts1C a h with | some x => some x | none => pTexts2C a h
theorem pTexts_ok : CtOk Tryd.prog G0 21 pTextsC := ct_or pTexts1_ok pTexts2_ok
end GoD
