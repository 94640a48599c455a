import Derived.Test.YtkhcoeampamegaaGreatDoorPG
/-! Own origins and matches as the program answers them. -/
namespace GoD
open Go Go.Proofs
set_option linter.unusedVariables false
set_option linter.unusedSimpArgs false
set_option maxHeartbeats 1000000
set_option maxRecDepth 100000
theorem normalB_of {a : List Int} {p : Int} (h1 : (defaultL a).2 = true) (h2 : p = (defaultL a).1) : normalB a p = true := by unfold normalB; rw [h1, h2]; simp
def pOwnC : Ct := fun args h => match args with
  | [.agg [.s a, .s b, .s c, .s d, .i .i64 p, .s e, .b q, .s f, .b g, .s x], .agg [.s os, .s oh, .i .i64 op]] => some (.b (ownB a d p os oh op), h)
  | _ => none
theorem pOwn_ok : CtOk Tryz.prog G0 66 pOwnC := by
  refine ct_plain (n := 2) fol (sound_cons pOf_ok (sound_cons pOSame_ok (sound_cons pDefault_ok (sound_cons pPort_ok (sound_cons pAny_ok sound_nil))))) (by kernel_rfl) Tryz.func66 rfl fun args h v h' hc r xs H hr hx => ?_
  unfold pOwnC at hc; split at hc <;> (try split at hc) <;> cases hc
  rename_i a b c d p e q f g x os oh op
  refine ⟨rfl, rfl, by simp [renV, bndV, renL, bndL], ?_⟩
  have zz := oNull_eq os oh op
  cases s1 : (decide (os = a) && decide (oh = d) && decide (op = portL a p) && !oNull os oh op) with
  | true =>
    simp -implicitDefEqProofs [go_sem, Tryz.f66, pOfC, pOSameC, pDefaultC, pPortC, pAnyC, strsAt, strsV, hget_new, ownB, normalB, httpT, httpsT, wsT, wssT, zz, s1]
  | false =>
    by_cases p1 : op = portL a p
    · cases z1 : oNull os oh op with
      | true =>
        simp -implicitDefEqProofs [go_sem, Tryz.f66, pOfC, pOSameC, pDefaultC, pPortC, pAnyC, strsAt, strsV, hget_new, ownB, normalB, httpT, httpsT, wsT, wssT, zz, s1, eq_true p1, z1]
      | false =>
        by_cases h1 : oh = d
        · by_cases a1 : a = [104, 116, 116, 112, 115]
          · simp -implicitDefEqProofs [go_sem, Tryz.f66, pOfC, pOSameC, pDefaultC, pPortC, pAnyC, strsAt, strsV, hget_new, ownB, normalB, httpT, httpsT, wsT, wssT, zz, s1, eq_true p1, z1, eq_true h1, eq_true a1]
          · by_cases a2 : a = [119, 115, 115]
            · simp -implicitDefEqProofs [go_sem, Tryz.f66, pOfC, pOSameC, pDefaultC, pPortC, pAnyC, strsAt, strsV, hget_new, ownB, normalB, httpT, httpsT, wsT, wssT, zz, s1, eq_true p1, z1, eq_true h1, a1, eq_true a2]
            · by_cases o1 : os = [104, 116, 116, 112]
              · by_cases a3 : a = [119, 115]
                · simp -implicitDefEqProofs [go_sem, Tryz.f66, pOfC, pOSameC, pDefaultC, pPortC, pAnyC, strsAt, strsV, hget_new, ownB, normalB, httpT, httpsT, wsT, wssT, zz, s1, eq_true p1, z1, eq_true h1, a1, a2, eq_true o1, eq_true a3]
                · simp -implicitDefEqProofs [go_sem, Tryz.f66, pOfC, pOSameC, pDefaultC, pPortC, pAnyC, strsAt, strsV, hget_new, ownB, normalB, httpT, httpsT, wsT, wssT, zz, s1, eq_true p1, z1, eq_true h1, a1, a2, eq_true o1, a3]
              · simp -implicitDefEqProofs [go_sem, Tryz.f66, pOfC, pOSameC, pDefaultC, pPortC, pAnyC, strsAt, strsV, hget_new, ownB, normalB, httpT, httpsT, wsT, wssT, zz, s1, eq_true p1, z1, eq_true h1, a1, a2, o1]
        · simp -implicitDefEqProofs [go_sem, Tryz.f66, pOfC, pOSameC, pDefaultC, pPortC, pAnyC, strsAt, strsV, hget_new, ownB, normalB, httpT, httpsT, wsT, wssT, zz, s1, eq_true p1, z1, h1]
    · cases d1 : (defaultL os).2 with
      | true =>
        cases d2 : (defaultL a).2 with
        | true =>
          by_cases q1 : op = (defaultL os).1
          · by_cases q2 : portL a p = (defaultL a).1
            · cases z1 : oNull os oh op with
              | true =>
                simp -implicitDefEqProofs [go_sem, Tryz.f66, pOfC, pOSameC, pDefaultC, pPortC, pAnyC, strsAt, strsV, hget_new, ownB, normalB, httpT, httpsT, wsT, wssT, zz, s1, p1, d1, d2, eq_true q1, eq_true q1.symm, eq_true q2, eq_true q2.symm, z1]
              | false =>
                by_cases h1 : oh = d
                · by_cases a1 : a = [104, 116, 116, 112, 115]
                  · simp -implicitDefEqProofs [go_sem, Tryz.f66, pOfC, pOSameC, pDefaultC, pPortC, pAnyC, strsAt, strsV, hget_new, ownB, normalB, httpT, httpsT, wsT, wssT, zz, s1, p1, d1, d2, eq_true q1, eq_true q1.symm, eq_true q2, eq_true q2.symm, z1, eq_true h1, eq_true a1]
                  · by_cases a2 : a = [119, 115, 115]
                    · simp -implicitDefEqProofs [go_sem, Tryz.f66, pOfC, pOSameC, pDefaultC, pPortC, pAnyC, strsAt, strsV, hget_new, ownB, normalB, httpT, httpsT, wsT, wssT, zz, s1, p1, d1, d2, eq_true q1, eq_true q1.symm, eq_true q2, eq_true q2.symm, z1, eq_true h1, a1, eq_true a2]
                    · by_cases o1 : os = [104, 116, 116, 112]
                      · by_cases a3 : a = [119, 115]
                        · simp -implicitDefEqProofs [go_sem, Tryz.f66, pOfC, pOSameC, pDefaultC, pPortC, pAnyC, strsAt, strsV, hget_new, ownB, normalB, httpT, httpsT, wsT, wssT, zz, s1, p1, d1, d2, eq_true q1, eq_true q1.symm, eq_true q2, eq_true q2.symm, z1, eq_true h1, a1, a2, eq_true o1, eq_true a3]
                        · simp -implicitDefEqProofs [go_sem, Tryz.f66, pOfC, pOSameC, pDefaultC, pPortC, pAnyC, strsAt, strsV, hget_new, ownB, normalB, httpT, httpsT, wsT, wssT, zz, s1, p1, d1, d2, eq_true q1, eq_true q1.symm, eq_true q2, eq_true q2.symm, z1, eq_true h1, a1, a2, eq_true o1, a3]
                      · simp -implicitDefEqProofs [go_sem, Tryz.f66, pOfC, pOSameC, pDefaultC, pPortC, pAnyC, strsAt, strsV, hget_new, ownB, normalB, httpT, httpsT, wsT, wssT, zz, s1, p1, d1, d2, eq_true q1, eq_true q1.symm, eq_true q2, eq_true q2.symm, z1, eq_true h1, a1, a2, o1]
                · simp -implicitDefEqProofs [go_sem, Tryz.f66, pOfC, pOSameC, pDefaultC, pPortC, pAnyC, strsAt, strsV, hget_new, ownB, normalB, httpT, httpsT, wsT, wssT, zz, s1, p1, d1, d2, eq_true q1, eq_true q1.symm, eq_true q2, eq_true q2.symm, z1, h1]
            · cases z1 : oNull os oh op with
              | true =>
                simp -implicitDefEqProofs [go_sem, Tryz.f66, pOfC, pOSameC, pDefaultC, pPortC, pAnyC, strsAt, strsV, hget_new, ownB, normalB, httpT, httpsT, wsT, wssT, zz, s1, p1, d1, d2, eq_true q1, eq_true q1.symm, q2, eq_false (Ne.symm q2), z1]
              | false =>
                by_cases h1 : oh = d
                · simp -implicitDefEqProofs [go_sem, Tryz.f66, pOfC, pOSameC, pDefaultC, pPortC, pAnyC, strsAt, strsV, hget_new, ownB, normalB, httpT, httpsT, wsT, wssT, zz, s1, p1, d1, d2, eq_true q1, eq_true q1.symm, q2, eq_false (Ne.symm q2), z1, eq_true h1]
                · simp -implicitDefEqProofs [go_sem, Tryz.f66, pOfC, pOSameC, pDefaultC, pPortC, pAnyC, strsAt, strsV, hget_new, ownB, normalB, httpT, httpsT, wsT, wssT, zz, s1, p1, d1, d2, eq_true q1, eq_true q1.symm, q2, eq_false (Ne.symm q2), z1, h1]
          · cases z1 : oNull os oh op with
            | true =>
              simp -implicitDefEqProofs [go_sem, Tryz.f66, pOfC, pOSameC, pDefaultC, pPortC, pAnyC, strsAt, strsV, hget_new, ownB, normalB, httpT, httpsT, wsT, wssT, zz, s1, p1, d1, d2, q1, eq_false (Ne.symm q1), z1]
            | false =>
              by_cases h1 : oh = d
              · simp -implicitDefEqProofs [go_sem, Tryz.f66, pOfC, pOSameC, pDefaultC, pPortC, pAnyC, strsAt, strsV, hget_new, ownB, normalB, httpT, httpsT, wsT, wssT, zz, s1, p1, d1, d2, q1, eq_false (Ne.symm q1), z1, eq_true h1]
              · simp -implicitDefEqProofs [go_sem, Tryz.f66, pOfC, pOSameC, pDefaultC, pPortC, pAnyC, strsAt, strsV, hget_new, ownB, normalB, httpT, httpsT, wsT, wssT, zz, s1, p1, d1, d2, q1, eq_false (Ne.symm q1), z1, h1]
        | false =>
          cases z1 : oNull os oh op with
          | true =>
            simp -implicitDefEqProofs [go_sem, Tryz.f66, pOfC, pOSameC, pDefaultC, pPortC, pAnyC, strsAt, strsV, hget_new, ownB, normalB, httpT, httpsT, wsT, wssT, zz, s1, p1, d1, d2, z1]
          | false =>
            by_cases h1 : oh = d
            · simp -implicitDefEqProofs [go_sem, Tryz.f66, pOfC, pOSameC, pDefaultC, pPortC, pAnyC, strsAt, strsV, hget_new, ownB, normalB, httpT, httpsT, wsT, wssT, zz, s1, p1, d1, d2, z1, eq_true h1]
            · simp -implicitDefEqProofs [go_sem, Tryz.f66, pOfC, pOSameC, pDefaultC, pPortC, pAnyC, strsAt, strsV, hget_new, ownB, normalB, httpT, httpsT, wsT, wssT, zz, s1, p1, d1, d2, z1, h1]
      | false =>
        cases z1 : oNull os oh op with
        | true =>
          simp -implicitDefEqProofs [go_sem, Tryz.f66, pOfC, pOSameC, pDefaultC, pPortC, pAnyC, strsAt, strsV, hget_new, ownB, normalB, httpT, httpsT, wsT, wssT, zz, s1, p1, d1, z1]
        | false =>
          by_cases h1 : oh = d
          · simp -implicitDefEqProofs [go_sem, Tryz.f66, pOfC, pOSameC, pDefaultC, pPortC, pAnyC, strsAt, strsV, hget_new, ownB, normalB, httpT, httpsT, wsT, wssT, zz, s1, p1, d1, z1, eq_true h1]
          · simp -implicitDefEqProofs [go_sem, Tryz.f66, pOfC, pOSameC, pDefaultC, pPortC, pAnyC, strsAt, strsV, hget_new, ownB, normalB, httpT, httpsT, wsT, wssT, zz, s1, p1, d1, z1, h1]
def pMatchC : Ct := fun args h => match args with
  | [.agg [.i .i64 k, .s es, .s eh, .s ep, .s ea], .agg [.s a, .s b, .s c, .s d, .i .i64 p, .s e, .b q, .s f, .b g, .s x], .agg [.s os, .s oh, .i .i64 op], .i .i64 rd] =>
    if portQ ep ∧ d.length ≤ 1048576 ∧ e.length ≤ 1048576 ∧ ea.length ≤ 1048576 then some (.b (matchB ⟨k, es, eh, ep, ea⟩ a d p e os oh op rd), h) else none
  | _ => none
theorem pMatch_ok : CtOk Tryz.prog G0 50 pMatchC := by
  refine ct_plain (n := 4) fol (sound_cons pOwn_ok (sound_cons pScheme_ok (sound_cons pHost_ok (sound_cons pPortM_ok (sound_cons pPathM_ok (sound_cons pAny_ok sound_nil)))))) (by kernel_rfl) Tryz.func50 rfl fun args h v h' hc r xs H hr hx => ?_
  unfold pMatchC at hc; split at hc <;> (try split at hc) <;> cases hc
  rename_i k es eh ep ea a b c d p e q f g x os oh op rd hl
  obtain ⟨hep, hdl, hel, heal⟩ := hl
  refine ⟨rfl, rfl, by simp [renV, bndV, renL, bndL], ?_⟩
  have hep0 : (ep = [] ∨ ep = [42] ∨ portP ep = true) = True := eq_true hep
  have zz := oNull_eq os oh op
  by_cases k1 : k = 1
  · simp -implicitDefEqProofs [go_sem, Tryz.f50, Bool.or_assoc, pOwnC, pSchemeC, pHostC, pPortMC, pPathMC, pAnyC, strsAt, strsV, hget_new, matchB, namedB, httpT, httpsT, wsT, wssT, hdl, hel, heal, hep0, zz, eq_true k1]
  · by_cases k2 : k = 2
    · simp -implicitDefEqProofs [go_sem, Tryz.f50, Bool.or_assoc, pOwnC, pSchemeC, pHostC, pPortMC, pPathMC, pAnyC, strsAt, strsV, hget_new, matchB, namedB, httpT, httpsT, wsT, wssT, hdl, hel, heal, hep0, zz, k1, eq_true k2]
    · by_cases k3 : k = 3
      · simp -implicitDefEqProofs [go_sem, Tryz.f50, Bool.or_assoc, pOwnC, pSchemeC, pHostC, pPortMC, pPathMC, pAnyC, strsAt, strsV, hget_new, matchB, namedB, httpT, httpsT, wsT, wssT, hdl, hel, heal, hep0, zz, k1, k2, eq_true k3]
      · by_cases k4 : k = 4
        · by_cases e1 : es = []
          · have e2 : es.isEmpty = true := by rw [e1]; rfl
            cases s1 : schemeB os a with
            | true =>
              cases h1 : hostB eh d with
              | true =>
                cases p1 : portB ep a p with
                | true =>
                  by_cases r1 : rd = 0
                  · simp -implicitDefEqProofs [go_sem, Tryz.f50, Bool.or_assoc, pOwnC, pSchemeC, pHostC, pPortMC, pPathMC, pAnyC, strsAt, strsV, hget_new, matchB, namedB, httpT, httpsT, wsT, wssT, hdl, hel, heal, hep0, zz, k1, k2, k3, eq_true k4, eq_true e1, e2, s1, h1, p1, eq_true r1]
                  · simp -implicitDefEqProofs [go_sem, Tryz.f50, Bool.or_assoc, pOwnC, pSchemeC, pHostC, pPortMC, pPathMC, pAnyC, strsAt, strsV, hget_new, matchB, namedB, httpT, httpsT, wsT, wssT, hdl, hel, heal, hep0, zz, k1, k2, k3, eq_true k4, eq_true e1, e2, s1, h1, p1, r1]
                | false =>
                  simp -implicitDefEqProofs [go_sem, Tryz.f50, Bool.or_assoc, pOwnC, pSchemeC, pHostC, pPortMC, pPathMC, pAnyC, strsAt, strsV, hget_new, matchB, namedB, httpT, httpsT, wsT, wssT, hdl, hel, heal, hep0, zz, k1, k2, k3, eq_true k4, eq_true e1, e2, s1, h1, p1]
              | false =>
                simp -implicitDefEqProofs [go_sem, Tryz.f50, Bool.or_assoc, pOwnC, pSchemeC, pHostC, pPortMC, pPathMC, pAnyC, strsAt, strsV, hget_new, matchB, namedB, httpT, httpsT, wsT, wssT, hdl, hel, heal, hep0, zz, k1, k2, k3, eq_true k4, eq_true e1, e2, s1, h1]
            | false =>
              cases z1 : oNull os oh op with
              | true =>
                cases h1 : hostB eh d with
                | true =>
                  cases p1 : portB ep a p with
                  | true =>
                    by_cases r1 : rd = 0
                    · simp -implicitDefEqProofs [go_sem, Tryz.f50, Bool.or_assoc, pOwnC, pSchemeC, pHostC, pPortMC, pPathMC, pAnyC, strsAt, strsV, hget_new, matchB, namedB, httpT, httpsT, wsT, wssT, hdl, hel, heal, hep0, zz, k1, k2, k3, eq_true k4, eq_true e1, e2, s1, z1, h1, p1, eq_true r1]
                    · simp -implicitDefEqProofs [go_sem, Tryz.f50, Bool.or_assoc, pOwnC, pSchemeC, pHostC, pPortMC, pPathMC, pAnyC, strsAt, strsV, hget_new, matchB, namedB, httpT, httpsT, wsT, wssT, hdl, hel, heal, hep0, zz, k1, k2, k3, eq_true k4, eq_true e1, e2, s1, z1, h1, p1, r1]
                  | false =>
                    simp -implicitDefEqProofs [go_sem, Tryz.f50, Bool.or_assoc, pOwnC, pSchemeC, pHostC, pPortMC, pPathMC, pAnyC, strsAt, strsV, hget_new, matchB, namedB, httpT, httpsT, wsT, wssT, hdl, hel, heal, hep0, zz, k1, k2, k3, eq_true k4, eq_true e1, e2, s1, z1, h1, p1]
                | false =>
                  simp -implicitDefEqProofs [go_sem, Tryz.f50, Bool.or_assoc, pOwnC, pSchemeC, pHostC, pPortMC, pPathMC, pAnyC, strsAt, strsV, hget_new, matchB, namedB, httpT, httpsT, wsT, wssT, hdl, hel, heal, hep0, zz, k1, k2, k3, eq_true k4, eq_true e1, e2, s1, z1, h1]
              | false =>
                simp -implicitDefEqProofs [go_sem, Tryz.f50, Bool.or_assoc, pOwnC, pSchemeC, pHostC, pPortMC, pPathMC, pAnyC, strsAt, strsV, hget_new, matchB, namedB, httpT, httpsT, wsT, wssT, hdl, hel, heal, hep0, zz, k1, k2, k3, eq_true k4, eq_true e1, e2, s1, z1]
          · have e2 : es.isEmpty = false := by cases es with | nil => exact absurd rfl e1 | cons _ _ => rfl
            cases s1 : schemeB es a with
            | true =>
              cases h1 : hostB eh d with
              | true =>
                cases p1 : portB ep a p with
                | true =>
                  by_cases r1 : rd = 0
                  · simp -implicitDefEqProofs [go_sem, Tryz.f50, Bool.or_assoc, pOwnC, pSchemeC, pHostC, pPortMC, pPathMC, pAnyC, strsAt, strsV, hget_new, matchB, namedB, httpT, httpsT, wsT, wssT, hdl, hel, heal, hep0, zz, k1, k2, k3, eq_true k4, e1, e2, s1, h1, p1, eq_true r1]
                  · simp -implicitDefEqProofs [go_sem, Tryz.f50, Bool.or_assoc, pOwnC, pSchemeC, pHostC, pPortMC, pPathMC, pAnyC, strsAt, strsV, hget_new, matchB, namedB, httpT, httpsT, wsT, wssT, hdl, hel, heal, hep0, zz, k1, k2, k3, eq_true k4, e1, e2, s1, h1, p1, r1]
                | false =>
                  simp -implicitDefEqProofs [go_sem, Tryz.f50, Bool.or_assoc, pOwnC, pSchemeC, pHostC, pPortMC, pPathMC, pAnyC, strsAt, strsV, hget_new, matchB, namedB, httpT, httpsT, wsT, wssT, hdl, hel, heal, hep0, zz, k1, k2, k3, eq_true k4, e1, e2, s1, h1, p1]
              | false =>
                simp -implicitDefEqProofs [go_sem, Tryz.f50, Bool.or_assoc, pOwnC, pSchemeC, pHostC, pPortMC, pPathMC, pAnyC, strsAt, strsV, hget_new, matchB, namedB, httpT, httpsT, wsT, wssT, hdl, hel, heal, hep0, zz, k1, k2, k3, eq_true k4, e1, e2, s1, h1]
            | false =>
              simp -implicitDefEqProofs [go_sem, Tryz.f50, Bool.or_assoc, pOwnC, pSchemeC, pHostC, pPortMC, pPathMC, pAnyC, strsAt, strsV, hget_new, matchB, namedB, httpT, httpsT, wsT, wssT, hdl, hel, heal, hep0, zz, k1, k2, k3, eq_true k4, e1, e2, s1]
        · simp -implicitDefEqProofs [go_sem, Tryz.f50, Bool.or_assoc, pOwnC, pSchemeC, pHostC, pPortMC, pPathMC, pAnyC, strsAt, strsV, hget_new, matchB, namedB, httpT, httpsT, wsT, wssT, hdl, hel, heal, hep0, zz, k1, k2, k3, k4]
end GoD

/-! The program's reader of source expressions. -/
namespace GoD
open Go Go.Proofs
set_option linter.unusedVariables false
set_option linter.unusedSimpArgs false
set_option maxHeartbeats 2000000
set_option maxRecDepth 100000
def predOf (f : FuncId) : Option (Int → Bool) := if f = 104 then some schB else if f = 107 then some labB else if f = 108 then some digitB else if f = 109 then some pathC else none
def rdBk (l : List Int) (e : Expr5) : Blk := ⟨2, true, [.s l, .i .i64 e.kind, .s e.sch, .s e.ho, .s e.po, .s e.pa]⟩
theorem rdBk_flat (l : List Int) (e : Expr5) : (rdBk l e).cells.all GoD.flat = true := rfl
def pRowC : Ct := fun args h => match args with
  | [.p b 0, .f (.func f) []] => match predOf f, hget h b with
    | some p, ⟨2, true, [.s l, .i .i64 k, .s a, .s c, .s d, .s e]⟩ => if b < h.length ∧ l.length ≤ 1048576 then some (.s (l.take (cntL p l)), h.set b (rdBk (l.drop (cntL p l)) ⟨k, a, c, d, e⟩)) else none
    | _, _ => none
  | _ => none
theorem pRow_ok : CtOk Tryz.prog G0 103 pRowC := by
  refine ct_run (n := 2) fol (sound_cons pSchemed_ok (sound_cons pLabelled_ok (sound_cons pDigit_ok (sound_cons pPathed_ok sound_nil)))) (by kernel_rfl) Tryz.func103 rfl fun args h v h' hc r xs H hr hx => ?_
  unfold pRowC at hc
  split at hc
  · split at hc
    · split at hc
      · rename_i b f _ _ p l k a c d e hp hg hb
        cases hc
        obtain ⟨hb, hl⟩ := hb
        refine ⟨rfl, ?_⟩
        have hE : ∀ n, ∃ σ, Trim h (V.s (l.take n)) (h.set b (rdBk (l.drop n) ⟨k, a, c, d, e⟩)) (V.s (l.take n)) (h.set b (rdBk (l.drop n) ⟨k, a, c, d, e⟩)) σ := fun n => Trim.own (by simp [renV, bndV]) rfl (Ext.refl _)
        unfold rdBk at hE
        unfold predOf at hp
        have key : ∀ i, ∀ R, cntL p l = R → i + cntL p (l.drop i) = R → i ≤ l.length → (∀ hi : i < l.length, p l[i] = true → i + 1 + cntL p (l.drop (i + 1)) = R) ∧ (∀ hi : i < l.length, p l[i] = false → i = R) ∧ (i = l.length → i = R) := by
          intro i R _ h1 hi
          refine ⟨fun hlt hp => ?_, fun hlt hp => ?_, fun e => ?_⟩
          · rw [List.drop_eq_getElem_cons hlt, cntL, if_pos hp] at h1; omega
          · rw [List.drop_eq_getElem_cons hlt, cntL, hp, if_neg (by simp)] at h1; omega
          · rw [List.drop_eq_nil_of_le (by omega), cntL] at h1; omega
        obtain ⟨R, hR⟩ : ∃ R, cntL p l = R := ⟨_, rfl⟩
        have key2 := fun i => key i R hR
        clear key
        rw [hR]
        have hRl : R ≤ l.length := by rw [← hR]; exact cntL_le p l
        have fin : True := trivial
        split at hp
        · rename_i hf
          cases hp
          subst hf
          simp -implicitDefEqProofs [go_sem, Tryz.f103]
          refine run_inv _ _ _ _ _ (fun (i : Nat) t h1 => i ≤ l.length ∧ get t 0 = .p b 0 ∧ get t 1 = .f (.func 104) [] ∧ get t 5 = .i .i64 i ∧ i + cntL schB (l.drop i) = R ∧ h1 = h) (fun i => l.length - i) _ (x := 0) ⟨by simp, by simp -implicitDefEqProofs [go_sem], by simp -implicitDefEqProofs [go_sem], by simp -implicitDefEqProofs [go_sem], by simpa using hR, rfl⟩ ?_
          rintro i t h1 ⟨hi, t0, t1, t5, hd, rfl⟩ ih
          obtain ⟨K1, K2, K3⟩ := key2 i hd hi
          have hi6 : i < 1152921504606846976 := by omega
          have hii : (i : Int) ≤ l.length := by omega
          by_cases hlt : i < l.length
          · obtain ⟨z, hz⟩ : ∃ z, l[i] = z := ⟨_, rfl⟩
            cases c1 : schB z with
            | true =>
              simp -implicitDefEqProofs [go_sem, Tryz.f103, t0, t1, t5, hg, hlt, hz, pSchemedC, pLabelledC, pDigitC, pPathedC, c1]
              refine ih (i + 1) _ _ (by omega) ⟨hlt, ?_, ?_, ?_, K1 hlt (by rw [hz]; exact c1), rfl⟩
              all_goals simp -implicitDefEqProofs [go_sem, t0, t1, t5, i64_n hi6]
            | false =>
              have hiR := K2 hlt (by rw [hz]; exact c1)
              simp -implicitDefEqProofs [go_sem, Tryz.f103, t0, t1, t5, hg, hlt, hz, pSchemedC, pLabelledC, pDigitC, pPathedC, c1, hii, hi, hb, rdBk]
              rw [← hiR]
              exact hE i
          · have hiR := K3 (by omega)
            simp -implicitDefEqProofs [go_sem, Tryz.f103, t0, t1, t5, hg, hlt, hii, hi, hb, rdBk]
            rw [← hiR]
            exact hE i
        split at hp
        · rename_i hf
          cases hp
          subst hf
          simp -implicitDefEqProofs [go_sem, Tryz.f103]
          refine run_inv _ _ _ _ _ (fun (i : Nat) t h1 => i ≤ l.length ∧ get t 0 = .p b 0 ∧ get t 1 = .f (.func 107) [] ∧ get t 5 = .i .i64 i ∧ i + cntL labB (l.drop i) = R ∧ h1 = h) (fun i => l.length - i) _ (x := 0) ⟨by simp, by simp -implicitDefEqProofs [go_sem], by simp -implicitDefEqProofs [go_sem], by simp -implicitDefEqProofs [go_sem], by simpa using hR, rfl⟩ ?_
          rintro i t h1 ⟨hi, t0, t1, t5, hd, rfl⟩ ih
          obtain ⟨K1, K2, K3⟩ := key2 i hd hi
          have hi6 : i < 1152921504606846976 := by omega
          have hii : (i : Int) ≤ l.length := by omega
          by_cases hlt : i < l.length
          · obtain ⟨z, hz⟩ : ∃ z, l[i] = z := ⟨_, rfl⟩
            cases c1 : labB z with
            | true =>
              simp -implicitDefEqProofs [go_sem, Tryz.f103, t0, t1, t5, hg, hlt, hz, pSchemedC, pLabelledC, pDigitC, pPathedC, c1]
              refine ih (i + 1) _ _ (by omega) ⟨hlt, ?_, ?_, ?_, K1 hlt (by rw [hz]; exact c1), rfl⟩
              all_goals simp -implicitDefEqProofs [go_sem, t0, t1, t5, i64_n hi6]
            | false =>
              have hiR := K2 hlt (by rw [hz]; exact c1)
              simp -implicitDefEqProofs [go_sem, Tryz.f103, t0, t1, t5, hg, hlt, hz, pSchemedC, pLabelledC, pDigitC, pPathedC, c1, hii, hi, hb, rdBk]
              rw [← hiR]
              exact hE i
          · have hiR := K3 (by omega)
            simp -implicitDefEqProofs [go_sem, Tryz.f103, t0, t1, t5, hg, hlt, hii, hi, hb, rdBk]
            rw [← hiR]
            exact hE i
        split at hp
        · rename_i hf
          cases hp
          subst hf
          simp -implicitDefEqProofs [go_sem, Tryz.f103]
          refine run_inv _ _ _ _ _ (fun (i : Nat) t h1 => i ≤ l.length ∧ get t 0 = .p b 0 ∧ get t 1 = .f (.func 108) [] ∧ get t 5 = .i .i64 i ∧ i + cntL digitB (l.drop i) = R ∧ h1 = h) (fun i => l.length - i) _ (x := 0) ⟨by simp, by simp -implicitDefEqProofs [go_sem], by simp -implicitDefEqProofs [go_sem], by simp -implicitDefEqProofs [go_sem], by simpa using hR, rfl⟩ ?_
          rintro i t h1 ⟨hi, t0, t1, t5, hd, rfl⟩ ih
          obtain ⟨K1, K2, K3⟩ := key2 i hd hi
          have hi6 : i < 1152921504606846976 := by omega
          have hii : (i : Int) ≤ l.length := by omega
          by_cases hlt : i < l.length
          · obtain ⟨z, hz⟩ : ∃ z, l[i] = z := ⟨_, rfl⟩
            cases c1 : digitB z with
            | true =>
              simp -implicitDefEqProofs [go_sem, Tryz.f103, t0, t1, t5, hg, hlt, hz, pSchemedC, pLabelledC, pDigitC, pPathedC, c1]
              refine ih (i + 1) _ _ (by omega) ⟨hlt, ?_, ?_, ?_, K1 hlt (by rw [hz]; exact c1), rfl⟩
              all_goals simp -implicitDefEqProofs [go_sem, t0, t1, t5, i64_n hi6]
            | false =>
              have hiR := K2 hlt (by rw [hz]; exact c1)
              simp -implicitDefEqProofs [go_sem, Tryz.f103, t0, t1, t5, hg, hlt, hz, pSchemedC, pLabelledC, pDigitC, pPathedC, c1, hii, hi, hb, rdBk]
              rw [← hiR]
              exact hE i
          · have hiR := K3 (by omega)
            simp -implicitDefEqProofs [go_sem, Tryz.f103, t0, t1, t5, hg, hlt, hii, hi, hb, rdBk]
            rw [← hiR]
            exact hE i
        split at hp
        · rename_i hf
          cases hp
          subst hf
          simp -implicitDefEqProofs [go_sem, Tryz.f103]
          refine run_inv _ _ _ _ _ (fun (i : Nat) t h1 => i ≤ l.length ∧ get t 0 = .p b 0 ∧ get t 1 = .f (.func 109) [] ∧ get t 5 = .i .i64 i ∧ i + cntL pathC (l.drop i) = R ∧ h1 = h) (fun i => l.length - i) _ (x := 0) ⟨by simp, by simp -implicitDefEqProofs [go_sem], by simp -implicitDefEqProofs [go_sem], by simp -implicitDefEqProofs [go_sem], by simpa using hR, rfl⟩ ?_
          rintro i t h1 ⟨hi, t0, t1, t5, hd, rfl⟩ ih
          obtain ⟨K1, K2, K3⟩ := key2 i hd hi
          have hi6 : i < 1152921504606846976 := by omega
          have hii : (i : Int) ≤ l.length := by omega
          by_cases hlt : i < l.length
          · obtain ⟨z, hz⟩ : ∃ z, l[i] = z := ⟨_, rfl⟩
            cases c1 : pathC z with
            | true =>
              simp -implicitDefEqProofs [go_sem, Tryz.f103, t0, t1, t5, hg, hlt, hz, pSchemedC, pLabelledC, pDigitC, pPathedC, c1]
              refine ih (i + 1) _ _ (by omega) ⟨hlt, ?_, ?_, ?_, K1 hlt (by rw [hz]; exact c1), rfl⟩
              all_goals simp -implicitDefEqProofs [go_sem, t0, t1, t5, i64_n hi6]
            | false =>
              have hiR := K2 hlt (by rw [hz]; exact c1)
              simp -implicitDefEqProofs [go_sem, Tryz.f103, t0, t1, t5, hg, hlt, hz, pSchemedC, pLabelledC, pDigitC, pPathedC, c1, hii, hi, hb, rdBk]
              rw [← hiR]
              exact hE i
          · have hiR := K3 (by omega)
            simp -implicitDefEqProofs [go_sem, Tryz.f103, t0, t1, t5, hg, hlt, hii, hi, hb, rdBk]
            rw [← hiR]
            exact hE i
        cases hp
      · cases hc
    · cases hc
  · cases hc
def dropP (l m : List Int) : List Int := if headB l m = true then l.drop m.length else l
def pPassC : Ct := fun args h => match args with
  | [.p b 0, .s m] => match hget h b with
    | ⟨2, true, [.s l, .i .i64 k, .s a, .s c, .s d, .s e]⟩ => if b < h.length then some (.b (headB l m), h.set b (rdBk (dropP l m) ⟨k, a, c, d, e⟩)) else none
    | _ => none
  | _ => none
theorem pPass_ok : CtOk Tryz.prog G0 106 pPassC := by
  refine ct_run (n := 2) fol (sound_cons pCutPre_ok sound_nil) (by kernel_rfl) Tryz.func106 rfl fun args h v h' hc r xs H hr hx => ?_
  unfold pPassC at hc; split at hc <;> (try split at hc) <;> (try split at hc) <;> cases hc
  rename_i b m _ l k a c d e hg hb
  refine ⟨rfl, ?_⟩
  have hE : ∀ r n, ∃ σ, Trim h (V.b r) (h.set b (rdBk n ⟨k, a, c, d, e⟩)) (V.b r) (h.set b (rdBk n ⟨k, a, c, d, e⟩)) σ := fun r n => Trim.own (by simp [renV, bndV]) rfl (Ext.refl _)
  unfold rdBk at hE
  cases h1 : headB l m with
  | true =>
    simp -implicitDefEqProofs [go_sem, Tryz.f106, hg, hb, pCutPreC, cutP, h1, dropP, rdBk]
    exact hE _ _
  | false =>
    simp -implicitDefEqProofs [go_sem, Tryz.f106, hg, hb, pCutPreC, cutP, h1, dropP, rdBk]
    exact hE _ _
end GoD

/-! What the program's reader reads: schemes, ports, paths. -/
namespace GoD
open Go Go.Proofs
set_option linter.unusedVariables false
set_option linter.unusedSimpArgs false
set_option maxHeartbeats 2000000
set_option maxRecDepth 100000
def schR (m l : List Int) : Option (List Int × List Int) := if cntL schB l = 0 ∨ letterB (l.headD 0) = false then none else if headB (l.drop (cntL schB l)) m = true then some (lowerL (l.take (cntL schB l)), (l.drop (cntL schB l)).drop m.length) else none
def schBk (m l : List Int) (e : Expr5) : Blk := match schR m l with
  | none => rdBk l e
  | some (s, r) => rdBk r { e with sch := s }
def pSchRC : Ct := fun args h => match args with
  | [.p b 0, .s m] => match hget h b with
    | ⟨2, true, [.s l, .i .i64 k, .s a, .s c, .s d, .s e]⟩ => if b < h.length ∧ l.length ≤ 1048576 then some (.tup [], h.set b (schBk m l ⟨k, a, c, d, e⟩)) else none
    | _ => none
  | _ => none
theorem schBk_flat (m l : List Int) (e : Expr5) : (schBk m l e).cells.all GoD.flat = true := by
  unfold schBk
  split <;> rfl
theorem pSchR_ok : CtOk Tryz.prog G0 72 pSchRC := by
  refine ct_run (n := 2) fol (sound_cons pRow_ok (sound_cons pPass_ok (sound_cons pLetter_ok (sound_cons pLower_ok sound_nil)))) (by kernel_rfl) Tryz.func72 rfl fun args h v h' hc r xs H hr hx => ?_
  unfold pSchRC at hc; split at hc <;> (try split at hc) <;> (try split at hc) <;> cases hc
  rename_i b m _ l k a c d e hg hb
  obtain ⟨hb, hl⟩ := hb
  refine ⟨rfl, ?_⟩
  obtain ⟨B, hB⟩ : ∃ B, schBk m l ⟨k, a, c, d, e⟩ = B := ⟨_, rfl⟩
  have hfl := schBk_flat m l ⟨k, a, c, d, e⟩
  rw [hB] at hfl ⊢
  have fin : ∃ σ, Trim h (V.tup []) (h.set b B) (V.tup []) (h.set b B) σ := Trim.own (by simp [renV, bndV, renL, bndL]) hfl (Ext.refl _)
  unfold schBk schR at hB
  obtain ⟨n, hn⟩ : ∃ n, cntL schB l = n := ⟨_, rfl⟩
  have hnl : n ≤ l.length := by rw [← hn]; exact cntL_le _ _
  rw [hn] at hB
  obtain ⟨w, hw⟩ : ∃ w, l.drop n = w := ⟨_, rfl⟩
  obtain ⟨u, hu⟩ : ∃ u, l.take n = u := ⟨_, rfl⟩
  have hul : u.length ≤ 1048576 := by rw [← hu]; simp; omega
  have hun : u.length = n := by rw [← hu]; simp; omega
  rw [hw, hu] at hB
  by_cases c1 : n = 0
  · rw [if_pos (.inl c1)] at hB
    subst hB
    have hu0 : u = [] := List.length_eq_zero_iff.1 (by omega)
    have hu1 : u.isEmpty = true := by rw [hu0]; rfl
    simp -implicitDefEqProofs [go_sem, Tryz.f72, hg, hb, hl, pRowC, predOf, hn, hw, hu, rdBk, eq_true hu0, hu1, hget_set, List.set_set]
    exact fin
  · have hu0 : ¬ u = [] := fun e => by rw [e] at hun; simp at hun; omega
    have hu1 : u.isEmpty = false := by cases u with | nil => exact absurd rfl hu0 | cons _ _ => rfl
    have hu2 : 0 < u.length := by omega
    have hu3 : (0 : Int) < u.length := by omega
    have hhd : u[0] = l.headD 0 := by
      have : l ≠ [] := fun e => by rw [e] at hnl; simp at hnl; omega
      cases l with
      | nil => exact absurd rfl this
      | cons x q => simp [← hu]
    cases c2 : letterB (l.headD 0) with
    | false =>
      rw [if_pos (.inr c2)] at hB
      subst hB
      rw [← hhd] at c2
      simp -implicitDefEqProofs [go_sem, Tryz.f72, hg, hb, hl, pRowC, predOf, hn, hw, hu, rdBk, hu0, hu1, hu2, hu3, hget_set, List.set_set, pLetterC, c2]
      exact fin
    | true =>
      rw [if_neg (by simp only [not_or, c2]; exact ⟨c1, by simp⟩)] at hB
      rw [← hhd] at c2
      cases c3 : headB w m with
      | false =>
        rw [c3, if_neg (by simp)] at hB
        subst hB
        simp -implicitDefEqProofs [go_sem, Tryz.f72, hg, hb, hl, pRowC, pPassC, predOf, hn, hw, hu, rdBk, hu0, hu1, hu2, hu3, hget_set, List.set_set, pLetterC, c2, c3, dropP]
        exact fin
      | true =>
        rw [c3, if_pos rfl] at hB
        subst hB
        simp -implicitDefEqProofs [go_sem, Tryz.f72, hg, hb, hl, pRowC, pPassC, pLowerC, predOf, hn, hw, hu, hul, rdBk, hu0, hu1, hu2, hu3, hget_set, List.set_set, pLetterC, c2, c3, dropP]
        exact fin
def portR (l po : List Int) : Bool × List Int × List Int := if headB l [58] = true then (if headB (l.drop 1) [42] = true then (true, [42], (l.drop 1).drop 1) else (decide (cntL digitB (l.drop 1) ≠ 0) && decide (cntL digitB (l.drop 1) ≤ 5), (l.drop 1).take (cntL digitB (l.drop 1)), (l.drop 1).drop (cntL digitB (l.drop 1)))) else (true, po, l)
def pPortRC : Ct := fun args h => match args with
  | [.p b 0] => match hget h b with
    | ⟨2, true, [.s l, .i .i64 k, .s a, .s c, .s d, .s e]⟩ => if b < h.length ∧ l.length ≤ 1048576 then some (.b (portR l d).1, h.set b (rdBk (portR l d).2.2 ⟨k, a, c, (portR l d).2.1, e⟩)) else none
    | _ => none
  | _ => none
theorem pPortR_ok : CtOk Tryz.prog G0 74 pPortRC := by
  refine ct_run (n := 1) fol (sound_cons pRow_ok (sound_cons pPass_ok sound_nil)) (by kernel_rfl) Tryz.func74 rfl fun args h v h' hc r xs H hr hx => ?_
  unfold pPortRC at hc; split at hc <;> (try split at hc) <;> (try split at hc) <;> cases hc
  rename_i b _ l k a c d e hg hb
  obtain ⟨hb, hl⟩ := hb
  refine ⟨rfl, ?_⟩
  obtain ⟨W, hW⟩ : ∃ W, portR l d = W := ⟨_, rfl⟩
  rw [hW]
  have fin : ∃ σ, Trim h (V.b W.1) (h.set b (rdBk W.2.2 ⟨k, a, c, W.2.1, e⟩)) (V.b W.1) (h.set b (rdBk W.2.2 ⟨k, a, c, W.2.1, e⟩)) σ := Trim.own (by simp [renV, bndV, renL, bndL]) rfl (Ext.refl _)
  unfold rdBk at fin
  unfold portR at hW
  cases c1 : headB l [58] with
  | false =>
    rw [c1, if_neg (by simp)] at hW
    subst hW
    simp -implicitDefEqProofs [go_sem, Tryz.f74, hg, hb, hl, pPassC, dropP, c1, rdBk]
    exact fin
  | true =>
    rw [c1, if_pos rfl] at hW
    obtain ⟨w, hw⟩ : ∃ w, l.tail = w := ⟨_, rfl⟩
    have hwl : w.length ≤ 1048576 := by rw [← hw]; simp; omega
    rw [List.drop_one, hw] at hW
    cases c2 : headB w [42] with
    | true =>
      rw [c2, if_pos rfl] at hW
      subst hW
      simp -implicitDefEqProofs [go_sem, Tryz.f74, hg, hb, hl, pPassC, dropP, c1, hw, c2, rdBk, hget_set, List.set_set]
      simpa using fin
    | false =>
      rw [c2, if_neg (by simp)] at hW
      obtain ⟨n, hn⟩ : ∃ n, cntL digitB w = n := ⟨_, rfl⟩
      have hnl : n ≤ w.length := by rw [← hn]; exact cntL_le _ _
      rw [hn] at hW
      obtain ⟨u, hu⟩ : ∃ u, w.take n = u := ⟨_, rfl⟩
      have hun : u.length = n := by rw [← hu]; simp; omega
      rw [hu] at hW
      by_cases c3 : n = 0
      · have hu0 : u = [] := List.length_eq_zero_iff.1 (by omega)
        have hu1 : u.isEmpty = true := by rw [hu0]; rfl
        rw [decide_eq_false (by omega), Bool.false_and] at hW
        subst hW
        simp -implicitDefEqProofs [go_sem, Tryz.f74, hg, hb, hl, pPassC, pRowC, predOf, dropP, c1, hw, c2, hwl, hn, hu, eq_true hu0, hu1, rdBk, hget_set, List.set_set]
        exact fin
      · have hu0 : ¬ u = [] := fun e => by rw [e] at hun; simp at hun; omega
        have hu1 : u.isEmpty = false := by cases u with | nil => exact absurd rfl hu0 | cons _ _ => rfl
        rw [decide_eq_true c3, Bool.true_and] at hW
        by_cases c4 : n ≤ 5
        · have c4' : u.length ≤ 5 := by omega
          have c4'' : (u.length : Int) ≤ 5 := by omega
          rw [decide_eq_true c4] at hW
          subst hW
          simp -implicitDefEqProofs [go_sem, Tryz.f74, hg, hb, hl, pPassC, pRowC, predOf, dropP, c1, hw, c2, hwl, hn, hu, hu0, hu1, c4', c4'', rdBk, hget_set, List.set_set]
          exact fin
        · have c4' : ¬ u.length ≤ 5 := by omega
          have c4'' : ¬ (u.length : Int) ≤ 5 := by omega
          rw [decide_eq_false c4] at hW
          subst hW
          simp -implicitDefEqProofs [go_sem, Tryz.f74, hg, hb, hl, pPassC, pRowC, predOf, dropP, c1, hw, c2, hwl, hn, hu, hu0, hu1, c4', c4'', rdBk, hget_set, List.set_set]
          exact fin
def pathR (l pa : List Int) : Bool × List Int × List Int := if headB l [47] = true then (decide (l.drop (cntL pathC l) = []), l.take (cntL pathC l), l.drop (cntL pathC l)) else (decide (l = []), pa, l)
def pPathRC : Ct := fun args h => match args with
  | [.p b 0] => match hget h b with
    | ⟨2, true, [.s l, .i .i64 k, .s a, .s c, .s d, .s e]⟩ => if b < h.length ∧ l.length ≤ 1048576 then some (.b (pathR l e).1, h.set b (rdBk (pathR l e).2.2 ⟨k, a, c, d, (pathR l e).2.1⟩)) else none
    | _ => none
  | _ => none
theorem pPathR_ok : CtOk Tryz.prog G0 75 pPathRC := by
  refine ct_run (n := 1) fol (sound_cons pRow_ok (sound_cons pHasPre_ok sound_nil)) (by kernel_rfl) Tryz.func75 rfl fun args h v h' hc r xs H hr hx => ?_
  unfold pPathRC at hc; split at hc <;> (try split at hc) <;> (try split at hc) <;> cases hc
  rename_i b _ l k a c d e hg hb
  obtain ⟨hb, hl⟩ := hb
  refine ⟨rfl, ?_⟩
  obtain ⟨W, hW⟩ : ∃ W, pathR l e = W := ⟨_, rfl⟩
  rw [hW]
  have fin : ∃ σ, Trim h (V.b W.1) (h.set b (rdBk W.2.2 ⟨k, a, c, d, W.2.1⟩)) (V.b W.1) (h.set b (rdBk W.2.2 ⟨k, a, c, d, W.2.1⟩)) σ := Trim.own (by simp [renV, bndV, renL, bndL]) rfl (Ext.refl _)
  unfold pathR at hW
  have emp : ∀ x : List Int, decide (x = []) = x.isEmpty := fun x => by cases x <;> rfl
  cases c1 : headB l [47] with
  | false =>
    rw [c1, if_neg (by simp), emp] at hW
    subst hW
    have hs : h.set b (rdBk l ⟨k, a, c, d, e⟩) = h := set_same hb hg
    rw [hs] at fin ⊢
    simp -implicitDefEqProofs [go_sem, Tryz.f75, hg, hb, hl, pHasPreC, c1]
    exact fin
  | true =>
    rw [c1, if_pos rfl] at hW
    obtain ⟨n, hn⟩ : ∃ n, cntL pathC l = n := ⟨_, rfl⟩
    obtain ⟨u, hu⟩ : ∃ u, l.take n = u := ⟨_, rfl⟩
    obtain ⟨w, hw⟩ : ∃ w, l.drop n = w := ⟨_, rfl⟩
    rw [hn, hu, hw, emp] at hW
    subst hW
    unfold rdBk at fin
    simp -implicitDefEqProofs [go_sem, Tryz.f75, hg, hb, hl, pHasPreC, pRowC, predOf, c1, hn, hu, hw, rdBk, hget_set, List.set_set]
    exact fin
end GoD

/-! What the program's reader reads: hosts. -/
namespace GoD
open Go Go.Proofs
set_option linter.unusedVariables false
set_option linter.unusedSimpArgs false
set_option maxHeartbeats 2000000
set_option maxRecDepth 100000
def labsR : Nat → List Int → List Int → Bool × List Int × List Int
  | 0, acc, l => (false, acc, l)
  | f + 1, acc, l => if cntL labB l = 0 then (false, acc, l) else if headB (l.drop (cntL labB l)) [46] = true then labsR f (acc ++ lowerL (l.take (cntL labB l)) ++ [46]) ((l.drop (cntL labB l)).drop 1) else (true, acc ++ lowerL (l.take (cntL labB l)), l.drop (cntL labB l))
noncomputable def hostLoop : Code := loop1 Tryz.f73
theorem host_loop {P : Ex → Tm → Heap → Prop} {tk : List Todo} {l ho sch po pa : List Int} {kd : Int} {b : Nat} {h : Heap} {W : Bool × List Int × List Int} (hb : b < h.length) (hl : l.length ≤ 1048576) (hho : ho.length ≤ 1048576) (hW : labsR (l.length + 1) ho l = W)
    (hr : ∀ t, get t 2 = .b W.1 → RunX (ctx Tryz.prog G0 [(103, pRowC), (106, pPassC), (49, pLowerC)]) P tk .r t (h.set b (rdBk W.2.2 ⟨kd, sch, W.2.1, po, pa⟩)))
    {t : Tm} {h0 : Heap} (t0 : get t 0 = .p b 0) (hh : h0 = h.set b (rdBk l ⟨kd, sch, ho, po, pa⟩)) : Run (ctx Tryz.prog G0 [(103, pRowC), (106, pPassC), (49, pLowerC)]) P (.again hostLoop :: tk) t h0 := by
  refine run_inv _ _ _ _ _ (fun (x : Nat × List Int × List Int) t h1 => x.2.2.length < x.1 ∧ x.2.2.length ≤ l.length ∧ x.2.1.length + x.2.2.length ≤ 2097152 ∧ get t 0 = .p b 0 ∧ labsR x.1 x.2.1 x.2.2 = W ∧ h1 = h.set b (rdBk x.2.2 ⟨kd, sch, x.2.1, po, pa⟩)) (fun x => x.1) _ (x := (l.length + 1, ho, l)) ⟨by simp, by simp, by simp; omega, t0, hW, hh⟩ ?_
  clear t0 hh hW
  rintro ⟨f, acc, s⟩ t h1 ⟨hf, hsl, hal, t0, hW, hh⟩ ih
  simp only at hf hsl hal t0 hW hh
  have hg : hget h1 b = rdBk s ⟨kd, sch, acc, po, pa⟩ := by rw [hh, hget_set, if_pos ⟨rfl, hb⟩]
  have hb1 : b < h1.length := by rw [hh, List.length_set]; exact hb
  have hset : ∀ B, h1.set b B = h.set b B := by intro B; rw [hh, List.set_set]
  have hs7 : s.length ≤ 1048576 := by omega
  obtain ⟨g, rfl⟩ : ∃ g, f = g + 1 := ⟨f - 1, by omega⟩
  rw [labsR] at hW
  obtain ⟨n, hn⟩ : ∃ n, cntL labB s = n := ⟨_, rfl⟩
  have hnl : n ≤ s.length := by rw [← hn]; exact cntL_le _ _
  rw [hn] at hW
  obtain ⟨u, hu⟩ : ∃ u, s.take n = u := ⟨_, rfl⟩
  have hun : u.length = n := by rw [← hu]; simp; omega
  have hul : u.length ≤ 1048576 := by omega
  obtain ⟨w, hw⟩ : ∃ w, s.drop n = w := ⟨_, rfl⟩
  have hwl : w.length = s.length - n := by rw [← hw]; simp
  rw [hu, hw] at hW
  unfold rdBk at hg hr
  by_cases c1 : n = 0
  · rw [if_pos c1] at hW
    subst hW
    have hu0 : u = [] := List.length_eq_zero_iff.1 (by omega)
    have hu1 : u.isEmpty = true := by rw [hu0]; rfl
    have hws : w = s := by rw [← hw, c1]; rfl
    simp -implicitDefEqProofs [go_sem, hostLoop, loop1, loopC, Tryz.f73, t0, hg, hb1, hs7, pRowC, predOf, hn, hu, hw, eq_true hu0, hu1, rdBk]
    rw [hset, hws]
    exact hr _ (by simp -implicitDefEqProofs [go_sem])
  · rw [if_neg c1] at hW
    have hu0 : ¬ u = [] := fun e => by rw [e] at hun; simp at hun; omega
    have hu1 : u.isEmpty = false := by cases u with | nil => exact absurd rfl hu0 | cons _ _ => rfl
    obtain ⟨v, hv⟩ : ∃ v, lowerL u = v := ⟨_, rfl⟩
    have hvl : v.length = n := by rw [← hv]; simpa [lowerL] using hun
    rw [hv] at hW
    have a1 : acc.length + v.length ≤ 281474976710656 := by omega
    have a2 : acc.length + v.length + 1 ≤ 281474976710656 := by omega
    have a3 : acc.length + (v.length + 1) ≤ 281474976710656 := by omega
    cases c2 : headB w [46] with
    | false =>
      rw [c2, if_neg (by simp)] at hW
      subst hW
      simp -implicitDefEqProofs [go_sem, hostLoop, loop1, loopC, Tryz.f73, t0, hg, hb1, hs7, pRowC, pPassC, pLowerC, predOf, hn, hu, hw, hul, hv, hu0, hu1, rdBk, hget_set, List.set_set, a1, a2, a3, c2, dropP]
      rw [hset]
      exact hr _ (by simp -implicitDefEqProofs [go_sem])
    | true =>
      rw [c2, if_pos rfl] at hW
      have hw1 : 1 ≤ w.length := headB_le c2
      simp -implicitDefEqProofs [go_sem, hostLoop, loop1, loopC, Tryz.f73, t0, hg, hb1, hs7, pRowC, pPassC, pLowerC, predOf, hn, hu, hw, hul, hv, hu0, hu1, rdBk, hget_set, List.set_set, a1, a2, a3, c2, dropP]
      refine ih (g, acc ++ v ++ [46], w.drop 1) _ _ (by simp) ⟨by simp; omega, by simp; omega, by simp; omega, ?_, hW, ?_⟩
      · simp -implicitDefEqProofs [go_sem, t0]
      · rw [hset]; simp [rdBk]
def hostR (l c : List Int) : Bool × List Int × List Int := if headB l [42] = true then (if headB (l.drop 1) [46] = true then labsR (((l.drop 1).drop 1).length + 1) [42, 46] ((l.drop 1).drop 1) else (true, [42], l.drop 1)) else labsR (l.length + 1) c l
def pHostRC : Ct := fun args h => match args with
  | [.p b 0] => match hget h b with
    | ⟨2, true, [.s l, .i .i64 k, .s a, .s c, .s d, .s e]⟩ => if b < h.length ∧ l.length ≤ 1048576 ∧ c.length ≤ 1048576 then some (.b (hostR l c).1, h.set b (rdBk (hostR l c).2.2 ⟨k, a, (hostR l c).2.1, d, e⟩)) else none
    | _ => none
  | _ => none
theorem pHostR_ok : CtOk Tryz.prog G0 73 pHostRC := by
  refine ct_run (n := 1) fol (sound_cons pRow_ok (sound_cons pPass_ok (sound_cons pLower_ok sound_nil))) (by kernel_rfl) Tryz.func73 rfl fun args h v h' hc r xs H hr hx => ?_
  unfold pHostRC at hc; split at hc <;> (try split at hc) <;> (try split at hc) <;> cases hc
  rename_i b _ l k a c d e hg hb
  obtain ⟨hb, hl, hcl⟩ := hb
  refine ⟨rfl, ?_⟩
  obtain ⟨W, hW⟩ : ∃ W, hostR l c = W := ⟨_, rfl⟩
  rw [hW]
  have fin : ∃ σ, Trim h (V.b W.1) (h.set b (rdBk W.2.2 ⟨k, a, W.2.1, d, e⟩)) (V.b W.1) (h.set b (rdBk W.2.2 ⟨k, a, W.2.1, d, e⟩)) σ := Trim.own (by simp [renV, bndV, renL, bndL]) rfl (Ext.refl _)
  unfold hostR at hW
  cases c1 : headB l [42] with
  | false =>
    rw [c1, if_neg (by simp)] at hW
    simp -implicitDefEqProofs [go_sem, Tryz.f73, hg, hb, hl, pPassC, dropP, c1]
    refine host_loop (h := h) (kd := k) (sch := a) (po := d) (pa := e) hb hl hcl hW (fun t t2 => ?_) (by simp -implicitDefEqProofs [go_sem]) rfl
    simp -implicitDefEqProofs [go_sem, t2]
    exact fin
  | true =>
    rw [c1, if_pos rfl] at hW
    obtain ⟨w, hw⟩ : ∃ w, l.tail = w := ⟨_, rfl⟩
    have hwl : w.length ≤ 1048576 := by rw [← hw]; simp; omega
    rw [List.drop_one, hw] at hW
    cases c2 : headB w [46] with
    | false =>
      rw [c2, if_neg (by simp)] at hW
      subst hW
      unfold rdBk at fin
      simp -implicitDefEqProofs [go_sem, Tryz.f73, hg, hb, hl, pPassC, dropP, c1, hw, c2, rdBk, hget_set, List.set_set]
      exact fin
    | true =>
      rw [c2, if_pos rfl] at hW
      simp -implicitDefEqProofs [go_sem, Tryz.f73, hg, hb, hl, pPassC, dropP, c1, hw, c2, rdBk, hget_set, List.set_set]
      refine host_loop (h := h) (kd := k) (sch := a) (po := d) (pa := e) hb (l := w.drop 1) (by simp; omega) (ho := [42, 46]) (by simp) hW (fun t t2 => ?_) (by simp -implicitDefEqProofs [go_sem]) (by simp [rdBk])
      simp -implicitDefEqProofs [go_sem, t2]
      exact fin
theorem labN_eq : ∀ l, cntL labB l = labelN l
  | [] => rfl
  | c :: t => by rw [cntL, labelN, labN_eq t]
theorem headB_cons (c d : Int) (r : List Int) : headB (c :: r) [d] = decide (c = d) := by simp [headB]
theorem headB_nil (d : Int) : headB [] [d] = false := by simp [headB]
theorem cut_mid {l p r : List Int} {c : Int} {n : Nat} (e : l = p ++ c :: r) (hn : p.length = n) (m : Nat) : l.take (n + 1 + m) = p ++ c :: r.take m ∧ l.drop (n + 1 + m) = r.drop m := by
  subst e hn
  constructor
  · rw [List.take_append, List.take_of_length_le (by omega), show p.length + 1 + m - p.length = m + 1 by omega]; rfl
  · rw [List.drop_append, List.drop_of_length_le (by omega), show p.length + 1 + m - p.length = m + 1 by omega]; rfl
theorem labsR_spec : ∀ (f : Nat) (acc l : List Int), l.length < f → (labelsN l = 0 → (labsR f acc l).1 = false) ∧ (labelsN l ≠ 0 → labsR f acc l = (true, acc ++ lowerL (l.take (labelsN l)), l.drop (labelsN l)))
  | 0, _, l, h => by omega
  | f + 1, acc, l, h => by
    rw [labsR, labN_eq, labelsN_tail]
    by_cases h0 : labelN l = 0
    · simp [h0]
    · rw [if_neg h0, if_neg h0]
      have hle := labelN_le l
      match hd : l.drop (labelN l) with
      | [] =>
        rw [headB_nil, if_neg (by simp), tailN]
        exact ⟨fun e => absurd e h0, fun _ => by rw [hd]⟩
      | c :: r =>
        have hlen : r.length + 1 = l.length - labelN l := by have := congrArg List.length hd; simpa using this.symm
        rw [headB_cons, tailN]
        by_cases h1 : c = 46
        · rw [decide_eq_true h1, if_pos rfl, if_pos h1, List.drop_one, List.tail_cons]
          obtain ⟨i1, i2⟩ := labsR_spec f (acc ++ lowerL (l.take (labelN l)) ++ [46]) r (by omega)
          by_cases h2 : labelsN r = 0
          · rw [if_pos h2]
            exact ⟨fun _ => i1 h2, fun e => absurd rfl e⟩
          · rw [if_neg h2]
            refine ⟨fun e => by omega, fun _ => ?_⟩
            rw [i2 h2]
            have e1 : l = l.take (labelN l) ++ 46 :: r := by rw [← h1, ← hd, List.take_append_drop]
            have e2 : (l.take (labelN l)).length = labelN l := by simp; omega
            obtain ⟨e3, e4⟩ := cut_mid e1 e2 (labelsN r)
            rw [e3, e4]
            simp [lowerL, lowB]
        · rw [decide_eq_false h1, if_neg h1, if_neg (fun e => by cases e)]
          exact ⟨fun e => absurd e h0, fun _ => by rw [hd]⟩
end GoD
