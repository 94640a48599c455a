import Derived.Test.YtffoolaocbgknaaGreatDoorPG
/-! Own origins and matches as the program answers them. -/
namespace GoD
open Go Go.Proofs
set_option linter.unusedVariables false
set_option linter.unusedSimpArgs false
set_option maxHeartbeats 1000000
set_option maxRecDepth 100000
theorem normalB_of {a : List Int} {p : Int} (h1 : (defaultL a).2 = true) (h2 : p = (defaultL a).1) : normalB a p = true := by unfold normalB; rw [h1, h2]; simp
def pOwnC : Ct := fun args h => match args with
  | [.agg [.s a, .s b, .s c, .s d, .i .i64 p, .s e, .b q, .s f, .b g, .s x], .agg [.s os, .s oh, .i .i64 op]] => some (.b (ownB a d p os oh op), h)
  | _ => none
theorem pOwn_ok : CtOk Tryz.prog G0 55 pOwnC := by
  refine ct_plain (n := 2) fol (sound_cons pOf_ok (sound_cons pOSame_ok (sound_cons pDefault_ok (sound_cons pPort_ok (sound_cons pAny_ok sound_nil))))) (by kernel_rfl) Tryz.func55 rfl fun args h v h' hc r xs H hr hx => ?_
  unfold pOwnC at hc; split at hc <;> (try split at hc) <;> cases hc
  rename_i a b c d p e q f g x os oh op
  refine ⟨rfl, rfl, by simp [renV, bndV, renL, bndL], ?_⟩
  have zz := oNull_eq os oh op
  cases s1 : (decide (os = a) && decide (oh = d) && decide (op = portL a p) && !oNull os oh op) with
  | true =>
    simp -implicitDefEqProofs [go_sem, Tryz.f55, pOfC, pOSameC, pDefaultC, pPortC, pAnyC, strsAt, strsV, hget_new, ownB, normalB, httpT, httpsT, wsT, wssT, zz, s1]
  | false =>
    by_cases p1 : op = portL a p
    · cases z1 : oNull os oh op with
      | true =>
        simp -implicitDefEqProofs [go_sem, Tryz.f55, pOfC, pOSameC, pDefaultC, pPortC, pAnyC, strsAt, strsV, hget_new, ownB, normalB, httpT, httpsT, wsT, wssT, zz, s1, eq_true p1, z1]
      | false =>
        by_cases h1 : oh = d
        · by_cases a1 : a = [104, 116, 116, 112, 115]
          · simp -implicitDefEqProofs [go_sem, Tryz.f55, pOfC, pOSameC, pDefaultC, pPortC, pAnyC, strsAt, strsV, hget_new, ownB, normalB, httpT, httpsT, wsT, wssT, zz, s1, eq_true p1, z1, eq_true h1, eq_true a1]
          · by_cases a2 : a = [119, 115, 115]
            · simp -implicitDefEqProofs [go_sem, Tryz.f55, pOfC, pOSameC, pDefaultC, pPortC, pAnyC, strsAt, strsV, hget_new, ownB, normalB, httpT, httpsT, wsT, wssT, zz, s1, eq_true p1, z1, eq_true h1, a1, eq_true a2]
            · by_cases o1 : os = [104, 116, 116, 112]
              · by_cases a3 : a = [119, 115]
                · simp -implicitDefEqProofs [go_sem, Tryz.f55, pOfC, pOSameC, pDefaultC, pPortC, pAnyC, strsAt, strsV, hget_new, ownB, normalB, httpT, httpsT, wsT, wssT, zz, s1, eq_true p1, z1, eq_true h1, a1, a2, eq_true o1, eq_true a3]
                · simp -implicitDefEqProofs [go_sem, Tryz.f55, pOfC, pOSameC, pDefaultC, pPortC, pAnyC, strsAt, strsV, hget_new, ownB, normalB, httpT, httpsT, wsT, wssT, zz, s1, eq_true p1, z1, eq_true h1, a1, a2, eq_true o1, a3]
              · simp -implicitDefEqProofs [go_sem, Tryz.f55, pOfC, pOSameC, pDefaultC, pPortC, pAnyC, strsAt, strsV, hget_new, ownB, normalB, httpT, httpsT, wsT, wssT, zz, s1, eq_true p1, z1, eq_true h1, a1, a2, o1]
        · simp -implicitDefEqProofs [go_sem, Tryz.f55, pOfC, pOSameC, pDefaultC, pPortC, pAnyC, strsAt, strsV, hget_new, ownB, normalB, httpT, httpsT, wsT, wssT, zz, s1, eq_true p1, z1, h1]
    · cases d1 : (defaultL os).2 with
      | true =>
        cases d2 : (defaultL a).2 with
        | true =>
          by_cases q1 : op = (defaultL os).1
          · by_cases q2 : portL a p = (defaultL a).1
            · cases z1 : oNull os oh op with
              | true =>
                simp -implicitDefEqProofs [go_sem, Tryz.f55, pOfC, pOSameC, pDefaultC, pPortC, pAnyC, strsAt, strsV, hget_new, ownB, normalB, httpT, httpsT, wsT, wssT, zz, s1, p1, d1, d2, eq_true q1, eq_true q1.symm, eq_true q2, eq_true q2.symm, z1]
              | false =>
                by_cases h1 : oh = d
                · by_cases a1 : a = [104, 116, 116, 112, 115]
                  · simp -implicitDefEqProofs [go_sem, Tryz.f55, pOfC, pOSameC, pDefaultC, pPortC, pAnyC, strsAt, strsV, hget_new, ownB, normalB, httpT, httpsT, wsT, wssT, zz, s1, p1, d1, d2, eq_true q1, eq_true q1.symm, eq_true q2, eq_true q2.symm, z1, eq_true h1, eq_true a1]
                  · by_cases a2 : a = [119, 115, 115]
                    · simp -implicitDefEqProofs [go_sem, Tryz.f55, pOfC, pOSameC, pDefaultC, pPortC, pAnyC, strsAt, strsV, hget_new, ownB, normalB, httpT, httpsT, wsT, wssT, zz, s1, p1, d1, d2, eq_true q1, eq_true q1.symm, eq_true q2, eq_true q2.symm, z1, eq_true h1, a1, eq_true a2]
                    · by_cases o1 : os = [104, 116, 116, 112]
                      · by_cases a3 : a = [119, 115]
                        · simp -implicitDefEqProofs [go_sem, Tryz.f55, pOfC, pOSameC, pDefaultC, pPortC, pAnyC, strsAt, strsV, hget_new, ownB, normalB, httpT, httpsT, wsT, wssT, zz, s1, p1, d1, d2, eq_true q1, eq_true q1.symm, eq_true q2, eq_true q2.symm, z1, eq_true h1, a1, a2, eq_true o1, eq_true a3]
                        · simp -implicitDefEqProofs [go_sem, Tryz.f55, pOfC, pOSameC, pDefaultC, pPortC, pAnyC, strsAt, strsV, hget_new, ownB, normalB, httpT, httpsT, wsT, wssT, zz, s1, p1, d1, d2, eq_true q1, eq_true q1.symm, eq_true q2, eq_true q2.symm, z1, eq_true h1, a1, a2, eq_true o1, a3]
                      · simp -implicitDefEqProofs [go_sem, Tryz.f55, pOfC, pOSameC, pDefaultC, pPortC, pAnyC, strsAt, strsV, hget_new, ownB, normalB, httpT, httpsT, wsT, wssT, zz, s1, p1, d1, d2, eq_true q1, eq_true q1.symm, eq_true q2, eq_true q2.symm, z1, eq_true h1, a1, a2, o1]
                · simp -implicitDefEqProofs [go_sem, Tryz.f55, pOfC, pOSameC, pDefaultC, pPortC, pAnyC, strsAt, strsV, hget_new, ownB, normalB, httpT, httpsT, wsT, wssT, zz, s1, p1, d1, d2, eq_true q1, eq_true q1.symm, eq_true q2, eq_true q2.symm, z1, h1]
            · cases z1 : oNull os oh op with
              | true =>
                simp -implicitDefEqProofs [go_sem, Tryz.f55, pOfC, pOSameC, pDefaultC, pPortC, pAnyC, strsAt, strsV, hget_new, ownB, normalB, httpT, httpsT, wsT, wssT, zz, s1, p1, d1, d2, eq_true q1, eq_true q1.symm, q2, eq_false (Ne.symm q2), z1]
              | false =>
                by_cases h1 : oh = d
                · simp -implicitDefEqProofs [go_sem, Tryz.f55, pOfC, pOSameC, pDefaultC, pPortC, pAnyC, strsAt, strsV, hget_new, ownB, normalB, httpT, httpsT, wsT, wssT, zz, s1, p1, d1, d2, eq_true q1, eq_true q1.symm, q2, eq_false (Ne.symm q2), z1, eq_true h1]
                · simp -implicitDefEqProofs [go_sem, Tryz.f55, pOfC, pOSameC, pDefaultC, pPortC, pAnyC, strsAt, strsV, hget_new, ownB, normalB, httpT, httpsT, wsT, wssT, zz, s1, p1, d1, d2, eq_true q1, eq_true q1.symm, q2, eq_false (Ne.symm q2), z1, h1]
          · cases z1 : oNull os oh op with
            | true =>
              simp -implicitDefEqProofs [go_sem, Tryz.f55, pOfC, pOSameC, pDefaultC, pPortC, pAnyC, strsAt, strsV, hget_new, ownB, normalB, httpT, httpsT, wsT, wssT, zz, s1, p1, d1, d2, q1, eq_false (Ne.symm q1), z1]
            | false =>
              by_cases h1 : oh = d
              · simp -implicitDefEqProofs [go_sem, Tryz.f55, pOfC, pOSameC, pDefaultC, pPortC, pAnyC, strsAt, strsV, hget_new, ownB, normalB, httpT, httpsT, wsT, wssT, zz, s1, p1, d1, d2, q1, eq_false (Ne.symm q1), z1, eq_true h1]
              · simp -implicitDefEqProofs [go_sem, Tryz.f55, pOfC, pOSameC, pDefaultC, pPortC, pAnyC, strsAt, strsV, hget_new, ownB, normalB, httpT, httpsT, wsT, wssT, zz, s1, p1, d1, d2, q1, eq_false (Ne.symm q1), z1, h1]
        | false =>
          cases z1 : oNull os oh op with
          | true =>
            simp -implicitDefEqProofs [go_sem, Tryz.f55, pOfC, pOSameC, pDefaultC, pPortC, pAnyC, strsAt, strsV, hget_new, ownB, normalB, httpT, httpsT, wsT, wssT, zz, s1, p1, d1, d2, z1]
          | false =>
            by_cases h1 : oh = d
            · simp -implicitDefEqProofs [go_sem, Tryz.f55, pOfC, pOSameC, pDefaultC, pPortC, pAnyC, strsAt, strsV, hget_new, ownB, normalB, httpT, httpsT, wsT, wssT, zz, s1, p1, d1, d2, z1, eq_true h1]
            · simp -implicitDefEqProofs [go_sem, Tryz.f55, pOfC, pOSameC, pDefaultC, pPortC, pAnyC, strsAt, strsV, hget_new, ownB, normalB, httpT, httpsT, wsT, wssT, zz, s1, p1, d1, d2, z1, h1]
      | false =>
        cases z1 : oNull os oh op with
        | true =>
          simp -implicitDefEqProofs [go_sem, Tryz.f55, pOfC, pOSameC, pDefaultC, pPortC, pAnyC, strsAt, strsV, hget_new, ownB, normalB, httpT, httpsT, wsT, wssT, zz, s1, p1, d1, z1]
        | false =>
          by_cases h1 : oh = d
          · simp -implicitDefEqProofs [go_sem, Tryz.f55, pOfC, pOSameC, pDefaultC, pPortC, pAnyC, strsAt, strsV, hget_new, ownB, normalB, httpT, httpsT, wsT, wssT, zz, s1, p1, d1, z1, eq_true h1]
          · simp -implicitDefEqProofs [go_sem, Tryz.f55, pOfC, pOSameC, pDefaultC, pPortC, pAnyC, strsAt, strsV, hget_new, ownB, normalB, httpT, httpsT, wsT, wssT, zz, s1, p1, d1, z1, h1]
def pMatchC : Ct := fun args h => match args with
  | [.agg [.i .i64 k, .s es, .s eh, .s ep, .s ea], .agg [.s a, .s b, .s c, .s d, .i .i64 p, .s e, .b q, .s f, .b g, .s x], .agg [.s os, .s oh, .i .i64 op], .i .i64 rd] =>
    if portQ ep ∧ d.length ≤ 1048576 ∧ e.length ≤ 1048576 ∧ ea.length ≤ 1048576 then some (.b (matchB ⟨k, es, eh, ep, ea⟩ a d p e os oh op rd), h) else none
  | _ => none
theorem pMatch_ok : CtOk Tryz.prog G0 23 pMatchC := by
  refine ct_plain (n := 4) fol (sound_cons pOwn_ok (sound_cons pScheme_ok (sound_cons pHost_ok (sound_cons pPortM_ok (sound_cons pPathM_ok (sound_cons pAny_ok sound_nil)))))) (by kernel_rfl) Tryz.func23 rfl fun args h v h' hc r xs H hr hx => ?_
  unfold pMatchC at hc; split at hc <;> (try split at hc) <;> cases hc
  rename_i k es eh ep ea a b c d p e q f g x os oh op rd hl
  obtain ⟨hep, hdl, hel, heal⟩ := hl
  refine ⟨rfl, rfl, by simp [renV, bndV, renL, bndL], ?_⟩
  have hep0 : (ep = [] ∨ ep = [42] ∨ portP ep = true) = True := eq_true hep
  have zz := oNull_eq os oh op
  by_cases k1 : k = 1
  · simp -implicitDefEqProofs [go_sem, Tryz.f23, Bool.or_assoc, pOwnC, pSchemeC, pHostC, pPortMC, pPathMC, pAnyC, strsAt, strsV, hget_new, matchB, namedB, httpT, httpsT, wsT, wssT, hdl, hel, heal, hep0, zz, eq_true k1]
  · by_cases k2 : k = 2
    · simp -implicitDefEqProofs [go_sem, Tryz.f23, Bool.or_assoc, pOwnC, pSchemeC, pHostC, pPortMC, pPathMC, pAnyC, strsAt, strsV, hget_new, matchB, namedB, httpT, httpsT, wsT, wssT, hdl, hel, heal, hep0, zz, k1, eq_true k2]
    · by_cases k3 : k = 3
      · simp -implicitDefEqProofs [go_sem, Tryz.f23, Bool.or_assoc, pOwnC, pSchemeC, pHostC, pPortMC, pPathMC, pAnyC, strsAt, strsV, hget_new, matchB, namedB, httpT, httpsT, wsT, wssT, hdl, hel, heal, hep0, zz, k1, k2, eq_true k3]
      · by_cases k4 : k = 4
        · by_cases e1 : es = []
          · have e2 : es.isEmpty = true := by rw [e1]; rfl
            cases s1 : schemeB os a with
            | true =>
              cases h1 : hostB eh d with
              | true =>
                cases p1 : portB ep a p with
                | true =>
                  by_cases r1 : rd = 0
                  · simp -implicitDefEqProofs [go_sem, Tryz.f23, Bool.or_assoc, pOwnC, pSchemeC, pHostC, pPortMC, pPathMC, pAnyC, strsAt, strsV, hget_new, matchB, namedB, httpT, httpsT, wsT, wssT, hdl, hel, heal, hep0, zz, k1, k2, k3, eq_true k4, eq_true e1, e2, s1, h1, p1, eq_true r1]
                  · simp -implicitDefEqProofs [go_sem, Tryz.f23, Bool.or_assoc, pOwnC, pSchemeC, pHostC, pPortMC, pPathMC, pAnyC, strsAt, strsV, hget_new, matchB, namedB, httpT, httpsT, wsT, wssT, hdl, hel, heal, hep0, zz, k1, k2, k3, eq_true k4, eq_true e1, e2, s1, h1, p1, r1]
                | false =>
                  simp -implicitDefEqProofs [go_sem, Tryz.f23, Bool.or_assoc, pOwnC, pSchemeC, pHostC, pPortMC, pPathMC, pAnyC, strsAt, strsV, hget_new, matchB, namedB, httpT, httpsT, wsT, wssT, hdl, hel, heal, hep0, zz, k1, k2, k3, eq_true k4, eq_true e1, e2, s1, h1, p1]
              | false =>
                simp -implicitDefEqProofs [go_sem, Tryz.f23, Bool.or_assoc, pOwnC, pSchemeC, pHostC, pPortMC, pPathMC, pAnyC, strsAt, strsV, hget_new, matchB, namedB, httpT, httpsT, wsT, wssT, hdl, hel, heal, hep0, zz, k1, k2, k3, eq_true k4, eq_true e1, e2, s1, h1]
            | false =>
              cases z1 : oNull os oh op with
              | true =>
                cases h1 : hostB eh d with
                | true =>
                  cases p1 : portB ep a p with
                  | true =>
                    by_cases r1 : rd = 0
                    · simp -implicitDefEqProofs [go_sem, Tryz.f23, Bool.or_assoc, pOwnC, pSchemeC, pHostC, pPortMC, pPathMC, pAnyC, strsAt, strsV, hget_new, matchB, namedB, httpT, httpsT, wsT, wssT, hdl, hel, heal, hep0, zz, k1, k2, k3, eq_true k4, eq_true e1, e2, s1, z1, h1, p1, eq_true r1]
                    · simp -implicitDefEqProofs [go_sem, Tryz.f23, Bool.or_assoc, pOwnC, pSchemeC, pHostC, pPortMC, pPathMC, pAnyC, strsAt, strsV, hget_new, matchB, namedB, httpT, httpsT, wsT, wssT, hdl, hel, heal, hep0, zz, k1, k2, k3, eq_true k4, eq_true e1, e2, s1, z1, h1, p1, r1]
                  | false =>
                    simp -implicitDefEqProofs [go_sem, Tryz.f23, Bool.or_assoc, pOwnC, pSchemeC, pHostC, pPortMC, pPathMC, pAnyC, strsAt, strsV, hget_new, matchB, namedB, httpT, httpsT, wsT, wssT, hdl, hel, heal, hep0, zz, k1, k2, k3, eq_true k4, eq_true e1, e2, s1, z1, h1, p1]
                | false =>
                  simp -implicitDefEqProofs [go_sem, Tryz.f23, Bool.or_assoc, pOwnC, pSchemeC, pHostC, pPortMC, pPathMC, pAnyC, strsAt, strsV, hget_new, matchB, namedB, httpT, httpsT, wsT, wssT, hdl, hel, heal, hep0, zz, k1, k2, k3, eq_true k4, eq_true e1, e2, s1, z1, h1]
              | false =>
                simp -implicitDefEqProofs [go_sem, Tryz.f23, Bool.or_assoc, pOwnC, pSchemeC, pHostC, pPortMC, pPathMC, pAnyC, strsAt, strsV, hget_new, matchB, namedB, httpT, httpsT, wsT, wssT, hdl, hel, heal, hep0, zz, k1, k2, k3, eq_true k4, eq_true e1, e2, s1, z1]
          · have e2 : es.isEmpty = false := by cases es with | nil => exact absurd rfl e1 | cons _ _ => rfl
            cases s1 : schemeB es a with
            | true =>
              cases h1 : hostB eh d with
              | true =>
                cases p1 : portB ep a p with
                | true =>
                  by_cases r1 : rd = 0
                  · simp -implicitDefEqProofs [go_sem, Tryz.f23, Bool.or_assoc, pOwnC, pSchemeC, pHostC, pPortMC, pPathMC, pAnyC, strsAt, strsV, hget_new, matchB, namedB, httpT, httpsT, wsT, wssT, hdl, hel, heal, hep0, zz, k1, k2, k3, eq_true k4, e1, e2, s1, h1, p1, eq_true r1]
                  · simp -implicitDefEqProofs [go_sem, Tryz.f23, Bool.or_assoc, pOwnC, pSchemeC, pHostC, pPortMC, pPathMC, pAnyC, strsAt, strsV, hget_new, matchB, namedB, httpT, httpsT, wsT, wssT, hdl, hel, heal, hep0, zz, k1, k2, k3, eq_true k4, e1, e2, s1, h1, p1, r1]
                | false =>
                  simp -implicitDefEqProofs [go_sem, Tryz.f23, Bool.or_assoc, pOwnC, pSchemeC, pHostC, pPortMC, pPathMC, pAnyC, strsAt, strsV, hget_new, matchB, namedB, httpT, httpsT, wsT, wssT, hdl, hel, heal, hep0, zz, k1, k2, k3, eq_true k4, e1, e2, s1, h1, p1]
              | false =>
                simp -implicitDefEqProofs [go_sem, Tryz.f23, Bool.or_assoc, pOwnC, pSchemeC, pHostC, pPortMC, pPathMC, pAnyC, strsAt, strsV, hget_new, matchB, namedB, httpT, httpsT, wsT, wssT, hdl, hel, heal, hep0, zz, k1, k2, k3, eq_true k4, e1, e2, s1, h1]
            | false =>
              simp -implicitDefEqProofs [go_sem, Tryz.f23, Bool.or_assoc, pOwnC, pSchemeC, pHostC, pPortMC, pPathMC, pAnyC, strsAt, strsV, hget_new, matchB, namedB, httpT, httpsT, wsT, wssT, hdl, hel, heal, hep0, zz, k1, k2, k3, eq_true k4, e1, e2, s1]
        · simp -implicitDefEqProofs [go_sem, Tryz.f23, Bool.or_assoc, pOwnC, pSchemeC, pHostC, pPortMC, pPathMC, pAnyC, strsAt, strsV, hget_new, matchB, namedB, httpT, httpsT, wsT, wssT, hdl, hel, heal, hep0, zz, k1, k2, k3, k4]
end GoD
