import Derived.Test.YtbiijfgimoelkaaGreatDoorVB
import Derived.Test.YtbiijfgimoelkaaGreatDoorOU
/-! OriginPlain, OriginTrusts: the laws' runs. -/
namespace GoD
open Go Go.Proofs
set_option linter.unusedVariables false
set_option linter.unusedSimpArgs false
set_option maxHeartbeats 8000000
set_option maxRecDepth 100000
theorem trust00 : trustB [] [] = false := by kernel_rfl
theorem trust_len {l : List Int} (h : l.length ≤ 1000) : l.length ≤ 1048576 := by omega
def pLawOpC : Ct := fun args h => match args with | [.agg [.s a, .s b, .i .i64 p], .i .i64 q, .i .i64 k] => some (.b true, h) | _ => none
theorem pLawOp_ok : CtOk Tryz.prog G0 5 pLawOpC := by
  refine ct_plain (n := 3) fol (sound_cons pAwakeO_ok (sound_cons pOrgOk_ok (sound_cons pRound_ok (sound_cons pOSame_ok (sound_cons pTrust_ok sound_nil))))) (by kernel_rfl) Tryz.func5 rfl fun args h v h' hc r xs H hr hx => ?_
  unfold pLawOpC at hc; split at hc <;> (try split at hc) <;> cases hc
  rename_i a b p q k
  obtain ⟨h1, h2, _⟩ := agg3 (x := .junk) hx
  refine ⟨rfl, rfl, by simp [renV, bndV], ?_⟩
  cases ho : orgOkB a b p with
  | false => simp -implicitDefEqProofs [go_sem, Tryz.f5, pAwakeOC, pOrgOkC, h1, h2, ho]
  | true =>
  have hs := orgOk_sum ho
  by_cases c1 : q < 0
  · simp -implicitDefEqProofs [go_sem, Tryz.f5, pAwakeOC, pOrgOkC, h1, h2, ho, c1]
  by_cases c2 : 65535 < q
  · simp -implicitDefEqProofs [go_sem, Tryz.f5, pAwakeOC, pOrgOkC, h1, h2, ho, c1, c2]
  by_cases c3 : a = []
  · subst c3
    simp -implicitDefEqProofs [go_sem, Tryz.f5, pAwakeOC, pOrgOkC, h2, ho, c1, c2]
  obtain ⟨k1, k2⟩ := roundI_le (k := k) (n := 4) (by omega)
  have k3 : a.length + 1 ≤ 281474976710656 := by omega
  have k4 : b.length + 1 ≤ 281474976710656 := by omega
  have z : oNull a b p = false := by unfold oNull; rw [decide_eq_false c3]; rfl
  have z0 : oNull [] [] 0 = true := rfl
  obtain ⟨R, hR⟩ : ∃ R, roundI k 4 = R := ⟨_, rfl⟩
  rw [hR] at k1 k2
  have hg0 : hget (h ++ [(⟨2, true, [.s a, .s b, .i .i64 p]⟩ : Blk)]) h.length = ⟨2, true, [.s a, .s b, .i .i64 p]⟩ := hget_at0 rfl
  simp only [Tryz.f5, run_seq]
  generalize hK11 : (Code.region 11 _ _).seq _ = K11
  have rest : ∀ (t : Tm) (c d : List Int) (r : Int), get t 3 = .p h.length 0 → get t 7 = .p (h.length + 1) 0 → Run (ctx Tryz.prog G0 [(11, pAwakeOC), (9, pOrgOkC), (16, pRoundC), (18, pOSameC), (17, pTrustC)]) (Fini (ctx Tryz.prog G0 [(11, pAwakeOC), (9, pOrgOkC), (16, pRoundC), (18, pOSameC), (17, pTrustC)]) Tryz.f5.results.toList fun v' h1 => v' = V.b true ∧ Ext h h1) [.c K11] t (h ++ [⟨2, true, [.s a, .s b, .i .i64 p]⟩, ⟨2, true, [.s c, .s d, .i .i64 r]⟩]) := by
    intro t c d r t3 t7
    subst hK11
    have he : Ext h (h ++ [(⟨2, true, [.s a, .s b, .i .i64 p]⟩ : Blk), ⟨2, true, [.s c, .s d, .i .i64 r]⟩]) := (Ext.refl h).app _
    by_cases e1 : a = c
    · subst e1
      by_cases e2 : b = d
      · subst e2
        by_cases e3 : p = r
        · subst e3
          simp -implicitDefEqProofs [go_sem, t3, t7, pAwakeOC, pOSameC, pTrustC, z, z0, trust00, he]
        · have e3' : ¬ r = p := fun e => e3 e.symm
          simp -implicitDefEqProofs [go_sem, t3, t7, pAwakeOC, pOSameC, pTrustC, z, z0, trust00, he, e3, e3']
      · have e2' : ¬ d = b := fun e => e2 e.symm
        simp -implicitDefEqProofs [go_sem, t3, t7, pAwakeOC, pOSameC, pTrustC, z, z0, trust00, he, e2, e2']
    · have e1' : ¬ c = a := fun e => e1 e.symm
      simp -implicitDefEqProofs [go_sem, t3, t7, pAwakeOC, pOSameC, pTrustC, z, z0, trust00, he, e1, e1']
  by_cases d1 : R = 1
  · simp -implicitDefEqProofs [go_sem, Tryz.f5, pOrgOkC, pRoundC, h1, h2, ho, c1, c2, c3, hR, d1, k3]
    refine rest _ _ _ _ ?_ ?_ <;> simp -implicitDefEqProofs [go_sem]
  by_cases d2 : R = 2
  · simp -implicitDefEqProofs [go_sem, Tryz.f5, pOrgOkC, pRoundC, h1, h2, ho, c1, c2, c3, hR, d1, d2, k4]
    refine rest _ _ _ _ ?_ ?_ <;> simp -implicitDefEqProofs [go_sem]
  by_cases d3 : R = 3
  · simp -implicitDefEqProofs [go_sem, Tryz.f5, pOrgOkC, pRoundC, h1, h2, ho, c1, c2, c3, hR, d1, d2, d3]
    refine rest _ _ _ _ ?_ ?_ <;> simp -implicitDefEqProofs [go_sem]
  · simp -implicitDefEqProofs [go_sem, Tryz.f5, pOrgOkC, pRoundC, h1, h2, ho, c1, c2, c3, hR, d1, d2, d3]
    refine rest _ _ _ _ ?_ ?_ <;> simp -implicitDefEqProofs [go_sem]
def pLawOuC : Ct := fun args h => match args with | [.agg [.s a, .s b, .i .i64 p], .agg [.s c, .s d, .i .i64 q], .s l] => some (.b true, h) | _ => none
theorem pLawOu_ok : CtOk Tryz.prog G0 6 pLawOuC := by
  refine ct_plain (n := 3) fol (sound_cons pAwakeO_ok (sound_cons pOrgOk_ok (sound_cons pUParse_ok (sound_cons rURL_ok (sound_cons pOSame_ok (sound_cons rOSame_ok (sound_cons pTrust_ok (sound_cons rTrust_ok (sound_cons pSecure_ok (sound_cons rSecure_ok sound_nil)))))))))) (by kernel_rfl) Tryz.func6 rfl fun args h v h' hc r xs H hr hx => ?_
  unfold pLawOuC at hc; split at hc <;> (try split at hc) <;> cases hc
  rename_i a b p c d q l
  obtain ⟨h1, h2, ys, hys⟩ := agg3 (x := .junk) hx
  obtain ⟨h3, h4, zs, hzs⟩ := agg3 (x := .junk) hys
  obtain ⟨⟨hs, hl⟩, _⟩ := str_of hzs
  refine ⟨rfl, rfl, by simp [renV, bndV], ?_⟩
  cases ho : orgOkB a b p with
  | false => simp -implicitDefEqProofs [go_sem, Tryz.f6, pAwakeOC, pOrgOkC, h1, h2, ho]
  | true =>
  cases ho2 : orgOkB c d q with
  | false => simp -implicitDefEqProofs [go_sem, Tryz.f6, pAwakeOC, pOrgOkC, h1, h2, h3, h4, ho, ho2]
  | true =>
  have hs1 := orgOk_sum ho
  by_cases c1 : (3000 : Int) < l.length
  · simp -implicitDefEqProofs [go_sem, Tryz.f6, pAwakeOC, pOrgOkC, h1, h2, h3, h4, ho, ho2, c1]
  have e1 : b.length ≤ 1048576 := by omega
  have hp := parse_eq hs
  cases hu : urlL l with
  | none =>
    rw [hu] at hp
    simp -implicitDefEqProofs [go_sem, Tryz.f6, pAwakeOC, pOrgOkC, pUParseC, rURLC, pOSameC, rOSameC, pTrustC, rTrustC, h1, h2, h3, h4, ho, ho2, c1, hu, hp, urlAns_none, e1]
  | some u =>
    rw [hu] at hp
    have hl := (urlL_len hu).1
    have e2 : u.ho.length ≤ 1048576 := by omega
    simp -implicitDefEqProofs [go_sem, Tryz.f6, pAwakeOC, pOrgOkC, pUParseC, rURLC, pOSameC, rOSameC, pTrustC, rTrustC, pSecureC, rSecureC, h1, h2, h3, h4, ho, ho2, c1, hu, hp, urlAns_some, e1, e2]
end GoD
