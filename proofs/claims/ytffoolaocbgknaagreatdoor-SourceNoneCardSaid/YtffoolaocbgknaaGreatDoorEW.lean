import Derived.Test.YtffoolaocbgknaaGreatDoorEV
/-! Whether an expression matches a URL, as the document says. -/
namespace GoD
open Go Go.Proofs
set_option linter.unusedVariables false
set_option linter.unusedSimpArgs false
set_option maxHeartbeats 4000000
set_option maxRecDepth 100000
def httpT : List Int := [104, 116, 116, 112]
def httpsT : List Int := [104, 116, 116, 112, 115]
def wsT : List Int := [119, 115]
def wssT : List Int := [119, 115, 115]
def ownB (us uh : List Int) (up : Int) (os oh : List Int) (op : Int) : Bool :=
  (decide (os = us) && decide (oh = uh) && decide (op = portL us up) && !oNull os oh op) ||
  (!oNull os oh op && decide (oh = uh) && (decide (op = portL us up) || (normalB os op && normalB us (portL us up))) && (decide (us = httpsT) || decide (us = wssT) || (decide (os = httpT) && decide (us = wsT))))
def namedB (e : Expr5) (us uh : List Int) (up : Int) (path os oh : List Int) (op rd : Int) : Bool :=
  (if e.sch = [] then oNull os oh op || schemeB os us else schemeB e.sch us) && hostB e.ho uh && portB e.po us up && (decide (rd ≠ 0) || pathB e.pa path)
def matchB (e : Expr5) (us uh : List Int) (up : Int) (path os oh : List Int) (op rd : Int) : Bool :=
  if e.kind = 1 then decide (us ∈ [httpT, httpsT, wsT, wssT]) || decide (us = os) else if e.kind = 2 then ownB us uh up os oh op
  else if e.kind = 3 then schemeB e.sch us else if e.kind = 4 then namedB e us uh up path os oh op rd else false
def portQ (l : List Int) : Prop := l = [] ∨ l = [42] ∨ portP l = true
instance (l : List Int) : Decidable (portQ l) := by unfold portQ; exact inferInstance
def rMatchC : Ct := fun args h => match args with
  | [.agg [.i .i64 k, .s es, .s eh, .s ep, .s ea], .agg [.s a, .s b, .s c, .s d, .i .i64 p, .s e, .b q, .s f, .b g, .s x], .agg [.s os, .s oh, .i .i64 op], .i .i64 rd] =>
    if portQ ep ∧ d.length ≤ 1048576 ∧ e.length ≤ 1048576 ∧ ea.length ≤ 1048576 then some (.b (matchB ⟨k, es, eh, ep, ea⟩ a d p e os oh op rd), h) else none
  | _ => none
theorem oNull_eq (a b : List Int) (p : Int) : (a.isEmpty && (b.isEmpty && decide (p = 0))) = oNull a b p := by cases a <;> cases b <;> simp [oNull]
theorem rMatch_ok : CtOk Tryz.prog G0 25 rMatchC := by
  refine ct_plain (n := 4) fol (sound_cons rOf_ok (sound_cons rIn_ok (sound_cons rOSame_ok (sound_cons rNormal_ok (sound_cons rSchemeMatch_ok (sound_cons rHostMatch_ok (sound_cons rPortMatch_ok (sound_cons rPathMatch_ok sound_nil)))))))) (by kernel_rfl) Tryz.func25 rfl fun args h v h' hc r xs H hr hx => ?_
  unfold rMatchC at hc; split at hc <;> (try split at hc) <;> cases hc
  rename_i k es eh ep ea a b c d p e q f g x os oh op rd hl
  obtain ⟨hep, hdl, hel, heal⟩ := hl
  refine ⟨rfl, rfl, by simp [renV, bndV, renL, bndL], ?_⟩
  have hep0 : (ep = [] ∨ ep = [42] ∨ portP ep = true) = True := eq_true hep
  have zz := oNull_eq os oh op
  by_cases k1 : k = 1
  · by_cases m1 : a ∈ [[104, 116, 116, 112], [104, 116, 116, 112, 115], [119, 115], [119, 115, 115]]
    · simp -implicitDefEqProofs [go_sem, Tryz.f25, rOfC, rInC, rOSameC, rNormalC, rSchemeMatchC, rHostMatchC, rPortMatchC, rPathMatchC, strsAt, strsV, hget_new, matchB, namedB, ownB, httpT, httpsT, wsT, wssT, hdl, hel, heal, hep0, zz, -List.mem_cons, eq_true k1, eq_true m1]
    · by_cases m2 : a = os
      · simp -implicitDefEqProofs [go_sem, Tryz.f25, rOfC, rInC, rOSameC, rNormalC, rSchemeMatchC, rHostMatchC, rPortMatchC, rPathMatchC, strsAt, strsV, hget_new, matchB, namedB, ownB, httpT, httpsT, wsT, wssT, hdl, hel, heal, hep0, zz, -List.mem_cons, eq_true k1, m1, eq_true m2]
      · simp -implicitDefEqProofs [go_sem, Tryz.f25, rOfC, rInC, rOSameC, rNormalC, rSchemeMatchC, rHostMatchC, rPortMatchC, rPathMatchC, strsAt, strsV, hget_new, matchB, namedB, ownB, httpT, httpsT, wsT, wssT, hdl, hel, heal, hep0, zz, -List.mem_cons, eq_true k1, m1, m2]
  · by_cases k2 : k = 2
    · cases s1 : (decide (os = a) && decide (oh = d) && decide (op = portL a p) && !oNull os oh op) with
      | true =>
        simp -implicitDefEqProofs [go_sem, Tryz.f25, rOfC, rInC, rOSameC, rNormalC, rSchemeMatchC, rHostMatchC, rPortMatchC, rPathMatchC, strsAt, strsV, hget_new, matchB, namedB, ownB, httpT, httpsT, wsT, wssT, hdl, hel, heal, hep0, zz, -List.mem_cons, k1, eq_true k2, s1]
      | false =>
        cases z1 : oNull os oh op with
        | true =>
          simp -implicitDefEqProofs [go_sem, Tryz.f25, rOfC, rInC, rOSameC, rNormalC, rSchemeMatchC, rHostMatchC, rPortMatchC, rPathMatchC, strsAt, strsV, hget_new, matchB, namedB, ownB, httpT, httpsT, wsT, wssT, hdl, hel, heal, hep0, zz, -List.mem_cons, k1, eq_true k2, s1, z1]
        | false =>
          by_cases h1 : oh = d
          · by_cases p1 : op = portL a p
            · by_cases a1 : a = [104, 116, 116, 112, 115]
              · simp -implicitDefEqProofs [go_sem, Tryz.f25, rOfC, rInC, rOSameC, rNormalC, rSchemeMatchC, rHostMatchC, rPortMatchC, rPathMatchC, strsAt, strsV, hget_new, matchB, namedB, ownB, httpT, httpsT, wsT, wssT, hdl, hel, heal, hep0, zz, -List.mem_cons, k1, eq_true k2, s1, z1, eq_true h1, eq_true p1, eq_true a1]
              · by_cases a2 : a = [119, 115, 115]
                · simp -implicitDefEqProofs [go_sem, Tryz.f25, rOfC, rInC, rOSameC, rNormalC, rSchemeMatchC, rHostMatchC, rPortMatchC, rPathMatchC, strsAt, strsV, hget_new, matchB, namedB, ownB, httpT, httpsT, wsT, wssT, hdl, hel, heal, hep0, zz, -List.mem_cons, k1, eq_true k2, s1, z1, eq_true h1, eq_true p1, a1, eq_true a2]
                · by_cases o1 : os = [104, 116, 116, 112]
                  · by_cases a3 : a = [119, 115]
                    · simp -implicitDefEqProofs [go_sem, Tryz.f25, rOfC, rInC, rOSameC, rNormalC, rSchemeMatchC, rHostMatchC, rPortMatchC, rPathMatchC, strsAt, strsV, hget_new, matchB, namedB, ownB, httpT, httpsT, wsT, wssT, hdl, hel, heal, hep0, zz, -List.mem_cons, k1, eq_true k2, s1, z1, eq_true h1, eq_true p1, a1, a2, eq_true o1, eq_true a3]
                    · simp -implicitDefEqProofs [go_sem, Tryz.f25, rOfC, rInC, rOSameC, rNormalC, rSchemeMatchC, rHostMatchC, rPortMatchC, rPathMatchC, strsAt, strsV, hget_new, matchB, namedB, ownB, httpT, httpsT, wsT, wssT, hdl, hel, heal, hep0, zz, -List.mem_cons, k1, eq_true k2, s1, z1, eq_true h1, eq_true p1, a1, a2, eq_true o1, a3]
                  · simp -implicitDefEqProofs [go_sem, Tryz.f25, rOfC, rInC, rOSameC, rNormalC, rSchemeMatchC, rHostMatchC, rPortMatchC, rPathMatchC, strsAt, strsV, hget_new, matchB, namedB, ownB, httpT, httpsT, wsT, wssT, hdl, hel, heal, hep0, zz, -List.mem_cons, k1, eq_true k2, s1, z1, eq_true h1, eq_true p1, a1, a2, o1]
            · cases n1 : normalB os op with
              | true =>
                cases n2 : normalB a (portL a p) with
                | true =>
                  by_cases a1 : a = [104, 116, 116, 112, 115]
                  · simp -implicitDefEqProofs [go_sem, Tryz.f25, rOfC, rInC, rOSameC, rNormalC, rSchemeMatchC, rHostMatchC, rPortMatchC, rPathMatchC, strsAt, strsV, hget_new, matchB, namedB, ownB, httpT, httpsT, wsT, wssT, hdl, hel, heal, hep0, zz, -List.mem_cons, k1, eq_true k2, s1, z1, eq_true h1, p1, n1, n2, eq_true a1]
                  · by_cases a2 : a = [119, 115, 115]
                    · simp -implicitDefEqProofs [go_sem, Tryz.f25, rOfC, rInC, rOSameC, rNormalC, rSchemeMatchC, rHostMatchC, rPortMatchC, rPathMatchC, strsAt, strsV, hget_new, matchB, namedB, ownB, httpT, httpsT, wsT, wssT, hdl, hel, heal, hep0, zz, -List.mem_cons, k1, eq_true k2, s1, z1, eq_true h1, p1, n1, n2, a1, eq_true a2]
                    · by_cases o1 : os = [104, 116, 116, 112]
                      · by_cases a3 : a = [119, 115]
                        · simp -implicitDefEqProofs [go_sem, Tryz.f25, rOfC, rInC, rOSameC, rNormalC, rSchemeMatchC, rHostMatchC, rPortMatchC, rPathMatchC, strsAt, strsV, hget_new, matchB, namedB, ownB, httpT, httpsT, wsT, wssT, hdl, hel, heal, hep0, zz, -List.mem_cons, k1, eq_true k2, s1, z1, eq_true h1, p1, n1, n2, a1, a2, eq_true o1, eq_true a3]
                        · simp -implicitDefEqProofs [go_sem, Tryz.f25, rOfC, rInC, rOSameC, rNormalC, rSchemeMatchC, rHostMatchC, rPortMatchC, rPathMatchC, strsAt, strsV, hget_new, matchB, namedB, ownB, httpT, httpsT, wsT, wssT, hdl, hel, heal, hep0, zz, -List.mem_cons, k1, eq_true k2, s1, z1, eq_true h1, p1, n1, n2, a1, a2, eq_true o1, a3]
                      · simp -implicitDefEqProofs [go_sem, Tryz.f25, rOfC, rInC, rOSameC, rNormalC, rSchemeMatchC, rHostMatchC, rPortMatchC, rPathMatchC, strsAt, strsV, hget_new, matchB, namedB, ownB, httpT, httpsT, wsT, wssT, hdl, hel, heal, hep0, zz, -List.mem_cons, k1, eq_true k2, s1, z1, eq_true h1, p1, n1, n2, a1, a2, o1]
                | false =>
                  simp -implicitDefEqProofs [go_sem, Tryz.f25, rOfC, rInC, rOSameC, rNormalC, rSchemeMatchC, rHostMatchC, rPortMatchC, rPathMatchC, strsAt, strsV, hget_new, matchB, namedB, ownB, httpT, httpsT, wsT, wssT, hdl, hel, heal, hep0, zz, -List.mem_cons, k1, eq_true k2, s1, z1, eq_true h1, p1, n1, n2]
              | false =>
                simp -implicitDefEqProofs [go_sem, Tryz.f25, rOfC, rInC, rOSameC, rNormalC, rSchemeMatchC, rHostMatchC, rPortMatchC, rPathMatchC, strsAt, strsV, hget_new, matchB, namedB, ownB, httpT, httpsT, wsT, wssT, hdl, hel, heal, hep0, zz, -List.mem_cons, k1, eq_true k2, s1, z1, eq_true h1, p1, n1]
          · simp -implicitDefEqProofs [go_sem, Tryz.f25, rOfC, rInC, rOSameC, rNormalC, rSchemeMatchC, rHostMatchC, rPortMatchC, rPathMatchC, strsAt, strsV, hget_new, matchB, namedB, ownB, httpT, httpsT, wsT, wssT, hdl, hel, heal, hep0, zz, -List.mem_cons, k1, eq_true k2, s1, z1, h1]
    · by_cases k3 : k = 3
      · simp -implicitDefEqProofs [go_sem, Tryz.f25, rOfC, rInC, rOSameC, rNormalC, rSchemeMatchC, rHostMatchC, rPortMatchC, rPathMatchC, strsAt, strsV, hget_new, matchB, namedB, ownB, httpT, httpsT, wsT, wssT, hdl, hel, heal, hep0, zz, -List.mem_cons, k1, k2, eq_true k3]
      · by_cases k4 : k = 4
        · by_cases e1 : es = []
          · cases z1 : oNull os oh op with
            | true =>
              cases h1 : hostB eh d with
              | true =>
                cases p1 : portB ep a p with
                | true =>
                  by_cases r1 : rd = 0
                  · simp -implicitDefEqProofs [go_sem, Tryz.f25, rOfC, rInC, rOSameC, rNormalC, rSchemeMatchC, rHostMatchC, rPortMatchC, rPathMatchC, strsAt, strsV, hget_new, matchB, namedB, ownB, httpT, httpsT, wsT, wssT, hdl, hel, heal, hep0, zz, -List.mem_cons, k1, k2, k3, eq_true k4, eq_true e1, z1, h1, p1, eq_true r1]
                  · simp -implicitDefEqProofs [go_sem, Tryz.f25, rOfC, rInC, rOSameC, rNormalC, rSchemeMatchC, rHostMatchC, rPortMatchC, rPathMatchC, strsAt, strsV, hget_new, matchB, namedB, ownB, httpT, httpsT, wsT, wssT, hdl, hel, heal, hep0, zz, -List.mem_cons, k1, k2, k3, eq_true k4, eq_true e1, z1, h1, p1, r1]
                | false =>
                  simp -implicitDefEqProofs [go_sem, Tryz.f25, rOfC, rInC, rOSameC, rNormalC, rSchemeMatchC, rHostMatchC, rPortMatchC, rPathMatchC, strsAt, strsV, hget_new, matchB, namedB, ownB, httpT, httpsT, wsT, wssT, hdl, hel, heal, hep0, zz, -List.mem_cons, k1, k2, k3, eq_true k4, eq_true e1, z1, h1, p1]
              | false =>
                simp -implicitDefEqProofs [go_sem, Tryz.f25, rOfC, rInC, rOSameC, rNormalC, rSchemeMatchC, rHostMatchC, rPortMatchC, rPathMatchC, strsAt, strsV, hget_new, matchB, namedB, ownB, httpT, httpsT, wsT, wssT, hdl, hel, heal, hep0, zz, -List.mem_cons, k1, k2, k3, eq_true k4, eq_true e1, z1, h1]
            | false =>
              cases s1 : schemeB os a with
              | true =>
                cases h1 : hostB eh d with
                | true =>
                  cases p1 : portB ep a p with
                  | true =>
                    by_cases r1 : rd = 0
                    · simp -implicitDefEqProofs [go_sem, Tryz.f25, rOfC, rInC, rOSameC, rNormalC, rSchemeMatchC, rHostMatchC, rPortMatchC, rPathMatchC, strsAt, strsV, hget_new, matchB, namedB, ownB, httpT, httpsT, wsT, wssT, hdl, hel, heal, hep0, zz, -List.mem_cons, k1, k2, k3, eq_true k4, eq_true e1, z1, s1, h1, p1, eq_true r1]
                    · simp -implicitDefEqProofs [go_sem, Tryz.f25, rOfC, rInC, rOSameC, rNormalC, rSchemeMatchC, rHostMatchC, rPortMatchC, rPathMatchC, strsAt, strsV, hget_new, matchB, namedB, ownB, httpT, httpsT, wsT, wssT, hdl, hel, heal, hep0, zz, -List.mem_cons, k1, k2, k3, eq_true k4, eq_true e1, z1, s1, h1, p1, r1]
                  | false =>
                    simp -implicitDefEqProofs [go_sem, Tryz.f25, rOfC, rInC, rOSameC, rNormalC, rSchemeMatchC, rHostMatchC, rPortMatchC, rPathMatchC, strsAt, strsV, hget_new, matchB, namedB, ownB, httpT, httpsT, wsT, wssT, hdl, hel, heal, hep0, zz, -List.mem_cons, k1, k2, k3, eq_true k4, eq_true e1, z1, s1, h1, p1]
                | false =>
                  simp -implicitDefEqProofs [go_sem, Tryz.f25, rOfC, rInC, rOSameC, rNormalC, rSchemeMatchC, rHostMatchC, rPortMatchC, rPathMatchC, strsAt, strsV, hget_new, matchB, namedB, ownB, httpT, httpsT, wsT, wssT, hdl, hel, heal, hep0, zz, -List.mem_cons, k1, k2, k3, eq_true k4, eq_true e1, z1, s1, h1]
              | false =>
                simp -implicitDefEqProofs [go_sem, Tryz.f25, rOfC, rInC, rOSameC, rNormalC, rSchemeMatchC, rHostMatchC, rPortMatchC, rPathMatchC, strsAt, strsV, hget_new, matchB, namedB, ownB, httpT, httpsT, wsT, wssT, hdl, hel, heal, hep0, zz, -List.mem_cons, k1, k2, k3, eq_true k4, eq_true e1, z1, s1]
          · cases s1 : schemeB es a with
            | true =>
              cases h1 : hostB eh d with
              | true =>
                cases p1 : portB ep a p with
                | true =>
                  by_cases r1 : rd = 0
                  · simp -implicitDefEqProofs [go_sem, Tryz.f25, rOfC, rInC, rOSameC, rNormalC, rSchemeMatchC, rHostMatchC, rPortMatchC, rPathMatchC, strsAt, strsV, hget_new, matchB, namedB, ownB, httpT, httpsT, wsT, wssT, hdl, hel, heal, hep0, zz, -List.mem_cons, k1, k2, k3, eq_true k4, e1, s1, h1, p1, eq_true r1]
                  · simp -implicitDefEqProofs [go_sem, Tryz.f25, rOfC, rInC, rOSameC, rNormalC, rSchemeMatchC, rHostMatchC, rPortMatchC, rPathMatchC, strsAt, strsV, hget_new, matchB, namedB, ownB, httpT, httpsT, wsT, wssT, hdl, hel, heal, hep0, zz, -List.mem_cons, k1, k2, k3, eq_true k4, e1, s1, h1, p1, r1]
                | false =>
                  simp -implicitDefEqProofs [go_sem, Tryz.f25, rOfC, rInC, rOSameC, rNormalC, rSchemeMatchC, rHostMatchC, rPortMatchC, rPathMatchC, strsAt, strsV, hget_new, matchB, namedB, ownB, httpT, httpsT, wsT, wssT, hdl, hel, heal, hep0, zz, -List.mem_cons, k1, k2, k3, eq_true k4, e1, s1, h1, p1]
              | false =>
                simp -implicitDefEqProofs [go_sem, Tryz.f25, rOfC, rInC, rOSameC, rNormalC, rSchemeMatchC, rHostMatchC, rPortMatchC, rPathMatchC, strsAt, strsV, hget_new, matchB, namedB, ownB, httpT, httpsT, wsT, wssT, hdl, hel, heal, hep0, zz, -List.mem_cons, k1, k2, k3, eq_true k4, e1, s1, h1]
            | false =>
              simp -implicitDefEqProofs [go_sem, Tryz.f25, rOfC, rInC, rOSameC, rNormalC, rSchemeMatchC, rHostMatchC, rPortMatchC, rPathMatchC, strsAt, strsV, hget_new, matchB, namedB, ownB, httpT, httpsT, wsT, wssT, hdl, hel, heal, hep0, zz, -List.mem_cons, k1, k2, k3, eq_true k4, e1, s1]
        · simp -implicitDefEqProofs [go_sem, Tryz.f25, rOfC, rInC, rOSameC, rNormalC, rSchemeMatchC, rHostMatchC, rPortMatchC, rPathMatchC, strsAt, strsV, hget_new, matchB, namedB, ownB, httpT, httpsT, wsT, wssT, hdl, hel, heal, hep0, zz, -List.mem_cons, k1, k2, k3, k4]
end GoD
