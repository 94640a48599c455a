import Derived.Test.YtopejcaiabebpaaDoorK14
import Derived.Test.YtopejcaiabebpaaDoorPAx9
namespace Go.Proofs.YtopejcaiabebpaaDoor.PA
open Go.RowKit Go.Proofs.YtopejcaiabebpaaDoorW.PrintWords Go.Proofs.YtopejcaiabebpaaDoorW.PrintLast Go.Proofs.YtopejcaiabebpaaDoorW.PrintMore Go.Proofs.YtopejcaiabebpaaDoorPL
open Go.Proofs.YtopejcaiabebpaaDoorWS
set_option linter.unusedVariables false
theorem CspParses (a0 : ByteArray) (h0 : a0.size ≤ 140737488351232) : ∃ k, parapetlaw14_CspParses.f k a0 = some true := by
  apply Ev.rounds
  obtain ⟨xs, rfl, hx, hl⟩ := st_of a0
  unfold parapetlaw14_CspParses.f
  by_cases h : xs.length > 3000
  · exact ev_pos (by omega) awake14b
  · refine ev_neg (by omega) ?_
    refine Ev.bind (cspParse_f hx (by omega)) (Ev.bind (CSP_f hx (by omega)) ?_)
    refine Ev.bind (same_f (cspL_ok hx (by omega)) (cspL_ok hx (by omega)) (by have := cspL_few (xs := xs) (by omega); omega)) ?_
    refine ev_pos (by simp) ?_
    refine Ev.bind (ASCII_f hx (by omega)) (Ev.bind (rASCII_f hx (by omega)) ?_)
    exact ev_pos (by simp) awake14b
end Go.Proofs.YtopejcaiabebpaaDoor.PA
