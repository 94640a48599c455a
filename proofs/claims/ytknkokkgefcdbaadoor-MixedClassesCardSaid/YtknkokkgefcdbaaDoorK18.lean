import Derived.Test.YtknkokkgefcdbaaDoorM
import Derived.Test.YtknkokkgefcdbaaDoorPAx15
import Derived.Test.YtknkokkgefcdbaaDoorPAx21
import Derived.Test.YtknkokkgefcdbaaDoorU3
namespace Go.Proofs.YtknkokkgefcdbaaDoor.PA
open Go.RowKit Go.Proofs.YtknkokkgefcdbaaDoorW.PrintWords Go.Proofs.YtknkokkgefcdbaaDoorW.PrintLast Go.Proofs.YtknkokkgefcdbaaDoorW.PrintMore Go.Proofs.YtknkokkgefcdbaaDoorPL
open Go.Proofs.YtknkokkgefcdbaaDoorWS
set_option linter.unusedVariables false
set_option linter.unusedSimpArgs false
theorem parsed18_any (a0 : ByteArray) (ha : a0.size < 9223372036854775808) : ∃ sc us ps h po pa qb qf fb ff ok, Ev (fun k => parapetlaw18_parsed.f k a0) (st sc, st us, st ps, st h, po, st pa, qb, st qf, fb, st ff, ok) ∧ (ok = true → UrlOk sc us ps h po pa qf ff) := by
  obtain ⟨sc, us, ps, h, po, pa, qb, qf, fb, ff, e, h1, h2⟩ := URL_any a0 ha
  by_cases he : e = 0
  · refine ⟨sc, us, ps, h, po, pa, qb, qf, fb, ff, decide ((a0.size : Int) ≤ 2000), ?_, fun _ => h2 he⟩
    unfold parapetlaw18_parsed.f
    exact Ev.bind h1 (ev_pos he (Ev.now _))
  · refine ⟨sc, us, ps, h, po, pa, qb, qf, fb, ff, false, ?_, fun x => by cases x⟩
    unfold parapetlaw18_parsed.f
    exact Ev.bind h1 (ev_neg he (Ev.now _))
set_option maxRecDepth 100000 in
theorem awake18 : Ev (fun k => parapetlaw18_awake.f k) true := Ev.of (k := 80) (fun k => parapetlaw18_awake.mono k) (by decide +kernel)
theorem awake18b : Ev (fun k => (parapetlaw18_awake.f k).bind fun t => some t) true := Ev.bind awake18 (Ev.now _)
end Go.Proofs.YtknkokkgefcdbaaDoor.PA
