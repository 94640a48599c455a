import Derived.Test.YtgldmliemeadpaaDoorF
import Derived.Test.YtgldmliemeadpaaDoorPAx18
namespace Go.Proofs.YtgldmliemeadpaaDoor.PA
open Go.RowKit Go.Proofs.YtgldmliemeadpaaDoorW.PrintWords Go.Proofs.YtgldmliemeadpaaDoorW.PrintLast Go.Proofs.YtgldmliemeadpaaDoorW.PrintMore Go.Proofs.YtgldmliemeadpaaDoorPL
open Go.Proofs.YtgldmliemeadpaaDoorWS (lowB lowerL hexv decodeL splitL partsL digitsB hexP accV baseV restV partV numL numberL numericB decD textL forbB hostL addrL domainB resV)
set_option linter.unusedVariables false
set_option linter.unusedSimpArgs false
theorem HostParses (a0 : ByteArray) (h : a0.size ≤ 140737488351232) : ∃ k, parapetlaw10_HostParses.f k a0 = some true := by
  obtain ⟨xs, rfl, hx, hl⟩ := st_of a0
  refine Ev.rounds ?_
  unfold parapetlaw10_HostParses.f
  by_cases h1 : xs.length > 600
  · exact ev_pos (by rw [st_size]; omega) awake10b
  · refine ev_neg (by rw [st_size]; omega) ?_
    refine Ev.bind (Parse_f hx (by omega)) ?_
    refine Ev.bind (rHost_f hx (by omega)) ?_
    refine ev_pos rfl (ev_pos rfl ?_)
    refine Ev.bind (Domain_f hx (by omega)) ?_
    refine Ev.bind (rDomain_f hx (by omega)) ?_
    exact ev_pos (by simp) awake10b
end Go.Proofs.YtgldmliemeadpaaDoor.PA
