import Derived.Test.YtgldmliemeadpaaDoorF
import Derived.Test.YtgldmliemeadpaaDoorPAx15
namespace Go.Proofs.YtgldmliemeadpaaDoor.PA
open Go.RowKit Go.Proofs.YtgldmliemeadpaaDoorW.PrintWords Go.Proofs.YtgldmliemeadpaaDoorW.PrintLast Go.Proofs.YtgldmliemeadpaaDoorW.PrintMore Go.Proofs.YtgldmliemeadpaaDoorPL
open Go.Proofs.YtgldmliemeadpaaDoorWS (lowB lowerL hexv decodeL splitL partsL digitsB hexP accV baseV restV partV numL numberL numericB decD textL forbB hostL addrL domainB resV)
set_option linter.unusedVariables false
set_option linter.unusedSimpArgs false
theorem HostNumbers (a0 : ByteArray) (a1 : Int) (h : a0.size ≤ 140737488351232) (h1 : (Lit.int .u32 a1).wf = true) : ∃ k, parapetlaw10_HostNumbers.f k a0 a1 = some true := by
  obtain ⟨xs, rfl, hx, hl⟩ := st_of a0
  have ha := u32_wf h1
  refine Ev.rounds ?_
  unfold parapetlaw10_HostNumbers.f
  by_cases h1 : xs.length > 600
  · exact ev_pos (by rw [st_size]; omega) awake10b
  · refine ev_neg (by rw [st_size]; omega) ?_
    refine Ev.bind (Number_f hx (by omega)) ?_
    refine Ev.bind (rNumber_f hx (by omega)) ?_
    refine Ev.bind (Address_f hx (by omega)) ?_
    refine Ev.bind (rIsAddress_f hx (by omega)) ?_
    refine ev_pos rfl (ev_pos (by simp) (ev_pos rfl (ev_pos (by simp) ?_)))
    refine Ev.bind (Text_f ha.1 ha.2) ?_
    refine Ev.bind (rAddress_f ha.1 ha.2) ?_
    exact ev_pos rfl awake10b
end Go.Proofs.YtgldmliemeadpaaDoor.PA
