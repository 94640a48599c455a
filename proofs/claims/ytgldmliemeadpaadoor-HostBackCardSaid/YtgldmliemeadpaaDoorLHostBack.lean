import Derived.Test.YtgldmliemeadpaaDoorG
import Derived.Test.YtgldmliemeadpaaDoorPAx18
namespace Go.Proofs.YtgldmliemeadpaaDoor.PA
open Go.RowKit Go.Proofs.YtgldmliemeadpaaDoorW.PrintWords Go.Proofs.YtgldmliemeadpaaDoorW.PrintLast Go.Proofs.YtgldmliemeadpaaDoorW.PrintMore Go.Proofs.YtgldmliemeadpaaDoorPL
open Go.Proofs.YtgldmliemeadpaaDoorWS (lowB lowerL hexv decodeL splitL partsL digitsB hexP accV baseV restV partV numL numberL numericB decD textL forbB hostL addrL domainB resV)
set_option linter.unusedVariables false
set_option linter.unusedSimpArgs false
theorem HostBack_j0 {a : Int} (h0 : 0 ≤ a) (h1 : a < 4294967296) : Ev (fun k => parapetlaw10_HostBack.j0 k a) true := by
  have hl := textL_length a h0 h1
  refine Ev.step (fun k => by rw [parapetlaw10_HostBack.j0]) ?_
  refine Ev.bind (Text_f h0 h1) ?_
  refine Ev.bind (Number_f textL_bytes (by omega)) ?_
  refine Ev.bind (Text_f h0 h1) ?_
  refine Ev.bind (Address_f textL_bytes (by omega)) ?_
  rw [number_text h0 h1, addr_text h0 h1]
  refine ev_pos rfl (ev_pos rfl (ev_pos rfl (ev_pos rfl ?_)))
  refine Ev.bind (Text_f h0 h1) ?_
  refine Ev.bind (Domain_f textL_bytes (by omega)) ?_
  rw [show domainB (textL a) = false by unfold domainB; rw [addr_text h0 h1]; simp]
  exact ev_neg (by simp) awake10b
theorem HostBack (a0 : ByteArray) (a1 : Int) (h : a0.size ≤ 140737488351232) (h1 : (Lit.int .u32 a1).wf = true) : ∃ k, parapetlaw10_HostBack.f k a0 a1 = some true := by
  obtain ⟨xs, rfl, hx, hl⟩ := st_of a0
  have ha := u32_wf h1
  refine Ev.rounds ?_
  unfold parapetlaw10_HostBack.f
  by_cases h1 : xs.length > 600
  · exact ev_pos (by rw [st_size]; omega) awake10b
  · refine ev_neg (by rw [st_size]; omega) ?_
    refine Ev.bind (Parse_f hx (by omega)) ?_
    cases e : hostL xs with
    | none => exact ev_neg (by simp [stR]) (HostBack_j0 ha.1 ha.2)
    | some g =>
      have hg := hostL_bytes hx e
      have hgl := hostL_length e
      have hb := host_back e
      refine ev_pos rfl ?_
      refine Ev.bind (Parse_f hg (by omega)) ?_
      refine Ev.bind (Address_f hg (by omega)) ?_
      rw [hb]
      refine ev_pos rfl (ev_pos rfl ?_)
      refine Ev.bind (Domain_f hg (by omega)) ?_
      refine ev_neg ?_ (HostBack_j0 ha.1 ha.2)
      unfold domainB
      rw [hb]
      cases addrL g <;> simp [resV]
end Go.Proofs.YtgldmliemeadpaaDoor.PA
