import Derived.Test.YtgldmliemeadpaaDoorE
import Derived.Test.YtgldmliemeadpaaDoorPAx7
namespace Go.Proofs.YtgldmliemeadpaaDoor.PA
open Go.RowKit Go.Proofs.YtgldmliemeadpaaDoorW.PrintWords Go.Proofs.YtgldmliemeadpaaDoorW.PrintLast Go.Proofs.YtgldmliemeadpaaDoorW.PrintMore Go.Proofs.YtgldmliemeadpaaDoorPL
open Go.Proofs.YtgldmliemeadpaaDoorWS (lowB lowerL hexv decodeL splitL partsL digitsB hexP accV baseV restV partV numL numberL numericB decD textL forbB hostL addrL domainB resV)
set_option linter.unusedVariables false
set_option linter.unusedSimpArgs false
set_option maxRecDepth 100000 in
theorem awake10 : Ev (fun k => parapetlaw10_awake.f k) true := Ev.of (k := 60) (fun k => parapetlaw10_awake.mono k) (by decide +kernel)
theorem awake10b : Ev (fun k => (parapetlaw10_awake.f k).bind fun t => some t) true := Ev.bind awake10 (Ev.now _)
theorem u32_wf {a : Int} (h : (Lit.int .u32 a).wf = true) : 0 ≤ a ∧ a < 4294967296 := by
  simp [Lit.wf, IntKind.min, IntKind.max, IntKind.signed, IntKind.bits] at h
  omega
end Go.Proofs.YtgldmliemeadpaaDoor.PA
