import Derived.Test.YtknkokkgefcdbaaDoorE
import Derived.Test.YtknkokkgefcdbaaDoorPAx22
namespace Go.Proofs.YtknkokkgefcdbaaDoor.PA
open Go.RowKit Go.Proofs.YtknkokkgefcdbaaDoorW.PrintWords Go.Proofs.YtknkokkgefcdbaaDoorW.PrintLast Go.Proofs.YtknkokkgefcdbaaDoorW.PrintMore Go.Proofs.YtknkokkgefcdbaaDoorPL
open Go.Proofs.YtknkokkgefcdbaaDoorWS (lowB lowerL hexv decodeL splitL partsL digitsB hexP accV baseV restV partV numL numberL numericB decD textL forbB hostL addrL domainB resV)
set_option linter.unusedVariables false
set_option linter.unusedSimpArgs false
theorem rIsAddress_f {xs : List Int} (hx : Bytes xs) (hl : xs.length < 1048576) : Ev (fun k => parapetref9_IsAddress.f k (st xs)) (resV (addrL xs)) := by
  unfold parapetref9_IsAddress.f addrL
  refine Ev.bind (rNumber_f hx hl) ?_
  cases e : numberL xs with
  | none => exact ev_neg (by simp [resV]) (Ev.now _)
  | some n =>
    refine ev_pos rfl ?_
    refine Ev.bind (rAddress_f (numberL_range e).1 (numberL_range e).2) ?_
    rw [Option.bind_some]
    by_cases h : textL n = xs
    · rw [if_pos h]
      exact ev_pos ((toList_eq textL_bytes hx).2 h) (Ev.now _)
    · rw [if_neg h]
      exact ev_neg (fun x => h ((toList_eq textL_bytes hx).1 x)) (Ev.now _)
end Go.Proofs.YtknkokkgefcdbaaDoor.PA
