import Derived.Test.YtknkokkgefcdbaaDoorEJ
/-! Schemes, hosts, ports, paths of sources as the document matches them. -/
namespace GoD
open Go Go.Proofs
set_option linter.unusedVariables false
set_option linter.unusedSimpArgs false
set_option maxHeartbeats 4000000
set_option maxRecDepth 100000
def schemeB (a b : List Int) : Bool := decide (a = b) || (decide (a = [104, 116, 116, 112]) && decide (b = [104, 116, 116, 112, 115])) || (decide (a = [119, 115]) && (decide (b = [119, 115, 115]) || decide (b = [104, 116, 116, 112]) || decide (b = [104, 116, 116, 112, 115]))) || (decide (a = [119, 115, 115]) && decide (b = [104, 116, 116, 112, 115]))
def rSchemeMatchC : Ct := fun args h => match args with | [.s a, .s b] => some (.b (schemeB a b), h) | _ => none
def starB (p : List Int) : Bool := decide (p.take 2 = [42, 46])
def hostB (p l : List Int) : Bool := if l = [] then false else if p = [42] then true else if starB p = true then (addrL l).isNone && decide (p.length ≤ l.length) && endsL l (p.drop 1) else decide (p = l) && ((addrL l).isNone || decide (l = [49, 50, 55, 46, 48, 46, 48, 46, 49]))
theorem okV_2 (o : Option Int) : (okV o).2 = !o.isNone := by cases o <;> rfl
def rHostMatchC : Ct := fun args h => match args with | [.s p, .s l] => if l.length ≤ 1048576 then some (.b (hostB p l), h) else none | _ => none
end GoD
