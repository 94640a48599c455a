import Derived.Test.YtknkokkgefcdbaaDoorEL
/-! Paths of sources as the document matches them. -/
namespace GoD
open Go Go.Proofs
set_option linter.unusedVariables false
set_option linter.unusedSimpArgs false
set_option maxHeartbeats 4000000
set_option maxRecDepth 100000
/-- are the segments of one the other's first ones, decoded? -/
def segB : List (List Int) → List (List Int) → Bool
  | [], _ => true
  | x :: s, y :: t => decide (decodeL x = decodeL y) && segB s t
  | _ :: _, [] => false
def pathB (p l : List Int) : Bool :=
  if p = [] ∨ (p = [47] ∧ l = []) then true
  else if p.getLast? = some 47 then decide ((splitL 47 p).length ≤ (splitL 47 l).length) && segB (splitL 47 p).dropLast (splitL 47 l)
  else decide ((splitL 47 p).length = (splitL 47 l).length) && segB (splitL 47 p) (splitL 47 l)
theorem segB_drop {a b : List (List Int)} {i : Nat} (h1 : i < a.length) (h2 : i < b.length) : segB (a.drop i) (b.drop i) = (decide (decodeL a[i] = decodeL b[i]) && segB (a.drop (i + 1)) (b.drop (i + 1))) := by
  rw [List.drop_eq_getElem_cons h1, List.drop_eq_getElem_cons h2, segB]
def rPathMatchC : Ct := fun args h => match args with | [.s p, .s l] => if p.length ≤ 1048576 ∧ l.length ≤ 1048576 then some (.b (pathB p l), h) else none | _ => none
end GoD
