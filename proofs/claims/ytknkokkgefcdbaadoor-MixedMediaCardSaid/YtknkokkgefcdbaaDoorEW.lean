import Derived.Test.YtknkokkgefcdbaaDoorEV
/-! Whether an expression matches a URL, as the document says. -/
namespace GoD
open Go Go.Proofs
set_option linter.unusedVariables false
set_option linter.unusedSimpArgs false
set_option maxHeartbeats 4000000
set_option maxRecDepth 100000
def httpT : List Int := [104, 116, 116, 112]
def httpsT : List Int := [104, 116, 116, 112, 115]
def wsT : List Int := [119, 115]
def wssT : List Int := [119, 115, 115]
def ownB (us uh : List Int) (up : Int) (os oh : List Int) (op : Int) : Bool :=
  (decide (os = us) && decide (oh = uh) && decide (op = portL us up) && !oNull os oh op) ||
  (!oNull os oh op && decide (oh = uh) && (decide (op = portL us up) || (normalB os op && normalB us (portL us up))) && (decide (us = httpsT) || decide (us = wssT) || (decide (os = httpT) && decide (us = wsT))))
def namedB (e : Expr5) (us uh : List Int) (up : Int) (path os oh : List Int) (op rd : Int) : Bool :=
  (if e.sch = [] then oNull os oh op || schemeB os us else schemeB e.sch us) && hostB e.ho uh && portB e.po us up && (decide (rd ≠ 0) || pathB e.pa path)
def matchB (e : Expr5) (us uh : List Int) (up : Int) (path os oh : List Int) (op rd : Int) : Bool :=
  if e.kind = 1 then decide (us ∈ [httpT, httpsT, wsT, wssT]) || decide (us = os) else if e.kind = 2 then ownB us uh up os oh op
  else if e.kind = 3 then schemeB e.sch us else if e.kind = 4 then namedB e us uh up path os oh op rd else false
def portQ (l : List Int) : Prop := l = [] ∨ l = [42] ∨ portP l = true
instance (l : List Int) : Decidable (portQ l) := by unfold portQ; exact inferInstance
def rMatchC : Ct := fun args h => match args with
  | [.agg [.i .i64 k, .s es, .s eh, .s ep, .s ea], .agg [.s a, .s b, .s c, .s d, .i .i64 p, .s e, .b q, .s f, .b g, .s x], .agg [.s os, .s oh, .i .i64 op], .i .i64 rd] =>
    if portQ ep ∧ d.length ≤ 1048576 ∧ e.length ≤ 1048576 ∧ ea.length ≤ 1048576 then some (.b (matchB ⟨k, es, eh, ep, ea⟩ a d p e os oh op rd), h) else none
  | _ => none
theorem oNull_eq (a b : List Int) (p : Int) : (a.isEmpty && (b.isEmpty && decide (p = 0))) = oNull a b p := by cases a <;> cases b <;> simp [oNull]
end GoD
