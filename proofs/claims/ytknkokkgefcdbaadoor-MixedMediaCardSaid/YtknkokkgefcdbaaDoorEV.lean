import Derived.Test.YtknkokkgefcdbaaDoorEU
/-! Source expressions as the document reads them. -/
namespace GoD
open Go Go.Proofs
set_option linter.unusedVariables false
set_option linter.unusedSimpArgs false
set_option maxHeartbeats 4000000
set_option maxRecDepth 100000
structure Expr5 where
  kind : Int
  sch : List Int
  ho : List Int
  po : List Int
  pa : List Int
def Expr5.cells (e : Expr5) : List V := [.i .i64 e.kind, .s e.sch, .s e.ho, .s e.po, .s e.pa]
def Expr5.V (e : Expr5) : V := .agg e.cells
def exprZ : Expr5 := ⟨0, [], [], [], []⟩
def pathC (c : Int) : Bool := decide (33 ≤ c) && decide (c ≤ 126) && !decide (c ∈ [63, 35, 59, 44])
def pathOk (s : List Int) : Bool := s.all pathC
def src4 (sch ho po s : List Int) : Expr5 := if s ≠ [] ∧ s.head? ≠ some 47 then exprZ else if pathOk s = true then ⟨4, sch, ho, po, s⟩ else exprZ
def src3 (sch ho : List Int) : List Int → Expr5
  | [] => src4 sch ho [] []
  | c :: r => if c = 58 then (if r.head? = some 42 then src4 sch ho [42] (r.drop 1) else if cntL digitB r = 0 ∨ 5 < cntL digitB r then exprZ else src4 sch ho (r.take (cntL digitB r)) (r.drop (cntL digitB r))) else src4 sch ho [] (c :: r)
def src2 (sch s : List Int) : Expr5 := if hostPartN s = 0 then exprZ else src3 sch (lowerL (s.take (hostPartN s))) (s.drop (hostPartN s))
def src1 (s : List Int) : Expr5 := if 0 < schemeN s ∧ schemeN s + 1 = s.length then ⟨3, lowerL (s.take (schemeN s)), [], [], []⟩ else if 0 < schemeN s ∧ (s.drop (schemeN s)).take 3 = [58, 47, 47] then src2 (lowerL (s.take (schemeN s))) (s.drop (schemeN s + 3)) else src2 [] s
def srcL (s : List Int) : Expr5 := if s = [42] then ⟨1, [], [], [], []⟩ else if lowerL s = [39, 115, 101, 108, 102, 39] then ⟨2, [], [], [], []⟩ else if 2 ≤ s.length ∧ s.head? = some 39 ∧ s.getLast? = some 39 then ⟨5, [], [], [], []⟩ else src1 s
theorem hostPartN_le (l : List Int) : hostPartN l ≤ l.length := by
  match l with
  | [] => simp [hostPartN]
  | [a] =>
    rw [hostPartN]
    split
    · simp
    · exact labelsN_le _
  | a :: b :: r =>
    have h1 := labelsN_le r
    have h2 := labelsN_le (a :: b :: r)
    rw [hostPartN]
    split
    · split
      · split <;> simp <;> omega
      · simp
    · exact h2
def exprBk (e : Expr5) : Blk := ⟨2, true, e.cells⟩
theorem pathOk_cons (c : Int) (t : List Int) : pathOk (c :: t) = (pathC c && pathOk t) := rfl
def rSourceC : Ct := fun args h => match args with | [.s l] => if l.length ≤ 1048576 then some ((srcL l).V, h) else none | _ => none
theorem Expr5.flat (e : Expr5) (m : Nat) : renV id e.V = e.V ∧ bndV m e.V := by simp [Expr5.V, Expr5.cells, renV, bndV, renL, bndL]
end GoD
