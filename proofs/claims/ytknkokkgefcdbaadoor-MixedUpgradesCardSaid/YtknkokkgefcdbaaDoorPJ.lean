import Derived.Test.YtknkokkgefcdbaaDoorPI
/-! What the program's reader reads: schemes, ports, paths. -/
namespace GoD
open Go Go.Proofs
set_option linter.unusedVariables false
set_option linter.unusedSimpArgs false
set_option maxHeartbeats 2000000
set_option maxRecDepth 100000
def schR (m l : List Int) : Option (List Int × List Int) := if cntL schB l = 0 ∨ letterB (l.headD 0) = false then none else if headB (l.drop (cntL schB l)) m = true then some (lowerL (l.take (cntL schB l)), (l.drop (cntL schB l)).drop m.length) else none
def schBk (m l : List Int) (e : Expr5) : Blk := match schR m l with
  | none => rdBk l e
  | some (s, r) => rdBk r { e with sch := s }
def pSchRC : Ct := fun args h => match args with
  | [.p b 0, .s m] => match hget h b with
    | ⟨2, true, [.s l, .i .i64 k, .s a, .s c, .s d, .s e]⟩ => if b < h.length ∧ l.length ≤ 1048576 then some (.tup [], h.set b (schBk m l ⟨k, a, c, d, e⟩)) else none
    | _ => none
  | _ => none
theorem schBk_flat (m l : List Int) (e : Expr5) : (schBk m l e).cells.all GoD.flat = true := by
  unfold schBk
  split <;> rfl
def portR (l po : List Int) : Bool × List Int × List Int := if headB l [58] = true then (if headB (l.drop 1) [42] = true then (true, [42], (l.drop 1).drop 1) else (decide (cntL digitB (l.drop 1) ≠ 0) && decide (cntL digitB (l.drop 1) ≤ 5), (l.drop 1).take (cntL digitB (l.drop 1)), (l.drop 1).drop (cntL digitB (l.drop 1)))) else (true, po, l)
def pPortRC : Ct := fun args h => match args with
  | [.p b 0] => match hget h b with
    | ⟨2, true, [.s l, .i .i64 k, .s a, .s c, .s d, .s e]⟩ => if b < h.length ∧ l.length ≤ 1048576 then some (.b (portR l d).1, h.set b (rdBk (portR l d).2.2 ⟨k, a, c, (portR l d).2.1, e⟩)) else none
    | _ => none
  | _ => none
def pathR (l pa : List Int) : Bool × List Int × List Int := if headB l [47] = true then (decide (l.drop (cntL pathC l) = []), l.take (cntL pathC l), l.drop (cntL pathC l)) else (decide (l = []), pa, l)
def pPathRC : Ct := fun args h => match args with
  | [.p b 0] => match hget h b with
    | ⟨2, true, [.s l, .i .i64 k, .s a, .s c, .s d, .s e]⟩ => if b < h.length ∧ l.length ≤ 1048576 then some (.b (pathR l e).1, h.set b (rdBk (pathR l e).2.2 ⟨k, a, c, d, (pathR l e).2.1⟩)) else none
    | _ => none
  | _ => none
end GoD
