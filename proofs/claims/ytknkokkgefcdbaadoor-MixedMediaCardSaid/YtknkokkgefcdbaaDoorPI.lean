import Derived.Test.YtknkokkgefcdbaaDoorPH
/-! The program's reader of source expressions. -/
namespace GoD
open Go Go.Proofs
set_option linter.unusedVariables false
set_option linter.unusedSimpArgs false
set_option maxHeartbeats 2000000
set_option maxRecDepth 100000
def rdBk (l : List Int) (e : Expr5) : Blk := ⟨2, true, [.s l, .i .i64 e.kind, .s e.sch, .s e.ho, .s e.po, .s e.pa]⟩
theorem rdBk_flat (l : List Int) (e : Expr5) : (rdBk l e).cells.all GoD.flat = true := rfl
def dropP (l m : List Int) : List Int := if headB l m = true then l.drop m.length else l
def pPassC : Ct := fun args h => match args with
  | [.p b 0, .s m] => match hget h b with
    | ⟨2, true, [.s l, .i .i64 k, .s a, .s c, .s d, .s e]⟩ => if b < h.length then some (.b (headB l m), h.set b (rdBk (dropP l m) ⟨k, a, c, d, e⟩)) else none
    | _ => none
  | _ => none
end GoD
