import Derived.Test.YtffoolaocbgknaaGreatDoorEB
/-! Texts of ASCII as the document answers them: what stands between blanks; decimals. -/
namespace GoD
open Go Go.Proofs
set_option linter.unusedVariables false
set_option linter.unusedSimpArgs false
set_option maxHeartbeats 4000000
set_option maxRecDepth 100000
def rBlanksC : Ct := fun args h => match args with | [.s l] => if l.length ≤ 1048576 then some (.sl h.length 0 (blanksL l).length 1, h ++ [⟨2, false, sts (blanksL l)⟩]) else none | _ => none
end GoD
