import Derived.Test.YtknkokkgefcdbaaDoorPF
/-! Paths, own origins and matches as the program answers them. -/
namespace GoD
open Go Go.Proofs
set_option linter.unusedVariables false
set_option linter.unusedSimpArgs false
set_option maxHeartbeats 4000000
set_option maxRecDepth 100000
theorem ends_slash (p : List Int) : endsL p [47] = decide (p.getLast? = some 47) := by
  rcases List.eq_nil_or_concat p with rfl | ⟨q, c, rfl⟩
  · rfl
  · rw [List.concat_eq_append, List.getLast?_append]
    simp [endsL]
def pPathMC : Ct := fun args h => match args with | [.s p, .s l] => if p.length ≤ 1048576 ∧ l.length ≤ 1048576 then some (.b (pathB p l), h) else none | _ => none
end GoD
