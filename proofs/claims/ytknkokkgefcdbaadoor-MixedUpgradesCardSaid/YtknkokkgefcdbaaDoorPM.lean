import Derived.Test.YtknkokkgefcdbaaDoorPL
/-! Source expressions as the program reads them: the run. -/
namespace GoD
open Go Go.Proofs
set_option linter.unusedVariables false
set_option linter.unusedSimpArgs false
set_option maxHeartbeats 2000000
set_option maxRecDepth 100000
def pParseC : Ct := fun args h => match args with | [.s l] => if l.length ≤ 1048576 then some ((srcL l).V, h) else none | _ => none
theorem hostR_le {l c : List Int} (hl : l.length ≤ 1048576) : (hostR l c).2.2.length ≤ 1048576 := by
  have key : ∀ (f : Nat) (acc s : List Int), (labsR f acc s).2.2.length ≤ s.length := by
    intro f
    induction f with
    | zero => intro acc s; exact Nat.le_refl _
    | succ f ih =>
      intro acc s
      rw [labsR]
      split
      · exact Nat.le_refl _
      · split
        · exact Nat.le_trans (ih _ _) (by simp <;> omega)
        · simp
  unfold hostR
  split
  · split
    · exact Nat.le_trans (key _ _ _) (by simp; omega)
    · simp; omega
  · exact Nat.le_trans (key _ _ _) hl
theorem portR_le {l c : List Int} (hl : l.length ≤ 1048576) : (portR l c).2.2.length ≤ 1048576 := by
  unfold portR
  split
  · split
    · simp; omega
    · simp; omega
  · exact hl
end GoD
