import Derived.Test.YtfpjamnilcjnjaaGreatDoorLU
import Derived.Test.YtfpjamnilcjnjaaGreatDoorOV
/-! The law's answer, told to its row. -/
namespace Go.Proofs.YtfpjamnilcjnjaaGreatDoor.PD
open Go Go.Proofs Go.RowKit GoD Go.Proofs.YtfpjamnilcjnjaaGreatDoorW.PrintWords
set_option maxRecDepth 100000
set_option linter.unusedVariables false
def UrlParses.f (a0 : ByteArray) : Option Bool := if a0.size ≤ 281474976710656 then some true else none
theorem UrlParses.calls (a0 : ByteArray) (r : Bool) (w : World) (hg : GT w) (h : UrlParses.f a0 = some r) : Calls Tryz.prog 3 #[.string a0] w fun e w' => e = .returned (.bool r) ∧ Below w.heap.size w w' := by
  unfold UrlParses.f at h
  split at h
  · rename_i h0
    have ha0 := h0
    obtain rfl := Option.some.inj h
    exact law_calls (ok_of (pLawUp_ok _ _ _ _ rfl) (by kernel_rfl)) (fun i b h => by simp at h) (HR_nil hg) (.cons (R_str ha0) .nil)
  · cases h
theorem UrlParses.holds {a0 : ByteArray} (ha0 : a0.size ≤ 140737488351232) : UrlParses.f a0 = some true := if_pos (by omega)
end Go.Proofs.YtfpjamnilcjnjaaGreatDoor.PD
