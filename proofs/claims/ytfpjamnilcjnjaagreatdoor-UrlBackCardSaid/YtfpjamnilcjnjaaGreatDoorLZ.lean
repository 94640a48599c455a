import Derived.Test.YtfpjamnilcjnjaaGreatDoorLU
import Derived.Test.YtfpjamnilcjnjaaGreatDoorV0
/-! The law's answer, told to its row. -/
namespace Go.Proofs.YtfpjamnilcjnjaaGreatDoor.PD
open Go Go.Proofs Go.RowKit GoD Go.Proofs.YtfpjamnilcjnjaaGreatDoorW.PrintWords
set_option maxRecDepth 100000
set_option linter.unusedVariables false
def UrlBack.f (a0 : ByteArray) : Option Bool := if a0.size ≤ 281474976710656 then some true else none
theorem UrlBack.calls (a0 : ByteArray) (r : Bool) (w : World) (hg : GT w) (h : UrlBack.f a0 = some r) : Calls Tryz.prog 5 #[.string a0] w fun e w' => e = .returned (.bool r) ∧ Below w.heap.size w w' := by
  unfold UrlBack.f at h
  split at h
  · rename_i h0
    have ha0 := h0
    obtain rfl := Option.some.inj h
    exact law_calls (ok_of (pLawUk_ok _ _ _ _ rfl) (by kernel_rfl)) (fun i b h => by simp at h) (HR_nil hg) (.cons (R_str ha0) .nil)
  · cases h
theorem UrlBack.holds {a0 : ByteArray} (ha0 : a0.size ≤ 140737488351232) : UrlBack.f a0 = some true := if_pos (by omega)
end Go.Proofs.YtfpjamnilcjnjaaGreatDoor.PD
