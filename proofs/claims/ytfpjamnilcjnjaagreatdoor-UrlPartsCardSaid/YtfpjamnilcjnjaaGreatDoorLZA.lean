import Derived.Test.YtfpjamnilcjnjaaGreatDoorLU
import Derived.Test.YtfpjamnilcjnjaaGreatDoorZF
/-! The law's answer, told to its row. -/
namespace Go.Proofs.YtfpjamnilcjnjaaGreatDoor.PD
open Go Go.Proofs Go.RowKit GoD Go.Proofs.YtfpjamnilcjnjaaGreatDoorW.PrintWords
set_option maxRecDepth 100000
set_option linter.unusedVariables false
def UrlParts.f (a0 : Int) (a1 : Bool) (a2 : Bool) (a3 : Bool) (a4 : Bool) : Option Bool := if IntKind.i64.wrap a0 = a0 then some true else none
theorem UrlParts.calls (a0 : Int) (a1 : Bool) (a2 : Bool) (a3 : Bool) (a4 : Bool) (r : Bool) (w : World) (hg : GT w) (h : UrlParts.f a0 a1 a2 a3 a4 = some r) : Calls Tryz.prog 8 #[.int .i64 a0, .bool a1, .bool a2, .bool a3, .bool a4] w fun e w' => e = .returned (.bool r) ∧ Below w.heap.size w w' := by
  unfold UrlParts.f at h
  split at h
  · rename_i h0
    have ha0 := h0
    obtain rfl := Option.some.inj h
    exact law_calls (ok_of (pLawUr_ok _ _ _ _ rfl) (by kernel_rfl)) (fun i b h => by simp at h) (HR_nil hg) (.cons (.i _ _ ha0) (.cons (.b _) (.cons (.b _) (.cons (.b _) (.cons (.b _) .nil)))))
  · cases h
theorem UrlParts.holds {a0 : Int} {a1 : Bool} {a2 : Bool} {a3 : Bool} {a4 : Bool} (ha0 : (Lit.int .i64 a0).wf = true) : UrlParts.f a0 a1 a2 a3 a4 = some true := if_pos (wrap_of ha0)
end Go.Proofs.YtfpjamnilcjnjaaGreatDoor.PD
