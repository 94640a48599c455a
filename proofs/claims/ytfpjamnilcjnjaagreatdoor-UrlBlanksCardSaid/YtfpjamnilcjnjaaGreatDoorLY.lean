import Derived.Test.YtfpjamnilcjnjaaGreatDoorLU
import Derived.Test.YtfpjamnilcjnjaaGreatDoorOX
/-! The law's answer, told to its row. -/
namespace Go.Proofs.YtfpjamnilcjnjaaGreatDoor.PD
open Go Go.Proofs Go.RowKit GoD Go.Proofs.YtfpjamnilcjnjaaGreatDoorW.PrintWords
set_option maxRecDepth 100000
set_option linter.unusedVariables false
def UrlBlanks.f (a0 : ByteArray) (a1 : Int) (a2 : Int) : Option Bool := if a0.size ≤ 281474976710656 ∧ IntKind.i64.wrap a1 = a1 ∧ IntKind.i64.wrap a2 = a2 then some true else none
theorem UrlBlanks.calls (a0 : ByteArray) (a1 : Int) (a2 : Int) (r : Bool) (w : World) (hg : GT w) (h : UrlBlanks.f a0 a1 a2 = some r) : Calls Tryz.prog 6 #[.string a0, .int .i64 a1, .int .i64 a2] w fun e w' => e = .returned (.bool r) ∧ Below w.heap.size w w' := by
  unfold UrlBlanks.f at h
  split at h
  · rename_i h0
    obtain ⟨ha0, ha1, ha2⟩ := h0
    obtain rfl := Option.some.inj h
    exact law_calls (ok_of (pLawUb_ok _ _ _ _ rfl) (by kernel_rfl)) (fun i b h => by simp at h) (HR_nil hg) (.cons (R_str ha0) (.cons (.i _ _ ha1) (.cons (.i _ _ ha2) .nil)))
  · cases h
theorem UrlBlanks.holds {a0 : ByteArray} {a1 : Int} {a2 : Int} (ha0 : a0.size ≤ 140737488351232) (ha1 : (Lit.int .i64 a1).wf = true) (ha2 : (Lit.int .i64 a2).wf = true) : UrlBlanks.f a0 a1 a2 = some true := if_pos ⟨by omega, wrap_of ha1, wrap_of ha2⟩
end Go.Proofs.YtfpjamnilcjnjaaGreatDoor.PD
