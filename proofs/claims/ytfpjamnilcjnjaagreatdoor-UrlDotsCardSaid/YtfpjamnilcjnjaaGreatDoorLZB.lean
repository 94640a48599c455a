import Derived.Test.YtfpjamnilcjnjaaGreatDoorLU
import Derived.Test.YtfpjamnilcjnjaaGreatDoorZG
/-! The law's answer, told to its row. -/
namespace Go.Proofs.YtfpjamnilcjnjaaGreatDoor.PD
open Go Go.Proofs Go.RowKit GoD Go.Proofs.YtfpjamnilcjnjaaGreatDoorW.PrintWords
set_option maxRecDepth 100000
set_option linter.unusedVariables false
def UrlDots.f (x0 : List ByteArray) : Option Bool := if x0.length ≤ 281474976710656 ∧ (∀ s ∈ x0, s.size ≤ 281474976710656) then some true else none
theorem UrlDots.calls (A0 : Option Addr) (c0 : Nat) (x0 : List ByteArray) (r : Bool) (w : World) (hC0 : Kd.string.C w A0 x0.length x0) (hl0 : x0.length ≤ c0) {base : Nat} (hv : Value.okWide Tryz.prog w .any base 39 (.slice A0 x0.length c0)) (hg : GT w) (h : UrlDots.f x0 = some r) : Calls Tryz.prog 7 #[.slice A0 x0.length c0] w fun e w' => e = .returned (.bool r) ∧ Below w.heap.size w w' := by
  unfold UrlDots.f at h
  split at h
  · rename_i h0
    obtain ⟨h0, h1⟩ := h0
    obtain rfl := Option.some.inj h
    obtain ⟨y, hy1, hy2⟩ := slice_arg hg Tryz.underlying39 hv hC0 hl0 h0 h1
    exact law_calls (ok_of (pLawUd_ok _ _ _ _ (by simp only [pLawUdC, strsAt_arg x0]; rw [if_pos (short_arg h1)])) (by kernel_rfl)) (fun i b h => by cases i with | zero => simp at h; subst h; simp | succ i => simp at h) hy1 (.cons hy2 .nil)
  · cases h
theorem UrlDots.holds {x0 : List ByteArray} (h : x0.length * 16 ≤ 140737488351232 ∧ ∀ s ∈ x0, s.size ≤ 140737488351232) : UrlDots.f x0 = some true := if_pos ⟨by omega, fun s hs => Nat.le_trans (h.2 s hs) (by omega)⟩
end Go.Proofs.YtfpjamnilcjnjaaGreatDoor.PD
