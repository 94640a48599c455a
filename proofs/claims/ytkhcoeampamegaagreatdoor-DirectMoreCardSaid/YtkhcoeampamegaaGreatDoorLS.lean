import Derived.Test.YtkhcoeampamegaaGreatDoorLC
import Derived.Test.YtkhcoeampamegaaGreatDoorNM
/-! The law's answer, told to its row. -/
namespace Go.Proofs.YtkhcoeampamegaaGreatDoor.PD
open Go Go.Proofs Go.RowKit GoD Go.Proofs.YtkhcoeampamegaaGreatDoorW.PrintWords
set_option maxRecDepth 100000
def LSSSS.f (x0 : List ByteArray) (a1 a2 a3 a4 : ByteArray) : Option Bool := if x0.length ≤ 281474976710656 ∧ a1.size ≤ 281474976710656 ∧ a2.size ≤ 281474976710656 ∧ a3.size ≤ 281474976710656 ∧ a4.size ≤ 281474976710656 ∧ (∀ s ∈ x0, s.size ≤ 281474976710656) then some true else none
theorem LSSSS.calls {f : FuncId} {C : Ct} {t e : TypeId} (hu : Tryz.prog.underlying t = some (.slice e)) (ok : CtOk Tryz.prog G0 f C) (hC : ∀ h n y l m p k, strsAt h 0 0 n = some y → (∀ p ∈ y, p.length ≤ 281474976710656) → C [.sl 0 0 n 1, .s l, .s m, .s p, .s k] h = some (.b true, h)) (hf : callableB Tryz.prog f = true) (A0 : Option Addr) (c0 : Nat) (x0 : List ByteArray) (a1 a2 a3 a4 : ByteArray) (r : Bool) (w : World) (hC0 : Kd.string.C w A0 x0.length x0) (hl0 : x0.length ≤ c0) {base : Nat} (hv : Value.okWide Tryz.prog w .any base t (.slice A0 x0.length c0)) (h : LSSSS.f x0 a1 a2 a3 a4 = some r) : Calls Tryz.prog f #[.slice A0 x0.length c0, .string a1, .string a2, .string a3, .string a4] w fun e w' => e = .returned (.bool r) ∧ Below w.heap.size w w' := by
  unfold LSSSS.f at h
  split at h
  · rename_i h0
    obtain ⟨h0, h1, h2, h2', h3, h4⟩ := h0
    obtain rfl := Option.some.inj h
    obtain ⟨y, hy1, hy2⟩ := slice_arg hu hv hC0 hl0 h0 h4
    exact law_calls (ok_of (ok _ _ _ _ (hC _ _ _ _ _ _ _ (strsAt_arg x0) (short_arg h4))) hf) (fun i b h => by cases i with | zero => simp at h; subst h; simp | succ i => simp at h) hy1 (.cons hy2 (.cons (R_str h1) (.cons (R_str h2) (.cons (R_str h2') (.cons (R_str h3) .nil)))))
  · cases h
theorem LSSSS.holds {x0 : List ByteArray} {a1 a2 a3 a4 : ByteArray} (h : x0.length * 16 ≤ 140737488351232 ∧ ∀ s ∈ x0, s.size ≤ 140737488351232) (h1 : a1.size ≤ 140737488351232) (h2 : a2.size ≤ 140737488351232) (h2' : a3.size ≤ 140737488351232) (h3 : a4.size ≤ 140737488351232) : LSSSS.f x0 a1 a2 a3 a4 = some true := if_pos ⟨by omega, by omega, by omega, by omega, by omega, fun s hs => Nat.le_trans (h.2 s hs) (by omega)⟩
def DirectMore.f := LSSSS.f
theorem DirectMore.calls (A0 : Option Addr) (c0 : Nat) (x0 : List ByteArray) (a1 a2 a3 a4 : ByteArray) (r : Bool) (w : World) (hC0 : Kd.string.C w A0 x0.length x0) (hl0 : x0.length ≤ c0) {base : Nat} (hv : Value.okWide Tryz.prog w .any base 25 (.slice A0 x0.length c0)) (h : DirectMore.f x0 a1 a2 a3 a4 = some r) : Calls Tryz.prog 8 #[.slice A0 x0.length c0, .string a1, .string a2, .string a3, .string a4] w fun e w' => e = .returned (.bool r) ∧ Below w.heap.size w w' :=
  LSSSS.calls (t := 25) (e := 9) Tryz.underlying25 pLaw16m_ok (fun h n y l m p k h1 h2 => by simp only [pLaw16mC, h1, if_pos h2]) (by kernel_rfl) A0 c0 x0 a1 a2 a3 a4 r w hC0 hl0 hv h
end Go.Proofs.YtkhcoeampamegaaGreatDoor.PD
