import Derived.Test.YtffoolaocbgknaaGreatDoorEJ
/-! Schemes, hosts, ports, paths of sources as the document matches them. -/
namespace GoD
open Go Go.Proofs
set_option linter.unusedVariables false
set_option linter.unusedSimpArgs false
set_option maxHeartbeats 4000000
set_option maxRecDepth 100000
def schemeB (a b : List Int) : Bool := decide (a = b) || (decide (a = [104, 116, 116, 112]) && decide (b = [104, 116, 116, 112, 115])) || (decide (a = [119, 115]) && (decide (b = [119, 115, 115]) || decide (b = [104, 116, 116, 112]) || decide (b = [104, 116, 116, 112, 115]))) || (decide (a = [119, 115, 115]) && decide (b = [104, 116, 116, 112, 115]))
def rSchemeMatchC : Ct := fun args h => match args with | [.s a, .s b] => some (.b (schemeB a b), h) | _ => none
theorem rSchemeMatch_ok : CtOk Tryz.prog G0 14 rSchemeMatchC := by
  refine ct_plain (n := 2) fol sound_nil (by kernel_rfl) Tryz.func14 rfl fun args h v h' hc r xs H hr hx => ?_
  unfold rSchemeMatchC at hc; split at hc <;> (try split at hc) <;> cases hc
  rename_i a b
  refine ⟨rfl, rfl, by simp [renV, bndV, renL, bndL], ?_⟩
  by_cases h1 : a = b
  · simp -implicitDefEqProofs [go_sem, Tryz.f14, h1, schemeB]
  by_cases h2 : a = [104, 116, 116, 112]
  · by_cases h6 : b = [104, 116, 116, 112, 115]
    · simp -implicitDefEqProofs [go_sem, Tryz.f14, h2, h6, schemeB]
    · have h1' : ¬ [104, 116, 116, 112] = b := h2 ▸ h1
      simp -implicitDefEqProofs [go_sem, Tryz.f14, h2, h6, h1', schemeB]
  by_cases h3 : a = [119, 115]
  · have h1' : ¬ [119, 115] = b := h3 ▸ h1
    by_cases h5 : b = [119, 115, 115]
    · simp -implicitDefEqProofs [go_sem, Tryz.f14, h3, h5, schemeB]
    · by_cases h7 : b = [104, 116, 116, 112]
      · simp -implicitDefEqProofs [go_sem, Tryz.f14, h3, h7, schemeB]
      · by_cases h6 : b = [104, 116, 116, 112, 115] <;> simp -implicitDefEqProofs [go_sem, Tryz.f14, h3, h1', h5, h6, h7, schemeB]
  by_cases h4 : a = [119, 115, 115]
  · have h1' : ¬ [119, 115, 115] = b := h4 ▸ h1
    by_cases h6 : b = [104, 116, 116, 112, 115] <;> simp -implicitDefEqProofs [go_sem, Tryz.f14, h4, h1', h6, schemeB]
  · simp -implicitDefEqProofs [go_sem, Tryz.f14, h1, h2, h3, h4, schemeB]
def starB (p : List Int) : Bool := decide (p.take 2 = [42, 46])
def hostB (p l : List Int) : Bool := if l = [] then false else if p = [42] then true else if starB p = true then (addrL l).isNone && decide (p.length ≤ l.length) && endsL l (p.drop 1) else decide (p = l) && ((addrL l).isNone || decide (l = [49, 50, 55, 46, 48, 46, 48, 46, 49]))
theorem okV_2 (o : Option Int) : (okV o).2 = !o.isNone := by cases o <;> rfl
def rHostMatchC : Ct := fun args h => match args with | [.s p, .s l] => if l.length ≤ 1048576 then some (.b (hostB p l), h) else none | _ => none
theorem rHostMatch_ok : CtOk Tryz.prog G0 16 rHostMatchC := by
  refine ct_plain (n := 2) fol (sound_cons rIsAddress_ok (sound_cons rEnds_ok sound_nil)) (by kernel_rfl) Tryz.func16 rfl fun args h v h' hc r xs H hr hx => ?_
  unfold rHostMatchC at hc; split at hc <;> (try split at hc) <;> cases hc
  rename_i p l hl
  obtain ⟨⟨hs, hpl⟩, _⟩ := str_of hx
  refine ⟨rfl, rfl, by simp [renV, bndV, renL, bndL], ?_⟩
  by_cases h1 : l = []
  · simp -implicitDefEqProofs [go_sem, Tryz.f16, rIsAddressC, hl, h1, hostB]
  by_cases h2 : p = [42]
  · simp -implicitDefEqProofs [go_sem, Tryz.f16, rIsAddressC, hl, h1, h2, hostB]
  by_cases h3 : 2 ≤ p.length
  · have h3' : (2 : Int) ≤ p.length := by omega
    by_cases h4 : p.take 2 = [42, 46]
    · cases ha : (addrL l).isNone with
      | false => simp -implicitDefEqProofs [go_sem, Tryz.f16, rIsAddressC, hl, h1, h2, h3, h3', h4, hostB, starB, okV_2, ha]
      | true =>
        have w := w64 (x := (p.length : Int) - 1) (by omega)
        by_cases h5 : p.length ≤ l.length
        · have h5' : (p.length : Int) - 1 < l.length := by omega
          have h6 : (1 : Int) ≤ p.length := by omega
          simp -implicitDefEqProofs [go_sem, Tryz.f16, rIsAddressC, rEndsC, hl, h1, h2, h3, h3', h4, h5, h5', h6, hostB, starB, okV_2, ha, w]
        · have h5' : ¬ (p.length : Int) - 1 < l.length := by omega
          simp -implicitDefEqProofs [go_sem, Tryz.f16, rIsAddressC, rEndsC, hl, h1, h2, h3, h3', h4, h5, h5', hostB, starB, okV_2, ha, w]
    · by_cases h5 : p = l
      · subst h5
        cases ha : (addrL p).isNone with
        | true => simp -implicitDefEqProofs [go_sem, Tryz.f16, rIsAddressC, hl, h1, h2, h3, h3', h4, hostB, starB, okV_2, ha]
        | false => simp -implicitDefEqProofs [go_sem, Tryz.f16, rIsAddressC, hl, h1, h2, h3, h3', h4, hostB, starB, okV_2, ha]
      · simp -implicitDefEqProofs [go_sem, Tryz.f16, rIsAddressC, hl, h1, h2, h3, h3', h4, h5, hostB, starB, okV_2]
  · have h3' : ¬ (2 : Int) ≤ p.length := by omega
    have h4 : ¬ p.take 2 = [42, 46] := fun e => by have := congrArg List.length e; simp at this; omega
    by_cases h5 : p = l
    · subst h5
      cases ha : (addrL p).isNone with
      | true => simp -implicitDefEqProofs [go_sem, Tryz.f16, rIsAddressC, hl, h1, h2, h3, h3', h4, hostB, starB, okV_2, ha]
      | false => simp -implicitDefEqProofs [go_sem, Tryz.f16, rIsAddressC, hl, h1, h2, h3, h3', h4, hostB, starB, okV_2, ha]
    · simp -implicitDefEqProofs [go_sem, Tryz.f16, rIsAddressC, hl, h1, h2, h3, h3', h4, h5, hostB, starB, okV_2]
end GoD
