import Derived.Test.YtbiijfgimoelkaaGreatDoorOP
import Derived.Test.YtbiijfgimoelkaaGreatDoorPG
import Derived.Test.YtbiijfgimoelkaaGreatDoorEN
import Derived.Test.YtbiijfgimoelkaaGreatDoorVP
/-! Chapter 12: Origins on both sides. -/
namespace GoD
open Go Go.Proofs
set_option linter.unusedVariables false
set_option linter.unusedSimpArgs false
set_option maxHeartbeats 8000000
set_option maxRecDepth 100000
def locT : List Int := [108, 111, 99, 97, 108, 104, 111, 115, 116]
def dlocT : List Int := [46, 108, 111, 99, 97, 108, 104, 111, 115, 116]
def trustB (s l : List Int) : Bool := decide (s ∈ [[104, 116, 116, 112, 115], [119, 115, 115]]) || ((okV (addrL l)).2 && decide ((okV (addrL l)).1 / 16777216 = 127)) || decide (l = [108, 111, 99, 97, 108, 104, 111, 115, 116]) || endsL l [46, 108, 111, 99, 97, 108, 104, 111, 115, 116]
def pTrustC : Ct := fun args h => match args with | [.agg [.s s, .s l, .i .i64 p]] => if l.length ≤ 1048576 then some (.b (trustB s l), h) else none | _ => none
theorem pTrust_ok : CtOk Tryz.prog G0 17 pTrustC := by
  refine ct_plain (n := 1) fol (sound_cons pAny_ok (sound_cons pAddress_ok (sound_cons pHasSuf_ok sound_nil))) (by kernel_rfl) Tryz.func17 rfl fun args h v h' hc r xs H hr hx => ?_
  unfold pTrustC at hc; split at hc <;> (try split at hc) <;> cases hc
  rename_i s l p hl
  refine ⟨rfl, rfl, by simp [renV, bndV, renL, bndL], ?_⟩
  by_cases c1 : s ∈ [[104, 116, 116, 112, 115], [119, 115, 115]]
  · simp -implicitDefEqProofs [go_sem, Tryz.f17, pAnyC, strsAt, strsV, hget_new, trustB, c1, -List.mem_cons]
  · obtain ⟨⟨v, b⟩, hv⟩ : ∃ x, okV (addrL l) = x := ⟨_, rfl⟩
    have hE : trustB s l = ((b && decide (v / 16777216 = 127)) || decide (l = [108, 111, 99, 97, 108, 104, 111, 115, 116]) || endsL l [46, 108, 111, 99, 97, 108, 104, 111, 115, 116]) := by unfold trustB; rw [decide_eq_false c1, hv]; simp
    rw [hE]
    clear hE
    cases b with
    | true =>
      by_cases c2 : v / 16777216 = 127
      · simp -implicitDefEqProofs [go_sem, Tryz.f17, pAnyC, pAddressC, pHasSufC, strsAt, strsV, hget_new, c1, hl, hv, eq_true c2, -List.mem_cons]
      · by_cases c3 : l = [108, 111, 99, 97, 108, 104, 111, 115, 116]
        · simp -implicitDefEqProofs [go_sem, Tryz.f17, pAnyC, pAddressC, pHasSufC, strsAt, strsV, hget_new, c1, hl, hv, c2, eq_true c3, -List.mem_cons]
        · simp -implicitDefEqProofs [go_sem, Tryz.f17, pAnyC, pAddressC, pHasSufC, strsAt, strsV, hget_new, c1, hl, hv, c2, c3, -List.mem_cons]
    | false =>
      by_cases c3 : l = [108, 111, 99, 97, 108, 104, 111, 115, 116]
      · simp -implicitDefEqProofs [go_sem, Tryz.f17, pAnyC, pAddressC, pHasSufC, strsAt, strsV, hget_new, c1, hl, hv, eq_true c3, -List.mem_cons]
      · simp -implicitDefEqProofs [go_sem, Tryz.f17, pAnyC, pAddressC, pHasSufC, strsAt, strsV, hget_new, c1, hl, hv, c3, -List.mem_cons]
def pSecureC : Ct := fun args h => match args with | [.agg [.s a, .s b, .s c, .s d, .i .i64 p, .s e, .b q, .s f, .b g, .s k]] => if d.length ≤ 1048576 then some (.b (trustB a d), h) else none | _ => none
theorem pSecure_ok : CtOk Tryz.prog G0 23 pSecureC := by
  refine ct_plain (n := 1) fol (sound_cons pOf_ok (sound_cons pTrust_ok sound_nil)) (by kernel_rfl) Tryz.func23 rfl fun args h v h' hc r xs H hr hx => ?_
  unfold pSecureC at hc; split at hc <;> (try split at hc) <;> cases hc
  rename_i a b c d p e q f g k hl
  refine ⟨rfl, rfl, by simp [renV, bndV, renL, bndL], ?_⟩
  simp -implicitDefEqProofs [go_sem, Tryz.f23, pOfC, pTrustC, hl]
def orgOkB (a b : List Int) (p : Int) : Bool := decide (0 ≤ p) && decide (p ≤ 65535) && decide (a.length + b.length ≤ 1000)
def pOrgOkC : Ct := fun args h => match args with | [.agg [.s a, .s b, .i .i64 p]] => if a.length ≤ 281474976710656 ∧ b.length ≤ 281474976710656 then some (.b (orgOkB a b p), h) else none | _ => none
theorem pOrgOk_ok : CtOk Tryz.prog G0 9 pOrgOkC := by
  refine ct_plain (n := 1) fol sound_nil (by kernel_rfl) Tryz.func9 rfl fun args h v h' hc r xs H hr hx => ?_
  unfold pOrgOkC at hc; split at hc <;> (try split at hc) <;> cases hc
  rename_i a b p hl
  refine ⟨rfl, rfl, by simp [renV, bndV, renL, bndL], ?_⟩
  have w := w64 (x := (a.length : Int) + b.length) (by omega)
  by_cases c1 : 0 ≤ p
  · by_cases c2 : p ≤ 65535
    · by_cases c3 : a.length + b.length ≤ 1000
      · have c3' : (a.length : Int) + b.length ≤ 1000 := by omega
        simp -implicitDefEqProofs [go_sem, Tryz.f9, c1, c2, c3, c3', w, orgOkB]
      · have c3' : ¬ (a.length : Int) + b.length ≤ 1000 := by omega
        simp -implicitDefEqProofs [go_sem, Tryz.f9, c1, c2, c3, c3', w, orgOkB]
    · simp -implicitDefEqProofs [go_sem, Tryz.f9, c1, c2, orgOkB]
  · simp -implicitDefEqProofs [go_sem, Tryz.f9, c1, orgOkB]
def orgT (a b : List Int) (p : Int) : List Int := if oNull a b p = true then [110, 117, 108, 108] else a ++ [58, 47, 47] ++ b ++ (if (defaultL a).2 = true ∧ (defaultL a).1 = p then [] else 58 :: decI p)
def pOTextC : Ct := fun args h => match args with | [.agg [.s a, .s b, .i .i64 p]] => if a.length + b.length ≤ 1000000 ∧ 0 ≤ p ∧ p ≤ 65535 then some (.s (orgT a b p), h) else none | _ => none
theorem pOText_ok : CtOk Tryz.prog G0 12 pOTextC := by
  refine ct_plain (n := 1) fol (sound_cons pDefault_ok (sound_cons pDecimal_ok sound_nil)) (by kernel_rfl) Tryz.func12 rfl fun args h v h' hc r xs H hr hx => ?_
  unfold pOTextC at hc; split at hc <;> (try split at hc) <;> cases hc
  rename_i a b p hs
  obtain ⟨hs, hp1, hp2⟩ := hs
  refine ⟨rfl, rfl, by simp [renV, bndV], ?_⟩
  have zz := oNull_eq a b p
  obtain ⟨R, hR⟩ : ∃ x, orgT a b p = x := ⟨_, rfl⟩
  rw [hR]
  unfold orgT at hR
  have k1 : a.length + 3 ≤ 281474976710656 := by omega
  have k2 : a.length + (b.length + 3) ≤ 281474976710656 := by omega
  have k3 : a.length + 3 + b.length ≤ 281474976710656 := by omega
  have k3' : a.length + (b.length + 1 + 1 + 1) ≤ 281474976710656 := by omega
  cases h0 : oNull a b p with
  | true =>
    rw [h0, if_pos rfl] at hR
    simp -implicitDefEqProofs [go_sem, Tryz.f12, zz, h0, ← hR]
  | false =>
    rw [h0, if_neg (by simp)] at hR
    obtain ⟨D, hD⟩ : ∃ x, decI p = x := ⟨_, rfl⟩
    have lD : D.length ≤ 10 := hD ▸ decI_len ⟨by omega, hp2⟩
    have hD' : decD p.toNat = D := by rw [← hD, decI, if_neg (by omega)]
    have k4 : D.length + 1 ≤ 281474976710656 := by omega
    have k5 : 1 + D.length ≤ 281474976710656 := by omega
    have k6 : a.length + (b.length + 1 + 1 + 1) + (D.length + 1) ≤ 281474976710656 := by omega
    have k7 : a.length + (b.length + 1 + 1 + 1) + 1 ≤ 281474976710656 := by omega
    have k8 : a.length + (b.length + 1 + 1 + 1 + 1) + D.length ≤ 281474976710656 := by omega
    have k9 : a.length + (b.length + 1 + 1 + 1 + 1 + D.length) ≤ 281474976710656 := by omega
    have k10 : a.length + (b.length + (D.length + 1) + 1 + 1 + 1) ≤ 281474976710656 := by omega
    have k11 : a.length + (b.length + 1 + 1 + 1 + 1) ≤ 281474976710656 := by omega
    cases h1 : (defaultL a).2 with
    | false =>
      rw [h1, if_neg (by simp), hD] at hR
      simp -implicitDefEqProofs [go_sem, Tryz.f12, zz, h0, pDefaultC, pDecimalC, h1, hp1, hD, hD', k1, k2, k3, k3', k4, k5, k6, k7, k8, k9, k10, k11, ← hR]
    | true =>
      by_cases h2 : (defaultL a).1 = p
      · rw [h1, if_pos ⟨rfl, h2⟩] at hR
        simp -implicitDefEqProofs [go_sem, Tryz.f12, zz, h0, pDefaultC, pDecimalC, h1, eq_true h2, k1, k2, k3, k3', ← hR]
      · rw [if_neg (fun x => h2 x.2), hD] at hR
        simp -implicitDefEqProofs [go_sem, Tryz.f12, zz, h0, pDefaultC, pDecimalC, h1, h2, hp1, hD, hD', k1, k2, k3, k3', k4, k5, k6, k7, k8, k9, k10, k11, ← hR]
def rOTextC : Ct := fun args h => match args with | [.agg [.s a, .s b, .i .i64 p]] => if a.length + b.length ≤ 1000000 ∧ 0 ≤ p ∧ p ≤ 65535 then some (.s (orgT a b p), h) else none | _ => none
theorem rOText_ok : CtOk Tryz.prog G0 13 rOTextC := by
  refine ct_plain (n := 1) fol (sound_cons rDefault_ok (sound_cons rDecimal_ok sound_nil)) (by kernel_rfl) Tryz.func13 rfl fun args h v h' hc r xs H hr hx => ?_
  unfold rOTextC at hc; split at hc <;> (try split at hc) <;> cases hc
  rename_i a b p hs
  obtain ⟨hs, hp1, hp2⟩ := hs
  refine ⟨rfl, rfl, by simp [renV, bndV], ?_⟩
  have zz := oNull_eq a b p
  obtain ⟨R, hR⟩ : ∃ x, orgT a b p = x := ⟨_, rfl⟩
  rw [hR]
  unfold orgT at hR
  have k1 : a.length + 3 ≤ 281474976710656 := by omega
  have k2 : a.length + (b.length + 3) ≤ 281474976710656 := by omega
  have k3 : a.length + 3 + b.length ≤ 281474976710656 := by omega
  have k3' : a.length + (b.length + 1 + 1 + 1) ≤ 281474976710656 := by omega
  cases h0 : oNull a b p with
  | true =>
    rw [h0, if_pos rfl] at hR
    simp -implicitDefEqProofs [go_sem, Tryz.f13, zz, h0, ← hR]
  | false =>
    rw [h0, if_neg (by simp)] at hR
    obtain ⟨D, hD⟩ : ∃ x, decI p = x := ⟨_, rfl⟩
    have lD : D.length ≤ 10 := hD ▸ decI_len ⟨by omega, hp2⟩
    have hD' : decD p.toNat = D := by rw [← hD, decI, if_neg (by omega)]
    have k4 : D.length + 1 ≤ 281474976710656 := by omega
    have k5 : 1 + D.length ≤ 281474976710656 := by omega
    have k6 : a.length + (b.length + 1 + 1 + 1) + (D.length + 1) ≤ 281474976710656 := by omega
    have k7 : a.length + (b.length + 1 + 1 + 1) + 1 ≤ 281474976710656 := by omega
    have k8 : a.length + (b.length + 1 + 1 + 1 + 1) + D.length ≤ 281474976710656 := by omega
    have k9 : a.length + (b.length + 1 + 1 + 1 + 1 + D.length) ≤ 281474976710656 := by omega
    have k10 : a.length + (b.length + (D.length + 1) + 1 + 1 + 1) ≤ 281474976710656 := by omega
    have k11 : a.length + (b.length + 1 + 1 + 1 + 1) ≤ 281474976710656 := by omega
    cases h1 : (defaultL a).2 with
    | false =>
      rw [h1, if_neg (by simp), hD] at hR
      simp -implicitDefEqProofs [go_sem, Tryz.f13, zz, h0, rDefaultC, rDecimalC, h1, hp1, hD, hD', k1, k2, k3, k3', k4, k5, k6, k7, k8, k9, k10, k11, ← hR]
    | true =>
      by_cases h2 : (defaultL a).1 = p
      · rw [h1, if_pos ⟨rfl, h2⟩] at hR
        simp -implicitDefEqProofs [go_sem, Tryz.f13, zz, h0, rDefaultC, rDecimalC, h1, eq_true h2, k1, k2, k3, k3', ← hR]
      · rw [if_neg (fun x => h2 x.2), hD] at hR
        simp -implicitDefEqProofs [go_sem, Tryz.f13, zz, h0, rDefaultC, rDecimalC, h1, h2, hp1, hD, hD', k1, k2, k3, k3', k4, k5, k6, k7, k8, k9, k10, k11, ← hR]
theorem trust_nil : trustB [] [] = false := by kernel_rfl
def rTrustC : Ct := fun args h => match args with | [.agg [.s s, .s l, .i .i64 p]] => if l.length ≤ 1048576 then some (.b (trustB s l), h) else none | _ => none
theorem rTrust_ok : CtOk Tryz.prog G0 22 rTrustC := by
  refine ct_plain (n := 1) fol (sound_cons rIsAddress_ok (sound_cons rEnds_ok sound_nil)) (by kernel_rfl) Tryz.func22 rfl fun args h v h' hc r xs H hr hx => ?_
  unfold rTrustC at hc; split at hc <;> (try split at hc) <;> cases hc
  rename_i s l p hl
  refine ⟨rfl, rfl, by simp [renV, bndV, renL, bndL], ?_⟩
  have zz := oNull_eq s l p
  cases h0 : oNull s l p with
  | true =>
    have h1 := h0
    unfold oNull at h1
    simp only [Bool.and_eq_true, decide_eq_true_eq] at h1
    have hE : trustB s l = false := by rw [h1.1.1, h1.1.2]; exact trust_nil
    rw [hE]
    simp -implicitDefEqProofs [go_sem, Tryz.f22, zz, h0]
  | false =>
    obtain ⟨⟨v, b⟩, hv⟩ : ∃ x, okV (addrL l) = x := ⟨_, rfl⟩
    by_cases c1 : s = [104, 116, 116, 112, 115]
    · have hE : trustB s l = true := by unfold trustB; rw [decide_eq_true (by rw [c1]; simp)]; rfl
      rw [hE]
      simp -implicitDefEqProofs [go_sem, Tryz.f22, zz, h0, rIsAddressC, hl, hv, eq_true c1]
    · by_cases c0 : s = [119, 115, 115]
      · have hE : trustB s l = true := by unfold trustB; rw [decide_eq_true (by rw [c0]; simp)]; rfl
        rw [hE]
        simp -implicitDefEqProofs [go_sem, Tryz.f22, zz, h0, rIsAddressC, hl, hv, c1, eq_true c0]
      · have hE : trustB s l = ((b && decide (v / 16777216 = 127)) || decide (l = [108, 111, 99, 97, 108, 104, 111, 115, 116]) || endsL l [46, 108, 111, 99, 97, 108, 104, 111, 115, 116]) := by unfold trustB; rw [decide_eq_false (by simp [c1, c0]), hv]; simp
        rw [hE]
        clear hE
        cases b with
        | true =>
          by_cases c2 : v / 16777216 = 127
          · simp -implicitDefEqProofs [go_sem, Tryz.f22, zz, h0, rIsAddressC, rEndsC, hl, hv, c1, c0, eq_true c2]
          · by_cases c3 : l = [108, 111, 99, 97, 108, 104, 111, 115, 116]
            · simp -implicitDefEqProofs [go_sem, Tryz.f22, zz, h0, rIsAddressC, rEndsC, hl, hv, c1, c0, c2, eq_true c3]
            · simp -implicitDefEqProofs [go_sem, Tryz.f22, zz, h0, rIsAddressC, rEndsC, hl, hv, c1, c0, c2, c3]
        | false =>
          by_cases c3 : l = [108, 111, 99, 97, 108, 104, 111, 115, 116]
          · simp -implicitDefEqProofs [go_sem, Tryz.f22, zz, h0, rIsAddressC, rEndsC, hl, hv, c1, c0, eq_true c3]
          · simp -implicitDefEqProofs [go_sem, Tryz.f22, zz, h0, rIsAddressC, rEndsC, hl, hv, c1, c0, c3]
def rSecureC : Ct := fun args h => match args with | [.agg [.s a, .s b, .s c, .s d, .i .i64 p, .s e, .b q, .s f, .b g, .s k]] => if d.length ≤ 1048576 then some (.b (trustB a d), h) else none | _ => none
theorem rSecure_ok : CtOk Tryz.prog G0 24 rSecureC := by
  refine ct_plain (n := 1) fol (sound_cons rOf_ok (sound_cons rTrust_ok sound_nil)) (by kernel_rfl) Tryz.func24 rfl fun args h v h' hc r xs H hr hx => ?_
  unfold rSecureC at hc; split at hc <;> (try split at hc) <;> cases hc
  rename_i a b c d p e q f g k hl
  refine ⟨rfl, rfl, by simp [renV, bndV, renL, bndL], ?_⟩
  simp -implicitDefEqProofs [go_sem, Tryz.f24, rOfC, rTrustC, hl]
def ofAns : Option Url → V
  | none => .tup [.agg [.s [], .s [], .i .i64 0], .b false]
  | some u => .tup [.agg [.s u.sch, .s u.ho, .i .i64 (portL u.sch u.po)], .b true]
theorem ofAns_flat (o : Option Url) (m : Nat) : renV id (ofAns o) = ofAns o ∧ bndV m (ofAns o) := by cases o <;> simp [ofAns, renV, bndV, renL, bndL]
def pOf12C : Ct := fun args h => match args with | [.s l] => some (ofAns (parseU l), h) | _ => none
theorem pOf12_ok : CtOk Tryz.prog G0 27 pOf12C := by
  refine ct_plain (n := 1) fol (sound_cons pUParse_ok (sound_cons pOf_ok sound_nil)) (by kernel_rfl) Tryz.func27 rfl fun args h v h' hc r xs H hr hx => ?_
  unfold pOf12C at hc; split at hc <;> (try split at hc) <;> cases hc
  rename_i l
  refine ⟨rfl, rfl, ofAns_flat _ _, ?_⟩
  cases hu : parseU l with
  | none => simp -implicitDefEqProofs [go_sem, Tryz.f27, pUParseC, pOfC, hu, urlAns_none, ofAns, portL]
  | some u => simp -implicitDefEqProofs [go_sem, Tryz.f27, pUParseC, pOfC, hu, urlAns_some, ofAns]
def aw3 : List Int := [104, 116, 116, 112, 115, 58, 47, 47, 97, 58, 52, 52, 51, 47, 120]
def aw4 : List Int := [104, 116, 116, 112, 58, 47, 47, 49, 50, 55, 46, 57, 46, 57, 46, 57]
theorem aw3_eq : parseU aw3 = some ⟨[104, 116, 116, 112, 115], [], [], [97], -1, [47, 120], false, [], false, []⟩ := by kernel_rfl
theorem aw4_eq : parseU aw4 = some ⟨[104, 116, 116, 112], [], [], [49, 50, 55, 46, 57, 46, 57, 46, 57], -1, [47], false, [], false, []⟩ := by kernel_rfl
def pAwakeOC : Ct := fun args h => match args with | [] => some (.b true, h) | _ => none
theorem pAwakeO_ok : CtOk Tryz.prog G0 11 pAwakeOC := by
  refine ct_plain (n := 0) fol (sound_cons pOf12_ok (sound_cons pOText_ok (sound_cons pTrust_ok sound_nil))) (by kernel_rfl) Tryz.func11 rfl fun args h v h' hc r xs H hr hx => ?_
  unfold pAwakeOC at hc; split at hc <;> (try split at hc) <;> cases hc
  refine ⟨rfl, rfl, by simp [renV, bndV], ?_⟩
  have e1 := aw3_eq
  have e2 := aw4_eq
  unfold aw3 at e1
  unfold aw4 at e2
  have e3 : orgT [104, 116, 116, 112, 115] [97] 443 = [104, 116, 116, 112, 115, 58, 47, 47, 97] := by kernel_rfl
  have e4 : trustB [104, 116, 116, 112] [49, 50, 55, 46, 57, 46, 57, 46, 57] = true := by kernel_rfl
  have e5 : orgT [] [] 0 = [110, 117, 108, 108] := by kernel_rfl
  have e6 : portL [104, 116, 116, 112, 115] (-1) = 443 := by decide
  have e7 : portL [104, 116, 116, 112] (-1) = 80 := by decide
  simp -implicitDefEqProofs [go_sem, Tryz.f11, pOf12C, pOTextC, pTrustC, ofAns, e1, e2, e3, e4, e5, e6, e7]
end GoD

/-! Chapter 12's simpler laws. -/
namespace GoD
open Go Go.Proofs
set_option linter.unusedVariables false
set_option linter.unusedSimpArgs false
set_option maxHeartbeats 8000000
set_option maxRecDepth 100000
def roundI (k n : Int) : Int := if k.tmod n < 0 then k.tmod n + n else k.tmod n
theorem roundI_le {k n : Int} (h : 0 < n) : 0 ≤ roundI k n ∧ roundI k n < n := by
  have h1 := Int.tmod_lt_of_pos k h
  have h2 : -n < k.tmod n := Int.neg_lt_of_neg_lt (by rw [← Int.neg_tmod]; exact Int.tmod_lt_of_pos _ h)
  unfold roundI
  split <;> omega
def pRoundC : Ct := fun args h => match args with | [.i .i64 k, .i .i64 n] => if 0 < n ∧ n ≤ 1000000 then some (.i .i64 (roundI k n), h) else none | _ => none
theorem pRound_ok : CtOk Tryz.prog G0 16 pRoundC := by
  refine ct_plain (n := 2) fol sound_nil (by kernel_rfl) Tryz.func16 rfl fun args h v h' hc r xs H hr hx => ?_
  unfold pRoundC at hc; split at hc <;> (try split at hc) <;> cases hc
  rename_i k n hn
  have hn0 : ¬ n = 0 := by omega
  have h1 := Int.tmod_lt_of_pos k hn.1
  have h2 : -n < k.tmod n := Int.neg_lt_of_neg_lt (by rw [← Int.neg_tmod]; exact Int.tmod_lt_of_pos _ hn.1)
  refine ⟨rfl, rfl, by simp [renV, bndV], ?_⟩
  by_cases c1 : k.tmod n < 0
  · simp -implicitDefEqProofs [go_sem, Tryz.f16, hn0, c1, roundI, w64 (x := k.tmod n + n) (by omega)]
  · simp -implicitDefEqProofs [go_sem, Tryz.f16, hn0, c1, roundI]
theorem agg3 {r : List (Option Loc)} {a b : List Int} {p : Int} {x : V} {xs : List Value} {l : List V} (hx : RL r (V.agg [.s a, .s b, .i .i64 p] :: l) xs) : a.length ≤ 281474976710656 ∧ b.length ≤ 281474976710656 ∧ ∃ ys, RL r l ys := by
  cases hx with | cons h1 h2 =>
  cases h1 with | agg _ ys h3 =>
  have h := fun (i : Nat) (l : List Int) (hi : ([.s a, .s b, .i .i64 p] : List V)[i]? = some (.s l)) => show l.length ≤ 281474976710656 by
    obtain ⟨x, _, hr⟩ := h3.get? hi
    cases hr with | s _ hl => exact hl.2
  exact ⟨h 0 a rfl, h 1 b rfl, _, h2⟩
theorem orgOk_sum {a b : List Int} {p : Int} (h : orgOkB a b p = true) : a.length + b.length ≤ 1000 ∧ 0 ≤ p ∧ p ≤ 65535 := by
  unfold orgOkB at h
  simp only [Bool.and_eq_true, decide_eq_true_eq] at h
  omega
def pLawOtC : Ct := fun args h => match args with | [.agg [.s oa, .s ob, .i .i64 op], .agg [.s a, .s b, .s c, .s d, .i .i64 p, .s e, .b q, .s f, .b g, .s k]] => some (.b true, h) | _ => none
theorem pLawOt_ok : CtOk Tryz.prog G0 3 pLawOtC := by
  refine ct_plain (n := 2) fol (sound_cons pAwakeO_ok (sound_cons pOrgOk_ok (sound_cons pAUrl_ok (sound_cons pOText_ok (sound_cons rOText_ok (sound_cons pOf_ok (sound_cons rOf_ok sound_nil))))))) (by kernel_rfl) Tryz.func3 rfl fun args h v h' hc r xs H hr hx => ?_
  unfold pLawOtC at hc; split at hc <;> (try split at hc) <;> cases hc
  rename_i oa ob op a b c d p e q f g k
  obtain ⟨h1, h2, _⟩ := agg3 (x := .junk) hx
  refine ⟨rfl, rfl, by simp [renV, bndV], ?_⟩
  cases ho : orgOkB oa ob op with
  | false => simp -implicitDefEqProofs [go_sem, Tryz.f3, pAwakeOC, pOrgOkC, h1, h2, ho]
  | true =>
    have hs := orgOk_sum ho
    cases hu : urlOkB ⟨a, b, c, d, p, e, q, f, g, k⟩ with
    | false => simp -implicitDefEqProofs [go_sem, Tryz.f3, pAwakeOC, pOrgOkC, pAUrlC, h1, h2, ho, hu]
    | true => simp -implicitDefEqProofs [go_sem, Tryz.f3, pAwakeOC, pOrgOkC, pAUrlC, pOTextC, rOTextC, pOfC, rOfC, h1, h2, ho, hu, show oa.length + ob.length ≤ 1000000 by omega, hs.2.1, hs.2.2]
def schA : List (List Int) := [[104, 116, 116, 112], [104, 116, 116, 112, 115], [119, 115], [119, 115, 115], [102, 116, 112]]
def hosA : List (List Int) := [[97], [108, 111, 99, 97, 108, 104, 111, 115, 116], [120, 46, 108, 111, 99, 97, 108, 104, 111, 115, 116], [120, 108, 111, 99, 97, 108, 104, 111, 115, 116], [49, 50, 55, 46, 48, 46, 48, 46, 49], [49, 50, 55, 46, 50, 53, 53, 46, 50, 53, 53, 46, 50, 53, 53], [49, 50, 56, 46, 48, 46, 48, 46, 49], [108, 111, 99, 97, 108, 104, 111, 115, 116, 46, 97], [49, 48, 46, 49, 50, 55, 46, 48, 46, 49]]
theorem kinds_tab : ∀ s ∈ schA, ∀ h ∈ hosA, trustB s h = (decide (s = [104, 116, 116, 112, 115]) || decide (s = [119, 115, 115]) || (decide (h = [108, 111, 99, 97, 108, 104, 111, 115, 116]) || decide (h = [120, 46, 108, 111, 99, 97, 108, 104, 111, 115, 116]) || decide (h = [49, 50, 55, 46, 48, 46, 48, 46, 49]) || decide (h = [49, 50, 55, 46, 50, 53, 53, 46, 50, 53, 53, 46, 50, 53, 53]))) := by decide +kernel
theorem pick_at (A : List (List Int)) (i : Nat) (h : i < A.length) : ∃ s, s ∈ A ∧ s.length ≤ A.flatten.length ∧ ldN (A.map V.s) i 1 = some [.s s] := by
  refine ⟨A[i], List.getElem_mem h, ?_, ?_⟩
  · have : ∀ (A : List (List Int)) s, s ∈ A → s.length ≤ A.flatten.length := by
      intro A
      induction A with
      | nil => intro s hs; cases hs
      | cons a t ih =>
        intro s hs
        rw [List.flatten_cons, List.length_append]
        rcases List.mem_cons.1 hs with rfl | hs
        · omega
        · have := ih s hs; omega
    exact this A _ (List.getElem_mem h)
  · rw [ldN, if_pos (by rw [List.length_map]; omega), List.drop_eq_getElem_cons (by rw [List.length_map]; exact h)]
    simp
def pLawOkC : Ct := fun args h => match args with | [.i .i64 k, .i .i64 w, .i .i64 p] => some (.b true, h) | _ => none
theorem pLawOk_ok : CtOk Tryz.prog G0 4 pLawOkC := by
  refine ct_plain (n := 3) fol (sound_cons pAwakeO_ok (sound_cons pRound_ok (sound_cons pTrust_ok sound_nil))) (by kernel_rfl) Tryz.func4 rfl fun args h v h' hc r xs H hr hx => ?_
  unfold pLawOkC at hc; split at hc <;> (try split at hc) <;> cases hc
  rename_i k w p
  refine ⟨rfl, rfl, by simp [renV, bndV], ?_⟩
  by_cases c1 : p < 0
  · simp -implicitDefEqProofs [go_sem, Tryz.f4, pAwakeOC, c1]
  by_cases c2 : 65535 < p
  · simp -implicitDefEqProofs [go_sem, Tryz.f4, pAwakeOC, c1, c2]
  obtain ⟨k1, k2⟩ := roundI_le (k := k) (n := 5) (by omega)
  obtain ⟨w1, w2⟩ := roundI_le (k := w) (n := 9) (by omega)
  obtain ⟨s, hs, _, ls⟩ := pick_at schA (roundI k 5).toNat (by show _ < 5; omega)
  obtain ⟨h', hh, lh, ls2⟩ := pick_at hosA (roundI w 9).toNat (by show _ < 9; omega)
  have hT := kinds_tab s hs h' hh
  have lh' : h'.length ≤ 1048576 := Nat.le_trans lh (by decide)
  simp only [schA, hosA, List.map_cons, List.map_nil] at ls ls2
  clear hs hh lh
  simp only [Tryz.f4, run_seq]
  generalize hK7 : (Code.region 7 _ _).seq _ = K7
  simp -implicitDefEqProofs [go_sem, Tryz.f4, c1, c2, pRoundC, k1, k2, w1, w2, ls, ls2]
  refine run_gen (fun t => get t 2 = .i .i64 p ∧ get t 9 = .s s ∧ get t 10 = .s h') (by simp -implicitDefEqProofs [go_sem]) ?_
  rintro t ⟨t2, t9, t10⟩
  subst hK7
  clear ls ls2
  have hx1 : ∀ l : List Blk, Ext h (h ++ l) := fun l => (Ext.refl h).app l
  by_cases d1 : s = [104, 116, 116, 112, 115]
  · rw [decide_eq_true d1, Bool.true_or, Bool.true_or] at hT
    by_cases e1 : h' = [108, 111, 99, 97, 108, 104, 111, 115, 116]
    · simp -implicitDefEqProofs [go_sem, Tryz.f4, pAwakeOC, pTrustC, t2, t9, t10, eq_true d1, eq_true e1, hT, lh']
    · by_cases e2 : h' = [120, 46, 108, 111, 99, 97, 108, 104, 111, 115, 116]
      · simp -implicitDefEqProofs [go_sem, Tryz.f4, pAwakeOC, pTrustC, t2, t9, t10, eq_true d1, e1, eq_true e2, hT, lh']
      · by_cases e3 : h' = [49, 50, 55, 46, 48, 46, 48, 46, 49]
        · simp -implicitDefEqProofs [go_sem, Tryz.f4, pAwakeOC, pTrustC, t2, t9, t10, eq_true d1, e1, e2, eq_true e3, hT, lh']
        · by_cases e4 : h' = [49, 50, 55, 46, 50, 53, 53, 46, 50, 53, 53, 46, 50, 53, 53]
          · simp -implicitDefEqProofs [go_sem, Tryz.f4, pAwakeOC, pTrustC, t2, t9, t10, eq_true d1, e1, e2, e3, eq_true e4, hT, lh']
          · simp -implicitDefEqProofs [go_sem, Tryz.f4, pAwakeOC, pTrustC, t2, t9, t10, eq_true d1, e1, e2, e3, e4, hT, lh']
  · rw [decide_eq_false d1, Bool.false_or] at hT
    by_cases d2 : s = [119, 115, 115]
    · rw [decide_eq_true d2, Bool.true_or] at hT
      by_cases e1 : h' = [108, 111, 99, 97, 108, 104, 111, 115, 116]
      · simp -implicitDefEqProofs [go_sem, Tryz.f4, pAwakeOC, pTrustC, t2, t9, t10, d1, eq_true d2, eq_true e1, hT, lh']
      · by_cases e2 : h' = [120, 46, 108, 111, 99, 97, 108, 104, 111, 115, 116]
        · simp -implicitDefEqProofs [go_sem, Tryz.f4, pAwakeOC, pTrustC, t2, t9, t10, d1, eq_true d2, e1, eq_true e2, hT, lh']
        · by_cases e3 : h' = [49, 50, 55, 46, 48, 46, 48, 46, 49]
          · simp -implicitDefEqProofs [go_sem, Tryz.f4, pAwakeOC, pTrustC, t2, t9, t10, d1, eq_true d2, e1, e2, eq_true e3, hT, lh']
          · by_cases e4 : h' = [49, 50, 55, 46, 50, 53, 53, 46, 50, 53, 53, 46, 50, 53, 53]
            · simp -implicitDefEqProofs [go_sem, Tryz.f4, pAwakeOC, pTrustC, t2, t9, t10, d1, eq_true d2, e1, e2, e3, eq_true e4, hT, lh']
            · simp -implicitDefEqProofs [go_sem, Tryz.f4, pAwakeOC, pTrustC, t2, t9, t10, d1, eq_true d2, e1, e2, e3, e4, hT, lh']
    · rw [decide_eq_false d2, Bool.false_or] at hT
      by_cases e1 : h' = [108, 111, 99, 97, 108, 104, 111, 115, 116]
      · rw [decide_eq_true e1, Bool.true_or, Bool.true_or, Bool.true_or] at hT
        simp -implicitDefEqProofs [go_sem, Tryz.f4, pAwakeOC, pTrustC, t2, t9, t10, d1, d2, eq_true e1, hT, lh']
      · rw [decide_eq_false e1, Bool.false_or] at hT
        by_cases e2 : h' = [120, 46, 108, 111, 99, 97, 108, 104, 111, 115, 116]
        · rw [decide_eq_true e2, Bool.true_or, Bool.true_or] at hT
          simp -implicitDefEqProofs [go_sem, Tryz.f4, pAwakeOC, pTrustC, t2, t9, t10, d1, d2, e1, eq_true e2, hT, lh']
        · rw [decide_eq_false e2, Bool.false_or] at hT
          by_cases e3 : h' = [49, 50, 55, 46, 48, 46, 48, 46, 49]
          · rw [decide_eq_true e3, Bool.true_or] at hT
            simp -implicitDefEqProofs [go_sem, Tryz.f4, pAwakeOC, pTrustC, t2, t9, t10, d1, d2, e1, e2, eq_true e3, hT, lh']
          · rw [decide_eq_false e3, Bool.false_or] at hT
            by_cases e4 : h' = [49, 50, 55, 46, 50, 53, 53, 46, 50, 53, 53, 46, 50, 53, 53]
            · rw [decide_eq_true e4] at hT
              simp -implicitDefEqProofs [go_sem, Tryz.f4, pAwakeOC, pTrustC, t2, t9, t10, d1, d2, e1, e2, e3, eq_true e4, hT, lh']
            · rw [decide_eq_false e4] at hT
              simp -implicitDefEqProofs [go_sem, Tryz.f4, pAwakeOC, pTrustC, t2, t9, t10, d1, d2, e1, e2, e3, e4, hT, lh']
end GoD
