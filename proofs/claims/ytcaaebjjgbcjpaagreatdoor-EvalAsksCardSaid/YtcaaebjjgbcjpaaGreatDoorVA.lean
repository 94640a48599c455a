import Derived.Test.YtcaaebjjgbcjpaaGreatDoorOP
import Derived.Test.YtcaaebjjgbcjpaaGreatDoorPF
import Derived.Test.YtcaaebjjgbcjpaaGreatDoorEN
/-! Chapter 12: Origins on both sides. -/
namespace GoD
open Go Go.Proofs
set_option linter.unusedVariables false
set_option linter.unusedSimpArgs false
set_option maxHeartbeats 8000000
set_option maxRecDepth 100000
def locT : List Int := [108, 111, 99, 97, 108, 104, 111, 115, 116]
def dlocT : List Int := [46, 108, 111, 99, 97, 108, 104, 111, 115, 116]
def trustB (s l : List Int) : Bool := decide (s ∈ [[104, 116, 116, 112, 115], [119, 115, 115]]) || ((okV (addrL l)).2 && decide ((okV (addrL l)).1 / 16777216 = 127)) || decide (l = [108, 111, 99, 97, 108, 104, 111, 115, 116]) || endsL l [46, 108, 111, 99, 97, 108, 104, 111, 115, 116]
def pTrustC : Ct := fun args h => match args with | [.agg [.s s, .s l, .i .i64 p]] => if l.length ≤ 1048576 then some (.b (trustB s l), h) else none | _ => none
theorem pTrust_ok : CtOk Tryz.prog G0 108 pTrustC := by
  refine ct_plain (n := 1) fol (sound_cons pAny_ok (sound_cons pAddress_ok (sound_cons pHasSuf_ok sound_nil))) (by kernel_rfl) Tryz.func108 rfl fun args h v h' hc r xs H hr hx => ?_
  unfold pTrustC at hc; split at hc <;> (try split at hc) <;> cases hc
  rename_i s l p hl
  refine ⟨rfl, rfl, by simp [renV, bndV, renL, bndL], ?_⟩
  by_cases c1 : s ∈ [[104, 116, 116, 112, 115], [119, 115, 115]]
  · simp -implicitDefEqProofs [go_sem, Tryz.f108, pAnyC, strsAt, strsV, hget_new, trustB, c1, -List.mem_cons]
  · obtain ⟨⟨v, b⟩, hv⟩ : ∃ x, okV (addrL l) = x := ⟨_, rfl⟩
    have hE : trustB s l = ((b && decide (v / 16777216 = 127)) || decide (l = [108, 111, 99, 97, 108, 104, 111, 115, 116]) || endsL l [46, 108, 111, 99, 97, 108, 104, 111, 115, 116]) := by unfold trustB; rw [decide_eq_false c1, hv]; simp
    rw [hE]
    clear hE
    cases b with
    | true =>
      by_cases c2 : v / 16777216 = 127
      · simp -implicitDefEqProofs [go_sem, Tryz.f108, pAnyC, pAddressC, pHasSufC, strsAt, strsV, hget_new, c1, hl, hv, eq_true c2, -List.mem_cons]
      · by_cases c3 : l = [108, 111, 99, 97, 108, 104, 111, 115, 116]
        · simp -implicitDefEqProofs [go_sem, Tryz.f108, pAnyC, pAddressC, pHasSufC, strsAt, strsV, hget_new, c1, hl, hv, c2, eq_true c3, -List.mem_cons]
        · simp -implicitDefEqProofs [go_sem, Tryz.f108, pAnyC, pAddressC, pHasSufC, strsAt, strsV, hget_new, c1, hl, hv, c2, c3, -List.mem_cons]
    | false =>
      by_cases c3 : l = [108, 111, 99, 97, 108, 104, 111, 115, 116]
      · simp -implicitDefEqProofs [go_sem, Tryz.f108, pAnyC, pAddressC, pHasSufC, strsAt, strsV, hget_new, c1, hl, hv, eq_true c3, -List.mem_cons]
      · simp -implicitDefEqProofs [go_sem, Tryz.f108, pAnyC, pAddressC, pHasSufC, strsAt, strsV, hget_new, c1, hl, hv, c3, -List.mem_cons]
def pSecureC : Ct := fun args h => match args with | [.agg [.s a, .s b, .s c, .s d, .i .i64 p, .s e, .b q, .s f, .b g, .s k]] => if d.length ≤ 1048576 then some (.b (trustB a d), h) else none | _ => none
theorem pSecure_ok : CtOk Tryz.prog G0 45 pSecureC := by
  refine ct_plain (n := 1) fol (sound_cons pOf_ok (sound_cons pTrust_ok sound_nil)) (by kernel_rfl) Tryz.func45 rfl fun args h v h' hc r xs H hr hx => ?_
  unfold pSecureC at hc; split at hc <;> (try split at hc) <;> cases hc
  rename_i a b c d p e q f g k hl
  refine ⟨rfl, rfl, by simp [renV, bndV, renL, bndL], ?_⟩
  simp -implicitDefEqProofs [go_sem, Tryz.f45, pOfC, pTrustC, hl]
def orgOkB (a b : List Int) (p : Int) : Bool := decide (0 ≤ p) && decide (p ≤ 65535) && decide (a.length + b.length ≤ 1000)
def pOrgOkC : Ct := fun args h => match args with | [.agg [.s a, .s b, .i .i64 p]] => if a.length ≤ 281474976710656 ∧ b.length ≤ 281474976710656 then some (.b (orgOkB a b p), h) else none | _ => none
def orgT (a b : List Int) (p : Int) : List Int := if oNull a b p = true then [110, 117, 108, 108] else a ++ [58, 47, 47] ++ b ++ (if (defaultL a).2 = true ∧ (defaultL a).1 = p then [] else 58 :: decI p)
def pOTextC : Ct := fun args h => match args with | [.agg [.s a, .s b, .i .i64 p]] => if a.length + b.length ≤ 1000000 ∧ 0 ≤ p ∧ p ≤ 65535 then some (.s (orgT a b p), h) else none | _ => none
theorem pOText_ok : CtOk Tryz.prog G0 194 pOTextC := by
  refine ct_plain (n := 1) fol (sound_cons pDefault_ok (sound_cons pDecimal_ok sound_nil)) (by kernel_rfl) Tryz.func194 rfl fun args h v h' hc r xs H hr hx => ?_
  unfold pOTextC at hc; split at hc <;> (try split at hc) <;> cases hc
  rename_i a b p hs
  obtain ⟨hs, hp1, hp2⟩ := hs
  refine ⟨rfl, rfl, by simp [renV, bndV], ?_⟩
  have zz := oNull_eq a b p
  obtain ⟨R, hR⟩ : ∃ x, orgT a b p = x := ⟨_, rfl⟩
  rw [hR]
  unfold orgT at hR
  have k1 : a.length + 3 ≤ 281474976710656 := by omega
  have k2 : a.length + (b.length + 3) ≤ 281474976710656 := by omega
  have k3 : a.length + 3 + b.length ≤ 281474976710656 := by omega
  have k3' : a.length + (b.length + 1 + 1 + 1) ≤ 281474976710656 := by omega
  cases h0 : oNull a b p with
  | true =>
    rw [h0, if_pos rfl] at hR
    simp -implicitDefEqProofs [go_sem, Tryz.f194, zz, h0, ← hR]
  | false =>
    rw [h0, if_neg (by simp)] at hR
    obtain ⟨D, hD⟩ : ∃ x, decI p = x := ⟨_, rfl⟩
    have lD : D.length ≤ 10 := hD ▸ decI_len ⟨by omega, hp2⟩
    have hD' : decD p.toNat = D := by rw [← hD, decI, if_neg (by omega)]
    have k4 : D.length + 1 ≤ 281474976710656 := by omega
    have k5 : 1 + D.length ≤ 281474976710656 := by omega
    have k6 : a.length + (b.length + 1 + 1 + 1) + (D.length + 1) ≤ 281474976710656 := by omega
    have k7 : a.length + (b.length + 1 + 1 + 1) + 1 ≤ 281474976710656 := by omega
    have k8 : a.length + (b.length + 1 + 1 + 1 + 1) + D.length ≤ 281474976710656 := by omega
    have k9 : a.length + (b.length + 1 + 1 + 1 + 1 + D.length) ≤ 281474976710656 := by omega
    have k10 : a.length + (b.length + (D.length + 1) + 1 + 1 + 1) ≤ 281474976710656 := by omega
    have k11 : a.length + (b.length + 1 + 1 + 1 + 1) ≤ 281474976710656 := by omega
    cases h1 : (defaultL a).2 with
    | false =>
      rw [h1, if_neg (by simp), hD] at hR
      simp -implicitDefEqProofs [go_sem, Tryz.f194, zz, h0, pDefaultC, pDecimalC, h1, hp1, hD, hD', k1, k2, k3, k3', k4, k5, k6, k7, k8, k9, k10, k11, ← hR]
    | true =>
      by_cases h2 : (defaultL a).1 = p
      · rw [h1, if_pos ⟨rfl, h2⟩] at hR
        simp -implicitDefEqProofs [go_sem, Tryz.f194, zz, h0, pDefaultC, pDecimalC, h1, eq_true h2, k1, k2, k3, k3', ← hR]
      · rw [if_neg (fun x => h2 x.2), hD] at hR
        simp -implicitDefEqProofs [go_sem, Tryz.f194, zz, h0, pDefaultC, pDecimalC, h1, h2, hp1, hD, hD', k1, k2, k3, k3', k4, k5, k6, k7, k8, k9, k10, k11, ← hR]
def rOTextC : Ct := fun args h => match args with | [.agg [.s a, .s b, .i .i64 p]] => if a.length + b.length ≤ 1000000 ∧ 0 ≤ p ∧ p ≤ 65535 then some (.s (orgT a b p), h) else none | _ => none
theorem rOText_ok : CtOk Tryz.prog G0 82 rOTextC := by
  refine ct_plain (n := 1) fol (sound_cons rDefault_ok (sound_cons rDecimal_ok sound_nil)) (by kernel_rfl) Tryz.func82 rfl fun args h v h' hc r xs H hr hx => ?_
  unfold rOTextC at hc; split at hc <;> (try split at hc) <;> cases hc
  rename_i a b p hs
  obtain ⟨hs, hp1, hp2⟩ := hs
  refine ⟨rfl, rfl, by simp [renV, bndV], ?_⟩
  have zz := oNull_eq a b p
  obtain ⟨R, hR⟩ : ∃ x, orgT a b p = x := ⟨_, rfl⟩
  rw [hR]
  unfold orgT at hR
  have k1 : a.length + 3 ≤ 281474976710656 := by omega
  have k2 : a.length + (b.length + 3) ≤ 281474976710656 := by omega
  have k3 : a.length + 3 + b.length ≤ 281474976710656 := by omega
  have k3' : a.length + (b.length + 1 + 1 + 1) ≤ 281474976710656 := by omega
  cases h0 : oNull a b p with
  | true =>
    rw [h0, if_pos rfl] at hR
    simp -implicitDefEqProofs [go_sem, Tryz.f82, zz, h0, ← hR]
  | false =>
    rw [h0, if_neg (by simp)] at hR
    obtain ⟨D, hD⟩ : ∃ x, decI p = x := ⟨_, rfl⟩
    have lD : D.length ≤ 10 := hD ▸ decI_len ⟨by omega, hp2⟩
    have hD' : decD p.toNat = D := by rw [← hD, decI, if_neg (by omega)]
    have k4 : D.length + 1 ≤ 281474976710656 := by omega
    have k5 : 1 + D.length ≤ 281474976710656 := by omega
    have k6 : a.length + (b.length + 1 + 1 + 1) + (D.length + 1) ≤ 281474976710656 := by omega
    have k7 : a.length + (b.length + 1 + 1 + 1) + 1 ≤ 281474976710656 := by omega
    have k8 : a.length + (b.length + 1 + 1 + 1 + 1) + D.length ≤ 281474976710656 := by omega
    have k9 : a.length + (b.length + 1 + 1 + 1 + 1 + D.length) ≤ 281474976710656 := by omega
    have k10 : a.length + (b.length + (D.length + 1) + 1 + 1 + 1) ≤ 281474976710656 := by omega
    have k11 : a.length + (b.length + 1 + 1 + 1 + 1) ≤ 281474976710656 := by omega
    cases h1 : (defaultL a).2 with
    | false =>
      rw [h1, if_neg (by simp), hD] at hR
      simp -implicitDefEqProofs [go_sem, Tryz.f82, zz, h0, rDefaultC, rDecimalC, h1, hp1, hD, hD', k1, k2, k3, k3', k4, k5, k6, k7, k8, k9, k10, k11, ← hR]
    | true =>
      by_cases h2 : (defaultL a).1 = p
      · rw [h1, if_pos ⟨rfl, h2⟩] at hR
        simp -implicitDefEqProofs [go_sem, Tryz.f82, zz, h0, rDefaultC, rDecimalC, h1, eq_true h2, k1, k2, k3, k3', ← hR]
      · rw [if_neg (fun x => h2 x.2), hD] at hR
        simp -implicitDefEqProofs [go_sem, Tryz.f82, zz, h0, rDefaultC, rDecimalC, h1, h2, hp1, hD, hD', k1, k2, k3, k3', k4, k5, k6, k7, k8, k9, k10, k11, ← hR]
theorem trust_nil : trustB [] [] = false := by kernel_rfl
def rTrustC : Ct := fun args h => match args with | [.agg [.s s, .s l, .i .i64 p]] => if l.length ≤ 1048576 then some (.b (trustB s l), h) else none | _ => none
theorem rTrust_ok : CtOk Tryz.prog G0 123 rTrustC := by
  refine ct_plain (n := 1) fol (sound_cons rIsAddress_ok (sound_cons rEnds_ok sound_nil)) (by kernel_rfl) Tryz.func123 rfl fun args h v h' hc r xs H hr hx => ?_
  unfold rTrustC at hc; split at hc <;> (try split at hc) <;> cases hc
  rename_i s l p hl
  refine ⟨rfl, rfl, by simp [renV, bndV, renL, bndL], ?_⟩
  have zz := oNull_eq s l p
  cases h0 : oNull s l p with
  | true =>
    have h1 := h0
    unfold oNull at h1
    simp only [Bool.and_eq_true, decide_eq_true_eq] at h1
    have hE : trustB s l = false := by rw [h1.1.1, h1.1.2]; exact trust_nil
    rw [hE]
    simp -implicitDefEqProofs [go_sem, Tryz.f123, zz, h0]
  | false =>
    obtain ⟨⟨v, b⟩, hv⟩ : ∃ x, okV (addrL l) = x := ⟨_, rfl⟩
    by_cases c1 : s = [104, 116, 116, 112, 115]
    · have hE : trustB s l = true := by unfold trustB; rw [decide_eq_true (by rw [c1]; simp)]; rfl
      rw [hE]
      simp -implicitDefEqProofs [go_sem, Tryz.f123, zz, h0, rIsAddressC, hl, hv, eq_true c1]
    · by_cases c0 : s = [119, 115, 115]
      · have hE : trustB s l = true := by unfold trustB; rw [decide_eq_true (by rw [c0]; simp)]; rfl
        rw [hE]
        simp -implicitDefEqProofs [go_sem, Tryz.f123, zz, h0, rIsAddressC, hl, hv, c1, eq_true c0]
      · have hE : trustB s l = ((b && decide (v / 16777216 = 127)) || decide (l = [108, 111, 99, 97, 108, 104, 111, 115, 116]) || endsL l [46, 108, 111, 99, 97, 108, 104, 111, 115, 116]) := by unfold trustB; rw [decide_eq_false (by simp [c1, c0]), hv]; simp
        rw [hE]
        clear hE
        cases b with
        | true =>
          by_cases c2 : v / 16777216 = 127
          · simp -implicitDefEqProofs [go_sem, Tryz.f123, zz, h0, rIsAddressC, rEndsC, hl, hv, c1, c0, eq_true c2]
          · by_cases c3 : l = [108, 111, 99, 97, 108, 104, 111, 115, 116]
            · simp -implicitDefEqProofs [go_sem, Tryz.f123, zz, h0, rIsAddressC, rEndsC, hl, hv, c1, c0, c2, eq_true c3]
            · simp -implicitDefEqProofs [go_sem, Tryz.f123, zz, h0, rIsAddressC, rEndsC, hl, hv, c1, c0, c2, c3]
        | false =>
          by_cases c3 : l = [108, 111, 99, 97, 108, 104, 111, 115, 116]
          · simp -implicitDefEqProofs [go_sem, Tryz.f123, zz, h0, rIsAddressC, rEndsC, hl, hv, c1, c0, eq_true c3]
          · simp -implicitDefEqProofs [go_sem, Tryz.f123, zz, h0, rIsAddressC, rEndsC, hl, hv, c1, c0, c3]
def rSecureC : Ct := fun args h => match args with | [.agg [.s a, .s b, .s c, .s d, .i .i64 p, .s e, .b q, .s f, .b g, .s k]] => if d.length ≤ 1048576 then some (.b (trustB a d), h) else none | _ => none
theorem rSecure_ok : CtOk Tryz.prog G0 59 rSecureC := by
  refine ct_plain (n := 1) fol (sound_cons rOf_ok (sound_cons rTrust_ok sound_nil)) (by kernel_rfl) Tryz.func59 rfl fun args h v h' hc r xs H hr hx => ?_
  unfold rSecureC at hc; split at hc <;> (try split at hc) <;> cases hc
  rename_i a b c d p e q f g k hl
  refine ⟨rfl, rfl, by simp [renV, bndV, renL, bndL], ?_⟩
  simp -implicitDefEqProofs [go_sem, Tryz.f59, rOfC, rTrustC, hl]
def ofAns : Option Url → V
  | none => .tup [.agg [.s [], .s [], .i .i64 0], .b false]
  | some u => .tup [.agg [.s u.sch, .s u.ho, .i .i64 (portL u.sch u.po)], .b true]
theorem ofAns_flat (o : Option Url) (m : Nat) : renV id (ofAns o) = ofAns o ∧ bndV m (ofAns o) := by cases o <;> simp [ofAns, renV, bndV, renL, bndL]
def pOf12C : Ct := fun args h => match args with | [.s l] => some (ofAns (parseU l), h) | _ => none
def aw3 : List Int := [104, 116, 116, 112, 115, 58, 47, 47, 97, 58, 52, 52, 51, 47, 120]
def aw4 : List Int := [104, 116, 116, 112, 58, 47, 47, 49, 50, 55, 46, 57, 46, 57, 46, 57]
theorem aw3_eq : parseU aw3 = some ⟨[104, 116, 116, 112, 115], [], [], [97], -1, [47, 120], false, [], false, []⟩ := by kernel_rfl
theorem aw4_eq : parseU aw4 = some ⟨[104, 116, 116, 112], [], [], [49, 50, 55, 46, 57, 46, 57, 46, 57], -1, [47], false, [], false, []⟩ := by kernel_rfl
def pAwakeOC : Ct := fun args h => match args with | [] => some (.b true, h) | _ => none
end GoD
