import Derived.Test.YtknkokkgefcdbaaDoorLA
/-! Chapter 18: what mixed answers. -/
namespace GoD
open Go Go.Proofs
set_option linter.unusedVariables false
set_option linter.unusedSimpArgs false
set_option maxHeartbeats 2000000
set_option maxRecDepth 100000
def locT : List Int := [108, 111, 99, 97, 108, 104, 111, 115, 116]
def dlocT : List Int := [46, 108, 111, 99, 97, 108, 104, 111, 115, 116]
def trustB (s l : List Int) : Bool := decide (s ∈ [[104, 116, 116, 112, 115], [119, 115, 115]]) || ((okV (addrL l)).2 && decide ((okV (addrL l)).1 / 16777216 = 127)) || decide (l = [108, 111, 99, 97, 108, 104, 111, 115, 116]) || endsL l [46, 108, 111, 99, 97, 108, 104, 111, 115, 116]
def pTrustC : Ct := fun args h => match args with | [.agg [.s s, .s l, .i .i64 p]] => if l.length ≤ 1048576 then some (.b (trustB s l), h) else none | _ => none
theorem pTrust_ok : CtOk Tryd.prog G0 40 pTrustC := by
  refine ct_plain (n := 1) fol (sound_cons pAny_ok (sound_cons pAddress_ok (sound_cons pHasSuf_ok sound_nil))) (by kernel_rfl) Tryd.func40 rfl fun args h v h' hc r xs H hr hx => ?_
  unfold pTrustC at hc; split at hc <;> (try split at hc) <;> cases hc
  rename_i s l p hl
  refine ⟨rfl, rfl, by simp [renV, bndV, renL, bndL], ?_⟩
  by_cases c1 : s ∈ [[104, 116, 116, 112, 115], [119, 115, 115]]
  · simp -implicitDefEqProofs [go_sem, Tryd.f40, pAnyC, strsAt, strsV, hget_new, trustB, c1, -List.mem_cons]
  · obtain ⟨⟨v, b⟩, hv⟩ : ∃ x, okV (addrL l) = x := ⟨_, rfl⟩
    have hE : trustB s l = ((b && decide (v / 16777216 = 127)) || decide (l = [108, 111, 99, 97, 108, 104, 111, 115, 116]) || endsL l [46, 108, 111, 99, 97, 108, 104, 111, 115, 116]) := by unfold trustB; rw [decide_eq_false c1, hv]; simp
    rw [hE]
    clear hE
    cases b with
    | true =>
      by_cases c2 : v / 16777216 = 127
      · simp -implicitDefEqProofs [go_sem, Tryd.f40, pAnyC, pAddressC, pHasSufC, strsAt, strsV, hget_new, c1, hl, hv, eq_true c2, -List.mem_cons]
      · by_cases c3 : l = [108, 111, 99, 97, 108, 104, 111, 115, 116]
        · simp -implicitDefEqProofs [go_sem, Tryd.f40, pAnyC, pAddressC, pHasSufC, strsAt, strsV, hget_new, c1, hl, hv, c2, eq_true c3, -List.mem_cons]
        · simp -implicitDefEqProofs [go_sem, Tryd.f40, pAnyC, pAddressC, pHasSufC, strsAt, strsV, hget_new, c1, hl, hv, c2, c3, -List.mem_cons]
    | false =>
      by_cases c3 : l = [108, 111, 99, 97, 108, 104, 111, 115, 116]
      · simp -implicitDefEqProofs [go_sem, Tryd.f40, pAnyC, pAddressC, pHasSufC, strsAt, strsV, hget_new, c1, hl, hv, eq_true c3, -List.mem_cons]
      · simp -implicitDefEqProofs [go_sem, Tryd.f40, pAnyC, pAddressC, pHasSufC, strsAt, strsV, hget_new, c1, hl, hv, c3, -List.mem_cons]
def pSecureC : Ct := fun args h => match args with | [.agg [.s a, .s b, .s c, .s d, .i .i64 p, .s e, .b q, .s f, .b g, .s k]] => if d.length ≤ 1048576 then some (.b (trustB a d), h) else none | _ => none
theorem pSecure_ok : CtOk Tryd.prog G0 21 pSecureC := by
  refine ct_plain (n := 1) fol (sound_cons pOf_ok (sound_cons pTrust_ok sound_nil)) (by kernel_rfl) Tryd.func21 rfl fun args h v h' hc r xs H hr hx => ?_
  unfold pSecureC at hc; split at hc <;> (try split at hc) <;> cases hc
  rename_i a b c d p e q f g k hl
  refine ⟨rfl, rfl, by simp [renV, bndV, renL, bndL], ?_⟩
  simp -implicitDefEqProofs [go_sem, Tryd.f21, pOfC, pTrustC, hl]
def classI (os us uh dest : List Int) : Int := if os ∈ [[104, 116, 116, 112, 115], [119, 115, 115]] then (if trustB us uh = true then 0 else if dest = [100, 111, 99, 117, 109, 101, 110, 116] then 0 else if dest ∈ [[105, 109, 97, 103, 101], [97, 117, 100, 105, 111], [118, 105, 100, 101, 111]] then (if (okV (addrL uh)).2 = true then 2 else 1) else 2) else 0
def pClassC : Ct := fun args h => match args with | [.agg [.s os, .s oh, .i .i64 op], .agg [.s a, .s b, .s c, .s d, .i .i64 p, .s e, .b q, .s f, .b g, .s k], .s dest] => if d.length ≤ 1048576 then some (.i .i64 (classI os a d dest), h) else none | _ => none
theorem pClass_ok : CtOk Tryd.prog G0 10 pClassC := by
  refine ct_plain (n := 3) fol (sound_cons pAddress_ok (sound_cons pAny_ok (sound_cons pSecure_ok sound_nil))) (by kernel_rfl) Tryd.func10 rfl fun args h v h' hc r xs H hr hx => ?_
  unfold pClassC at hc; split at hc <;> (try split at hc) <;> cases hc
  rename_i os oh op a b c d p e q f g k dest hl
  refine ⟨rfl, rfl, by simp [renV, bndV, renL, bndL], ?_⟩
  obtain ⟨R, hR⟩ : ∃ x, classI os a d dest = x := ⟨_, rfl⟩
  rw [hR]
  unfold classI at hR
  by_cases c1 : os ∈ [[104, 116, 116, 112, 115], [119, 115, 115]]
  · rw [if_pos c1] at hR
    cases c2 : trustB a d with
    | true =>
      rw [c2, if_pos rfl] at hR
      subst hR
      simp -implicitDefEqProofs [go_sem, Tryd.f10, pAddressC, pAnyC, pSecureC, strsAt, strsV, hget_new, c1, c2, hl, -List.mem_cons]
    | false =>
      rw [c2, if_neg (by simp)] at hR
      by_cases c3 : dest = [100, 111, 99, 117, 109, 101, 110, 116]
      · rw [if_pos c3] at hR
        subst hR
        simp -implicitDefEqProofs [go_sem, Tryd.f10, pAddressC, pAnyC, pSecureC, strsAt, strsV, hget_new, c1, c2, eq_true c3, hl, -List.mem_cons]
      · rw [if_neg c3] at hR
        by_cases c4 : dest ∈ [[105, 109, 97, 103, 101], [97, 117, 100, 105, 111], [118, 105, 100, 101, 111]]
        · rw [if_pos c4] at hR
          cases c5 : (okV (addrL d)).2 with
          | true =>
            rw [c5, if_pos rfl] at hR
            subst hR
            simp -implicitDefEqProofs [go_sem, Tryd.f10, pAddressC, pAnyC, pSecureC, strsAt, strsV, hget_new, c1, c2, c3, c4, c5, hl, -List.mem_cons]
          | false =>
            rw [c5, if_neg (by simp)] at hR
            subst hR
            simp -implicitDefEqProofs [go_sem, Tryd.f10, pAddressC, pAnyC, pSecureC, strsAt, strsV, hget_new, c1, c2, c3, c4, c5, hl, -List.mem_cons]
        · rw [if_neg c4] at hR
          subst hR
          simp -implicitDefEqProofs [go_sem, Tryd.f10, pAddressC, pAnyC, pSecureC, strsAt, strsV, hget_new, c1, c2, c3, c4, hl, -List.mem_cons]
  · rw [if_neg c1] at hR
    subst hR
    simp -implicitDefEqProofs [go_sem, Tryd.f10, pAddressC, pAnyC, pSecureC, strsAt, strsV, hget_new, c1, hl, -List.mem_cons]
def upS (a : List Int) : List Int := if a = [104, 116, 116, 112] then [104, 116, 116, 112, 115] else if a = [119, 115] then [119, 115, 115] else a
def upP (a : List Int) (p : Int) : Int := if (a = [104, 116, 116, 112] ∨ a = [119, 115]) ∧ p = 443 then -1 else p
def pUpC : Ct := fun args h => match args with | [.agg [.s a, .s b, .s c, .s d, .i .i64 p, .s e, .b q, .s f, .b g, .s k]] => some (.agg [.s (upS a), .s b, .s c, .s d, .i .i64 (upP a p), .s e, .b q, .s f, .b g, .s k], h) | _ => none
theorem pUp_ok : CtOk Tryd.prog G0 15 pUpC := by
  refine ct_plain (n := 1) fol (sound_cons pDefault_ok sound_nil) (by kernel_rfl) Tryd.func15 rfl fun args h v h' hc r xs H hr hx => ?_
  unfold pUpC at hc; split at hc <;> (try split at hc) <;> cases hc
  rename_i a b c d p e q f g k
  refine ⟨rfl, rfl, by simp [renV, bndV, renL, bndL], ?_⟩
  have d1 : defaultL [104, 116, 116, 112, 115] = (443, true) := rfl
  have d2 : defaultL [119, 115, 115] = (443, true) := rfl
  by_cases c1 : a = [104, 116, 116, 112]
  · by_cases c2 : p = 443
    · simp -implicitDefEqProofs [go_sem, Tryd.f15, pDefaultC, d1, c1, c2, upS, upP]
    · simp -implicitDefEqProofs [go_sem, Tryd.f15, pDefaultC, d1, c1, c2, upS, upP]
  · by_cases c3 : a = [119, 115]
    · by_cases c2 : p = 443
      · simp -implicitDefEqProofs [go_sem, Tryd.f15, pDefaultC, d2, c3, c2, upS, upP]
      · simp -implicitDefEqProofs [go_sem, Tryd.f15, pDefaultC, d2, c3, c2, upS, upP]
    · simp -implicitDefEqProofs [go_sem, Tryd.f15, c1, c3, upS, upP]
def orgOkB (a b : List Int) (p : Int) : Bool := decide (0 ≤ p) && decide (p ≤ 65535) && decide (a.length + b.length ≤ 1000)
def pOrgOkC : Ct := fun args h => match args with | [.agg [.s a, .s b, .i .i64 p]] => if a.length ≤ 281474976710656 ∧ b.length ≤ 281474976710656 then some (.b (orgOkB a b p), h) else none | _ => none
theorem pOrgOk_ok : CtOk Tryd.prog G0 13 pOrgOkC := by
  refine ct_plain (n := 1) fol sound_nil (by kernel_rfl) Tryd.func13 rfl fun args h v h' hc r xs H hr hx => ?_
  unfold pOrgOkC at hc; split at hc <;> (try split at hc) <;> cases hc
  rename_i a b p hl
  refine ⟨rfl, rfl, by simp [renV, bndV, renL, bndL], ?_⟩
  have w := w64 (x := (a.length : Int) + b.length) (by omega)
  by_cases c1 : 0 ≤ p
  · by_cases c2 : p ≤ 65535
    · by_cases c3 : a.length + b.length ≤ 1000
      · have c3' : (a.length : Int) + b.length ≤ 1000 := by omega
        simp -implicitDefEqProofs [go_sem, Tryd.f13, c1, c2, c3, c3', w, orgOkB]
      · have c3' : ¬ (a.length : Int) + b.length ≤ 1000 := by omega
        simp -implicitDefEqProofs [go_sem, Tryd.f13, c1, c2, c3, c3', w, orgOkB]
    · simp -implicitDefEqProofs [go_sem, Tryd.f13, c1, c2, orgOkB]
  · simp -implicitDefEqProofs [go_sem, Tryd.f13, c1, orgOkB]
def roundI (k n : Int) : Int := if k.tmod n < 0 then k.tmod n + n else k.tmod n
theorem roundI_le {k n : Int} (h : 0 < n) : 0 ≤ roundI k n ∧ roundI k n < n := by
  have h1 := Int.tmod_lt_of_pos k h
  have h2 : -n < k.tmod n := Int.neg_lt_of_neg_lt (by rw [← Int.neg_tmod]; exact Int.tmod_lt_of_pos _ h)
  unfold roundI
  split <;> omega
def pRoundC : Ct := fun args h => match args with | [.i .i64 k, .i .i64 n] => if 0 < n ∧ n ≤ 1000000 then some (.i .i64 (roundI k n), h) else none | _ => none
theorem pRound_ok : CtOk Tryd.prog G0 17 pRoundC := by
  refine ct_plain (n := 2) fol sound_nil (by kernel_rfl) Tryd.func17 rfl fun args h v h' hc r xs H hr hx => ?_
  unfold pRoundC at hc; split at hc <;> (try split at hc) <;> cases hc
  rename_i k n hn
  have hn0 : ¬ n = 0 := by omega
  have h1 := Int.tmod_lt_of_pos k hn.1
  have h2 : -n < k.tmod n := Int.neg_lt_of_neg_lt (by rw [← Int.neg_tmod]; exact Int.tmod_lt_of_pos _ hn.1)
  refine ⟨rfl, rfl, by simp [renV, bndV], ?_⟩
  by_cases c1 : k.tmod n < 0
  · simp -implicitDefEqProofs [go_sem, Tryd.f17, hn0, c1, roundI, w64 (x := k.tmod n + n) (by omega)]
  · simp -implicitDefEqProofs [go_sem, Tryd.f17, hn0, c1, roundI]
end GoD
