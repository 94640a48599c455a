import Derived.Test.YtffoolaocbgknaaGreatDoorPE
/-! Schemes, hosts, ports and paths as the program matches them. -/
namespace GoD
open Go Go.Proofs
set_option linter.unusedVariables false
set_option linter.unusedSimpArgs false
set_option maxHeartbeats 4000000
set_option maxRecDepth 100000
def pDefaultC : Ct := fun args h => match args with | [.s l] => some (.tup [.i .i64 (defaultL l).1, .b (defaultL l).2], h) | _ => none
theorem pDefault_ok : CtOk Tryz.prog G0 51 pDefaultC := by
  refine ct_plain (n := 1) fol sound_nil (by kernel_rfl) Tryz.func51 rfl fun args h v h' hc r xs H hr hx => ?_
  unfold pDefaultC at hc; split at hc <;> (try split at hc) <;> cases hc
  rename_i l
  refine ⟨rfl, rfl, by simp [renV, bndV, renL, bndL], ?_⟩
  by_cases h1 : l = [104, 116, 116, 112]
  · simp -implicitDefEqProofs [go_sem, Tryz.f51, defaultL, h1]
  by_cases h2 : l = [119, 115]
  · simp -implicitDefEqProofs [go_sem, Tryz.f51, defaultL, h2]
  by_cases h3 : l = [104, 116, 116, 112, 115]
  · simp -implicitDefEqProofs [go_sem, Tryz.f51, defaultL, h3]
  by_cases h4 : l = [119, 115, 115]
  · simp -implicitDefEqProofs [go_sem, Tryz.f51, defaultL, h4]
  by_cases h5 : l = [102, 116, 112]
  · simp -implicitDefEqProofs [go_sem, Tryz.f51, defaultL, h5]
  · simp -implicitDefEqProofs [go_sem, Tryz.f51, defaultL, h1, h2, h3, h4, h5]
def pPortC : Ct := fun args h => match args with | [.agg [.s a, .s b, .s c, .s d, .i .i64 p, .s e, .b q, .s f, .b g, .s k]] => some (.i .i64 (portL a p), h) | _ => none
theorem pPort_ok : CtOk Tryz.prog G0 50 pPortC := by
  refine ct_plain (n := 1) fol (sound_cons pDefault_ok sound_nil) (by kernel_rfl) Tryz.func50 rfl fun args h v h' hc r xs H hr hx => ?_
  unfold pPortC at hc; split at hc <;> (try split at hc) <;> cases hc
  rename_i a b c d p e q f g k
  refine ⟨rfl, rfl, by simp [renV, bndV, renL, bndL], ?_⟩
  by_cases h1 : p = -1
  · simp -implicitDefEqProofs [go_sem, Tryz.f50, h1, portL, pDefaultC]
  · simp -implicitDefEqProofs [go_sem, Tryz.f50, h1, portL, pDefaultC]
def pOfC : Ct := fun args h => match args with | [.agg [.s a, .s b, .s c, .s d, .i .i64 p, .s e, .b q, .s f, .b g, .s k]] => some (.agg [.s a, .s d, .i .i64 (portL a p)], h) | _ => none
theorem pOf_ok : CtOk Tryz.prog G0 87 pOfC := by
  refine ct_plain (n := 1) fol (sound_cons pPort_ok sound_nil) (by kernel_rfl) Tryz.func87 rfl fun args h v h' hc r xs H hr hx => ?_
  unfold pOfC at hc; split at hc <;> (try split at hc) <;> cases hc
  rename_i a b c d p e q f g k
  refine ⟨rfl, rfl, by simp [renV, bndV, renL, bndL], ?_⟩
  simp -implicitDefEqProofs [go_sem, Tryz.f87, pPortC]
def pOSameC : Ct := fun args h => match args with | [.agg [.s a, .s b, .i .i64 p], .agg [.s c, .s d, .i .i64 q]] => some (.b (decide (a = c) && decide (b = d) && decide (p = q) && !oNull a b p), h) | _ => none
theorem pOSame_ok : CtOk Tryz.prog G0 86 pOSameC := by
  refine ct_plain (n := 2) fol sound_nil (by kernel_rfl) Tryz.func86 rfl fun args h v h' hc r xs H hr hx => ?_
  unfold pOSameC at hc; split at hc <;> (try split at hc) <;> cases hc
  rename_i a b p c d q
  refine ⟨rfl, rfl, by simp [renV, bndV, renL, bndL], ?_⟩
  have zz := oNull_eq a b p
  cases h0 : oNull a b p with
  | true =>
    simp -implicitDefEqProofs [go_sem, Tryz.f86, zz, h0]
  | false =>
    by_cases h1 : a = c
    · by_cases h2 : b = d
      · by_cases h3 : p = q
        · simp -implicitDefEqProofs [go_sem, Tryz.f86, zz, h0, eq_true h1, eq_true h2, eq_true h3]
        · simp -implicitDefEqProofs [go_sem, Tryz.f86, zz, h0, eq_true h1, eq_true h2, h3]
      · simp -implicitDefEqProofs [go_sem, Tryz.f86, zz, h0, eq_true h1, h2]
    · simp -implicitDefEqProofs [go_sem, Tryz.f86, zz, h0, h1]
def pSchemeC : Ct := fun args h => match args with | [.s a, .s b] => some (.b (schemeB a b), h) | _ => none
theorem pScheme_ok : CtOk Tryz.prog G0 13 pSchemeC := by
  refine ct_plain (n := 2) fol (sound_cons pAny_ok sound_nil) (by kernel_rfl) Tryz.func13 rfl fun args h v h' hc r xs H hr hx => ?_
  unfold pSchemeC at hc; split at hc <;> (try split at hc) <;> cases hc
  rename_i a b
  refine ⟨rfl, rfl, by simp [renV, bndV, renL, bndL], ?_⟩
  by_cases h1 : a = b
  · simp -implicitDefEqProofs [go_sem, Tryz.f13, schemeB, pAnyC, strsAt, strsV, hget_new, eq_true h1]
  · by_cases h2 : a = [104, 116, 116, 112]
    · by_cases h3 : b = [104, 116, 116, 112, 115]
      · simp -implicitDefEqProofs [go_sem, Tryz.f13, schemeB, pAnyC, strsAt, strsV, hget_new, h1, eq_true h2, eq_true h3]
      · simp -implicitDefEqProofs [go_sem, Tryz.f13, schemeB, pAnyC, strsAt, strsV, hget_new, h1, eq_true h2, h3] <;> (intro e; rw [h2] at e; exact absurd e (by decide))
    · by_cases h4 : a = [119, 115, 115]
      · by_cases h3 : b = [104, 116, 116, 112, 115]
        · simp -implicitDefEqProofs [go_sem, Tryz.f13, schemeB, pAnyC, strsAt, strsV, hget_new, h1, h2, eq_true h4, eq_true h3]
        · simp -implicitDefEqProofs [go_sem, Tryz.f13, schemeB, pAnyC, strsAt, strsV, hget_new, h1, h2, eq_true h4, h3] <;> (intro e; rw [h4] at e; exact absurd e (by decide))
      · by_cases h5 : a = [119, 115]
        · by_cases h6 : b = [119, 115, 115]
          · simp -implicitDefEqProofs [go_sem, Tryz.f13, schemeB, pAnyC, strsAt, strsV, hget_new, h1, h2, h4, eq_true h5, eq_true h6]
          · by_cases h7 : b = [104, 116, 116, 112]
            · simp -implicitDefEqProofs [go_sem, Tryz.f13, schemeB, pAnyC, strsAt, strsV, hget_new, h1, h2, h4, eq_true h5, h6, eq_true h7]
            · by_cases h3 : b = [104, 116, 116, 112, 115]
              · simp -implicitDefEqProofs [go_sem, Tryz.f13, schemeB, pAnyC, strsAt, strsV, hget_new, h1, h2, h4, eq_true h5, h6, h7, eq_true h3]
              · simp -implicitDefEqProofs [go_sem, Tryz.f13, schemeB, pAnyC, strsAt, strsV, hget_new, h1, h2, h4, eq_true h5, h6, h7, h3]
        · simp -implicitDefEqProofs [go_sem, Tryz.f13, schemeB, pAnyC, strsAt, strsV, hget_new, h1, h2, h4, h5]
theorem headB_star (p : List Int) : headB p [42, 46] = starB p := by
  unfold headB starB
  by_cases h : 2 ≤ p.length
  · simp [h]
  · have : ¬ p.take 2 = [42, 46] := fun e => by have := congrArg List.length e; simp at this; omega
    simp [this]
def pHostC : Ct := fun args h => match args with | [.s p, .s l] => if l.length ≤ 1048576 then some (.b (hostB p l), h) else none | _ => none
theorem pHost_ok : CtOk Tryz.prog G0 15 pHostC := by
  refine ct_plain (n := 2) fol (sound_cons pAddress_ok (sound_cons pHasPre_ok (sound_cons pHasSuf_ok sound_nil))) (by kernel_rfl) Tryz.func15 rfl fun args h v h' hc r xs H hr hx => ?_
  unfold pHostC at hc; split at hc <;> (try split at hc) <;> cases hc
  rename_i p l hl
  obtain ⟨⟨hs, hpl⟩, _⟩ := str_of hx
  refine ⟨rfl, rfl, by simp [renV, bndV, renL, bndL], ?_⟩
  obtain ⟨res, hE⟩ : ∃ x, hostB p l = x := ⟨_, rfl⟩
  rw [hE]
  unfold hostB at hE
  rw [← headB_star] at hE
  by_cases h1 : l = []
  · rw [if_pos h1] at hE
    subst hE
    simp -implicitDefEqProofs [go_sem, Tryz.f15, pAddressC, hl, eq_true h1, okV_2]
  rw [if_neg h1] at hE
  by_cases h2 : p = [42]
  · rw [if_pos h2] at hE
    subst hE
    simp -implicitDefEqProofs [go_sem, Tryz.f15, pAddressC, hl, h1, eq_true h2, okV_2]
  rw [if_neg h2] at hE
  cases h3 : headB p [42, 46] with
  | true =>
    rw [h3, if_pos rfl] at hE
    have g1 := headB_le h3
    simp at g1
    have g2 : (1 : Int) ≤ p.length := by omega
    cases ha : (addrL l).isNone with
    | true =>
      by_cases h5 : p.length ≤ l.length
      · have h5' : (p.length : Int) ≤ l.length := by omega
        rw [ha, decide_eq_true h5] at hE
        simp at hE
        simp -implicitDefEqProofs [go_sem, Tryz.f15, pAddressC, pHasPreC, pHasSufC, hl, h1, h2, h3, okV_2, ha, h5, h5', g2, hE]
      · have h5' : ¬ (p.length : Int) ≤ l.length := by omega
        rw [ha, decide_eq_false h5] at hE
        simp at hE
        subst hE
        simp -implicitDefEqProofs [go_sem, Tryz.f15, pAddressC, pHasPreC, pHasSufC, hl, h1, h2, h3, okV_2, ha, h5, h5']
    | false =>
      rw [ha] at hE
      simp at hE
      subst hE
      simp -implicitDefEqProofs [go_sem, Tryz.f15, pAddressC, pHasPreC, pHasSufC, hl, h1, h2, h3, okV_2, ha]
  | false =>
    rw [h3, if_neg (by simp)] at hE
    by_cases h6 : p = l
    · rw [decide_eq_true h6, Bool.true_and] at hE
      cases ha : (addrL l).isNone with
      | true =>
        rw [ha] at hE
        simp at hE
        subst hE
        simp -implicitDefEqProofs [go_sem, Tryz.f15, pAddressC, pHasPreC, hl, h1, h2, h3, okV_2, ha, eq_true h6]
      | false =>
        rw [ha, Bool.false_or] at hE
        subst hE
        simp -implicitDefEqProofs [go_sem, Tryz.f15, pAddressC, pHasPreC, hl, h1, h2, h3, okV_2, ha, eq_true h6]
    · rw [decide_eq_false h6, Bool.false_and] at hE
      subst hE
      simp -implicitDefEqProofs [go_sem, Tryz.f15, pAddressC, pHasPreC, hl, h1, h2, h3, okV_2, h6]
def pNumSC : Ct := fun args h => match args with | [.s l] => if portP l = true then some (.i .i64 (numD l), h) else none | _ => none
theorem pNumS_ok : CtOk Tryz.prog G0 52 pNumSC := by
  refine ct_plain (n := 1) fol (sound_cons pDigit_ok sound_nil) (by kernel_rfl) Tryz.func52 rfl fun args h v h' hc r xs H hr hx => ?_
  unfold pNumSC at hc; split at hc <;> (try split at hc) <;> cases hc
  rename_i l hp
  obtain ⟨⟨hs, hll⟩, _⟩ := str_of hx
  refine ⟨rfl, rfl, by simp [renV, bndV, renL, bndL], ?_⟩
  unfold portP at hp
  simp only [Bool.and_eq_true, decide_eq_true_eq] at hp
  obtain ⟨hd, hl5⟩ := hp
  simp -implicitDefEqProofs [go_sem, Tryz.f52]
  refine run_inv _ _ _ _ _ (fun (i : Nat) t h1 => i ≤ l.length ∧ get t 0 = .s l ∧ get t 2 = .i .i64 (numD (l.take i)) ∧ get t 5 = .i .i64 l.length ∧ get t 6 = .i .i64 i ∧ h1 = h) (fun i => l.length - i) _ (x := 0) ⟨by simp, by simp -implicitDefEqProofs [go_sem], by simp -implicitDefEqProofs [go_sem, numD], by simp -implicitDefEqProofs [go_sem], by simp -implicitDefEqProofs [go_sem], rfl⟩ ?_
  rintro i t h1 ⟨hi, t0, t2, t5, t6, rfl⟩ ih
  obtain ⟨n0, n1⟩ := numD_le hd i (by omega) hi
  have hp10 : (10 : Int) ^ i ≤ 100000 := by
    have : i = 0 ∨ i = 1 ∨ i = 2 ∨ i = 3 ∨ i = 4 ∨ i = 5 := by omega
    rcases this with rfl | rfl | rfl | rfl | rfl | rfl <;> decide
  by_cases hlt : i < l.length
  · obtain ⟨x, hc⟩ : ∃ x, l[i] = x := ⟨_, rfl⟩
    have hdx := digit_of hd (hc ▸ List.getElem_mem hlt)
    have hb : digitB x = true := decide_eq_true hdx
    have hn := numD_take l hlt
    rw [hc] at hn
    obtain ⟨n, hne⟩ : ∃ n, numD (l.take i) = n := ⟨_, rfl⟩
    rw [hne] at hn n0 n1 t2
    have c1 : ¬ 4294967296 < n := by omega
    have m1 : (x - 48) % 256 = x - 48 := by omega
    simp -implicitDefEqProofs [go_sem, Tryz.f52, t0, t2, t5, t6, hlt, hc, pDigitC, hb, c1, m1]
    refine ih (i + 1) _ _ (by omega) ⟨hlt, ?_⟩
    simp -implicitDefEqProofs [go_sem, t0, t2, t5, t6, i64_n (show i < 1152921504606846976 by omega), w64 (x := 10 * n) (by omega), w64 (x := x - 48) (by omega), w64 (x := 10 * n + (x - 48)) (by omega), hn]
  · have e : i = l.length := by omega
    rw [e, List.take_length] at t2
    simp -implicitDefEqProofs [go_sem, Tryz.f52, t0, t2, t5, t6, hlt]
def pPortMC : Ct := fun args h => match args with | [.s l, .agg [.s a, .s b, .s c, .s d, .i .i64 p, .s e, .b q, .s f, .b g, .s k]] => if l = [] ∨ l = [42] ∨ portP l = true then some (.b (portB l a p), h) else none | _ => none
theorem pPortM_ok : CtOk Tryz.prog G0 19 pPortMC := by
  refine ct_plain (n := 2) fol (sound_cons pPort_ok (sound_cons pDefault_ok (sound_cons pNumS_ok sound_nil))) (by kernel_rfl) Tryz.func19 rfl fun args h v h' hc r xs H hr hx => ?_
  unfold pPortMC at hc; split at hc <;> (try split at hc) <;> cases hc
  rename_i l a b c d p e q f g k hl
  refine ⟨rfl, rfl, by simp [renV, bndV, renL, bndL], ?_⟩
  by_cases h1 : l = []
  · cases h2 : (defaultL a).2 <;> simp -implicitDefEqProofs [go_sem, Tryz.f19, pDefaultC, pPortC, h1, h2, portB]
  by_cases h2 : l = [42]
  · simp -implicitDefEqProofs [go_sem, Tryz.f19, pPortC, h1, h2, portB]
  have hp := (hl.resolve_left h1).resolve_left h2
  have hres : portB l a p = (decide (numD l = portL a p) || (decide (numD l = 80) && decide (portL a p = 443))) := by unfold portB; rw [if_neg h1, if_neg h2]
  rw [hres]
  by_cases c1 : numD l = portL a p
  · simp -implicitDefEqProofs [go_sem, Tryz.f19, h1, h2, pPortC, pNumSC, hp, eq_true c1]
  · by_cases c2 : numD l = 80
    · by_cases c3 : portL a p = 443
      · simp -implicitDefEqProofs [go_sem, Tryz.f19, h1, h2, pPortC, pNumSC, hp, c1, eq_true c2, eq_true c3]
      · simp -implicitDefEqProofs [go_sem, Tryz.f19, h1, h2, pPortC, pNumSC, hp, c1, eq_true c2, c3]
    · simp -implicitDefEqProofs [go_sem, Tryz.f19, h1, h2, pPortC, pNumSC, hp, c1, c2]
end GoD
