import Derived.Test.YtffoolaocbgknaaGreatDoorEG
/-! Hosts and URLs' ports as the document answers them. -/
namespace GoD
open Go Go.Proofs
set_option linter.unusedVariables false
set_option linter.unusedSimpArgs false
set_option maxHeartbeats 4000000
set_option maxRecDepth 100000
def rIsAddressC : Ct := fun args h => match args with | [.s l] => if l.length ≤ 1048576 then some (.tup [.i .u32 (okV (addrL l)).1, .b (okV (addrL l)).2], h) else none | _ => none
theorem rIsAddress_ok : CtOk Tryz.prog G0 44 rIsAddressC := by
  refine ct_plain (n := 1) fol (sound_cons rNumber_ok (sound_cons rAddress_ok sound_nil)) (by kernel_rfl) Tryz.func44 rfl fun args h v h' hc r xs H hr hx => ?_
  unfold rIsAddressC at hc; split at hc <;> (try split at hc) <;> cases hc
  rename_i l hl
  refine ⟨rfl, rfl, by simp [renV, bndV, renL, bndL], ?_⟩
  cases hn : numberL l with
  | none => simp -implicitDefEqProofs [go_sem, Tryz.f44, rNumberC, rAddressC, hl, hn, okV, addrL]
  | some n =>
    by_cases h1 : textL n = l
    · simp -implicitDefEqProofs [go_sem, Tryz.f44, rNumberC, rAddressC, hl, hn, okV, addrL, h1]
    · simp -implicitDefEqProofs [go_sem, Tryz.f44, rNumberC, rAddressC, hl, hn, okV, addrL, h1]
def rNumericC : Ct := fun args h => match args with | [.s l] => if l.length ≤ 1048576 then some (.b (numericB ((partsL l).getLastD [])), h) else none | _ => none
theorem hexv_x : hexv 120 = -1 := rfl
theorem hexv_X : hexv 88 = -1 := rfl
theorem rNumeric_ok : CtOk Tryz.prog G0 108 rNumericC := by
  refine ct_plain (n := 1) fol (sound_cons rParts_ok (sound_cons rDigits_ok sound_nil)) (by kernel_rfl) Tryz.func108 rfl fun args h v h' hc r xs H hr hx => ?_
  unfold rNumericC at hc; split at hc <;> (try split at hc) <;> cases hc
  rename_i l hl
  refine ⟨rfl, rfl, by simp [renV, bndV, renL, bndL], ?_⟩
  obtain ⟨z, hz⟩ : ∃ z, splitL 46 l = z := ⟨_, rfl⟩
  obtain ⟨y, hy⟩ : ∃ y, partsL l = y := ⟨_, rfl⟩
  have hyz : y = z.take y.length := by rw [← hy, ← hz]; exact partsL_take l
  have hy0 : y ≠ [] := hy ▸ partsL_ne l
  have hyl : y.length ≤ z.length := by have := congrArg List.length hyz; simp at this; omega
  have hyl2 : y.length ≤ 1048577 := by have := partsL_len l; rw [hy] at this; omega
  obtain ⟨n, hyn⟩ : ∃ n, y.length = n + 1 := ⟨y.length - 1, by have := List.length_pos_iff.2 hy0; omega⟩
  have hn1 : n < z.length := by omega
  obtain ⟨p, hp⟩ : ∃ p, z[n] = p := ⟨_, rfl⟩
  have hlast : y.getLastD [] = p := by
    rw [List.getLastD_eq_getLast?, List.getLast?_eq_getElem?, hyn, Nat.add_sub_cancel, List.getElem?_eq_getElem (by omega), List.getElem_of_eq hyz (by omega), List.getElem_take, hp]; rfl
  have hld := ldN_s1 hn1
  rw [hp] at hld
  rw [hy, hlast]
  have c4 : (n : Int) < (n : Int) + 1 := by omega
  by_cases hd : digitsB 10 p = true ∧ p ≠ []
  · have : numericB p = true := by
      unfold numericB
      rcases p with _ | ⟨a, _ | ⟨b, r⟩⟩
      · exact absurd rfl hd.2
      · simpa [hexP] using hd.1
      · have h2 := hd.1
        rw [digitsB_cons, digitsB_cons] at h2
        simp only [Bool.and_eq_true, decide_eq_true_eq] at h2
        have hb : hexP (a :: b :: r) = false := by
          show (a == 48 && (b == 120 || b == 88)) = false
          cases h3 : (b == 120 || b == 88) with
          | false => rw [Bool.and_false]
          | true =>
            simp at h3
            rcases h3 with h3 | h3
            · rw [h3, hexv_x] at h2; omega
            · rw [h3, hexv_X] at h2; omega
        rw [hb, if_neg (by simp), hd.1]; simp
    rw [this]
    simp -implicitDefEqProofs [go_sem, Tryz.f108, rPartsC, rDigitsC, hl, hy, hz, hyn, hld, c4, hd.1, hd.2, w64 (x := (n : Int)) (by omega)]
  · have hd' : (digitsB 10 p && !decide (p = [])) = false := by
      cases h1 : digitsB 10 p with
      | false => rfl
      | true =>
        simp only [Bool.true_and, Bool.not_eq_false', decide_eq_true_eq]
        exact Decidable.byContradiction fun h => hd ⟨h1, h⟩
    rcases p with _ | ⟨a, _ | ⟨b, r⟩⟩
    · simp -implicitDefEqProofs [go_sem, Tryz.f108, rPartsC, rDigitsC, hl, hy, hz, hyn, hld, c4, hd', w64 (x := (n : Int)) (by omega)]
      rfl
    · simp at hd'
      simp -implicitDefEqProofs [go_sem, Tryz.f108, rPartsC, rDigitsC, hl, hy, hz, hyn, hld, c4, hd', w64 (x := (n : Int)) (by omega), numericB, hexP]
    · have k1 : (2 : Int) ≤ (r.length : Int) + 1 + 1 := by omega
      have k2 : (0 : Int) < (r.length : Int) + 1 + 1 := by omega
      have k3 : (1 : Int) < (r.length : Int) + 1 + 1 := by omega
      simp at hd'
      by_cases e0 : a = 48
      · by_cases e1 : b = 120 ∨ b = 88
        · by_cases hr0 : r = []
          · rcases e1 with e1 | e1 <;> simp -implicitDefEqProofs [go_sem, Tryz.f108, rPartsC, rDigitsC, hl, hy, hz, hyn, hld, c4, hd', w64 (x := (n : Int)) (by omega), numericB, hexP, e0, e1, k1, k2, k3, hr0] <;> rfl
          · have k5 : ¬ (r.length : Int) + 1 + 1 = 2 := by have := List.length_pos_iff.2 hr0; omega
            subst e0
            rcases e1 with e1 | e1
            all_goals
              subst e1
              simp -implicitDefEqProofs [go_sem, Tryz.f108, rPartsC, rDigitsC, hl, hy, hz, hyn, hld, c4, hd', w64 (x := (n : Int)) (by omega), numericB, hexP, k1, k2, k3, k5, hr0]
        · have e2 := not_or.1 e1
          simp -implicitDefEqProofs [go_sem, Tryz.f108, rPartsC, rDigitsC, hl, hy, hz, hyn, hld, c4, hd', w64 (x := (n : Int)) (by omega), numericB, hexP, e0, e2.1, e2.2, k1, k2, k3]
      · simp -implicitDefEqProofs [go_sem, Tryz.f108, rPartsC, rDigitsC, hl, hy, hz, hyn, hld, c4, hd', w64 (x := (n : Int)) (by omega), numericB, hexP, e0, k1, k2, k3]
def defaultL (l : List Int) : Int × Bool := if l = [104, 116, 116, 112] ∨ l = [119, 115] then (80, true) else if l = [104, 116, 116, 112, 115] ∨ l = [119, 115, 115] then (443, true) else if l = [102, 116, 112] then (21, true) else (0, false)
def rDefaultC : Ct := fun args h => match args with | [.s l] => some (.tup [.i .i64 (defaultL l).1, .b (defaultL l).2], h) | _ => none
theorem rDefault_ok : CtOk Tryz.prog G0 53 rDefaultC := by
  refine ct_plain (n := 1) fol sound_nil (by kernel_rfl) Tryz.func53 rfl fun args h v h' hc r xs H hr hx => ?_
  unfold rDefaultC at hc; split at hc <;> (try split at hc) <;> cases hc
  rename_i l
  refine ⟨rfl, rfl, by simp [renV, bndV, renL, bndL], ?_⟩
  by_cases h1 : l = [104, 116, 116, 112]
  · simp -implicitDefEqProofs [go_sem, Tryz.f53, defaultL, h1]
  by_cases h2 : l = [119, 115]
  · simp -implicitDefEqProofs [go_sem, Tryz.f53, defaultL, h2]
  by_cases h3 : l = [104, 116, 116, 112, 115]
  · simp -implicitDefEqProofs [go_sem, Tryz.f53, defaultL, h3]
  by_cases h4 : l = [119, 115, 115]
  · simp -implicitDefEqProofs [go_sem, Tryz.f53, defaultL, h4]
  by_cases h5 : l = [102, 116, 112]
  · simp -implicitDefEqProofs [go_sem, Tryz.f53, defaultL, h5]
  · simp -implicitDefEqProofs [go_sem, Tryz.f53, defaultL, h1, h2, h3, h4, h5]
end GoD
