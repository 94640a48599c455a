import Derived.Test.YtffoolaocbgknaaGreatDoorEF
/-! Addresses as the document answers them: numbers. -/
namespace GoD
open Go Go.Proofs
set_option linter.unusedVariables false
set_option linter.unusedSimpArgs false
set_option maxHeartbeats 4000000
set_option maxRecDepth 100000
def rNumberC : Ct := fun args h => match args with | [.s l] => if l.length ≤ 1048576 then some (.tup [.i .u32 (okV (numberL l)).1, .b (okV (numberL l)).2], h) else none | _ => none
theorem rNumber_ok : CtOk Tryz.prog G0 81 rNumberC := by
  refine ct_plain (n := 1) fol (sound_cons rParts_ok (sound_cons rPart_ok sound_nil)) (by kernel_rfl) Tryz.func81 rfl fun args h v h' hc r xs H hr hx => ?_
  unfold rNumberC at hc; split at hc <;> (try split at hc) <;> cases hc
  rename_i l hl
  obtain ⟨⟨hs, _⟩, _⟩ := str_of hx
  refine ⟨rfl, rfl, by simp [renV, bndV, renL, bndL], ?_⟩
  obtain ⟨z, hz⟩ : ∃ z, splitL 46 l = z := ⟨_, rfl⟩
  obtain ⟨y, hy⟩ : ∃ y, partsL l = y := ⟨_, rfl⟩
  have hyz : y = z.take y.length := by rw [← hy, ← hz]; exact partsL_take l
  have hy0 : y ≠ [] := hy ▸ partsL_ne l
  have hyl : y.length ≤ z.length := by have := congrArg List.length hyz; simp at this; omega
  have hzl : ∀ p ∈ z, p.length ≤ 1048576 := fun p hp => Nat.le_trans (splitL_mem (hz ▸ hp)) hl
  obtain ⟨v, hv⟩ : ∃ v, numberL l = v := ⟨_, rfl⟩
  rw [hv]
  have hp0 : 0 < y.length := List.length_pos_iff.2 hy0
  by_cases c1 : 4 < y.length
  · have : v = none := by rw [← hv]; unfold numberL; rw [hy, if_pos c1]
    subst this
    have c1' : (4 : Int) < y.length := by omega
    simp -implicitDefEqProofs [go_sem, Tryz.f81, rPartsC, hl, hy, hz, c1', c1, okV]
  · have hv' : numL 4 y = v := by rw [← hv]; unfold numberL; rw [hy, if_neg c1]
    have c1' : ¬ (4 : Int) < y.length := by omega
    simp -implicitDefEqProofs [go_sem, Tryz.f81, rPartsC, hl, hy, hz, c1', c1]
    refine run_inv _ _ _ _ _ (fun (x : Nat × Int) t h1 => x.1 ≤ y.length ∧ get t 4 = .sl h.length 0 y.length 1 ∧ get t 5 = .i .u64 x.2 ∧ get t 6 = .i .i64 x.1 ∧ hget h1 h.length = ⟨2, false, sts z⟩ ∧ Ext h h1 ∧ 0 ≤ x.2 ∧ (x.1 < y.length → x.2 + 2 ^ (8 * (4 - x.1)) ≤ 4294967296 ∧ (numL (4 - x.1) (y.drop x.1)).map (fun n => x.2 + n) = v) ∧ (x.1 = y.length → v = some x.2 ∧ x.2 < 4294967296)) (fun x => y.length - x.1) _ (x := (0, 0)) ⟨by simp, by simp -implicitDefEqProofs [go_sem], by simp -implicitDefEqProofs [go_sem], by simp -implicitDefEqProofs [go_sem], by simp -implicitDefEqProofs [go_sem], by simp -implicitDefEqProofs [go_sem], by simp, fun _ => ⟨by decide, by simp; exact hv'⟩, fun e => by simp at e; omega⟩ ?_
    rintro ⟨i, s⟩ t h1 ⟨hi, t4, t5, t6, hg, he, hs0, hA, hB⟩ ih
    simp only at hi t4 t5 t6 hs0 hA hB
    by_cases hlt : i < y.length
    · obtain ⟨hA1, hA2⟩ := hA hlt
      have hiz : i < z.length := by omega
      obtain ⟨p, hp⟩ : ∃ p, z[i] = p := ⟨_, rfl⟩
      have hpy : y[i] = p := by rw [← hp, List.getElem_of_eq hyz hlt, List.getElem_take]
      have hpl : p.length ≤ 1048576 := hzl p (hp ▸ List.getElem_mem hiz)
      have hld := ldN_s1 hiz
      rw [hp] at hld
      have hdr : y.drop i = p :: y.drop (i + 1) := by rw [List.drop_eq_getElem_cons hlt, hpy]
      rw [hdr] at hA2
      have hi3 : i ≤ 3 := by omega
      by_cases hlast : i + 1 = y.length
      · have hnil : y.drop (i + 1) = [] := List.drop_eq_nil_of_le (by omega)
        rw [hnil] at hA2
        have hli : (i : Int) + 1 = y.length := by omega
        have hl2 : ¬ i + 1 < y.length := by omega
        cases hpv : pieceV p with
        | none =>
          have : v = none := by rw [← hA2]; simp [numL, hpv]
          subst this
          simp -implicitDefEqProofs [go_sem, Tryz.f81, rPartC, t4, t5, t6, hlt, hg, hld, hpl, hpv, okV, he]
        | some n =>
          obtain ⟨n0, n1⟩ := pieceV_le hpv
          have tn : (8 * (5 - (y.length : Int))).toNat = 8 * (4 - i) := by omega
          have ng : ¬ (8 * (5 - (y.length : Int)) < 0) := by omega
          have mn : min (8 * (4 - i)) 64 = 8 * (4 - i) := by omega
          obtain ⟨q, hq⟩ : ∃ q : Int, 2 ^ (8 * (4 - i)) = q := ⟨_, rfl⟩
          rw [hq] at hA1
          have hq0 : 0 < q := by rw [← hq]; exact Int.pow_pos (by omega)
          by_cases c2 : q ≤ n
          · have : v = none := by rw [← hA2]; simp [numL, hpv, hq]; omega
            subst this
            simp -implicitDefEqProofs [go_sem, Tryz.f81, rPartC, t4, t5, t6, hlt, hg, hld, hpl, hpv, okV, he, hl2, hli, tn, ng, mn, hq, c2, i64_n (show i < 1152921504606846976 by omega), w64 (x := (y.length : Int)) (by omega), w64 (x := 5 - (y.length : Int)) (by omega), w64 (x := 8 * (5 - (y.length : Int))) (by omega), wu64 (x := q) (by omega)]
          · have hv2 : v = some (s + n) := by rw [← hA2]; simp [numL, hpv, hq]; omega
            simp -implicitDefEqProofs [go_sem, Tryz.f81, rPartC, t4, t5, t6, hlt, hg, hld, hpl, hpv, okV, he, hl2, hli, tn, ng, mn, hq, c2, i64_n (show i < 1152921504606846976 by omega), w64 (x := (y.length : Int)) (by omega), w64 (x := 5 - (y.length : Int)) (by omega), w64 (x := 8 * (5 - (y.length : Int))) (by omega), wu64 (x := q) (by omega)]
            refine ih (i + 1, s + n) _ _ (by simp; omega) ⟨hlt, ?_⟩
            simp -implicitDefEqProofs [go_sem, t4, t5, t6, hg, he, i64_n (show i < 1152921504606846976 by omega), wu64 (x := s + n) (by omega), hli]
            exact ⟨by omega, fun h => absurd h (by omega), fun _ => ⟨hv2, by omega⟩⟩
      · have hne : y.drop (i + 1) ≠ [] := fun e => by have := congrArg List.length e; simp at this; omega
        rw [numL_more hne] at hA2
        have hlt2 : i + 1 < y.length := by omega
        have hli : ¬ (i : Int) + 1 = y.length := by omega
        cases hpv : pieceV p with
        | none =>
          rw [hpv] at hA2
          have : v = none := by rw [← hA2]; rfl
          subst this
          simp -implicitDefEqProofs [go_sem, Tryz.f81, rPartC, t4, t5, t6, hlt, hg, hld, hpl, hpv, okV, he]
        | some n =>
          rw [hpv] at hA2
          obtain ⟨n0, n1⟩ := pieceV_le hpv
          by_cases c2 : 255 < n
          · have : v = none := by rw [← hA2]; simp [c2]
            subst this
            simp -implicitDefEqProofs [go_sem, Tryz.f81, rPartC, t4, t5, t6, hlt, hg, hld, hpl, hpv, okV, he, c2, hlt2, i64_n (show i < 1152921504606846976 by omega)]
          · have tn : (8 * (3 - (i : Int))).toNat = 8 * (3 - i) := by omega
            have ng : ¬ (8 * (3 - (i : Int)) < 0) := by omega
            have mn : min (8 * (3 - i)) 64 = 8 * (3 - i) := by omega
            obtain ⟨q, hq⟩ : ∃ q : Int, 2 ^ (8 * (3 - i)) = q := ⟨_, rfl⟩
            have hq0 : 0 < q := by rw [← hq]; exact Int.pow_pos (by omega)
            have hq1 : (2 : Int) ^ (8 * (4 - i)) = 256 * q := by rw [← hq, show 8 * (4 - i) = 8 * (3 - i) + 8 by omega, Int.pow_add]; omega
            rw [hq1] at hA1
            have hm0 : 0 ≤ n * q := Int.mul_nonneg n0 (by omega)
            have hm1 : n * q ≤ 255 * q := Int.mul_le_mul_of_nonneg_right (by omega) (by omega)
            rw [Option.bind_some, if_neg (by omega), show 4 - i - 1 = 3 - i by omega, hq, Option.map_map] at hA2
            simp -implicitDefEqProofs [go_sem, Tryz.f81, rPartC, t4, t5, t6, hlt, hg, hld, hpl, hpv, okV, he, c2, hlt2, hli, tn, ng, mn, hq, i64_n (show i < 1152921504606846976 by omega), w64 (x := 3 - (i : Int)) (by omega), w64 (x := 8 * (3 - (i : Int))) (by omega), wu64 (x := n * q) (by omega)]
            refine ih (i + 1, s + n * q) _ _ (by simp; omega) ⟨hlt, ?_⟩
            simp -implicitDefEqProofs [go_sem, t4, t5, t6, hg, he, i64_n (show i < 1152921504606846976 by omega), wu64 (x := s + n * q) (by omega)]
            refine ⟨by omega, fun _ => ⟨?_, ?_⟩, fun h => absurd h (by omega)⟩
            · rw [hq]; omega
            · rw [← hA2]
              congr 1; funext a; simp [Int.add_assoc]
    · have e : i = y.length := by omega
      obtain ⟨hB1, hB2⟩ := hB e
      simp -implicitDefEqProofs [go_sem, Tryz.f81, t4, t5, t6, hlt, hB1, okV, he, wu32m]
      omega
def rAddressC : Ct := fun args h => match args with | [.i .u32 a] => some (.s (textL a), h) | _ => none
theorem decI_nn {n : Int} (h : 0 ≤ n) : decI n = decD n.toNat := by rw [decI, if_neg (by omega)]
theorem decD_len (n : Nat) (h : n < 256) : (decD n).length ≤ 3 := by
  by_cases h0 : n = 0
  · subst h0; rw [decD]; simp
  · rw [decD_rev (by omega), List.length_reverse]; exact revD_len 3 n (by omega)
theorem and255 {c : Int} (h : 0 ≤ c ∧ c < 4294967296) : Go.bits .and .u32 c 255 = c % 256 :=
  bits_mask .u32 32 (by decide) (fun n h₀ h₁ => by rw [wu32m]; omega) 8 (by decide) c h.1 (by omega)
theorem rAddress_ok : CtOk Tryz.prog G0 82 rAddressC := by
  refine ct_plain (n := 1) fol (sound_cons rDecimal_ok sound_nil) (by kernel_rfl) Tryz.func82 rfl fun args h v h' hc r xs H hr hx => ?_
  unfold rAddressC at hc; split at hc <;> (try split at hc) <;> cases hc
  rename_i a
  obtain ⟨hb, _⟩ := int_of hx
  have hb : 0 ≤ a ∧ a < 4294967296 := by simpa [lo, hi, IntKind.signed, IntKind.bits] using hb
  refine ⟨rfl, rfl, by simp [renV, bndV], ?_⟩
  obtain ⟨d1, e1⟩ : ∃ d, decD (a / 16777216).toNat = d := ⟨_, rfl⟩
  obtain ⟨d2, e2⟩ : ∃ d, decD (a / 65536 % 256).toNat = d := ⟨_, rfl⟩
  obtain ⟨d3, e3⟩ : ∃ d, decD (a / 256 % 256).toNat = d := ⟨_, rfl⟩
  obtain ⟨d4, e4⟩ : ∃ d, decD (a % 256).toNat = d := ⟨_, rfl⟩
  have l1 := decD_len (a / 16777216).toNat (by omega)
  have l2 := decD_len (a / 65536 % 256).toNat (by omega)
  have l3 := decD_len (a / 256 % 256).toNat (by omega)
  have l4 := decD_len (a % 256).toNat (by omega)
  rw [e1] at l1; rw [e2] at l2; rw [e3] at l3; rw [e4] at l4
  have f1 : decI (a / 16777216 % 256) = d1 := by rw [decI_nn (by omega), ← e1]; congr 1; omega
  have f2 : decI (a / 65536 % 256) = d2 := by rw [decI_nn (by omega), ← e2]
  have f3 : decI (a / 256 % 256) = d3 := by rw [decI_nn (by omega), ← e3]
  have f4 : decI (a % 256) = d4 := by rw [decI_nn (by omega), ← e4]
  have ht : textL a = d1 ++ [46] ++ d2 ++ [46] ++ d3 ++ [46] ++ d4 := by rw [textL, e1, e2, e3, e4]
  rw [ht]
  have k1 : d1.length ≤ 281474976710656 := by omega
  have k2 : d1.length + 1 ≤ 281474976710656 := by omega
  have k3 : d1.length + 1 + d2.length ≤ 281474976710656 := by omega
  have k4 : d1.length + (d2.length + 1) + 1 ≤ 281474976710656 := by omega
  have k5 : d1.length + (d2.length + 1 + 1) + d3.length ≤ 281474976710656 := by omega
  have k6 : d1.length + (d2.length + (d3.length + 1) + 1) + 1 ≤ 281474976710656 := by omega
  have k7 : d1.length + (d2.length + (d3.length + 1 + 1) + 1) + d4.length ≤ 281474976710656 := by omega
  simp -implicitDefEqProofs [go_sem, Tryz.f82]
  rw [run_again]
  simp -implicitDefEqProofs [go_sem, Tryz.f82, rDecimalC, w64 (x := 24) (by omega), and255 (c := a / 16777216) (by omega), w64 (x := a / 16777216 % 256) (by omega), f1, k1, k2]
  rw [run_again]
  simp -implicitDefEqProofs [go_sem, Tryz.f82, rDecimalC, w64 (x := 2) (by omega), w64 (x := 16) (by omega), and255 (c := a / 65536) (by omega), w64 (x := a / 65536 % 256) (by omega), f2, k3, k4]
  rw [run_again]
  simp -implicitDefEqProofs [go_sem, Tryz.f82, rDecimalC, w64 (x := 1) (by omega), w64 (x := 8) (by omega), and255 (c := a / 256) (by omega), w64 (x := a / 256 % 256) (by omega), f3, k5, k6]
  rw [run_again]
  simp -implicitDefEqProofs [go_sem, Tryz.f82, rDecimalC, w64 (x := 0) (by omega), and255 (c := a) (by omega), w64 (x := a % 256) (by omega), f4, k7]
  rw [run_again]
  simp -implicitDefEqProofs [go_sem, Tryz.f82, w64 (x := -1) (by omega)]
end GoD
