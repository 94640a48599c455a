import Derived.Test.YtffoolaocbgknaaGreatDoorED
/-! Percents, digits, parts as the document answers them. -/
namespace GoD
open Go Go.Proofs
set_option linter.unusedVariables false
set_option linter.unusedSimpArgs false
set_option maxHeartbeats 4000000
set_option maxRecDepth 100000
def rAsciiC : Ct := fun args h => match args with | [.s l] => some (.b (asciiB l), h) | _ => none
def rHexC : Ct := fun args h => match args with | [.i .u8 c] => some (.i .i64 (hexv c), h) | _ => none
theorem rHex_ok : CtOk Tryz.prog G0 85 rHexC := by
  refine ct_plain (n := 1) fol sound_nil (by kernel_rfl) Tryz.func85 rfl fun args h v h' hc r xs H hr hx => ?_
  unfold rHexC at hc; split at hc <;> (try split at hc) <;> cases hc
  rename_i c
  obtain ⟨hb, _⟩ := int_of hx
  have hb : 0 ≤ c ∧ c < 256 := by simpa [lo, hi, IntKind.signed, IntKind.bits] using hb
  refine ⟨rfl, rfl, by simp [renV, bndV], ?_⟩
  unfold hexv
  by_cases h1 : 48 ≤ c <;> by_cases h2 : c ≤ 57 <;> by_cases h3 : 97 ≤ c <;> by_cases h4 : c ≤ 102 <;> by_cases h5 : 65 ≤ c <;> by_cases h6 : c ≤ 70 <;> (try omega) <;>
  (simp -implicitDefEqProofs [go_sem, Tryz.f85, h1, h2, h3, h4, h5, h6, V.i.injEq]; try (simp (disch := omega) only [w64]; try omega))
def rDigitsC : Ct := fun args h => match args with | [.s l, .i .i64 b] => some (.b (digitsB b l && !decide (l = [])), h) | _ => none
theorem rDigits_ok : CtOk Tryz.prog G0 93 rDigitsC := by
  refine ct_plain (n := 2) fol (sound_cons rHex_ok sound_nil) (by kernel_rfl) Tryz.func93 rfl fun args h v h' hc r xs H hr hx => ?_
  unfold rDigitsC at hc; split at hc <;> (try split at hc) <;> cases hc
  rename_i l b
  obtain ⟨⟨hs, hl⟩, _⟩ := str_of hx
  refine ⟨rfl, rfl, by simp [renV, bndV], ?_⟩
  simp -implicitDefEqProofs [go_sem, Tryz.f93]
  refine run_inv _ _ _ _ _ (fun (i : Nat) t h1 => i ≤ l.length ∧ get t 0 = .s l ∧ get t 1 = .i .i64 b ∧ get t 5 = .i .i64 i ∧ digitsB b (l.drop i) = digitsB b l ∧ Ext h h1) (fun i => l.length - i) _ (x := 0) ⟨by simp, rfl, rfl, rfl, rfl, Ext.refl h⟩ ?_
  rintro i t h1 ⟨hi, t0, t1, t5, hd, he⟩ ih
  by_cases hlt : i < l.length
  · obtain ⟨d, hc⟩ : ∃ d, l[i] = d := ⟨_, rfl⟩
    rw [List.drop_eq_getElem_cons hlt, hc, digitsB_cons] at hd
    by_cases c1 : hexv d < 0
    · rw [decide_eq_false (by omega), Bool.false_and] at hd
      simp -implicitDefEqProofs [go_sem, Tryz.f93, t0, t1, t5, hlt, hc, c1, rHexC, ← hd, he]
    · by_cases c2 : b ≤ hexv d
      · rw [decide_eq_false (by omega), Bool.false_and] at hd
        simp -implicitDefEqProofs [go_sem, Tryz.f93, t0, t1, t5, hlt, hc, c1, c2, rHexC, ← hd, he]
      · rw [decide_eq_true (by omega), Bool.true_and] at hd
        simp -implicitDefEqProofs [go_sem, Tryz.f93, t0, t1, t5, hlt, hc, c1, c2, rHexC]
        refine ih (i + 1) _ _ (by omega) ⟨by omega, ?_⟩
        simp -implicitDefEqProofs [go_sem, t0, t1, t5, i64_1 hl hlt, he, hd]
  · have e0 : l.drop i = [] := List.drop_eq_nil_of_le (by omega)
    rw [e0, show digitsB b [] = true from rfl] at hd
    simp -implicitDefEqProofs [go_sem, Tryz.f93, t0, t1, t5, hlt, ← hd, he]
    cases l <;> simp
def rDecodeC : Ct := fun args h => match args with | [.s l] => if l.length ≤ 1048576 then some (.s (decodeL l), h) else none | _ => none
theorem rDecode_ok : CtOk Tryz.prog G0 49 rDecodeC := by
  refine ct_plain (n := 1) fol (sound_cons rHex_ok sound_nil) (by kernel_rfl) Tryz.func49 rfl fun args h v h' hc r xs H hr hx => ?_
  unfold rDecodeC at hc; split at hc <;> (try split at hc) <;> cases hc
  rename_i l hl
  obtain ⟨⟨hs, _⟩, _⟩ := str_of hx
  refine ⟨rfl, rfl, by simp [renV, bndV], ?_⟩
  simp -implicitDefEqProofs [go_sem, Tryz.f49]
  refine run_inv _ _ _ _ _ (fun (x : Nat × Nat × List Int) t h1 => x.1 ≤ l.length ∧ get t 0 = .s l ∧ get t 4 = .i .i64 x.1 ∧ get t 3 = .sl x.2.1 0 x.2.2.length 1 ∧ hget h1 x.2.1 = ⟨2, false, bts x.2.2⟩ ∧ h.length ≤ x.2.1 ∧ x.2.1 < h1.length ∧ Ext h h1 ∧ x.2.2.length ≤ x.1 ∧ x.2.2 ++ decodeL (l.drop x.1) = decodeL l) (fun x => l.length - x.1) _ (x := (0, h.length, [])) ⟨by simp, rfl, rfl, rfl, by simp -implicitDefEqProofs [go_sem, bts_nil], by simp, by simp, by simp -implicitDefEqProofs [go_sem], by simp, by simp⟩ ?_
  rintro ⟨i, m, acc⟩ t h1 ⟨hi, t0, t4, t3, hg, hm, hm', he, hal, ha⟩ ih
  simp only at hi t0 t4 t3 hg hm hm' hal ha
  have hmn : m ≠ h1.length := by omega
  have hi6 : i < 1152921504606846976 := by omega
  have e1 : (acc.length + 1) ≤ 1099511627776 := by omega
  by_cases hlt : i < l.length
  · obtain ⟨d, hc⟩ : ∃ d, l[i] = d := ⟨_, rfl⟩
    have hdr : l.drop i = d :: l.drop (i + 1) := by rw [List.drop_eq_getElem_cons hlt, hc]
    rw [hdr] at ha
    by_cases c1 : d = 37
    · by_cases c2 : i + 2 < l.length
      · obtain ⟨a, hca⟩ : ∃ a, l[i + 1] = a := ⟨_, rfl⟩
        obtain ⟨b, hcb⟩ : ∃ b, l[i + 2] = b := ⟨_, rfl⟩
        have hdr2 : l.drop (i + 1) = a :: b :: l.drop (i + 3) := by rw [List.drop_eq_getElem_cons (show i + 1 < l.length by omega), hca, List.drop_eq_getElem_cons c2, hcb]
        have c2' : i + 1 < l.length := by omega
        have x1 := hexv_le a
        have x2 := hexv_le b
        by_cases c3 : 0 ≤ hexv a
        · by_cases c4 : 0 ≤ hexv b
          · have m1 : (16 * hexv a + hexv b) % 256 = 16 * hexv a + hexv b := by omega
            rw [c1, hdr2, decodeL_hex c3 c4] at ha
            simp -implicitDefEqProofs [go_sem, Tryz.f49, t0, t4, t3, hlt, hc, c1, c2, c2', c3, c4, rHexC, hg, hm', ldN_b rfl, e1, hmn, i64_n hi6, i64_2 hi6, hca, hcb]
            refine ih (i + 3, h1.length + 1, acc ++ [16 * hexv a + hexv b]) _ _ (by simp; omega) ⟨by simp; omega, ?_⟩
            simp -implicitDefEqProofs [go_sem, t0, t3, t4, i64_3 hi6, he, hm, m1, w64 (x := 16 * hexv a) (by omega), w64 (x := 16 * hexv a + hexv b) (by omega)]
            exact ⟨by omega, by omega, ha⟩
          · rw [decodeL_other fun a' b' r e _ _ h => by rw [hdr2] at e; simp at e; rw [← e.2.1] at h; exact c4 h] at ha
            simp -implicitDefEqProofs [go_sem, Tryz.f49, t0, t4, t3, hlt, hc, c1, c2, c2', c3, c4, hca, hcb, rHexC, hg, hm', ldN_b rfl, e1, hmn, i64_n hi6, i64_2 hi6]
            refine ih (i + 1, h1.length + 1, acc ++ [d]) _ _ (by simp; omega) ⟨hlt, ?_⟩
            simp -implicitDefEqProofs [go_sem, t0, t3, t4, i64_n hi6, he, hm, c1]
            rw [c1] at ha
            exact ⟨by omega, hal, ha⟩
        · rw [decodeL_other fun a' b' r e _ h _ => by rw [hdr2] at e; simp at e; rw [← e.1] at h; exact c3 h] at ha
          simp -implicitDefEqProofs [go_sem, Tryz.f49, t0, t4, t3, hlt, hc, c1, c2, c2', c3, hca, hcb, rHexC, hg, hm', ldN_b rfl, e1, hmn, i64_n hi6, i64_2 hi6]
          refine ih (i + 1, h1.length + 1, acc ++ [d]) _ _ (by simp; omega) ⟨hlt, ?_⟩
          simp -implicitDefEqProofs [go_sem, t0, t3, t4, i64_n hi6, he, hm, c1]
          rw [c1] at ha
          exact ⟨by omega, hal, ha⟩
      · rw [decodeL_other fun a' b' r e _ _ _ => by have := congrArg List.length e; simp at this; omega] at ha
        simp -implicitDefEqProofs [go_sem, Tryz.f49, t0, t4, t3, hlt, hc, c1, c2, rHexC, hg, hm', ldN_b rfl, e1, hmn, i64_n hi6, i64_2 hi6]
        refine ih (i + 1, h1.length + 1, acc ++ [d]) _ _ (by simp; omega) ⟨hlt, ?_⟩
        simp -implicitDefEqProofs [go_sem, t0, t3, t4, i64_n hi6, he, hm, c1]
        rw [c1] at ha
        exact ⟨by omega, hal, ha⟩
    · rw [decodeL_other fun _ _ _ _ e => absurd e c1] at ha
      simp -implicitDefEqProofs [go_sem, Tryz.f49, t0, t4, t3, hlt, hc, c1, hg, hm', ldN_b rfl, e1, hmn]
      refine ih (i + 1, h1.length + 1, acc ++ [d]) _ _ (by simp; omega) ⟨hlt, ?_⟩
      simp -implicitDefEqProofs [go_sem, t0, t3, t4, i64_n hi6, he, hm]
      exact ⟨by omega, hal, ha⟩
  · have e : i = l.length := by omega
    rw [e, List.drop_length, show decodeL [] = [] from rfl, List.append_nil] at ha
    simp -implicitDefEqProofs [go_sem, Tryz.f49, t0, t3, t4, hlt, hg, hm', ldN_b rfl, e, he]
    exact ha
end GoD
