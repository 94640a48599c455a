import Derived.Test.YtffoolaocbgknaaGreatDoorPA
/-! Bytes, percents and ends of texts as the program answers them. -/
namespace GoD
open Go Go.Proofs
set_option linter.unusedVariables false
set_option linter.unusedSimpArgs false
set_option maxHeartbeats 4000000
set_option maxRecDepth 100000
def pLetterC : Ct := fun args h => match args with | [.i .u8 c] => some (.b (letterB c), h) | _ => none
theorem pLetter_ok : CtOk Tryz.prog G0 63 pLetterC := by
  refine ct_plain (n := 1) fol sound_nil (by kernel_rfl) Tryz.func63 rfl fun args h v h' hc r xs H hr hx => ?_
  unfold pLetterC at hc; split at hc <;> (try split at hc) <;> cases hc
  rename_i c
  refine ⟨rfl, rfl, by simp [renV, bndV], ?_⟩
  by_cases h1 : 97 ≤ c <;> by_cases h2 : c ≤ 122 <;> by_cases h3 : 65 ≤ c <;> by_cases h4 : c ≤ 90 <;> (try omega) <;>
  simp -implicitDefEqProofs [go_sem, Tryz.f63, h1, h2, h3, h4, letterB]
def pDigitC : Ct := fun args h => match args with | [.i .u8 c] => some (.b (digitB c), h) | _ => none
theorem pDigit_ok : CtOk Tryz.prog G0 66 pDigitC := by
  refine ct_plain (n := 1) fol sound_nil (by kernel_rfl) Tryz.func66 rfl fun args h v h' hc r xs H hr hx => ?_
  unfold pDigitC at hc; split at hc <;> (try split at hc) <;> cases hc
  rename_i c
  refine ⟨rfl, rfl, by simp [renV, bndV], ?_⟩
  by_cases h1 : 48 ≤ c <;> by_cases h2 : c ≤ 57 <;> simp -implicitDefEqProofs [go_sem, Tryz.f66, h1, h2, digitB]
def pSchemedC : Ct := fun args h => match args with | [.i .u8 c] => some (.b (schB c), h) | _ => none
theorem pSchemed_ok : CtOk Tryz.prog G0 62 pSchemedC := by
  refine ct_plain (n := 1) fol (sound_cons pLetter_ok (sound_cons pDigit_ok sound_nil)) (by kernel_rfl) Tryz.func62 rfl fun args h v h' hc r xs H hr hx => ?_
  unfold pSchemedC at hc; split at hc <;> (try split at hc) <;> cases hc
  rename_i c
  refine ⟨rfl, rfl, by simp [renV, bndV], ?_⟩
  cases h1 : letterB c with
  | true => simp -implicitDefEqProofs [go_sem, Tryz.f62, pLetterC, pDigitC, h1, schB]
  | false =>
    cases h2 : digitB c with
    | true => simp -implicitDefEqProofs [go_sem, Tryz.f62, pLetterC, pDigitC, h1, h2, schB]
    | false =>
      by_cases h3 : c = 43
      · simp -implicitDefEqProofs [go_sem, Tryz.f62, pLetterC, pDigitC, h1, h2, eq_true h3, schB]
      · by_cases h4 : c = 45
        · simp -implicitDefEqProofs [go_sem, Tryz.f62, pLetterC, pDigitC, h1, h2, h3, eq_true h4, schB]
        · simp -implicitDefEqProofs [go_sem, Tryz.f62, pLetterC, pDigitC, h1, h2, h3, h4, schB]
def pLabelledC : Ct := fun args h => match args with | [.i .u8 c] => some (.b (labB c), h) | _ => none
theorem pLabelled_ok : CtOk Tryz.prog G0 65 pLabelledC := by
  refine ct_plain (n := 1) fol (sound_cons pLetter_ok (sound_cons pDigit_ok sound_nil)) (by kernel_rfl) Tryz.func65 rfl fun args h v h' hc r xs H hr hx => ?_
  unfold pLabelledC at hc; split at hc <;> (try split at hc) <;> cases hc
  rename_i c
  refine ⟨rfl, rfl, by simp [renV, bndV], ?_⟩
  cases h1 : letterB c with
  | true => simp -implicitDefEqProofs [go_sem, Tryz.f65, pLetterC, pDigitC, h1, labB]
  | false =>
    cases h2 : digitB c with
    | true => simp -implicitDefEqProofs [go_sem, Tryz.f65, pLetterC, pDigitC, h1, h2, labB]
    | false =>
      by_cases h3 : c = 45
      · simp -implicitDefEqProofs [go_sem, Tryz.f65, pLetterC, pDigitC, h1, h2, eq_true h3, labB]
      · simp -implicitDefEqProofs [go_sem, Tryz.f65, pLetterC, pDigitC, h1, h2, h3, labB]
theorem idxL_neg (c : Int) (l : List Int) : decide (idxL c l < 0) = !decide (c ∈ l) := by
  have h1 := idxL_ge c l
  have h2 := idxL_count c l
  by_cases h : c ∈ l
  · have : ¬ idxL c l = -1 := fun e => by rw [h2, List.count_eq_zero] at e; exact e h
    rw [decide_eq_true h, decide_eq_false (by omega)]; rfl
  · have : idxL c l = -1 := by rw [h2, List.count_eq_zero]; exact h
    rw [decide_eq_false h, this]; rfl
def pPathedC : Ct := fun args h => match args with | [.i .u8 c] => some (.b (pathC c), h) | _ => none
theorem pPathed_ok : CtOk Tryz.prog G0 67 pPathedC := by
  refine ct_plain (n := 1) fol (sound_cons pIdx2_ok sound_nil) (by kernel_rfl) Tryz.func67 rfl fun args h v h' hc r xs H hr hx => ?_
  unfold pPathedC at hc; split at hc <;> (try split at hc) <;> cases hc
  rename_i c
  refine ⟨rfl, rfl, by simp [renV, bndV], ?_⟩
  have hn := idxL_neg c [63, 35, 59, 44]
  by_cases h1 : 33 ≤ c <;> by_cases h2 : c ≤ 126 <;> simp -implicitDefEqProofs [go_sem, Tryz.f67, h1, h2, pIdx2C, pathC, hn, -List.mem_cons]
def hexT : List Int := [48, 49, 50, 51, 52, 53, 54, 55, 56, 57, 65, 66, 67, 68, 69, 70]
theorem hexIdx {c : Int} (h : 0 ≤ c ∧ c < 256) : idxL (if 97 ≤ c ∧ c ≤ 102 then c - 32 else c) hexT = hexv c := by
  have key : ∀ n : Nat, n < 256 → idxL (if 97 ≤ (n : Int) ∧ (n : Int) ≤ 102 then (n : Int) - 32 else n) hexT = hexv n := by decide +kernel
  have := key c.toNat (by omega)
  rwa [Int.toNat_of_nonneg h.1] at this
theorem or16 {a b : Int} (ha : 0 ≤ a ∧ a ≤ 15) (hb : 0 ≤ b ∧ b ≤ 15) : Go.bits .or .i64 (16 * a) b = 16 * a + b := by
  have key : ∀ n : Nat, n < 16 → ∀ m : Nat, m < 16 → Go.bits .or .i64 (16 * (n : Int)) m = 16 * (n : Int) + m := by decide +kernel
  have := key a.toNat (by omega) b.toNat (by omega)
  rwa [Int.toNat_of_nonneg ha.1, Int.toNat_of_nonneg hb.1] at this
def pHexDC : Ct := fun args h => match args with | [.i .u8 c] => some (.i .i64 (hexv c), h) | _ => none
theorem pHexD_ok : CtOk Tryz.prog G0 104 pHexDC := by
  refine ct_plain (n := 1) fol (sound_cons pIdx2_ok sound_nil) (by kernel_rfl) Tryz.func104 rfl fun args h v h' hc r xs H hr hx => ?_
  unfold pHexDC at hc; split at hc <;> (try split at hc) <;> cases hc
  rename_i c
  have hb := byteOf hx
  refine ⟨rfl, rfl, by simp [renV, bndV], ?_⟩
  have hi := hexIdx hb
  unfold hexT at hi
  by_cases h1 : 97 ≤ c
  · by_cases h2 : c ≤ 102
    · have e1 : (c - 32) % 256 = c - 32 := by omega
      rw [if_pos ⟨h1, h2⟩] at hi
      simp -implicitDefEqProofs [go_sem, Tryz.f104, h1, h2, e1, pIdx2C, hi]
    · rw [if_neg fun e => h2 e.2] at hi
      simp -implicitDefEqProofs [go_sem, Tryz.f104, h1, h2, pIdx2C, hi]
  · rw [if_neg fun e => h1 e.1] at hi
    simp -implicitDefEqProofs [go_sem, Tryz.f104, h1, pIdx2C, hi]
def pDecodeC : Ct := fun args h => match args with | [.s l] => if l.length ≤ 1048576 then some (.s (decodeL l), h) else none | _ => none
theorem pDecode_ok : CtOk Tryz.prog G0 84 pDecodeC := by
  refine ct_plain (n := 1) fol (sound_cons pHexD_ok sound_nil) (by kernel_rfl) Tryz.func84 rfl fun args h v h' hc r xs H hr hx => ?_
  unfold pDecodeC at hc; split at hc <;> (try split at hc) <;> cases hc
  rename_i l hl
  obtain ⟨⟨hs, _⟩, _⟩ := str_of hx
  refine ⟨rfl, rfl, by simp [renV, bndV], ?_⟩
  simp -implicitDefEqProofs [go_sem, Tryz.f84]
  refine run_inv _ _ _ _ _ (fun (x : Nat × Nat × List Int) t h1 => x.1 ≤ l.length ∧ get t 0 = .s l ∧ get t 4 = .i .i64 x.1 ∧ get t 3 = .sl x.2.1 0 x.2.2.length 1 ∧ hget h1 x.2.1 = ⟨2, false, bts x.2.2⟩ ∧ h.length ≤ x.2.1 ∧ x.2.1 < h1.length ∧ Ext h h1 ∧ x.2.2.length ≤ x.1 ∧ x.2.2 ++ decodeL (l.drop x.1) = decodeL l) (fun x => l.length - x.1) _ (x := (0, h.length, [])) ⟨by simp, rfl, rfl, rfl, by simp -implicitDefEqProofs [go_sem, bts_nil], by simp, by simp, by simp -implicitDefEqProofs [go_sem], by simp, by simp⟩ ?_
  rintro ⟨i, m, acc⟩ t h1 ⟨hi, t0, t4, t3, hg, hm, hm', he, hal, ha⟩ ih
  simp only at hi t0 t4 t3 hg hm hm' hal ha
  have hmn : m ≠ h1.length := by omega
  have hi6 : i < 1152921504606846976 := by omega
  have e1 : (acc.length + 1) ≤ 1099511627776 := by omega
  by_cases hlt : i < l.length
  · obtain ⟨d, hc⟩ : ∃ d, l[i] = d := ⟨_, rfl⟩
    have hdr : l.drop i = d :: l.drop (i + 1) := by rw [List.drop_eq_getElem_cons hlt, hc]
    rw [hdr] at ha
    by_cases c1 : d = 37
    · by_cases c2 : i + 2 < l.length
      · obtain ⟨a, hca⟩ : ∃ a, l[i + 1] = a := ⟨_, rfl⟩
        obtain ⟨b, hcb⟩ : ∃ b, l[i + 2] = b := ⟨_, rfl⟩
        have hdr2 : l.drop (i + 1) = a :: b :: l.drop (i + 3) := by rw [List.drop_eq_getElem_cons (show i + 1 < l.length by omega), hca, List.drop_eq_getElem_cons c2, hcb]
        have c2' : i + 1 < l.length := by omega
        have x1 := hexv_le a
        have x2 := hexv_le b
        by_cases c3 : 0 ≤ hexv a
        · by_cases c4 : 0 ≤ hexv b
          · have m1 : (16 * hexv a + hexv b) % 256 = 16 * hexv a + hexv b := by omega
            have m2 : hexv a * 16 = 16 * hexv a := Int.mul_comm _ _
            have m3 := or16 ⟨c3, x1.2⟩ ⟨c4, x2.2⟩
            rw [c1, hdr2, decodeL_hex c3 c4] at ha
            simp -implicitDefEqProofs [go_sem, Tryz.f84, t0, t4, t3, hlt, hc, c1, c2, c2', c3, c4, pHexDC, hg, hm', ldN_b rfl, e1, hmn, i64_n hi6, i64_2 hi6, hca, hcb]
            refine ih (i + 3, h1.length + 1, acc ++ [16 * hexv a + hexv b]) _ _ (by simp; omega) ⟨by simp; omega, ?_⟩
            simp -implicitDefEqProofs [go_sem, t0, t3, t4, i64_3 hi6, he, hm, m1, m2, m3, w64 (x := 16 * hexv a) (by omega)]
            exact ⟨by omega, by omega, ha⟩
          · rw [decodeL_other fun a' b' r e _ _ h => by rw [hdr2] at e; simp at e; rw [← e.2.1] at h; exact c4 h] at ha
            simp -implicitDefEqProofs [go_sem, Tryz.f84, t0, t4, t3, hlt, hc, c1, c2, c2', c3, c4, hca, hcb, pHexDC, hg, hm', ldN_b rfl, e1, hmn, i64_n hi6, i64_2 hi6]
            refine ih (i + 1, h1.length + 1, acc ++ [d]) _ _ (by simp; omega) ⟨hlt, ?_⟩
            simp -implicitDefEqProofs [go_sem, t0, t3, t4, i64_n hi6, he, hm, c1]
            rw [c1] at ha
            exact ⟨by omega, hal, ha⟩
        · rw [decodeL_other fun a' b' r e _ h _ => by rw [hdr2] at e; simp at e; rw [← e.1] at h; exact c3 h] at ha
          simp -implicitDefEqProofs [go_sem, Tryz.f84, t0, t4, t3, hlt, hc, c1, c2, c2', c3, hca, hcb, pHexDC, hg, hm', ldN_b rfl, e1, hmn, i64_n hi6, i64_2 hi6]
          refine ih (i + 1, h1.length + 1, acc ++ [d]) _ _ (by simp; omega) ⟨hlt, ?_⟩
          simp -implicitDefEqProofs [go_sem, t0, t3, t4, i64_n hi6, he, hm, c1]
          rw [c1] at ha
          exact ⟨by omega, hal, ha⟩
      · rw [decodeL_other fun a' b' r e _ _ _ => by have := congrArg List.length e; simp at this; omega] at ha
        simp -implicitDefEqProofs [go_sem, Tryz.f84, t0, t4, t3, hlt, hc, c1, c2, pHexDC, hg, hm', ldN_b rfl, e1, hmn, i64_n hi6, i64_2 hi6]
        refine ih (i + 1, h1.length + 1, acc ++ [d]) _ _ (by simp; omega) ⟨hlt, ?_⟩
        simp -implicitDefEqProofs [go_sem, t0, t3, t4, i64_n hi6, he, hm, c1]
        rw [c1] at ha
        exact ⟨by omega, hal, ha⟩
    · rw [decodeL_other fun _ _ _ _ e => absurd e c1] at ha
      simp -implicitDefEqProofs [go_sem, Tryz.f84, t0, t4, t3, hlt, hc, c1, hg, hm', ldN_b rfl, e1, hmn]
      refine ih (i + 1, h1.length + 1, acc ++ [d]) _ _ (by simp; omega) ⟨hlt, ?_⟩
      simp -implicitDefEqProofs [go_sem, t0, t3, t4, i64_n hi6, he, hm]
      exact ⟨by omega, hal, ha⟩
  · have e : i = l.length := by omega
    rw [e, List.drop_length, show decodeL [] = [] from rfl, List.append_nil] at ha
    simp -implicitDefEqProofs [go_sem, Tryz.f84, t0, t3, t4, hlt, hg, hm', ldN_b rfl, e, he]
    exact ha
def pPctSameC : Ct := fun args h => match args with | [.s l, .s m] => if l.length ≤ 1048576 ∧ m.length ≤ 1048576 then some (.b (decide (decodeL l = decodeL m)), h) else none | _ => none
theorem pPctSame_ok : CtOk Tryz.prog G0 47 pPctSameC := by
  refine ct_plain (n := 2) fol (sound_cons pDecode_ok sound_nil) (by kernel_rfl) Tryz.func47 rfl fun args h v h' hc r xs H hr hx => ?_
  unfold pPctSameC at hc; split at hc <;> (try split at hc) <;> cases hc
  rename_i l m hl
  refine ⟨rfl, rfl, by simp [renV, bndV], ?_⟩
  simp -implicitDefEqProofs [go_sem, Tryz.f47, pDecodeC, hl.1, hl.2]
def headB (l m : List Int) : Bool := decide (m.length ≤ l.length) && decide (l.take m.length = m)
def pHasPre1C : Ct := fun args h => match args with | [.s l, .s m] => some (.b (headB l m), h) | _ => none
theorem pHasPre1_ok : CtOk Tryz.prog G0 79 pHasPre1C := by
  refine ct_plain (n := 2) fol sound_nil (by kernel_rfl) Tryz.func79 rfl fun args h v h' hc r xs H hr hx => ?_
  unfold pHasPre1C at hc; split at hc <;> (try split at hc) <;> cases hc
  rename_i l m
  refine ⟨rfl, rfl, by simp [renV, bndV], ?_⟩
  by_cases h1 : m.length ≤ l.length
  · have h2 : (m.length : Int) ≤ l.length := by omega
    simp -implicitDefEqProofs [go_sem, Tryz.f79, h1, h2, headB]
  · have h2 : ¬ (m.length : Int) ≤ l.length := by omega
    simp -implicitDefEqProofs [go_sem, Tryz.f79, h1, h2, headB]
def pHasPreC : Ct := fun args h => match args with | [.s l, .s m] => some (.b (headB l m), h) | _ => none
theorem pHasPre_ok : CtOk Tryz.prog G0 42 pHasPreC := by
  refine ct_plain (n := 2) fol (sound_cons pHasPre1_ok sound_nil) (by kernel_rfl) Tryz.func42 rfl fun args h v h' hc r xs H hr hx => ?_
  unfold pHasPreC at hc; split at hc <;> (try split at hc) <;> cases hc
  rename_i l m
  refine ⟨rfl, rfl, by simp [renV, bndV], ?_⟩
  simp -implicitDefEqProofs [go_sem, Tryz.f42, pHasPre1C]
def pHasSuf1C : Ct := fun args h => match args with | [.s l, .s m] => some (.b (endsL l m), h) | _ => none
theorem pHasSuf1_ok : CtOk Tryz.prog G0 80 pHasSuf1C := by
  refine ct_plain (n := 2) fol sound_nil (by kernel_rfl) Tryz.func80 rfl fun args h v h' hc r xs H hr hx => ?_
  unfold pHasSuf1C at hc; split at hc <;> (try split at hc) <;> cases hc
  rename_i l m
  obtain ⟨⟨hs, hl⟩, _, hx2⟩ := str_of hx
  obtain ⟨⟨_, hm⟩, _⟩ := str_of hx2
  refine ⟨rfl, rfl, by simp [renV, bndV], ?_⟩
  by_cases h1 : m.length ≤ l.length
  · have h2 : (m.length : Int) ≤ l.length := by omega
    have h3 : ((l.length : Int) - m.length).toNat = l.length - m.length := by omega
    have h4 : (0 : Int) ≤ (l.length : Int) - m.length := by omega
    have h5 : (l.length : Int) - m.length ≤ l.length := by omega
    simp -implicitDefEqProofs [go_sem, Tryz.f80, h1, h2, h3, h4, h5, endsL, w64 (x := (l.length : Int) - m.length) (by omega)]
  · simp -implicitDefEqProofs [go_sem, Tryz.f80, h1, endsL]
def pHasSufC : Ct := fun args h => match args with | [.s l, .s m] => some (.b (endsL l m), h) | _ => none
theorem pHasSuf_ok : CtOk Tryz.prog G0 43 pHasSufC := by
  refine ct_plain (n := 2) fol (sound_cons pHasSuf1_ok sound_nil) (by kernel_rfl) Tryz.func43 rfl fun args h v h' hc r xs H hr hx => ?_
  unfold pHasSufC at hc; split at hc <;> (try split at hc) <;> cases hc
  rename_i l m
  refine ⟨rfl, rfl, by simp [renV, bndV], ?_⟩
  simp -implicitDefEqProofs [go_sem, Tryz.f43, pHasSuf1C]
def cutP (l m : List Int) : V := if headB l m = true then .tup [.s (l.drop m.length), .b true] else .tup [.s l, .b false]
theorem cutP_flat (l m : List Int) (k : Nat) : renV id (cutP l m) = cutP l m ∧ bndV k (cutP l m) := by unfold cutP; split <;> simp [renV, bndV, renL, bndL]
theorem headB_le {l m : List Int} (h : headB l m = true) : m.length ≤ l.length := by
  unfold headB at h
  by_cases h1 : m.length ≤ l.length
  · exact h1
  · rw [decide_eq_false h1] at h; cases h
def pCutPre1C : Ct := fun args h => match args with | [.s l, .s m] => some (cutP l m, h) | _ => none
theorem pCutPre1_ok : CtOk Tryz.prog G0 105 pCutPre1C := by
  refine ct_plain (n := 2) fol (sound_cons pHasPre1_ok sound_nil) (by kernel_rfl) Tryz.func105 rfl fun args h v h' hc r xs H hr hx => ?_
  unfold pCutPre1C at hc; split at hc <;> (try split at hc) <;> cases hc
  rename_i l m
  refine ⟨rfl, rfl, cutP_flat _ _ _, ?_⟩
  cases h1 : headB l m with
  | true =>
    have h2 : (m.length : Int) ≤ l.length := by have := headB_le h1; omega
    have h3 := headB_le h1
    simp -implicitDefEqProofs [go_sem, Tryz.f105, pHasPre1C, h1, h2, h3, cutP]
  | false => simp -implicitDefEqProofs [go_sem, Tryz.f105, pHasPre1C, h1, cutP]
def pCutPreC : Ct := fun args h => match args with | [.s l, .s m] => some (cutP l m, h) | _ => none
theorem pCutPre_ok : CtOk Tryz.prog G0 88 pCutPreC := by
  refine ct_plain (n := 2) fol (sound_cons pCutPre1_ok sound_nil) (by kernel_rfl) Tryz.func88 rfl fun args h v h' hc r xs H hr hx => ?_
  unfold pCutPreC at hc; split at hc <;> (try split at hc) <;> cases hc
  rename_i l m
  refine ⟨rfl, rfl, cutP_flat _ _ _, ?_⟩
  cases h1 : headB l m with
  | true => simp -implicitDefEqProofs [go_sem, Tryz.f88, pCutPre1C, h1, cutP]
  | false => simp -implicitDefEqProofs [go_sem, Tryz.f88, pCutPre1C, h1, cutP]
end GoD
