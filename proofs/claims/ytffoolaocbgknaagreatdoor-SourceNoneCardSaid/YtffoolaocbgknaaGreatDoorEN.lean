import Derived.Test.YtffoolaocbgknaaGreatDoorEM
/-! Labels of host patterns as the document reads them. -/
namespace GoD
open Go Go.Proofs
set_option linter.unusedVariables false
set_option linter.unusedSimpArgs false
set_option maxHeartbeats 4000000
set_option maxRecDepth 100000
def labB (c : Int) : Bool := letterB c || digitB c || decide (c = 45) || decide (c = 95)
/-- how many bytes of a label stand there -/
def labelN : List Int → Nat
  | [] => 0
  | c :: t => if labB c = true then labelN t + 1 else 0
theorem labelN_le : ∀ l, labelN l ≤ l.length
  | [] => by simp [labelN]
  | c :: t => by
    have := labelN_le t
    unfold labelN
    split <;> simp <;> omega
def rLabelC : Ct := fun args h => match args with | [.s l] => some (.i .i64 (labelN l), h) | _ => none
theorem rLabel_ok : CtOk Tryz.prog G0 90 rLabelC := by
  refine ct_plain (n := 1) fol (sound_cons rLetter_ok (sound_cons rDigit_ok sound_nil)) (by kernel_rfl) Tryz.func90 rfl fun args h v h' hc r xs H hr hx => ?_
  unfold rLabelC at hc; split at hc <;> (try split at hc) <;> cases hc
  rename_i l
  obtain ⟨⟨hs, hl⟩, _⟩ := str_of hx
  refine ⟨rfl, rfl, by simp [renV, bndV], ?_⟩
  simp -implicitDefEqProofs [go_sem, Tryz.f90]
  refine run_inv _ _ _ _ _ (fun (i : Nat) t h1 => i ≤ l.length ∧ get t 0 = .s l ∧ get t 3 = .i .i64 i ∧ i + labelN (l.drop i) = labelN l ∧ Ext h h1) (fun i => l.length - i) _ (x := 0) ⟨by simp, rfl, rfl, by simp, Ext.refl h⟩ ?_
  rintro i t h1 ⟨hi, t0, t3, hd, he⟩ ih
  by_cases hlt : i < l.length
  · obtain ⟨d, hc⟩ : ∃ d, l[i] = d := ⟨_, rfl⟩
    rw [List.drop_eq_getElem_cons hlt, hc, labelN] at hd
    cases c1 : labB d with
    | true =>
      rw [c1, if_pos rfl] at hd
      cases d1 : letterB d with
      | true =>
        simp -implicitDefEqProofs [go_sem, Tryz.f90, t0, t3, hlt, hc, rLetterC, rDigitC, d1]
        refine ih (i + 1) _ _ (by omega) ⟨hlt, ?_⟩
        simp -implicitDefEqProofs [go_sem, t0, t3, he, i64_1 hl hlt]
        omega
      | false =>
        cases d2 : digitB d with
        | true =>
          simp -implicitDefEqProofs [go_sem, Tryz.f90, t0, t3, hlt, hc, rLetterC, rDigitC, d1, d2]
          refine ih (i + 1) _ _ (by omega) ⟨hlt, ?_⟩
          simp -implicitDefEqProofs [go_sem, t0, t3, he, i64_1 hl hlt]
          omega
        | false =>
          by_cases d3 : d = 45
          · simp -implicitDefEqProofs [go_sem, Tryz.f90, t0, t3, hlt, hc, rLetterC, rDigitC, d1, d2, eq_true d3]
            refine ih (i + 1) _ _ (by omega) ⟨hlt, ?_⟩
            simp -implicitDefEqProofs [go_sem, t0, t3, he, i64_1 hl hlt]
            omega
          · have d4 : d = 95 := by simpa [labB, d1, d2, d3] using c1
            simp -implicitDefEqProofs [go_sem, Tryz.f90, t0, t3, hlt, hc, rLetterC, rDigitC, d1, d2, d3, eq_true d4]
            refine ih (i + 1) _ _ (by omega) ⟨hlt, ?_⟩
            simp -implicitDefEqProofs [go_sem, t0, t3, he, i64_1 hl hlt]
            omega
    | false =>
      rw [c1, if_neg (by simp)] at hd
      simp only [labB, Bool.or_eq_false_iff, decide_eq_false_iff_not] at c1
      obtain ⟨⟨⟨d1, d2⟩, d3⟩, d4⟩ := c1
      simp -implicitDefEqProofs [go_sem, Tryz.f90, t0, t3, hlt, hc, rLetterC, rDigitC, d1, d2, d3, d4, he]
      omega
  · have e0 : l.drop i = [] := List.drop_eq_nil_of_le (by omega)
    rw [e0, labelN] at hd
    simp -implicitDefEqProofs [go_sem, Tryz.f90, t0, t3, hlt, he]
    omega
/-- how many bytes of labels with points between stand there; 0: none -/
def labelsG : Nat → List Int → Nat
  | 0, _ => 0
  | f + 1, l => if labelN l = 0 then 0 else match l.drop (labelN l) with
    | 46 :: r => if labelsG f r = 0 then 0 else labelN l + 1 + labelsG f r
    | _ => labelN l
def labelsN (l : List Int) : Nat := labelsG (l.length + 1) l
theorem labelsG_fuel : ∀ (f g : Nat) (l : List Int), l.length < f → l.length < g → labelsG f l = labelsG g l
  | 0, _, l, h, _ => by omega
  | _, 0, l, _, h => by omega
  | f + 1, g + 1, l, h1, h2 => by
    rw [labelsG, labelsG]
    split
    · rfl
    · split
      · rename_i r hr
        have : r.length < l.length := by have := congrArg List.length hr; simp at this; omega
        rw [labelsG_fuel f g r (by omega) (by omega)]
      · rfl
theorem labelsN_eq (l : List Int) : labelsN l = if labelN l = 0 then 0 else match l.drop (labelN l) with
    | 46 :: r => if labelsN r = 0 then 0 else labelN l + 1 + labelsN r
    | _ => labelN l := by
  unfold labelsN
  rw [labelsG]
  split
  · rfl
  · split
    · rename_i r hr
      have : r.length < l.length := by have := congrArg List.length hr; simp at this; omega
      rw [labelsG_fuel l.length (r.length + 1) r (by omega) (by omega)]
    · rfl
def tailN (n : Nat) : List Int → Nat
  | c :: r => if c = 46 then (if labelsN r = 0 then 0 else n + 1 + labelsN r) else n
  | [] => n
theorem labelsN_tail (l : List Int) : labelsN l = if labelN l = 0 then 0 else tailN (labelN l) (l.drop (labelN l)) := by
  rw [labelsN_eq]
  split
  · rfl
  · split
    · rename_i r hr
      rw [hr, tailN, if_pos rfl]
    · rename_i h
      match hd : l.drop (labelN l) with
      | [] => rfl
      | c :: r => rw [tailN, if_neg fun e => h r (by rw [hd, e])]
theorem labelsN_pos {n : Nat} {r : List Int} (h : labelN r ≠ 0) : tailN n (46 :: r) = tailN (n + 1 + labelN r) (r.drop (labelN r)) := by
  rw [tailN, if_pos rfl, labelsN_tail, if_neg h]
  match r.drop (labelN r) with
  | [] => simp [tailN, h]
  | c :: q =>
    by_cases h1 : c = 46
    · by_cases h2 : labelsN q = 0
      · simp [tailN, h1, h2]
      · simp [tailN, h1, h2]; omega
    · simp [tailN, h1, h]
def rLabelsC : Ct := fun args h => match args with | [.s l] => some (.i .i64 (labelsN l), h) | _ => none
theorem rLabels_ok : CtOk Tryz.prog G0 69 rLabelsC := by
  refine ct_plain (n := 1) fol (sound_cons rLabel_ok sound_nil) (by kernel_rfl) Tryz.func69 rfl fun args h v h' hc r xs H hr hx => ?_
  unfold rLabelsC at hc; split at hc <;> (try split at hc) <;> cases hc
  rename_i l
  obtain ⟨⟨hs, hl⟩, _⟩ := str_of hx
  refine ⟨rfl, rfl, by simp [renV, bndV], ?_⟩
  obtain ⟨res, hE⟩ : ∃ x, labelsN l = x := ⟨_, rfl⟩
  rw [hE]
  rw [labelsN_tail] at hE
  by_cases h0 : labelN l = 0
  · rw [if_pos h0] at hE
    subst hE
    simp -implicitDefEqProofs [go_sem, Tryz.f69, rLabelC, h0]
  rw [if_neg h0] at hE
  simp -implicitDefEqProofs [go_sem, Tryz.f69, rLabelC, h0]
  refine run_inv _ _ _ _ _ (fun (n : Nat) t h1 => n ≤ l.length ∧ 0 < n ∧ get t 0 = .s l ∧ get t 3 = .i .i64 n ∧ tailN n (l.drop n) = res ∧ Ext h h1) (fun n => l.length - n) _ (x := labelN l) ⟨labelN_le l, by omega, rfl, rfl, hE, Ext.refl h⟩ ?_
  rintro n t h1 ⟨hi, hn0, t0, t3, hd, he⟩ ih
  have hi6 : n < 1152921504606846976 := by omega
  by_cases hlt : n < l.length
  · obtain ⟨d, hc⟩ : ∃ d, l[n] = d := ⟨_, rfl⟩
    have hdr : l.drop n = d :: l.drop (n + 1) := by rw [List.drop_eq_getElem_cons hlt, hc]
    rw [hdr] at hd
    by_cases c1 : d = 46
    · subst c1
      by_cases c2 : labelN (l.drop (n + 1)) = 0
      · rw [tailN, if_pos rfl, labelsN_tail, if_pos c2, if_pos rfl] at hd
        subst hd
        simp -implicitDefEqProofs [go_sem, Tryz.f69, t0, t3, hlt, hc, rLabelC, c2, i64_n hi6, show n + 1 ≤ l.length by omega, he]
      · rw [labelsN_pos c2, List.drop_drop] at hd
        have hle := labelN_le (l.drop (n + 1))
        rw [List.length_drop] at hle
        simp -implicitDefEqProofs [go_sem, Tryz.f69, t0, t3, hlt, hc, rLabelC, c2, i64_n hi6, show n + 1 ≤ l.length by omega]
        refine ih (n + 1 + labelN (l.drop (n + 1))) _ _ (by omega) ⟨by omega, by omega, ?_⟩
        simp -implicitDefEqProofs [go_sem, t0, t3, he, w64 (x := (n : Int) + 1 + labelN (l.drop (n + 1))) (by omega)]
        exact hd
    · rw [tailN, if_neg c1] at hd
      subst hd
      simp -implicitDefEqProofs [go_sem, Tryz.f69, t0, t3, hlt, hc, c1, he]
  · have e0 : l.drop n = [] := List.drop_eq_nil_of_le (by omega)
    rw [e0, tailN] at hd
    subst hd
    simp -implicitDefEqProofs [go_sem, Tryz.f69, t0, t3, hlt, he]
end GoD
