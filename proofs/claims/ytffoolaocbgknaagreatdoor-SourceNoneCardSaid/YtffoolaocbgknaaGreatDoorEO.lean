import Derived.Test.YtffoolaocbgknaaGreatDoorEN
/-! Host patterns and schemes as the document reads them. -/
namespace GoD
open Go Go.Proofs
set_option linter.unusedVariables false
set_option linter.unusedSimpArgs false
set_option maxHeartbeats 4000000
set_option maxRecDepth 100000
theorem labelsN_le (l : List Int) : labelsN l ≤ l.length := by
  have key : ∀ (n : Nat) (l : List Int), l.length ≤ n → labelsN l ≤ l.length := by
    intro n
    induction n with
    | zero =>
      intro l h
      have : l = [] := List.length_eq_zero_iff.1 (by omega)
      subst this
      exact Nat.le_refl _
    | succ n ih =>
      intro l h
      have h1 := labelN_le l
      rw [labelsN_eq]
      split
      · omega
      · split
        · rename_i r hr
          have h2 := congrArg List.length hr
          simp at h2
          have := ih r (by omega)
          split
          · omega
          · show labelN l + 1 + labelsN r ≤ l.length
            omega
        · omega
  exact key _ l (Nat.le_refl _)
def hostPartN : List Int → Nat
  | [] => 0
  | [a] => if a = 42 then 1 else labelsN [a]
  | a :: b :: r => if a = 42 then (if b = 46 then (if labelsN r = 0 then 0 else 2 + labelsN r) else 1) else labelsN (a :: b :: r)
def rHostPartC : Ct := fun args h => match args with | [.s l] => some (.i .i64 (hostPartN l), h) | _ => none
theorem rHostPart_ok : CtOk Tryz.prog G0 36 rHostPartC := by
  refine ct_plain (n := 1) fol (sound_cons rLabels_ok sound_nil) (by kernel_rfl) Tryz.func36 rfl fun args h v h' hc r xs H hr hx => ?_
  unfold rHostPartC at hc; split at hc <;> (try split at hc) <;> cases hc
  rename_i l
  obtain ⟨⟨hs, hl⟩, _⟩ := str_of hx
  refine ⟨rfl, rfl, by simp [renV, bndV], ?_⟩
  match l, hs, hl with
  | [], _, _ => simp -implicitDefEqProofs [go_sem, Tryz.f36, rLabelsC, hostPartN, show labelsN [] = 0 from rfl]
  | [a], _, _ =>
    by_cases h1 : a = 42
    · simp -implicitDefEqProofs [go_sem, Tryz.f36, rLabelsC, hostPartN, h1]
    · simp -implicitDefEqProofs [go_sem, Tryz.f36, rLabelsC, hostPartN, h1]
  | a :: b :: r, _, hl =>
    have k1 : (1 : Int) < (r.length : Int) + 1 + 1 := by omega
    have k2 : (0 : Int) < (r.length : Int) + 1 + 1 := by omega
    have k3 : (2 : Int) ≤ (r.length : Int) + 1 + 1 := by omega
    have k4 : ((r.length : Int) + 1 + 1 = 1) = False := eq_false (by omega)
    have hle := labelsN_le r
    simp only [List.length_cons] at hl
    by_cases h1 : a = 42
    · by_cases h2 : b = 46
      · by_cases h3 : labelsN r = 0
        · simp -implicitDefEqProofs [go_sem, Tryz.f36, rLabelsC, hostPartN, h1, h2, h3, k1, k2, k3, k4]
        · simp -implicitDefEqProofs [go_sem, Tryz.f36, rLabelsC, hostPartN, h1, h2, h3, k1, k2, k3, k4, w64 (x := 2 + (labelsN r : Int)) (by omega)]
      · simp -implicitDefEqProofs [go_sem, Tryz.f36, rLabelsC, hostPartN, h1, h2, k1, k2, k3, k4]
    · simp -implicitDefEqProofs [go_sem, Tryz.f36, rLabelsC, hostPartN, h1, k1, k2, k3, k4]
/-- how many bytes ahead are so -/
def cntL (p : Int → Bool) : List Int → Nat
  | [] => 0
  | c :: t => if p c = true then cntL p t + 1 else 0
theorem cntL_le (p : Int → Bool) : ∀ l, cntL p l ≤ l.length
  | [] => by simp [cntL]
  | c :: t => by
    have := cntL_le p t
    unfold cntL
    split <;> simp <;> omega
def schB (c : Int) : Bool := letterB c || digitB c || decide (c = 43) || decide (c = 45) || decide (c = 46)
def schemeN : List Int → Nat
  | [] => 0
  | c :: t => if letterB c = true then (if (t.drop (cntL schB t)).head? = some 58 then cntL schB t + 1 else 0) else 0
theorem schemeN_le (l : List Int) : schemeN l ≤ l.length := by
  cases l with
  | nil => simp [schemeN]
  | cons c t =>
    have := cntL_le schB t
    rw [schemeN]
    split
    · split <;> simp <;> omega
    · simp
theorem schemeN_lt {l : List Int} (h : schemeN l ≠ 0) : schemeN l < l.length := by
  cases l with
  | nil => simp [schemeN] at h
  | cons c t =>
    rw [schemeN] at h ⊢
    split
    · split
      · rename_i h1 h2
        have : (t.drop (cntL schB t)).length ≠ 0 := by intro e; rw [List.length_eq_zero_iff.1 e] at h2; cases h2
        simp at this ⊢; omega
      · rename_i h1 h2; rw [if_pos h1, if_neg h2] at h; exact absurd rfl h
    · rename_i h1; rw [if_neg h1] at h; exact absurd rfl h
def rSchemeC : Ct := fun args h => match args with | [.s l] => some (.i .i64 (schemeN l), h) | _ => none
theorem rScheme_ok : CtOk Tryz.prog G0 34 rSchemeC := by
  refine ct_plain (n := 1) fol (sound_cons rLetter_ok (sound_cons rDigit_ok sound_nil)) (by kernel_rfl) Tryz.func34 rfl fun args h v h' hc r xs H hr hx => ?_
  unfold rSchemeC at hc; split at hc <;> (try split at hc) <;> cases hc
  rename_i l
  obtain ⟨⟨hs, hl⟩, _⟩ := str_of hx
  refine ⟨rfl, rfl, by simp [renV, bndV], ?_⟩
  obtain ⟨res, hE⟩ : ∃ x, schemeN l = x := ⟨_, rfl⟩
  rw [hE]
  match l, hs, hl with
  | [], _, _ =>
    subst hE
    simp -implicitDefEqProofs [go_sem, Tryz.f34, schemeN]
  | a :: r, _, hl =>
    cases h1 : letterB a with
    | false =>
      rw [schemeN, h1, if_neg (by simp)] at hE
      subst hE
      simp -implicitDefEqProofs [go_sem, Tryz.f34, rLetterC, h1]
    | true =>
      rw [schemeN, h1, if_pos rfl] at hE
      obtain ⟨l, hll⟩ : ∃ l, a :: r = l := ⟨_, rfl⟩
      have hr : r = l.drop 1 := by rw [← hll]; rfl
      have hn0 : l.isEmpty = false := by rw [← hll]; rfl
      have ha : l[0]? = some a := by rw [← hll]; rfl
      have hlp : 0 < l.length := by rw [← hll]; simp
      have hlp' : (0 : Int) < l.length := by omega
      rw [hll] at hl ⊢
      have hnn : ¬ l = [] := by intro e; rw [e] at hlp; simp at hlp
      have h10 : letterB (l[0]) = true := by rw [List.getElem?_eq_getElem hlp] at ha; rw [Option.some.inj ha]; exact h1
      simp -implicitDefEqProofs [go_sem, Tryz.f34, rLetterC, h10, hn0, hnn, hlp, hlp']

      refine run_inv _ _ _ _ _ (fun (i : Nat) t h1 => i ≤ l.length ∧ 0 < i ∧ get t 0 = .s l ∧ get t 3 = .i .i64 i ∧ i + cntL schB (l.drop i) = cntL schB r + 1 ∧ Ext h h1) (fun i => l.length - i) _ (x := 1) ⟨by omega, by omega, rfl, rfl, by rw [hr]; omega, Ext.refl h⟩ ?_
      rintro i t h1 ⟨hi, hi0, t0, t3, hd, he⟩ ih
      have endc : ∀ e : ∃ q, l.drop i = q, cntL schB (l.drop i) = 0 → i = cntL schB r + 1 ∧ r.drop (cntL schB r) = l.drop i := by
        rintro ⟨q, -⟩ e
        have e2 : i = cntL schB r + 1 := by omega
        refine ⟨e2, ?_⟩
        rw [hr, List.drop_drop, e2]; congr 1; rw [← hr]; omega
      by_cases hlt : i < l.length
      · obtain ⟨d, hc⟩ : ∃ d, l[i] = d := ⟨_, rfl⟩
        have hdr : l.drop i = d :: l.drop (i + 1) := by rw [List.drop_eq_getElem_cons hlt, hc]
        cases c1 : schB d with
        | true =>
          rw [hdr, cntL, if_pos c1] at hd
          have fin : ∀ t' h', get t' 0 = .s l → get t' 3 = .i .i64 ((i + 1 : Nat) : Int) → Ext h h' → i + 1 ≤ l.length ∧ 0 < i + 1 ∧ get t' 0 = .s l ∧ get t' 3 = .i .i64 ((i + 1 : Nat) : Int) ∧ i + 1 + cntL schB (l.drop (i + 1)) = cntL schB r + 1 ∧ Ext h h' := fun t' h' a b c => ⟨hlt, by omega, a, b, by omega, c⟩
          cases d1 : letterB d with
          | true =>
            simp -implicitDefEqProofs [go_sem, Tryz.f34, t0, t3, hlt, hc, rLetterC, rDigitC, d1]
            refine ih (i + 1) _ _ (by omega) (fin _ _ ?_ ?_ he) <;> simp -implicitDefEqProofs [go_sem, t0, t3, i64_1 hl hlt]
          | false =>
            cases d2 : digitB d with
            | true =>
              simp -implicitDefEqProofs [go_sem, Tryz.f34, t0, t3, hlt, hc, rLetterC, rDigitC, d1, d2]
              refine ih (i + 1) _ _ (by omega) (fin _ _ ?_ ?_ he) <;> simp -implicitDefEqProofs [go_sem, t0, t3, i64_1 hl hlt]
            | false =>
              by_cases d3 : d = 43
              · simp -implicitDefEqProofs [go_sem, Tryz.f34, t0, t3, hlt, hc, rLetterC, rDigitC, d1, d2, eq_true d3]
                refine ih (i + 1) _ _ (by omega) (fin _ _ ?_ ?_ he) <;> simp -implicitDefEqProofs [go_sem, t0, t3, i64_1 hl hlt]
              · by_cases d4 : d = 45
                · simp -implicitDefEqProofs [go_sem, Tryz.f34, t0, t3, hlt, hc, rLetterC, rDigitC, d1, d2, d3, eq_true d4]
                  refine ih (i + 1) _ _ (by omega) (fin _ _ ?_ ?_ he) <;> simp -implicitDefEqProofs [go_sem, t0, t3, i64_1 hl hlt]
                · have d5 : d = 46 := by simpa [schB, d1, d2, d3, d4] using c1
                  simp -implicitDefEqProofs [go_sem, Tryz.f34, t0, t3, hlt, hc, rLetterC, rDigitC, d1, d2, d3, d4, eq_true d5]
                  refine ih (i + 1) _ _ (by omega) (fin _ _ ?_ ?_ he) <;> simp -implicitDefEqProofs [go_sem, t0, t3, i64_1 hl hlt]
        | false =>
          have e0 : cntL schB (l.drop i) = 0 := by rw [hdr, cntL, if_neg (by rw [c1]; simp)]
          obtain ⟨e1, e2⟩ := endc ⟨_, rfl⟩ e0
          rw [e2, hdr, List.head?_cons] at hE
          simp only [schB, Bool.or_eq_false_iff, decide_eq_false_iff_not] at c1
          obtain ⟨⟨⟨⟨d1, d2⟩, d3⟩, d4⟩, d5⟩ := c1
          have ne : ((i : Int) = l.length) = False := eq_false (by omega)
          by_cases d6 : d = 58
          · rw [if_pos (by rw [d6])] at hE
            rw [← hE, ← e1]
            simp -implicitDefEqProofs [go_sem, Tryz.f34, t0, t3, hlt, hc, rLetterC, rDigitC, d1, d2, d3, d4, d5, eq_true d6, ne, he]
            try omega
          · rw [if_neg fun e => d6 (Option.some.inj e)] at hE
            rw [← hE]
            simp -implicitDefEqProofs [go_sem, Tryz.f34, t0, t3, hlt, hc, rLetterC, rDigitC, d1, d2, d3, d4, d5, d6, ne, he]
      · have e00 : l.drop i = [] := List.drop_eq_nil_of_le (by omega)
        obtain ⟨e1, e2⟩ := endc ⟨_, rfl⟩ (by rw [e00]; rfl)
        rw [e2, e00] at hE
        rw [← hE]
        have ne : (i : Int) = l.length := by omega
        simp -implicitDefEqProofs [go_sem, Tryz.f34, t0, t3, hlt, eq_true ne, he]
end GoD
