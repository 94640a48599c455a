import Derived.Test.YtcaaebjjgbcjpaaGreatDoorEN
/-! Host patterns and schemes as the document reads them. -/
namespace GoD
open Go Go.Proofs
set_option linter.unusedVariables false
set_option linter.unusedSimpArgs false
set_option maxHeartbeats 4000000
set_option maxRecDepth 100000
theorem labelsN_le (l : List Int) : labelsN l ≤ l.length := by
  have key : ∀ (n : Nat) (l : List Int), l.length ≤ n → labelsN l ≤ l.length := by
    intro n
    induction n with
    | zero =>
      intro l h
      have : l = [] := List.length_eq_zero_iff.1 (by omega)
      subst this
      exact Nat.le_refl _
    | succ n ih =>
      intro l h
      have h1 := labelN_le l
      rw [labelsN_eq]
      split
      · omega
      · split
        · rename_i r hr
          have h2 := congrArg List.length hr
          simp at h2
          have := ih r (by omega)
          split
          · omega
          · show labelN l + 1 + labelsN r ≤ l.length
            omega
        · omega
  exact key _ l (Nat.le_refl _)
def hostPartN : List Int → Nat
  | [] => 0
  | [a] => if a = 42 then 1 else labelsN [a]
  | a :: b :: r => if a = 42 then (if b = 46 then (if labelsN r = 0 then 0 else 2 + labelsN r) else 1) else labelsN (a :: b :: r)
def rHostPartC : Ct := fun args h => match args with | [.s l] => some (.i .i64 (hostPartN l), h) | _ => none
theorem rHostPart_ok : CtOk Tryz.prog G0 263 rHostPartC := by
  refine ct_plain (n := 1) fol (sound_cons rLabels_ok sound_nil) (by kernel_rfl) Tryz.func263 rfl fun args h v h' hc r xs H hr hx => ?_
  unfold rHostPartC at hc; split at hc <;> (try split at hc) <;> cases hc
  rename_i l
  obtain ⟨⟨hs, hl⟩, _⟩ := str_of hx
  refine ⟨rfl, rfl, by simp [renV, bndV], ?_⟩
  match l, hs, hl with
  | [], _, _ => simp -implicitDefEqProofs [go_sem, Tryz.f263, rLabelsC, hostPartN, show labelsN [] = 0 from rfl]
  | [a], _, _ =>
    by_cases h1 : a = 42
    · simp -implicitDefEqProofs [go_sem, Tryz.f263, rLabelsC, hostPartN, h1]
    · simp -implicitDefEqProofs [go_sem, Tryz.f263, rLabelsC, hostPartN, h1]
  | a :: b :: r, _, hl =>
    have k1 : (1 : Int) < (r.length : Int) + 1 + 1 := by omega
    have k2 : (0 : Int) < (r.length : Int) + 1 + 1 := by omega
    have k3 : (2 : Int) ≤ (r.length : Int) + 1 + 1 := by omega
    have k4 : ((r.length : Int) + 1 + 1 = 1) = False := eq_false (by omega)
    have hle := labelsN_le r
    simp only [List.length_cons] at hl
    by_cases h1 : a = 42
    · by_cases h2 : b = 46
      · by_cases h3 : labelsN r = 0
        · simp -implicitDefEqProofs [go_sem, Tryz.f263, rLabelsC, hostPartN, h1, h2, h3, k1, k2, k3, k4]
        · simp -implicitDefEqProofs [go_sem, Tryz.f263, rLabelsC, hostPartN, h1, h2, h3, k1, k2, k3, k4, w64 (x := 2 + (labelsN r : Int)) (by omega)]
      · simp -implicitDefEqProofs [go_sem, Tryz.f263, rLabelsC, hostPartN, h1, h2, k1, k2, k3, k4]
    · simp -implicitDefEqProofs [go_sem, Tryz.f263, rLabelsC, hostPartN, h1, k1, k2, k3, k4]
/-- how many bytes ahead are so -/
def cntL (p : Int → Bool) : List Int → Nat
  | [] => 0
  | c :: t => if p c = true then cntL p t + 1 else 0
theorem cntL_le (p : Int → Bool) : ∀ l, cntL p l ≤ l.length
  | [] => by simp [cntL]
  | c :: t => by
    have := cntL_le p t
    unfold cntL
    split <;> simp <;> omega
def schB (c : Int) : Bool := letterB c || digitB c || decide (c = 43) || decide (c = 45) || decide (c = 46)
def schemeN : List Int → Nat
  | [] => 0
  | c :: t => if letterB c = true then (if (t.drop (cntL schB t)).head? = some 58 then cntL schB t + 1 else 0) else 0
theorem schemeN_le (l : List Int) : schemeN l ≤ l.length := by
  cases l with
  | nil => simp [schemeN]
  | cons c t =>
    have := cntL_le schB t
    rw [schemeN]
    split
    · split <;> simp <;> omega
    · simp
theorem schemeN_lt {l : List Int} (h : schemeN l ≠ 0) : schemeN l < l.length := by
  cases l with
  | nil => simp [schemeN] at h
  | cons c t =>
    rw [schemeN] at h ⊢
    split
    · split
      · rename_i h1 h2
        have : (t.drop (cntL schB t)).length ≠ 0 := by intro e; rw [List.length_eq_zero_iff.1 e] at h2; cases h2
        simp at this ⊢; omega
      · rename_i h1 h2; rw [if_pos h1, if_neg h2] at h; exact absurd rfl h
    · rename_i h1; rw [if_neg h1] at h; exact absurd rfl h
def rSchemeC : Ct := fun args h => match args with | [.s l] => some (.i .i64 (schemeN l), h) | _ => none
theorem rScheme_ok : CtOk Tryz.prog G0 52 rSchemeC := by
  refine ct_plain (n := 1) fol (sound_cons rLetter_ok (sound_cons rDigit_ok sound_nil)) (by kernel_rfl) Tryz.func52 rfl fun args h v h' hc r xs H hr hx => ?_
  unfold rSchemeC at hc; split at hc <;> (try split at hc) <;> cases hc
  rename_i l
  obtain ⟨⟨hs, hl⟩, _⟩ := str_of hx
  refine ⟨rfl, rfl, by simp [renV, bndV], ?_⟩
  obtain ⟨res, hE⟩ : ∃ x, schemeN l = x := ⟨_, rfl⟩
  rw [hE]
  match l, hs, hl with
  | [], _, _ =>
    subst hE
    simp -implicitDefEqProofs [go_sem, Tryz.f52, schemeN]
  | a :: r, _, hl =>
    cases h1 : letterB a with
    | false =>
      rw [schemeN, h1, if_neg (by simp)] at hE
      subst hE
      simp -implicitDefEqProofs [go_sem, Tryz.f52, rLetterC, h1]
    | true =>
      rw [schemeN, h1, if_pos rfl] at hE
      obtain ⟨l, hll⟩ : ∃ l, a :: r = l := ⟨_, rfl⟩
      have hr : r = l.drop 1 := by rw [← hll]; rfl
      have hn0 : l.isEmpty = false := by rw [← hll]; rfl
      have ha : l[0]? = some a := by rw [← hll]; rfl
      have hlp : 0 < l.length := by rw [← hll]; simp
      have hlp' : (0 : Int) < l.length := by omega
      rw [hll] at hl ⊢
      have hnn : ¬ l = [] := by intro e; rw [e] at hlp; simp at hlp
      have h10 : letterB (l[0]) = true := by rw [List.getElem?_eq_getElem hlp] at ha; rw [Option.some.inj ha]; exact h1
      simp -implicitDefEqProofs [go_sem, Tryz.f52, rLetterC, h10, hn0, hnn, hlp, hlp']

      refine run_inv _ _ _ _ _ (fun (i : Nat) t h1 => i ≤ l.length ∧ 0 < i ∧ get t 0 = .s l ∧ get t 3 = .i .i64 i ∧ i + cntL schB (l.drop i) = cntL schB r + 1 ∧ Ext h h1) (fun i => l.length - i) _ (x := 1) ⟨by omega, by omega, rfl, rfl, by rw [hr]; omega, Ext.refl h⟩ ?_
      rintro i t h1 ⟨hi, hi0, t0, t3, hd, he⟩ ih
      have endc : ∀ e : ∃ q, l.drop i = q, cntL schB (l.drop i) = 0 → i = cntL schB r + 1 ∧ r.drop (cntL schB r) = l.drop i := by
        rintro ⟨q, -⟩ e
        have e2 : i = cntL schB r + 1 := by omega
        refine ⟨e2, ?_⟩
        rw [hr, List.drop_drop, e2]; congr 1; rw [← hr]; omega
      by_cases hlt : i < l.length
      · obtain ⟨d, hc⟩ : ∃ d, l[i] = d := ⟨_, rfl⟩
        have hdr : l.drop i = d :: l.drop (i + 1) := by rw [List.drop_eq_getElem_cons hlt, hc]
        cases c1 : schB d with
        | true =>
          rw [hdr, cntL, if_pos c1] at hd
          have fin : ∀ t' h', get t' 0 = .s l → get t' 3 = .i .i64 ((i + 1 : Nat) : Int) → Ext h h' → i + 1 ≤ l.length ∧ 0 < i + 1 ∧ get t' 0 = .s l ∧ get t' 3 = .i .i64 ((i + 1 : Nat) : Int) ∧ i + 1 + cntL schB (l.drop (i + 1)) = cntL schB r + 1 ∧ Ext h h' := fun t' h' a b c => ⟨hlt, by omega, a, b, by omega, c⟩
          cases d1 : letterB d with
          | true =>
            simp -implicitDefEqProofs [go_sem, Tryz.f52, t0, t3, hlt, hc, rLetterC, rDigitC, d1]
            refine ih (i + 1) _ _ (by omega) (fin _ _ ?_ ?_ he) <;> simp -implicitDefEqProofs [go_sem, t0, t3, i64_1 hl hlt]
          | false =>
            cases d2 : digitB d with
            | true =>
              simp -implicitDefEqProofs [go_sem, Tryz.f52, t0, t3, hlt, hc, rLetterC, rDigitC, d1, d2]
              refine ih (i + 1) _ _ (by omega) (fin _ _ ?_ ?_ he) <;> simp -implicitDefEqProofs [go_sem, t0, t3, i64_1 hl hlt]
            | false =>
              by_cases d3 : d = 43
              · simp -implicitDefEqProofs [go_sem, Tryz.f52, t0, t3, hlt, hc, rLetterC, rDigitC, d1, d2, eq_true d3]
                refine ih (i + 1) _ _ (by omega) (fin _ _ ?_ ?_ he) <;> simp -implicitDefEqProofs [go_sem, t0, t3, i64_1 hl hlt]
              · by_cases d4 : d = 45
                · simp -implicitDefEqProofs [go_sem, Tryz.f52, t0, t3, hlt, hc, rLetterC, rDigitC, d1, d2, d3, eq_true d4]
                  refine ih (i + 1) _ _ (by omega) (fin _ _ ?_ ?_ he) <;> simp -implicitDefEqProofs [go_sem, t0, t3, i64_1 hl hlt]
                · have d5 : d = 46 := by simpa [schB, d1, d2, d3, d4] using c1
                  simp -implicitDefEqProofs [go_sem, Tryz.f52, t0, t3, hlt, hc, rLetterC, rDigitC, d1, d2, d3, d4, eq_true d5]
                  refine ih (i + 1) _ _ (by omega) (fin _ _ ?_ ?_ he) <;> simp -implicitDefEqProofs [go_sem, t0, t3, i64_1 hl hlt]
        | false =>
          have e0 : cntL schB (l.drop i) = 0 := by rw [hdr, cntL, if_neg (by rw [c1]; simp)]
          obtain ⟨e1, e2⟩ := endc ⟨_, rfl⟩ e0
          rw [e2, hdr, List.head?_cons] at hE
          simp only [schB, Bool.or_eq_false_iff, decide_eq_false_iff_not] at c1
          obtain ⟨⟨⟨⟨d1, d2⟩, d3⟩, d4⟩, d5⟩ := c1
          have ne : ((i : Int) = l.length) = False := eq_false (by omega)
          by_cases d6 : d = 58
          · rw [if_pos (by rw [d6])] at hE
            rw [← hE, ← e1]
            simp -implicitDefEqProofs [go_sem, Tryz.f52, t0, t3, hlt, hc, rLetterC, rDigitC, d1, d2, d3, d4, d5, eq_true d6, ne, he]
            try omega
          · rw [if_neg fun e => d6 (Option.some.inj e)] at hE
            rw [← hE]
            simp -implicitDefEqProofs [go_sem, Tryz.f52, t0, t3, hlt, hc, rLetterC, rDigitC, d1, d2, d3, d4, d5, d6, ne, he]
      · have e00 : l.drop i = [] := List.drop_eq_nil_of_le (by omega)
        obtain ⟨e1, e2⟩ := endc ⟨_, rfl⟩ (by rw [e00]; rfl)
        rw [e2, e00] at hE
        rw [← hE]
        have ne : (i : Int) = l.length := by omega
        simp -implicitDefEqProofs [go_sem, Tryz.f52, t0, t3, hlt, eq_true ne, he]
end GoD

/-! Sets of bytes, percents and blanks as the document writes and leaves them. -/
namespace GoD
open Go Go.Proofs
set_option linter.unusedVariables false
set_option linter.unusedSimpArgs false
set_option maxHeartbeats 4000000
set_option maxRecDepth 100000
def moreL (s : Int) : Option (List Int) :=
  if s = 1 then some [34, 60, 62, 96] else if s = 2 then some [34, 35, 39, 60, 62] else if s = 3 then some [34, 35, 60, 62, 63, 94, 96, 123, 125]
  else if s = 4 then some [34, 35, 60, 62, 63, 94, 96, 123, 125, 47, 58, 59, 61, 64, 91, 92, 93, 124] else none
def inB (c s : Int) : Bool := match moreL s with
  | none => false
  | some m => decide (c < 33) || decide (126 < c) || decide (c ∈ m)
def rInSetC : Ct := fun args h => match args with | [.i .u8 c, .i .i64 s] => some (.b (inB c s), h) | _ => none
theorem rInSet_ok : CtOk Tryz.prog G0 121 rInSetC := by
  refine ct_plain (n := 2) fol (sound_cons rHas_ok sound_nil) (by kernel_rfl) Tryz.func121 rfl fun args h v h' hc r xs H hr hx => ?_
  unfold rInSetC at hc; split at hc <;> (try split at hc) <;> cases hc
  rename_i c s
  refine ⟨rfl, rfl, by simp [renV, bndV], ?_⟩
  obtain ⟨res, hE⟩ : ∃ x, inB c s = x := ⟨_, rfl⟩
  rw [hE]
  unfold inB moreL at hE
  by_cases s1 : s = 1
  · subst s1; subst hE
    by_cases c1 : c < 33 <;> by_cases c2 : 126 < c <;> simp -implicitDefEqProofs [go_sem, Tryz.f121, rHasC, c1, c2, -List.mem_cons]
  · by_cases s2 : s = 2
    · subst s2; subst hE
      by_cases c1 : c < 33 <;> by_cases c2 : 126 < c <;> simp -implicitDefEqProofs [go_sem, Tryz.f121, rHasC, c1, c2, -List.mem_cons]
    · by_cases s3 : s = 3
      · subst s3; subst hE
        by_cases c1 : c < 33 <;> by_cases c2 : 126 < c <;> simp -implicitDefEqProofs [go_sem, Tryz.f121, rHasC, c1, c2, -List.mem_cons]
      · by_cases s4 : s = 4
        · subst s4; subst hE
          by_cases c1 : c < 33 <;> by_cases c2 : 126 < c <;> simp -implicitDefEqProofs [go_sem, Tryz.f121, rHasC, c1, c2, -List.mem_cons]
        · rw [if_neg s1, if_neg s2, if_neg s3, if_neg s4] at hE
          subst hE
          simp -implicitDefEqProofs [go_sem, Tryz.f121, s1, s2, s3, s4]
def hexD (v : Int) : Int := [48, 49, 50, 51, 52, 53, 54, 55, 56, 57, 65, 66, 67, 68, 69, 70].getD v.toNat 0
def encL (s : Int) : List Int → List Int
  | [] => []
  | c :: t => if inB c s = true then 37 :: hexD (c / 16) :: hexD (c % 16) :: encL s t else c :: encL s t
theorem encL_len (s : Int) : ∀ l, (encL s l).length ≤ 3 * l.length
  | [] => by simp [encL]
  | c :: t => by
    have := encL_len s t
    rw [encL]
    split <;> simp <;> omega
theorem and15 {c : Int} (h : 0 ≤ c ∧ c < 256) : Go.bits .and .u8 c 15 = c % 16 :=
  bits_mask .u8 8 (by decide) (fun n h₀ h₁ => by rw [w8]; omega) 4 (by decide) c h.1 (by omega)
def rEncodeC : Ct := fun args h => match args with | [.s l, .i .i64 s] => if l.length ≤ 1048576 then some (.s (encL s l), h) else none | _ => none
theorem rEncode_ok : CtOk Tryz.prog G0 57 rEncodeC := by
  refine ct_plain (n := 2) fol (sound_cons rInSet_ok sound_nil) (by kernel_rfl) Tryz.func57 rfl fun args h v h' hc r xs H hr hx => ?_
  unfold rEncodeC at hc; split at hc <;> (try split at hc) <;> cases hc
  rename_i l s hl
  obtain ⟨⟨hs, _⟩, _⟩ := str_of hx
  refine ⟨rfl, rfl, by simp [renV, bndV], ?_⟩
  simp -implicitDefEqProofs [go_sem, Tryz.f57]
  refine run_inv _ _ _ _ _ (fun (x : Nat × Nat × List Int) t h1 => x.1 ≤ l.length ∧ get t 0 = .s l ∧ get t 1 = .i .i64 s ∧ get t 5 = .s [48, 49, 50, 51, 52, 53, 54, 55, 56, 57, 65, 66, 67, 68, 69, 70] ∧ get t 7 = .i .i64 x.1 ∧ get t 6 = .sl x.2.1 0 x.2.2.length 1 ∧ hget h1 x.2.1 = ⟨2, false, bts x.2.2⟩ ∧ h.length ≤ x.2.1 ∧ x.2.1 < h1.length ∧ Ext h h1 ∧ x.2.2.length ≤ 3 * x.1 ∧ x.2.2 ++ encL s (l.drop x.1) = encL s l) (fun x => l.length - x.1) _ (x := (0, h.length, [])) ⟨by simp, rfl, rfl, rfl, rfl, rfl, by simp -implicitDefEqProofs [go_sem, bts_nil], by simp, by simp, by simp -implicitDefEqProofs [go_sem], by simp, by simp⟩ ?_
  rintro ⟨i, m, acc⟩ t h1 ⟨hi, t0, t1, t5, t7, t6, hg, hm, hm', he, hal, ha⟩ ih
  simp only at hi t0 t7 t6 hg hm hm' hal ha
  have hmn : m ≠ h1.length := by omega
  have hi6 : i < 1152921504606846976 := by omega
  have e1 : (acc.length + 1) ≤ 1099511627776 := by omega
  have e3 : (acc.length + 3) ≤ 1099511627776 := by omega
  by_cases hlt : i < l.length
  · obtain ⟨d, hc⟩ : ∃ d, l[i] = d := ⟨_, rfl⟩
    have hd := hs d (hc ▸ List.getElem_mem hlt)
    have hdr : l.drop i = d :: l.drop (i + 1) := by rw [List.drop_eq_getElem_cons hlt, hc]
    rw [hdr, encL] at ha
    cases c1 : inB d s with
    | true =>
      rw [if_pos c1] at ha
      have k1 : 0 ≤ d / 16 := by omega
      have k2 : d / 16 < 16 := by omega
      have k3 : 0 ≤ d % 16 := by omega
      have k4 : d % 16 < 16 := by omega
      simp -implicitDefEqProofs [go_sem, Tryz.f57, t0, t1, t5, t7, t6, hlt, hc, c1, rInSetC, hg, hm', ldN_b rfl, e1, e3, hmn, and15 hd, k1, k2, k3, k4]
      refine ih (i + 1, h1.length + 1, acc ++ [37, hexD (d / 16), hexD (d % 16)]) _ _ (by simp; omega) ⟨hlt, ?_⟩
      have hh : ∀ v : Int, 0 ≤ v → v < 16 → ∀ (hv : v.toNat < 16), [48, 49, 50, 51, 52, 53, 54, 55, 56, 57, 65, 66, 67, 68, 69, 70][v.toNat]'hv = hexD v := fun v _ _ hv => (getD_of hv rfl).symm
      simp -implicitDefEqProofs [go_sem, t0, t1, t5, t6, t7, i64_n hi6, he, hm]
      rw [hh _ k1 k2, hh _ k3 k4]
      exact ⟨by simp [bts], by omega, by omega, ha⟩
    | false =>
      rw [if_neg (by rw [c1]; simp)] at ha
      simp -implicitDefEqProofs [go_sem, Tryz.f57, t0, t1, t5, t7, t6, hlt, hc, c1, rInSetC, hg, hm', ldN_b rfl, e1, hmn]
      refine ih (i + 1, h1.length + 1, acc ++ [d]) _ _ (by simp; omega) ⟨hlt, ?_⟩
      simp -implicitDefEqProofs [go_sem, t0, t1, t5, t6, t7, i64_n hi6, he, hm]
      exact ⟨by omega, by omega, ha⟩
  · have e : i = l.length := by omega
    rw [e, List.drop_length, show encL s [] = [] from rfl, List.append_nil] at ha
    simp -implicitDefEqProofs [go_sem, Tryz.f57, t0, t1, t5, t6, t7, hlt, hg, hm', ldN_b rfl, e, he]
    exact ha
def trimL : List Int → List Int
  | [] => []
  | c :: t => if c ≤ 32 then trimL t else c :: t
def trimR (l : List Int) : List Int := (trimL l.reverse).reverse
theorem trimR_snoc (q : List Int) (c : Int) : trimR (q ++ [c]) = if c ≤ 32 then trimR q else q ++ [c] := by
  unfold trimR
  rw [List.reverse_append, show [c].reverse ++ q.reverse = c :: q.reverse from rfl, trimL]
  split
  · rfl
  · simp
theorem trimL_len : ∀ l, (trimL l).length ≤ l.length
  | [] => by simp [trimL]
  | c :: t => by
    have := trimL_len t
    rw [trimL]
    split <;> simp; omega
def keepB (c : Int) : Bool := !decide (c = 9) && !decide (c = 10) && !decide (c = 13)
def cleanL (l : List Int) : List Int := (trimR (trimL l)).filter keepB
theorem cleanL_len (l : List Int) : (cleanL l).length ≤ l.length := by
  unfold cleanL trimR
  refine Nat.le_trans (List.length_filter_le _ _) ?_
  have h1 := trimL_len (trimL l).reverse
  have h2 := trimL_len l
  simp at *
  omega
def rCleanC : Ct := fun args h => match args with | [.s l] => if l.length ≤ 1048576 then some (.s (cleanL l), h) else none | _ => none
theorem filter_snoc (l : List Int) (f : Int → Bool) {i : Nat} (h : i < l.length) : (l.take (i + 1)).filter f = (l.take i).filter f ++ if f l[i] = true then [l[i]] else [] := by
  rw [List.take_succ_eq_append_getElem h, List.filter_append]
  congr 1
  cases hf : f l[i] <;> simp [hf]
def loopL : Code → List Code
  | .loop a => a :: loopL a
  | .seq a b => loopL a ++ loopL b
  | .cond _ a b => loopL a ++ loopL b
  | .block _ a => loopL a
  | _ => []
def loopAt (f : Func) (n : Nat) : Code := (f.body.map fun c => (loopL c).getD n .skip).getD .skip
noncomputable def clean2 : Code := loopAt Tryz.f51 1
noncomputable def clean3 : Code := loopAt Tryz.f51 2
theorem clean2_ok {P : Ex → Tm → Heap → Prop} {k : List Todo} {s0 : List Int} {h : Heap} (hl : s0.length ≤ 1048576)
    (hx : ∀ t, get t 0 = .s (trimR s0) → RunX (ctx Tryz.prog G0 []) P k (.e 2) t h)
    {t : Tm} (t0 : get t 0 = .s s0) : Run (ctx Tryz.prog G0 []) P (.again clean2 :: k) t h := by
  refine run_inv _ _ _ _ _ (fun (s : List Int) t h2 => s.length ≤ 1048576 ∧ get t 0 = .s s ∧ trimR s = trimR s0 ∧ h2 = h) (fun s => s.length) _ (x := s0) ⟨hl, t0, rfl, rfl⟩ ?_
  rintro s t h2 ⟨hsl, t0, hs, rfl⟩ ih
  rcases List.eq_nil_or_concat s with rfl | ⟨q, c, rfl⟩
  · simp -implicitDefEqProofs [go_sem, clean2, loopAt, loopL, Tryz.f51, t0]
    exact hx _ (by simp -implicitDefEqProofs [go_sem, t0, ← hs]; rfl)
  · rw [List.concat_eq_append] at *
    rw [trimR_snoc] at hs
    simp at hsl
    have k1 : (0 : Int) < (q.length : Int) + 1 := by omega
    have k2 : (q.length : Int) + 1 - 1 = q.length := by omega
    have k3 : (q.length : Int) < q.length + 1 := by omega
    have k4 : (q.length : Int) ≤ q.length + 1 := by omega
    by_cases c1 : c ≤ 32
    · rw [if_pos c1] at hs
      simp -implicitDefEqProofs [go_sem, clean2, loopAt, loopL, Tryz.f51, t0, k1, k2, k3, k4, w64 (x := (q.length : Int)) (by omega), c1]
      refine ih q _ _ (by simp) ⟨by omega, ?_⟩
      simp -implicitDefEqProofs [go_sem, hs]
    · rw [if_neg c1] at hs
      simp -implicitDefEqProofs [go_sem, clean2, loopAt, loopL, Tryz.f51, t0, k1, k2, k3, k4, w64 (x := (q.length : Int)) (by omega), c1]
      exact hx _ (by simp -implicitDefEqProofs [go_sem, t0, ← hs])
theorem clean3_ok {P : Ex → Tm → Heap → Prop} {k : List Todo} {s : List Int} {m0 : Nat} {h h0 : Heap} (hl : s.length ≤ 1048576)
    (hx : ∀ t h1 m, get t 3 = .sl m 0 (s.filter keepB).length 1 → hget h1 m = ⟨2, false, bts (s.filter keepB)⟩ → m < h1.length → Ext h h1 → RunX (ctx Tryz.prog G0 []) P k (.e 4) t h1)
    {t : Tm} (t0 : get t 0 = .s s) (t4 : get t 4 = .i .i64 0) (t3 : get t 3 = .sl m0 0 0 1) (hg : hget h0 m0 = ⟨2, false, bts []⟩) (hm : h.length ≤ m0) (hm' : m0 < h0.length) (he : Ext h h0) : Run (ctx Tryz.prog G0 []) P (.again clean3 :: k) t h0 := by
  refine run_inv _ _ _ _ _ (fun (x : Nat × Nat × List Int) t h1 => x.1 ≤ s.length ∧ get t 0 = .s s ∧ get t 4 = .i .i64 x.1 ∧ get t 3 = .sl x.2.1 0 x.2.2.length 1 ∧ hget h1 x.2.1 = ⟨2, false, bts x.2.2⟩ ∧ h.length ≤ x.2.1 ∧ x.2.1 < h1.length ∧ Ext h h1 ∧ x.2.2.length ≤ x.1 ∧ x.2.2 = (s.take x.1).filter keepB) (fun x => s.length - x.1) _ (x := (0, m0, [])) ⟨by simp, t0, t4, t3, hg, hm, hm', he, by simp, by simp⟩ ?_
  clear t0 t4 t3 hg hm hm' he
  rintro ⟨i, m, acc⟩ t h1 ⟨hi, t0, t4, t3, hg, hm, hm', he, hal, ha⟩ ih
  simp only at hi t0 t4 t3 hg hm hm' hal ha
  have hmn : m ≠ h1.length := by omega
  have hi6 : i < 1152921504606846976 := by omega
  have e1 : (acc.length + 1) ≤ 1099511627776 := by omega
  by_cases hlt : i < s.length
  · obtain ⟨d, hc⟩ : ∃ d, s[i] = d := ⟨_, rfl⟩
    have hf := filter_snoc s keepB hlt
    rw [hc, ← ha] at hf
    have no : ∀ t', keepB d = false → get t' 0 = .s s → get t' 4 = .i .i64 ((i + 1 : Nat) : Int) → get t' 3 = .sl m 0 acc.length 1 → Run (ctx Tryz.prog G0 []) P (.again clean3 :: k) t' h1 := by
      intro t' e a b c
      refine ih (i + 1, m, acc) _ _ (by simp; omega) ⟨hlt, a, b, c, hg, hm, hm', he, by simp; omega, ?_⟩
      rw [hf, e]; simp
    by_cases c1 : d = 9
    · simp -implicitDefEqProofs [go_sem, clean3, loopAt, loopL, Tryz.f51, t0, t3, t4, hlt, hc, eq_true c1]
      exact no _ (by simp [keepB, c1]) (by simp -implicitDefEqProofs [go_sem, t0]) (by simp -implicitDefEqProofs [go_sem, t4, i64_n hi6]) (by simp -implicitDefEqProofs [go_sem, t3])
    · by_cases c2 : d = 10
      · simp -implicitDefEqProofs [go_sem, clean3, loopAt, loopL, Tryz.f51, t0, t3, t4, hlt, hc, c1, eq_true c2]
        exact no _ (by simp [keepB, c2]) (by simp -implicitDefEqProofs [go_sem, t0]) (by simp -implicitDefEqProofs [go_sem, t4, i64_n hi6]) (by simp -implicitDefEqProofs [go_sem, t3])
      · by_cases c3 : d = 13
        · simp -implicitDefEqProofs [go_sem, clean3, loopAt, loopL, Tryz.f51, t0, t3, t4, hlt, hc, c1, c2, eq_true c3]
          exact no _ (by simp [keepB, c3]) (by simp -implicitDefEqProofs [go_sem, t0]) (by simp -implicitDefEqProofs [go_sem, t4, i64_n hi6]) (by simp -implicitDefEqProofs [go_sem, t3])
        · have e : keepB d = true := by simp [keepB, c1, c2, c3]
          rw [e, if_pos rfl] at hf
          simp -implicitDefEqProofs [go_sem, clean3, loopAt, loopL, Tryz.f51, t0, t3, t4, hlt, hc, c1, c2, c3, hg, hm', ldN_b rfl, e1, hmn]
          refine ih (i + 1, h1.length + 1, acc ++ [d]) _ _ (by simp; omega) ⟨hlt, ?_⟩
          simp -implicitDefEqProofs [go_sem, t0, t3, t4, hf, i64_n hi6, he, hm]
          omega
  · have e : i = s.length := by omega
    rw [e, List.take_length] at ha
    subst ha
    simp -implicitDefEqProofs [go_sem, clean3, loopAt, loopL, Tryz.f51, t0, t3, t4, hlt]
    exact hx _ _ m (by simp -implicitDefEqProofs [go_sem, t3]) hg hm' he
theorem rClean_ok : CtOk Tryz.prog G0 51 rCleanC := by
  refine ct_plain (n := 1) fol sound_nil (by kernel_rfl) Tryz.func51 rfl fun args h v h' hc r xs H hr hx => ?_
  unfold rCleanC at hc; split at hc <;> (try split at hc) <;> cases hc
  rename_i l hl
  obtain ⟨⟨hs, _⟩, _⟩ := str_of hx
  refine ⟨rfl, rfl, by simp [renV, bndV], ?_⟩
  simp -implicitDefEqProofs [go_sem, Tryz.f51]
  refine run_inv _ _ _ _ _ (fun (s : List Int) t h1 => s.length ≤ l.length ∧ get t 0 = .s s ∧ trimL s = trimL l ∧ h1 = h) (fun s => s.length) _ (x := l) ⟨by simp, rfl, rfl, rfl⟩ ?_
  rintro s t h1 ⟨hsl, t0, hs1, rfl⟩ ih
  by_cases hgo : ∃ c r, s = c :: r ∧ c ≤ 32
  · obtain ⟨c, r, rfl, hc⟩ := hgo
    have k1 : (1 : Int) ≤ (r.length : Int) + 1 := by omega
    have k2 : (0 : Int) < (r.length : Int) + 1 := by omega
    simp at hsl
    simp -implicitDefEqProofs [go_sem, Tryz.f51, t0, hc, k1, k2]
    refine ih r _ _ (by simp) ⟨by omega, ?_⟩
    rw [trimL, if_pos hc] at hs1
    simp -implicitDefEqProofs [go_sem, hs1]
  · have hs2 : s = trimL l := by
      rw [← hs1]
      match s, hgo with
      | [], _ => rfl
      | c :: r, hgo => rw [trimL, if_neg fun e => hgo ⟨c, r, rfl, e⟩]
    have hlen : s.length ≤ 1048576 := by omega
    have two : ∀ c r, s = c :: r → ¬ c ≤ 32 := fun c r e h => hgo ⟨c, r, e, h⟩
    have hcl : cleanL l = (trimR s).filter keepB := by rw [hs2]; rfl
    have hlr : (trimR s).length ≤ 1048576 := by
      have := trimL_len s.reverse
      unfold trimR
      simp at this ⊢
      omega
    have fin : ∀ (Q : Ex → Tm → Heap → Prop) (k : List Todo) (t : Tm), (∀ t2 h2 m, get t2 3 = .sl m 0 ((trimR s).filter keepB).length 1 → hget h2 m = ⟨2, false, bts ((trimR s).filter keepB)⟩ → m < h2.length → Ext h1 h2 → RunX (ctx Tryz.prog G0 []) Q k (.e 4) t2 h2) → get t 0 = .s (trimR s) → get t 4 = .i .i64 0 → get t 3 = .sl h1.length 0 0 1 → Run (ctx Tryz.prog G0 []) Q (.again clean3 :: k) t (h1 ++ [⟨2, false, []⟩]) := fun Q k t a b c d => clean3_ok hlr a b c d (by simp -implicitDefEqProofs [go_sem, bts_nil]) (Nat.le_refl _) (by simp) (by simp -implicitDefEqProofs [go_sem])
    clear ih hs1 hs2
    rcases s with _ | ⟨c, r⟩
    · simp -implicitDefEqProofs [go_sem, Tryz.f51, t0]
      refine clean2_ok (s0 := []) (by simp) (fun t t0 => ?_) (by simp -implicitDefEqProofs [go_sem, t0])
      simp -implicitDefEqProofs [go_sem, Tryz.f51, t0]
      refine fin _ _ _ (fun t2 h2 m t3 hg hm he => ?_) (by simp -implicitDefEqProofs [go_sem, t0]) (by simp -implicitDefEqProofs [go_sem]) (by simp -implicitDefEqProofs [go_sem])
      simp -implicitDefEqProofs [go_sem, t3, hg, hm, ldN_b rfl, hcl, he]
    · have hc : ¬ c ≤ 32 := two c r rfl
      have k1 : (1 : Int) ≤ (r.length : Int) + 1 := by omega
      have k2 : (0 : Int) < (r.length : Int) + 1 := by omega
      simp -implicitDefEqProofs [go_sem, Tryz.f51, t0, hc, k1, k2]
      refine clean2_ok (s0 := c :: r) hlen (fun t t0 => ?_) (by simp -implicitDefEqProofs [go_sem, t0])
      simp -implicitDefEqProofs [go_sem, Tryz.f51, t0]
      refine fin _ _ _ (fun t2 h2 m t3 hg hm he => ?_) (by simp -implicitDefEqProofs [go_sem, t0]) (by simp -implicitDefEqProofs [go_sem]) (by simp -implicitDefEqProofs [go_sem])
      simp -implicitDefEqProofs [go_sem, t3, hg, hm, ldN_b rfl, hcl, he]
end GoD

/-! Runes and points as the document reads them. -/
namespace GoD
open Go Go.Proofs
set_option linter.unusedVariables false
set_option linter.unusedSimpArgs false
set_option maxHeartbeats 4000000
set_option maxRecDepth 100000
def runeStep (u c : Int) : Int := Go.bits .or .i64 (IntKind.i64.wrap (u * 64)) (IntKind.i64.wrap (Go.bits .and .u8 c 63))
def runeG : Nat → Int → List Int → Option Int
  | 0, u, _ => some u
  | _ + 1, _, [] => none
  | k + 1, u, c :: t => if Go.bits .and .u8 c 192 = 128 then runeG k (runeStep u c) t else none
def runeF (n : Nat) (least u : Int) (t : List Int) : Nat := if t.length + 1 < n then 0 else match runeG (n - 1) u t with
  | none => 0
  | some v => if v < least ∨ 1114111 < v ∨ (55296 ≤ v ∧ v ≤ 57343) then 0 else n
def runeN (c : Int) (t : List Int) : Nat :=
  if c < 128 then 1 else if 194 ≤ c ∧ c < 224 then runeF 2 128 (Go.bits .and .i64 (IntKind.i64.wrap c) 31) t
  else if 224 ≤ c ∧ c < 240 then runeF 3 2048 (Go.bits .and .i64 (IntKind.i64.wrap c) 15) t
  else if 240 ≤ c ∧ c < 245 then runeF 4 65536 (Go.bits .and .i64 (IntKind.i64.wrap c) 7) t else 0
theorem runeF_le (n : Nat) (a u : Int) (t : List Int) : runeF n a u t ≤ t.length + 1 := by
  unfold runeF
  split
  · omega
  · split
    · omega
    · split <;> omega
theorem runeN_le (c : Int) (t : List Int) : runeN c t ≤ t.length + 1 := by
  unfold runeN
  split
  · omega
  · split
    · exact runeF_le _ _ _ _
    · split
      · exact runeF_le _ _ _ _
      · split
        · exact runeF_le _ _ _ _
        · omega
noncomputable def runeLoop : Code := loop1 Tryz.f186
theorem rune_loop {P : Ex → Tm → Heap → Prop} {k : List Todo} {l : List Int} {n : Nat} {u w : Int} {g : Option Int} {h : Heap} (hl : l.length ≤ 281474976710656) (hn : 1 ≤ n) (hn' : n ≤ 4) (hnl : n ≤ l.length) (hg : runeG (n - 1) u (l.drop 1) = g)
    (hx : ∀ t v, g = some v → get t 5 = .i .i64 v → get t 4 = .i .i64 n → get t 6 = .i .i64 w → RunX (ctx Tryz.prog G0 []) P k (.e 1) t h)
    (hr : ∀ t, g = none → get t 2 = .i .i64 0 → RunX (ctx Tryz.prog G0 []) P k .r t h)
    {t : Tm} (t0 : get t 0 = .s l) (t4 : get t 4 = .i .i64 n) (t5 : get t 5 = .i .i64 u) (t6 : get t 6 = .i .i64 w) (t7 : get t 7 = .i .i64 1) : Run (ctx Tryz.prog G0 []) P (.again runeLoop :: k) t h := by
  refine run_inv _ _ _ _ _ (fun (x : Nat × Int) t h1 => 1 ≤ x.1 ∧ x.1 ≤ n ∧ get t 0 = .s l ∧ get t 4 = .i .i64 n ∧ get t 5 = .i .i64 x.2 ∧ get t 6 = .i .i64 w ∧ get t 7 = .i .i64 x.1 ∧ runeG (n - x.1) x.2 (l.drop x.1) = g ∧ h1 = h) (fun x => n - x.1) _ (x := (1, u)) ⟨Nat.le_refl _, hn, t0, t4, t5, t6, t7, hg, rfl⟩ ?_
  clear t0 t4 t5 t6 t7 hg
  rintro ⟨i, u⟩ t h1 ⟨hi, hin, t0, t4, t5, t6, t7, hg, rfl⟩ ih
  simp only at hi hin t5 t7 hg
  have hi6 : i < 1152921504606846976 := by omega
  by_cases hlt : i < n
  · have hlt' : i < l.length := by omega
    obtain ⟨d, hc⟩ : ∃ d, l[i] = d := ⟨_, rfl⟩
    rw [List.drop_eq_getElem_cons hlt', hc, show n - i = (n - (i + 1)) + 1 by omega, runeG] at hg
    by_cases c1 : Go.bits .and .u8 d 192 = 128
    · rw [if_pos c1] at hg
      simp -implicitDefEqProofs [go_sem, runeLoop, loop1, loopC, Tryz.f186, t0, t4, t5, t7, hlt, hlt', hc, eq_true c1]
      refine ih (i + 1, runeStep u d) _ _ (by simp; omega) ⟨by omega, hlt, ?_⟩
      simp -implicitDefEqProofs [go_sem, t0, t4, t5, t6, t7, i64_n hi6]
      exact ⟨rfl, hg⟩
    · rw [if_neg c1] at hg
      simp -implicitDefEqProofs [go_sem, runeLoop, loop1, loopC, Tryz.f186, t0, t4, t5, t7, hlt, hlt', hc, c1]
      exact hr _ hg.symm (by simp -implicitDefEqProofs [go_sem])
  · rw [show n - i = 0 by omega, runeG] at hg
    simp -implicitDefEqProofs [go_sem, runeLoop, loop1, loopC, Tryz.f186, t0, t4, t5, t7, hlt]
    exact hx _ u hg.symm (by simp -implicitDefEqProofs [go_sem, t5]) (by simp -implicitDefEqProofs [go_sem, t4]) (by simp -implicitDefEqProofs [go_sem, t6])
def rRuneAtC : Ct := fun args h => match args with | [.s (c :: l)] => some (.i .i64 (runeN c l), h) | _ => none
theorem rRuneAt_ok : CtOk Tryz.prog G0 186 rRuneAtC := by
  refine ct_plain (n := 1) fol sound_nil (by kernel_rfl) Tryz.func186 rfl fun args h v h' hc r xs H hr hx => ?_
  unfold rRuneAtC at hc; split at hc <;> (try split at hc) <;> cases hc
  rename_i c l
  obtain ⟨⟨hs, hl⟩, _⟩ := str_of hx
  refine ⟨rfl, rfl, by simp [renV, bndV], ?_⟩
  have hb : 0 ≤ c ∧ c < 256 := hs c List.mem_cons_self
  obtain ⟨res, hE⟩ : ∃ x, runeN c l = x := ⟨_, rfl⟩
  rw [hE]
  unfold runeN at hE
  by_cases c1 : c < 128
  · rw [if_pos c1] at hE
    subst hE
    simp -implicitDefEqProofs [go_sem, Tryz.f186, c1]
  rw [if_neg c1] at hE
  by_cases c2 : 194 ≤ c ∧ c < 224
  · rw [if_pos c2] at hE
    obtain ⟨c2, c3⟩ := c2
    revert hE; intro hE
    rw [runeF] at hE
    by_cases k1 : l.length + 1 < 2
    · rw [if_pos k1] at hE
      subst hE
      have k1' : (l.length : Int) + 1 < 2 := by omega
      simp -implicitDefEqProofs [go_sem, Tryz.f186, c1, c2, c3, k1', k1]
    · rw [if_neg k1] at hE
      have k1' : ¬ (l.length : Int) + 1 < 2 := by omega
      simp -implicitDefEqProofs [go_sem, Tryz.f186, c1, c2, c3, k1', k1]
      refine rune_loop (l := c :: l) (n := 2) (u := Go.bits .and .i64 (IntKind.i64.wrap c) 31) (w := 128) (g := runeG (2 - 1) (Go.bits .and .i64 (IntKind.i64.wrap c) 31) l) hl (by omega) (by omega) (by simp at k1 ⊢; omega) rfl ?_ ?_ (by simp -implicitDefEqProofs [go_sem]) (by simp -implicitDefEqProofs [go_sem]) (by simp -implicitDefEqProofs [go_sem]) (by simp -implicitDefEqProofs [go_sem]) (by simp -implicitDefEqProofs [go_sem])
      · intro t v e t5 t4 t6
        rw [e] at hE
        simp only at hE
        by_cases v1 : v < 128
        · rw [if_pos (.inl v1)] at hE
          subst hE
          simp -implicitDefEqProofs [go_sem, t5, t4, t6, v1]
        · by_cases v2 : 1114111 < v
          · rw [if_pos (.inr (.inl v2))] at hE
            subst hE
            simp -implicitDefEqProofs [go_sem, t5, t4, t6, v1, v2]
          · by_cases v3 : 55296 ≤ v
            · by_cases v4 : v ≤ 57343
              · rw [if_pos (.inr (.inr ⟨v3, v4⟩))] at hE
                subst hE
                simp -implicitDefEqProofs [go_sem, t5, t4, t6, v1, v2, v3, v4]
              · rw [if_neg (by omega)] at hE
                subst hE
                simp -implicitDefEqProofs [go_sem, t5, t4, t6, v1, v2, v3, v4]
            · rw [if_neg (by omega)] at hE
              subst hE
              simp -implicitDefEqProofs [go_sem, t5, t4, t6, v1, v2, v3]
      · intro t e t2
        rw [e] at hE
        subst hE
        simp -implicitDefEqProofs [go_sem, t2]
  rw [if_neg c2] at hE
  by_cases c4 : 224 ≤ c ∧ c < 240
  · rw [if_pos c4] at hE
    obtain ⟨c4, c5⟩ := c4
    have d1 : 194 ≤ c := by omega
    have d2 : ¬ c < 224 := by omega
    rw [runeF] at hE
    by_cases k1 : l.length + 1 < 3
    · rw [if_pos k1] at hE
      subst hE
      have k1' : (l.length : Int) + 1 < 3 := by omega
      simp -implicitDefEqProofs [go_sem, Tryz.f186, c1, d1, d2, c4, c5, k1', k1]
    · rw [if_neg k1] at hE
      have k1' : ¬ (l.length : Int) + 1 < 3 := by omega
      simp -implicitDefEqProofs [go_sem, Tryz.f186, c1, d1, d2, c4, c5, k1', k1]
      refine rune_loop (l := c :: l) (n := 3) (u := Go.bits .and .i64 (IntKind.i64.wrap c) 15) (w := 2048) (g := runeG (3 - 1) (Go.bits .and .i64 (IntKind.i64.wrap c) 15) l) hl (by omega) (by omega) (by simp at k1 ⊢; omega) rfl ?_ ?_ (by simp -implicitDefEqProofs [go_sem]) (by simp -implicitDefEqProofs [go_sem]) (by simp -implicitDefEqProofs [go_sem]) (by simp -implicitDefEqProofs [go_sem]) (by simp -implicitDefEqProofs [go_sem])
      · intro t v e t5 t4 t6
        rw [e] at hE
        simp only at hE
        by_cases v1 : v < 2048
        · rw [if_pos (.inl v1)] at hE
          subst hE
          simp -implicitDefEqProofs [go_sem, t5, t4, t6, v1]
        · by_cases v2 : 1114111 < v
          · rw [if_pos (.inr (.inl v2))] at hE
            subst hE
            simp -implicitDefEqProofs [go_sem, t5, t4, t6, v1, v2]
          · by_cases v3 : 55296 ≤ v
            · by_cases v4 : v ≤ 57343
              · rw [if_pos (.inr (.inr ⟨v3, v4⟩))] at hE
                subst hE
                simp -implicitDefEqProofs [go_sem, t5, t4, t6, v1, v2, v3, v4]
              · rw [if_neg (by omega)] at hE
                subst hE
                simp -implicitDefEqProofs [go_sem, t5, t4, t6, v1, v2, v3, v4]
            · rw [if_neg (by omega)] at hE
              subst hE
              simp -implicitDefEqProofs [go_sem, t5, t4, t6, v1, v2, v3]
      · intro t e t2
        rw [e] at hE
        subst hE
        simp -implicitDefEqProofs [go_sem, t2]
  rw [if_neg c4] at hE
  by_cases c6 : 240 ≤ c ∧ c < 245
  · rw [if_pos c6] at hE
    obtain ⟨c6, c7⟩ := c6
    have d1 : 194 ≤ c := by omega
    have d2 : ¬ c < 224 := by omega
    have d3 : 224 ≤ c := by omega
    have d4 : ¬ c < 240 := by omega
    rw [runeF] at hE
    by_cases k1 : l.length + 1 < 4
    · rw [if_pos k1] at hE
      subst hE
      have k1' : (l.length : Int) + 1 < 4 := by omega
      simp -implicitDefEqProofs [go_sem, Tryz.f186, c1, d1, d2, d3, d4, c6, c7, k1', k1]
    · rw [if_neg k1] at hE
      have k1' : ¬ (l.length : Int) + 1 < 4 := by omega
      simp -implicitDefEqProofs [go_sem, Tryz.f186, c1, d1, d2, d3, d4, c6, c7, k1', k1]
      refine rune_loop (l := c :: l) (n := 4) (u := Go.bits .and .i64 (IntKind.i64.wrap c) 7) (w := 65536) (g := runeG (4 - 1) (Go.bits .and .i64 (IntKind.i64.wrap c) 7) l) hl (by omega) (by omega) (by simp at k1 ⊢; omega) rfl ?_ ?_ (by simp -implicitDefEqProofs [go_sem]) (by simp -implicitDefEqProofs [go_sem]) (by simp -implicitDefEqProofs [go_sem]) (by simp -implicitDefEqProofs [go_sem]) (by simp -implicitDefEqProofs [go_sem])
      · intro t v e t5 t4 t6
        rw [e] at hE
        simp only at hE
        by_cases v1 : v < 65536
        · rw [if_pos (.inl v1)] at hE
          subst hE
          simp -implicitDefEqProofs [go_sem, t5, t4, t6, v1]
        · by_cases v2 : 1114111 < v
          · rw [if_pos (.inr (.inl v2))] at hE
            subst hE
            simp -implicitDefEqProofs [go_sem, t5, t4, t6, v1, v2]
          · by_cases v3 : 55296 ≤ v
            · by_cases v4 : v ≤ 57343
              · rw [if_pos (.inr (.inr ⟨v3, v4⟩))] at hE
                subst hE
                simp -implicitDefEqProofs [go_sem, t5, t4, t6, v1, v2, v3, v4]
              · rw [if_neg (by omega)] at hE
                subst hE
                simp -implicitDefEqProofs [go_sem, t5, t4, t6, v1, v2, v3, v4]
            · rw [if_neg (by omega)] at hE
              subst hE
              simp -implicitDefEqProofs [go_sem, t5, t4, t6, v1, v2, v3]
      · intro t e t2
        rw [e] at hE
        subst hE
        simp -implicitDefEqProofs [go_sem, t2]
  rw [if_neg c6] at hE
  subst hE
  by_cases d1 : 194 ≤ c
  · have d2 : ¬ c < 224 := by omega
    have d3 : 224 ≤ c := by omega
    have d4 : ¬ c < 240 := by omega
    have d5 : 240 ≤ c := by omega
    have d6 : ¬ c < 245 := by omega
    simp -implicitDefEqProofs [go_sem, Tryz.f186, c1, d1, d2, d3, d4, d5, d6]
  · have d3 : ¬ 224 ≤ c := by omega
    have d5 : ¬ 240 ≤ c := by omega
    simp -implicitDefEqProofs [go_sem, Tryz.f186, c1, d1, d3, d5]
/-- where the first byte is that is no rune -/
def brokenG : Nat → List Int → Nat
  | 0, _ => 0
  | _, [] => 0
  | f + 1, c :: t => if runeN c t = 0 then 0 else runeN c t + brokenG f (t.drop (runeN c t - 1))
theorem brokenG_fuel : ∀ (f g : Nat) (l : List Int), l.length ≤ f → l.length ≤ g → brokenG f l = brokenG g l
  | 0, 0, l, _, _ => rfl
  | 0, g + 1, l, h, _ => by rw [List.length_eq_zero_iff.1 (show l.length = 0 by omega)]; simp [brokenG]
  | f + 1, 0, l, _, h => by rw [List.length_eq_zero_iff.1 (show l.length = 0 by omega)]; simp [brokenG]
  | f + 1, g + 1, l, h1, h2 => by
    match l with
    | [] => simp [brokenG]
    | c :: t =>
      simp at h1 h2
      rw [brokenG, brokenG]
      split
      · rfl
      · rw [brokenG_fuel f g _ (by simp; omega) (by simp; omega)]
def brokenN (l : List Int) : Nat := brokenG l.length l
theorem brokenN_nil : brokenN [] = 0 := rfl
theorem brokenN_cons (c : Int) (t : List Int) : brokenN (c :: t) = if runeN c t = 0 then 0 else runeN c t + brokenN (t.drop (runeN c t - 1)) := by
  unfold brokenN
  rw [show (c :: t).length = t.length + 1 from rfl, brokenG]
  split
  · rfl
  · rw [brokenG_fuel t.length (t.drop (runeN c t - 1)).length _ (by simp) (Nat.le_refl _)]
def rBrokenC : Ct := fun args h => match args with | [.s l] => some (.i .i64 (brokenN l), h) | _ => none
theorem rBroken_ok : CtOk Tryz.prog G0 115 rBrokenC := by
  refine ct_plain (n := 1) fol (sound_cons rRuneAt_ok sound_nil) (by kernel_rfl) Tryz.func115 rfl fun args h v h' hc r xs H hr hx => ?_
  unfold rBrokenC at hc; split at hc <;> (try split at hc) <;> cases hc
  rename_i l
  obtain ⟨⟨hs, hl⟩, _⟩ := str_of hx
  refine ⟨rfl, rfl, by simp [renV, bndV], ?_⟩
  simp -implicitDefEqProofs [go_sem, Tryz.f115]
  refine run_inv _ _ _ _ _ (fun (i : Nat) t h1 => i ≤ l.length ∧ get t 0 = .s l ∧ get t 3 = .i .i64 i ∧ i + brokenN (l.drop i) = brokenN l ∧ Ext h h1) (fun i => l.length - i) _ (x := 0) ⟨by simp, rfl, rfl, by simp, Ext.refl h⟩ ?_
  rintro i t h1 ⟨hi, t0, t3, hd, he⟩ ih
  by_cases hlt : i < l.length
  · obtain ⟨d, hc⟩ : ∃ d, l[i] = d := ⟨_, rfl⟩
    have hdr : l.drop i = d :: l.drop (i + 1) := by rw [List.drop_eq_getElem_cons hlt, hc]
    rw [hdr, brokenN_cons] at hd
    have hle := runeN_le d (l.drop (i + 1))
    rw [List.length_drop] at hle
    have hile : (i : Int) ≤ l.length := by omega
    by_cases c1 : runeN d (l.drop (i + 1)) = 0
    · rw [if_pos c1] at hd
      simp -implicitDefEqProofs [go_sem, Tryz.f115, t0, t3, hlt, hi, hile, hdr, rRuneAtC, c1, he]
      omega
    · rw [if_neg c1, List.drop_drop] at hd
      simp -implicitDefEqProofs [go_sem, Tryz.f115, t0, t3, hlt, hi, hile, hdr, rRuneAtC, c1]
      refine ih (i + runeN d (l.drop (i + 1))) _ _ (by omega) ⟨by omega, ?_⟩
      simp -implicitDefEqProofs [go_sem, t0, t3, he, w64 (x := (i : Int) + runeN d (l.drop (i + 1))) (by omega)]
      rw [← hd, show i + 1 + (runeN d (l.drop (i + 1)) - 1) = i + runeN d (l.drop (i + 1)) by omega]
      omega
  · have e0 : l.drop i = [] := List.drop_eq_nil_of_le (by omega)
    rw [e0, brokenN_nil] at hd
    simp -implicitDefEqProofs [go_sem, Tryz.f115, t0, t3, hlt, he]
    omega
def utf8B (l : List Int) : Bool := decide (brokenN l = l.length)
def rUTF8C : Ct := fun args h => match args with | [.s l] => some (.b (utf8B l), h) | _ => none
theorem rUTF8_ok : CtOk Tryz.prog G0 50 rUTF8C := by
  refine ct_plain (n := 1) fol (sound_cons rBroken_ok sound_nil) (by kernel_rfl) Tryz.func50 rfl fun args h v h' hc r xs H hr hx => ?_
  unfold rUTF8C at hc; split at hc <;> (try split at hc) <;> cases hc
  rename_i l
  refine ⟨rfl, rfl, by simp [renV, bndV], ?_⟩
  simp -implicitDefEqProofs [go_sem, Tryz.f50, rBrokenC, utf8B]
  exact ⟨fun h => by omega, fun h => by omega⟩
/-- points -/
def dotsL : List Int → Option Nat
  | [] => some 0
  | c :: t => if c = 46 then (dotsL t).map (· + 1) else if c = 37 then (match t with
    | a :: b :: r => if a = 50 ∧ b = 101 then (dotsL r).map (· + 1) else none
    | _ => none) else none
def dotsT : List Int → Option Nat
  | a :: b :: r => if a = 50 ∧ b = 101 then (dotsL r).map (· + 1) else none
  | _ => none
theorem dotsL_cons (c : Int) (t : List Int) : dotsL (c :: t) = if c = 46 then (dotsL t).map (· + 1) else if c = 37 then dotsT t else none := by
  match t with
  | [] => simp [dotsL, dotsT]
  | [a] => simp [dotsL, dotsT]
  | a :: b :: r => simp [dotsL, dotsT]
def dotsN (l : List Int) : Nat := match dotsL (lowerL l) with
  | some n => if 2 < n then 0 else n
  | none => 0
def rDotsC : Ct := fun args h => match args with | [.s l] => if l.length ≤ 1048576 then some (.i .i64 (dotsN l), h) else none | _ => none
theorem rDots_ok : CtOk Tryz.prog G0 122 rDotsC := by
  refine ct_plain (n := 1) fol (sound_cons rLower_ok sound_nil) (by kernel_rfl) Tryz.func122 rfl fun args h v h' hc r xs H hr hx => ?_
  unfold rDotsC at hc; split at hc <;> (try split at hc) <;> cases hc
  rename_i l hl
  obtain ⟨⟨hs, _⟩, _⟩ := str_of hx
  refine ⟨rfl, rfl, by simp [renV, bndV], ?_⟩
  obtain ⟨res, hE⟩ : ∃ x, dotsN l = x := ⟨_, rfl⟩
  rw [hE]
  unfold dotsN at hE
  have hl2 : (lowerL l).length ≤ 1048576 := by simpa [lowerL] using hl
  simp -implicitDefEqProofs [go_sem, Tryz.f122, rLowerC, hl]
  refine run_inv _ _ _ _ _ (fun (x : List Int × Nat) t h1 => x.1.length + x.2 ≤ 1048576 ∧ get t 0 = .s x.1 ∧ get t 3 = .i .i64 x.2 ∧ (dotsL x.1).map (x.2 + ·) = dotsL (lowerL l) ∧ Ext h h1) (fun x => x.1.length) _ (x := (lowerL l, 0)) ⟨by simp; omega, by simp -implicitDefEqProofs [go_sem], by simp -implicitDefEqProofs [go_sem], by simp, Ext.refl h⟩ ?_
  rintro ⟨s, n⟩ t h1 ⟨hsl, t0, t3, hd, he⟩ ih
  simp only at hsl t0 t3 hd
  have hn6 : n < 1152921504606846976 := by omega
  have pl : ∀ o : Option Nat, (o.map (· + 1)).map (n + ·) = o.map (n + 1 + ·) := fun o => by cases o <;> simp; omega
  match s, hsl, t0, hd with
  | [], _, t0, hd =>
    rw [dotsL] at hd
    rw [← hd] at hE
    simp at hE
    by_cases c1 : 2 < n
    · rw [if_pos c1] at hE
      subst hE
      have c1' : (2 : Int) < n := by omega
      simp -implicitDefEqProofs [go_sem, Tryz.f122, t0, t3, c1, c1', he]
    · rw [if_neg c1] at hE
      subst hE
      have c1' : ¬ (2 : Int) < n := by omega
      simp -implicitDefEqProofs [go_sem, Tryz.f122, t0, t3, c1, c1', he]
  | c :: q, hsl, t0, hd =>
    have k1 : (1 : Int) ≤ (q.length : Int) + 1 := by omega
    have k2 : (0 : Int) < (q.length : Int) + 1 := by omega
    simp at hsl
    rw [dotsL_cons] at hd
    by_cases c1 : c = 46
    · rw [if_pos c1, pl] at hd
      simp -implicitDefEqProofs [go_sem, Tryz.f122, t0, t3, eq_true c1, k1, k2]
      refine ih (q, n + 1) _ _ (by simp) ⟨by simp; omega, ?_⟩
      simp -implicitDefEqProofs [go_sem, t3, i64_n hn6, he, hd]
    · rw [if_neg c1] at hd
      match q, k1, k2, hsl, t0, hd with
      | [], _, _, _, t0, hd =>
        have : dotsL (lowerL l) = none := by rw [← hd, show dotsT [] = none from rfl]; split <;> rfl
        rw [this] at hE
        subst hE
        simp -implicitDefEqProofs [go_sem, Tryz.f122, t0, t3, c1, he]
      | [a], _, _, _, t0, hd =>
        have : dotsL (lowerL l) = none := by rw [← hd, show dotsT [a] = none from rfl]; split <;> rfl
        rw [this] at hE
        subst hE
        simp -implicitDefEqProofs [go_sem, Tryz.f122, t0, t3, c1, he]
      | a :: b :: r, _, _, hsl, t0, hd =>
        have k3 : (3 : Int) ≤ (r.length : Int) + 1 + 1 + 1 := by omega
        have k4 : (0 : Int) < (r.length : Int) + 1 + 1 + 1 := by omega
        simp at hsl
        by_cases c2 : c = 37 ∧ a = 50 ∧ b = 101
        · obtain ⟨rfl, rfl, rfl⟩ := c2
          rw [if_pos rfl, dotsT, if_pos ⟨rfl, rfl⟩, pl] at hd
          simp -implicitDefEqProofs [go_sem, Tryz.f122, t0, t3, k3, k4]
          refine ih (r, n + 1) _ _ (by simp; omega) ⟨by simp; omega, ?_⟩
          simp -implicitDefEqProofs [go_sem, t3, i64_n hn6, he, hd]
        · have : dotsL (lowerL l) = none := by
            rw [← hd, dotsT]
            split
            · rename_i e1
              rw [if_neg fun e => c2 ⟨e1, e.1, e.2⟩]; rfl
            · rfl
          rw [this] at hE
          subst hE
          have c3 : ([c, a, b] = [37, 50, 101]) = False := eq_false fun e => by simp at e; exact c2 ⟨e.1, e.2.1, e.2.2⟩
          have c4 : c = 37 → a = 50 → ¬ b = 101 := fun e1 e2 e3 => c2 ⟨e1, e2, e3⟩
          by_cases d1 : c = 37
          · by_cases d2 : a = 50
            · have d3 : ¬ b = 101 := c4 d1 d2
              simp -implicitDefEqProofs [go_sem, Tryz.f122, t0, t3, c1, eq_true d1, eq_true d2, d3, k3, k4, he]
            · simp -implicitDefEqProofs [go_sem, Tryz.f122, t0, t3, c1, eq_true d1, d2, k3, k4, he]
          · simp -implicitDefEqProofs [go_sem, Tryz.f122, t0, t3, c1, d1, k3, k4, he]
end GoD

/-! Paths as the document reads them. -/
namespace GoD
open Go Go.Proofs
set_option linter.unusedVariables false
set_option linter.unusedSimpArgs false
set_option maxHeartbeats 4000000
set_option maxRecDepth 100000
def pathStep (acc : List (List Int)) (p : List Int) (last : Bool) : List (List Int) :=
  if dotsN p = 0 then acc ++ [encL 3 p] else if last = true then (if dotsN p = 2 then acc.dropLast else acc) ++ [[]] else if dotsN p = 2 then acc.dropLast else acc
def pathG (acc : List (List Int)) (cur : List Int) : List Int → List (List Int)
  | [] => pathStep acc cur true
  | c :: t => if c = 47 ∨ c = 92 then pathG (pathStep acc cur false) [] t else pathG acc (cur ++ [c]) t
def slashL (l : List (List Int)) : List Int := l.flatMap (47 :: ·)
def pathL (s : List Int) : List Int := if s = [] then [47] else if pathG [] [] s.tail = [] then [47] else slashL (pathG [] [] s.tail)
theorem slashL_len {l : List (List Int)} {b : Nat} (h : ∀ p ∈ l, p.length ≤ b) : (slashL l).length ≤ l.length * (b + 1) := by
  unfold slashL
  induction l with
  | nil => simp
  | cons p l ih =>
    have h1 := ih fun q hq => h q (List.mem_cons_of_mem _ hq)
    have h2 := h p List.mem_cons_self
    rw [List.flatMap_cons, List.length_append, List.length_cons, List.length_cons, Nat.add_mul]
    omega
theorem slashL_snoc {l : List (List Int)} {i : Nat} (h : i < l.length) : slashL (l.take (i + 1)) = slashL (l.take i) ++ 47 :: l[i] := by
  unfold slashL
  rw [List.take_succ_eq_append_getElem h, List.flatMap_append]
  simp
theorem ldN_at {c : List V} {l : List (List Int)} {n i : Nat} (h : ldN c 0 n = some (sts l)) (hn : l.length = n) (hi : i < n) (hi' : i < l.length) : ldN c i 1 = some [.s l[i]] := by
  unfold ldN at h ⊢
  split at h
  · rename_i hb
    have h := Option.some.inj h
    have h1 : c[i]? = some (.s l[i]) := by
      have := congrArg (fun z : List V => z[i]?) h
      simp only [List.drop_zero, List.getElem?_take, if_pos hi, sts, List.getElem?_map, List.getElem?_eq_getElem hi', Option.map_some] at this
      exact this
    have h2 : i < c.length := by omega
    rw [if_pos (by omega), List.drop_eq_getElem_cons h2]
    rw [List.getElem?_eq_getElem h2] at h1
    rw [Option.some.inj h1]; rfl
  · cases h
theorem ldN_less {c : List V} {l : List (List Int)} {n : Nat} (h : ldN c 0 n = some (sts l)) (hn : l.length = n) (k : Nat) (hk : k ≤ n) : ldN c 0 k = some (sts (l.take k)) := by
  unfold ldN at h ⊢
  split at h
  · rename_i hb
    have h := Option.some.inj h
    rw [if_pos (by omega)]
    congr 1
    have := congrArg (List.take k) h
    rw [List.drop_zero, List.take_take, Nat.min_eq_left hk] at this
    rw [List.drop_zero, this]
    simp [sts]
  · cases h
noncomputable def path1 : Code := loopAt Tryz.f58 0
noncomputable def path2 : Code := loopAt Tryz.f58 1
noncomputable def pathE : Env := ctx Tryz.prog G0 [(122, rDotsC), (57, rEncodeC)]
theorem path2_ok {P : Ex → Tm → Heap → Prop} {k : List Todo} {l : List (List Int)} {m : Nat} {c : List V} {h : Heap} (hl : l.length ≤ 1048577) (hb : ∀ p ∈ l, p.length ≤ 3145728) (hg : hget h m = ⟨2, false, c⟩) (hm : m < h.length) (hc : ldN c 0 l.length = some (sts l))
    (hx : ∀ t, get t 9 = .s (slashL l) → RunX (ctx Tryz.prog G0 [(122, rDotsC), (57, rEncodeC)]) P k (.e 2) t h)
    {t : Tm} (t3 : get t 3 = .sl m 0 l.length 1) (t9 : get t 9 = .s []) (t10 : get t 10 = .i .i64 0) : Run (ctx Tryz.prog G0 [(122, rDotsC), (57, rEncodeC)]) P (.again path2 :: k) t h := by
  refine run_inv _ _ _ _ _ (fun (i : Nat) t h1 => i ≤ l.length ∧ get t 3 = .sl m 0 l.length 1 ∧ get t 9 = .s (slashL (l.take i)) ∧ get t 10 = .i .i64 i ∧ h1 = h) (fun i => l.length - i) _ (x := 0) ⟨by simp, t3, t9, t10, rfl⟩ ?_
  clear t3 t9 t10
  rintro i t h1 ⟨hi, t3, t9, t10, rfl⟩ ih
  have hi6 : i < 1152921504606846976 := by omega
  by_cases hlt : i < l.length
  · have hd := ldN_at hc rfl hlt hlt
    have b1 := slashL_len (l := l.take i) (b := 3145728) fun p hp => hb p (List.mem_of_mem_take hp)
    have b2 : (l.take i).length * (3145728 + 1) ≤ 1048577 * 3145729 := Nat.mul_le_mul (by simp; omega) (by omega)
    have b3 := hb l[i] (List.getElem_mem hlt)
    obtain ⟨q, hq⟩ : ∃ q, slashL (l.take i) = q := ⟨_, rfl⟩
    obtain ⟨p, hp⟩ : ∃ p, l[i] = p := ⟨_, rfl⟩
    have hs := slashL_snoc hlt
    rw [hq] at b1 hs t9
    rw [hp] at hd b3 hs
    have e1 : q.length + 1 ≤ 281474976710656 := by omega
    have e2 : q.length + 1 + p.length ≤ 281474976710656 := by omega
    have e3 : q.length + (p.length + 1) ≤ 281474976710656 := by omega
    simp -implicitDefEqProofs [go_sem, path2, loopAt, loopL, Tryz.f58, t3, t9, t10, hlt, hg, hm, hd, e1, e2, e3]
    refine ih (i + 1) _ _ (by omega) ⟨hlt, ?_⟩
    simp -implicitDefEqProofs [go_sem, t3, t9, t10, hs, i64_n hi6]
  · have e : i = l.length := by omega
    rw [e, List.take_length] at t9
    simp -implicitDefEqProofs [go_sem, path2, loopAt, loopL, Tryz.f58, t3, t9, t10, hlt]
    exact hx _ (by simp -implicitDefEqProofs [go_sem, t9])
theorem path1_ok {P : Ex → Tm → Heap → Prop} {k : List Todo} {l : List Int} {R : List (List Int)} {m0 : Nat} {h h0 : Heap} (hl : l.length ≤ 1048576) (hl0 : 1 ≤ l.length) (hs : Str l) (hR : pathG [] [] (l.drop 1) = R)
    (hx : ∀ t h1 m c, get t 3 = .sl m 0 R.length 1 → hget h1 m = ⟨2, false, c⟩ → ldN c 0 R.length = some (sts R) → m < h1.length → R.length ≤ 1048577 → (∀ p ∈ R, p.length ≤ 3145728) → Ext h h1 → RunX (ctx Tryz.prog G0 [(122, rDotsC), (57, rEncodeC)]) P k (.e 0) t h1)
    {t : Tm} (t0 : get t 0 = .s l) (t4 : get t 4 = .i .i64 1) (t5 : get t 5 = .i .i64 1) (t3 : get t 3 = .sl m0 0 0 1) (hg : hget h0 m0 = ⟨2, false, []⟩) (hm : h.length ≤ m0) (hm' : m0 < h0.length) (he : Ext h h0) : Run (ctx Tryz.prog G0 [(122, rDotsC), (57, rEncodeC)]) P (.again path1 :: k) t h0 := by
  refine run_inv _ _ _ _ _ (fun (x : Nat × Nat × Nat × List V × List (List Int)) t h1 => 1 ≤ x.2.1 ∧ x.2.1 ≤ x.1 ∧ x.1 ≤ l.length + 1 ∧ get t 0 = .s l ∧ get t 4 = .i .i64 x.2.1 ∧ get t 5 = .i .i64 x.1 ∧ get t 3 = .sl x.2.2.1 0 x.2.2.2.2.length 1 ∧ hget h1 x.2.2.1 = ⟨2, false, x.2.2.2.1⟩ ∧ ldN x.2.2.2.1 0 x.2.2.2.2.length = some (sts x.2.2.2.2) ∧ h.length ≤ x.2.2.1 ∧ x.2.2.1 < h1.length ∧ Ext h h1 ∧ x.2.2.2.2.length < x.1 ∧ (∀ p ∈ x.2.2.2.2, p.length ≤ 3145728) ∧ (if x.1 ≤ l.length then pathG x.2.2.2.2 ((l.drop x.2.1).take (x.1 - x.2.1)) (l.drop x.1) else x.2.2.2.2) = R) (fun x => l.length + 1 - x.1) _ (x := (1, 1, m0, [], [])) ⟨Nat.le_refl _, Nat.le_refl _, by omega, t0, t4, t5, t3, hg, by simp [ldN, sts], hm, hm', he, by simp, by simp, by simpa [hl0] using hR⟩ ?_
  clear t0 t4 t5 t3 hg hm hm' he hR
  rintro ⟨i, f, m, c, acc⟩ t h1 ⟨hf, hfi, hi, t0, t4, t5, t3, hg, hc, hm, hm', he, hal, hb, hR⟩ ih
  simp only at hf hfi hi t0 t4 t5 t3 hg hc hm hm' hal hb hR
  have hmn : m ≠ h1.length := by omega
  have hi6 : i < 1152921504606846976 := by omega
  have e1 : (acc.length + 1) * 16 ≤ 1099511627776 := by omega
  have e2 : (acc.dropLast.length + 1) * 16 ≤ 1099511627776 := by simp; omega
  have e3 : (acc.length - 1 + 1) * 16 ≤ 1099511627776 := by omega
  by_cases hil : i ≤ l.length
  · rw [if_pos hil] at hR
    have hil' : (i : Int) ≤ l.length := by omega
    have hfi' : (f : Int) ≤ i := by omega
    have hfl : (f : Int) ≤ l.length := by omega
    obtain ⟨p, hp⟩ : ∃ p, (l.drop f).take (i - f) = p := ⟨_, rfl⟩
    have hpl : p.length ≤ 1048576 := by rw [← hp]; simp; omega
    have hel : (encL 3 p).length ≤ 3145728 := by have := encL_len 3 p; omega
    rw [hp] at hR
    have go : ∀ (A : List (List Int)) (m' : Nat) (c' : List V) (t' : Tm) (h' : Heap), (if i + 1 ≤ l.length then pathG A [] (l.drop (i + 1)) else A) = R → get t' 0 = .s l → get t' 4 = .i .i64 ((i + 1 : Nat) : Int) → get t' 5 = .i .i64 ((i + 1 : Nat) : Int) → get t' 3 = .sl m' 0 A.length 1 → hget h' m' = ⟨2, false, c'⟩ → ldN c' 0 A.length = some (sts A) → h.length ≤ m' → m' < h'.length → Ext h h' → A.length ≤ i → (∀ p ∈ A, p.length ≤ 3145728) → Run (ctx Tryz.prog G0 [(122, rDotsC), (57, rEncodeC)]) P (.again path1 :: k) t' h' := by
      intro A m' c' t' h' a1 a2 a3 a4 a5 a6 a7 a8 a9 a10 a11 a12
      exact ih (i + 1, i + 1, m', c', A) _ _ (by simp; omega) ⟨by simp, Nat.le_refl _, by simp; omega, a2, a3, a4, a5, a6, a7, a8, a9, a10, by simp; omega, a12, by simpa using a1⟩
    have bd : ∀ q ∈ acc.dropLast, q.length ≤ 3145728 := fun q hq => hb q ((List.dropLast_sublist acc).subset hq)
    have be : ∀ (A : List (List Int)) (x : List Int), (∀ q ∈ A, q.length ≤ 3145728) → x.length ≤ 3145728 → ∀ q ∈ A ++ [x], q.length ≤ 3145728 := by
      intro A x h1 h2 q hq
      rcases List.mem_append.1 hq with h | h
      · exact h1 q h
      · rw [List.mem_singleton.1 h]; exact h2
    have hcd : ldN c 0 (acc.length - 1) = some (sts acc.dropLast) := by rw [List.dropLast_eq_take]; exact ldN_less hc rfl _ (by omega)
    have hdl : acc.dropLast.length = acc.length - 1 := List.length_dropLast
    by_cases hlt : i < l.length
    · obtain ⟨d, hc0⟩ : ∃ d, l[i] = d := ⟨_, rfl⟩
      have hdr : l.drop i = d :: l.drop (i + 1) := by rw [List.drop_eq_getElem_cons hlt, hc0]
      have hne : (i = l.length) = False := eq_false (by omega)
      have hne' : ((i : Int) = l.length) = False := eq_false (by omega)
      rw [hdr, pathG] at hR
      by_cases s1 : d = 47
      · rw [if_pos (.inl s1)] at hR
        by_cases d0 : dotsN p = 0
        · rw [pathStep, if_pos d0] at hR
          simp -implicitDefEqProofs [go_sem, path1, loopAt, loopL, Tryz.f58, t0, t3, t4, t5, hlt, hc0, hne, hne', eq_true s1, hil', hfi', hfl, hp, hpl, rDotsC, rEncodeC, hg, hm', hmn, hc, e1, e2, e3, i64_n hi6, d0]
          refine go (acc ++ [encL 3 p]) (h1.length + 1) (sts (acc ++ [encL 3 p])) _ _ (by rw [if_pos (by omega)]; exact hR) ?_ ?_ ?_ ?_ ?_ (ldN_s rfl) (by omega) (by simp) (by simp -implicitDefEqProofs [go_sem, he, hm]) (by simp; omega) (be _ _ hb hel) <;> simp -implicitDefEqProofs [go_sem, t0, t3, t4, t5, i64_n hi6]
        · rw [pathStep, if_neg d0] at hR
          by_cases d2 : dotsN p = 2
          · rw [if_neg (by simp), if_pos d2] at hR
            rcases hacc : acc with _ | ⟨a0, ar⟩
            · subst hacc
              simp -implicitDefEqProofs [go_sem, path1, loopAt, loopL, Tryz.f58, t0, t3, t4, t5, hlt, hc0, hne, hne', eq_true s1, hil', hfi', hfl, hp, hpl, rDotsC, rEncodeC, hg, hm', hmn, hc, e1, e2, e3, i64_n hi6, d2]
              refine go [] m c _ _ (by rw [if_pos (by omega)]; exact hR) ?_ ?_ ?_ ?_ hg hc hm hm' he (by simp) (by simp) <;> simp -implicitDefEqProofs [go_sem, t0, t3, t4, t5, i64_n hi6]
            · have a1 : 0 < acc.length := by rw [hacc]; simp
              have a2 : (0 : Int) < acc.length := by omega
              have a3 : (0 : Int) ≤ (acc.length : Int) - 1 := by omega
              have a4 : (acc.length : Int) - 1 ≤ acc.length := by omega
              have a5 : ((acc.length : Int) - 1).toNat = acc.length - 1 := by omega
              have a6 : (1 : Int) ≤ acc.length := by omega
              clear hacc
              simp -implicitDefEqProofs [go_sem, path1, loopAt, loopL, Tryz.f58, t0, t3, t4, t5, hlt, hc0, hne, hne', eq_true s1, hil', hfi', hfl, hp, hpl, rDotsC, rEncodeC, hg, hm', hmn, hc, e1, e2, e3, i64_n hi6, d2, a1, a2, a3, a4, a5, a6, hcd, w64 (x := (acc.length : Int) - 1) (by omega)]
              refine go acc.dropLast m c _ _ (by rw [if_pos (by omega)]; exact hR) ?_ ?_ ?_ ?_ hg (by rw [hdl]; exact hcd) hm hm' he (by simp; omega) bd <;> simp -implicitDefEqProofs [go_sem, t0, t3, t4, t5, i64_n hi6]
          · rw [if_neg (by simp), if_neg d2] at hR
            simp -implicitDefEqProofs [go_sem, path1, loopAt, loopL, Tryz.f58, t0, t3, t4, t5, hlt, hc0, hne, hne', eq_true s1, hil', hfi', hfl, hp, hpl, rDotsC, rEncodeC, hg, hm', hmn, hc, e1, e2, e3, i64_n hi6, d0, d2, show ((dotsN p : Int) = 0) = False from eq_false (by omega), show ((dotsN p : Int) = 2) = False from eq_false (by omega)]
            refine go acc m c _ _ (by rw [if_pos (by omega)]; exact hR) ?_ ?_ ?_ ?_ hg hc hm hm' he (by omega) hb <;> simp -implicitDefEqProofs [go_sem, t0, t3, t4, t5, i64_n hi6]
      · by_cases s2 : d = 92
        · rw [if_pos (.inr s2)] at hR
          by_cases d0 : dotsN p = 0
          · rw [pathStep, if_pos d0] at hR
            simp -implicitDefEqProofs [go_sem, path1, loopAt, loopL, Tryz.f58, t0, t3, t4, t5, hlt, hc0, hne, hne', s1, eq_true s2, hil', hfi', hfl, hp, hpl, rDotsC, rEncodeC, hg, hm', hmn, hc, e1, e2, e3, i64_n hi6, d0]
            refine go (acc ++ [encL 3 p]) (h1.length + 1) (sts (acc ++ [encL 3 p])) _ _ (by rw [if_pos (by omega)]; exact hR) ?_ ?_ ?_ ?_ ?_ (ldN_s rfl) (by omega) (by simp) (by simp -implicitDefEqProofs [go_sem, he, hm]) (by simp; omega) (be _ _ hb hel) <;> simp -implicitDefEqProofs [go_sem, t0, t3, t4, t5, i64_n hi6]
          · rw [pathStep, if_neg d0] at hR
            by_cases d2 : dotsN p = 2
            · rw [if_neg (by simp), if_pos d2] at hR
              rcases hacc : acc with _ | ⟨a0, ar⟩
              · subst hacc
                simp -implicitDefEqProofs [go_sem, path1, loopAt, loopL, Tryz.f58, t0, t3, t4, t5, hlt, hc0, hne, hne', s1, eq_true s2, hil', hfi', hfl, hp, hpl, rDotsC, rEncodeC, hg, hm', hmn, hc, e1, e2, e3, i64_n hi6, d2]
                refine go [] m c _ _ (by rw [if_pos (by omega)]; exact hR) ?_ ?_ ?_ ?_ hg hc hm hm' he (by simp) (by simp) <;> simp -implicitDefEqProofs [go_sem, t0, t3, t4, t5, i64_n hi6]
              · have a1 : 0 < acc.length := by rw [hacc]; simp
                have a2 : (0 : Int) < acc.length := by omega
                have a3 : (0 : Int) ≤ (acc.length : Int) - 1 := by omega
                have a4 : (acc.length : Int) - 1 ≤ acc.length := by omega
                have a5 : ((acc.length : Int) - 1).toNat = acc.length - 1 := by omega
                have a6 : (1 : Int) ≤ acc.length := by omega
                clear hacc
                simp -implicitDefEqProofs [go_sem, path1, loopAt, loopL, Tryz.f58, t0, t3, t4, t5, hlt, hc0, hne, hne', s1, eq_true s2, hil', hfi', hfl, hp, hpl, rDotsC, rEncodeC, hg, hm', hmn, hc, e1, e2, e3, i64_n hi6, d2, a1, a2, a3, a4, a5, a6, hcd, w64 (x := (acc.length : Int) - 1) (by omega)]
                refine go acc.dropLast m c _ _ (by rw [if_pos (by omega)]; exact hR) ?_ ?_ ?_ ?_ hg (by rw [hdl]; exact hcd) hm hm' he (by simp; omega) bd <;> simp -implicitDefEqProofs [go_sem, t0, t3, t4, t5, i64_n hi6]
            · rw [if_neg (by simp), if_neg d2] at hR
              simp -implicitDefEqProofs [go_sem, path1, loopAt, loopL, Tryz.f58, t0, t3, t4, t5, hlt, hc0, hne, hne', s1, eq_true s2, hil', hfi', hfl, hp, hpl, rDotsC, rEncodeC, hg, hm', hmn, hc, e1, e2, e3, i64_n hi6, d0, d2, show ((dotsN p : Int) = 0) = False from eq_false (by omega), show ((dotsN p : Int) = 2) = False from eq_false (by omega)]
              refine go acc m c _ _ (by rw [if_pos (by omega)]; exact hR) ?_ ?_ ?_ ?_ hg hc hm hm' he (by omega) hb <;> simp -implicitDefEqProofs [go_sem, t0, t3, t4, t5, i64_n hi6]
        · rw [if_neg (by omega)] at hR
          simp -implicitDefEqProofs [go_sem, path1, loopAt, loopL, Tryz.f58, t0, t3, t4, t5, hlt, hil', hc0, s1, s2]
          refine ih (i + 1, f, m, c, acc) _ _ (by simp; omega) ⟨hf, by simp; omega, by simp; omega, ?_⟩
          have hcur := cut_snoc (l := l) (f := f) (i := i) (by omega) hlt
          rw [hp, hc0] at hcur
          simp -implicitDefEqProofs [go_sem, t0, t3, t4, t5, i64_n hi6, hg, hc, hm, hm', he, hcur, show i + 1 ≤ l.length by omega]
          exact ⟨by omega, hb, hR⟩
    · have hie : i = l.length := by omega
      have hne : (i = l.length) = True := eq_true hie
      have hne' : ((i : Int) = l.length) = True := eq_true (by omega)
      rw [List.drop_eq_nil_of_le (show l.length ≤ i by omega), pathG] at hR
      by_cases d0 : dotsN p = 0
      · rw [pathStep, if_pos d0] at hR
        simp -implicitDefEqProofs [go_sem, path1, loopAt, loopL, Tryz.f58, t0, t3, t4, t5, hlt, hne, hne', hil', hfi', hfl, hp, hpl, rDotsC, rEncodeC, hg, hm', hmn, hc, e1, e2, e3, i64_n hi6, d0]
        refine go (acc ++ [encL 3 p]) (h1.length + 1) (sts (acc ++ [encL 3 p])) _ _ (by rw [if_neg (by omega)]; exact hR) ?_ ?_ ?_ ?_ ?_ (ldN_s rfl) (by omega) (by simp) (by simp -implicitDefEqProofs [go_sem, he, hm]) (by simp; omega) (be _ _ hb hel) <;> simp -implicitDefEqProofs [go_sem, t0, t3, t4, t5, i64_n hi6]
      · rw [pathStep, if_neg d0] at hR
        by_cases d2 : dotsN p = 2
        · rw [if_pos rfl, if_pos d2] at hR
          rcases hacc : acc with _ | ⟨a0, ar⟩
          · subst hacc
            simp -implicitDefEqProofs [go_sem, path1, loopAt, loopL, Tryz.f58, t0, t3, t4, t5, hlt, hne, hne', hil', hfi', hfl, hp, hpl, rDotsC, rEncodeC, hg, hm', hmn, hc, e1, e2, e3, i64_n hi6, d2]
            refine go [[]] (h1.length + 1) (sts [[]]) _ _ (by rw [if_neg (by omega)]; exact hR) ?_ ?_ ?_ ?_ ?_ (ldN_s rfl) (by omega) (by simp) (by simp -implicitDefEqProofs [go_sem, he, hm]) (by simp; omega) (by simp) <;> simp -implicitDefEqProofs [go_sem, t0, t3, t4, t5, i64_n hi6, sts]
          · have a1 : 0 < acc.length := by rw [hacc]; simp
            have a2 : (0 : Int) < acc.length := by omega
            have a3 : (0 : Int) ≤ (acc.length : Int) - 1 := by omega
            have a4 : (acc.length : Int) - 1 ≤ acc.length := by omega
            have a5 : ((acc.length : Int) - 1).toNat = acc.length - 1 := by omega
            have a6 : (1 : Int) ≤ acc.length := by omega
            clear hacc
            simp -implicitDefEqProofs [go_sem, path1, loopAt, loopL, Tryz.f58, t0, t3, t4, t5, hlt, hne, hne', hil', hfi', hfl, hp, hpl, rDotsC, rEncodeC, hg, hm', hmn, hc, e1, e2, e3, i64_n hi6, d2, a1, a2, a3, a4, a5, a6, hcd, w64 (x := (acc.length : Int) - 1) (by omega)]
            refine go (acc.dropLast ++ [[]]) (h1.length + 1) (sts (acc.dropLast ++ [[]])) _ _ (by rw [if_neg (by omega)]; exact hR) ?_ ?_ ?_ ?_ ?_ (ldN_s rfl) (by omega) (by simp) (by simp -implicitDefEqProofs [go_sem, he, hm]) (by simp; omega) (be _ _ bd (by simp)) <;> simp -implicitDefEqProofs [go_sem, t0, t3, t4, t5, i64_n hi6]
        · rw [if_pos rfl, if_neg d2] at hR
          simp -implicitDefEqProofs [go_sem, path1, loopAt, loopL, Tryz.f58, t0, t3, t4, t5, hlt, hne, hne', hil', hfi', hfl, hp, hpl, rDotsC, rEncodeC, hg, hm', hmn, hc, e1, e2, e3, i64_n hi6, d0, d2, show ((dotsN p : Int) = 0) = False from eq_false (by omega), show ((dotsN p : Int) = 2) = False from eq_false (by omega)]
          refine go (acc ++ [[]]) (h1.length + 1) (sts (acc ++ [[]])) _ _ (by rw [if_neg (by omega)]; exact hR) ?_ ?_ ?_ ?_ ?_ (ldN_s rfl) (by omega) (by simp) (by simp -implicitDefEqProofs [go_sem, he, hm]) (by simp; omega) (be _ _ hb (by simp)) <;> simp -implicitDefEqProofs [go_sem, t0, t3, t4, t5, i64_n hi6]
  · have hie : i = l.length + 1 := by omega
    have hil' : ¬ (i : Int) ≤ l.length := by omega
    rw [if_neg hil] at hR
    subst hR
    simp -implicitDefEqProofs [go_sem, path1, loopAt, loopL, Tryz.f58, t0, t3, t4, t5, hil, hil']
    exact hx _ _ m c (by simp -implicitDefEqProofs [go_sem, t3]) hg hc hm' (by omega) hb he
def rPathC : Ct := fun args h => match args with | [.s l] => if l.length ≤ 1048576 then some (.s (pathL l), h) else none | _ => none
theorem rPath_ok : CtOk Tryz.prog G0 58 rPathC := by
  refine ct_plain (n := 1) fol (sound_cons rDots_ok (sound_cons rEncode_ok sound_nil)) (by kernel_rfl) Tryz.func58 rfl fun args h v h' hc r xs H hr hx => ?_
  unfold rPathC at hc; split at hc <;> (try split at hc) <;> cases hc
  rename_i l hl
  obtain ⟨hs, _⟩ := str_of hx
  refine ⟨rfl, rfl, by simp [renV, bndV], ?_⟩
  rcases hl0 : l with _ | ⟨a, r⟩
  · simp -implicitDefEqProofs [go_sem, Tryz.f58, pathL]
  · obtain ⟨R, hR⟩ : ∃ R, pathG [] [] (l.drop 1) = R := ⟨_, rfl⟩
    have hpl : pathL l = if R = [] then [47] else slashL R := by rw [← hR, hl0]; rfl
    have hn : l ≠ [] := by rw [hl0]; simp
    have hlen : 1 ≤ l.length := by rw [hl0]; simp
    rw [← hl0, hpl]
    have hn0 : l.isEmpty = false := by rw [hl0]; rfl
    clear hl0
    simp -implicitDefEqProofs [go_sem, Tryz.f58, hn, hn0]
    refine path1_ok (h := h) hl hlen hs hR ?_ (by simp -implicitDefEqProofs [go_sem]) (by simp -implicitDefEqProofs [go_sem]) (by simp -implicitDefEqProofs [go_sem]) (by simp -implicitDefEqProofs [go_sem]) (by simp -implicitDefEqProofs [go_sem]) (Nat.le_refl _) (by simp) (by simp -implicitDefEqProofs [go_sem])
    intro t h1 m c t3 hg hc hm hRl hRb he
    rcases hR0 : R with _ | ⟨b, q⟩
    · rw [hR0] at t3
      simp -implicitDefEqProofs [go_sem, Tryz.f58, t3, he]
    · have z1 : ¬ R = [] := by rw [hR0]; simp
      have z2 : ((R.length : Int) = 0) = False := eq_false (by rw [hR0]; simp; omega)
      have z3 : (R.length = 0) = False := eq_false (by rw [hR0]; simp)
      rw [← hR0, if_neg z1]
      clear hR0
      simp -implicitDefEqProofs [go_sem, Tryz.f58, t3, z2, z3, z1]
      refine path2_ok hRl hRb hg hm hc ?_ (by simp -implicitDefEqProofs [go_sem, t3]) (by simp -implicitDefEqProofs [go_sem]) (by simp -implicitDefEqProofs [go_sem])
      intro t t9
      simp -implicitDefEqProofs [go_sem, t9, he]
end GoD

/-! The user, the host and the port of a URL as the document reads them. -/
namespace GoD
open Go Go.Proofs
set_option linter.unusedVariables false
set_option linter.unusedSimpArgs false
set_option maxHeartbeats 4000000
set_option maxRecDepth 100000
theorem Trim.own {h h1 : Heap} {v : V} {b : Nat} {blk : Blk} (hv : renV id v = v ∧ bndV h.length v) (hf : blk.cells.all GoD.flat = true) (he : Ext (h.set b blk) h1) : ∃ σ, Trim h v h1 v (h.set b blk) σ := by
  have hl := he.1
  rw [List.length_set] at hl
  refine ⟨id, ⟨by simp, fun _ _ => rfl, fun i hi => by rw [List.length_set] at hi; exact Nat.lt_of_lt_of_le hi hl, fun _ _ _ _ h => h, hv.1.symm, by simpa using hv.2, ?_⟩⟩
  intro i c hc
  have h2 := he.get hc
  by_cases hi : i = b
  · subst hi
    have hlt : i < (h.set i blk).length := (List.getElem?_eq_some_iff.1 hc).1
    rw [List.length_set] at hlt
    rw [List.getElem?_set_self hlt] at hc
    cases hc
    exact .inr ⟨by rw [renL_flat hf]; exact h2, bndL_flat hf⟩
  · rw [List.getElem?_set_ne (fun e => hi e.symm)] at hc
    exact .inl ⟨(List.getElem?_eq_some_iff.1 hc).1, hc, h2⟩
/-- where the last sign of that kind is -/
def lastG (a i : Int) : List Int → Int
  | [] => a
  | c :: t => lastG (if c = 64 then i else a) (i + 1) t
theorem lastG_le : ∀ (l : List Int) (a i : Int), -1 ≤ a → a < i → 0 ≤ i → -1 ≤ lastG a i l ∧ lastG a i l < i + l.length
  | [], a, i, h1, h2, h3 => by simp [lastG]; omega
  | c :: t, a, i, h1, h2, h3 => by
    have := lastG_le t (if c = 64 then i else a) (i + 1) (by split <;> omega) (by split <;> omega) (by omega)
    rw [lastG, List.length_cons]
    omega
def portA : Int → List Int → Option Int
  | n, [] => some n
  | n, c :: t => if 65535 < 10 * n + (c - 48) then none else portA (10 * n + (c - 48)) t
def portV (sch q : List Int) : Option Int := if q = [] then some (-1) else if digitsB 10 q = true then (portA 0 q).map fun n => if n = (defaultL sch).1 then -1 else n else none
def hostP (sch s : List Int) : Option (List Int × Option Int) := (hostL (s.take (upL [58] s))).map fun hh => (hh, if upL [58] s = s.length then some (-1) else portV sch (s.drop (upL [58] s + 1)))
def authW (sch s ho : List Int) (po : Int) : Bool × List Int × Int := match hostP sch s with
  | none => (false, ho, po)
  | some (hh, none) => (false, hh, -1)
  | some (hh, some n) => (true, hh, n)
def atL (s : List Int) : Int := lastG (-1) 0 s
def userL (s u : List Int) : List Int := if 0 ≤ atL s then encL 4 ((s.take (atL s).toNat).take (upL [58] (s.take (atL s).toNat))) else u
def passL (s p : List Int) : List Int := if 0 ≤ atL s then (if upL [58] (s.take (atL s).toNat) < (s.take (atL s).toNat).length then encL 4 ((s.take (atL s).toNat).drop (upL [58] (s.take (atL s).toNat) + 1)) else p) else p
def restL (s : List Int) : List Int := if 0 ≤ atL s then s.drop ((atL s).toNat + 1) else s
def urlB (sch us pa ho : List Int) (po : Int) (path : List Int) (q : Bool) (qu : List Int) (f : Bool) (fr : List Int) : Blk := ⟨2, true, [.s sch, .s us, .s pa, .s ho, .i .i64 po, .s path, .b q, .s qu, .b f, .s fr]⟩
def rAuthC : Ct := fun args h => match args with
  | [.p b 0, .s l] => match hget h b with
    | ⟨2, true, [.s sch, .s u, .s p, .s ho, .i .i64 po, .s pa, .b q, .s qu, .b f, .s fr]⟩ => if l.length ≤ 65536 ∧ b < h.length then some (.b (authW sch (restL l) ho po).1, h.set b (urlB sch (userL l u) (passL l p) (authW sch (restL l) ho po).2.1 (authW sch (restL l) ho po).2.2 pa q qu f fr)) else none
    | _ => none
  | _ => none
noncomputable def auth1 : Code := loopAt Tryz.f56 0
noncomputable def auth2 : Code := loopAt Tryz.f56 1
noncomputable def authX : Env := ctx Tryz.prog G0 [(55, rUpToC), (57, rEncodeC), (119, rHostC), (120, rDigitsC), (54, rDefaultC)]
theorem auth1_ok {P : Ex → Tm → Heap → Prop} {k : List Todo} {s : List Int} {b : Nat} {h : Heap} (hl : s.length ≤ 65536)
    (hx : ∀ t, get t 0 = .p b 0 → get t 1 = .s s → get t 5 = .i .i64 (atL s) → RunX (ctx Tryz.prog G0 [(55, rUpToC), (57, rEncodeC), (119, rHostC), (120, rDigitsC), (54, rDefaultC)]) P k (.e 0) t h)
    {t : Tm} (t0 : get t 0 = .p b 0) (t1 : get t 1 = .s s) (t5 : get t 5 = .i .i64 (-1)) (t6 : get t 6 = .i .i64 0) : Run (ctx Tryz.prog G0 [(55, rUpToC), (57, rEncodeC), (119, rHostC), (120, rDigitsC), (54, rDefaultC)]) P (.again auth1 :: k) t h := by
  refine run_inv _ _ _ _ _ (fun (x : Nat × Int) t h1 => x.1 ≤ s.length ∧ get t 0 = .p b 0 ∧ get t 1 = .s s ∧ get t 5 = .i .i64 x.2 ∧ get t 6 = .i .i64 x.1 ∧ lastG x.2 x.1 (s.drop x.1) = atL s ∧ h1 = h) (fun x => s.length - x.1) _ (x := (0, -1)) ⟨by simp, t0, t1, t5, t6, rfl, rfl⟩ ?_
  clear t0 t1 t5 t6
  rintro ⟨i, a⟩ t h1 ⟨hi, t0, t1, t5, t6, ha, rfl⟩ ih
  simp only at hi t5 t6 ha
  have hi6 : i < 1152921504606846976 := by omega
  by_cases hlt : i < s.length
  · obtain ⟨d, hc⟩ : ∃ d, s[i] = d := ⟨_, rfl⟩
    rw [List.drop_eq_getElem_cons hlt, hc, lastG] at ha
    by_cases c1 : d = 64
    · rw [if_pos c1] at ha
      simp -implicitDefEqProofs [go_sem, auth1, loopAt, loopL, Tryz.f56, t0, t1, t5, t6, hlt, hc, eq_true c1]
      refine ih (i + 1, i) _ _ (by simp; omega) ⟨hlt, ?_⟩
      simp -implicitDefEqProofs [go_sem, t0, t1, t5, t6, i64_n hi6, ha]
    · rw [if_neg c1] at ha
      simp -implicitDefEqProofs [go_sem, auth1, loopAt, loopL, Tryz.f56, t0, t1, t5, t6, hlt, hc, c1]
      refine ih (i + 1, a) _ _ (by simp; omega) ⟨hlt, ?_⟩
      simp -implicitDefEqProofs [go_sem, t0, t1, t5, t6, i64_n hi6, ha]
  · have e : i = s.length := by omega
    rw [e, List.drop_length, lastG] at ha
    simp -implicitDefEqProofs [go_sem, auth1, loopAt, loopL, Tryz.f56, t0, t1, t5, t6, hlt]
    exact hx _ (by simp -implicitDefEqProofs [go_sem, t0]) (by simp -implicitDefEqProofs [go_sem, t1]) (by simp -implicitDefEqProofs [go_sem, t5, ha])
theorem auth2_ok {P : Ex → Tm → Heap → Prop} {k : List Todo} {q : List Int} {b : Nat} {h : Heap} (hl : q.length ≤ 65536) (hq : ∀ c ∈ q, 48 ≤ c ∧ c ≤ 57)
    (hx : ∀ t n, portA 0 q = some n → 0 ≤ n → n ≤ 65535 → get t 0 = .p b 0 → get t 13 = .i .i64 n → RunX (ctx Tryz.prog G0 [(55, rUpToC), (57, rEncodeC), (119, rHostC), (120, rDigitsC), (54, rDefaultC)]) P k (.e 2) t h)
    (hr : ∀ t, portA 0 q = none → get t 4 = .b false → RunX (ctx Tryz.prog G0 [(55, rUpToC), (57, rEncodeC), (119, rHostC), (120, rDigitsC), (54, rDefaultC)]) P k .r t h)
    {t : Tm} (t0 : get t 0 = .p b 0) (t12 : get t 12 = .s q) (t13 : get t 13 = .i .i64 0) (t14 : get t 14 = .i .i64 0) : Run (ctx Tryz.prog G0 [(55, rUpToC), (57, rEncodeC), (119, rHostC), (120, rDigitsC), (54, rDefaultC)]) P (.again auth2 :: k) t h := by
  refine run_inv _ _ _ _ _ (fun (x : Nat × Int) t h1 => x.1 ≤ q.length ∧ get t 0 = .p b 0 ∧ get t 12 = .s q ∧ get t 13 = .i .i64 x.2 ∧ get t 14 = .i .i64 x.1 ∧ 0 ≤ x.2 ∧ x.2 ≤ 65535 ∧ portA x.2 (q.drop x.1) = portA 0 q ∧ h1 = h) (fun x => q.length - x.1) _ (x := (0, 0)) ⟨by simp, t0, t12, t13, t14, by simp, by simp, rfl, rfl⟩ ?_
  clear t0 t12 t13 t14
  rintro ⟨i, n⟩ t h1 ⟨hi, t0, t12, t13, t14, hn0, hn1, ha, rfl⟩ ih
  simp only at hi t13 t14 hn0 hn1 ha
  have hi6 : i < 1152921504606846976 := by omega
  by_cases hlt : i < q.length
  · obtain ⟨d, hc⟩ : ∃ d, q[i] = d := ⟨_, rfl⟩
    have hd := hq d (hc ▸ List.getElem_mem hlt)
    rw [List.drop_eq_getElem_cons hlt, hc, portA] at ha
    have m1 : (d - 48) % 256 = d - 48 := by omega
    by_cases c1 : 65535 < 10 * n + (d - 48)
    · rw [if_pos c1] at ha
      simp -implicitDefEqProofs [go_sem, auth2, loopAt, loopL, Tryz.f56, t0, t12, t13, t14, hlt, hc, m1, c1, w64 (x := 10 * n) (by omega), w64 (x := d - 48) (by omega), w64 (x := 10 * n + (d - 48)) (by omega)]
      exact hr _ ha.symm (by simp -implicitDefEqProofs [go_sem])
    · rw [if_neg c1] at ha
      simp -implicitDefEqProofs [go_sem, auth2, loopAt, loopL, Tryz.f56, t0, t12, t13, t14, hlt, hc, m1, c1, w64 (x := 10 * n) (by omega), w64 (x := d - 48) (by omega), w64 (x := 10 * n + (d - 48)) (by omega)]
      refine ih (i + 1, 10 * n + (d - 48)) _ _ (by simp; omega) ⟨hlt, ?_⟩
      simp -implicitDefEqProofs [go_sem, t0, t12, t13, t14, i64_n hi6, ha]
      omega
  · have e : i = q.length := by omega
    rw [e, List.drop_length, portA] at ha
    simp -implicitDefEqProofs [go_sem, auth2, loopAt, loopL, Tryz.f56, t0, t12, t13, t14, hlt]
    exact hx _ n ha.symm hn0 hn1 (by simp -implicitDefEqProofs [go_sem, t0]) (by simp -implicitDefEqProofs [go_sem, t13])
theorem set_same {h : Heap} {b : Nat} {x : Blk} (hb : b < h.length) (hg : hget h b = x) : h.set b x = h := by
  apply List.ext_getElem (by simp)
  intro i h1 h2
  rw [List.getElem_set]
  split
  · rename_i e
    subst e
    unfold hget at hg
    rw [List.getD_eq_getElem?_getD, List.getElem?_eq_getElem h2] at hg
    exact hg.symm
  · rfl
theorem digitsB10 {q : List Int} (h : digitsB 10 q = true) : ∀ c ∈ q, 48 ≤ c ∧ c ≤ 57 := by
  intro c hc
  have h0 := (List.all_eq_true.1 h) c hc
  obtain ⟨h1, h2⟩ := of_decide_eq_true h0
  unfold hexv at h1 h2
  by_cases a : 48 ≤ c ∧ c ≤ 57
  · exact a
  · rw [if_neg a] at h1 h2
    by_cases b : 97 ≤ c ∧ c ≤ 102
    · rw [if_pos b] at h2; omega
    · rw [if_neg b] at h1 h2
      by_cases d : 65 ≤ c ∧ c ≤ 70
      · rw [if_pos d] at h2; omega
      · rw [if_neg d] at h1; omega
theorem rAuth_ok : CtOk Tryz.prog G0 56 rAuthC := by
  refine ct_run (n := 2) fol (sound_cons rUpTo_ok (sound_cons rEncode_ok (sound_cons rHost_ok (sound_cons rDigits_ok (sound_cons rDefault_ok sound_nil))))) (by kernel_rfl) Tryz.func56 rfl fun args h v h' hc r xs H hr hx => ?_
  unfold rAuthC at hc
  split at hc
  · split at hc
    · split at hc
      · rename_i b l _ sch u p ho po pa q qu f fr hg hlb
        obtain ⟨hl, hb⟩ := hlb
        cases hc
        refine ⟨rfl, ?_⟩
        simp only [Tryz.f56, run_seq]
        generalize hK : (Code.region 14 _ _).seq _ = K
        have hb' := hb
        have hsame : h.set b (urlB sch u p ho po pa q qu f fr) = h := set_same hb hg
        have rest : ∀ s1 : List Int, s1.length ≤ 65536 → ∀ t us ps h1, get t 0 = .p b 0 → get t 1 = .s s1 → h1 = h.set b (urlB sch us ps ho po pa q qu f fr) → Run (ctx Tryz.prog G0 [(55, rUpToC), (57, rEncodeC), (119, rHostC), (120, rDigitsC), (54, rDefaultC)]) (Fini (ctx Tryz.prog G0 [(55, rUpToC), (57, rEncodeC), (119, rHostC), (120, rDigitsC), (54, rDefaultC)]) [ResultVar.tmp 4] fun v' h2 => ∃ σ, Trim h v' h2 (V.b (authW sch s1 ho po).1) (h.set b (urlB sch us ps (authW sch s1 ho po).2.1 (authW sch s1 ho po).2.2 pa q qu f fr)) σ) [.c K] t h1 := by
          subst hK
          intro s1 hs1 t us ps h1 t0 t1 hh1
          have hg1 : hget h1 b = urlB sch us ps ho po pa q qu f fr := by rw [hh1, hget_set, if_pos ⟨rfl, hb⟩]
          have hl1 : h1.length = h.length := by rw [hh1, List.length_set]
          have hbl : b < h1.length := by omega
          have fin : ∀ (r : Bool) (ho' : List Int) (po' : Int) (h2 : Heap), authW sch s1 ho po = (r, ho', po') → h2 = h1.set b (urlB sch us ps ho' po' pa q qu f fr) → ∃ σ, Trim h (V.b r) h2 (V.b (authW sch s1 ho po).1) (h.set b (urlB sch us ps (authW sch s1 ho po).2.1 (authW sch s1 ho po).2.2 pa q qu f fr)) σ := by
            intro r ho' po' h2 e e2
            rw [e, e2, hh1, List.set_set]
            exact Trim.own (by simp [renV, bndV]) (by simp [urlB, GoD.flat]) (Ext.refl _)
          obtain ⟨W, hW⟩ : ∃ W, authW sch s1 ho po = W := ⟨_, rfl⟩
          obtain ⟨n, hn⟩ : ∃ n, upL [58] s1 = n := ⟨_, rfl⟩
          have hnl : n ≤ s1.length := by rw [← hn]; exact upL_le _ _
          have hnl' : (n : Int) ≤ s1.length := by omega
          have htl : (s1.take n).length ≤ 1048576 := by simp; omega
          have hi6 : n < 1152921504606846976 := by omega
          unfold authW hostP at hW
          rw [hn] at hW
          have htl2 : n ≤ 1048576 := by omega
          cases hH : hostL (s1.take n) with
          | none =>
            rw [hH] at hW
            have hA : authW sch s1 ho po = (false, ho, po) := by unfold authW hostP; rw [hn, hH]; rfl
            simp -implicitDefEqProofs [go_sem, t0, t1, rUpToC, rHostC, hn, hnl, hnl', htl, htl2, hH, hostV]
            exact fin _ _ _ _ hA (set_same hbl hg1).symm
          | some hh =>
            rw [hH] at hW
            by_cases c1 : n = s1.length
            · have hA : authW sch s1 ho po = (true, hh, -1) := by unfold authW hostP; rw [hn, hH]; simp [c1]
              have c1' : (n : Int) = s1.length := by omega
              simp -implicitDefEqProofs [go_sem, t0, t1, rUpToC, rHostC, hn, hnl, hnl', htl, htl2, hH, hostV, hg1, urlB, hbl, eq_true c1, eq_true c1']
              exact fin _ _ _ _ hA rfl
            · have c2 : n < s1.length := by omega
              have c2' : (n : Int) + 1 ≤ s1.length := by omega
              have c1' : ((n : Int) = s1.length) = False := eq_false (by omega)
              obtain ⟨w, hw⟩ : ∃ w, s1.drop (n + 1) = w := ⟨_, rfl⟩
              have hwl : w.length ≤ 65536 := by rw [← hw]; simp; omega
              have hV : authW sch s1 ho po = match portV sch w with | none => (false, hh, -1) | some m => (true, hh, m) := by
                unfold authW hostP; rw [hn, hH, hw]; simp only [Option.map_some, if_neg c1]; cases portV sch w <;> rfl
              by_cases d1 : w = []
              · have hA : authW sch s1 ho po = (true, hh, -1) := by rw [hV, d1]; rfl
                simp -implicitDefEqProofs [go_sem, t0, t1, rUpToC, rHostC, hn, hnl, hnl', htl, htl2, hH, hostV, hg1, urlB, hbl, c1, c1', c2, c2', i64_n hi6, hw, eq_true d1]
                exact fin _ _ _ _ hA rfl
              · have d1' : w.isEmpty = false := by cases w with | nil => exact absurd rfl d1 | cons _ _ => rfl
                cases d2 : digitsB 10 w with
                | false =>
                  have hA : authW sch s1 ho po = (false, hh, -1) := by rw [hV]; unfold portV; rw [if_neg d1, d2]; rfl
                  simp -implicitDefEqProofs [go_sem, t0, t1, rUpToC, rHostC, rDigitsC, hn, hnl, hnl', htl, htl2, hH, hostV, hg1, urlB, hbl, c1, c1', c2, c2', i64_n hi6, hw, d1, d1', d2]
                  exact fin _ _ _ _ hA rfl
                | true =>
                  have hV2 : portV sch w = (portA 0 w).map fun n => if n = (defaultL sch).1 then -1 else n := by unfold portV; rw [if_neg d1, d2]; rfl
                  rw [hV2] at hV
                  simp -implicitDefEqProofs [go_sem, t0, t1, rUpToC, rHostC, rDigitsC, hn, hnl, hnl', htl, htl2, hH, hostV, hg1, urlB, hbl, c1, c1', c2, c2', i64_n hi6, hw, d1, d1', d2]
                  refine auth2_ok (q := w) (b := b) hwl (digitsB10 d2) ?_ ?_ (by simp -implicitDefEqProofs [go_sem, t0]) (by simp -implicitDefEqProofs [go_sem]) (by simp -implicitDefEqProofs [go_sem]) (by simp -implicitDefEqProofs [go_sem])
                  · intro t m e m0 m1 t0 t13
                    rw [e] at hV
                    by_cases z : m = (defaultL sch).1
                    · have hA : authW sch s1 ho po = (true, hh, -1) := by rw [hV]; simp [z]
                      simp -implicitDefEqProofs [go_sem, t0, t13, hbl, rDefaultC, z, hget_set]
                      exact fin _ _ _ _ hA rfl
                    · have hA : authW sch s1 ho po = (true, hh, m) := by rw [hV]; simp [z]
                      simp -implicitDefEqProofs [go_sem, t0, t13, hbl, rDefaultC, z, hget_set]
                      exact fin _ _ _ _ hA rfl
                  · intro t e t4
                    rw [e] at hV
                    have hA : authW sch s1 ho po = (false, hh, -1) := by rw [hV]; rfl
                    simp -implicitDefEqProofs [go_sem, t4]
                    exact fin _ _ _ _ hA rfl
        simp -implicitDefEqProofs [go_sem]
        refine auth1_ok (s := l) (b := b) hl ?_ (by simp -implicitDefEqProofs [go_sem]) (by simp -implicitDefEqProofs [go_sem]) (by simp -implicitDefEqProofs [go_sem]) (by simp -implicitDefEqProofs [go_sem])
        intro t t0 t1 t5
        obtain ⟨a, ha⟩ : ∃ a, atL l = a := ⟨_, rfl⟩
        have hab : -1 ≤ a ∧ a < l.length := by
          have := lastG_le l (-1) 0 (by omega) (by omega) (by omega)
          rw [← ha]
          unfold atL
          omega
        unfold userL passL restL
        rw [ha] at t5 ⊢
        by_cases c1 : 0 ≤ a
        · obtain ⟨i, rfl⟩ : ∃ i : Nat, a = i := ⟨a.toNat, by omega⟩
          have hi6 : i < 1152921504606846976 := by omega
          have hil : (i : Int) ≤ l.length := by omega
          have hil' : i ≤ l.length := by omega
          have hil2 : (i : Int) + 1 ≤ l.length := by omega
          have hil3 : i < l.length := by omega
          simp only [if_pos c1, Int.toNat_natCast]
          obtain ⟨us, hus⟩ : ∃ us, l.take i = us := ⟨_, rfl⟩
          obtain ⟨n, hn⟩ : ∃ n, upL [58] us = n := ⟨_, rfl⟩
          have hul : us.length ≤ 65536 := by rw [← hus]; simp; omega
          have hnl : n ≤ us.length := by rw [← hn]; exact upL_le _ _
          have hnl' : (n : Int) ≤ us.length := by omega
          have hn6 : n < 1152921504606846976 := by omega
          have hn7 : n ≤ 1048576 := by omega
          have hrl : (l.drop (i + 1)).length ≤ 65536 := by simp; omega
          rw [hus, hn]
          by_cases c2 : n < us.length
          · have c2' : (n : Int) + 1 ≤ us.length := by omega
            have c3 : us.length ≤ 1048576 + (n + 1) := by omega
            have c4 : us.length - (n + 1) ≤ 1048576 := by omega
            simp only [if_pos c2]
            simp -implicitDefEqProofs [go_sem, t0, t1, t5, rUpToC, rEncodeC, hus, hn, hnl, hnl', hil, hil', hil2, hil3, hg, hb, c2, c2', c3, c4, hn7, i64_n hi6, i64_n hn6, hget_set]
            refine rest _ hrl _ _ _ _ ?_ ?_ ?_ <;> simp -implicitDefEqProofs [go_sem, t0, urlB]
          · simp only [if_neg c2]
            simp -implicitDefEqProofs [go_sem, t0, t1, t5, rUpToC, rEncodeC, hus, hn, hnl, hnl', hil, hil', hil2, hil3, hg, hb, c2, hn7, i64_n hi6, hget_set]
            refine rest _ hrl _ _ _ _ ?_ ?_ ?_ <;> simp -implicitDefEqProofs [go_sem, t0, urlB]
        · simp only [if_neg c1]
          simp -implicitDefEqProofs [go_sem, t0, t1, t5, c1]
          refine rest _ hl _ _ _ _ ?_ ?_ hsame.symm <;> simp -implicitDefEqProofs [go_sem, t0, t1]
      · cases hc
    · cases hc
  · cases hc
end GoD
