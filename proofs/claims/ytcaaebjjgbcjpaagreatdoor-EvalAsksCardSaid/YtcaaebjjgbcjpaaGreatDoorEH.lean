import Derived.Test.YtcaaebjjgbcjpaaGreatDoorEC
/-! Decimals as the document answers them. -/
namespace GoD
open Go Go.Proofs
set_option linter.unusedVariables false
set_option linter.unusedSimpArgs false
set_option maxHeartbeats 4000000
set_option maxRecDepth 100000
def revD (n : Nat) : List Int := if h : n = 0 then [] else (48 + ((n % 10 : Nat) : Int)) :: revD (n / 10)
theorem revD_0 : revD 0 = [] := by rw [revD]; simp
theorem revD_s {n : Nat} (h : 0 < n) : revD n = (48 + ((n % 10 : Nat) : Int)) :: revD (n / 10) := by rw [revD, dif_neg (by omega)]
theorem revD_len : ∀ (k n : Nat), n < 10 ^ k → (revD n).length ≤ k
  | 0, n, h => by have : n = 0 := by simpa using h
                  subst this; simp [revD_0]
  | k + 1, n, h => by
    by_cases h0 : n = 0
    · subst h0; simp [revD_0]
    · rw [revD_s (by omega)]
      have := revD_len k (n / 10) (by rw [Nat.pow_succ] at h; omega)
      simp; omega
theorem decD_rev {n : Nat} (h : 0 < n) : decD n = (revD n).reverse := by
  induction n using Nat.strongRecOn with
  | _ n ih =>
    rw [decD, revD_s h]
    split
    · rename_i h1
      rw [Nat.div_eq_of_lt h1, revD_0, Nat.mod_eq_of_lt h1]; rfl
    · rename_i h1
      rw [ih (n / 10) (by omega) (by omega)]; simp
/-- a number as a text -/
def decI (n : Int) : List Int := if n < 0 then 45 :: decD (-n).toNat else decD n.toNat
theorem tdiv10 (u : Nat) : (u : Int).tdiv 10 = ((u / 10 : Nat) : Int) := rfl
theorem tmod10 (u : Nat) : (u : Int).tmod 10 = ((u % 10 : Nat) : Int) := rfl
theorem wu64m (x : Int) : IntKind.u64.wrap x = x % 18446744073709551616 := by unfold IntKind.wrap; simp [IntKind.signed, IntKind.bits]
theorem wu32m (x : Int) : IntKind.u32.wrap x = x % 4294967296 := by unfold IntKind.wrap; simp [IntKind.signed, IntKind.bits]
theorem ldN_b1 {l : List Int} {i : Nat} (h : i < l.length) : ldN (bts l) i 1 = some [.i .u8 l[i]] := by
  have h2 : i < (bts l).length := by rw [bts_len]; exact h
  rw [ldN, if_pos (by omega), List.drop_eq_getElem_cons h2]
  simp [bts]
theorem wu64 {x : Int} (h : 0 ≤ x ∧ x < 18446744073709551616) : IntKind.u64.wrap x = x := by rw [wrap_iff]; simpa [lo, hi, IntKind.signed, IntKind.bits] using h
def rDecimalC : Ct := fun args h => match args with | [.i .i64 n] => some (.s (decI n), h) | _ => none
theorem rDecimal_ok : CtOk Tryz.prog G0 148 rDecimalC := by
  refine ct_plain (n := 1) fol sound_nil (by kernel_rfl) Tryz.func148 rfl fun args h v h' hc r xs H hr hx => ?_
  unfold rDecimalC at hc; split at hc <;> (try split at hc) <;> cases hc
  rename_i n
  obtain ⟨hb, _⟩ := int_of hx
  have hb : -9223372036854775808 ≤ n ∧ n < 9223372036854775808 := by simpa [lo, hi, IntKind.signed, IntKind.bits] using hb
  refine ⟨rfl, rfl, by simp [renV, bndV], ?_⟩
  by_cases h0 : n = 0
  · subst h0
    simp -implicitDefEqProofs [go_sem, Tryz.f148]
    decide +kernel
  obtain ⟨u, hu⟩ : ∃ u : Nat, u = n.natAbs := ⟨_, rfl⟩
  have hu0 : 0 < u := by omega
  have hul : (revD u).length ≤ 20 := revD_len 20 u (by omega)
  have hres : decI n = (if n < 0 then [45] else []) ++ (revD u).reverse := by
    unfold decI
    by_cases hn : n < 0
    · rw [if_pos hn, if_pos hn, show (-n).toNat = u by omega, decD_rev hu0]; rfl
    · rw [if_neg hn, if_neg hn, show n.toNat = u by omega, decD_rev hu0]; rfl
  rw [hres]
  by_cases hn : n < 0
  · have w1 : IntKind.u64.wrap (-IntKind.u64.wrap n) = (u : Int) := by rw [wu64m, wu64m]; omega
    simp -implicitDefEqProofs [go_sem, Tryz.f148, h0, hn, w1]
    clear w1
    refine run_inv _ _ _ _ _ (fun (x : Nat × Nat × List Int) t h1 => get t 0 = .i .i64 n ∧ get t 3 = .i .u64 x.1 ∧ get t 4 = .sl x.2.1 0 x.2.2.length 1 ∧ hget h1 x.2.1 = ⟨2, false, bts x.2.2⟩ ∧ h.length ≤ x.2.1 ∧ x.2.1 < h1.length ∧ Ext h h1 ∧ x.1 ≤ u ∧ x.2.2 ++ revD x.1 = revD u) (fun x => x.1) _ (x := (u, h.length, [])) ⟨rfl, rfl, rfl, by simp -implicitDefEqProofs [go_sem, bts_nil], by simp, by simp, by simp -implicitDefEqProofs [go_sem], by simp, by simp⟩ ?_
    rintro ⟨v, m, acc⟩ t h1 ⟨t0, t3, t4, hg, hm, hm', he, hv, ha⟩ ih
    simp only at t0 t3 t4 hg hm hm' hv ha
    have hal' : acc.length ≤ 20 := by have := congrArg List.length ha; simp at this; omega
    have hal : acc.length + 1 ≤ 1099511627776 := by omega
    have hmn : m ≠ h1.length := by omega
    by_cases h3 : 0 < v
    · have q3 := wu64 (x := 48 + (v : Int) % 10) (by omega)
      have q4 := wu64 (x := (v : Int) / 10) (by omega)
      have d1 : (48 + ((v : Int) % 10)) % 256 = 48 + (v : Int) % 10 := by omega
      simp -implicitDefEqProofs [go_sem, Tryz.f148, t0, t3, t4, h3, hg, hm', ldN_b rfl, hal, hmn, tmod10, tdiv10]
      refine ih (v / 10, h1.length + 1, acc ++ [48 + (v : Int) % 10]) _ _ (by simp; omega) ?_
      simp -implicitDefEqProofs [go_sem, t0, t3, t4, q3, q4, d1, he, hm]
      clear q3 q4
      refine ⟨by omega, by omega, ?_⟩
      rw [← ha, revD_s h3]; rfl
    · have hv0 : v = 0 := by omega
      subst hv0
      rw [revD_0, List.append_nil] at ha
      rw [← ha]
      have q5 := w64 (x := (acc.length : Int) - 1) (by omega)
      have hmn1 : m ≠ h1.length + 1 := by omega
      have hmn2 : m ≠ h1.length + 2 := by omega
      simp -implicitDefEqProofs [go_sem, Tryz.f148, t0, t3, t4, hn, hg, hm', ldN_b rfl, hmn]
      rw [q5]; clear q5
      refine run_inv _ _ _ _ _ (fun (x : Nat × Nat × List Int) t h2 => get t 6 = .i .i64 ((x.1 : Int) - 1) ∧ get t 4 = .sl m 0 acc.length 1 ∧ get t 5 = .sl x.2.1 0 x.2.2.length 1 ∧ hget h2 m = ⟨2, false, bts acc⟩ ∧ hget h2 x.2.1 = ⟨2, false, bts x.2.2⟩ ∧ h.length ≤ x.2.1 ∧ x.2.1 < h2.length ∧ m < x.2.1 ∧ Ext h h2 ∧ x.1 ≤ acc.length ∧ x.2.2.length ≤ 21 - x.1 ∧ x.2.2 ++ (acc.take x.1).reverse = 45 :: acc.reverse) (fun x => x.1) _ (x := (acc.length, h1.length + 2, [45])) ⟨by simp -implicitDefEqProofs [go_sem], by simp -implicitDefEqProofs [go_sem, t4], by simp -implicitDefEqProofs [go_sem], by simp -implicitDefEqProofs [go_sem, hg, hm', hmn, hmn1, hmn2], by simp -implicitDefEqProofs [go_sem, bts], by simp <;> omega, by simp, by simp <;> omega, by simp -implicitDefEqProofs [go_sem, he], by simp, by simp <;> omega, by simp⟩ ?_
      rintro ⟨k, m2, out⟩ t h2 ⟨t6, t4, t5, hg1, hg2, hm2, hm2', hmm, he2, hk, hol, ho⟩ ih
      simp only at t6 t4 t5 hg1 hg2 hm2 hm2' hmm hk hol ho
      have hmn1 : m ≠ h2.length := by omega
      have hmn2 : m2 ≠ h2.length := by omega
      have hmn3 : m ≠ m2 := by omega
      have hmn4 : m2 ≠ m := by omega
      have hm1' : m < h2.length := by omega
      have hol2 : out.length + 1 ≤ 1099511627776 := by omega
      cases k with
      | zero =>
        simp at t6 ho
        simp -implicitDefEqProofs [go_sem, Tryz.f148, t6, t4, t5, hg2, hm2', ldN_b rfl, he2]
        exact ho
      | succ j =>
        have t6 : get t 6 = .i .i64 (j : Int) := by rw [t6]; congr 1; omega
        have hj : j < acc.length := by omega
        have q6 := w64 (x := (j : Int) - 1) (by omega)
        obtain ⟨d, hd⟩ : ∃ d, acc[j] = d := ⟨_, rfl⟩
        simp -implicitDefEqProofs [go_sem, Tryz.f148, t6, t4, t5, hg1, hg2, hm2', hm1', hmn1, hmn2, hmn3, hmn4, ldN_b rfl, ldN_b1 hj, hd, hj, hol2]
        refine ih (j, h2.length + 1, out ++ [d]) _ _ (by simp) ?_
        simp -implicitDefEqProofs [go_sem, t6, t4, t5, q6, he2, hg1, hg2, hmn1, hmn3, hmn4, hm2, hm1']
        clear q6
        refine ⟨by omega, by omega, by omega, by omega, ?_⟩
        rw [← ho, List.take_succ_eq_append_getElem hj, hd]; simp
  · have w1 : IntKind.u64.wrap n = (u : Int) := by rw [wu64m]; omega
    simp -implicitDefEqProofs [go_sem, Tryz.f148, h0, hn, w1]
    clear w1
    refine run_inv _ _ _ _ _ (fun (x : Nat × Nat × List Int) t h1 => get t 0 = .i .i64 n ∧ get t 3 = .i .u64 x.1 ∧ get t 4 = .sl x.2.1 0 x.2.2.length 1 ∧ hget h1 x.2.1 = ⟨2, false, bts x.2.2⟩ ∧ h.length ≤ x.2.1 ∧ x.2.1 < h1.length ∧ Ext h h1 ∧ x.1 ≤ u ∧ x.2.2 ++ revD x.1 = revD u) (fun x => x.1) _ (x := (u, h.length, [])) ⟨rfl, rfl, rfl, by simp -implicitDefEqProofs [go_sem, bts_nil], by simp, by simp, by simp -implicitDefEqProofs [go_sem], by simp, by simp⟩ ?_
    rintro ⟨v, m, acc⟩ t h1 ⟨t0, t3, t4, hg, hm, hm', he, hv, ha⟩ ih
    simp only at t0 t3 t4 hg hm hm' hv ha
    have hal' : acc.length ≤ 20 := by have := congrArg List.length ha; simp at this; omega
    have hal : acc.length + 1 ≤ 1099511627776 := by omega
    have hmn : m ≠ h1.length := by omega
    by_cases h3 : 0 < v
    · have q3 := wu64 (x := 48 + (v : Int) % 10) (by omega)
      have q4 := wu64 (x := (v : Int) / 10) (by omega)
      have d1 : (48 + ((v : Int) % 10)) % 256 = 48 + (v : Int) % 10 := by omega
      simp -implicitDefEqProofs [go_sem, Tryz.f148, t0, t3, t4, h3, hg, hm', ldN_b rfl, hal, hmn, tmod10, tdiv10]
      refine ih (v / 10, h1.length + 1, acc ++ [48 + (v : Int) % 10]) _ _ (by simp; omega) ?_
      simp -implicitDefEqProofs [go_sem, t0, t3, t4, q3, q4, d1, he, hm]
      clear q3 q4
      refine ⟨by omega, by omega, ?_⟩
      rw [← ha, revD_s h3]; rfl
    · have hv0 : v = 0 := by omega
      subst hv0
      rw [revD_0, List.append_nil] at ha
      rw [← ha]
      have q5 := w64 (x := (acc.length : Int) - 1) (by omega)
      have hmn1 : m ≠ h1.length + 1 := by omega
      have hmn2 : m ≠ h1.length + 2 := by omega
      simp -implicitDefEqProofs [go_sem, Tryz.f148, t0, t3, t4, hn, hg, hm', ldN_b rfl, hmn]
      rw [q5]; clear q5
      refine run_inv _ _ _ _ _ (fun (x : Nat × Nat × List Int) t h2 => get t 6 = .i .i64 ((x.1 : Int) - 1) ∧ get t 4 = .sl m 0 acc.length 1 ∧ get t 5 = .sl x.2.1 0 x.2.2.length 1 ∧ hget h2 m = ⟨2, false, bts acc⟩ ∧ hget h2 x.2.1 = ⟨2, false, bts x.2.2⟩ ∧ h.length ≤ x.2.1 ∧ x.2.1 < h2.length ∧ m < x.2.1 ∧ Ext h h2 ∧ x.1 ≤ acc.length ∧ x.2.2.length ≤ 21 - x.1 ∧ x.2.2 ++ (acc.take x.1).reverse = acc.reverse) (fun x => x.1) _ (x := (acc.length, h1.length, [])) ⟨by simp -implicitDefEqProofs [go_sem], by simp -implicitDefEqProofs [go_sem, t4], by simp -implicitDefEqProofs [go_sem], by simp -implicitDefEqProofs [go_sem, hg, hm', hmn, hmn1, hmn2], by simp -implicitDefEqProofs [go_sem, bts], by simp <;> omega, by simp, by simp <;> omega, by simp -implicitDefEqProofs [go_sem, he], by simp, by simp <;> omega, by simp⟩ ?_
      rintro ⟨k, m2, out⟩ t h2 ⟨t6, t4, t5, hg1, hg2, hm2, hm2', hmm, he2, hk, hol, ho⟩ ih
      simp only at t6 t4 t5 hg1 hg2 hm2 hm2' hmm hk hol ho
      have hmn1 : m ≠ h2.length := by omega
      have hmn2 : m2 ≠ h2.length := by omega
      have hmn3 : m ≠ m2 := by omega
      have hmn4 : m2 ≠ m := by omega
      have hm1' : m < h2.length := by omega
      have hol2 : out.length + 1 ≤ 1099511627776 := by omega
      cases k with
      | zero =>
        simp at t6 ho
        simp -implicitDefEqProofs [go_sem, Tryz.f148, t6, t4, t5, hg2, hm2', ldN_b rfl, he2]
        exact ho
      | succ j =>
        have t6 : get t 6 = .i .i64 (j : Int) := by rw [t6]; congr 1; omega
        have hj : j < acc.length := by omega
        have q6 := w64 (x := (j : Int) - 1) (by omega)
        obtain ⟨d, hd⟩ : ∃ d, acc[j] = d := ⟨_, rfl⟩
        simp -implicitDefEqProofs [go_sem, Tryz.f148, t6, t4, t5, hg1, hg2, hm2', hm1', hmn1, hmn2, hmn3, hmn4, ldN_b rfl, ldN_b1 hj, hd, hj, hol2]
        refine ih (j, h2.length + 1, out ++ [d]) _ _ (by simp) ?_
        simp -implicitDefEqProofs [go_sem, t6, t4, t5, q6, he2, hg1, hg2, hmn1, hmn3, hmn4, hm2, hm1']
        clear q6
        refine ⟨by omega, by omega, by omega, by omega, ?_⟩
        rw [← ho, List.take_succ_eq_append_getElem hj, hd]; simp
end GoD

/-! Percents, digits, parts as the document answers them. -/
namespace GoD
open Go Go.Proofs
set_option linter.unusedVariables false
set_option linter.unusedSimpArgs false
set_option maxHeartbeats 4000000
set_option maxRecDepth 100000
def rAsciiC : Ct := fun args h => match args with | [.s l] => some (.b (asciiB l), h) | _ => none
theorem rAscii_ok : CtOk Tryz.prog G0 25 rAsciiC := by
  refine ct_plain (n := 1) fol sound_nil (by kernel_rfl) Tryz.func25 rfl fun args h v h' hc r xs H hr hx => ?_
  unfold rAsciiC at hc; split at hc <;> (try split at hc) <;> cases hc
  rename_i l
  obtain ⟨⟨hs, hl⟩, _⟩ := str_of hx
  refine ⟨rfl, rfl, by simp [renV, bndV], ?_⟩
  simp -implicitDefEqProofs [go_sem, Tryz.f25]
  refine run_inv _ _ _ _ _ (fun (i : Nat) t h1 => i ≤ l.length ∧ get t 0 = .s l ∧ get t 3 = .i .i64 i ∧ asciiB (l.drop i) = asciiB l ∧ Ext h h1) (fun i => l.length - i) _ (x := 0) ⟨by simp, rfl, rfl, rfl, Ext.refl h⟩ ?_
  rintro i t h1 ⟨hi, t0, t3, hd, he⟩ ih
  by_cases hlt : i < l.length
  · obtain ⟨d, hc⟩ : ∃ d, l[i] = d := ⟨_, rfl⟩
    rw [List.drop_eq_getElem_cons hlt, hc, asciiB_cons] at hd
    by_cases c1 : 128 ≤ d
    · rw [decide_eq_false (by omega), Bool.false_and] at hd
      simp -implicitDefEqProofs [go_sem, Tryz.f25, t0, t3, hlt, hc, c1, ← hd, he]
    · rw [decide_eq_true (by omega), Bool.true_and] at hd
      simp -implicitDefEqProofs [go_sem, Tryz.f25, t0, t3, hlt, hc, c1]
      refine ih (i + 1) _ _ (by omega) ⟨by omega, ?_⟩
      simp -implicitDefEqProofs [go_sem, t0, t3, i64_1 hl hlt, he, hd]
  · have e0 : l.drop i = [] := List.drop_eq_nil_of_le (by omega)
    rw [e0] at hd
    simp -implicitDefEqProofs [go_sem, Tryz.f25, t0, t3, hlt, ← hd, he]
    rfl
def rHexC : Ct := fun args h => match args with | [.i .u8 c] => some (.i .i64 (hexv c), h) | _ => none
theorem rHex_ok : CtOk Tryz.prog G0 189 rHexC := by
  refine ct_plain (n := 1) fol sound_nil (by kernel_rfl) Tryz.func189 rfl fun args h v h' hc r xs H hr hx => ?_
  unfold rHexC at hc; split at hc <;> (try split at hc) <;> cases hc
  rename_i c
  obtain ⟨hb, _⟩ := int_of hx
  have hb : 0 ≤ c ∧ c < 256 := by simpa [lo, hi, IntKind.signed, IntKind.bits] using hb
  refine ⟨rfl, rfl, by simp [renV, bndV], ?_⟩
  unfold hexv
  by_cases h1 : 48 ≤ c <;> by_cases h2 : c ≤ 57 <;> by_cases h3 : 97 ≤ c <;> by_cases h4 : c ≤ 102 <;> by_cases h5 : 65 ≤ c <;> by_cases h6 : c ≤ 70 <;> (try omega) <;>
  (simp -implicitDefEqProofs [go_sem, Tryz.f189, h1, h2, h3, h4, h5, h6, V.i.injEq]; try (simp (disch := omega) only [w64]; try omega))
def rDigitsC : Ct := fun args h => match args with | [.s l, .i .i64 b] => some (.b (digitsB b l && !decide (l = [])), h) | _ => none
theorem rDigits_ok : CtOk Tryz.prog G0 120 rDigitsC := by
  refine ct_plain (n := 2) fol (sound_cons rHex_ok sound_nil) (by kernel_rfl) Tryz.func120 rfl fun args h v h' hc r xs H hr hx => ?_
  unfold rDigitsC at hc; split at hc <;> (try split at hc) <;> cases hc
  rename_i l b
  obtain ⟨⟨hs, hl⟩, _⟩ := str_of hx
  refine ⟨rfl, rfl, by simp [renV, bndV], ?_⟩
  simp -implicitDefEqProofs [go_sem, Tryz.f120]
  refine run_inv _ _ _ _ _ (fun (i : Nat) t h1 => i ≤ l.length ∧ get t 0 = .s l ∧ get t 1 = .i .i64 b ∧ get t 5 = .i .i64 i ∧ digitsB b (l.drop i) = digitsB b l ∧ Ext h h1) (fun i => l.length - i) _ (x := 0) ⟨by simp, rfl, rfl, rfl, rfl, Ext.refl h⟩ ?_
  rintro i t h1 ⟨hi, t0, t1, t5, hd, he⟩ ih
  by_cases hlt : i < l.length
  · obtain ⟨d, hc⟩ : ∃ d, l[i] = d := ⟨_, rfl⟩
    rw [List.drop_eq_getElem_cons hlt, hc, digitsB_cons] at hd
    by_cases c1 : hexv d < 0
    · rw [decide_eq_false (by omega), Bool.false_and] at hd
      simp -implicitDefEqProofs [go_sem, Tryz.f120, t0, t1, t5, hlt, hc, c1, rHexC, ← hd, he]
    · by_cases c2 : b ≤ hexv d
      · rw [decide_eq_false (by omega), Bool.false_and] at hd
        simp -implicitDefEqProofs [go_sem, Tryz.f120, t0, t1, t5, hlt, hc, c1, c2, rHexC, ← hd, he]
      · rw [decide_eq_true (by omega), Bool.true_and] at hd
        simp -implicitDefEqProofs [go_sem, Tryz.f120, t0, t1, t5, hlt, hc, c1, c2, rHexC]
        refine ih (i + 1) _ _ (by omega) ⟨by omega, ?_⟩
        simp -implicitDefEqProofs [go_sem, t0, t1, t5, i64_1 hl hlt, he, hd]
  · have e0 : l.drop i = [] := List.drop_eq_nil_of_le (by omega)
    rw [e0, show digitsB b [] = true from rfl] at hd
    simp -implicitDefEqProofs [go_sem, Tryz.f120, t0, t1, t5, hlt, ← hd, he]
    cases l <;> simp
def rDecodeC : Ct := fun args h => match args with | [.s l] => if l.length ≤ 1048576 then some (.s (decodeL l), h) else none | _ => none
theorem rDecode_ok : CtOk Tryz.prog G0 187 rDecodeC := by
  refine ct_plain (n := 1) fol (sound_cons rHex_ok sound_nil) (by kernel_rfl) Tryz.func187 rfl fun args h v h' hc r xs H hr hx => ?_
  unfold rDecodeC at hc; split at hc <;> (try split at hc) <;> cases hc
  rename_i l hl
  obtain ⟨⟨hs, _⟩, _⟩ := str_of hx
  refine ⟨rfl, rfl, by simp [renV, bndV], ?_⟩
  simp -implicitDefEqProofs [go_sem, Tryz.f187]
  refine run_inv _ _ _ _ _ (fun (x : Nat × Nat × List Int) t h1 => x.1 ≤ l.length ∧ get t 0 = .s l ∧ get t 4 = .i .i64 x.1 ∧ get t 3 = .sl x.2.1 0 x.2.2.length 1 ∧ hget h1 x.2.1 = ⟨2, false, bts x.2.2⟩ ∧ h.length ≤ x.2.1 ∧ x.2.1 < h1.length ∧ Ext h h1 ∧ x.2.2.length ≤ x.1 ∧ x.2.2 ++ decodeL (l.drop x.1) = decodeL l) (fun x => l.length - x.1) _ (x := (0, h.length, [])) ⟨by simp, rfl, rfl, rfl, by simp -implicitDefEqProofs [go_sem, bts_nil], by simp, by simp, by simp -implicitDefEqProofs [go_sem], by simp, by simp⟩ ?_
  rintro ⟨i, m, acc⟩ t h1 ⟨hi, t0, t4, t3, hg, hm, hm', he, hal, ha⟩ ih
  simp only at hi t0 t4 t3 hg hm hm' hal ha
  have hmn : m ≠ h1.length := by omega
  have hi6 : i < 1152921504606846976 := by omega
  have e1 : (acc.length + 1) ≤ 1099511627776 := by omega
  by_cases hlt : i < l.length
  · obtain ⟨d, hc⟩ : ∃ d, l[i] = d := ⟨_, rfl⟩
    have hdr : l.drop i = d :: l.drop (i + 1) := by rw [List.drop_eq_getElem_cons hlt, hc]
    rw [hdr] at ha
    by_cases c1 : d = 37
    · by_cases c2 : i + 2 < l.length
      · obtain ⟨a, hca⟩ : ∃ a, l[i + 1] = a := ⟨_, rfl⟩
        obtain ⟨b, hcb⟩ : ∃ b, l[i + 2] = b := ⟨_, rfl⟩
        have hdr2 : l.drop (i + 1) = a :: b :: l.drop (i + 3) := by rw [List.drop_eq_getElem_cons (show i + 1 < l.length by omega), hca, List.drop_eq_getElem_cons c2, hcb]
        have c2' : i + 1 < l.length := by omega
        have x1 := hexv_le a
        have x2 := hexv_le b
        by_cases c3 : 0 ≤ hexv a
        · by_cases c4 : 0 ≤ hexv b
          · have m1 : (16 * hexv a + hexv b) % 256 = 16 * hexv a + hexv b := by omega
            rw [c1, hdr2, decodeL_hex c3 c4] at ha
            simp -implicitDefEqProofs [go_sem, Tryz.f187, t0, t4, t3, hlt, hc, c1, c2, c2', c3, c4, rHexC, hg, hm', ldN_b rfl, e1, hmn, i64_n hi6, i64_2 hi6, hca, hcb]
            refine ih (i + 3, h1.length + 1, acc ++ [16 * hexv a + hexv b]) _ _ (by simp; omega) ⟨by simp; omega, ?_⟩
            simp -implicitDefEqProofs [go_sem, t0, t3, t4, i64_3 hi6, he, hm, m1, w64 (x := 16 * hexv a) (by omega), w64 (x := 16 * hexv a + hexv b) (by omega)]
            exact ⟨by omega, by omega, ha⟩
          · rw [decodeL_other fun a' b' r e _ _ h => by rw [hdr2] at e; simp at e; rw [← e.2.1] at h; exact c4 h] at ha
            simp -implicitDefEqProofs [go_sem, Tryz.f187, t0, t4, t3, hlt, hc, c1, c2, c2', c3, c4, hca, hcb, rHexC, hg, hm', ldN_b rfl, e1, hmn, i64_n hi6, i64_2 hi6]
            refine ih (i + 1, h1.length + 1, acc ++ [d]) _ _ (by simp; omega) ⟨hlt, ?_⟩
            simp -implicitDefEqProofs [go_sem, t0, t3, t4, i64_n hi6, he, hm, c1]
            rw [c1] at ha
            exact ⟨by omega, hal, ha⟩
        · rw [decodeL_other fun a' b' r e _ h _ => by rw [hdr2] at e; simp at e; rw [← e.1] at h; exact c3 h] at ha
          simp -implicitDefEqProofs [go_sem, Tryz.f187, t0, t4, t3, hlt, hc, c1, c2, c2', c3, hca, hcb, rHexC, hg, hm', ldN_b rfl, e1, hmn, i64_n hi6, i64_2 hi6]
          refine ih (i + 1, h1.length + 1, acc ++ [d]) _ _ (by simp; omega) ⟨hlt, ?_⟩
          simp -implicitDefEqProofs [go_sem, t0, t3, t4, i64_n hi6, he, hm, c1]
          rw [c1] at ha
          exact ⟨by omega, hal, ha⟩
      · rw [decodeL_other fun a' b' r e _ _ _ => by have := congrArg List.length e; simp at this; omega] at ha
        simp -implicitDefEqProofs [go_sem, Tryz.f187, t0, t4, t3, hlt, hc, c1, c2, rHexC, hg, hm', ldN_b rfl, e1, hmn, i64_n hi6, i64_2 hi6]
        refine ih (i + 1, h1.length + 1, acc ++ [d]) _ _ (by simp; omega) ⟨hlt, ?_⟩
        simp -implicitDefEqProofs [go_sem, t0, t3, t4, i64_n hi6, he, hm, c1]
        rw [c1] at ha
        exact ⟨by omega, hal, ha⟩
    · rw [decodeL_other fun _ _ _ _ e => absurd e c1] at ha
      simp -implicitDefEqProofs [go_sem, Tryz.f187, t0, t4, t3, hlt, hc, c1, hg, hm', ldN_b rfl, e1, hmn]
      refine ih (i + 1, h1.length + 1, acc ++ [d]) _ _ (by simp; omega) ⟨hlt, ?_⟩
      simp -implicitDefEqProofs [go_sem, t0, t3, t4, i64_n hi6, he, hm]
      exact ⟨by omega, hal, ha⟩
  · have e : i = l.length := by omega
    rw [e, List.drop_length, show decodeL [] = [] from rfl, List.append_nil] at ha
    simp -implicitDefEqProofs [go_sem, Tryz.f187, t0, t3, t4, hlt, hg, hm', ldN_b rfl, e, he]
    exact ha
end GoD

/-! Addresses as the document answers them. -/
namespace GoD
open Go Go.Proofs
set_option linter.unusedVariables false
set_option linter.unusedSimpArgs false
set_option maxHeartbeats 4000000
set_option maxRecDepth 100000
theorem ldN_s1 {l : List (List Int)} {i : Nat} (h : i < l.length) : ldN (sts l) i 1 = some [.s l[i]] := by
  have h2 : i < (sts l).length := by rw [sts_len]; exact h
  rw [ldN, if_pos (by omega), List.drop_eq_getElem_cons h2]
  simp [sts]
def rPartsC : Ct := fun args h => match args with | [.s l] => if l.length ≤ 1048576 then some (.sl h.length 0 (partsL l).length 1, h ++ [⟨2, false, sts (splitL 46 l)⟩]) else none | _ => none
theorem rParts_ok : CtOk Tryz.prog G0 204 rPartsC := by
  refine ct_run (n := 1) fol (sound_cons rSplit_ok sound_nil) (by kernel_rfl) Tryz.func204 rfl fun args h v h' hc r xs H hr hx => ?_
  unfold rPartsC at hc; split at hc <;> (try split at hc) <;> cases hc
  rename_i l hl
  obtain ⟨⟨hs, _⟩, _⟩ := str_of hx
  refine ⟨rfl, ?_⟩
  have hn := splitL_len 46 l
  obtain ⟨y, hy⟩ : ∃ y, splitL 46 l = y := ⟨_, rfl⟩
  have hy0 : 0 < y.length := List.length_pos_iff.2 (hy ▸ splitL_ne 46 l)
  rw [hy] at hn
  have hp : (partsL l).length = if 1 < y.length ∧ y.getLast? = some [] then y.length - 1 else y.length := by unfold partsL; rw [hy]; split <;> simp
  by_cases c1 : 1 < y.length
  · have c1' : (1 : Int) < y.length := by omega
    obtain ⟨n, hyn⟩ : ∃ n, y.length = n + 1 := ⟨y.length - 1, by omega⟩
    have hn1 : n < y.length := by omega
    obtain ⟨d, hd⟩ : ∃ d, y[n] = d := ⟨_, rfl⟩
    have hg : y.getLast? = some d := by rw [List.getLast?_eq_getElem?, hyn, Nat.add_sub_cancel, List.getElem?_eq_getElem hn1, hd]
    rw [hg] at hp
    have c3 : (1 : Int) < (n : Int) + 1 := by omega
    have c4 : (n : Int) < (n : Int) + 1 := by omega
    have c5 : (n : Int) ≤ (n : Int) + 1 := by omega
    have c6 : n < n + 1 := by omega
    by_cases c2 : d = []
    · rw [c2, if_pos ⟨c1, rfl⟩, hyn] at hp
      simp -implicitDefEqProofs [go_sem, Tryz.f204, rSplitC, hl, hy, hyn, ldN_s1 hn1, hd, c2, c3, c4, c5, c6, w64 (x := (n : Int)) (by omega)]
      have hp' : (partsL l).length = n := by omega
      rw [hp']
      exact Trim.sl (by simp -implicitDefEqProofs [go_sem]) (by omega) (by simp) (by simp -implicitDefEqProofs [go_sem]) (by simp -implicitDefEqProofs [go_sem])
    · rw [if_neg fun e => c2 (Option.some.inj e.2), hyn] at hp
      simp -implicitDefEqProofs [go_sem, Tryz.f204, rSplitC, hl, hy, hyn, ldN_s1 hn1, hd, c2, c3, c4, c5, c6, w64 (x := (n : Int)) (by omega)]
      rw [hp]
      exact Trim.sl (by simp -implicitDefEqProofs [go_sem]) (by omega) (by simp) (by simp -implicitDefEqProofs [go_sem]) (by simp -implicitDefEqProofs [go_sem])
  · have hy1 : y.length = 1 := by omega
    rw [if_neg fun e => c1 e.1, hy1] at hp
    simp -implicitDefEqProofs [go_sem, Tryz.f204, rSplitC, hl, hy, hy1]
    rw [hp]
    exact Trim.sl (by simp -implicitDefEqProofs [go_sem]) (by omega) (by simp) (by simp -implicitDefEqProofs [go_sem]) (by simp -implicitDefEqProofs [go_sem])
def rPartC : Ct := fun args h => match args with | [.s l] => if l.length ≤ 1048576 then some (.tup [.i .u64 (okV (pieceV l)).1, .b (okV (pieceV l)).2], h) else none | _ => none
theorem accV_ge {b : Int} (hb : 0 ≤ b) : ∀ {l : List Int} {n m : Int}, 0 ≤ n → (∀ c ∈ l, 0 ≤ hexv c) → accV b n l = some m → 0 ≤ m ∧ (n < 4294967296 → m < 4294967296)
  | [], n, m, hn, _, h => by simp [accV] at h; subst h; exact ⟨hn, id⟩
  | c :: t, n, m, hn, hc, h => by
    rw [accV] at h
    split at h
    · cases h
    · rename_i h1
      have := Int.mul_nonneg hb hn
      have h2 := hc c List.mem_cons_self
      obtain ⟨h3, h4⟩ := accV_ge hb (by omega) (fun x hx => hc x (List.mem_cons_of_mem _ hx)) h
      exact ⟨h3, fun _ => h4 (by omega)⟩
/-- the first loop in a code -/
def loopC : Code → Option Code
  | .loop a => some a
  | .seq a b => match loopC a with | some c => some c | none => loopC b
  | .cond _ a b => match loopC a with | some c => some c | none => loopC b
  | .block _ a => loopC a
  | _ => none
def loop1 (f : Func) : Code := (f.body.bind loopC).getD .skip
noncomputable def partLoop : Code := loop1 Tryz.f205
theorem part_loop {P : Ex → Tm → Heap → Prop} {k : List Todo} {b : Int} {rest : List Int} {h : Heap} (hb : 8 ≤ b ∧ b ≤ 16) (hl : rest.length ≤ 1048576) (hd : ∀ c ∈ rest, 0 ≤ hexv c ∧ hexv c < b)
    (hx : ∀ t h1 n, accV b 0 rest = some n → get t 5 = .i .u64 n → Ext h h1 → RunX (ctx Tryz.prog G0 [(189, rHexC), (120, rDigitsC)]) P k (.e 1) t h1)
    (hr : ∀ t h1, accV b 0 rest = none → get t 2 = .i .u64 0 → get t 3 = .b false → Ext h h1 → RunX (ctx Tryz.prog G0 [(189, rHexC), (120, rDigitsC)]) P k .r t h1)
    {t : Tm} {h1 : Heap} (t0 : get t 0 = .s rest) (t4 : get t 4 = .i .i64 b) (t5 : get t 5 = .i .u64 0) (t6 : get t 6 = .i .i64 0) (he : Ext h h1) : Run (ctx Tryz.prog G0 [(189, rHexC), (120, rDigitsC)]) P (.again partLoop :: k) t h1 := by
  refine run_inv _ _ _ _ _ (fun (x : Nat × Int) t h1 => x.1 ≤ rest.length ∧ get t 0 = .s rest ∧ get t 4 = .i .i64 b ∧ get t 5 = .i .u64 x.2 ∧ get t 6 = .i .i64 x.1 ∧ 0 ≤ x.2 ∧ x.2 < 4294967296 ∧ accV b x.2 (rest.drop x.1) = accV b 0 rest ∧ Ext h h1) (fun x => rest.length - x.1) _ (x := (0, 0)) ⟨by simp, t0, t4, t5, t6, by simp, by simp, by simp, he⟩ ?_
  rintro ⟨i, n⟩ t h1 ⟨hi, t0, t4, t5, t6, hn0, hn1, ha, he⟩ ih
  simp only at hi t0 t4 t5 t6 hn0 hn1 ha
  by_cases hlt : i < rest.length
  · obtain ⟨d, hc⟩ : ∃ d, rest[i] = d := ⟨_, rfl⟩
    have hdd := hd d (hc ▸ List.getElem_mem hlt)
    rw [List.drop_eq_getElem_cons hlt, hc, accV] at ha
    have hm0 := Int.mul_nonneg hn0 (show 0 ≤ b by omega)
    have hm1 : n * b ≤ n * 16 := Int.mul_le_mul_of_nonneg_left hb.2 hn0
    have hbn : b * n = n * b := Int.mul_comm _ _
    rw [hbn] at ha
    have hi6 : i < 1152921504606846976 := by omega
    by_cases c1 : 4294967296 ≤ n * b + hexv d
    · rw [if_pos c1] at ha
      simp -implicitDefEqProofs [go_sem, partLoop, loop1, loopC, Tryz.f205, t0, t4, t5, t6, hlt, hc, rHexC, c1, wu64 (x := b) (by omega), wu64 (x := n * b) (by omega), wu64 (x := hexv d) (by omega), wu64 (x := n * b + hexv d) (by omega)]
      exact hr _ _ ha.symm (by simp -implicitDefEqProofs [go_sem]) (by simp -implicitDefEqProofs [go_sem]) he
    · rw [if_neg c1] at ha
      simp -implicitDefEqProofs [go_sem, partLoop, loop1, loopC, Tryz.f205, t0, t4, t5, t6, hlt, hc, rHexC, c1, wu64 (x := b) (by omega), wu64 (x := n * b) (by omega), wu64 (x := hexv d) (by omega), wu64 (x := n * b + hexv d) (by omega)]
      refine ih (i + 1, n * b + hexv d) _ _ (by simp; omega) ⟨hlt, ?_⟩
      simp -implicitDefEqProofs [go_sem, t0, t4, t5, t6, i64_n hi6, he]
      exact ⟨by omega, by omega, ha⟩
  · have e0 : rest.drop i = [] := List.drop_eq_nil_of_le (by omega)
    rw [e0, accV] at ha
    simp -implicitDefEqProofs [go_sem, partLoop, loop1, loopC, Tryz.f205, t0, t4, t5, t6, hlt]
    exact hx _ _ n ha.symm (by simp -implicitDefEqProofs [go_sem, t5]) he
theorem rPart_ok : CtOk Tryz.prog G0 205 rPartC := by
  refine ct_plain (n := 1) fol (sound_cons rHex_ok (sound_cons rDigits_ok sound_nil)) (by kernel_rfl) Tryz.func205 rfl fun args h v h' hc r xs H hr hx => ?_
  unfold rPartC at hc; split at hc <;> (try split at hc) <;> cases hc
  rename_i l hl
  obtain ⟨⟨hs, _⟩, _⟩ := str_of hx
  refine ⟨rfl, rfl, by simp [renV, bndV, renL, bndL], ?_⟩
  obtain ⟨v, hv⟩ : ∃ v, pieceV l = v := ⟨_, rfl⟩
  rw [hv]
  have key : ∀ (b : Int) (rest : List Int), b = 16 ∨ b = 8 ∨ b = 10 → digitsB b rest = true → (∀ c ∈ rest, 0 ≤ hexv c ∧ hexv c < b) := fun b rest _ hd c hc => by
    have := List.all_eq_true.1 hd c hc
    exact of_decide_eq_true this
  rcases l with _ | ⟨c0, _ | ⟨c1, r⟩⟩
  · have : v = none := by rw [← hv]; rfl
    subst this
    simp -implicitDefEqProofs [go_sem, Tryz.f205, rDigitsC, okV]
  · by_cases hd : digitsB 10 [c0] = true
    · have hv' : accV 10 0 [c0] = v := by rw [← hv]; simp [pieceV, hexP, baseV, restV, hd]
      simp -implicitDefEqProofs [go_sem, Tryz.f205, rDigitsC, hd]
      refine part_loop (b := 10) (rest := [c0]) (h := h) (by omega) (by simp) (key _ _ (by omega) hd) ?_ ?_ (by simp -implicitDefEqProofs [go_sem]) (by simp -implicitDefEqProofs [go_sem]) (by simp -implicitDefEqProofs [go_sem]) (by simp -implicitDefEqProofs [go_sem]) (by simp -implicitDefEqProofs [go_sem])
      · intro t h1 n e t5 he
        rw [hv'] at e
        simp -implicitDefEqProofs [go_sem, t5, e, okV, he]
      · intro t h1 e t2 t3 he
        rw [hv'] at e
        simp -implicitDefEqProofs [go_sem, t2, t3, e, okV, he]
    · have hd' : digitsB 10 [c0] = false := by simpa using hd
      have : v = none := by rw [← hv]; simp [pieceV, hexP, baseV, restV, hd']
      subst this
      simp -implicitDefEqProofs [go_sem, Tryz.f205, rDigitsC, okV, hd']
  · have k1 : (2 : Int) ≤ (r.length : Int) + 1 + 1 := by omega
    have k2 : (0 : Int) < (r.length : Int) + 1 + 1 := by omega
    have k3 : (1 : Int) < (r.length : Int) + 1 + 1 := by omega
    have k4 : (1 : Int) ≤ (r.length : Int) + 1 + 1 := by omega
    by_cases e0 : c0 = 48
    · by_cases e1 : c1 = 120 ∨ c1 = 88
      · by_cases hr0 : r = []
        · have : v = some 0 := by rw [← hv, e0, hr0]; rcases e1 with e1 | e1 <;> rw [e1] <;> rfl
          subst this
          rcases e1 with e1 | e1 <;> simp -implicitDefEqProofs [go_sem, Tryz.f205, e0, e1, k1, k2, k3, k4, hr0, okV]
        · by_cases hd : digitsB 16 r = true
          · have hv' : accV 16 0 r = v := by rw [← hv, e0]; rcases e1 with e1 | e1 <;> rw [e1] <;> simp [pieceV, hexP, baseV, restV, hd]
            rcases e1 with e1 | e1
            all_goals
              simp -implicitDefEqProofs [go_sem, Tryz.f205, e0, e1, k1, k2, k3, k4, hr0, rDigitsC, hd]
              refine part_loop (b := 16) (rest := r) (h := h) (by omega) (by simp at hl ⊢; omega) (key _ _ (by omega) hd) ?_ ?_ (by simp -implicitDefEqProofs [go_sem]) (by simp -implicitDefEqProofs [go_sem]) (by simp -implicitDefEqProofs [go_sem]) (by simp -implicitDefEqProofs [go_sem]) (by simp -implicitDefEqProofs [go_sem])
              · intro t h1 n e t5 he
                rw [hv'] at e
                simp -implicitDefEqProofs [go_sem, t5, e, okV, he]
              · intro t h1 e t2 t3 he
                rw [hv'] at e
                simp -implicitDefEqProofs [go_sem, t2, t3, e, okV, he]
          · have hd' : digitsB 16 r = false := by simpa using hd
            have : v = none := by rw [← hv, e0]; rcases e1 with e1 | e1 <;> rw [e1] <;> simp [pieceV, hexP, baseV, restV, hd']
            subst this
            rcases e1 with e1 | e1 <;> simp -implicitDefEqProofs [go_sem, Tryz.f205, e0, e1, k1, k2, k3, k4, hr0, okV, rDigitsC, hd']
      · have e2 := not_or.1 e1
        by_cases hd : digitsB 8 (c1 :: r) = true
        · have hv' : accV 8 0 (c1 :: r) = v := by rw [← hv, e0]; simp [pieceV, hexP, baseV, restV, hd, e2.1, e2.2]
          simp -implicitDefEqProofs [go_sem, Tryz.f205, e0, e2.1, e2.2, k1, k2, k3, k4, rDigitsC, hd]
          refine part_loop (b := 8) (rest := c1 :: r) (h := h) (by omega) (by simp at hl ⊢; omega) (key _ _ (by omega) hd) ?_ ?_ (by simp -implicitDefEqProofs [go_sem]) (by simp -implicitDefEqProofs [go_sem]) (by simp -implicitDefEqProofs [go_sem]) (by simp -implicitDefEqProofs [go_sem]) (by simp -implicitDefEqProofs [go_sem])
          · intro t h1 n e t5 he
            rw [hv'] at e
            simp -implicitDefEqProofs [go_sem, t5, e, okV, he]
          · intro t h1 e t2 t3 he
            rw [hv'] at e
            simp -implicitDefEqProofs [go_sem, t2, t3, e, okV, he]
        · have hd' : digitsB 8 (c1 :: r) = false := by simpa using hd
          have : v = none := by rw [← hv, e0]; simp [pieceV, hexP, baseV, restV, hd', e2.1, e2.2]
          subst this
          simp -implicitDefEqProofs [go_sem, Tryz.f205, e0, e2.1, e2.2, k1, k2, k3, k4, okV, rDigitsC, hd']
    · by_cases hd : digitsB 10 (c0 :: c1 :: r) = true
      · have hv' : accV 10 0 (c0 :: c1 :: r) = v := by rw [← hv]; simp [pieceV, hexP, baseV, restV, hd, e0]
        simp -implicitDefEqProofs [go_sem, Tryz.f205, e0, k1, k2, k3, k4, rDigitsC, hd]
        refine part_loop (b := 10) (rest := c0 :: c1 :: r) (h := h) (by omega) (by simp at hl ⊢; omega) (key _ _ (by omega) hd) ?_ ?_ (by simp -implicitDefEqProofs [go_sem]) (by simp -implicitDefEqProofs [go_sem]) (by simp -implicitDefEqProofs [go_sem]) (by simp -implicitDefEqProofs [go_sem]) (by simp -implicitDefEqProofs [go_sem])
        · intro t h1 n e t5 he
          rw [hv'] at e
          simp -implicitDefEqProofs [go_sem, t5, e, okV, he]
        · intro t h1 e t2 t3 he
          rw [hv'] at e
          simp -implicitDefEqProofs [go_sem, t2, t3, e, okV, he]
      · have hd' : digitsB 10 (c0 :: c1 :: r) = false := by simpa using hd
        have : v = none := by rw [← hv]; simp [pieceV, hexP, baseV, restV, hd', e0]
        subst this
        simp -implicitDefEqProofs [go_sem, Tryz.f205, e0, k1, k2, k3, k4, okV, rDigitsC, hd']
end GoD

/-! Addresses as the document answers them: numbers. -/
namespace GoD
open Go Go.Proofs
set_option linter.unusedVariables false
set_option linter.unusedSimpArgs false
set_option maxHeartbeats 4000000
set_option maxRecDepth 100000
def rNumberC : Ct := fun args h => match args with | [.s l] => if l.length ≤ 1048576 then some (.tup [.i .u32 (okV (numberL l)).1, .b (okV (numberL l)).2], h) else none | _ => none
theorem rNumber_ok : CtOk Tryz.prog G0 142 rNumberC := by
  refine ct_plain (n := 1) fol (sound_cons rParts_ok (sound_cons rPart_ok sound_nil)) (by kernel_rfl) Tryz.func142 rfl fun args h v h' hc r xs H hr hx => ?_
  unfold rNumberC at hc; split at hc <;> (try split at hc) <;> cases hc
  rename_i l hl
  obtain ⟨⟨hs, _⟩, _⟩ := str_of hx
  refine ⟨rfl, rfl, by simp [renV, bndV, renL, bndL], ?_⟩
  obtain ⟨z, hz⟩ : ∃ z, splitL 46 l = z := ⟨_, rfl⟩
  obtain ⟨y, hy⟩ : ∃ y, partsL l = y := ⟨_, rfl⟩
  have hyz : y = z.take y.length := by rw [← hy, ← hz]; exact partsL_take l
  have hy0 : y ≠ [] := hy ▸ partsL_ne l
  have hyl : y.length ≤ z.length := by have := congrArg List.length hyz; simp at this; omega
  have hzl : ∀ p ∈ z, p.length ≤ 1048576 := fun p hp => Nat.le_trans (splitL_mem (hz ▸ hp)) hl
  obtain ⟨v, hv⟩ : ∃ v, numberL l = v := ⟨_, rfl⟩
  rw [hv]
  have hp0 : 0 < y.length := List.length_pos_iff.2 hy0
  by_cases c1 : 4 < y.length
  · have : v = none := by rw [← hv]; unfold numberL; rw [hy, if_pos c1]
    subst this
    have c1' : (4 : Int) < y.length := by omega
    simp -implicitDefEqProofs [go_sem, Tryz.f142, rPartsC, hl, hy, hz, c1', c1, okV]
  · have hv' : numL 4 y = v := by rw [← hv]; unfold numberL; rw [hy, if_neg c1]
    have c1' : ¬ (4 : Int) < y.length := by omega
    simp -implicitDefEqProofs [go_sem, Tryz.f142, rPartsC, hl, hy, hz, c1', c1]
    refine run_inv _ _ _ _ _ (fun (x : Nat × Int) t h1 => x.1 ≤ y.length ∧ get t 4 = .sl h.length 0 y.length 1 ∧ get t 5 = .i .u64 x.2 ∧ get t 6 = .i .i64 x.1 ∧ hget h1 h.length = ⟨2, false, sts z⟩ ∧ Ext h h1 ∧ 0 ≤ x.2 ∧ (x.1 < y.length → x.2 + 2 ^ (8 * (4 - x.1)) ≤ 4294967296 ∧ (numL (4 - x.1) (y.drop x.1)).map (fun n => x.2 + n) = v) ∧ (x.1 = y.length → v = some x.2 ∧ x.2 < 4294967296)) (fun x => y.length - x.1) _ (x := (0, 0)) ⟨by simp, by simp -implicitDefEqProofs [go_sem], by simp -implicitDefEqProofs [go_sem], by simp -implicitDefEqProofs [go_sem], by simp -implicitDefEqProofs [go_sem], by simp -implicitDefEqProofs [go_sem], by simp, fun _ => ⟨by decide, by simp; exact hv'⟩, fun e => by simp at e; omega⟩ ?_
    rintro ⟨i, s⟩ t h1 ⟨hi, t4, t5, t6, hg, he, hs0, hA, hB⟩ ih
    simp only at hi t4 t5 t6 hs0 hA hB
    by_cases hlt : i < y.length
    · obtain ⟨hA1, hA2⟩ := hA hlt
      have hiz : i < z.length := by omega
      obtain ⟨p, hp⟩ : ∃ p, z[i] = p := ⟨_, rfl⟩
      have hpy : y[i] = p := by rw [← hp, List.getElem_of_eq hyz hlt, List.getElem_take]
      have hpl : p.length ≤ 1048576 := hzl p (hp ▸ List.getElem_mem hiz)
      have hld := ldN_s1 hiz
      rw [hp] at hld
      have hdr : y.drop i = p :: y.drop (i + 1) := by rw [List.drop_eq_getElem_cons hlt, hpy]
      rw [hdr] at hA2
      have hi3 : i ≤ 3 := by omega
      by_cases hlast : i + 1 = y.length
      · have hnil : y.drop (i + 1) = [] := List.drop_eq_nil_of_le (by omega)
        rw [hnil] at hA2
        have hli : (i : Int) + 1 = y.length := by omega
        have hl2 : ¬ i + 1 < y.length := by omega
        cases hpv : pieceV p with
        | none =>
          have : v = none := by rw [← hA2]; simp [numL, hpv]
          subst this
          simp -implicitDefEqProofs [go_sem, Tryz.f142, rPartC, t4, t5, t6, hlt, hg, hld, hpl, hpv, okV, he]
        | some n =>
          obtain ⟨n0, n1⟩ := pieceV_le hpv
          have tn : (8 * (5 - (y.length : Int))).toNat = 8 * (4 - i) := by omega
          have ng : ¬ (8 * (5 - (y.length : Int)) < 0) := by omega
          have mn : min (8 * (4 - i)) 64 = 8 * (4 - i) := by omega
          obtain ⟨q, hq⟩ : ∃ q : Int, 2 ^ (8 * (4 - i)) = q := ⟨_, rfl⟩
          rw [hq] at hA1
          have hq0 : 0 < q := by rw [← hq]; exact Int.pow_pos (by omega)
          by_cases c2 : q ≤ n
          · have : v = none := by rw [← hA2]; simp [numL, hpv, hq]; omega
            subst this
            simp -implicitDefEqProofs [go_sem, Tryz.f142, rPartC, t4, t5, t6, hlt, hg, hld, hpl, hpv, okV, he, hl2, hli, tn, ng, mn, hq, c2, i64_n (show i < 1152921504606846976 by omega), w64 (x := (y.length : Int)) (by omega), w64 (x := 5 - (y.length : Int)) (by omega), w64 (x := 8 * (5 - (y.length : Int))) (by omega), wu64 (x := q) (by omega)]
          · have hv2 : v = some (s + n) := by rw [← hA2]; simp [numL, hpv, hq]; omega
            simp -implicitDefEqProofs [go_sem, Tryz.f142, rPartC, t4, t5, t6, hlt, hg, hld, hpl, hpv, okV, he, hl2, hli, tn, ng, mn, hq, c2, i64_n (show i < 1152921504606846976 by omega), w64 (x := (y.length : Int)) (by omega), w64 (x := 5 - (y.length : Int)) (by omega), w64 (x := 8 * (5 - (y.length : Int))) (by omega), wu64 (x := q) (by omega)]
            refine ih (i + 1, s + n) _ _ (by simp; omega) ⟨hlt, ?_⟩
            simp -implicitDefEqProofs [go_sem, t4, t5, t6, hg, he, i64_n (show i < 1152921504606846976 by omega), wu64 (x := s + n) (by omega), hli]
            exact ⟨by omega, fun h => absurd h (by omega), fun _ => ⟨hv2, by omega⟩⟩
      · have hne : y.drop (i + 1) ≠ [] := fun e => by have := congrArg List.length e; simp at this; omega
        rw [numL_more hne] at hA2
        have hlt2 : i + 1 < y.length := by omega
        have hli : ¬ (i : Int) + 1 = y.length := by omega
        cases hpv : pieceV p with
        | none =>
          rw [hpv] at hA2
          have : v = none := by rw [← hA2]; rfl
          subst this
          simp -implicitDefEqProofs [go_sem, Tryz.f142, rPartC, t4, t5, t6, hlt, hg, hld, hpl, hpv, okV, he]
        | some n =>
          rw [hpv] at hA2
          obtain ⟨n0, n1⟩ := pieceV_le hpv
          by_cases c2 : 255 < n
          · have : v = none := by rw [← hA2]; simp [c2]
            subst this
            simp -implicitDefEqProofs [go_sem, Tryz.f142, rPartC, t4, t5, t6, hlt, hg, hld, hpl, hpv, okV, he, c2, hlt2, i64_n (show i < 1152921504606846976 by omega)]
          · have tn : (8 * (3 - (i : Int))).toNat = 8 * (3 - i) := by omega
            have ng : ¬ (8 * (3 - (i : Int)) < 0) := by omega
            have mn : min (8 * (3 - i)) 64 = 8 * (3 - i) := by omega
            obtain ⟨q, hq⟩ : ∃ q : Int, 2 ^ (8 * (3 - i)) = q := ⟨_, rfl⟩
            have hq0 : 0 < q := by rw [← hq]; exact Int.pow_pos (by omega)
            have hq1 : (2 : Int) ^ (8 * (4 - i)) = 256 * q := by rw [← hq, show 8 * (4 - i) = 8 * (3 - i) + 8 by omega, Int.pow_add]; omega
            rw [hq1] at hA1
            have hm0 : 0 ≤ n * q := Int.mul_nonneg n0 (by omega)
            have hm1 : n * q ≤ 255 * q := Int.mul_le_mul_of_nonneg_right (by omega) (by omega)
            rw [Option.bind_some, if_neg (by omega), show 4 - i - 1 = 3 - i by omega, hq, Option.map_map] at hA2
            simp -implicitDefEqProofs [go_sem, Tryz.f142, rPartC, t4, t5, t6, hlt, hg, hld, hpl, hpv, okV, he, c2, hlt2, hli, tn, ng, mn, hq, i64_n (show i < 1152921504606846976 by omega), w64 (x := 3 - (i : Int)) (by omega), w64 (x := 8 * (3 - (i : Int))) (by omega), wu64 (x := n * q) (by omega)]
            refine ih (i + 1, s + n * q) _ _ (by simp; omega) ⟨hlt, ?_⟩
            simp -implicitDefEqProofs [go_sem, t4, t5, t6, hg, he, i64_n (show i < 1152921504606846976 by omega), wu64 (x := s + n * q) (by omega)]
            refine ⟨by omega, fun _ => ⟨?_, ?_⟩, fun h => absurd h (by omega)⟩
            · rw [hq]; omega
            · rw [← hA2]
              congr 1; funext a; simp [Int.add_assoc]
    · have e : i = y.length := by omega
      obtain ⟨hB1, hB2⟩ := hB e
      simp -implicitDefEqProofs [go_sem, Tryz.f142, t4, t5, t6, hlt, hB1, okV, he, wu32m]
      omega
def rAddressC : Ct := fun args h => match args with | [.i .u32 a] => some (.s (textL a), h) | _ => none
theorem decI_nn {n : Int} (h : 0 ≤ n) : decI n = decD n.toNat := by rw [decI, if_neg (by omega)]
theorem decD_len (n : Nat) (h : n < 256) : (decD n).length ≤ 3 := by
  by_cases h0 : n = 0
  · subst h0; rw [decD]; simp
  · rw [decD_rev (by omega), List.length_reverse]; exact revD_len 3 n (by omega)
theorem and255 {c : Int} (h : 0 ≤ c ∧ c < 4294967296) : Go.bits .and .u32 c 255 = c % 256 :=
  bits_mask .u32 32 (by decide) (fun n h₀ h₁ => by rw [wu32m]; omega) 8 (by decide) c h.1 (by omega)
theorem rAddress_ok : CtOk Tryz.prog G0 143 rAddressC := by
  refine ct_plain (n := 1) fol (sound_cons rDecimal_ok sound_nil) (by kernel_rfl) Tryz.func143 rfl fun args h v h' hc r xs H hr hx => ?_
  unfold rAddressC at hc; split at hc <;> (try split at hc) <;> cases hc
  rename_i a
  obtain ⟨hb, _⟩ := int_of hx
  have hb : 0 ≤ a ∧ a < 4294967296 := by simpa [lo, hi, IntKind.signed, IntKind.bits] using hb
  refine ⟨rfl, rfl, by simp [renV, bndV], ?_⟩
  obtain ⟨d1, e1⟩ : ∃ d, decD (a / 16777216).toNat = d := ⟨_, rfl⟩
  obtain ⟨d2, e2⟩ : ∃ d, decD (a / 65536 % 256).toNat = d := ⟨_, rfl⟩
  obtain ⟨d3, e3⟩ : ∃ d, decD (a / 256 % 256).toNat = d := ⟨_, rfl⟩
  obtain ⟨d4, e4⟩ : ∃ d, decD (a % 256).toNat = d := ⟨_, rfl⟩
  have l1 := decD_len (a / 16777216).toNat (by omega)
  have l2 := decD_len (a / 65536 % 256).toNat (by omega)
  have l3 := decD_len (a / 256 % 256).toNat (by omega)
  have l4 := decD_len (a % 256).toNat (by omega)
  rw [e1] at l1; rw [e2] at l2; rw [e3] at l3; rw [e4] at l4
  have f1 : decI (a / 16777216 % 256) = d1 := by rw [decI_nn (by omega), ← e1]; congr 1; omega
  have f2 : decI (a / 65536 % 256) = d2 := by rw [decI_nn (by omega), ← e2]
  have f3 : decI (a / 256 % 256) = d3 := by rw [decI_nn (by omega), ← e3]
  have f4 : decI (a % 256) = d4 := by rw [decI_nn (by omega), ← e4]
  have ht : textL a = d1 ++ [46] ++ d2 ++ [46] ++ d3 ++ [46] ++ d4 := by rw [textL, e1, e2, e3, e4]
  rw [ht]
  have k1 : d1.length ≤ 281474976710656 := by omega
  have k2 : d1.length + 1 ≤ 281474976710656 := by omega
  have k3 : d1.length + 1 + d2.length ≤ 281474976710656 := by omega
  have k4 : d1.length + (d2.length + 1) + 1 ≤ 281474976710656 := by omega
  have k5 : d1.length + (d2.length + 1 + 1) + d3.length ≤ 281474976710656 := by omega
  have k6 : d1.length + (d2.length + (d3.length + 1) + 1) + 1 ≤ 281474976710656 := by omega
  have k7 : d1.length + (d2.length + (d3.length + 1 + 1) + 1) + d4.length ≤ 281474976710656 := by omega
  simp -implicitDefEqProofs [go_sem, Tryz.f143]
  rw [run_again]
  simp -implicitDefEqProofs [go_sem, Tryz.f143, rDecimalC, w64 (x := 24) (by omega), and255 (c := a / 16777216) (by omega), w64 (x := a / 16777216 % 256) (by omega), f1, k1, k2]
  rw [run_again]
  simp -implicitDefEqProofs [go_sem, Tryz.f143, rDecimalC, w64 (x := 2) (by omega), w64 (x := 16) (by omega), and255 (c := a / 65536) (by omega), w64 (x := a / 65536 % 256) (by omega), f2, k3, k4]
  rw [run_again]
  simp -implicitDefEqProofs [go_sem, Tryz.f143, rDecimalC, w64 (x := 1) (by omega), w64 (x := 8) (by omega), and255 (c := a / 256) (by omega), w64 (x := a / 256 % 256) (by omega), f3, k5, k6]
  rw [run_again]
  simp -implicitDefEqProofs [go_sem, Tryz.f143, rDecimalC, w64 (x := 0) (by omega), and255 (c := a) (by omega), w64 (x := a % 256) (by omega), f4, k7]
  rw [run_again]
  simp -implicitDefEqProofs [go_sem, Tryz.f143, w64 (x := -1) (by omega)]
end GoD

/-! Hosts and URLs' ports as the document answers them. -/
namespace GoD
open Go Go.Proofs
set_option linter.unusedVariables false
set_option linter.unusedSimpArgs false
set_option maxHeartbeats 4000000
set_option maxRecDepth 100000
def rIsAddressC : Ct := fun args h => match args with | [.s l] => if l.length ≤ 1048576 then some (.tup [.i .u32 (okV (addrL l)).1, .b (okV (addrL l)).2], h) else none | _ => none
theorem rIsAddress_ok : CtOk Tryz.prog G0 79 rIsAddressC := by
  refine ct_plain (n := 1) fol (sound_cons rNumber_ok (sound_cons rAddress_ok sound_nil)) (by kernel_rfl) Tryz.func79 rfl fun args h v h' hc r xs H hr hx => ?_
  unfold rIsAddressC at hc; split at hc <;> (try split at hc) <;> cases hc
  rename_i l hl
  refine ⟨rfl, rfl, by simp [renV, bndV, renL, bndL], ?_⟩
  cases hn : numberL l with
  | none => simp -implicitDefEqProofs [go_sem, Tryz.f79, rNumberC, rAddressC, hl, hn, okV, addrL]
  | some n =>
    by_cases h1 : textL n = l
    · simp -implicitDefEqProofs [go_sem, Tryz.f79, rNumberC, rAddressC, hl, hn, okV, addrL, h1]
    · simp -implicitDefEqProofs [go_sem, Tryz.f79, rNumberC, rAddressC, hl, hn, okV, addrL, h1]
def rNumericC : Ct := fun args h => match args with | [.s l] => if l.length ≤ 1048576 then some (.b (numericB ((partsL l).getLastD [])), h) else none | _ => none
theorem hexv_x : hexv 120 = -1 := rfl
theorem hexv_X : hexv 88 = -1 := rfl
theorem rNumeric_ok : CtOk Tryz.prog G0 188 rNumericC := by
  refine ct_plain (n := 1) fol (sound_cons rParts_ok (sound_cons rDigits_ok sound_nil)) (by kernel_rfl) Tryz.func188 rfl fun args h v h' hc r xs H hr hx => ?_
  unfold rNumericC at hc; split at hc <;> (try split at hc) <;> cases hc
  rename_i l hl
  refine ⟨rfl, rfl, by simp [renV, bndV, renL, bndL], ?_⟩
  obtain ⟨z, hz⟩ : ∃ z, splitL 46 l = z := ⟨_, rfl⟩
  obtain ⟨y, hy⟩ : ∃ y, partsL l = y := ⟨_, rfl⟩
  have hyz : y = z.take y.length := by rw [← hy, ← hz]; exact partsL_take l
  have hy0 : y ≠ [] := hy ▸ partsL_ne l
  have hyl : y.length ≤ z.length := by have := congrArg List.length hyz; simp at this; omega
  have hyl2 : y.length ≤ 1048577 := by have := partsL_len l; rw [hy] at this; omega
  obtain ⟨n, hyn⟩ : ∃ n, y.length = n + 1 := ⟨y.length - 1, by have := List.length_pos_iff.2 hy0; omega⟩
  have hn1 : n < z.length := by omega
  obtain ⟨p, hp⟩ : ∃ p, z[n] = p := ⟨_, rfl⟩
  have hlast : y.getLastD [] = p := by
    rw [List.getLastD_eq_getLast?, List.getLast?_eq_getElem?, hyn, Nat.add_sub_cancel, List.getElem?_eq_getElem (by omega), List.getElem_of_eq hyz (by omega), List.getElem_take, hp]; rfl
  have hld := ldN_s1 hn1
  rw [hp] at hld
  rw [hy, hlast]
  have c4 : (n : Int) < (n : Int) + 1 := by omega
  by_cases hd : digitsB 10 p = true ∧ p ≠ []
  · have : numericB p = true := by
      unfold numericB
      rcases p with _ | ⟨a, _ | ⟨b, r⟩⟩
      · exact absurd rfl hd.2
      · simpa [hexP] using hd.1
      · have h2 := hd.1
        rw [digitsB_cons, digitsB_cons] at h2
        simp only [Bool.and_eq_true, decide_eq_true_eq] at h2
        have hb : hexP (a :: b :: r) = false := by
          show (a == 48 && (b == 120 || b == 88)) = false
          cases h3 : (b == 120 || b == 88) with
          | false => rw [Bool.and_false]
          | true =>
            simp at h3
            rcases h3 with h3 | h3
            · rw [h3, hexv_x] at h2; omega
            · rw [h3, hexv_X] at h2; omega
        rw [hb, if_neg (by simp), hd.1]; simp
    rw [this]
    simp -implicitDefEqProofs [go_sem, Tryz.f188, rPartsC, rDigitsC, hl, hy, hz, hyn, hld, c4, hd.1, hd.2, w64 (x := (n : Int)) (by omega)]
  · have hd' : (digitsB 10 p && !decide (p = [])) = false := by
      cases h1 : digitsB 10 p with
      | false => rfl
      | true =>
        simp only [Bool.true_and, Bool.not_eq_false', decide_eq_true_eq]
        exact Decidable.byContradiction fun h => hd ⟨h1, h⟩
    rcases p with _ | ⟨a, _ | ⟨b, r⟩⟩
    · simp -implicitDefEqProofs [go_sem, Tryz.f188, rPartsC, rDigitsC, hl, hy, hz, hyn, hld, c4, hd', w64 (x := (n : Int)) (by omega)]
      rfl
    · simp at hd'
      simp -implicitDefEqProofs [go_sem, Tryz.f188, rPartsC, rDigitsC, hl, hy, hz, hyn, hld, c4, hd', w64 (x := (n : Int)) (by omega), numericB, hexP]
    · have k1 : (2 : Int) ≤ (r.length : Int) + 1 + 1 := by omega
      have k2 : (0 : Int) < (r.length : Int) + 1 + 1 := by omega
      have k3 : (1 : Int) < (r.length : Int) + 1 + 1 := by omega
      simp at hd'
      by_cases e0 : a = 48
      · by_cases e1 : b = 120 ∨ b = 88
        · by_cases hr0 : r = []
          · rcases e1 with e1 | e1 <;> simp -implicitDefEqProofs [go_sem, Tryz.f188, rPartsC, rDigitsC, hl, hy, hz, hyn, hld, c4, hd', w64 (x := (n : Int)) (by omega), numericB, hexP, e0, e1, k1, k2, k3, hr0] <;> rfl
          · have k5 : ¬ (r.length : Int) + 1 + 1 = 2 := by have := List.length_pos_iff.2 hr0; omega
            subst e0
            rcases e1 with e1 | e1
            all_goals
              subst e1
              simp -implicitDefEqProofs [go_sem, Tryz.f188, rPartsC, rDigitsC, hl, hy, hz, hyn, hld, c4, hd', w64 (x := (n : Int)) (by omega), numericB, hexP, k1, k2, k3, k5, hr0]
        · have e2 := not_or.1 e1
          simp -implicitDefEqProofs [go_sem, Tryz.f188, rPartsC, rDigitsC, hl, hy, hz, hyn, hld, c4, hd', w64 (x := (n : Int)) (by omega), numericB, hexP, e0, e2.1, e2.2, k1, k2, k3]
      · simp -implicitDefEqProofs [go_sem, Tryz.f188, rPartsC, rDigitsC, hl, hy, hz, hyn, hld, c4, hd', w64 (x := (n : Int)) (by omega), numericB, hexP, e0, k1, k2, k3]
def defaultL (l : List Int) : Int × Bool := if l = [104, 116, 116, 112] ∨ l = [119, 115] then (80, true) else if l = [104, 116, 116, 112, 115] ∨ l = [119, 115, 115] then (443, true) else if l = [102, 116, 112] then (21, true) else (0, false)
def rDefaultC : Ct := fun args h => match args with | [.s l] => some (.tup [.i .i64 (defaultL l).1, .b (defaultL l).2], h) | _ => none
theorem rDefault_ok : CtOk Tryz.prog G0 54 rDefaultC := by
  refine ct_plain (n := 1) fol sound_nil (by kernel_rfl) Tryz.func54 rfl fun args h v h' hc r xs H hr hx => ?_
  unfold rDefaultC at hc; split at hc <;> (try split at hc) <;> cases hc
  rename_i l
  refine ⟨rfl, rfl, by simp [renV, bndV, renL, bndL], ?_⟩
  by_cases h1 : l = [104, 116, 116, 112]
  · simp -implicitDefEqProofs [go_sem, Tryz.f54, defaultL, h1]
  by_cases h2 : l = [119, 115]
  · simp -implicitDefEqProofs [go_sem, Tryz.f54, defaultL, h2]
  by_cases h3 : l = [104, 116, 116, 112, 115]
  · simp -implicitDefEqProofs [go_sem, Tryz.f54, defaultL, h3]
  by_cases h4 : l = [119, 115, 115]
  · simp -implicitDefEqProofs [go_sem, Tryz.f54, defaultL, h4]
  by_cases h5 : l = [102, 116, 112]
  · simp -implicitDefEqProofs [go_sem, Tryz.f54, defaultL, h5]
  · simp -implicitDefEqProofs [go_sem, Tryz.f54, defaultL, h1, h2, h3, h4, h5]
end GoD
