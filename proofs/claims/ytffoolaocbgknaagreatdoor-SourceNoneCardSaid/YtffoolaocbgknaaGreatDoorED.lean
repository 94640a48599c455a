import Derived.Test.YtffoolaocbgknaaGreatDoorEC
/-! Decimals as the document answers them. -/
namespace GoD
open Go Go.Proofs
set_option linter.unusedVariables false
set_option linter.unusedSimpArgs false
set_option maxHeartbeats 4000000
set_option maxRecDepth 100000
def revD (n : Nat) : List Int := if h : n = 0 then [] else (48 + ((n % 10 : Nat) : Int)) :: revD (n / 10)
theorem revD_0 : revD 0 = [] := by rw [revD]; simp
theorem revD_s {n : Nat} (h : 0 < n) : revD n = (48 + ((n % 10 : Nat) : Int)) :: revD (n / 10) := by rw [revD, dif_neg (by omega)]
theorem revD_len : ∀ (k n : Nat), n < 10 ^ k → (revD n).length ≤ k
  | 0, n, h => by have : n = 0 := by simpa using h
                  subst this; simp [revD_0]
  | k + 1, n, h => by
    by_cases h0 : n = 0
    · subst h0; simp [revD_0]
    · rw [revD_s (by omega)]
      have := revD_len k (n / 10) (by rw [Nat.pow_succ] at h; omega)
      simp; omega
theorem decD_rev {n : Nat} (h : 0 < n) : decD n = (revD n).reverse := by
  induction n using Nat.strongRecOn with
  | _ n ih =>
    rw [decD, revD_s h]
    split
    · rename_i h1
      rw [Nat.div_eq_of_lt h1, revD_0, Nat.mod_eq_of_lt h1]; rfl
    · rename_i h1
      rw [ih (n / 10) (by omega) (by omega)]; simp
/-- a number as a text -/
def decI (n : Int) : List Int := if n < 0 then 45 :: decD (-n).toNat else decD n.toNat
theorem tdiv10 (u : Nat) : (u : Int).tdiv 10 = ((u / 10 : Nat) : Int) := rfl
theorem tmod10 (u : Nat) : (u : Int).tmod 10 = ((u % 10 : Nat) : Int) := rfl
theorem wu64m (x : Int) : IntKind.u64.wrap x = x % 18446744073709551616 := by unfold IntKind.wrap; simp [IntKind.signed, IntKind.bits]
theorem wu32m (x : Int) : IntKind.u32.wrap x = x % 4294967296 := by unfold IntKind.wrap; simp [IntKind.signed, IntKind.bits]
theorem ldN_b1 {l : List Int} {i : Nat} (h : i < l.length) : ldN (bts l) i 1 = some [.i .u8 l[i]] := by
  have h2 : i < (bts l).length := by rw [bts_len]; exact h
  rw [ldN, if_pos (by omega), List.drop_eq_getElem_cons h2]
  simp [bts]
theorem wu64 {x : Int} (h : 0 ≤ x ∧ x < 18446744073709551616) : IntKind.u64.wrap x = x := by rw [wrap_iff]; simpa [lo, hi, IntKind.signed, IntKind.bits] using h
def rDecimalC : Ct := fun args h => match args with | [.i .i64 n] => some (.s (decI n), h) | _ => none
theorem rDecimal_ok : CtOk Tryz.prog G0 102 rDecimalC := by
  refine ct_plain (n := 1) fol sound_nil (by kernel_rfl) Tryz.func102 rfl fun args h v h' hc r xs H hr hx => ?_
  unfold rDecimalC at hc; split at hc <;> (try split at hc) <;> cases hc
  rename_i n
  obtain ⟨hb, _⟩ := int_of hx
  have hb : -9223372036854775808 ≤ n ∧ n < 9223372036854775808 := by simpa [lo, hi, IntKind.signed, IntKind.bits] using hb
  refine ⟨rfl, rfl, by simp [renV, bndV], ?_⟩
  by_cases h0 : n = 0
  · subst h0
    simp -implicitDefEqProofs [go_sem, Tryz.f102]
    decide +kernel
  obtain ⟨u, hu⟩ : ∃ u : Nat, u = n.natAbs := ⟨_, rfl⟩
  have hu0 : 0 < u := by omega
  have hul : (revD u).length ≤ 20 := revD_len 20 u (by omega)
  have hres : decI n = (if n < 0 then [45] else []) ++ (revD u).reverse := by
    unfold decI
    by_cases hn : n < 0
    · rw [if_pos hn, if_pos hn, show (-n).toNat = u by omega, decD_rev hu0]; rfl
    · rw [if_neg hn, if_neg hn, show n.toNat = u by omega, decD_rev hu0]; rfl
  rw [hres]
  by_cases hn : n < 0
  · have w1 : IntKind.u64.wrap (-IntKind.u64.wrap n) = (u : Int) := by rw [wu64m, wu64m]; omega
    simp -implicitDefEqProofs [go_sem, Tryz.f102, h0, hn, w1]
    clear w1
    refine run_inv _ _ _ _ _ (fun (x : Nat × Nat × List Int) t h1 => get t 0 = .i .i64 n ∧ get t 3 = .i .u64 x.1 ∧ get t 4 = .sl x.2.1 0 x.2.2.length 1 ∧ hget h1 x.2.1 = ⟨2, false, bts x.2.2⟩ ∧ h.length ≤ x.2.1 ∧ x.2.1 < h1.length ∧ Ext h h1 ∧ x.1 ≤ u ∧ x.2.2 ++ revD x.1 = revD u) (fun x => x.1) _ (x := (u, h.length, [])) ⟨rfl, rfl, rfl, by simp -implicitDefEqProofs [go_sem, bts_nil], by simp, by simp, by simp -implicitDefEqProofs [go_sem], by simp, by simp⟩ ?_
    rintro ⟨v, m, acc⟩ t h1 ⟨t0, t3, t4, hg, hm, hm', he, hv, ha⟩ ih
    simp only at t0 t3 t4 hg hm hm' hv ha
    have hal' : acc.length ≤ 20 := by have := congrArg List.length ha; simp at this; omega
    have hal : acc.length + 1 ≤ 1099511627776 := by omega
    have hmn : m ≠ h1.length := by omega
    by_cases h3 : 0 < v
    · have q3 := wu64 (x := 48 + (v : Int) % 10) (by omega)
      have q4 := wu64 (x := (v : Int) / 10) (by omega)
      have d1 : (48 + ((v : Int) % 10)) % 256 = 48 + (v : Int) % 10 := by omega
      simp -implicitDefEqProofs [go_sem, Tryz.f102, t0, t3, t4, h3, hg, hm', ldN_b rfl, hal, hmn, tmod10, tdiv10]
      refine ih (v / 10, h1.length + 1, acc ++ [48 + (v : Int) % 10]) _ _ (by simp; omega) ?_
      simp -implicitDefEqProofs [go_sem, t0, t3, t4, q3, q4, d1, he, hm]
      clear q3 q4
      refine ⟨by omega, by omega, ?_⟩
      rw [← ha, revD_s h3]; rfl
    · have hv0 : v = 0 := by omega
      subst hv0
      rw [revD_0, List.append_nil] at ha
      rw [← ha]
      have q5 := w64 (x := (acc.length : Int) - 1) (by omega)
      have hmn1 : m ≠ h1.length + 1 := by omega
      have hmn2 : m ≠ h1.length + 2 := by omega
      simp -implicitDefEqProofs [go_sem, Tryz.f102, t0, t3, t4, hn, hg, hm', ldN_b rfl, hmn]
      rw [q5]; clear q5
      refine run_inv _ _ _ _ _ (fun (x : Nat × Nat × List Int) t h2 => get t 6 = .i .i64 ((x.1 : Int) - 1) ∧ get t 4 = .sl m 0 acc.length 1 ∧ get t 5 = .sl x.2.1 0 x.2.2.length 1 ∧ hget h2 m = ⟨2, false, bts acc⟩ ∧ hget h2 x.2.1 = ⟨2, false, bts x.2.2⟩ ∧ h.length ≤ x.2.1 ∧ x.2.1 < h2.length ∧ m < x.2.1 ∧ Ext h h2 ∧ x.1 ≤ acc.length ∧ x.2.2.length ≤ 21 - x.1 ∧ x.2.2 ++ (acc.take x.1).reverse = 45 :: acc.reverse) (fun x => x.1) _ (x := (acc.length, h1.length + 2, [45])) ⟨by simp -implicitDefEqProofs [go_sem], by simp -implicitDefEqProofs [go_sem, t4], by simp -implicitDefEqProofs [go_sem], by simp -implicitDefEqProofs [go_sem, hg, hm', hmn, hmn1, hmn2], by simp -implicitDefEqProofs [go_sem, bts], by simp <;> omega, by simp, by simp <;> omega, by simp -implicitDefEqProofs [go_sem, he], by simp, by simp <;> omega, by simp⟩ ?_
      rintro ⟨k, m2, out⟩ t h2 ⟨t6, t4, t5, hg1, hg2, hm2, hm2', hmm, he2, hk, hol, ho⟩ ih
      simp only at t6 t4 t5 hg1 hg2 hm2 hm2' hmm hk hol ho
      have hmn1 : m ≠ h2.length := by omega
      have hmn2 : m2 ≠ h2.length := by omega
      have hmn3 : m ≠ m2 := by omega
      have hmn4 : m2 ≠ m := by omega
      have hm1' : m < h2.length := by omega
      have hol2 : out.length + 1 ≤ 1099511627776 := by omega
      cases k with
      | zero =>
        simp at t6 ho
        simp -implicitDefEqProofs [go_sem, Tryz.f102, t6, t4, t5, hg2, hm2', ldN_b rfl, he2]
        exact ho
      | succ j =>
        have t6 : get t 6 = .i .i64 (j : Int) := by rw [t6]; congr 1; omega
        have hj : j < acc.length := by omega
        have q6 := w64 (x := (j : Int) - 1) (by omega)
        obtain ⟨d, hd⟩ : ∃ d, acc[j] = d := ⟨_, rfl⟩
        simp -implicitDefEqProofs [go_sem, Tryz.f102, t6, t4, t5, hg1, hg2, hm2', hm1', hmn1, hmn2, hmn3, hmn4, ldN_b rfl, ldN_b1 hj, hd, hj, hol2]
        refine ih (j, h2.length + 1, out ++ [d]) _ _ (by simp) ?_
        simp -implicitDefEqProofs [go_sem, t6, t4, t5, q6, he2, hg1, hg2, hmn1, hmn3, hmn4, hm2, hm1']
        clear q6
        refine ⟨by omega, by omega, by omega, by omega, ?_⟩
        rw [← ho, List.take_succ_eq_append_getElem hj, hd]; simp
  · have w1 : IntKind.u64.wrap n = (u : Int) := by rw [wu64m]; omega
    simp -implicitDefEqProofs [go_sem, Tryz.f102, h0, hn, w1]
    clear w1
    refine run_inv _ _ _ _ _ (fun (x : Nat × Nat × List Int) t h1 => get t 0 = .i .i64 n ∧ get t 3 = .i .u64 x.1 ∧ get t 4 = .sl x.2.1 0 x.2.2.length 1 ∧ hget h1 x.2.1 = ⟨2, false, bts x.2.2⟩ ∧ h.length ≤ x.2.1 ∧ x.2.1 < h1.length ∧ Ext h h1 ∧ x.1 ≤ u ∧ x.2.2 ++ revD x.1 = revD u) (fun x => x.1) _ (x := (u, h.length, [])) ⟨rfl, rfl, rfl, by simp -implicitDefEqProofs [go_sem, bts_nil], by simp, by simp, by simp -implicitDefEqProofs [go_sem], by simp, by simp⟩ ?_
    rintro ⟨v, m, acc⟩ t h1 ⟨t0, t3, t4, hg, hm, hm', he, hv, ha⟩ ih
    simp only at t0 t3 t4 hg hm hm' hv ha
    have hal' : acc.length ≤ 20 := by have := congrArg List.length ha; simp at this; omega
    have hal : acc.length + 1 ≤ 1099511627776 := by omega
    have hmn : m ≠ h1.length := by omega
    by_cases h3 : 0 < v
    · have q3 := wu64 (x := 48 + (v : Int) % 10) (by omega)
      have q4 := wu64 (x := (v : Int) / 10) (by omega)
      have d1 : (48 + ((v : Int) % 10)) % 256 = 48 + (v : Int) % 10 := by omega
      simp -implicitDefEqProofs [go_sem, Tryz.f102, t0, t3, t4, h3, hg, hm', ldN_b rfl, hal, hmn, tmod10, tdiv10]
      refine ih (v / 10, h1.length + 1, acc ++ [48 + (v : Int) % 10]) _ _ (by simp; omega) ?_
      simp -implicitDefEqProofs [go_sem, t0, t3, t4, q3, q4, d1, he, hm]
      clear q3 q4
      refine ⟨by omega, by omega, ?_⟩
      rw [← ha, revD_s h3]; rfl
    · have hv0 : v = 0 := by omega
      subst hv0
      rw [revD_0, List.append_nil] at ha
      rw [← ha]
      have q5 := w64 (x := (acc.length : Int) - 1) (by omega)
      have hmn1 : m ≠ h1.length + 1 := by omega
      have hmn2 : m ≠ h1.length + 2 := by omega
      simp -implicitDefEqProofs [go_sem, Tryz.f102, t0, t3, t4, hn, hg, hm', ldN_b rfl, hmn]
      rw [q5]; clear q5
      refine run_inv _ _ _ _ _ (fun (x : Nat × Nat × List Int) t h2 => get t 6 = .i .i64 ((x.1 : Int) - 1) ∧ get t 4 = .sl m 0 acc.length 1 ∧ get t 5 = .sl x.2.1 0 x.2.2.length 1 ∧ hget h2 m = ⟨2, false, bts acc⟩ ∧ hget h2 x.2.1 = ⟨2, false, bts x.2.2⟩ ∧ h.length ≤ x.2.1 ∧ x.2.1 < h2.length ∧ m < x.2.1 ∧ Ext h h2 ∧ x.1 ≤ acc.length ∧ x.2.2.length ≤ 21 - x.1 ∧ x.2.2 ++ (acc.take x.1).reverse = acc.reverse) (fun x => x.1) _ (x := (acc.length, h1.length, [])) ⟨by simp -implicitDefEqProofs [go_sem], by simp -implicitDefEqProofs [go_sem, t4], by simp -implicitDefEqProofs [go_sem], by simp -implicitDefEqProofs [go_sem, hg, hm', hmn, hmn1, hmn2], by simp -implicitDefEqProofs [go_sem, bts], by simp <;> omega, by simp, by simp <;> omega, by simp -implicitDefEqProofs [go_sem, he], by simp, by simp <;> omega, by simp⟩ ?_
      rintro ⟨k, m2, out⟩ t h2 ⟨t6, t4, t5, hg1, hg2, hm2, hm2', hmm, he2, hk, hol, ho⟩ ih
      simp only at t6 t4 t5 hg1 hg2 hm2 hm2' hmm hk hol ho
      have hmn1 : m ≠ h2.length := by omega
      have hmn2 : m2 ≠ h2.length := by omega
      have hmn3 : m ≠ m2 := by omega
      have hmn4 : m2 ≠ m := by omega
      have hm1' : m < h2.length := by omega
      have hol2 : out.length + 1 ≤ 1099511627776 := by omega
      cases k with
      | zero =>
        simp at t6 ho
        simp -implicitDefEqProofs [go_sem, Tryz.f102, t6, t4, t5, hg2, hm2', ldN_b rfl, he2]
        exact ho
      | succ j =>
        have t6 : get t 6 = .i .i64 (j : Int) := by rw [t6]; congr 1; omega
        have hj : j < acc.length := by omega
        have q6 := w64 (x := (j : Int) - 1) (by omega)
        obtain ⟨d, hd⟩ : ∃ d, acc[j] = d := ⟨_, rfl⟩
        simp -implicitDefEqProofs [go_sem, Tryz.f102, t6, t4, t5, hg1, hg2, hm2', hm1', hmn1, hmn2, hmn3, hmn4, ldN_b rfl, ldN_b1 hj, hd, hj, hol2]
        refine ih (j, h2.length + 1, out ++ [d]) _ _ (by simp) ?_
        simp -implicitDefEqProofs [go_sem, t6, t4, t5, q6, he2, hg1, hg2, hmn1, hmn3, hmn4, hm2, hm1']
        clear q6
        refine ⟨by omega, by omega, by omega, by omega, ?_⟩
        rw [← ho, List.take_succ_eq_append_getElem hj, hd]; simp
end GoD
