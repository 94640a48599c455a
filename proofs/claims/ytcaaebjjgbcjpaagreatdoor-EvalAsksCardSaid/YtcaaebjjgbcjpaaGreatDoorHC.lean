import Derived.Test.YtcaaebjjgbcjpaaGreatDoorHB
import Derived.Test.YtcaaebjjgbcjpaaGreatDoorPF
import Derived.Test.YtcaaebjjgbcjpaaGreatDoorEN
/-! Hosts as the program reads them; addresses written in three bases. -/
namespace GoD
open Go Go.Proofs
set_option linter.unusedVariables false
set_option linter.unusedSimpArgs false
set_option maxHeartbeats 4000000
set_option maxRecDepth 100000
theorem idx_mem (c : Int) : ∀ l : List Int, 0 ≤ idxL c l ↔ c ∈ l
  | [] => by simp [idxL]
  | b :: l => by
    have ih := idx_mem c l
    have hg := idxL_ge c l
    rw [idxL, List.mem_cons]
    by_cases h1 : b = c
    · simp [h1]
    · rw [if_neg h1]
      by_cases h2 : idxL c l = -1
      · rw [if_pos h2]
        constructor
        · intro h; omega
        · rintro (h | h)
          · exact absurd h.symm h1
          · have := ih.2 h; omega
      · rw [if_neg h2]
        constructor
        · intro h; exact .inr (ih.1 (by omega))
        · rintro (h | h)
          · exact absurd h.symm h1
          · have := ih.2 h; omega
theorem forb_idx (c : Int) : forbB c = (decide (c ≤ 32) || decide (127 ≤ c) || decide (0 ≤ idxL c [35, 37, 47, 58, 60, 62, 63, 64, 91, 92, 93, 94, 124])) := by
  unfold forbB
  rw [List.contains_eq_mem]
  congr 1
  exact decide_eq_decide.2 (idx_mem c _).symm
def pForbC : Ct := fun args h => match args with | [.i .u8 c] => some (.b (forbB c), h) | _ => none
theorem pForb_ok : CtOk Tryz.prog G0 240 pForbC := by
  refine ct_plain (n := 1) fol (sound_cons pIdx2_ok sound_nil) (by kernel_rfl) Tryz.func240 rfl fun args h v h' hc r xs H hr hx => ?_
  unfold pForbC at hc; split at hc <;> (try split at hc) <;> cases hc
  rename_i c
  refine ⟨rfl, rfl, by simp [renV, bndV], ?_⟩
  rw [forb_idx]
  by_cases c1 : c ≤ 32
  · simp -implicitDefEqProofs [go_sem, Tryz.f240, c1]
  · by_cases c2 : 127 ≤ c
    · simp -implicitDefEqProofs [go_sem, Tryz.f240, c1, c2]
    · simp -implicitDefEqProofs [go_sem, Tryz.f240, c1, c2, pIdx2C]
def pNumericHC : Ct := fun args h => match args with | [.s l] => some (.b (numericB l), h) | _ => none
theorem pNumericH_ok : CtOk Tryz.prog G0 242 pNumericHC := by
  refine ct_plain (n := 1) fol (sound_cons pHex_ok (sound_cons pHDigits_ok sound_nil)) (by kernel_rfl) Tryz.func242 rfl fun args h v h' hc r xs H hr hx => ?_
  unfold pNumericHC at hc; split at hc <;> (try split at hc) <;> cases hc
  rename_i l
  refine ⟨rfl, rfl, by simp [renV, bndV], ?_⟩
  unfold numericB
  by_cases c1 : hexP l = true
  · simp -implicitDefEqProofs [go_sem, Tryz.f242, pHexC, hexAns, c1, pHDigitsC]
  · by_cases c2 : l = []
    · subst c2; simp -implicitDefEqProofs [go_sem, Tryz.f242, pHexC, hexAns, pHDigitsC, hexP]
    · have c2' : l.isEmpty = false := by cases l with | nil => exact absurd rfl c2 | cons _ _ => rfl
      simp -implicitDefEqProofs [go_sem, Tryz.f242, pHexC, hexAns, c1, c2, c2', pHDigitsC]
def pHParseC : Ct := fun args h => match args with | [.s l] => if l.length ≤ 1048576 then some (hostV (hostL l), h) else none | _ => none
theorem pHParse_ok : CtOk Tryz.prog G0 177 pHParseC := by
  refine ct_plain (n := 1) fol (sound_cons pDecode_ok (sound_cons pLower_ok (sound_cons pForb_ok (sound_cons pParts_ok (sound_cons pNumericH_ok (sound_cons pNumber_ok (sound_cons pText_ok sound_nil))))))) (by kernel_rfl) Tryz.func177 rfl fun args h v h' hc r xs H hr hx => ?_
  unfold pHParseC at hc; split at hc <;> (try split at hc) <;> cases hc
  rename_i l hl
  refine ⟨rfl, rfl, hostV_flat _ _, ?_⟩
  obtain ⟨d, hd⟩ : ∃ d, lowerL (decodeL l) = d := ⟨_, rfl⟩
  have hl2 : (decodeL l).length ≤ 1048576 := Nat.le_trans (decodeL_len l) hl
  have hdl : d.length ≤ 1048576 := by rw [← hd]; simpa [lowerL] using hl2
  have hdl' : d.length ≤ 281474976710656 := by omega
  by_cases h0 : d = []
  · have : hostL l = none := by unfold hostL; rw [hd, if_pos (.inl h0)]
    rw [this]
    simp -implicitDefEqProofs [go_sem, Tryz.f177, pDecodeC, pLowerC, hl, hl2, hd, h0, hostV]
  · have h0' : d.isEmpty = false := by cases d with | nil => exact absurd rfl h0 | cons _ _ => rfl
    have hres : hostL l = if d.any forbB = true then none else if numericB ((partsL d).getLastD []) then (numberL d).map textL else some d := by
      unfold hostL; rw [hd]
      by_cases h1 : d.any forbB = true
      · rw [if_pos (.inr h1), if_pos h1]
      · rw [if_neg (by simp only [not_or]; exact ⟨h0, h1⟩), if_neg h1]
    obtain ⟨res, hE⟩ : ∃ x, hostL l = x := ⟨_, rfl⟩
    rw [hE] at hres ⊢
    simp -implicitDefEqProofs [go_sem, Tryz.f177, pDecodeC, pLowerC, hl, hl2, hd, h0, h0']
    refine run_inv _ _ _ _ _ (fun (i : Nat) t h1 => i ≤ d.length ∧ get t 4 = .s d ∧ get t 15 = .i .i64 d.length ∧ get t 16 = .i .i64 i ∧ (d.drop i).any forbB = d.any forbB ∧ Ext h h1) (fun i => d.length - i) _ (x := 0) ⟨by simp, by simp -implicitDefEqProofs [go_sem], by simp -implicitDefEqProofs [go_sem], by simp -implicitDefEqProofs [go_sem], rfl, Ext.refl h⟩ ?_
    rintro i t h1 ⟨hi, t4, t15, t16, ha, he⟩ ih
    by_cases hlt : i < d.length
    · obtain ⟨c, hc⟩ : ∃ c, d[i] = c := ⟨_, rfl⟩
      rw [List.drop_eq_getElem_cons hlt, hc, List.any_cons] at ha
      cases c1 : forbB c with
      | true =>
        rw [c1, Bool.true_or] at ha
        rw [if_pos ha.symm] at hres; subst hres
        simp -implicitDefEqProofs [go_sem, Tryz.f177, t4, t15, t16, hlt, hc, pForbC, c1, he, hostV]
      | false =>
        rw [c1, Bool.false_or] at ha
        simp -implicitDefEqProofs [go_sem, Tryz.f177, t4, t15, t16, hlt, hc, pForbC, c1]
        refine ih (i + 1) _ _ (by omega) ⟨by omega, ?_⟩
        simp -implicitDefEqProofs [go_sem, t4, t15, t16, i64_1 hdl' hlt, he, -List.any_eq_true]
        exact ha
    · have e0 : d.drop i = [] := List.drop_eq_nil_of_le (by omega)
      rw [e0] at ha
      have hf : d.any forbB = false := ha.symm
      rw [hf, if_neg (by simp)] at hres
      obtain ⟨z, hz⟩ : ∃ z, splitL 46 d = z := ⟨_, rfl⟩
      obtain ⟨y, hy⟩ : ∃ y, partsL d = y := ⟨_, rfl⟩
      have hyz : y = z.take y.length := by rw [← hy, ← hz]; exact partsL_take d
      have hy0 : y ≠ [] := hy ▸ partsL_ne d
      obtain ⟨n, hn⟩ : ∃ n, y.length = n + 1 := ⟨y.length - 1, by have := List.length_pos_iff.2 hy0; omega⟩
      have hnz : n < z.length := by have := congrArg List.length hyz; simp at this; omega
      have hnl : z.length ≤ 1048577 := by rw [← hz]; have := splitL_len 46 d; omega
      obtain ⟨p, hp⟩ : ∃ p, z[n] = p := ⟨_, rfl⟩
      have hlast : y.getLastD [] = p := by
        have hny : n < y.length := by omega
        have e1 : y[n] = p := by
          rw [← hp]
          have h2 : y[n]? = z[n]? := by
            conv => lhs; rw [hyz]
            rw [List.getElem?_take_of_lt (by omega)]
          rw [List.getElem?_eq_getElem hny, List.getElem?_eq_getElem hnz] at h2
          exact Option.some.inj h2
        rw [List.getLastD_eq_getLast?, List.getLast?_eq_getElem?, hn, Nat.add_sub_cancel, List.getElem?_eq_getElem hny, e1]; rfl
      rw [hy, hlast] at hres
      have c4 : (n : Int) + 1 - 1 = n := by omega
      have c3 : (n : Int) < (n : Int) + 1 := by omega
      have c6 : n < n + 1 := by omega
      cases hnb : numericB p with
      | false =>
        rw [hnb] at hres; simp at hres; subst hres
        simp -implicitDefEqProofs [go_sem, Tryz.f177, t4, t15, t16, hlt, pPartsC, hdl, hy, hz, hn, c3, c4, c6, w64 (x := (n : Int)) (by omega), ldN_s1 hnz, hp, pNumericHC, hnb, hostV, he]
      | true =>
        cases hnm : numberL d with
        | none =>
          rw [hnb, hnm] at hres; simp at hres; subst hres
          simp -implicitDefEqProofs [go_sem, Tryz.f177, t4, t15, t16, hlt, pPartsC, hdl, hy, hz, hn, c3, c4, c6, w64 (x := (n : Int)) (by omega), ldN_s1 hnz, hp, pNumericHC, hnb, pNumberC, hnm, okV, hostV, he]
        | some v =>
          rw [hnb, hnm] at hres; simp at hres; subst hres
          simp -implicitDefEqProofs [go_sem, Tryz.f177, t4, t15, t16, hlt, pPartsC, hdl, hy, hz, hn, c3, c4, c6, w64 (x := (n : Int)) (by omega), ldN_s1 hnz, hp, pNumericHC, hnb, pNumberC, hnm, okV, pTextC, hostV, he]
theorem digs_len {b : Nat} (h2 : 2 ≤ b) : ∀ (k n : Nat), n < 2 ^ (k + 1) → (digsB b n).length ≤ k + 1
  | 0, n, h => by
    unfold digsB
    rw [dif_pos (.inl (by omega))]; simp
  | k + 1, n, h => by
    unfold digsB
    split
    · simp
    · have h3 : n / b ≤ n / 2 := Nat.div_le_div_left h2 (by omega)
      have h4 : n < 2 * 2 ^ (k + 1) := by rw [Nat.pow_succ] at h; omega
      have := digs_len h2 k (n / b) (by omega)
      simp; omega
theorem wr_len {k x : Int} {n : Nat} (h : n < 4294967296) : (wrB k x n).length ≤ 34 := by
  have key : ∀ b, 2 ≤ b → (digsB b n).length ≤ 32 := fun b hb => digs_len hb 31 n (by omega)
  have h10 := key 10 (by omega)
  have h8 := key 8 (by omega)
  have h16 := key 16 (by omega)
  unfold wrB
  split
  · omega
  · split <;> simp <;> omega
theorem hexD_dg : ∀ (d : Nat) (h : d < 16), ([48, 49, 50, 51, 52, 53, 54, 55, 56, 57, 97, 98, 99, 100, 101, 102] : List Int)[d] = dgB d := by decide
theorem digs_step {b n : Nat} (h : b ≤ n) (h2 : 2 ≤ b) : digsB b n = digsB b (n / b) ++ [dgB (n % b)] := by
  conv => lhs; unfold digsB
  rw [dif_neg (by omega)]
theorem digs_last {b n : Nat} (h : n < b) : digsB b n = [dgB n] := by
  unfold digsB
  rw [dif_pos (.inl h)]
def pDgC : Ct := fun args h => match args with | [.i .u32 n, .i .u32 b] => if 2 ≤ b ∧ b ≤ 16 then some (.s (digsB b.toNat n.toNat), h) else none | _ => none
end GoD
