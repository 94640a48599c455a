import Derived.Test.YtffoolaocbgknaaGreatDoorLA
/-! Chapter 15's laws. -/
namespace GoD
open Go Go.Proofs
set_option linter.unusedVariables false
set_option linter.unusedSimpArgs false
set_option maxHeartbeats 2000000
set_option maxRecDepth 100000
def aw1 : List Int := [104, 116, 116, 112, 115, 58, 47, 47, 42, 46, 97, 46, 98, 58, 42, 47, 99, 47]
def aw2 : List Int := [104, 116, 116, 112, 115, 58, 47, 47, 120, 46, 97, 46, 98, 58, 57, 47, 99, 47, 100]
def aw3 : List Int := [104, 116, 116, 112, 115, 58, 47, 47, 97, 46, 98, 47, 99, 47, 100]
theorem aw1_eq : srcL aw1 = ⟨4, [104, 116, 116, 112, 115], [42, 46, 97, 46, 98], [42], [47, 99, 47]⟩ := by kernel_rfl
def aw2U : Url := ⟨[104, 116, 116, 112, 115], [], [], [120, 46, 97, 46, 98], 9, [47, 99, 47, 100], false, [], false, []⟩
def aw3U : Url := ⟨[104, 116, 116, 112, 115], [], [], [97, 46, 98], -1, [47, 99, 47, 100], false, [], false, []⟩
theorem aw2_eq : urlL aw2 = some aw2U := by kernel_rfl
theorem aw3_eq : urlL aw3 = some aw3U := by kernel_rfl
theorem aw4_eq : matchB ⟨4, [104, 116, 116, 112, 115], [42, 46, 97, 46, 98], [42], [47, 99, 47]⟩ aw2U.sch aw2U.ho aw2U.po aw2U.path [] [] 0 0 = true := by kernel_rfl
theorem aw5_eq : matchB ⟨4, [104, 116, 116, 112, 115], [42, 46, 97, 46, 98], [42], [47, 99, 47]⟩ aw3U.sch aw3U.ho aw3U.po aw3U.path [] [] 0 0 = false := by kernel_rfl
def pAwakeC : Ct := fun args h => match args with | [] => some (.b true, h) | _ => none
theorem pAwake_ok : CtOk Tryz.prog G0 8 pAwakeC := by
  refine ct_plain (n := 0) fol (sound_cons pParse_ok (sound_cons pParsed_ok (sound_cons pMatch_ok sound_nil))) (by kernel_rfl) Tryz.func8 rfl fun args h v h' hc r xs H hr hx => ?_
  unfold pAwakeC at hc; split at hc <;> (try split at hc) <;> cases hc
  refine ⟨rfl, rfl, by simp [renV, bndV], ?_⟩
  have e1 := aw1_eq
  have e2 : urlOr aw2 = aw2U := by unfold urlOr; rw [aw2_eq]
  have e3 : urlOk aw2 = true := by unfold urlOk; rw [aw2_eq]; rfl
  have e4 : urlOr aw3 = aw3U := by unfold urlOr; rw [aw3_eq]
  have e5 : urlOk aw3 = true := by unfold urlOk; rw [aw3_eq]; rfl
  have e6 := aw4_eq
  have e7 := aw5_eq
  unfold aw1 aw2 aw3 at *
  unfold aw2U at *
  unfold aw3U at *
  simp only at e6 e7
  simp -implicitDefEqProofs [go_sem, Tryz.f8, pParseC, pParsedC, pMatchC, e1, e2, e3, e4, e5, e6, e7, Url.V, Url.cells, Expr5.V, Expr5.cells, portQ]
def pExprC : Ct := fun args h => match args with | [.agg [.i .i64 k, .s a, .s b, .s c, .s d]] => some (.agg [.i .i64 k, .s a, .s b, .s c, .s d], h) | _ => none
theorem pExpr_ok : CtOk Tryz.prog G0 10 pExprC := by
  refine ct_plain (n := 1) fol sound_nil (by kernel_rfl) Tryz.func10 rfl fun args h v h' hc r xs H hr hx => ?_
  unfold pExprC at hc; split at hc <;> (try split at hc) <;> cases hc
  rename_i k a b c d
  refine ⟨rfl, rfl, by simp [renV, bndV, renL, bndL], ?_⟩
  simp -implicitDefEqProofs [go_sem, Tryz.f10]
def pLaw1C : Ct := fun args h => match args with | [.s l] => some (.b true, h) | _ => none
theorem pLaw1_ok : CtOk Tryz.prog G0 3 pLaw1C := by
  refine ct_plain (n := 1) fol (sound_cons pAwake_ok (sound_cons pParse_ok (sound_cons rSource_ok (sound_cons pExpr_ok sound_nil)))) (by kernel_rfl) Tryz.func3 rfl fun args h v h' hc r xs H hr hx => ?_
  unfold pLaw1C at hc; split at hc <;> (try split at hc) <;> cases hc
  rename_i l
  refine ⟨rfl, rfl, by simp [renV, bndV], ?_⟩
  by_cases h1 : 600 < l.length
  · have h1' : (600 : Int) < l.length := by omega
    simp -implicitDefEqProofs [go_sem, Tryz.f3, h1, h1', pAwakeC]
  · have h1' : ¬ (600 : Int) < l.length := by omega
    have h2 : l.length ≤ 1048576 := by omega
    simp -implicitDefEqProofs [go_sem, Tryz.f3, h1, h1', h2, pAwakeC, pParseC, rSourceC, pExprC, Expr5.V, Expr5.cells]
def digL (l : List Int) : List Int := if l = [] ∨ l.head? = some 42 then l.take 1 else (l.filter digitB).take 5
theorem digL_port (l : List Int) : portQ (digL l) := by
  unfold digL
  split
  · rename_i h
    cases l with
    | nil => exact .inl rfl
    | cons c t =>
      rcases h with h | h
      · cases h
      · refine .inr (.inl ?_)
        rw [List.head?_cons] at h
        rw [Option.some.inj h]; rfl
  · refine .inr (.inr ?_)
    unfold portP
    rw [Bool.and_eq_true]
    refine ⟨?_, decide_eq_true (by simp; omega)⟩
    rw [List.all_eq_true]
    intro c hc
    exact (List.mem_filter.1 (List.mem_of_mem_take hc)).2
def pDigitsC : Ct := fun args h => match args with | [.s l] => if l.length ≤ 1048576 then some (.s (digL l), h) else none | _ => none
theorem pDigits_ok : CtOk Tryz.prog G0 20 pDigitsC := by
  refine ct_plain (n := 1) fol sound_nil (by kernel_rfl) Tryz.func20 rfl fun args h v h' hc r xs H hr hx => ?_
  unfold pDigitsC at hc; split at hc <;> (try split at hc) <;> cases hc
  rename_i l hl
  obtain ⟨⟨hs, _⟩, _⟩ := str_of hx
  refine ⟨rfl, rfl, by simp [renV, bndV], ?_⟩
  rcases hl0 : l with _ | ⟨c, q⟩
  · simp -implicitDefEqProofs [go_sem, Tryz.f20, digL]
  · have hE : digL l = if c = 42 then [42] else (l.filter digitB).take 5 := by
      unfold digL
      rw [hl0]
      by_cases h : c = 42
      · rw [if_pos (.inr (by rw [h]; rfl)), if_pos h, h]; rfl
      · rw [if_neg (by simp [h]), if_neg h]
    rw [← hl0]
    have k0 : 0 < l.length := by rw [hl0]; simp
    have k0' : (0 : Int) < l.length := by omega
    have k1 : (1 : Int) ≤ l.length := by omega
    have k2 : ¬ (l.length : Int) < 1 := by omega
    have k2' : ¬ (1 : Int) > l.length := by omega
    have kc : l[0] = c := by simp [hl0]
    have kn : ¬ l = [] := by rw [hl0]; simp
    have kn' : l.isEmpty = false := by rw [hl0]; rfl
    have kt : l.take 1 = [c] := by rw [hl0]; rfl
    rw [hE]
    clear hl0
    by_cases c1 : c = 42
    · rw [if_pos c1]
      have k3 : (if (1 : Int) < l.length then (1 : Int) else l.length) = 1 := by split <;> omega
      simp -implicitDefEqProofs [go_sem, Tryz.f20, k0, k0', k1, kc, kn, kn', eq_true c1, k3, kt, c1]
    · rw [if_neg c1]
      simp -implicitDefEqProofs [go_sem, Tryz.f20, k0, k0', kc, kn, kn', c1]
      refine run_inv _ _ _ _ _ (fun (i : Nat) t h1 => i ≤ l.length ∧ get t 0 = .s l ∧ get t 3 = .s ((l.take i).filter digitB) ∧ get t 4 = .i .i64 i ∧ ((l.take i).filter digitB).length ≤ 5 ∧ h1 = h) (fun i => l.length - i) _ (x := 0) ⟨by simp, by simp -implicitDefEqProofs [go_sem], by simp -implicitDefEqProofs [go_sem], by simp -implicitDefEqProofs [go_sem], by simp, rfl⟩ ?_
      rintro i t h1 ⟨hi, t0, t3, t4, hx5, rfl⟩ ih
      have hi6 : i < 1152921504606846976 := by omega
      obtain ⟨x, hxx⟩ : ∃ x, (l.take i).filter digitB = x := ⟨_, rfl⟩
      rw [hxx] at t3 hx5
      by_cases hlt : i < l.length
      · by_cases h5 : x.length < 5
        · have h5' : (x.length : Int) < 5 := by omega
          obtain ⟨d, hc⟩ : ∃ d, l[i] = d := ⟨_, rfl⟩
          have hf := filter_snoc l digitB hlt
          rw [hxx, hc] at hf
          have hcut : (l.drop i).take 1 = [d] := by rw [List.drop_eq_getElem_cons hlt, hc]; rfl
          have i1 : (i : Int) ≤ (i : Int) + 1 := by omega
          have i2 : (i : Int) + 1 ≤ l.length := by omega
          have i3 : i + 1 - i = 1 := by omega
          have i4 : x.length + 1 ≤ 281474976710656 := by omega
          have no : ∀ t', digitB d = false → get t' 0 = .s l → get t' 3 = .s x → get t' 4 = .i .i64 ((i + 1 : Nat) : Int) → _ := fun t' e a b c => ih (i + 1) t' h1 (by omega) ⟨hlt, a, by rw [hf, e]; simpa using b, c, by rw [hf, e]; simpa using hx5, rfl⟩
          by_cases d1 : 48 ≤ d
          · by_cases d2 : d ≤ 57
            · have e : digitB d = true := decide_eq_true ⟨d1, d2⟩
              rw [e, if_pos rfl] at hf
              simp -implicitDefEqProofs [go_sem, Tryz.f20, t0, t3, t4, hlt, h5, h5', hc, d1, d2, i64_n hi6, i1, i2, i3, i4, hcut]
              refine ih (i + 1) _ _ (by omega) ⟨hlt, ?_, ?_, ?_, ?_, rfl⟩
              · simp -implicitDefEqProofs [go_sem, t0]
              · simp -implicitDefEqProofs [go_sem, t3, hf]
              · simp -implicitDefEqProofs [go_sem, t4, i64_n hi6]
              · rw [hf]; simp; omega
            · simp -implicitDefEqProofs [go_sem, Tryz.f20, t0, t3, t4, hlt, h5, h5', hc, d1, d2]
              refine no _ (decide_eq_false fun e => d2 e.2) ?_ ?_ ?_ <;> simp -implicitDefEqProofs [go_sem, t0, t3, t4, i64_n hi6]
          · simp -implicitDefEqProofs [go_sem, Tryz.f20, t0, t3, t4, hlt, h5, h5', hc, d1]
            refine no _ (decide_eq_false fun e => d1 e.1) ?_ ?_ ?_ <;> simp -implicitDefEqProofs [go_sem, t0, t3, t4, i64_n hi6]
        · have h5' : ¬ (x.length : Int) < 5 := by omega
          have hfin : (l.filter digitB).take 5 = x := by
            have : l.filter digitB = x ++ (l.drop i).filter digitB := by rw [← hxx, ← List.filter_append, List.take_append_drop]
            rw [this, List.take_append, List.take_of_length_le (by omega), show 5 - x.length = 0 by omega]; simp
          simp -implicitDefEqProofs [go_sem, Tryz.f20, t0, t3, t4, hlt, h5, h5', hfin]
      · have hfin : (l.filter digitB).take 5 = x := by
          rw [List.take_of_length_le (show l.length ≤ i by omega)] at hxx
          rw [hxx, List.take_of_length_le hx5]
        simp -implicitDefEqProofs [go_sem, Tryz.f20, t0, t3, t4, hlt, hfin]
def pLaw2C : Ct := fun args h => match args with | [.s a, .s b, .s c] => some (.b true, h) | _ => none
theorem pLaw2_ok : CtOk Tryz.prog G0 4 pLaw2C := by
  refine ct_plain (n := 3) fol (sound_cons pAwake_ok (sound_cons pParsed_ok (sound_cons pScheme_ok (sound_cons rSchemeMatch_ok (sound_cons pHost_ok (sound_cons rHostMatch_ok (sound_cons pPathM_ok (sound_cons rPathMatch_ok (sound_cons pDigits_ok (sound_cons pPortM_ok (sound_cons rPortMatch_ok sound_nil))))))))))) (by kernel_rfl) Tryz.func4 rfl fun args h v h' hc r xs H hr hx => ?_
  unfold pLaw2C at hc; split at hc <;> (try split at hc) <;> cases hc
  rename_i a b c
  obtain ⟨⟨_, hla⟩, _, hx2⟩ := str_of hx
  obtain ⟨⟨_, hlb⟩, _⟩ := str_of hx2
  refine ⟨rfl, rfl, by simp [renV, bndV], ?_⟩
  have w := w64 (x := (a.length : Int) + b.length) (by omega)
  by_cases h1 : 600 < a.length + b.length
  · have h1' : (600 : Int) < (a.length : Int) + b.length := by omega
    simp -implicitDefEqProofs [go_sem, Tryz.f4, w, h1, h1', pAwakeC]
  · have h1' : ¬ (600 : Int) < (a.length : Int) + b.length := by omega
    have h2 : a.length ≤ 1048576 := by omega
    have h3 : b.length ≤ 1048576 := by omega
    have hq : (digL a = [] ∨ digL a = [42] ∨ portP (digL a) = true) = True := eq_true (digL_port a)
    cases h4 : urlOk c with
    | true =>
      simp -implicitDefEqProofs [go_sem, Tryz.f4, w, h1, h1', h2, h3, h4, pAwakeC, pParsedC, pSchemeC, rSchemeMatchC, pHostC, rHostMatchC, pPathMC, rPathMatchC, pDigitsC, pPortMC, rPortMatchC, hq, Url.V, Url.cells]
    | false =>
      simp -implicitDefEqProofs [go_sem, Tryz.f4, w, h1, h1', h2, h3, h4, pAwakeC, pParsedC, pSchemeC, rSchemeMatchC, pHostC, rHostMatchC, pPathMC, rPathMatchC, pDigitsC, pPortMC, rPortMatchC, hq, Url.V, Url.cells]
end GoD
