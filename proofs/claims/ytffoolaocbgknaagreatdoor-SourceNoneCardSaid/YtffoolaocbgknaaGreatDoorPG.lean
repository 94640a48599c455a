import Derived.Test.YtffoolaocbgknaaGreatDoorPF
/-! Paths, own origins and matches as the program answers them. -/
namespace GoD
open Go Go.Proofs
set_option linter.unusedVariables false
set_option linter.unusedSimpArgs false
set_option maxHeartbeats 4000000
set_option maxRecDepth 100000
theorem ends_slash (p : List Int) : endsL p [47] = decide (p.getLast? = some 47) := by
  rcases List.eq_nil_or_concat p with rfl | ⟨q, c, rfl⟩
  · rfl
  · rw [List.concat_eq_append, List.getLast?_append]
    simp [endsL]
def pPathMC : Ct := fun args h => match args with | [.s p, .s l] => if p.length ≤ 1048576 ∧ l.length ≤ 1048576 then some (.b (pathB p l), h) else none | _ => none
theorem pPathM_ok : CtOk Tryz.prog G0 17 pPathMC := by
  refine ct_plain (n := 2) fol (sound_cons pSplit_ok (sound_cons pHasSuf_ok (sound_cons pPctSame_ok sound_nil))) (by kernel_rfl) Tryz.func17 rfl fun args h v h' hc r xs H hr hx => ?_
  unfold pPathMC at hc; split at hc <;> (try split at hc) <;> cases hc
  rename_i p l hl
  obtain ⟨hpl, hll⟩ := hl
  refine ⟨rfl, rfl, by simp [renV, bndV, renL, bndL], ?_⟩
  by_cases h1 : p = []
  · simp -implicitDefEqProofs [go_sem, Tryz.f17, h1, pathB]
  by_cases h2 : p = [47] ∧ l = []
  · simp -implicitDefEqProofs [go_sem, Tryz.f17, h2.1, h2.2, pathB]
  obtain ⟨x, hx1⟩ : ∃ x, splitL 47 p = x := ⟨_, rfl⟩
  obtain ⟨y, hy1⟩ : ∃ y, splitL 47 l = y := ⟨_, rfl⟩
  obtain ⟨res, hE⟩ : ∃ v, pathB p l = v := ⟨_, rfl⟩
  have hres := hE
  rw [hE]
  unfold pathB at hres
  rw [hx1, hy1, if_neg (by simp only [not_or]; exact ⟨h1, h2⟩)] at hres
  have hsx : ∀ q ∈ x, q.length ≤ 1048576 := fun q hq => Nat.le_trans (splitL_mem (hx1 ▸ hq)) hpl
  have hsy : ∀ q ∈ y, q.length ≤ 1048576 := fun q hq => Nat.le_trans (splitL_mem (hy1 ▸ hq)) hll
  have hxn : x.length ≤ 1048577 := by have := splitL_len 47 p; rw [hx1] at this; omega
  have hx0 : 0 < x.length := List.length_pos_iff.2 (hx1 ▸ splitL_ne 47 p)
  have emp : ∀ {a : List Int}, ¬ a = [] → a.isEmpty = false := fun {a} h => by cases a with | nil => exact absurd rfl h | cons => rfl
  have hp0 := emp h1
  simp only [Tryz.f17, run_seq]
  generalize hK9 : ((Code.region 9 _ _).seq _).seq _ = K9
  have rest : ∀ (m : Nat) (t : Tm) (h1 : Heap), m ≤ x.length → m ≤ y.length → segB (x.take m) y = res → h1 = h ++ [⟨2, true, sts x⟩, ⟨2, true, sts y⟩] → get t 5 = .sl h.length 0 m 1 → get t 6 = .sl (h.length + 1) 0 y.length 1 → Run (ctx Tryz.prog G0 [(46, pSplitC), (43, pHasSufC), (47, pPctSameC)]) (Fini (ctx Tryz.prog G0 [(46, pSplitC), (43, pHasSufC), (47, pPctSameC)]) [ResultVar.tmp 4] fun v' h1 => v' = V.b res ∧ Ext h h1) [.c K9] t h1 := by
    subst hK9
    intro m t h1 hmx hmy hr hh t5 t6
    have hl1 : h1.length = h.length + 2 := by rw [hh]; simp
    have g1 : hget h1 h.length = ⟨2, true, sts x⟩ := by rw [hh, hget_at0 rfl]; rfl
    have g2 : hget h1 (h.length + 1) = ⟨2, true, sts y⟩ := by rw [hh, hget_at rfl]; rfl
    have he : Ext h h1 := by rw [hh]; exact ⟨by simp, fun i hi => hget_lt hi⟩
    simp -implicitDefEqProofs [go_sem, t5]
    refine run_inv _ _ _ _ _ (fun (i : Nat) t h2 => i ≤ m ∧ get t 5 = .sl h.length 0 m 1 ∧ get t 6 = .sl (h.length + 1) 0 y.length 1 ∧ get t 49 = .i .i64 m ∧ get t 50 = .i .i64 i ∧ segB ((x.take m).drop i) (y.drop i) = res ∧ h2 = h1) (fun i => m - i) _ (x := 0) ⟨by simp, by simp -implicitDefEqProofs [go_sem, t5], by simp -implicitDefEqProofs [go_sem, t6], by simp -implicitDefEqProofs [go_sem], by simp -implicitDefEqProofs [go_sem], hr, rfl⟩ ?_
    clear t5 t6
    rintro i t h2 ⟨hi, t5, t6, t49, t50, ha, rfl⟩ ih
    have hi6 : i < 1152921504606846976 := by omega
    by_cases hlt : i < m
    · have hix : i < x.length := by omega
      have hiy : i < y.length := by omega
      rw [segB_drop (by simp; omega) hiy, List.getElem_take] at ha
      have l1 := hsx _ (List.getElem_mem hix)
      have l2 := hsy _ (List.getElem_mem hiy)
      have d1 := ldN_s1 hix
      have d2 := ldN_s1 hiy
      obtain ⟨u, hu⟩ : ∃ u, x[i] = u := ⟨_, rfl⟩
      obtain ⟨v, hv⟩ : ∃ v, y[i] = v := ⟨_, rfl⟩
      rw [hu] at d1 l1 ha; rw [hv] at d2 l2 ha
      by_cases c1 : decodeL u = decodeL v
      · rw [decide_eq_true c1, Bool.true_and] at ha
        simp -implicitDefEqProofs [go_sem, t5, t6, t49, t50, hlt, hiy, g1, g2, d1, d2, pPctSameC, l1, l2, c1]
        refine ih (i + 1) _ _ (by omega) ⟨hlt, ?_⟩
        simp -implicitDefEqProofs [go_sem, t5, t6, t49, t50, i64_n hi6]
        exact ha
      · rw [decide_eq_false c1, Bool.false_and] at ha
        subst ha
        simp -implicitDefEqProofs [go_sem, t5, t6, t49, t50, hlt, hiy, g1, g2, d1, d2, pPctSameC, l1, l2, c1, he]
    · have e : (x.take m).drop i = [] := List.drop_eq_nil_of_le (by simp; omega)
      rw [e, segB] at ha
      subst ha
      simp -implicitDefEqProofs [go_sem, t5, t6, t49, t50, hlt, he]

  by_cases e1 : y.length < x.length
  · have : res = false := by
      rw [← hres]
      split
      · rw [decide_eq_false (by omega)]; rfl
      · rw [decide_eq_false (by omega)]; rfl
    subst this
    have e1' : (y.length : Int) < x.length := by omega
    cases hs : endsL p [47] with
    | true =>
      by_cases e0 : p = [47]
      · have f3 : ¬ l = [] := fun e => h2 ⟨e0, e⟩
        have f4 := emp f3
        simp -implicitDefEqProofs [go_sem, h1, hp0, eq_true e0, f3, f4, pSplitC, hpl, hll, hx1, hy1, pHasSufC, hs, e1, e1']
      · simp -implicitDefEqProofs [go_sem, h1, hp0, e0, pSplitC, hpl, hll, hx1, hy1, pHasSufC, hs, e1, e1']
    | false =>
      by_cases e0 : p = [47]
      · have f3 : ¬ l = [] := fun e => h2 ⟨e0, e⟩
        have f4 := emp f3
        simp -implicitDefEqProofs [go_sem, h1, hp0, eq_true e0, f3, f4, pSplitC, hpl, hll, hx1, hy1, pHasSufC, hs, e1, e1']
      · simp -implicitDefEqProofs [go_sem, h1, hp0, e0, pSplitC, hpl, hll, hx1, hy1, pHasSufC, hs, e1, e1']
  · have e1' : ¬ (y.length : Int) < x.length := by omega
    cases hs : endsL p [47] with
    | true =>
      have hg : p.getLast? = some 47 := by rw [ends_slash] at hs; exact of_decide_eq_true hs
      rw [if_pos hg, decide_eq_true (by omega), Bool.true_and, List.dropLast_eq_take] at hres
      have g1 : (0 : Int) ≤ (x.length : Int) - 1 := by omega
      have g2 : (x.length : Int) - 1 ≤ x.length := by omega
      have g3 : ((x.length : Int) - 1).toNat = x.length - 1 := by omega
      have g4 : (1 : Int) ≤ (x.length : Int) := by omega
      have g5 : 1 ≤ x.length := by omega
      by_cases e0 : p = [47]
      · have f3 : ¬ l = [] := fun e => h2 ⟨e0, e⟩
        have f4 := emp f3
        simp -implicitDefEqProofs [go_sem, h1, hp0, eq_true e0, f3, f4, pSplitC, hpl, hll, hx1, hy1, pHasSufC, hs, e1, e1', g1, g2, g3, g4, g5, w64 (x := (x.length : Int) - 1) (by omega)]
        exact rest (x.length - 1) _ _ (by omega) (by omega) hres rfl (by simp -implicitDefEqProofs [go_sem]) (by simp -implicitDefEqProofs [go_sem])
      · simp -implicitDefEqProofs [go_sem, h1, hp0, e0, pSplitC, hpl, hll, hx1, hy1, pHasSufC, hs, e1, e1', g1, g2, g3, g4, g5, w64 (x := (x.length : Int) - 1) (by omega)]
        exact rest (x.length - 1) _ _ (by omega) (by omega) hres rfl (by simp -implicitDefEqProofs [go_sem]) (by simp -implicitDefEqProofs [go_sem])
    | false =>
      have hg : ¬ p.getLast? = some 47 := by rw [ends_slash] at hs; exact of_decide_eq_false hs
      rw [if_neg hg] at hres
      by_cases e2 : x.length < y.length
      · have e2' : (x.length : Int) < y.length := by omega
        rw [decide_eq_false (by omega), Bool.false_and] at hres
        subst hres
        by_cases e0 : p = [47]
        · have f3 : ¬ l = [] := fun e => h2 ⟨e0, e⟩
          have f4 := emp f3
          simp -implicitDefEqProofs [go_sem, h1, hp0, eq_true e0, f3, f4, pSplitC, hpl, hll, hx1, hy1, pHasSufC, hs, e1, e1', e2, e2']
        · simp -implicitDefEqProofs [go_sem, h1, hp0, e0, pSplitC, hpl, hll, hx1, hy1, pHasSufC, hs, e1, e1', e2, e2']
      · have e2' : ¬ (x.length : Int) < y.length := by omega
        rw [decide_eq_true (by omega), Bool.true_and] at hres
        by_cases e0 : p = [47]
        · have f3 : ¬ l = [] := fun e => h2 ⟨e0, e⟩
          have f4 := emp f3
          simp -implicitDefEqProofs [go_sem, h1, hp0, eq_true e0, f3, f4, pSplitC, hpl, hll, hx1, hy1, pHasSufC, hs, e1, e1', e2, e2']
          exact rest x.length _ _ (by omega) (by omega) (by rw [List.take_length]; exact hres) rfl (by simp -implicitDefEqProofs [go_sem]) (by simp -implicitDefEqProofs [go_sem])
        · simp -implicitDefEqProofs [go_sem, h1, hp0, e0, pSplitC, hpl, hll, hx1, hy1, pHasSufC, hs, e1, e1', e2, e2']
          exact rest x.length _ _ (by omega) (by omega) (by rw [List.take_length]; exact hres) rfl (by simp -implicitDefEqProofs [go_sem]) (by simp -implicitDefEqProofs [go_sem])
end GoD
