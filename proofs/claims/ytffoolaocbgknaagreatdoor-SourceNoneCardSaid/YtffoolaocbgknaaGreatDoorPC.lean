import Derived.Test.YtffoolaocbgknaaGreatDoorPB
/-! Addresses as the program answers them. -/
namespace GoD
open Go Go.Proofs
set_option linter.unusedVariables false
set_option linter.unusedSimpArgs false
set_option maxHeartbeats 4000000
set_option maxRecDepth 100000
def pValueC : Ct := fun args h => match args with | [.i .u8 c] => some (.i .i64 (hexv c), h) | _ => none
theorem pValue_ok : CtOk Tryz.prog G0 117 pValueC := by
  refine ct_plain (n := 1) fol sound_nil (by kernel_rfl) Tryz.func117 rfl fun args h v h' hc r xs H hr hx => ?_
  unfold pValueC at hc; split at hc <;> (try split at hc) <;> cases hc
  rename_i c
  have hb := byteOf hx
  refine ⟨rfl, rfl, by simp [renV, bndV], ?_⟩
  unfold hexv
  by_cases h1 : 48 ≤ c <;> by_cases h2 : c ≤ 57 <;> by_cases h3 : 97 ≤ c <;> by_cases h4 : c ≤ 102 <;> by_cases h5 : 65 ≤ c <;> by_cases h6 : c ≤ 70 <;> (try omega) <;>
  (simp -implicitDefEqProofs [go_sem, Tryz.f117, h1, h2, h3, h4, h5, h6, V.i.injEq]; try (simp (disch := omega) only [w64]; try omega))
def pHDigitsC : Ct := fun args h => match args with | [.s l, .i .i64 b] => some (.b (digitsB b l), h) | _ => none
theorem pHDigits_ok : CtOk Tryz.prog G0 116 pHDigitsC := by
  refine ct_plain (n := 2) fol (sound_cons pValue_ok sound_nil) (by kernel_rfl) Tryz.func116 rfl fun args h v h' hc r xs H hr hx => ?_
  unfold pHDigitsC at hc; split at hc <;> (try split at hc) <;> cases hc
  rename_i l b
  obtain ⟨⟨hs, hl⟩, _⟩ := str_of hx
  refine ⟨rfl, rfl, by simp [renV, bndV], ?_⟩
  simp -implicitDefEqProofs [go_sem, Tryz.f116]
  refine run_inv _ _ _ _ _ (fun (i : Nat) t h1 => i ≤ l.length ∧ get t 0 = .s l ∧ get t 1 = .i .i64 b ∧ get t 8 = .i .i64 l.length ∧ get t 9 = .i .i64 i ∧ digitsB b (l.drop i) = digitsB b l ∧ Ext h h1) (fun i => l.length - i) _ (x := 0) ⟨by simp, rfl, rfl, rfl, rfl, rfl, Ext.refl h⟩ ?_
  rintro i t h1 ⟨hi, t0, t1, t8, t9, hd, he⟩ ih
  by_cases hlt : i < l.length
  · obtain ⟨d, hc⟩ : ∃ d, l[i] = d := ⟨_, rfl⟩
    rw [List.drop_eq_getElem_cons hlt, hc, digitsB_cons] at hd
    by_cases c1 : hexv d < 0
    · rw [decide_eq_false (by omega), Bool.false_and] at hd
      simp -implicitDefEqProofs [go_sem, Tryz.f116, t0, t1, t8, t9, hlt, hc, c1, pValueC, ← hd, he]
    · by_cases c2 : b ≤ hexv d
      · rw [decide_eq_false (by omega), Bool.false_and] at hd
        simp -implicitDefEqProofs [go_sem, Tryz.f116, t0, t1, t8, t9, hlt, hc, c1, c2, pValueC, ← hd, he]
      · rw [decide_eq_true (by omega), Bool.true_and] at hd
        simp -implicitDefEqProofs [go_sem, Tryz.f116, t0, t1, t8, t9, hlt, hc, c1, c2, pValueC]
        refine ih (i + 1) _ _ (by omega) ⟨by omega, ?_⟩
        simp -implicitDefEqProofs [go_sem, t0, t1, t8, t9, i64_1 hl hlt, he, hd]
  · have e0 : l.drop i = [] := List.drop_eq_nil_of_le (by omega)
    rw [e0, show digitsB b [] = true from rfl] at hd
    simp -implicitDefEqProofs [go_sem, Tryz.f116, t0, t1, t8, t9, hlt, ← hd, he]
def hexAns (l : List Int) : V := if hexP l = true then .tup [.s (l.drop 2), .b true] else .tup [.s [], .b false]
def pHexC : Ct := fun args h => match args with | [.s l] => some (hexAns l, h) | _ => none
theorem pHex_ok : CtOk Tryz.prog G0 115 pHexC := by
  refine ct_plain (n := 1) fol sound_nil (by kernel_rfl) Tryz.func115 rfl fun args h v h' hc r xs H hr hx => ?_
  unfold pHexC at hc; split at hc <;> (try split at hc) <;> cases hc
  rename_i l
  refine ⟨rfl, rfl, by unfold hexAns; split <;> simp [renV, bndV, renL, bndL], ?_⟩
  match l with
  | [] => simp -implicitDefEqProofs [go_sem, Tryz.f115, hexAns, hexP]
  | [a] => simp -implicitDefEqProofs [go_sem, Tryz.f115, hexAns, hexP]
  | a :: b :: r =>
    have k1 : (1 : Int) < (r.length : Int) + 1 + 1 := by omega
    have k2 : (0 : Int) < (r.length : Int) + 1 + 1 := by omega
    have k3 : (2 : Int) ≤ (r.length : Int) + 1 + 1 := by omega
    by_cases c1 : a = 48
    · by_cases c2 : b = 120
      · simp -implicitDefEqProofs [go_sem, Tryz.f115, hexAns, hexP, k1, k2, k3, eq_true c1, eq_true c2]
      · by_cases c3 : b = 88
        · simp -implicitDefEqProofs [go_sem, Tryz.f115, hexAns, hexP, k1, k2, k3, eq_true c1, c2, eq_true c3]
        · simp -implicitDefEqProofs [go_sem, Tryz.f115, hexAns, hexP, k1, k2, k3, eq_true c1, c2, c3]
    · simp -implicitDefEqProofs [go_sem, Tryz.f115, hexAns, hexP, k1, k2, k3, c1]
noncomputable def hpart1 : Code := loop1 Tryz.f109
theorem hpart_loop {P : Ex → Tm → Heap → Prop} {k : List Todo} {b : Int} {rest : List Int} {h : Heap} (hb : 8 ≤ b ∧ b ≤ 16) (hl : rest.length ≤ 1048576) (hd : ∀ c ∈ rest, 0 ≤ hexv c ∧ hexv c < b)
    (hx : ∀ t n, accV b 0 rest = some n → get t 2 = .i .i64 n → RunX (ctx Tryz.prog G0 [(115, pHexC), (116, pHDigitsC), (117, pValueC)]) P k (.e 0) t h)
    (hr : ∀ t, accV b 0 rest = none → get t 2 = .i .i64 0 → get t 3 = .b false → RunX (ctx Tryz.prog G0 [(115, pHexC), (116, pHDigitsC), (117, pValueC)]) P k .r t h)
    {t : Tm} (t4 : get t 4 = .i .i64 b) (t5 : get t 5 = .s rest) (t2 : get t 2 = .i .i64 0) (t36 : get t 36 = .i .i64 rest.length) (t37 : get t 37 = .i .i64 0) : Run (ctx Tryz.prog G0 [(115, pHexC), (116, pHDigitsC), (117, pValueC)]) P (.again hpart1 :: k) t h := by
  refine run_inv _ _ _ _ _ (fun (x : Nat × Int) t h1 => x.1 ≤ rest.length ∧ get t 4 = .i .i64 b ∧ get t 5 = .s rest ∧ get t 2 = .i .i64 x.2 ∧ get t 36 = .i .i64 rest.length ∧ get t 37 = .i .i64 x.1 ∧ 0 ≤ x.2 ∧ x.2 < 4294967296 ∧ accV b x.2 (rest.drop x.1) = accV b 0 rest ∧ h1 = h) (fun x => rest.length - x.1) _ (x := (0, 0)) ⟨by simp, t4, t5, t2, t36, t37, by simp, by simp, rfl, rfl⟩ ?_
  clear t4 t5 t2 t36 t37
  rintro ⟨i, n⟩ t h1 ⟨hi, t4, t5, t2, t36, t37, hn0, hn1, ha, rfl⟩ ih
  simp only at hi t2 t37 hn0 hn1 ha
  by_cases hlt : i < rest.length
  · obtain ⟨d, hc⟩ : ∃ d, rest[i] = d := ⟨_, rfl⟩
    have hdd := hd d (hc ▸ List.getElem_mem hlt)
    rw [List.drop_eq_getElem_cons hlt, hc, accV] at ha
    have hm0 := Int.mul_nonneg (show 0 ≤ b by omega) hn0
    have hm1 : b * n ≤ 16 * n := Int.mul_le_mul_of_nonneg_right hb.2 hn0
    have hi6 : i < 1152921504606846976 := by omega
    by_cases c1 : 4294967296 ≤ b * n + hexv d
    · rw [if_pos c1] at ha
      simp -implicitDefEqProofs [go_sem, hpart1, loop1, loopC, Tryz.f109, t4, t5, t2, t36, t37, hlt, hc, pValueC, c1, w64 (x := b * n) (by omega), w64 (x := b * n + hexv d) (by omega)]
      exact hr _ ha.symm (by simp -implicitDefEqProofs [go_sem]) (by simp -implicitDefEqProofs [go_sem])
    · rw [if_neg c1] at ha
      simp -implicitDefEqProofs [go_sem, hpart1, loop1, loopC, Tryz.f109, t4, t5, t2, t36, t37, hlt, hc, pValueC, c1, w64 (x := b * n) (by omega), w64 (x := b * n + hexv d) (by omega)]
      refine ih (i + 1, b * n + hexv d) _ _ (by simp; omega) ⟨hlt, ?_⟩
      simp -implicitDefEqProofs [go_sem, t4, t5, t2, t36, t37, i64_n hi6]
      exact ⟨by omega, by omega, ha⟩
  · have e0 : rest.drop i = [] := List.drop_eq_nil_of_le (by omega)
    rw [e0, accV] at ha
    simp -implicitDefEqProofs [go_sem, hpart1, loop1, loopC, Tryz.f109, t4, t5, t2, t36, t37, hlt]
    exact hx _ n ha.symm (by simp -implicitDefEqProofs [go_sem, t2])
def pPartC : Ct := fun args h => match args with | [.s l] => if l.length ≤ 1048576 then some (.tup [.i .i64 (okV (pieceV l)).1, .b (okV (pieceV l)).2], h) else none | _ => none
theorem digitsB_all {b : Int} {l : List Int} (h : digitsB b l = true) : ∀ c ∈ l, 0 ≤ hexv c ∧ hexv c < b := fun c hc => of_decide_eq_true (List.all_eq_true.1 h c hc)
theorem pPart_ok : CtOk Tryz.prog G0 109 pPartC := by
  refine ct_plain (n := 1) fol (sound_cons pHex_ok (sound_cons pHDigits_ok (sound_cons pValue_ok sound_nil))) (by kernel_rfl) Tryz.func109 rfl fun args h v h' hc r xs H hr hx => ?_
  unfold pPartC at hc; split at hc <;> (try split at hc) <;> cases hc
  rename_i l hl
  obtain ⟨⟨hs, _⟩, _⟩ := str_of hx
  refine ⟨rfl, rfl, by simp [renV, bndV, renL, bndL], ?_⟩
  obtain ⟨v, hv⟩ : ∃ v, pieceV l = v := ⟨_, rfl⟩
  rw [hv]
  by_cases h0 : l = []
  · subst h0
    have : v = none := by rw [← hv]; rfl
    subst this
    simp -implicitDefEqProofs [go_sem, Tryz.f109, pHexC, hexAns, pHDigitsC, hexP, okV, digitsB]
  have h0' : l.isEmpty = false := by cases l with | nil => exact absurd rfl h0 | cons _ _ => rfl
  have hpv : v = if digitsB (baseV l) (restV l) = false then none else accV (baseV l) 0 (restV l) := by
    rw [← hv]; unfold pieceV
    by_cases hd : digitsB (baseV l) (restV l) = false
    · rw [if_pos (.inr hd), if_pos hd]
    · rw [if_neg (by simp only [not_or]; exact ⟨h0, hd⟩), if_neg hd]
  have main : ∀ (b : Int) (rest : List Int) (hb : 8 ≤ b ∧ b ≤ 16) (hr : rest.length ≤ 1048576) (hbb : baseV l = b) (hrr : restV l = rest) (hd : digitsB b rest = true) (k : List Todo) (P : Ex → Tm → Heap → Prop), (∀ t n, v = some n → get t 2 = .i .i64 n → RunX (ctx Tryz.prog G0 [(115, pHexC), (116, pHDigitsC), (117, pValueC)]) P k (.e 0) t h) → (∀ t, v = none → get t 2 = .i .i64 0 → get t 3 = .b false → RunX (ctx Tryz.prog G0 [(115, pHexC), (116, pHDigitsC), (117, pValueC)]) P k .r t h) → ∀ {t : Tm}, get t 4 = .i .i64 b → get t 5 = .s rest → get t 2 = .i .i64 0 → get t 36 = .i .i64 rest.length → get t 37 = .i .i64 0 → Run (ctx Tryz.prog G0 [(115, pHexC), (116, pHDigitsC), (117, pValueC)]) P (.again hpart1 :: k) t h := by
    intro b rest hb hr hbb hrr hd k P hx hr2 t t4 t5 t2 t36 t37
    rw [hbb, hrr, hd, if_neg (by simp)] at hpv
    exact hpart_loop hb hr (digitsB_all hd) (fun t n e => hx t n (hpv.trans e)) (fun t e => hr2 t (hpv.trans e)) t4 t5 t2 t36 t37
  have bad : ∀ (b : Int) (rest : List Int), baseV l = b → restV l = rest → digitsB b rest = false → v = none := by
    intro b rest e1 e2 e3
    rw [e1, e2, e3, if_pos rfl] at hpv
    exact hpv
  cases c1 : hexP l with
  | true =>
    have eb : baseV l = 16 := by unfold baseV; rw [if_pos c1]
    have er : restV l = l.drop 2 := by unfold restV; rw [if_pos c1]
    cases hd : digitsB 16 (l.drop 2) with
    | false =>
      have := bad _ _ eb er hd
      subst this
      simp -implicitDefEqProofs [go_sem, Tryz.f109, pHexC, hexAns, pHDigitsC, c1, h0, h0', hd, okV]
    | true =>
      simp -implicitDefEqProofs [go_sem, Tryz.f109, pHexC, hexAns, pHDigitsC, c1, h0, h0', hd]
      refine main 16 (l.drop 2) (by omega) (by simp; omega) eb er hd _ _ ?_ ?_ ?_ ?_ ?_ ?_ ?_
      · intro t n e t2
        simp -implicitDefEqProofs [go_sem, t2, e, okV]
      · intro t e t2 t3
        simp -implicitDefEqProofs [go_sem, t2, t3, e, okV]
      all_goals simp -implicitDefEqProofs [go_sem]
  | false =>
    by_cases c2 : 1 < l.length ∧ l.head? = some 48
    · have eb : baseV l = 8 := by unfold baseV; rw [c1, if_neg (by simp), if_pos c2]
      have er : restV l = l.drop 1 := by unfold restV; rw [c1, if_neg (by simp), if_pos c2]
      obtain ⟨c2, c3⟩ := c2
      have c4 : 0 < l.length := by omega
      have c2' : (1 : Int) < l.length := by omega
      have c4' : (0 : Int) < l.length := by omega
      have c5' : (1 : Int) ≤ l.length := by omega
      have c3' : l[0] = 48 := by rw [List.head?_eq_getElem?, List.getElem?_eq_getElem c4] at c3; exact Option.some.inj c3
      cases hd : digitsB 8 (l.drop 1) with
      | false =>
        have := bad _ _ eb er hd
        subst this
        rw [List.drop_one] at hd
        simp -implicitDefEqProofs [go_sem, Tryz.f109, pHexC, hexAns, pHDigitsC, c1, h0, h0', c2, c2', c3', c4, c4', c5', hd, okV]
      | true =>
        rw [List.drop_one] at hd er
        simp -implicitDefEqProofs [go_sem, Tryz.f109, pHexC, hexAns, pHDigitsC, c1, h0, h0', c2, c2', c3', c4, c4', c5', hd]
        refine main 8 l.tail (by omega) (by simp; omega) eb er hd _ _ ?_ ?_ ?_ ?_ ?_ ?_ ?_
        · intro t n e t2
          simp -implicitDefEqProofs [go_sem, t2, e, okV]
        · intro t e t2 t3
          simp -implicitDefEqProofs [go_sem, t2, t3, e, okV]
        all_goals simp -implicitDefEqProofs [go_sem]
    · have eb : baseV l = 10 := by unfold baseV; rw [c1, if_neg (by simp), if_neg c2]
      have er : restV l = l := by unfold restV; rw [c1, if_neg (by simp), if_neg c2]
      have cond : ∀ (t : Tm) (P : Ex → Tm → Heap → Prop), True := fun _ _ => trivial
      by_cases c3 : 1 < l.length
      · have c4 : 0 < l.length := by omega
        have c2' : (1 : Int) < l.length := by omega
        have c4' : (0 : Int) < l.length := by omega
        have c3' : ¬ l[0] = 48 := fun e => c2 ⟨c3, by rw [List.head?_eq_getElem?, List.getElem?_eq_getElem c4, e]⟩
        cases hd : digitsB 10 l with
        | false =>
          have := bad _ _ eb er hd
          subst this
          simp -implicitDefEqProofs [go_sem, Tryz.f109, pHexC, hexAns, pHDigitsC, c1, h0, h0', c2', c3, c3', c4, c4', hd, okV]
        | true =>
          simp -implicitDefEqProofs [go_sem, Tryz.f109, pHexC, hexAns, pHDigitsC, c1, h0, h0', c2', c3, c3', c4, c4', hd]
          refine main 10 l (by omega) hl eb er hd _ _ ?_ ?_ ?_ ?_ ?_ ?_ ?_
          · intro t n e t2
            simp -implicitDefEqProofs [go_sem, t2, e, okV]
          · intro t e t2 t3
            simp -implicitDefEqProofs [go_sem, t2, t3, e, okV]
          all_goals simp -implicitDefEqProofs [go_sem]
      · have c2' : ¬ (1 : Int) < l.length := by omega
        cases hd : digitsB 10 l with
        | false =>
          have := bad _ _ eb er hd
          subst this
          simp -implicitDefEqProofs [go_sem, Tryz.f109, pHexC, hexAns, pHDigitsC, c1, h0, h0', c2', c3, hd, okV]
        | true =>
          simp -implicitDefEqProofs [go_sem, Tryz.f109, pHexC, hexAns, pHDigitsC, c1, h0, h0', c2', c3, hd]
          refine main 10 l (by omega) hl eb er hd _ _ ?_ ?_ ?_ ?_ ?_ ?_ ?_
          · intro t n e t2
            simp -implicitDefEqProofs [go_sem, t2, e, okV]
          · intro t e t2 t3
            simp -implicitDefEqProofs [go_sem, t2, t3, e, okV]
          all_goals simp -implicitDefEqProofs [go_sem]
end GoD
