import Derived.Test.YtffoolaocbgknaaGreatDoorEE
/-! Addresses as the document answers them. -/
namespace GoD
open Go Go.Proofs
set_option linter.unusedVariables false
set_option linter.unusedSimpArgs false
set_option maxHeartbeats 4000000
set_option maxRecDepth 100000
theorem ldN_s1 {l : List (List Int)} {i : Nat} (h : i < l.length) : ldN (sts l) i 1 = some [.s l[i]] := by
  have h2 : i < (sts l).length := by rw [sts_len]; exact h
  rw [ldN, if_pos (by omega), List.drop_eq_getElem_cons h2]
  simp [sts]
def rPartsC : Ct := fun args h => match args with | [.s l] => if l.length ≤ 1048576 then some (.sl h.length 0 (partsL l).length 1, h ++ [⟨2, false, sts (splitL 46 l)⟩]) else none | _ => none
theorem rParts_ok : CtOk Tryz.prog G0 100 rPartsC := by
  refine ct_run (n := 1) fol (sound_cons rSplit_ok sound_nil) (by kernel_rfl) Tryz.func100 rfl fun args h v h' hc r xs H hr hx => ?_
  unfold rPartsC at hc; split at hc <;> (try split at hc) <;> cases hc
  rename_i l hl
  obtain ⟨⟨hs, _⟩, _⟩ := str_of hx
  refine ⟨rfl, ?_⟩
  have hn := splitL_len 46 l
  obtain ⟨y, hy⟩ : ∃ y, splitL 46 l = y := ⟨_, rfl⟩
  have hy0 : 0 < y.length := List.length_pos_iff.2 (hy ▸ splitL_ne 46 l)
  rw [hy] at hn
  have hp : (partsL l).length = if 1 < y.length ∧ y.getLast? = some [] then y.length - 1 else y.length := by unfold partsL; rw [hy]; split <;> simp
  by_cases c1 : 1 < y.length
  · have c1' : (1 : Int) < y.length := by omega
    obtain ⟨n, hyn⟩ : ∃ n, y.length = n + 1 := ⟨y.length - 1, by omega⟩
    have hn1 : n < y.length := by omega
    obtain ⟨d, hd⟩ : ∃ d, y[n] = d := ⟨_, rfl⟩
    have hg : y.getLast? = some d := by rw [List.getLast?_eq_getElem?, hyn, Nat.add_sub_cancel, List.getElem?_eq_getElem hn1, hd]
    rw [hg] at hp
    have c3 : (1 : Int) < (n : Int) + 1 := by omega
    have c4 : (n : Int) < (n : Int) + 1 := by omega
    have c5 : (n : Int) ≤ (n : Int) + 1 := by omega
    have c6 : n < n + 1 := by omega
    by_cases c2 : d = []
    · rw [c2, if_pos ⟨c1, rfl⟩, hyn] at hp
      simp -implicitDefEqProofs [go_sem, Tryz.f100, rSplitC, hl, hy, hyn, ldN_s1 hn1, hd, c2, c3, c4, c5, c6, w64 (x := (n : Int)) (by omega)]
      have hp' : (partsL l).length = n := by omega
      rw [hp']
      exact Trim.sl (by simp -implicitDefEqProofs [go_sem]) (by omega) (by simp) (by simp -implicitDefEqProofs [go_sem]) (by simp -implicitDefEqProofs [go_sem])
    · rw [if_neg fun e => c2 (Option.some.inj e.2), hyn] at hp
      simp -implicitDefEqProofs [go_sem, Tryz.f100, rSplitC, hl, hy, hyn, ldN_s1 hn1, hd, c2, c3, c4, c5, c6, w64 (x := (n : Int)) (by omega)]
      rw [hp]
      exact Trim.sl (by simp -implicitDefEqProofs [go_sem]) (by omega) (by simp) (by simp -implicitDefEqProofs [go_sem]) (by simp -implicitDefEqProofs [go_sem])
  · have hy1 : y.length = 1 := by omega
    rw [if_neg fun e => c1 e.1, hy1] at hp
    simp -implicitDefEqProofs [go_sem, Tryz.f100, rSplitC, hl, hy, hy1]
    rw [hp]
    exact Trim.sl (by simp -implicitDefEqProofs [go_sem]) (by omega) (by simp) (by simp -implicitDefEqProofs [go_sem]) (by simp -implicitDefEqProofs [go_sem])
def rPartC : Ct := fun args h => match args with | [.s l] => if l.length ≤ 1048576 then some (.tup [.i .u64 (okV (pieceV l)).1, .b (okV (pieceV l)).2], h) else none | _ => none
theorem accV_ge {b : Int} (hb : 0 ≤ b) : ∀ {l : List Int} {n m : Int}, 0 ≤ n → (∀ c ∈ l, 0 ≤ hexv c) → accV b n l = some m → 0 ≤ m ∧ (n < 4294967296 → m < 4294967296)
  | [], n, m, hn, _, h => by simp [accV] at h; subst h; exact ⟨hn, id⟩
  | c :: t, n, m, hn, hc, h => by
    rw [accV] at h
    split at h
    · cases h
    · rename_i h1
      have := Int.mul_nonneg hb hn
      have h2 := hc c List.mem_cons_self
      obtain ⟨h3, h4⟩ := accV_ge hb (by omega) (fun x hx => hc x (List.mem_cons_of_mem _ hx)) h
      exact ⟨h3, fun _ => h4 (by omega)⟩
/-- the first loop in a code -/
def loopC : Code → Option Code
  | .loop a => some a
  | .seq a b => match loopC a with | some c => some c | none => loopC b
  | .cond _ a b => match loopC a with | some c => some c | none => loopC b
  | .block _ a => loopC a
  | _ => none
def loop1 (f : Func) : Code := (f.body.bind loopC).getD .skip
noncomputable def partLoop : Code := loop1 Tryz.f101
theorem part_loop {P : Ex → Tm → Heap → Prop} {k : List Todo} {b : Int} {rest : List Int} {h : Heap} (hb : 8 ≤ b ∧ b ≤ 16) (hl : rest.length ≤ 1048576) (hd : ∀ c ∈ rest, 0 ≤ hexv c ∧ hexv c < b)
    (hx : ∀ t h1 n, accV b 0 rest = some n → get t 5 = .i .u64 n → Ext h h1 → RunX (ctx Tryz.prog G0 [(85, rHexC), (93, rDigitsC)]) P k (.e 1) t h1)
    (hr : ∀ t h1, accV b 0 rest = none → get t 2 = .i .u64 0 → get t 3 = .b false → Ext h h1 → RunX (ctx Tryz.prog G0 [(85, rHexC), (93, rDigitsC)]) P k .r t h1)
    {t : Tm} {h1 : Heap} (t0 : get t 0 = .s rest) (t4 : get t 4 = .i .i64 b) (t5 : get t 5 = .i .u64 0) (t6 : get t 6 = .i .i64 0) (he : Ext h h1) : Run (ctx Tryz.prog G0 [(85, rHexC), (93, rDigitsC)]) P (.again partLoop :: k) t h1 := by
  refine run_inv _ _ _ _ _ (fun (x : Nat × Int) t h1 => x.1 ≤ rest.length ∧ get t 0 = .s rest ∧ get t 4 = .i .i64 b ∧ get t 5 = .i .u64 x.2 ∧ get t 6 = .i .i64 x.1 ∧ 0 ≤ x.2 ∧ x.2 < 4294967296 ∧ accV b x.2 (rest.drop x.1) = accV b 0 rest ∧ Ext h h1) (fun x => rest.length - x.1) _ (x := (0, 0)) ⟨by simp, t0, t4, t5, t6, by simp, by simp, by simp, he⟩ ?_
  rintro ⟨i, n⟩ t h1 ⟨hi, t0, t4, t5, t6, hn0, hn1, ha, he⟩ ih
  simp only at hi t0 t4 t5 t6 hn0 hn1 ha
  by_cases hlt : i < rest.length
  · obtain ⟨d, hc⟩ : ∃ d, rest[i] = d := ⟨_, rfl⟩
    have hdd := hd d (hc ▸ List.getElem_mem hlt)
    rw [List.drop_eq_getElem_cons hlt, hc, accV] at ha
    have hm0 := Int.mul_nonneg hn0 (show 0 ≤ b by omega)
    have hm1 : n * b ≤ n * 16 := Int.mul_le_mul_of_nonneg_left hb.2 hn0
    have hbn : b * n = n * b := Int.mul_comm _ _
    rw [hbn] at ha
    have hi6 : i < 1152921504606846976 := by omega
    by_cases c1 : 4294967296 ≤ n * b + hexv d
    · rw [if_pos c1] at ha
      simp -implicitDefEqProofs [go_sem, partLoop, loop1, loopC, Tryz.f101, t0, t4, t5, t6, hlt, hc, rHexC, c1, wu64 (x := b) (by omega), wu64 (x := n * b) (by omega), wu64 (x := hexv d) (by omega), wu64 (x := n * b + hexv d) (by omega)]
      exact hr _ _ ha.symm (by simp -implicitDefEqProofs [go_sem]) (by simp -implicitDefEqProofs [go_sem]) he
    · rw [if_neg c1] at ha
      simp -implicitDefEqProofs [go_sem, partLoop, loop1, loopC, Tryz.f101, t0, t4, t5, t6, hlt, hc, rHexC, c1, wu64 (x := b) (by omega), wu64 (x := n * b) (by omega), wu64 (x := hexv d) (by omega), wu64 (x := n * b + hexv d) (by omega)]
      refine ih (i + 1, n * b + hexv d) _ _ (by simp; omega) ⟨hlt, ?_⟩
      simp -implicitDefEqProofs [go_sem, t0, t4, t5, t6, i64_n hi6, he]
      exact ⟨by omega, by omega, ha⟩
  · have e0 : rest.drop i = [] := List.drop_eq_nil_of_le (by omega)
    rw [e0, accV] at ha
    simp -implicitDefEqProofs [go_sem, partLoop, loop1, loopC, Tryz.f101, t0, t4, t5, t6, hlt]
    exact hx _ _ n ha.symm (by simp -implicitDefEqProofs [go_sem, t5]) he
theorem rPart_ok : CtOk Tryz.prog G0 101 rPartC := by
  refine ct_plain (n := 1) fol (sound_cons rHex_ok (sound_cons rDigits_ok sound_nil)) (by kernel_rfl) Tryz.func101 rfl fun args h v h' hc r xs H hr hx => ?_
  unfold rPartC at hc; split at hc <;> (try split at hc) <;> cases hc
  rename_i l hl
  obtain ⟨⟨hs, _⟩, _⟩ := str_of hx
  refine ⟨rfl, rfl, by simp [renV, bndV, renL, bndL], ?_⟩
  obtain ⟨v, hv⟩ : ∃ v, pieceV l = v := ⟨_, rfl⟩
  rw [hv]
  have key : ∀ (b : Int) (rest : List Int), b = 16 ∨ b = 8 ∨ b = 10 → digitsB b rest = true → (∀ c ∈ rest, 0 ≤ hexv c ∧ hexv c < b) := fun b rest _ hd c hc => by
    have := List.all_eq_true.1 hd c hc
    exact of_decide_eq_true this
  rcases l with _ | ⟨c0, _ | ⟨c1, r⟩⟩
  · have : v = none := by rw [← hv]; rfl
    subst this
    simp -implicitDefEqProofs [go_sem, Tryz.f101, rDigitsC, okV]
  · by_cases hd : digitsB 10 [c0] = true
    · have hv' : accV 10 0 [c0] = v := by rw [← hv]; simp [pieceV, hexP, baseV, restV, hd]
      simp -implicitDefEqProofs [go_sem, Tryz.f101, rDigitsC, hd]
      refine part_loop (b := 10) (rest := [c0]) (h := h) (by omega) (by simp) (key _ _ (by omega) hd) ?_ ?_ (by simp -implicitDefEqProofs [go_sem]) (by simp -implicitDefEqProofs [go_sem]) (by simp -implicitDefEqProofs [go_sem]) (by simp -implicitDefEqProofs [go_sem]) (by simp -implicitDefEqProofs [go_sem])
      · intro t h1 n e t5 he
        rw [hv'] at e
        simp -implicitDefEqProofs [go_sem, t5, e, okV, he]
      · intro t h1 e t2 t3 he
        rw [hv'] at e
        simp -implicitDefEqProofs [go_sem, t2, t3, e, okV, he]
    · have hd' : digitsB 10 [c0] = false := by simpa using hd
      have : v = none := by rw [← hv]; simp [pieceV, hexP, baseV, restV, hd']
      subst this
      simp -implicitDefEqProofs [go_sem, Tryz.f101, rDigitsC, okV, hd']
  · have k1 : (2 : Int) ≤ (r.length : Int) + 1 + 1 := by omega
    have k2 : (0 : Int) < (r.length : Int) + 1 + 1 := by omega
    have k3 : (1 : Int) < (r.length : Int) + 1 + 1 := by omega
    have k4 : (1 : Int) ≤ (r.length : Int) + 1 + 1 := by omega
    by_cases e0 : c0 = 48
    · by_cases e1 : c1 = 120 ∨ c1 = 88
      · by_cases hr0 : r = []
        · have : v = some 0 := by rw [← hv, e0, hr0]; rcases e1 with e1 | e1 <;> rw [e1] <;> rfl
          subst this
          rcases e1 with e1 | e1 <;> simp -implicitDefEqProofs [go_sem, Tryz.f101, e0, e1, k1, k2, k3, k4, hr0, okV]
        · by_cases hd : digitsB 16 r = true
          · have hv' : accV 16 0 r = v := by rw [← hv, e0]; rcases e1 with e1 | e1 <;> rw [e1] <;> simp [pieceV, hexP, baseV, restV, hd]
            rcases e1 with e1 | e1
            all_goals
              simp -implicitDefEqProofs [go_sem, Tryz.f101, e0, e1, k1, k2, k3, k4, hr0, rDigitsC, hd]
              refine part_loop (b := 16) (rest := r) (h := h) (by omega) (by simp at hl ⊢; omega) (key _ _ (by omega) hd) ?_ ?_ (by simp -implicitDefEqProofs [go_sem]) (by simp -implicitDefEqProofs [go_sem]) (by simp -implicitDefEqProofs [go_sem]) (by simp -implicitDefEqProofs [go_sem]) (by simp -implicitDefEqProofs [go_sem])
              · intro t h1 n e t5 he
                rw [hv'] at e
                simp -implicitDefEqProofs [go_sem, t5, e, okV, he]
              · intro t h1 e t2 t3 he
                rw [hv'] at e
                simp -implicitDefEqProofs [go_sem, t2, t3, e, okV, he]
          · have hd' : digitsB 16 r = false := by simpa using hd
            have : v = none := by rw [← hv, e0]; rcases e1 with e1 | e1 <;> rw [e1] <;> simp [pieceV, hexP, baseV, restV, hd']
            subst this
            rcases e1 with e1 | e1 <;> simp -implicitDefEqProofs [go_sem, Tryz.f101, e0, e1, k1, k2, k3, k4, hr0, okV, rDigitsC, hd']
      · have e2 := not_or.1 e1
        by_cases hd : digitsB 8 (c1 :: r) = true
        · have hv' : accV 8 0 (c1 :: r) = v := by rw [← hv, e0]; simp [pieceV, hexP, baseV, restV, hd, e2.1, e2.2]
          simp -implicitDefEqProofs [go_sem, Tryz.f101, e0, e2.1, e2.2, k1, k2, k3, k4, rDigitsC, hd]
          refine part_loop (b := 8) (rest := c1 :: r) (h := h) (by omega) (by simp at hl ⊢; omega) (key _ _ (by omega) hd) ?_ ?_ (by simp -implicitDefEqProofs [go_sem]) (by simp -implicitDefEqProofs [go_sem]) (by simp -implicitDefEqProofs [go_sem]) (by simp -implicitDefEqProofs [go_sem]) (by simp -implicitDefEqProofs [go_sem])
          · intro t h1 n e t5 he
            rw [hv'] at e
            simp -implicitDefEqProofs [go_sem, t5, e, okV, he]
          · intro t h1 e t2 t3 he
            rw [hv'] at e
            simp -implicitDefEqProofs [go_sem, t2, t3, e, okV, he]
        · have hd' : digitsB 8 (c1 :: r) = false := by simpa using hd
          have : v = none := by rw [← hv, e0]; simp [pieceV, hexP, baseV, restV, hd', e2.1, e2.2]
          subst this
          simp -implicitDefEqProofs [go_sem, Tryz.f101, e0, e2.1, e2.2, k1, k2, k3, k4, okV, rDigitsC, hd']
    · by_cases hd : digitsB 10 (c0 :: c1 :: r) = true
      · have hv' : accV 10 0 (c0 :: c1 :: r) = v := by rw [← hv]; simp [pieceV, hexP, baseV, restV, hd, e0]
        simp -implicitDefEqProofs [go_sem, Tryz.f101, e0, k1, k2, k3, k4, rDigitsC, hd]
        refine part_loop (b := 10) (rest := c0 :: c1 :: r) (h := h) (by omega) (by simp at hl ⊢; omega) (key _ _ (by omega) hd) ?_ ?_ (by simp -implicitDefEqProofs [go_sem]) (by simp -implicitDefEqProofs [go_sem]) (by simp -implicitDefEqProofs [go_sem]) (by simp -implicitDefEqProofs [go_sem]) (by simp -implicitDefEqProofs [go_sem])
        · intro t h1 n e t5 he
          rw [hv'] at e
          simp -implicitDefEqProofs [go_sem, t5, e, okV, he]
        · intro t h1 e t2 t3 he
          rw [hv'] at e
          simp -implicitDefEqProofs [go_sem, t2, t3, e, okV, he]
      · have hd' : digitsB 10 (c0 :: c1 :: r) = false := by simpa using hd
        have : v = none := by rw [← hv]; simp [pieceV, hexP, baseV, restV, hd', e0]
        subst this
        simp -implicitDefEqProofs [go_sem, Tryz.f101, e0, k1, k2, k3, k4, okV, rDigitsC, hd']
end GoD
