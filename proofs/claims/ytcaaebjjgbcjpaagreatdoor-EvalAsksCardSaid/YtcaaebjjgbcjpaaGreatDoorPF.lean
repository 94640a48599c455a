import Derived.Test.YtcaaebjjgbcjpaaGreatDoorPC
/-! Addresses as the program answers them: numbers. -/
namespace GoD
open Go Go.Proofs
set_option linter.unusedVariables false
set_option linter.unusedSimpArgs false
set_option maxHeartbeats 4000000
set_option maxRecDepth 100000
def pPartsC : Ct := fun args h => match args with | [.s l] => if l.length ≤ 1048576 then some (.sl h.length 0 (partsL l).length 1, h ++ [⟨2, true, sts (splitL 46 l)⟩]) else none | _ => none
theorem pParts_ok : CtOk Tryz.prog G0 241 pPartsC := by
  refine ct_run (n := 1) fol (sound_cons pSplit_ok sound_nil) (by kernel_rfl) Tryz.func241 rfl fun args h v h' hc r xs H hr hx => ?_
  unfold pPartsC at hc; split at hc <;> (try split at hc) <;> cases hc
  rename_i l hl
  obtain ⟨⟨hs, _⟩, _⟩ := str_of hx
  refine ⟨rfl, ?_⟩
  have hn := splitL_len 46 l
  obtain ⟨y, hy⟩ : ∃ y, splitL 46 l = y := ⟨_, rfl⟩
  have hy0 : 0 < y.length := List.length_pos_iff.2 (hy ▸ splitL_ne 46 l)
  rw [hy] at hn
  have hp : (partsL l).length = if 1 < y.length ∧ y.getLast? = some [] then y.length - 1 else y.length := by unfold partsL; rw [hy]; split <;> simp
  obtain ⟨n, hyn⟩ : ∃ n, y.length = n + 1 := ⟨y.length - 1, by omega⟩
  have hn1 : n < y.length := by omega
  have c4 : (n : Int) + 1 - 1 = n := by omega
  by_cases c1 : 0 < n
  · obtain ⟨d, hd⟩ : ∃ d, y[n] = d := ⟨_, rfl⟩
    have hg : y.getLast? = some d := by rw [List.getLast?_eq_getElem?, hyn, Nat.add_sub_cancel, List.getElem?_eq_getElem hn1, hd]
    rw [hg] at hp
    have c1' : (0 : Int) < n := by omega
    have c3 : (n : Int) < (n : Int) + 1 := by omega
    have c5 : (n : Int) ≤ (n : Int) + 1 := by omega
    have c6 : n < n + 1 := by omega
    by_cases c2 : d = []
    · rw [c2, if_pos ⟨by omega, rfl⟩, hyn] at hp
      simp -implicitDefEqProofs [go_sem, Tryz.f241, pSplitC, hl, hy, hyn, ldN_s1 hn1, hd, c1, c1', c2, c3, c4, c5, c6, w64 (x := (n : Int)) (by omega)]
      have hp' : (partsL l).length = n := by omega
      rw [hp']
      exact Trim.sl (by simp -implicitDefEqProofs [go_sem]) (by omega) (by simp) (by simp -implicitDefEqProofs [go_sem]) (by simp -implicitDefEqProofs [go_sem])
    · have c2' : d.isEmpty = false := by cases d with | nil => exact absurd rfl c2 | cons _ _ => rfl
      rw [if_neg fun e => c2 (Option.some.inj e.2), hyn] at hp
      simp -implicitDefEqProofs [go_sem, Tryz.f241, pSplitC, hl, hy, hyn, ldN_s1 hn1, hd, c1, c1', c2, c2', c3, c4, c5, c6, w64 (x := (n : Int)) (by omega)]
      rw [hp]
      exact Trim.sl (by simp -implicitDefEqProofs [go_sem]) (by omega) (by simp) (by simp -implicitDefEqProofs [go_sem]) (by simp -implicitDefEqProofs [go_sem])
  · have hn0 : n = 0 := by omega
    subst hn0
    rw [if_neg fun e => by omega, hyn] at hp
    simp -implicitDefEqProofs [go_sem, Tryz.f241, pSplitC, hl, hy, hyn]
    rw [hp]
    exact Trim.sl (by simp -implicitDefEqProofs [go_sem]) (by omega) (by simp) (by simp -implicitDefEqProofs [go_sem]) (by simp -implicitDefEqProofs [go_sem])
/-- parts put together as the program does -/
def numP : Nat → Int → List (List Int) → Int × Bool
  | _, _, [] => (0, false)
  | left, a, [p] => match pieceV p with
    | none => (0, false)
    | some n => ((a + n) % 4294967296, decide (n < 2 ^ (8 * left)))
  | left, a, p :: q :: t => match pieceV p with
    | none => (0, false)
    | some n => if 255 < n then (0, false) else numP (left - 1) ((a + n * 2 ^ (8 * (left - 1))) % 4294967296) (q :: t)
theorem numP_none : ∀ {left : Nat} {a : Int} {l : List (List Int)}, numL left l = none → (numP left a l).2 = false
  | _, _, [], _ => rfl
  | left, a, [p], h => by
    rw [numL] at h
    rw [numP]
    cases hp : pieceV p with
    | none => rfl
    | some n =>
      rw [hp, Option.bind_some] at h
      split at h
      · cases h
      · rename_i h2; simp; omega
  | left, a, p :: q :: t, h => by
    rw [numL] at h
    rw [numP]
    cases hp : pieceV p with
    | none => rfl
    | some n =>
      rw [hp, Option.bind_some] at h
      by_cases h2 : 255 < n
      · simp [h2]
      · rw [if_neg (by omega)] at h
        simp only [if_neg h2]
        exact numP_none (by simpa using h)
theorem numP_some : ∀ {left : Nat} {a v : Int} {l : List (List Int)}, left ≤ 4 → l.length ≤ left → 0 ≤ a → a + 2 ^ (8 * left) ≤ 4294967296 → numL left l = some v → numP left a l = (a + v, true)
  | _, _, _, [], _, _, _, _, h => by simp [numL] at h
  | left, a, v, [p], h4, hl, ha, hb, h => by
    rw [numL] at h
    rw [numP]
    cases hp : pieceV p with
    | none => rw [hp] at h; cases h
    | some n =>
      have hn := pieceV_le hp
      rw [hp, Option.bind_some] at h
      split at h
      · rename_i h2
        cases h
        simp only [decide_eq_true h2]
        rw [Int.emod_eq_of_lt (by omega) (by omega)]
      · cases h
  | left, a, v, p :: q :: t, h4, hl, ha, hb, h => by
    rw [numL] at h
    rw [numP]
    cases hp : pieceV p with
    | none => rw [hp] at h; cases h
    | some n =>
      have hn := pieceV_le hp
      rw [hp, Option.bind_some] at h
      by_cases h2 : 255 < n
      · rw [if_pos (by omega)] at h; cases h
      · rw [if_neg (by omega)] at h
        simp only [if_neg h2]
        cases hr : numL (left - 1) (q :: t) with
        | none => rw [hr] at h; cases h
        | some w =>
          rw [hr] at h
          simp at h
          subst h
          simp at hl
          obtain ⟨Q, hQ⟩ : ∃ Q : Int, 2 ^ (8 * (left - 1)) = Q := ⟨_, rfl⟩
          have hQ0 : 0 < Q := by rw [← hQ]; exact Int.pow_pos (by omega)
          have hQ1 : (2 : Int) ^ (8 * left) = 256 * Q := by rw [← hQ, show 8 * left = 8 * (left - 1) + 8 by omega, Int.pow_add]; omega
          rw [hQ1] at hb
          have hm0 : 0 ≤ n * Q := Int.mul_nonneg hn.1 (by omega)
          have hm1 : n * Q ≤ 255 * Q := Int.mul_le_mul_of_nonneg_right (by omega) (by omega)
          rw [hQ, Int.emod_eq_of_lt (by omega) (by omega)]
          rw [numP_some (left := left - 1) (a := a + n * Q) (v := w) (by omega) (by simp; omega) (by omega) (by rw [hQ]; omega) hr]
          rw [Int.add_assoc]
theorem strsAt_tail {h : Heap} {b o n : Nat} {p : List Int} {y : List (List Int)} (hs : strsAt h b o n = some (p :: y)) : strsAt h b (o + 1) (n - 1) = some y := by
  obtain ⟨st, x, c, hg, hld, hn, hc⟩ := strsAt_eq hs
  simp only [List.length_cons] at hn
  unfold strsAt
  rw [hg]
  have e : ldN c (o + 1) (n - 1) = some (sts y) := by
    unfold ldN at hld ⊢
    split at hld
    · rename_i hb
      rw [if_pos (by omega)]
      have h1 := Option.some.inj hld
      have h2 := congrArg List.tail h1
      rw [show (sts (p :: y)).tail = sts y from rfl] at h2
      rw [← h2, ← List.drop_one, List.drop_take, List.drop_drop]
    · cases hld
  simp only [e, strsV_map]
def pNumC (k : Nat) : Ct := fun args h => match args with | [.i .u32 a, .i .i64 z, .sl b o n 1] => (match strsAt h b o n with | some y => if n ≤ k ∧ 1 ≤ n ∧ (n : Int) ≤ z ∧ z ≤ 4 ∧ (∀ p ∈ y, p.length ≤ 1048576) then some (.tup [.i .u32 (numP z.toNat a y).1, .b (numP z.toNat a y).2], h) else none | none => none) | _ => none
theorem pNum_ok : ∀ k, CtOk Tryz.prog G0 248 (pNumC k)
  | 0 => by
    intro args h v h' hc
    unfold pNumC at hc
    split at hc
    · split at hc
      · split at hc
        · rename_i h1; exact absurd h1.2.1 (by omega)
        · cases hc
      · cases hc
    · cases hc
  | k + 1 => by
    refine ct_plain (n := 3) fol (sound_cons pPart_ok (sound_cons (pNum_ok k) sound_nil)) (by kernel_rfl) Tryz.func248 rfl fun args h v h' hc r xs H hr hx => ?_
    unfold pNumC at hc
    split at hc
    · split at hc
      · split at hc
        · rename_i a z b o n _ y hy hl
          cases hc
          obtain ⟨hk, hn1, hz1, hz4, hyl⟩ := hl
          obtain ⟨st, xx, c, hg, hld, hn, hcc⟩ := strsAt_eq hy
          refine ⟨rfl, rfl, by simp [renV, bndV, renL, bndL], ?_⟩
          obtain ⟨ha, _⟩ := int_of hx
          have ha : 0 ≤ a ∧ a < 4294967296 := by simpa [lo, hi, IntKind.signed, IntKind.bits] using ha
          match y, hn, hyl, hcc, hy with
          | [], hn, _, _, _ => simp at hn; omega
          | p :: t, hn, hyl, hcc, hy =>
            have hpl := hyl p List.mem_cons_self
            have hp0 := hcc 0 (by simp)
            simp only [Nat.add_zero, List.getElem_cons_zero] at hp0
            have n0 : (0 : Int) < n := by omega
            have n0' : 0 < n := hn1
            cases hpv : pieceV p with
            | none =>
              have hR : numP z.toNat a (p :: t) = (0, false) := by
                match t with
                | [] => rw [numP, hpv]
                | q :: u => rw [numP, hpv]
              simp -implicitDefEqProofs [go_sem, Tryz.f248, hg, hp0, n0, n0', hn1, pPartC, hpl, hpv, okV, hR]
            | some m =>
              have hm := pieceV_le hpv
              match t, hn, hyl, hy with
              | [], hn, _, _ =>
                simp at hn
                subst hn
                rw [numP, hpv]
                have m1 : m % 4294967296 = m := by omega
                have hz : z = 1 ∨ z = 2 ∨ z = 3 ∨ z = 4 := by omega
                rcases hz with rfl | rfl | rfl | rfl
                all_goals
                  simp -implicitDefEqProofs [go_sem, Tryz.f248, hg, hp0, pPartC, hpl, hpv, okV, wu32m, m1, w64]
              | q :: u, hn, hyl, hy =>
                have htail := strsAt_tail hy
                obtain ⟨j, rfl⟩ : ∃ j, n = j + 1 := ⟨n - 1, by omega⟩
                rw [Nat.add_sub_cancel] at htail
                have hj : 1 ≤ j := by simp at hn; omega
                have hj0 : 0 < j := hj
                have hjk : j ≤ k := by omega
                have hyl2 : ∀ x ∈ q :: u, x.length ≤ 1048576 := fun x hx => hyl x (List.mem_cons_of_mem _ hx)
                have j1 : ((j : Int) + 1 = 1) = False := eq_false (by omega)
                have j2 : (0 : Int) < (j : Int) + 1 := by omega
                have j3 : (1 : Int) ≤ (j : Int) + 1 := by omega
                have j4 : ¬ j = 0 := by omega
                have j5 : ((j : Int) = 0) = False := eq_false (by omega)
                rw [numP, hpv]
                simp only
                have m1 : m % 4294967296 = m := by omega
                by_cases c2 : 255 < m
                · rw [if_pos c2]
                  simp -implicitDefEqProofs [go_sem, Tryz.f248, hg, hp0, pPartC, hpl, hpv, okV, c2, j1, j2, j3, j4, j5]
                · rw [if_neg c2]
                  have m2 : m * 256 % 4294967296 = m * 256 := by omega
                  have m3 : m * 65536 % 4294967296 = m * 65536 := by omega
                  have m4 : m * 16777216 % 4294967296 = m * 16777216 := by omega
                  have z1 : (j : Int) ≤ z - 1 := by simp at hz1; omega
                  have hz : z = 2 ∨ z = 3 ∨ z = 4 := by simp at hz1; omega
                  rcases hz with rfl | rfl | rfl
                  all_goals
                    simp at z1
                    simp -implicitDefEqProofs [go_sem, Tryz.f248, hg, hp0, pPartC, hpl, hpv, okV, c2, j1, j2, j3, j4, j5, wu32m, m1, m2, m3, m4, w64, htail, pNumC, hj, hj0, hjk, eq_true hyl2, -List.mem_cons, z1]
        · cases hc
      · cases hc
    · cases hc
end GoD

/-! Addresses as the program answers them: texts. -/
namespace GoD
open Go Go.Proofs
set_option linter.unusedVariables false
set_option linter.unusedSimpArgs false
set_option maxHeartbeats 4000000
set_option maxRecDepth 100000
theorem strsAt_of {h : Heap} {b st n : Nat} {x : Bool} {z : List (List Int)} (hg : hget h b = ⟨st + 1, x, sts z⟩) (hn : n ≤ z.length) : strsAt h b 0 n = some (z.take n) := by
  unfold strsAt
  rw [hg]
  have e : ldN (sts z) 0 n = some (sts (z.take n)) := by
    rw [ldN, if_pos (by rw [sts_len]; omega), List.drop_zero]
    congr 1
    simp [sts]
  simp only [e, strsV_map]
def pNumberC : Ct := fun args h => match args with | [.s l] => if l.length ≤ 1048576 then some (.tup [.i .u32 (okV (numberL l)).1, .b (okV (numberL l)).2], h) else none | _ => none
theorem pNumber_ok : CtOk Tryz.prog G0 183 pNumberC := by
  refine ct_plain (n := 1) fol (sound_cons pParts_ok (sound_cons (pNum_ok 4) sound_nil)) (by kernel_rfl) Tryz.func183 rfl fun args h v h' hc r xs H hr hx => ?_
  unfold pNumberC at hc
  split at hc <;> (try split at hc) <;> cases hc
  rename_i l hl
  refine ⟨rfl, rfl, by simp [renV, bndV, renL, bndL], ?_⟩
  obtain ⟨z, hz⟩ : ∃ z, splitL 46 l = z := ⟨_, rfl⟩
  obtain ⟨y, hy⟩ : ∃ y, partsL l = y := ⟨_, rfl⟩
  have hyz : y = z.take y.length := by rw [← hy, ← hz]; exact partsL_take l
  have hy0 : y ≠ [] := hy ▸ partsL_ne l
  have hyl : y.length ≤ z.length := by have := congrArg List.length hyz; simp at this; omega
  have hzl : ∀ p ∈ z, p.length ≤ 1048576 := fun p hp => Nat.le_trans (splitL_mem (hz ▸ hp)) hl
  have hyl2 : ∀ p ∈ y, p.length ≤ 1048576 := fun p hp => hzl p (by rw [hyz] at hp; exact List.mem_of_mem_take hp)
  obtain ⟨v, hv⟩ : ∃ v, numberL l = v := ⟨_, rfl⟩
  rw [hv]
  have hp0 : 1 ≤ y.length := List.length_pos_iff.2 hy0
  by_cases c1 : 4 < y.length
  · have : v = none := by rw [← hv]; unfold numberL; rw [hy, if_pos c1]
    subst this
    have c1' : (4 : Int) < y.length := by omega
    simp -implicitDefEqProofs [go_sem, Tryz.f183, pPartsC, hl, hy, hz, c1', c1, okV]
  · have hv' : numL 4 y = v := by rw [← hv]; unfold numberL; rw [hy, if_neg c1]
    have c1' : ¬ (4 : Int) < y.length := by omega
    have c2 : (y.length : Int) ≤ 4 := by omega
    have c3 : y.length ≤ 4 := by omega
    have hat : ∀ (h : Heap) (b : Nat) (x : Bool), hget h b = ⟨2, x, sts z⟩ → strsAt h b 0 y.length = some y := by
      intro h b x hg
      rw [strsAt_of (st := 1) hg hyl, ← hyz]
    have hp0' : 0 < y.length := hp0
    cases v with
    | none =>
      have hP := numP_none (a := 0) hv'
      have hat1 := hat (h ++ [⟨2, true, sts z⟩]) h.length true (by rw [hget_at0 rfl]; rfl)
      simp -implicitDefEqProofs [go_sem, Tryz.f183, pPartsC, hl, hy, hz, c1', c1, okV, pNumC, hat1, c2, c3, hp0, hp0', eq_true hyl2, hP]
    | some n =>
      have hP := numP_some (a := 0) (by omega) c3 (by omega) (by decide) hv'
      rw [Int.zero_add] at hP
      have hat1 := hat (h ++ [⟨2, true, sts z⟩]) h.length true (by rw [hget_at0 rfl]; rfl)
      simp -implicitDefEqProofs [go_sem, Tryz.f183, pPartsC, hl, hy, hz, c1', c1, okV, pNumC, hat1, c2, c3, hp0, hp0', eq_true hyl2, hP]
theorem bytesV_eq : ∀ {c : List V} {l : List Int}, bytesV c = some l → c = bts l
  | [], l, h => by simp [bytesV] at h; subst h; rfl
  | v :: c, l, h => by
    cases v with
    | i k n =>
      cases k <;> simp [bytesV] at h
      obtain ⟨a, h1, rfl⟩ := h
      rw [bytesV_eq h1]; rfl
    | _ => simp [bytesV] at h
def pRevC : Ct := fun args h => match args with
  | [.sl b 0 n 1] => match hget h b with
    | ⟨2, x, c⟩ => match bytesV c with
      | some X => if X.length = n ∧ b < h.length then some (.tup [], h.set b ⟨2, x, bts X.reverse⟩) else none
      | none => none
    | _ => none
  | _ => none
theorem pRev_ok : CtOk Tryz.prog G0 283 pRevC := by
  refine ct_run (n := 1) fol sound_nil (by kernel_rfl) Tryz.func283 rfl fun args h v h' hc r xs H hr hx => ?_
  unfold pRevC at hc
  split at hc
  · split at hc
    · split at hc
      · split at hc
        · rename_i b n _ x c hg _ X hX hl
          obtain ⟨hXn, hb⟩ := hl
          have hc2 := bytesV_eq hX
          subst hc2
          cases hc
          have hn6 := (sl_of hx).1
          refine ⟨rfl, ?_⟩
          have w0 : IntKind.i64.wrap ((n : Int) - 1) = (n : Int) - 1 := w64 (by omega)
          simp -implicitDefEqProofs [go_sem, Tryz.f283, w0]
          clear w0
          refine run_inv _ _ _ _ _ (fun (x1 : Nat × List Int) t h1 => x1.1 ≤ n ∧ x1.2.length = n ∧ get t 0 = .sl b 0 n 1 ∧ get t 2 = .i .i64 x1.1 ∧ get t 3 = .i .i64 ((n : Int) - 1 - x1.1) ∧ (∀ k, k < n → x1.2.getD k 0 = if k < x1.1 ∨ n ≤ k + x1.1 then X.getD (n - 1 - k) 0 else X.getD k 0) ∧ h1 = h.set b ⟨2, x, bts x1.2⟩) (fun x1 => n - x1.1) _ (x := (0, X)) ⟨by simp, hXn, by simp -implicitDefEqProofs [go_sem], by simp -implicitDefEqProofs [go_sem], by simp -implicitDefEqProofs [go_sem], fun k hk => by rw [if_neg (by omega)], (set_same hb hg).symm⟩ ?_
          rintro ⟨i, Y⟩ t h1 ⟨hi, hYn, t0, t2, t3, hY, hh⟩ ih
          simp only at hi hYn t2 t3 hY hh
          have hg1 : hget h1 b = ⟨2, x, bts Y⟩ := by rw [hh, hget_set, if_pos ⟨rfl, hb⟩]
          have hb1 : b < h1.length := by rw [hh, List.length_set]; exact hb
          by_cases hlt : (i : Int) < (n : Int) - 1 - i
          · obtain ⟨j, hj⟩ : ∃ j : Nat, (n : Int) - 1 - i = j := ⟨n - 1 - i, by omega⟩
            rw [hj] at t3 hlt
            have hi6 : i < 1152921504606846976 := by omega
            have hin : i < Y.length := by omega
            have hjn : j < Y.length := by omega
            have hin2 : i < n := by omega
            have hjn2 : j < n := by omega
            have hin3 : (i : Int) < n := by omega
            have hjn3 : (j : Int) < n := by omega
            have hij : i < j := by omega
            have hij2 : j ≠ i := by omega
            have hij3 : i ≠ j := by omega
            obtain ⟨c, hc⟩ : ∃ c, Y[i] = c := ⟨_, rfl⟩
            obtain ⟨d, hd⟩ : ∃ d, Y[j] = d := ⟨_, rfl⟩
            have e1 := ldN_b1 hin
            have e2 := ldN_b1 hjn
            rw [hc] at e1
            rw [hd] at e2
            simp -implicitDefEqProofs [go_sem, Tryz.f283, t0, t2, t3, hlt, hin, hjn, hin2, hjn2, hin3, hjn3, hij, hg1, hb1, e1, e2, bts_set, hYn, show i + 1 ≤ n by omega, show j + 1 ≤ n by omega, List.set_set]
            refine ih (i + 1, (Y.set i d).set j c) _ _ (by simp; omega) ⟨by simp; omega, by simp [hYn], ?_, ?_, ?_, ?_, ?_⟩
            · simp -implicitDefEqProofs [go_sem, t0]
            · simp -implicitDefEqProofs [go_sem, t2, i64_n hi6]
            · simp -implicitDefEqProofs [go_sem, t3, w64 (x := (j : Int) - 1) (by omega)]
              omega
            · intro k hk
              have hk0 := hY k hk
              have hi0 := hY i hin2
              have hj0 := hY j hjn2
              rw [if_neg (by omega), getD_of hin hc] at hi0
              rw [if_neg (by omega), getD_of hjn hd] at hj0
              simp only [List.getD_eq_getElem?_getD, List.getElem?_set, List.length_set]
              by_cases k1 : j = k
              · subst k1
                rw [if_pos rfl, if_pos hjn, if_pos (by omega)]
                rw [hi0, show n - 1 - j = i by omega, List.getD_eq_getElem?_getD]; rfl
              · rw [if_neg k1]
                by_cases k2 : i = k
                · subst k2
                  rw [if_pos rfl, if_pos hin, if_pos (by omega)]
                  rw [hj0, show n - 1 - i = j by omega, List.getD_eq_getElem?_getD]; rfl
                · rw [if_neg k2]
                  simp only [List.getD_eq_getElem?_getD] at hk0
                  rw [hk0]
                  by_cases k3 : k < i ∨ n ≤ k + i
                  · rw [if_pos k3, if_pos (by omega)]
                  · rw [if_neg k3, if_neg (by omega)]
            · simp [hh, List.set_set]
          · have hrev : Y = X.reverse := by
              apply List.ext_getElem (by simp; omega)
              intro k h1 h2
              have h3 := hY k (by omega)
              have h4 : X.getD (n - 1 - k) 0 = (X.reverse)[k] := by
                rw [List.getElem_reverse, List.getD_eq_getElem?_getD, List.getElem?_eq_getElem (by omega)]
                simp [hXn]
              rw [List.getD_eq_getElem?_getD, List.getElem?_eq_getElem h1] at h3
              simp only [Option.getD_some] at h3
              rw [h3, ← h4]
              split
              · rfl
              · congr 1; omega
            simp -implicitDefEqProofs [go_sem, Tryz.f283, t0, t2, t3, hlt]
            rw [hh, hrev]
            exact Trim.own (by simp [renV, bndV, renL, bndL]) (bts_flat _) (Ext.refl _)
        · cases hc
      · cases hc
    · cases hc
  · cases hc
theorem decD_first (u : Nat) : (48 + ((u % 10 : Nat) : Int)) :: revD (u / 10) = (decD u).reverse := by
  by_cases h : u = 0
  · subst h; rw [decD]; simp [revD_0]
  · rw [decD_rev (by omega), List.reverse_reverse]
    exact (revD_s (by omega)).symm
def pDecimalC : Ct := fun args h => match args with | [.i .i64 n] => if 0 ≤ n then some (.s (decD n.toNat), h) else none | _ => none
theorem pDecimal_ok : CtOk Tryz.prog G0 249 pDecimalC := by
  refine ct_plain (n := 1) fol (sound_cons pRev_ok sound_nil) (by kernel_rfl) Tryz.func249 rfl fun args h v h' hc r xs H hr hx => ?_
  unfold pDecimalC at hc; split at hc <;> (try split at hc) <;> cases hc
  rename_i n hn0
  obtain ⟨hb, _⟩ := int_of hx
  have hb : -9223372036854775808 ≤ n ∧ n < 9223372036854775808 := by simpa [lo, hi, IntKind.signed, IntKind.bits] using hb
  refine ⟨rfl, rfl, by simp [renV, bndV], ?_⟩
  obtain ⟨u, rfl⟩ : ∃ u : Nat, n = u := ⟨n.toNat, by omega⟩
  rw [Int.toNat_natCast]
  have hul : (revD (u / 10)).length ≤ 20 := revD_len 20 _ (by omega)
  have hneg : ¬ (u : Int) < 0 := by omega
  have d1 : (48 + ((u : Int) % 10)) % 256 = 48 + (u : Int) % 10 := by omega
  have w1 : IntKind.u64.wrap (u : Int) = u := wu64 (by omega)
  have w2 : IntKind.u64.wrap (48 + (u : Int) % 10) = 48 + (u : Int) % 10 := wu64 (by omega)
  have w3 : IntKind.u64.wrap ((u : Int) / 10) = (u : Int) / 10 := wu64 (by omega)
  have w4 : IntKind.u64.wrap ((u : Int) % 10) = (u : Int) % 10 := wu64 (by omega)
  simp -implicitDefEqProofs [go_sem, Tryz.f249, hneg, w1, tmod10, tdiv10, w2, w3, w4, d1]
  clear w1 w2 w3 w4
  refine run_inv _ _ _ _ _ (fun (x : Nat × Nat × Bool × List Int) t h1 => get t 4 = .s [] ∧ get t 3 = .i .u64 x.1 ∧ get t 5 = .sl x.2.1 0 x.2.2.2.length 1 ∧ hget h1 x.2.1 = ⟨2, x.2.2.1, bts x.2.2.2⟩ ∧ h.length ≤ x.2.1 ∧ x.2.1 < h1.length ∧ Ext h h1 ∧ x.1 ≤ u / 10 ∧ x.2.2.2 ++ revD x.1 = (decD u).reverse) (fun x => x.1) _ (x := (u / 10, h.length, true, [48 + ((u % 10 : Nat) : Int)])) ⟨by simp -implicitDefEqProofs [go_sem], by simp -implicitDefEqProofs [go_sem], by simp -implicitDefEqProofs [go_sem], by simp -implicitDefEqProofs [go_sem, bts], by simp, by simp, by simp -implicitDefEqProofs [go_sem], by simp, by rw [← decD_first]; rfl⟩ ?_
  rintro ⟨v, m, x, acc⟩ t h1 ⟨t4, t3, t5, hg, hm, hm', he, hv, ha⟩ ih
  simp only at t3 t5 hg hm hm' hv ha
  have hdl : (decD u).length ≤ 21 := by rw [← List.length_reverse, ← decD_first]; simp; omega
  have hal' : acc.length ≤ 21 := by have := congrArg List.length ha; simp at this; omega
  have hal : acc.length + 1 ≤ 1099511627776 := by omega
  have hmn : m ≠ h1.length := by omega
  by_cases h3 : 0 < v
  · have d2 : (48 + ((v : Int) % 10)) % 256 = 48 + (v : Int) % 10 := by omega
    simp -implicitDefEqProofs [go_sem, Tryz.f249, t3, t4, t5, h3, hg, hm', ldN_b rfl, hal, hmn, tmod10, tdiv10]
    refine ih (v / 10, h1.length + 1, false, acc ++ [48 + (v : Int) % 10]) _ _ (by simp; omega) ?_
    simp -implicitDefEqProofs [go_sem, t3, t4, t5, wu64 (x := 48 + (v : Int) % 10) (by omega), wu64 (x := (v : Int) / 10) (by omega), d2, he, hm]
    refine ⟨by omega, by omega, ?_⟩
    rw [← ha, revD_s h3]; rfl
  · have hv0 : v = 0 := by omega
    subst hv0
    rw [revD_0, List.append_nil] at ha
    have hr : acc.reverse = decD u := by rw [ha, List.reverse_reverse]
    have hrl : acc.reverse.length = acc.length := by simp
    rw [hr] at hrl
    have hdl' : (decD u).length ≤ 281474976710656 := by omega
    simp -implicitDefEqProofs [go_sem, Tryz.f249, t3, t4, t5, hg, hm', pRevC, hr, ldN_b hrl, he, hm, Ext.set, hdl']
def pTextC : Ct := fun args h => match args with | [.i .u32 a] => some (.s (textL a), h) | _ => none
theorem pText_ok : CtOk Tryz.prog G0 184 pTextC := by
  refine ct_plain (n := 1) fol (sound_cons pDecimal_ok sound_nil) (by kernel_rfl) Tryz.func184 rfl fun args h v h' hc r xs H hr hx => ?_
  unfold pTextC at hc; split at hc <;> (try split at hc) <;> cases hc
  rename_i a
  obtain ⟨hb, _⟩ := int_of hx
  have hb : 0 ≤ a ∧ a < 4294967296 := by simpa [lo, hi, IntKind.signed, IntKind.bits] using hb
  refine ⟨rfl, rfl, by simp [renV, bndV], ?_⟩
  obtain ⟨d1, e1⟩ : ∃ d, decD (a / 16777216).toNat = d := ⟨_, rfl⟩
  obtain ⟨d2, e2⟩ : ∃ d, decD (a / 65536 % 256).toNat = d := ⟨_, rfl⟩
  obtain ⟨d3, e3⟩ : ∃ d, decD (a / 256 % 256).toNat = d := ⟨_, rfl⟩
  obtain ⟨d4, e4⟩ : ∃ d, decD (a % 256).toNat = d := ⟨_, rfl⟩
  have l1 := decD_len (a / 16777216).toNat (by omega)
  have l2 := decD_len (a / 65536 % 256).toNat (by omega)
  have l3 := decD_len (a / 256 % 256).toNat (by omega)
  have l4 := decD_len (a % 256).toNat (by omega)
  rw [e1] at l1; rw [e2] at l2; rw [e3] at l3; rw [e4] at l4
  have ht : textL a = d1 ++ [46] ++ d2 ++ [46] ++ d3 ++ [46] ++ d4 := by rw [textL, e1, e2, e3, e4]
  rw [ht]
  have p1 : 0 ≤ a / 16777216 := by omega
  have p2 : 0 ≤ a / 65536 % 256 := by omega
  have p3 : 0 ≤ a / 256 % 256 := by omega
  have p4 : 0 ≤ a % 256 := by omega
  have k2 : d1.length + 1 ≤ 281474976710656 := by omega
  have k3 : d1.length + 1 + d2.length ≤ 281474976710656 := by omega
  have k3' : d1.length + (d2.length + 1) ≤ 281474976710656 := by omega
  have k4 : d1.length + (d2.length + 1) + 1 ≤ 281474976710656 := by omega
  have k5 : d1.length + (d2.length + 1 + 1) + d3.length ≤ 281474976710656 := by omega
  have k6 : d1.length + (d2.length + (d3.length + 1) + 1) + 1 ≤ 281474976710656 := by omega
  have k7 : d1.length + (d2.length + (d3.length + 1 + 1) + 1) + d4.length ≤ 281474976710656 := by omega
  simp -implicitDefEqProofs [go_sem, Tryz.f184, pDecimalC, and255 (c := a / 65536) (by omega), and255 (c := a / 256) (by omega), and255 (c := a) (by omega), w64 (x := a / 16777216) (by omega), w64 (x := a / 65536 % 256) (by omega), w64 (x := a / 256 % 256) (by omega), w64 (x := a % 256) (by omega), p1, p2, p3, p4, e1, e2, e3, e4, k2, k3, k3', k4, k5, k6, k7]
def pAddressC : Ct := fun args h => match args with | [.s l] => if l.length ≤ 1048576 then some (.tup [.i .u32 (okV (addrL l)).1, .b (okV (addrL l)).2], h) else none | _ => none
theorem pAddress_ok : CtOk Tryz.prog G0 112 pAddressC := by
  refine ct_plain (n := 1) fol (sound_cons pNumber_ok (sound_cons pText_ok sound_nil)) (by kernel_rfl) Tryz.func112 rfl fun args h v h' hc r xs H hr hx => ?_
  unfold pAddressC at hc; split at hc <;> (try split at hc) <;> cases hc
  rename_i l hl
  refine ⟨rfl, rfl, by simp [renV, bndV, renL, bndL], ?_⟩
  cases hn : numberL l with
  | none => simp -implicitDefEqProofs [go_sem, Tryz.f112, pNumberC, pTextC, hl, hn, okV, addrL]
  | some n =>
    by_cases h1 : textL n = l
    · simp -implicitDefEqProofs [go_sem, Tryz.f112, pNumberC, pTextC, hl, hn, okV, addrL, h1]
    · simp -implicitDefEqProofs [go_sem, Tryz.f112, pNumberC, pTextC, hl, hn, okV, addrL, h1]
end GoD

/-! Schemes, hosts, ports and paths as the program matches them. -/
namespace GoD
open Go Go.Proofs
set_option linter.unusedVariables false
set_option linter.unusedSimpArgs false
set_option maxHeartbeats 4000000
set_option maxRecDepth 100000
def pDefaultC : Ct := fun args h => match args with | [.s l] => some (.tup [.i .i64 (defaultL l).1, .b (defaultL l).2], h) | _ => none
theorem pDefault_ok : CtOk Tryz.prog G0 174 pDefaultC := by
  refine ct_plain (n := 1) fol sound_nil (by kernel_rfl) Tryz.func174 rfl fun args h v h' hc r xs H hr hx => ?_
  unfold pDefaultC at hc; split at hc <;> (try split at hc) <;> cases hc
  rename_i l
  refine ⟨rfl, rfl, by simp [renV, bndV, renL, bndL], ?_⟩
  by_cases h1 : l = [104, 116, 116, 112]
  · simp -implicitDefEqProofs [go_sem, Tryz.f174, defaultL, h1]
  by_cases h2 : l = [119, 115]
  · simp -implicitDefEqProofs [go_sem, Tryz.f174, defaultL, h2]
  by_cases h3 : l = [104, 116, 116, 112, 115]
  · simp -implicitDefEqProofs [go_sem, Tryz.f174, defaultL, h3]
  by_cases h4 : l = [119, 115, 115]
  · simp -implicitDefEqProofs [go_sem, Tryz.f174, defaultL, h4]
  by_cases h5 : l = [102, 116, 112]
  · simp -implicitDefEqProofs [go_sem, Tryz.f174, defaultL, h5]
  · simp -implicitDefEqProofs [go_sem, Tryz.f174, defaultL, h1, h2, h3, h4, h5]
def pPortC : Ct := fun args h => match args with | [.agg [.s a, .s b, .s c, .s d, .i .i64 p, .s e, .b q, .s f, .b g, .s k]] => some (.i .i64 (portL a p), h) | _ => none
theorem pPort_ok : CtOk Tryz.prog G0 107 pPortC := by
  refine ct_plain (n := 1) fol (sound_cons pDefault_ok sound_nil) (by kernel_rfl) Tryz.func107 rfl fun args h v h' hc r xs H hr hx => ?_
  unfold pPortC at hc; split at hc <;> (try split at hc) <;> cases hc
  rename_i a b c d p e q f g k
  refine ⟨rfl, rfl, by simp [renV, bndV, renL, bndL], ?_⟩
  by_cases h1 : p = -1
  · simp -implicitDefEqProofs [go_sem, Tryz.f107, h1, portL, pDefaultC]
  · simp -implicitDefEqProofs [go_sem, Tryz.f107, h1, portL, pDefaultC]
def pOfC : Ct := fun args h => match args with | [.agg [.s a, .s b, .s c, .s d, .i .i64 p, .s e, .b q, .s f, .b g, .s k]] => some (.agg [.s a, .s d, .i .i64 (portL a p)], h) | _ => none
theorem pOf_ok : CtOk Tryz.prog G0 43 pOfC := by
  refine ct_plain (n := 1) fol (sound_cons pPort_ok sound_nil) (by kernel_rfl) Tryz.func43 rfl fun args h v h' hc r xs H hr hx => ?_
  unfold pOfC at hc; split at hc <;> (try split at hc) <;> cases hc
  rename_i a b c d p e q f g k
  refine ⟨rfl, rfl, by simp [renV, bndV, renL, bndL], ?_⟩
  simp -implicitDefEqProofs [go_sem, Tryz.f43, pPortC]
def pOSameC : Ct := fun args h => match args with | [.agg [.s a, .s b, .i .i64 p], .agg [.s c, .s d, .i .i64 q]] => some (.b (decide (a = c) && decide (b = d) && decide (p = q) && !oNull a b p), h) | _ => none
theorem pOSame_ok : CtOk Tryz.prog G0 44 pOSameC := by
  refine ct_plain (n := 2) fol sound_nil (by kernel_rfl) Tryz.func44 rfl fun args h v h' hc r xs H hr hx => ?_
  unfold pOSameC at hc; split at hc <;> (try split at hc) <;> cases hc
  rename_i a b p c d q
  refine ⟨rfl, rfl, by simp [renV, bndV, renL, bndL], ?_⟩
  have zz := oNull_eq a b p
  cases h0 : oNull a b p with
  | true =>
    simp -implicitDefEqProofs [go_sem, Tryz.f44, zz, h0]
  | false =>
    by_cases h1 : a = c
    · by_cases h2 : b = d
      · by_cases h3 : p = q
        · simp -implicitDefEqProofs [go_sem, Tryz.f44, zz, h0, eq_true h1, eq_true h2, eq_true h3]
        · simp -implicitDefEqProofs [go_sem, Tryz.f44, zz, h0, eq_true h1, eq_true h2, h3]
      · simp -implicitDefEqProofs [go_sem, Tryz.f44, zz, h0, eq_true h1, h2]
    · simp -implicitDefEqProofs [go_sem, Tryz.f44, zz, h0, h1]
def pSchemeC : Ct := fun args h => match args with | [.s a, .s b] => some (.b (schemeB a b), h) | _ => none
theorem pScheme_ok : CtOk Tryz.prog G0 289 pSchemeC := by
  refine ct_plain (n := 2) fol (sound_cons pAny_ok sound_nil) (by kernel_rfl) Tryz.func289 rfl fun args h v h' hc r xs H hr hx => ?_
  unfold pSchemeC at hc; split at hc <;> (try split at hc) <;> cases hc
  rename_i a b
  refine ⟨rfl, rfl, by simp [renV, bndV, renL, bndL], ?_⟩
  by_cases h1 : a = b
  · simp -implicitDefEqProofs [go_sem, Tryz.f289, schemeB, pAnyC, strsAt, strsV, hget_new, eq_true h1]
  · by_cases h2 : a = [104, 116, 116, 112]
    · by_cases h3 : b = [104, 116, 116, 112, 115]
      · simp -implicitDefEqProofs [go_sem, Tryz.f289, schemeB, pAnyC, strsAt, strsV, hget_new, h1, eq_true h2, eq_true h3]
      · simp -implicitDefEqProofs [go_sem, Tryz.f289, schemeB, pAnyC, strsAt, strsV, hget_new, h1, eq_true h2, h3] <;> (intro e; rw [h2] at e; exact absurd e (by decide))
    · by_cases h4 : a = [119, 115, 115]
      · by_cases h3 : b = [104, 116, 116, 112, 115]
        · simp -implicitDefEqProofs [go_sem, Tryz.f289, schemeB, pAnyC, strsAt, strsV, hget_new, h1, h2, eq_true h4, eq_true h3]
        · simp -implicitDefEqProofs [go_sem, Tryz.f289, schemeB, pAnyC, strsAt, strsV, hget_new, h1, h2, eq_true h4, h3] <;> (intro e; rw [h4] at e; exact absurd e (by decide))
      · by_cases h5 : a = [119, 115]
        · by_cases h6 : b = [119, 115, 115]
          · simp -implicitDefEqProofs [go_sem, Tryz.f289, schemeB, pAnyC, strsAt, strsV, hget_new, h1, h2, h4, eq_true h5, eq_true h6]
          · by_cases h7 : b = [104, 116, 116, 112]
            · simp -implicitDefEqProofs [go_sem, Tryz.f289, schemeB, pAnyC, strsAt, strsV, hget_new, h1, h2, h4, eq_true h5, h6, eq_true h7]
            · by_cases h3 : b = [104, 116, 116, 112, 115]
              · simp -implicitDefEqProofs [go_sem, Tryz.f289, schemeB, pAnyC, strsAt, strsV, hget_new, h1, h2, h4, eq_true h5, h6, h7, eq_true h3]
              · simp -implicitDefEqProofs [go_sem, Tryz.f289, schemeB, pAnyC, strsAt, strsV, hget_new, h1, h2, h4, eq_true h5, h6, h7, h3]
        · simp -implicitDefEqProofs [go_sem, Tryz.f289, schemeB, pAnyC, strsAt, strsV, hget_new, h1, h2, h4, h5]
theorem headB_star (p : List Int) : headB p [42, 46] = starB p := by
  unfold headB starB
  by_cases h : 2 ≤ p.length
  · simp [h]
  · have : ¬ p.take 2 = [42, 46] := fun e => by have := congrArg List.length e; simp at this; omega
    simp [this]
def pHostC : Ct := fun args h => match args with | [.s p, .s l] => if l.length ≤ 1048576 then some (.b (hostB p l), h) else none | _ => none
theorem pHost_ok : CtOk Tryz.prog G0 48 pHostC := by
  refine ct_plain (n := 2) fol (sound_cons pAddress_ok (sound_cons pHasPre_ok (sound_cons pHasSuf_ok sound_nil))) (by kernel_rfl) Tryz.func48 rfl fun args h v h' hc r xs H hr hx => ?_
  unfold pHostC at hc; split at hc <;> (try split at hc) <;> cases hc
  rename_i p l hl
  obtain ⟨⟨hs, hpl⟩, _⟩ := str_of hx
  refine ⟨rfl, rfl, by simp [renV, bndV, renL, bndL], ?_⟩
  obtain ⟨res, hE⟩ : ∃ x, hostB p l = x := ⟨_, rfl⟩
  rw [hE]
  unfold hostB at hE
  rw [← headB_star] at hE
  by_cases h1 : l = []
  · rw [if_pos h1] at hE
    subst hE
    simp -implicitDefEqProofs [go_sem, Tryz.f48, pAddressC, hl, eq_true h1, okV_2]
  rw [if_neg h1] at hE
  by_cases h2 : p = [42]
  · rw [if_pos h2] at hE
    subst hE
    simp -implicitDefEqProofs [go_sem, Tryz.f48, pAddressC, hl, h1, eq_true h2, okV_2]
  rw [if_neg h2] at hE
  cases h3 : headB p [42, 46] with
  | true =>
    rw [h3, if_pos rfl] at hE
    have g1 := headB_le h3
    simp at g1
    have g2 : (1 : Int) ≤ p.length := by omega
    cases ha : (addrL l).isNone with
    | true =>
      by_cases h5 : p.length ≤ l.length
      · have h5' : (p.length : Int) ≤ l.length := by omega
        rw [ha, decide_eq_true h5] at hE
        simp at hE
        simp -implicitDefEqProofs [go_sem, Tryz.f48, pAddressC, pHasPreC, pHasSufC, hl, h1, h2, h3, okV_2, ha, h5, h5', g2, hE]
      · have h5' : ¬ (p.length : Int) ≤ l.length := by omega
        rw [ha, decide_eq_false h5] at hE
        simp at hE
        subst hE
        simp -implicitDefEqProofs [go_sem, Tryz.f48, pAddressC, pHasPreC, pHasSufC, hl, h1, h2, h3, okV_2, ha, h5, h5']
    | false =>
      rw [ha] at hE
      simp at hE
      subst hE
      simp -implicitDefEqProofs [go_sem, Tryz.f48, pAddressC, pHasPreC, pHasSufC, hl, h1, h2, h3, okV_2, ha]
  | false =>
    rw [h3, if_neg (by simp)] at hE
    by_cases h6 : p = l
    · rw [decide_eq_true h6, Bool.true_and] at hE
      cases ha : (addrL l).isNone with
      | true =>
        rw [ha] at hE
        simp at hE
        subst hE
        simp -implicitDefEqProofs [go_sem, Tryz.f48, pAddressC, pHasPreC, hl, h1, h2, h3, okV_2, ha, eq_true h6]
      | false =>
        rw [ha, Bool.false_or] at hE
        subst hE
        simp -implicitDefEqProofs [go_sem, Tryz.f48, pAddressC, pHasPreC, hl, h1, h2, h3, okV_2, ha, eq_true h6]
    · rw [decide_eq_false h6, Bool.false_and] at hE
      subst hE
      simp -implicitDefEqProofs [go_sem, Tryz.f48, pAddressC, pHasPreC, hl, h1, h2, h3, okV_2, h6]
def pNumSC : Ct := fun args h => match args with | [.s l] => if portP l = true then some (.i .i64 (numD l), h) else none | _ => none
theorem pNumS_ok : CtOk Tryz.prog G0 322 pNumSC := by
  refine ct_plain (n := 1) fol (sound_cons pDigit_ok sound_nil) (by kernel_rfl) Tryz.func322 rfl fun args h v h' hc r xs H hr hx => ?_
  unfold pNumSC at hc; split at hc <;> (try split at hc) <;> cases hc
  rename_i l hp
  obtain ⟨⟨hs, hll⟩, _⟩ := str_of hx
  refine ⟨rfl, rfl, by simp [renV, bndV, renL, bndL], ?_⟩
  unfold portP at hp
  simp only [Bool.and_eq_true, decide_eq_true_eq] at hp
  obtain ⟨hd, hl5⟩ := hp
  simp -implicitDefEqProofs [go_sem, Tryz.f322]
  refine run_inv _ _ _ _ _ (fun (i : Nat) t h1 => i ≤ l.length ∧ get t 0 = .s l ∧ get t 2 = .i .i64 (numD (l.take i)) ∧ get t 5 = .i .i64 l.length ∧ get t 6 = .i .i64 i ∧ h1 = h) (fun i => l.length - i) _ (x := 0) ⟨by simp, by simp -implicitDefEqProofs [go_sem], by simp -implicitDefEqProofs [go_sem, numD], by simp -implicitDefEqProofs [go_sem], by simp -implicitDefEqProofs [go_sem], rfl⟩ ?_
  rintro i t h1 ⟨hi, t0, t2, t5, t6, rfl⟩ ih
  obtain ⟨n0, n1⟩ := numD_le hd i (by omega) hi
  have hp10 : (10 : Int) ^ i ≤ 100000 := by
    have : i = 0 ∨ i = 1 ∨ i = 2 ∨ i = 3 ∨ i = 4 ∨ i = 5 := by omega
    rcases this with rfl | rfl | rfl | rfl | rfl | rfl <;> decide
  by_cases hlt : i < l.length
  · obtain ⟨x, hc⟩ : ∃ x, l[i] = x := ⟨_, rfl⟩
    have hdx := digit_of hd (hc ▸ List.getElem_mem hlt)
    have hb : digitB x = true := decide_eq_true hdx
    have hn := numD_take l hlt
    rw [hc] at hn
    obtain ⟨n, hne⟩ : ∃ n, numD (l.take i) = n := ⟨_, rfl⟩
    rw [hne] at hn n0 n1 t2
    have c1 : ¬ 4294967296 < n := by omega
    have m1 : (x - 48) % 256 = x - 48 := by omega
    simp -implicitDefEqProofs [go_sem, Tryz.f322, t0, t2, t5, t6, hlt, hc, pDigitC, hb, c1, m1]
    refine ih (i + 1) _ _ (by omega) ⟨hlt, ?_⟩
    simp -implicitDefEqProofs [go_sem, t0, t2, t5, t6, i64_n (show i < 1152921504606846976 by omega), w64 (x := 10 * n) (by omega), w64 (x := x - 48) (by omega), w64 (x := 10 * n + (x - 48)) (by omega), hn]
  · have e : i = l.length := by omega
    rw [e, List.take_length] at t2
    simp -implicitDefEqProofs [go_sem, Tryz.f322, t0, t2, t5, t6, hlt]
def pPortMC : Ct := fun args h => match args with | [.s l, .agg [.s a, .s b, .s c, .s d, .i .i64 p, .s e, .b q, .s f, .b g, .s k]] => if l = [] ∨ l = [42] ∨ portP l = true then some (.b (portB l a p), h) else none | _ => none
theorem pPortM_ok : CtOk Tryz.prog G0 290 pPortMC := by
  refine ct_plain (n := 2) fol (sound_cons pPort_ok (sound_cons pDefault_ok (sound_cons pNumS_ok sound_nil))) (by kernel_rfl) Tryz.func290 rfl fun args h v h' hc r xs H hr hx => ?_
  unfold pPortMC at hc; split at hc <;> (try split at hc) <;> cases hc
  rename_i l a b c d p e q f g k hl
  refine ⟨rfl, rfl, by simp [renV, bndV, renL, bndL], ?_⟩
  by_cases h1 : l = []
  · cases h2 : (defaultL a).2 <;> simp -implicitDefEqProofs [go_sem, Tryz.f290, pDefaultC, pPortC, h1, h2, portB]
  by_cases h2 : l = [42]
  · simp -implicitDefEqProofs [go_sem, Tryz.f290, pPortC, h1, h2, portB]
  have hp := (hl.resolve_left h1).resolve_left h2
  have hres : portB l a p = (decide (numD l = portL a p) || (decide (numD l = 80) && decide (portL a p = 443))) := by unfold portB; rw [if_neg h1, if_neg h2]
  rw [hres]
  by_cases c1 : numD l = portL a p
  · simp -implicitDefEqProofs [go_sem, Tryz.f290, h1, h2, pPortC, pNumSC, hp, eq_true c1]
  · by_cases c2 : numD l = 80
    · by_cases c3 : portL a p = 443
      · simp -implicitDefEqProofs [go_sem, Tryz.f290, h1, h2, pPortC, pNumSC, hp, c1, eq_true c2, eq_true c3]
      · simp -implicitDefEqProofs [go_sem, Tryz.f290, h1, h2, pPortC, pNumSC, hp, c1, eq_true c2, c3]
    · simp -implicitDefEqProofs [go_sem, Tryz.f290, h1, h2, pPortC, pNumSC, hp, c1, c2]
end GoD
