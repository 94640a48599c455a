import Derived.Test.YtffoolaocbgknaaGreatDoorPC
/-! Addresses as the program answers them: numbers. -/
namespace GoD
open Go Go.Proofs
set_option linter.unusedVariables false
set_option linter.unusedSimpArgs false
set_option maxHeartbeats 4000000
set_option maxRecDepth 100000
def pPartsC : Ct := fun args h => match args with | [.s l] => if l.length ≤ 1048576 then some (.sl h.length 0 (partsL l).length 1, h ++ [⟨2, true, sts (splitL 46 l)⟩]) else none | _ => none
theorem pParts_ok : CtOk Tryz.prog G0 97 pPartsC := by
  refine ct_run (n := 1) fol (sound_cons pSplit_ok sound_nil) (by kernel_rfl) Tryz.func97 rfl fun args h v h' hc r xs H hr hx => ?_
  unfold pPartsC at hc; split at hc <;> (try split at hc) <;> cases hc
  rename_i l hl
  obtain ⟨⟨hs, _⟩, _⟩ := str_of hx
  refine ⟨rfl, ?_⟩
  have hn := splitL_len 46 l
  obtain ⟨y, hy⟩ : ∃ y, splitL 46 l = y := ⟨_, rfl⟩
  have hy0 : 0 < y.length := List.length_pos_iff.2 (hy ▸ splitL_ne 46 l)
  rw [hy] at hn
  have hp : (partsL l).length = if 1 < y.length ∧ y.getLast? = some [] then y.length - 1 else y.length := by unfold partsL; rw [hy]; split <;> simp
  obtain ⟨n, hyn⟩ : ∃ n, y.length = n + 1 := ⟨y.length - 1, by omega⟩
  have hn1 : n < y.length := by omega
  have c4 : (n : Int) + 1 - 1 = n := by omega
  by_cases c1 : 0 < n
  · obtain ⟨d, hd⟩ : ∃ d, y[n] = d := ⟨_, rfl⟩
    have hg : y.getLast? = some d := by rw [List.getLast?_eq_getElem?, hyn, Nat.add_sub_cancel, List.getElem?_eq_getElem hn1, hd]
    rw [hg] at hp
    have c1' : (0 : Int) < n := by omega
    have c3 : (n : Int) < (n : Int) + 1 := by omega
    have c5 : (n : Int) ≤ (n : Int) + 1 := by omega
    have c6 : n < n + 1 := by omega
    by_cases c2 : d = []
    · rw [c2, if_pos ⟨by omega, rfl⟩, hyn] at hp
      simp -implicitDefEqProofs [go_sem, Tryz.f97, pSplitC, hl, hy, hyn, ldN_s1 hn1, hd, c1, c1', c2, c3, c4, c5, c6, w64 (x := (n : Int)) (by omega)]
      have hp' : (partsL l).length = n := by omega
      rw [hp']
      exact Trim.sl (by simp -implicitDefEqProofs [go_sem]) (by omega) (by simp) (by simp -implicitDefEqProofs [go_sem]) (by simp -implicitDefEqProofs [go_sem])
    · have c2' : d.isEmpty = false := by cases d with | nil => exact absurd rfl c2 | cons _ _ => rfl
      rw [if_neg fun e => c2 (Option.some.inj e.2), hyn] at hp
      simp -implicitDefEqProofs [go_sem, Tryz.f97, pSplitC, hl, hy, hyn, ldN_s1 hn1, hd, c1, c1', c2, c2', c3, c4, c5, c6, w64 (x := (n : Int)) (by omega)]
      rw [hp]
      exact Trim.sl (by simp -implicitDefEqProofs [go_sem]) (by omega) (by simp) (by simp -implicitDefEqProofs [go_sem]) (by simp -implicitDefEqProofs [go_sem])
  · have hn0 : n = 0 := by omega
    subst hn0
    rw [if_neg fun e => by omega, hyn] at hp
    simp -implicitDefEqProofs [go_sem, Tryz.f97, pSplitC, hl, hy, hyn]
    rw [hp]
    exact Trim.sl (by simp -implicitDefEqProofs [go_sem]) (by omega) (by simp) (by simp -implicitDefEqProofs [go_sem]) (by simp -implicitDefEqProofs [go_sem])
/-- parts put together as the program does -/
def numP : Nat → Int → List (List Int) → Int × Bool
  | _, _, [] => (0, false)
  | left, a, [p] => match pieceV p with
    | none => (0, false)
    | some n => ((a + n) % 4294967296, decide (n < 2 ^ (8 * left)))
  | left, a, p :: q :: t => match pieceV p with
    | none => (0, false)
    | some n => if 255 < n then (0, false) else numP (left - 1) ((a + n * 2 ^ (8 * (left - 1))) % 4294967296) (q :: t)
theorem numP_none : ∀ {left : Nat} {a : Int} {l : List (List Int)}, numL left l = none → (numP left a l).2 = false
  | _, _, [], _ => rfl
  | left, a, [p], h => by
    rw [numL] at h
    rw [numP]
    cases hp : pieceV p with
    | none => rfl
    | some n =>
      rw [hp, Option.bind_some] at h
      split at h
      · cases h
      · rename_i h2; simp; omega
  | left, a, p :: q :: t, h => by
    rw [numL] at h
    rw [numP]
    cases hp : pieceV p with
    | none => rfl
    | some n =>
      rw [hp, Option.bind_some] at h
      by_cases h2 : 255 < n
      · simp [h2]
      · rw [if_neg (by omega)] at h
        simp only [if_neg h2]
        exact numP_none (by simpa using h)
theorem numP_some : ∀ {left : Nat} {a v : Int} {l : List (List Int)}, left ≤ 4 → l.length ≤ left → 0 ≤ a → a + 2 ^ (8 * left) ≤ 4294967296 → numL left l = some v → numP left a l = (a + v, true)
  | _, _, _, [], _, _, _, _, h => by simp [numL] at h
  | left, a, v, [p], h4, hl, ha, hb, h => by
    rw [numL] at h
    rw [numP]
    cases hp : pieceV p with
    | none => rw [hp] at h; cases h
    | some n =>
      have hn := pieceV_le hp
      rw [hp, Option.bind_some] at h
      split at h
      · rename_i h2
        cases h
        simp only [decide_eq_true h2]
        rw [Int.emod_eq_of_lt (by omega) (by omega)]
      · cases h
  | left, a, v, p :: q :: t, h4, hl, ha, hb, h => by
    rw [numL] at h
    rw [numP]
    cases hp : pieceV p with
    | none => rw [hp] at h; cases h
    | some n =>
      have hn := pieceV_le hp
      rw [hp, Option.bind_some] at h
      by_cases h2 : 255 < n
      · rw [if_pos (by omega)] at h; cases h
      · rw [if_neg (by omega)] at h
        simp only [if_neg h2]
        cases hr : numL (left - 1) (q :: t) with
        | none => rw [hr] at h; cases h
        | some w =>
          rw [hr] at h
          simp at h
          subst h
          simp at hl
          obtain ⟨Q, hQ⟩ : ∃ Q : Int, 2 ^ (8 * (left - 1)) = Q := ⟨_, rfl⟩
          have hQ0 : 0 < Q := by rw [← hQ]; exact Int.pow_pos (by omega)
          have hQ1 : (2 : Int) ^ (8 * left) = 256 * Q := by rw [← hQ, show 8 * left = 8 * (left - 1) + 8 by omega, Int.pow_add]; omega
          rw [hQ1] at hb
          have hm0 : 0 ≤ n * Q := Int.mul_nonneg hn.1 (by omega)
          have hm1 : n * Q ≤ 255 * Q := Int.mul_le_mul_of_nonneg_right (by omega) (by omega)
          rw [hQ, Int.emod_eq_of_lt (by omega) (by omega)]
          rw [numP_some (left := left - 1) (a := a + n * Q) (v := w) (by omega) (by simp; omega) (by omega) (by rw [hQ]; omega) hr]
          rw [Int.add_assoc]
theorem strsAt_tail {h : Heap} {b o n : Nat} {p : List Int} {y : List (List Int)} (hs : strsAt h b o n = some (p :: y)) : strsAt h b (o + 1) (n - 1) = some y := by
  obtain ⟨st, x, c, hg, hld, hn, hc⟩ := strsAt_eq hs
  simp only [List.length_cons] at hn
  unfold strsAt
  rw [hg]
  have e : ldN c (o + 1) (n - 1) = some (sts y) := by
    unfold ldN at hld ⊢
    split at hld
    · rename_i hb
      rw [if_pos (by omega)]
      have h1 := Option.some.inj hld
      have h2 := congrArg List.tail h1
      rw [show (sts (p :: y)).tail = sts y from rfl] at h2
      rw [← h2, ← List.drop_one, List.drop_take, List.drop_drop]
    · cases hld
  simp only [e, strsV_map]
def pNumC (k : Nat) : Ct := fun args h => match args with | [.i .u32 a, .i .i64 z, .sl b o n 1] => (match strsAt h b o n with | some y => if n ≤ k ∧ 1 ≤ n ∧ (n : Int) ≤ z ∧ z ≤ 4 ∧ (∀ p ∈ y, p.length ≤ 1048576) then some (.tup [.i .u32 (numP z.toNat a y).1, .b (numP z.toNat a y).2], h) else none | none => none) | _ => none
theorem pNum_ok : ∀ k, CtOk Tryz.prog G0 98 (pNumC k)
  | 0 => by
    intro args h v h' hc
    unfold pNumC at hc
    split at hc
    · split at hc
      · split at hc
        · rename_i h1; exact absurd h1.2.1 (by omega)
        · cases hc
      · cases hc
    · cases hc
  | k + 1 => by
    refine ct_plain (n := 3) fol (sound_cons pPart_ok (sound_cons (pNum_ok k) sound_nil)) (by kernel_rfl) Tryz.func98 rfl fun args h v h' hc r xs H hr hx => ?_
    unfold pNumC at hc
    split at hc
    · split at hc
      · split at hc
        · rename_i a z b o n _ y hy hl
          cases hc
          obtain ⟨hk, hn1, hz1, hz4, hyl⟩ := hl
          obtain ⟨st, xx, c, hg, hld, hn, hcc⟩ := strsAt_eq hy
          refine ⟨rfl, rfl, by simp [renV, bndV, renL, bndL], ?_⟩
          obtain ⟨ha, _⟩ := int_of hx
          have ha : 0 ≤ a ∧ a < 4294967296 := by simpa [lo, hi, IntKind.signed, IntKind.bits] using ha
          match y, hn, hyl, hcc, hy with
          | [], hn, _, _, _ => simp at hn; omega
          | p :: t, hn, hyl, hcc, hy =>
            have hpl := hyl p List.mem_cons_self
            have hp0 := hcc 0 (by simp)
            simp only [Nat.add_zero, List.getElem_cons_zero] at hp0
            have n0 : (0 : Int) < n := by omega
            have n0' : 0 < n := hn1
            cases hpv : pieceV p with
            | none =>
              have hR : numP z.toNat a (p :: t) = (0, false) := by
                match t with
                | [] => rw [numP, hpv]
                | q :: u => rw [numP, hpv]
              simp -implicitDefEqProofs [go_sem, Tryz.f98, hg, hp0, n0, n0', hn1, pPartC, hpl, hpv, okV, hR]
            | some m =>
              have hm := pieceV_le hpv
              match t, hn, hyl, hy with
              | [], hn, _, _ =>
                simp at hn
                subst hn
                rw [numP, hpv]
                have m1 : m % 4294967296 = m := by omega
                have hz : z = 1 ∨ z = 2 ∨ z = 3 ∨ z = 4 := by omega
                rcases hz with rfl | rfl | rfl | rfl
                all_goals
                  simp -implicitDefEqProofs [go_sem, Tryz.f98, hg, hp0, pPartC, hpl, hpv, okV, wu32m, m1, w64]
              | q :: u, hn, hyl, hy =>
                have htail := strsAt_tail hy
                obtain ⟨j, rfl⟩ : ∃ j, n = j + 1 := ⟨n - 1, by omega⟩
                rw [Nat.add_sub_cancel] at htail
                have hj : 1 ≤ j := by simp at hn; omega
                have hj0 : 0 < j := hj
                have hjk : j ≤ k := by omega
                have hyl2 : ∀ x ∈ q :: u, x.length ≤ 1048576 := fun x hx => hyl x (List.mem_cons_of_mem _ hx)
                have j1 : ((j : Int) + 1 = 1) = False := eq_false (by omega)
                have j2 : (0 : Int) < (j : Int) + 1 := by omega
                have j3 : (1 : Int) ≤ (j : Int) + 1 := by omega
                have j4 : ¬ j = 0 := by omega
                have j5 : ((j : Int) = 0) = False := eq_false (by omega)
                rw [numP, hpv]
                simp only
                have m1 : m % 4294967296 = m := by omega
                by_cases c2 : 255 < m
                · rw [if_pos c2]
                  simp -implicitDefEqProofs [go_sem, Tryz.f98, hg, hp0, pPartC, hpl, hpv, okV, c2, j1, j2, j3, j4, j5]
                · rw [if_neg c2]
                  have m2 : m * 256 % 4294967296 = m * 256 := by omega
                  have m3 : m * 65536 % 4294967296 = m * 65536 := by omega
                  have m4 : m * 16777216 % 4294967296 = m * 16777216 := by omega
                  have z1 : (j : Int) ≤ z - 1 := by simp at hz1; omega
                  have hz : z = 2 ∨ z = 3 ∨ z = 4 := by simp at hz1; omega
                  rcases hz with rfl | rfl | rfl
                  all_goals
                    simp at z1
                    simp -implicitDefEqProofs [go_sem, Tryz.f98, hg, hp0, pPartC, hpl, hpv, okV, c2, j1, j2, j3, j4, j5, wu32m, m1, m2, m3, m4, w64, htail, pNumC, hj, hj0, hjk, eq_true hyl2, -List.mem_cons, z1]
        · cases hc
      · cases hc
    · cases hc
end GoD
