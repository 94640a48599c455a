import Derived.Test.YtcaaebjjgbcjpaaGreatDoorEX
/-! What the laws' own helpers answer: a text's URL and its Origin. -/
namespace GoD
open Go Go.Proofs
set_option linter.unusedVariables false
set_option linter.unusedSimpArgs false
set_option maxHeartbeats 2000000
set_option maxRecDepth 100000
theorem numL_le : ∀ {left : Nat} {v : Int} {l : List (List Int)}, left ≤ 4 → l.length ≤ left → numL left l = some v → 0 ≤ v ∧ v < 2 ^ (8 * left)
  | _, _, [], _, _, h => by simp [numL] at h
  | left, v, [p], h4, hl, h => by
    rw [numL] at h
    cases hp : pieceV p with
    | none => rw [hp] at h; cases h
    | some n =>
      have hn := pieceV_le hp
      rw [hp, Option.bind_some] at h
      split at h
      · cases h; rename_i h2; exact ⟨hn.1, h2⟩
      · cases h
  | left, v, p :: q :: t, h4, hl, h => by
    rw [numL] at h
    cases hp : pieceV p with
    | none => rw [hp] at h; cases h
    | some n =>
      have hn := pieceV_le hp
      rw [hp, Option.bind_some] at h
      by_cases h2 : n > 255
      · rw [if_pos h2] at h; cases h
      · rw [if_neg h2] at h
        cases hr : numL (left - 1) (q :: t) with
        | none => rw [hr] at h; cases h
        | some w =>
          rw [hr] at h
          simp at h
          subst h
          simp at hl
          have ih := numL_le (left := left - 1) (by omega) (by simp; omega) hr
          obtain ⟨Q, hQ⟩ : ∃ Q : Int, 2 ^ (8 * (left - 1)) = Q := ⟨_, rfl⟩
          have hQ0 : 0 < Q := by rw [← hQ]; exact Int.pow_pos (by omega)
          have hQ1 : (2 : Int) ^ (8 * left) = 256 * Q := by rw [← hQ, show 8 * left = 8 * (left - 1) + 8 by omega, Int.pow_add]; omega
          rw [hQ] at ih ⊢
          rw [hQ1]
          have hm0 : 0 ≤ n * Q := Int.mul_nonneg hn.1 (by omega)
          have hm1 : n * Q ≤ 255 * Q := Int.mul_le_mul_of_nonneg_right (by omega) (by omega)
          omega
theorem numberL_le {l : List Int} {n : Int} (h : numberL l = some n) : 0 ≤ n ∧ n < 4294967296 := by
  unfold numberL at h
  split at h
  · cases h
  · rename_i h1
    exact numL_le (left := 4) (by omega) (by omega) h
theorem textL_len {n : Int} (h : 0 ≤ n ∧ n < 4294967296) : (textL n).length ≤ 15 := by
  have l1 := decD_len (n / 16777216).toNat (by omega)
  have l2 := decD_len (n / 65536 % 256).toNat (by omega)
  have l3 := decD_len (n / 256 % 256).toNat (by omega)
  have l4 := decD_len (n % 256).toNat (by omega)
  rw [textL]
  simp
  omega
theorem hostL_len {l r : List Int} (h : hostL l = some r) : r.length ≤ l.length + 15 := by
  unfold hostL at h
  have h1 : (lowerL (decodeL l)).length ≤ l.length := by have := decodeL_len l; simpa [lowerL] using this
  split at h
  · cases h
  · split at h
    · cases hn : numberL (lowerL (decodeL l)) with
      | none => rw [hn] at h; cases h
      | some n =>
        rw [hn] at h
        have h := Option.some.inj h
        rw [← h]
        have := textL_len (numberL_le hn)
        omega
    · rw [← Option.some.inj h]; omega
theorem slashL_drop (l : List (List Int)) : (slashL l.dropLast).length ≤ (slashL l).length := by
  unfold slashL
  rcases List.eq_nil_or_concat l with rfl | ⟨q, c, rfl⟩
  · simp
  · rw [List.concat_eq_append, List.dropLast_concat, List.flatMap_append]; simp
theorem pathStep_len (acc : List (List Int)) (p : List Int) (last : Bool) : (slashL (pathStep acc p last)).length ≤ (slashL acc).length + 3 * p.length + 1 := by
  have h1 := slashL_drop acc
  have h2 := encL_len 3 p
  have h3 : ∀ (A : List (List Int)) (x : List Int), (slashL (A ++ [x])).length = (slashL A).length + (x.length + 1) := by intro A x; simp [slashL]
  unfold pathStep
  split
  · rw [h3]; omega
  · split
    · split
      · rw [h3, List.length_nil]; omega
      · rw [h3, List.length_nil]; omega
    · split <;> omega
theorem pathG_len : ∀ (l : List Int) (acc : List (List Int)) (cur : List Int), (slashL (pathG acc cur l)).length ≤ (slashL acc).length + 3 * cur.length + 3 * l.length + 1
  | [], acc, cur => by have := pathStep_len acc cur true; rw [pathG]; simpa using this
  | c :: t, acc, cur => by
    rw [pathG]
    split
    · have h1 := pathG_len t (pathStep acc cur false) []
      have h2 := pathStep_len acc cur false
      simp at h1 ⊢
      omega
    · have h1 := pathG_len t acc (cur ++ [c])
      simp at h1 ⊢
      omega
theorem pathL_len (s : List Int) : (pathL s).length ≤ 3 * s.length + 1 := by
  unfold pathL
  split
  · simp
  · split
    · simp
    · have := pathG_len s.tail [] []
      simp [slashL] at this ⊢
      omega
theorem restL_len (s : List Int) : (restL s).length ≤ s.length := by
  unfold restL
  split <;> simp
theorem urlL_len {l : List Int} {u : Url} (h : urlL l = some u) : u.ho.length ≤ l.length + 15 ∧ u.path.length ≤ 3 * l.length + 1 := by
  unfold urlL at h
  split at h
  · cases h
  · split at h
    · have hc := cleanL_len l
      unfold url1 at h
      split at h
      · obtain ⟨s1, hs1⟩ : ∃ s1, skipL ((cleanL l).drop (schemeN (cleanL l) + 1)) = s1 := ⟨_, rfl⟩
        have hs1l : s1.length ≤ l.length := by rw [← hs1]; have := skipL_len ((cleanL l).drop (schemeN (cleanL l) + 1)); simp at this; omega
        rw [hs1] at h
        unfold url2 at h
        split at h
        · cases h
        · rename_i ho po hA
          rw [← Option.some.inj h]
          constructor
          · show ho.length ≤ _
            unfold authW at hA
            split at hA
            · cases hA
            · cases hA
            · rename_i hh n hP
              have : ho = hh := by cases hA; rfl
              subst this
              unfold hostP at hP
              cases hH : hostL ((restL (s1.take (upL [47, 92, 63, 35] s1))).take (upL [58] (restL (s1.take (upL [47, 92, 63, 35] s1))))) with
              | none => rw [hH] at hP; cases hP
              | some r =>
                rw [hH] at hP
                have h1 := hostL_len hH
                have h2 := restL_len (s1.take (upL [47, 92, 63, 35] s1))
                have h3 : ho = r := by have := congrArg Prod.fst (Option.some.inj hP); exact this.symm
                subst h3
                simp at h1 h2
                omega
          · show (pathL _).length ≤ _
            refine Nat.le_trans (pathL_len _) ?_
            simp [cutF]
            omega
      · cases h
    · cases h
end GoD
