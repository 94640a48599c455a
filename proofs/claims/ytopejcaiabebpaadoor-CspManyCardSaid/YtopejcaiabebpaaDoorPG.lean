import Derived.Test.YtopejcaiabebpaaDoorPC
/-! Addresses as the program answers them: numbers. -/
namespace GoD
open Go Go.Proofs
set_option linter.unusedVariables false
set_option linter.unusedSimpArgs false
set_option maxHeartbeats 4000000
set_option maxRecDepth 100000
def pPartsC : Ct := fun args h => match args with | [.s l] => if l.length ≤ 1048576 then some (.sl h.length 0 (partsL l).length 1, h ++ [⟨2, true, sts (splitL 46 l)⟩]) else none | _ => none
/-- parts put together as the program does -/
def numP : Nat → Int → List (List Int) → Int × Bool
  | _, _, [] => (0, false)
  | left, a, [p] => match pieceV p with
    | none => (0, false)
    | some n => ((a + n) % 4294967296, decide (n < 2 ^ (8 * left)))
  | left, a, p :: q :: t => match pieceV p with
    | none => (0, false)
    | some n => if 255 < n then (0, false) else numP (left - 1) ((a + n * 2 ^ (8 * (left - 1))) % 4294967296) (q :: t)
theorem numP_none : ∀ {left : Nat} {a : Int} {l : List (List Int)}, numL left l = none → (numP left a l).2 = false
  | _, _, [], _ => rfl
  | left, a, [p], h => by
    rw [numL] at h
    rw [numP]
    cases hp : pieceV p with
    | none => rfl
    | some n =>
      rw [hp, Option.bind_some] at h
      split at h
      · cases h
      · rename_i h2; simp; omega
  | left, a, p :: q :: t, h => by
    rw [numL] at h
    rw [numP]
    cases hp : pieceV p with
    | none => rfl
    | some n =>
      rw [hp, Option.bind_some] at h
      by_cases h2 : 255 < n
      · simp [h2]
      · rw [if_neg (by omega)] at h
        simp only [if_neg h2]
        exact numP_none (by simpa using h)
theorem numP_some : ∀ {left : Nat} {a v : Int} {l : List (List Int)}, left ≤ 4 → l.length ≤ left → 0 ≤ a → a + 2 ^ (8 * left) ≤ 4294967296 → numL left l = some v → numP left a l = (a + v, true)
  | _, _, _, [], _, _, _, _, h => by simp [numL] at h
  | left, a, v, [p], h4, hl, ha, hb, h => by
    rw [numL] at h
    rw [numP]
    cases hp : pieceV p with
    | none => rw [hp] at h; cases h
    | some n =>
      have hn := pieceV_le hp
      rw [hp, Option.bind_some] at h
      split at h
      · rename_i h2
        cases h
        simp only [decide_eq_true h2]
        rw [Int.emod_eq_of_lt (by omega) (by omega)]
      · cases h
  | left, a, v, p :: q :: t, h4, hl, ha, hb, h => by
    rw [numL] at h
    rw [numP]
    cases hp : pieceV p with
    | none => rw [hp] at h; cases h
    | some n =>
      have hn := pieceV_le hp
      rw [hp, Option.bind_some] at h
      by_cases h2 : 255 < n
      · rw [if_pos (by omega)] at h; cases h
      · rw [if_neg (by omega)] at h
        simp only [if_neg h2]
        cases hr : numL (left - 1) (q :: t) with
        | none => rw [hr] at h; cases h
        | some w =>
          rw [hr] at h
          simp at h
          subst h
          simp at hl
          obtain ⟨Q, hQ⟩ : ∃ Q : Int, 2 ^ (8 * (left - 1)) = Q := ⟨_, rfl⟩
          have hQ0 : 0 < Q := by rw [← hQ]; exact Int.pow_pos (by omega)
          have hQ1 : (2 : Int) ^ (8 * left) = 256 * Q := by rw [← hQ, show 8 * left = 8 * (left - 1) + 8 by omega, Int.pow_add]; omega
          rw [hQ1] at hb
          have hm0 : 0 ≤ n * Q := Int.mul_nonneg hn.1 (by omega)
          have hm1 : n * Q ≤ 255 * Q := Int.mul_le_mul_of_nonneg_right (by omega) (by omega)
          rw [hQ, Int.emod_eq_of_lt (by omega) (by omega)]
          rw [numP_some (left := left - 1) (a := a + n * Q) (v := w) (by omega) (by simp; omega) (by omega) (by rw [hQ]; omega) hr]
          rw [Int.add_assoc]
theorem strsAt_tail {h : Heap} {b o n : Nat} {p : List Int} {y : List (List Int)} (hs : strsAt h b o n = some (p :: y)) : strsAt h b (o + 1) (n - 1) = some y := by
  obtain ⟨st, x, c, hg, hld, hn, hc⟩ := strsAt_eq hs
  simp only [List.length_cons] at hn
  unfold strsAt
  rw [hg]
  have e : ldN c (o + 1) (n - 1) = some (sts y) := by
    unfold ldN at hld ⊢
    split at hld
    · rename_i hb
      rw [if_pos (by omega)]
      have h1 := Option.some.inj hld
      have h2 := congrArg List.tail h1
      rw [show (sts (p :: y)).tail = sts y from rfl] at h2
      rw [← h2, ← List.drop_one, List.drop_take, List.drop_drop]
    · cases hld
  simp only [e, strsV_map]
def pNumC (k : Nat) : Ct := fun args h => match args with | [.i .u32 a, .i .i64 z, .sl b o n 1] => (match strsAt h b o n with | some y => if n ≤ k ∧ 1 ≤ n ∧ (n : Int) ≤ z ∧ z ≤ 4 ∧ (∀ p ∈ y, p.length ≤ 1048576) then some (.tup [.i .u32 (numP z.toNat a y).1, .b (numP z.toNat a y).2], h) else none | none => none) | _ => none
end GoD

/-! Addresses as the program answers them: texts. -/
namespace GoD
open Go Go.Proofs
set_option linter.unusedVariables false
set_option linter.unusedSimpArgs false
set_option maxHeartbeats 4000000
set_option maxRecDepth 100000
theorem strsAt_of {h : Heap} {b st n : Nat} {x : Bool} {z : List (List Int)} (hg : hget h b = ⟨st + 1, x, sts z⟩) (hn : n ≤ z.length) : strsAt h b 0 n = some (z.take n) := by
  unfold strsAt
  rw [hg]
  have e : ldN (sts z) 0 n = some (sts (z.take n)) := by
    rw [ldN, if_pos (by rw [sts_len]; omega), List.drop_zero]
    congr 1
    simp [sts]
  simp only [e, strsV_map]
def pNumberC : Ct := fun args h => match args with | [.s l] => if l.length ≤ 1048576 then some (.tup [.i .u32 (okV (numberL l)).1, .b (okV (numberL l)).2], h) else none | _ => none
theorem bytesV_eq : ∀ {c : List V} {l : List Int}, bytesV c = some l → c = bts l
  | [], l, h => by simp [bytesV] at h; subst h; rfl
  | v :: c, l, h => by
    cases v with
    | i k n =>
      cases k <;> simp [bytesV] at h
      obtain ⟨a, h1, rfl⟩ := h
      rw [bytesV_eq h1]; rfl
    | _ => simp [bytesV] at h
def pRevC : Ct := fun args h => match args with
  | [.sl b 0 n 1] => match hget h b with
    | ⟨2, x, c⟩ => match bytesV c with
      | some X => if X.length = n ∧ b < h.length then some (.tup [], h.set b ⟨2, x, bts X.reverse⟩) else none
      | none => none
    | _ => none
  | _ => none
theorem decD_first (u : Nat) : (48 + ((u % 10 : Nat) : Int)) :: revD (u / 10) = (decD u).reverse := by
  by_cases h : u = 0
  · subst h; rw [decD]; simp [revD_0]
  · rw [decD_rev (by omega), List.reverse_reverse]
    exact (revD_s (by omega)).symm
def pDecimalC : Ct := fun args h => match args with | [.i .i64 n] => if 0 ≤ n then some (.s (decD n.toNat), h) else none | _ => none
def pTextC : Ct := fun args h => match args with | [.i .u32 a] => some (.s (textL a), h) | _ => none
def pAddressC : Ct := fun args h => match args with | [.s l] => if l.length ≤ 1048576 then some (.tup [.i .u32 (okV (addrL l)).1, .b (okV (addrL l)).2], h) else none | _ => none
end GoD

/-! Schemes, hosts, ports and paths as the program matches them. -/
namespace GoD
open Go Go.Proofs
set_option linter.unusedVariables false
set_option linter.unusedSimpArgs false
set_option maxHeartbeats 4000000
set_option maxRecDepth 100000
def pDefaultC : Ct := fun args h => match args with | [.s l] => some (.tup [.i .i64 (defaultL l).1, .b (defaultL l).2], h) | _ => none
def pPortC : Ct := fun args h => match args with | [.agg [.s a, .s b, .s c, .s d, .i .i64 p, .s e, .b q, .s f, .b g, .s k]] => some (.i .i64 (portL a p), h) | _ => none
def pOfC : Ct := fun args h => match args with | [.agg [.s a, .s b, .s c, .s d, .i .i64 p, .s e, .b q, .s f, .b g, .s k]] => some (.agg [.s a, .s d, .i .i64 (portL a p)], h) | _ => none
def pOSameC : Ct := fun args h => match args with | [.agg [.s a, .s b, .i .i64 p], .agg [.s c, .s d, .i .i64 q]] => some (.b (decide (a = c) && decide (b = d) && decide (p = q) && !oNull a b p), h) | _ => none
def pSchemeC : Ct := fun args h => match args with | [.s a, .s b] => some (.b (schemeB a b), h) | _ => none
theorem headB_star (p : List Int) : headB p [42, 46] = starB p := by
  unfold headB starB
  by_cases h : 2 ≤ p.length
  · simp [h]
  · have : ¬ p.take 2 = [42, 46] := fun e => by have := congrArg List.length e; simp at this; omega
    simp [this]
def pHostC : Ct := fun args h => match args with | [.s p, .s l] => if l.length ≤ 1048576 then some (.b (hostB p l), h) else none | _ => none
def pNumSC : Ct := fun args h => match args with | [.s l] => if portP l = true then some (.i .i64 (numD l), h) else none | _ => none
def pPortMC : Ct := fun args h => match args with | [.s l, .agg [.s a, .s b, .s c, .s d, .i .i64 p, .s e, .b q, .s f, .b g, .s k]] => if l = [] ∨ l = [42] ∨ portP l = true then some (.b (portB l a p), h) else none | _ => none
end GoD

/-! Paths, own origins and matches as the program answers them. -/
namespace GoD
open Go Go.Proofs
set_option linter.unusedVariables false
set_option linter.unusedSimpArgs false
set_option maxHeartbeats 4000000
set_option maxRecDepth 100000
theorem ends_slash (p : List Int) : endsL p [47] = decide (p.getLast? = some 47) := by
  rcases List.eq_nil_or_concat p with rfl | ⟨q, c, rfl⟩
  · rfl
  · rw [List.concat_eq_append, List.getLast?_append]
    simp [endsL]
def pPathMC : Ct := fun args h => match args with | [.s p, .s l] => if p.length ≤ 1048576 ∧ l.length ≤ 1048576 then some (.b (pathB p l), h) else none | _ => none
end GoD
