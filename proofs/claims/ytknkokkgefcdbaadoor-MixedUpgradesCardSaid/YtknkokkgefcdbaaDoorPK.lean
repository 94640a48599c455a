import Derived.Test.YtknkokkgefcdbaaDoorPJ
/-! What the program's reader reads: hosts. -/
namespace GoD
open Go Go.Proofs
set_option linter.unusedVariables false
set_option linter.unusedSimpArgs false
set_option maxHeartbeats 2000000
set_option maxRecDepth 100000
def labsR : Nat → List Int → List Int → Bool × List Int × List Int
  | 0, acc, l => (false, acc, l)
  | f + 1, acc, l => if cntL labB l = 0 then (false, acc, l) else if headB (l.drop (cntL labB l)) [46] = true then labsR f (acc ++ lowerL (l.take (cntL labB l)) ++ [46]) ((l.drop (cntL labB l)).drop 1) else (true, acc ++ lowerL (l.take (cntL labB l)), l.drop (cntL labB l))
def hostR (l c : List Int) : Bool × List Int × List Int := if headB l [42] = true then (if headB (l.drop 1) [46] = true then labsR (((l.drop 1).drop 1).length + 1) [42, 46] ((l.drop 1).drop 1) else (true, [42], l.drop 1)) else labsR (l.length + 1) c l
def pHostRC : Ct := fun args h => match args with
  | [.p b 0] => match hget h b with
    | ⟨2, true, [.s l, .i .i64 k, .s a, .s c, .s d, .s e]⟩ => if b < h.length ∧ l.length ≤ 1048576 ∧ c.length ≤ 1048576 then some (.b (hostR l c).1, h.set b (rdBk (hostR l c).2.2 ⟨k, a, (hostR l c).2.1, d, e⟩)) else none
    | _ => none
  | _ => none
theorem labN_eq : ∀ l, cntL labB l = labelN l
  | [] => rfl
  | c :: t => by rw [cntL, labelN, labN_eq t]
theorem headB_cons (c d : Int) (r : List Int) : headB (c :: r) [d] = decide (c = d) := by simp [headB]
theorem headB_nil (d : Int) : headB [] [d] = false := by simp [headB]
theorem cut_mid {l p r : List Int} {c : Int} {n : Nat} (e : l = p ++ c :: r) (hn : p.length = n) (m : Nat) : l.take (n + 1 + m) = p ++ c :: r.take m ∧ l.drop (n + 1 + m) = r.drop m := by
  subst e hn
  constructor
  · rw [List.take_append, List.take_of_length_le (by omega), show p.length + 1 + m - p.length = m + 1 by omega]; rfl
  · rw [List.drop_append, List.drop_of_length_le (by omega), show p.length + 1 + m - p.length = m + 1 by omega]; rfl
theorem labsR_spec : ∀ (f : Nat) (acc l : List Int), l.length < f → (labelsN l = 0 → (labsR f acc l).1 = false) ∧ (labelsN l ≠ 0 → labsR f acc l = (true, acc ++ lowerL (l.take (labelsN l)), l.drop (labelsN l)))
  | 0, _, l, h => by omega
  | f + 1, acc, l, h => by
    rw [labsR, labN_eq, labelsN_tail]
    by_cases h0 : labelN l = 0
    · simp [h0]
    · rw [if_neg h0, if_neg h0]
      have hle := labelN_le l
      match hd : l.drop (labelN l) with
      | [] =>
        rw [headB_nil, if_neg (by simp), tailN]
        exact ⟨fun e => absurd e h0, fun _ => by rw [hd]⟩
      | c :: r =>
        have hlen : r.length + 1 = l.length - labelN l := by have := congrArg List.length hd; simpa using this.symm
        rw [headB_cons, tailN]
        by_cases h1 : c = 46
        · rw [decide_eq_true h1, if_pos rfl, if_pos h1, List.drop_one, List.tail_cons]
          obtain ⟨i1, i2⟩ := labsR_spec f (acc ++ lowerL (l.take (labelN l)) ++ [46]) r (by omega)
          by_cases h2 : labelsN r = 0
          · rw [if_pos h2]
            exact ⟨fun _ => i1 h2, fun e => absurd rfl e⟩
          · rw [if_neg h2]
            refine ⟨fun e => by omega, fun _ => ?_⟩
            rw [i2 h2]
            have e1 : l = l.take (labelN l) ++ 46 :: r := by rw [← h1, ← hd, List.take_append_drop]
            have e2 : (l.take (labelN l)).length = labelN l := by simp; omega
            obtain ⟨e3, e4⟩ := cut_mid e1 e2 (labelsN r)
            rw [e3, e4]
            simp [lowerL, lowB]
        · rw [decide_eq_false h1, if_neg h1, if_neg (fun e => by cases e)]
          exact ⟨fun e => absurd e h0, fun _ => by rw [hd]⟩
end GoD
