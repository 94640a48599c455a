import Derived.Test.YtgldmliemeadpaaDoorPG
/-! Own origins and matches as the program answers them. -/
namespace GoD
open Go Go.Proofs
set_option linter.unusedVariables false
set_option linter.unusedSimpArgs false
set_option maxHeartbeats 1000000
set_option maxRecDepth 100000
theorem normalB_of {a : List Int} {p : Int} (h1 : (defaultL a).2 = true) (h2 : p = (defaultL a).1) : normalB a p = true := by unfold normalB; rw [h1, h2]; simp
def pOwnC : Ct := fun args h => match args with
  | [.agg [.s a, .s b, .s c, .s d, .i .i64 p, .s e, .b q, .s f, .b g, .s x], .agg [.s os, .s oh, .i .i64 op]] => some (.b (ownB a d p os oh op), h)
  | _ => none
def pMatchC : Ct := fun args h => match args with
  | [.agg [.i .i64 k, .s es, .s eh, .s ep, .s ea], .agg [.s a, .s b, .s c, .s d, .i .i64 p, .s e, .b q, .s f, .b g, .s x], .agg [.s os, .s oh, .i .i64 op], .i .i64 rd] =>
    if portQ ep ∧ d.length ≤ 1048576 ∧ e.length ≤ 1048576 ∧ ea.length ≤ 1048576 then some (.b (matchB ⟨k, es, eh, ep, ea⟩ a d p e os oh op rd), h) else none
  | _ => none
end GoD

/-! The program's reader of source expressions. -/
namespace GoD
open Go Go.Proofs
set_option linter.unusedVariables false
set_option linter.unusedSimpArgs false
set_option maxHeartbeats 2000000
set_option maxRecDepth 100000
def rdBk (l : List Int) (e : Expr5) : Blk := ⟨2, true, [.s l, .i .i64 e.kind, .s e.sch, .s e.ho, .s e.po, .s e.pa]⟩
theorem rdBk_flat (l : List Int) (e : Expr5) : (rdBk l e).cells.all GoD.flat = true := rfl
def dropP (l m : List Int) : List Int := if headB l m = true then l.drop m.length else l
def pPassC : Ct := fun args h => match args with
  | [.p b 0, .s m] => match hget h b with
    | ⟨2, true, [.s l, .i .i64 k, .s a, .s c, .s d, .s e]⟩ => if b < h.length then some (.b (headB l m), h.set b (rdBk (dropP l m) ⟨k, a, c, d, e⟩)) else none
    | _ => none
  | _ => none
end GoD

/-! What the program's reader reads: schemes, ports, paths. -/
namespace GoD
open Go Go.Proofs
set_option linter.unusedVariables false
set_option linter.unusedSimpArgs false
set_option maxHeartbeats 2000000
set_option maxRecDepth 100000
def schR (m l : List Int) : Option (List Int × List Int) := if cntL schB l = 0 ∨ letterB (l.headD 0) = false then none else if headB (l.drop (cntL schB l)) m = true then some (lowerL (l.take (cntL schB l)), (l.drop (cntL schB l)).drop m.length) else none
def schBk (m l : List Int) (e : Expr5) : Blk := match schR m l with
  | none => rdBk l e
  | some (s, r) => rdBk r { e with sch := s }
def pSchRC : Ct := fun args h => match args with
  | [.p b 0, .s m] => match hget h b with
    | ⟨2, true, [.s l, .i .i64 k, .s a, .s c, .s d, .s e]⟩ => if b < h.length ∧ l.length ≤ 1048576 then some (.tup [], h.set b (schBk m l ⟨k, a, c, d, e⟩)) else none
    | _ => none
  | _ => none
theorem schBk_flat (m l : List Int) (e : Expr5) : (schBk m l e).cells.all GoD.flat = true := by
  unfold schBk
  split <;> rfl
def portR (l po : List Int) : Bool × List Int × List Int := if headB l [58] = true then (if headB (l.drop 1) [42] = true then (true, [42], (l.drop 1).drop 1) else (decide (cntL digitB (l.drop 1) ≠ 0) && decide (cntL digitB (l.drop 1) ≤ 5), (l.drop 1).take (cntL digitB (l.drop 1)), (l.drop 1).drop (cntL digitB (l.drop 1)))) else (true, po, l)
def pPortRC : Ct := fun args h => match args with
  | [.p b 0] => match hget h b with
    | ⟨2, true, [.s l, .i .i64 k, .s a, .s c, .s d, .s e]⟩ => if b < h.length ∧ l.length ≤ 1048576 then some (.b (portR l d).1, h.set b (rdBk (portR l d).2.2 ⟨k, a, c, (portR l d).2.1, e⟩)) else none
    | _ => none
  | _ => none
def pathR (l pa : List Int) : Bool × List Int × List Int := if headB l [47] = true then (decide (l.drop (cntL pathC l) = []), l.take (cntL pathC l), l.drop (cntL pathC l)) else (decide (l = []), pa, l)
def pPathRC : Ct := fun args h => match args with
  | [.p b 0] => match hget h b with
    | ⟨2, true, [.s l, .i .i64 k, .s a, .s c, .s d, .s e]⟩ => if b < h.length ∧ l.length ≤ 1048576 then some (.b (pathR l e).1, h.set b (rdBk (pathR l e).2.2 ⟨k, a, c, d, (pathR l e).2.1⟩)) else none
    | _ => none
  | _ => none
end GoD

/-! What the program's reader reads: hosts. -/
namespace GoD
open Go Go.Proofs
set_option linter.unusedVariables false
set_option linter.unusedSimpArgs false
set_option maxHeartbeats 2000000
set_option maxRecDepth 100000
def labsR : Nat → List Int → List Int → Bool × List Int × List Int
  | 0, acc, l => (false, acc, l)
  | f + 1, acc, l => if cntL labB l = 0 then (false, acc, l) else if headB (l.drop (cntL labB l)) [46] = true then labsR f (acc ++ lowerL (l.take (cntL labB l)) ++ [46]) ((l.drop (cntL labB l)).drop 1) else (true, acc ++ lowerL (l.take (cntL labB l)), l.drop (cntL labB l))
def hostR (l c : List Int) : Bool × List Int × List Int := if headB l [42] = true then (if headB (l.drop 1) [46] = true then labsR (((l.drop 1).drop 1).length + 1) [42, 46] ((l.drop 1).drop 1) else (true, [42], l.drop 1)) else labsR (l.length + 1) c l
def pHostRC : Ct := fun args h => match args with
  | [.p b 0] => match hget h b with
    | ⟨2, true, [.s l, .i .i64 k, .s a, .s c, .s d, .s e]⟩ => if b < h.length ∧ l.length ≤ 1048576 ∧ c.length ≤ 1048576 then some (.b (hostR l c).1, h.set b (rdBk (hostR l c).2.2 ⟨k, a, (hostR l c).2.1, d, e⟩)) else none
    | _ => none
  | _ => none
theorem labN_eq : ∀ l, cntL labB l = labelN l
  | [] => rfl
  | c :: t => by rw [cntL, labelN, labN_eq t]
theorem headB_cons (c d : Int) (r : List Int) : headB (c :: r) [d] = decide (c = d) := by simp [headB]
theorem headB_nil (d : Int) : headB [] [d] = false := by simp [headB]
theorem cut_mid {l p r : List Int} {c : Int} {n : Nat} (e : l = p ++ c :: r) (hn : p.length = n) (m : Nat) : l.take (n + 1 + m) = p ++ c :: r.take m ∧ l.drop (n + 1 + m) = r.drop m := by
  subst e hn
  constructor
  · rw [List.take_append, List.take_of_length_le (by omega), show p.length + 1 + m - p.length = m + 1 by omega]; rfl
  · rw [List.drop_append, List.drop_of_length_le (by omega), show p.length + 1 + m - p.length = m + 1 by omega]; rfl
theorem labsR_spec : ∀ (f : Nat) (acc l : List Int), l.length < f → (labelsN l = 0 → (labsR f acc l).1 = false) ∧ (labelsN l ≠ 0 → labsR f acc l = (true, acc ++ lowerL (l.take (labelsN l)), l.drop (labelsN l)))
  | 0, _, l, h => by omega
  | f + 1, acc, l, h => by
    rw [labsR, labN_eq, labelsN_tail]
    by_cases h0 : labelN l = 0
    · simp [h0]
    · rw [if_neg h0, if_neg h0]
      have hle := labelN_le l
      match hd : l.drop (labelN l) with
      | [] =>
        rw [headB_nil, if_neg (by simp), tailN]
        exact ⟨fun e => absurd e h0, fun _ => by rw [hd]⟩
      | c :: r =>
        have hlen : r.length + 1 = l.length - labelN l := by have := congrArg List.length hd; simpa using this.symm
        rw [headB_cons, tailN]
        by_cases h1 : c = 46
        · rw [decide_eq_true h1, if_pos rfl, if_pos h1, List.drop_one, List.tail_cons]
          obtain ⟨i1, i2⟩ := labsR_spec f (acc ++ lowerL (l.take (labelN l)) ++ [46]) r (by omega)
          by_cases h2 : labelsN r = 0
          · rw [if_pos h2]
            exact ⟨fun _ => i1 h2, fun e => absurd rfl e⟩
          · rw [if_neg h2]
            refine ⟨fun e => by omega, fun _ => ?_⟩
            rw [i2 h2]
            have e1 : l = l.take (labelN l) ++ 46 :: r := by rw [← h1, ← hd, List.take_append_drop]
            have e2 : (l.take (labelN l)).length = labelN l := by simp; omega
            obtain ⟨e3, e4⟩ := cut_mid e1 e2 (labelsN r)
            rw [e3, e4]
            simp [lowerL, lowB]
        · rw [decide_eq_false h1, if_neg h1, if_neg (fun e => by cases e)]
          exact ⟨fun e => absurd e h0, fun _ => by rw [hd]⟩
end GoD
