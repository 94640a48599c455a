import Derived.Test.YtffoolaocbgknaaGreatDoorPI
/-! What the program's reader reads: schemes, ports, paths. -/
namespace GoD
open Go Go.Proofs
set_option linter.unusedVariables false
set_option linter.unusedSimpArgs false
set_option maxHeartbeats 2000000
set_option maxRecDepth 100000
def schR (m l : List Int) : Option (List Int × List Int) := if cntL schB l = 0 ∨ letterB (l.headD 0) = false then none else if headB (l.drop (cntL schB l)) m = true then some (lowerL (l.take (cntL schB l)), (l.drop (cntL schB l)).drop m.length) else none
def schBk (m l : List Int) (e : Expr5) : Blk := match schR m l with
  | none => rdBk l e
  | some (s, r) => rdBk r { e with sch := s }
def pSchRC : Ct := fun args h => match args with
  | [.p b 0, .s m] => match hget h b with
    | ⟨2, true, [.s l, .i .i64 k, .s a, .s c, .s d, .s e]⟩ => if b < h.length ∧ l.length ≤ 1048576 then some (.tup [], h.set b (schBk m l ⟨k, a, c, d, e⟩)) else none
    | _ => none
  | _ => none
theorem schBk_flat (m l : List Int) (e : Expr5) : (schBk m l e).cells.all GoD.flat = true := by
  unfold schBk
  split <;> rfl
theorem pSchR_ok : CtOk Tryz.prog G0 29 pSchRC := by
  refine ct_run (n := 2) fol (sound_cons pRow_ok (sound_cons pPass_ok (sound_cons pLetter_ok (sound_cons pLower_ok sound_nil)))) (by kernel_rfl) Tryz.func29 rfl fun args h v h' hc r xs H hr hx => ?_
  unfold pSchRC at hc; split at hc <;> (try split at hc) <;> (try split at hc) <;> cases hc
  rename_i b m _ l k a c d e hg hb
  obtain ⟨hb, hl⟩ := hb
  refine ⟨rfl, ?_⟩
  obtain ⟨B, hB⟩ : ∃ B, schBk m l ⟨k, a, c, d, e⟩ = B := ⟨_, rfl⟩
  have hfl := schBk_flat m l ⟨k, a, c, d, e⟩
  rw [hB] at hfl ⊢
  have fin : ∃ σ, Trim h (V.tup []) (h.set b B) (V.tup []) (h.set b B) σ := Trim.own (by simp [renV, bndV, renL, bndL]) hfl (Ext.refl _)
  unfold schBk schR at hB
  obtain ⟨n, hn⟩ : ∃ n, cntL schB l = n := ⟨_, rfl⟩
  have hnl : n ≤ l.length := by rw [← hn]; exact cntL_le _ _
  rw [hn] at hB
  obtain ⟨w, hw⟩ : ∃ w, l.drop n = w := ⟨_, rfl⟩
  obtain ⟨u, hu⟩ : ∃ u, l.take n = u := ⟨_, rfl⟩
  have hul : u.length ≤ 1048576 := by rw [← hu]; simp; omega
  have hun : u.length = n := by rw [← hu]; simp; omega
  rw [hw, hu] at hB
  by_cases c1 : n = 0
  · rw [if_pos (.inl c1)] at hB
    subst hB
    have hu0 : u = [] := List.length_eq_zero_iff.1 (by omega)
    have hu1 : u.isEmpty = true := by rw [hu0]; rfl
    simp -implicitDefEqProofs [go_sem, Tryz.f29, hg, hb, hl, pRowC, predOf, hn, hw, hu, rdBk, eq_true hu0, hu1, hget_set, List.set_set]
    exact fin
  · have hu0 : ¬ u = [] := fun e => by rw [e] at hun; simp at hun; omega
    have hu1 : u.isEmpty = false := by cases u with | nil => exact absurd rfl hu0 | cons _ _ => rfl
    have hu2 : 0 < u.length := by omega
    have hu3 : (0 : Int) < u.length := by omega
    have hhd : u[0] = l.headD 0 := by
      have : l ≠ [] := fun e => by rw [e] at hnl; simp at hnl; omega
      cases l with
      | nil => exact absurd rfl this
      | cons x q => simp [← hu]
    cases c2 : letterB (l.headD 0) with
    | false =>
      rw [if_pos (.inr c2)] at hB
      subst hB
      rw [← hhd] at c2
      simp -implicitDefEqProofs [go_sem, Tryz.f29, hg, hb, hl, pRowC, predOf, hn, hw, hu, rdBk, hu0, hu1, hu2, hu3, hget_set, List.set_set, pLetterC, c2]
      exact fin
    | true =>
      rw [if_neg (by simp only [not_or, c2]; exact ⟨c1, by simp⟩)] at hB
      rw [← hhd] at c2
      cases c3 : headB w m with
      | false =>
        rw [c3, if_neg (by simp)] at hB
        subst hB
        simp -implicitDefEqProofs [go_sem, Tryz.f29, hg, hb, hl, pRowC, pPassC, predOf, hn, hw, hu, rdBk, hu0, hu1, hu2, hu3, hget_set, List.set_set, pLetterC, c2, c3, dropP]
        exact fin
      | true =>
        rw [c3, if_pos rfl] at hB
        subst hB
        simp -implicitDefEqProofs [go_sem, Tryz.f29, hg, hb, hl, pRowC, pPassC, pLowerC, predOf, hn, hw, hu, hul, rdBk, hu0, hu1, hu2, hu3, hget_set, List.set_set, pLetterC, c2, c3, dropP]
        exact fin
def portR (l po : List Int) : Bool × List Int × List Int := if headB l [58] = true then (if headB (l.drop 1) [42] = true then (true, [42], (l.drop 1).drop 1) else (decide (cntL digitB (l.drop 1) ≠ 0) && decide (cntL digitB (l.drop 1) ≤ 5), (l.drop 1).take (cntL digitB (l.drop 1)), (l.drop 1).drop (cntL digitB (l.drop 1)))) else (true, po, l)
def pPortRC : Ct := fun args h => match args with
  | [.p b 0] => match hget h b with
    | ⟨2, true, [.s l, .i .i64 k, .s a, .s c, .s d, .s e]⟩ => if b < h.length ∧ l.length ≤ 1048576 then some (.b (portR l d).1, h.set b (rdBk (portR l d).2.2 ⟨k, a, c, (portR l d).2.1, e⟩)) else none
    | _ => none
  | _ => none
theorem pPortR_ok : CtOk Tryz.prog G0 31 pPortRC := by
  refine ct_run (n := 1) fol (sound_cons pRow_ok (sound_cons pPass_ok sound_nil)) (by kernel_rfl) Tryz.func31 rfl fun args h v h' hc r xs H hr hx => ?_
  unfold pPortRC at hc; split at hc <;> (try split at hc) <;> (try split at hc) <;> cases hc
  rename_i b _ l k a c d e hg hb
  obtain ⟨hb, hl⟩ := hb
  refine ⟨rfl, ?_⟩
  obtain ⟨W, hW⟩ : ∃ W, portR l d = W := ⟨_, rfl⟩
  rw [hW]
  have fin : ∃ σ, Trim h (V.b W.1) (h.set b (rdBk W.2.2 ⟨k, a, c, W.2.1, e⟩)) (V.b W.1) (h.set b (rdBk W.2.2 ⟨k, a, c, W.2.1, e⟩)) σ := Trim.own (by simp [renV, bndV, renL, bndL]) rfl (Ext.refl _)
  unfold rdBk at fin
  unfold portR at hW
  cases c1 : headB l [58] with
  | false =>
    rw [c1, if_neg (by simp)] at hW
    subst hW
    simp -implicitDefEqProofs [go_sem, Tryz.f31, hg, hb, hl, pPassC, dropP, c1, rdBk]
    exact fin
  | true =>
    rw [c1, if_pos rfl] at hW
    obtain ⟨w, hw⟩ : ∃ w, l.tail = w := ⟨_, rfl⟩
    have hwl : w.length ≤ 1048576 := by rw [← hw]; simp; omega
    rw [List.drop_one, hw] at hW
    cases c2 : headB w [42] with
    | true =>
      rw [c2, if_pos rfl] at hW
      subst hW
      simp -implicitDefEqProofs [go_sem, Tryz.f31, hg, hb, hl, pPassC, dropP, c1, hw, c2, rdBk, hget_set, List.set_set]
      simpa using fin
    | false =>
      rw [c2, if_neg (by simp)] at hW
      obtain ⟨n, hn⟩ : ∃ n, cntL digitB w = n := ⟨_, rfl⟩
      have hnl : n ≤ w.length := by rw [← hn]; exact cntL_le _ _
      rw [hn] at hW
      obtain ⟨u, hu⟩ : ∃ u, w.take n = u := ⟨_, rfl⟩
      have hun : u.length = n := by rw [← hu]; simp; omega
      rw [hu] at hW
      by_cases c3 : n = 0
      · have hu0 : u = [] := List.length_eq_zero_iff.1 (by omega)
        have hu1 : u.isEmpty = true := by rw [hu0]; rfl
        rw [decide_eq_false (by omega), Bool.false_and] at hW
        subst hW
        simp -implicitDefEqProofs [go_sem, Tryz.f31, hg, hb, hl, pPassC, pRowC, predOf, dropP, c1, hw, c2, hwl, hn, hu, eq_true hu0, hu1, rdBk, hget_set, List.set_set]
        exact fin
      · have hu0 : ¬ u = [] := fun e => by rw [e] at hun; simp at hun; omega
        have hu1 : u.isEmpty = false := by cases u with | nil => exact absurd rfl hu0 | cons _ _ => rfl
        rw [decide_eq_true c3, Bool.true_and] at hW
        by_cases c4 : n ≤ 5
        · have c4' : u.length ≤ 5 := by omega
          have c4'' : (u.length : Int) ≤ 5 := by omega
          rw [decide_eq_true c4] at hW
          subst hW
          simp -implicitDefEqProofs [go_sem, Tryz.f31, hg, hb, hl, pPassC, pRowC, predOf, dropP, c1, hw, c2, hwl, hn, hu, hu0, hu1, c4', c4'', rdBk, hget_set, List.set_set]
          exact fin
        · have c4' : ¬ u.length ≤ 5 := by omega
          have c4'' : ¬ (u.length : Int) ≤ 5 := by omega
          rw [decide_eq_false c4] at hW
          subst hW
          simp -implicitDefEqProofs [go_sem, Tryz.f31, hg, hb, hl, pPassC, pRowC, predOf, dropP, c1, hw, c2, hwl, hn, hu, hu0, hu1, c4', c4'', rdBk, hget_set, List.set_set]
          exact fin
def pathR (l pa : List Int) : Bool × List Int × List Int := if headB l [47] = true then (decide (l.drop (cntL pathC l) = []), l.take (cntL pathC l), l.drop (cntL pathC l)) else (decide (l = []), pa, l)
def pPathRC : Ct := fun args h => match args with
  | [.p b 0] => match hget h b with
    | ⟨2, true, [.s l, .i .i64 k, .s a, .s c, .s d, .s e]⟩ => if b < h.length ∧ l.length ≤ 1048576 then some (.b (pathR l e).1, h.set b (rdBk (pathR l e).2.2 ⟨k, a, c, d, (pathR l e).2.1⟩)) else none
    | _ => none
  | _ => none
theorem pPathR_ok : CtOk Tryz.prog G0 32 pPathRC := by
  refine ct_run (n := 1) fol (sound_cons pRow_ok (sound_cons pHasPre_ok sound_nil)) (by kernel_rfl) Tryz.func32 rfl fun args h v h' hc r xs H hr hx => ?_
  unfold pPathRC at hc; split at hc <;> (try split at hc) <;> (try split at hc) <;> cases hc
  rename_i b _ l k a c d e hg hb
  obtain ⟨hb, hl⟩ := hb
  refine ⟨rfl, ?_⟩
  obtain ⟨W, hW⟩ : ∃ W, pathR l e = W := ⟨_, rfl⟩
  rw [hW]
  have fin : ∃ σ, Trim h (V.b W.1) (h.set b (rdBk W.2.2 ⟨k, a, c, d, W.2.1⟩)) (V.b W.1) (h.set b (rdBk W.2.2 ⟨k, a, c, d, W.2.1⟩)) σ := Trim.own (by simp [renV, bndV, renL, bndL]) rfl (Ext.refl _)
  unfold pathR at hW
  have emp : ∀ x : List Int, decide (x = []) = x.isEmpty := fun x => by cases x <;> rfl
  cases c1 : headB l [47] with
  | false =>
    rw [c1, if_neg (by simp), emp] at hW
    subst hW
    have hs : h.set b (rdBk l ⟨k, a, c, d, e⟩) = h := set_same hb hg
    rw [hs] at fin ⊢
    simp -implicitDefEqProofs [go_sem, Tryz.f32, hg, hb, hl, pHasPreC, c1]
    exact fin
  | true =>
    rw [c1, if_pos rfl] at hW
    obtain ⟨n, hn⟩ : ∃ n, cntL pathC l = n := ⟨_, rfl⟩
    obtain ⟨u, hu⟩ : ∃ u, l.take n = u := ⟨_, rfl⟩
    obtain ⟨w, hw⟩ : ∃ w, l.drop n = w := ⟨_, rfl⟩
    rw [hn, hu, hw, emp] at hW
    subst hW
    unfold rdBk at fin
    simp -implicitDefEqProofs [go_sem, Tryz.f32, hg, hb, hl, pHasPreC, pRowC, predOf, c1, hn, hu, hw, rdBk, hget_set, List.set_set]
    exact fin
end GoD
