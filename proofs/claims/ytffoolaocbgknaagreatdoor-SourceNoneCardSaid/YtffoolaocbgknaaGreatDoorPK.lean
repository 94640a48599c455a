import Derived.Test.YtffoolaocbgknaaGreatDoorPJ
/-! What the program's reader reads: hosts. -/
namespace GoD
open Go Go.Proofs
set_option linter.unusedVariables false
set_option linter.unusedSimpArgs false
set_option maxHeartbeats 2000000
set_option maxRecDepth 100000
def labsR : Nat → List Int → List Int → Bool × List Int × List Int
  | 0, acc, l => (false, acc, l)
  | f + 1, acc, l => if cntL labB l = 0 then (false, acc, l) else if headB (l.drop (cntL labB l)) [46] = true then labsR f (acc ++ lowerL (l.take (cntL labB l)) ++ [46]) ((l.drop (cntL labB l)).drop 1) else (true, acc ++ lowerL (l.take (cntL labB l)), l.drop (cntL labB l))
noncomputable def hostLoop : Code := loop1 Tryz.f30
theorem host_loop {P : Ex → Tm → Heap → Prop} {tk : List Todo} {l ho sch po pa : List Int} {kd : Int} {b : Nat} {h : Heap} {W : Bool × List Int × List Int} (hb : b < h.length) (hl : l.length ≤ 1048576) (hho : ho.length ≤ 1048576) (hW : labsR (l.length + 1) ho l = W)
    (hr : ∀ t, get t 2 = .b W.1 → RunX (ctx Tryz.prog G0 [(61, pRowC), (64, pPassC), (60, pLowerC)]) P tk .r t (h.set b (rdBk W.2.2 ⟨kd, sch, W.2.1, po, pa⟩)))
    {t : Tm} {h0 : Heap} (t0 : get t 0 = .p b 0) (hh : h0 = h.set b (rdBk l ⟨kd, sch, ho, po, pa⟩)) : Run (ctx Tryz.prog G0 [(61, pRowC), (64, pPassC), (60, pLowerC)]) P (.again hostLoop :: tk) t h0 := by
  refine run_inv _ _ _ _ _ (fun (x : Nat × List Int × List Int) t h1 => x.2.2.length < x.1 ∧ x.2.2.length ≤ l.length ∧ x.2.1.length + x.2.2.length ≤ 2097152 ∧ get t 0 = .p b 0 ∧ labsR x.1 x.2.1 x.2.2 = W ∧ h1 = h.set b (rdBk x.2.2 ⟨kd, sch, x.2.1, po, pa⟩)) (fun x => x.1) _ (x := (l.length + 1, ho, l)) ⟨by simp, by simp, by simp; omega, t0, hW, hh⟩ ?_
  clear t0 hh hW
  rintro ⟨f, acc, s⟩ t h1 ⟨hf, hsl, hal, t0, hW, hh⟩ ih
  simp only at hf hsl hal t0 hW hh
  have hg : hget h1 b = rdBk s ⟨kd, sch, acc, po, pa⟩ := by rw [hh, hget_set, if_pos ⟨rfl, hb⟩]
  have hb1 : b < h1.length := by rw [hh, List.length_set]; exact hb
  have hset : ∀ B, h1.set b B = h.set b B := by intro B; rw [hh, List.set_set]
  have hs7 : s.length ≤ 1048576 := by omega
  obtain ⟨g, rfl⟩ : ∃ g, f = g + 1 := ⟨f - 1, by omega⟩
  rw [labsR] at hW
  obtain ⟨n, hn⟩ : ∃ n, cntL labB s = n := ⟨_, rfl⟩
  have hnl : n ≤ s.length := by rw [← hn]; exact cntL_le _ _
  rw [hn] at hW
  obtain ⟨u, hu⟩ : ∃ u, s.take n = u := ⟨_, rfl⟩
  have hun : u.length = n := by rw [← hu]; simp; omega
  have hul : u.length ≤ 1048576 := by omega
  obtain ⟨w, hw⟩ : ∃ w, s.drop n = w := ⟨_, rfl⟩
  have hwl : w.length = s.length - n := by rw [← hw]; simp
  rw [hu, hw] at hW
  unfold rdBk at hg hr
  by_cases c1 : n = 0
  · rw [if_pos c1] at hW
    subst hW
    have hu0 : u = [] := List.length_eq_zero_iff.1 (by omega)
    have hu1 : u.isEmpty = true := by rw [hu0]; rfl
    have hws : w = s := by rw [← hw, c1]; rfl
    simp -implicitDefEqProofs [go_sem, hostLoop, loop1, loopC, Tryz.f30, t0, hg, hb1, hs7, pRowC, predOf, hn, hu, hw, eq_true hu0, hu1, rdBk]
    rw [hset, hws]
    exact hr _ (by simp -implicitDefEqProofs [go_sem])
  · rw [if_neg c1] at hW
    have hu0 : ¬ u = [] := fun e => by rw [e] at hun; simp at hun; omega
    have hu1 : u.isEmpty = false := by cases u with | nil => exact absurd rfl hu0 | cons _ _ => rfl
    obtain ⟨v, hv⟩ : ∃ v, lowerL u = v := ⟨_, rfl⟩
    have hvl : v.length = n := by rw [← hv]; simpa [lowerL] using hun
    rw [hv] at hW
    have a1 : acc.length + v.length ≤ 281474976710656 := by omega
    have a2 : acc.length + v.length + 1 ≤ 281474976710656 := by omega
    have a3 : acc.length + (v.length + 1) ≤ 281474976710656 := by omega
    cases c2 : headB w [46] with
    | false =>
      rw [c2, if_neg (by simp)] at hW
      subst hW
      simp -implicitDefEqProofs [go_sem, hostLoop, loop1, loopC, Tryz.f30, t0, hg, hb1, hs7, pRowC, pPassC, pLowerC, predOf, hn, hu, hw, hul, hv, hu0, hu1, rdBk, hget_set, List.set_set, a1, a2, a3, c2, dropP]
      rw [hset]
      exact hr _ (by simp -implicitDefEqProofs [go_sem])
    | true =>
      rw [c2, if_pos rfl] at hW
      have hw1 : 1 ≤ w.length := headB_le c2
      simp -implicitDefEqProofs [go_sem, hostLoop, loop1, loopC, Tryz.f30, t0, hg, hb1, hs7, pRowC, pPassC, pLowerC, predOf, hn, hu, hw, hul, hv, hu0, hu1, rdBk, hget_set, List.set_set, a1, a2, a3, c2, dropP]
      refine ih (g, acc ++ v ++ [46], w.drop 1) _ _ (by simp) ⟨by simp; omega, by simp; omega, by simp; omega, ?_, hW, ?_⟩
      · simp -implicitDefEqProofs [go_sem, t0]
      · rw [hset]; simp [rdBk]
def hostR (l c : List Int) : Bool × List Int × List Int := if headB l [42] = true then (if headB (l.drop 1) [46] = true then labsR (((l.drop 1).drop 1).length + 1) [42, 46] ((l.drop 1).drop 1) else (true, [42], l.drop 1)) else labsR (l.length + 1) c l
def pHostRC : Ct := fun args h => match args with
  | [.p b 0] => match hget h b with
    | ⟨2, true, [.s l, .i .i64 k, .s a, .s c, .s d, .s e]⟩ => if b < h.length ∧ l.length ≤ 1048576 ∧ c.length ≤ 1048576 then some (.b (hostR l c).1, h.set b (rdBk (hostR l c).2.2 ⟨k, a, (hostR l c).2.1, d, e⟩)) else none
    | _ => none
  | _ => none
theorem pHostR_ok : CtOk Tryz.prog G0 30 pHostRC := by
  refine ct_run (n := 1) fol (sound_cons pRow_ok (sound_cons pPass_ok (sound_cons pLower_ok sound_nil))) (by kernel_rfl) Tryz.func30 rfl fun args h v h' hc r xs H hr hx => ?_
  unfold pHostRC at hc; split at hc <;> (try split at hc) <;> (try split at hc) <;> cases hc
  rename_i b _ l k a c d e hg hb
  obtain ⟨hb, hl, hcl⟩ := hb
  refine ⟨rfl, ?_⟩
  obtain ⟨W, hW⟩ : ∃ W, hostR l c = W := ⟨_, rfl⟩
  rw [hW]
  have fin : ∃ σ, Trim h (V.b W.1) (h.set b (rdBk W.2.2 ⟨k, a, W.2.1, d, e⟩)) (V.b W.1) (h.set b (rdBk W.2.2 ⟨k, a, W.2.1, d, e⟩)) σ := Trim.own (by simp [renV, bndV, renL, bndL]) rfl (Ext.refl _)
  unfold hostR at hW
  cases c1 : headB l [42] with
  | false =>
    rw [c1, if_neg (by simp)] at hW
    simp -implicitDefEqProofs [go_sem, Tryz.f30, hg, hb, hl, pPassC, dropP, c1]
    refine host_loop (h := h) (kd := k) (sch := a) (po := d) (pa := e) hb hl hcl hW (fun t t2 => ?_) (by simp -implicitDefEqProofs [go_sem]) rfl
    simp -implicitDefEqProofs [go_sem, t2]
    exact fin
  | true =>
    rw [c1, if_pos rfl] at hW
    obtain ⟨w, hw⟩ : ∃ w, l.tail = w := ⟨_, rfl⟩
    have hwl : w.length ≤ 1048576 := by rw [← hw]; simp; omega
    rw [List.drop_one, hw] at hW
    cases c2 : headB w [46] with
    | false =>
      rw [c2, if_neg (by simp)] at hW
      subst hW
      unfold rdBk at fin
      simp -implicitDefEqProofs [go_sem, Tryz.f30, hg, hb, hl, pPassC, dropP, c1, hw, c2, rdBk, hget_set, List.set_set]
      exact fin
    | true =>
      rw [c2, if_pos rfl] at hW
      simp -implicitDefEqProofs [go_sem, Tryz.f30, hg, hb, hl, pPassC, dropP, c1, hw, c2, rdBk, hget_set, List.set_set]
      refine host_loop (h := h) (kd := k) (sch := a) (po := d) (pa := e) hb (l := w.drop 1) (by simp; omega) (ho := [42, 46]) (by simp) hW (fun t t2 => ?_) (by simp -implicitDefEqProofs [go_sem]) (by simp [rdBk])
      simp -implicitDefEqProofs [go_sem, t2]
      exact fin
theorem labN_eq : ∀ l, cntL labB l = labelN l
  | [] => rfl
  | c :: t => by rw [cntL, labelN, labN_eq t]
theorem headB_cons (c d : Int) (r : List Int) : headB (c :: r) [d] = decide (c = d) := by simp [headB]
theorem headB_nil (d : Int) : headB [] [d] = false := by simp [headB]
theorem cut_mid {l p r : List Int} {c : Int} {n : Nat} (e : l = p ++ c :: r) (hn : p.length = n) (m : Nat) : l.take (n + 1 + m) = p ++ c :: r.take m ∧ l.drop (n + 1 + m) = r.drop m := by
  subst e hn
  constructor
  · rw [List.take_append, List.take_of_length_le (by omega), show p.length + 1 + m - p.length = m + 1 by omega]; rfl
  · rw [List.drop_append, List.drop_of_length_le (by omega), show p.length + 1 + m - p.length = m + 1 by omega]; rfl
theorem labsR_spec : ∀ (f : Nat) (acc l : List Int), l.length < f → (labelsN l = 0 → (labsR f acc l).1 = false) ∧ (labelsN l ≠ 0 → labsR f acc l = (true, acc ++ lowerL (l.take (labelsN l)), l.drop (labelsN l)))
  | 0, _, l, h => by omega
  | f + 1, acc, l, h => by
    rw [labsR, labN_eq, labelsN_tail]
    by_cases h0 : labelN l = 0
    · simp [h0]
    · rw [if_neg h0, if_neg h0]
      have hle := labelN_le l
      match hd : l.drop (labelN l) with
      | [] =>
        rw [headB_nil, if_neg (by simp), tailN]
        exact ⟨fun e => absurd e h0, fun _ => by rw [hd]⟩
      | c :: r =>
        have hlen : r.length + 1 = l.length - labelN l := by have := congrArg List.length hd; simpa using this.symm
        rw [headB_cons, tailN]
        by_cases h1 : c = 46
        · rw [decide_eq_true h1, if_pos rfl, if_pos h1, List.drop_one, List.tail_cons]
          obtain ⟨i1, i2⟩ := labsR_spec f (acc ++ lowerL (l.take (labelN l)) ++ [46]) r (by omega)
          by_cases h2 : labelsN r = 0
          · rw [if_pos h2]
            exact ⟨fun _ => i1 h2, fun e => absurd rfl e⟩
          · rw [if_neg h2]
            refine ⟨fun e => by omega, fun _ => ?_⟩
            rw [i2 h2]
            have e1 : l = l.take (labelN l) ++ 46 :: r := by rw [← h1, ← hd, List.take_append_drop]
            have e2 : (l.take (labelN l)).length = labelN l := by simp; omega
            obtain ⟨e3, e4⟩ := cut_mid e1 e2 (labelsN r)
            rw [e3, e4]
            simp [lowerL, lowB]
        · rw [decide_eq_false h1, if_neg h1, if_neg (fun e => by cases e)]
          exact ⟨fun e => absurd e h0, fun _ => by rw [hd]⟩
end GoD
