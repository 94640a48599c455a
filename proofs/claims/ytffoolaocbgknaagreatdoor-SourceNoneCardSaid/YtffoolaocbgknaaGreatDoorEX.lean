import Derived.Test.YtffoolaocbgknaaGreatDoorEW
/-! Whether one of some expressions matches, as the document says. -/
namespace GoD
open Go Go.Proofs
set_option linter.unusedVariables false
set_option linter.unusedSimpArgs false
set_option maxHeartbeats 4000000
set_option maxRecDepth 100000
theorem cntL_all (p : Int → Bool) : ∀ l : List Int, (l.take (cntL p l)).all p = true
  | [] => by simp [cntL]
  | c :: t => by
    have := cntL_all p t
    rw [cntL]
    split
    · rename_i h; rw [List.take_succ_cons, List.all_cons, h, this]; rfl
    · simp
theorem src4_po {sch ho po s : List Int} (h : portQ po) : portQ (src4 sch ho po s).po := by
  unfold src4
  split
  · exact .inl rfl
  · split
    · exact h
    · exact .inl rfl
theorem src4_pa (sch ho po s : List Int) : (src4 sch ho po s).pa.length ≤ s.length := by
  unfold src4
  split
  · simp [exprZ]
  · split <;> simp [exprZ]
theorem src3_po (sch ho : List Int) : ∀ s, portQ (src3 sch ho s).po
  | [] => src4_po (.inl rfl)
  | c :: r => by
    rw [src3]
    split
    · split
      · exact src4_po (.inr (.inl rfl))
      · split
        · exact .inl rfl
        · rename_i h
          refine src4_po (.inr (.inr ?_))
          have h2 := cntL_all digitB r
          have h3 := cntL_le digitB r
          rw [portP, h2, decide_eq_true (by simp; omega)]; rfl
    · exact src4_po (.inl rfl)
theorem src3_pa (sch ho : List Int) : ∀ s, (src3 sch ho s).pa.length ≤ s.length
  | [] => src4_pa _ _ _ _
  | c :: r => by
    rw [src3]
    split
    · split
      · exact Nat.le_trans (src4_pa _ _ _ _) (by simp; omega)
      · split
        · simp [exprZ]
        · exact Nat.le_trans (src4_pa _ _ _ _) (by simp; omega)
    · exact src4_pa _ _ _ _
theorem src2_po (sch s : List Int) : portQ (src2 sch s).po := by
  unfold src2
  split
  · exact .inl rfl
  · exact src3_po _ _ _
theorem src2_pa (sch s : List Int) : (src2 sch s).pa.length ≤ s.length := by
  unfold src2
  split
  · simp [exprZ]
  · exact Nat.le_trans (src3_pa _ _ _) (by simp)
theorem srcL_po (s : List Int) : portQ (srcL s).po := by
  unfold srcL src1
  repeat' split
  all_goals first | exact .inl rfl | exact src2_po _ _
theorem srcL_pa (s : List Int) : (srcL s).pa.length ≤ s.length := by
  unfold srcL src1
  repeat' split
  all_goals first | exact Nat.zero_le _ | exact Nat.le_trans (src2_pa _ _) (by simp)
def listB (y : List (List Int)) (us uh : List Int) (up : Int) (path os oh : List Int) (op rd : Int) : Bool := y.any fun s => matchB (srcL s) us uh up path os oh op rd
def rListC : Ct := fun args h => match args with
  | [.sl bl o n 1, .agg [.s a, .s b, .s c, .s d, .i .i64 p, .s e, .b q, .s f, .b g, .s x], .agg [.s os, .s oh, .i .i64 op], .i .i64 rd] => (match strsAt h bl o n with
    | some y => if d.length ≤ 1048576 ∧ e.length ≤ 1048576 ∧ (∀ s ∈ y, s.length ≤ 1048576) then some (.b (listB y a d p e os oh op rd), h) else none
    | none => none)
  | _ => none
theorem rList_ok : CtOk Tryz.prog G0 27 rListC := by
  refine ct_plain (n := 4) fol (sound_cons rSource_ok (sound_cons rMatch_ok sound_nil)) (by kernel_rfl) Tryz.func27 rfl fun args h v h' hc r xs H hr hx => ?_
  unfold rListC at hc; split at hc <;> (try split at hc) <;> (try split at hc) <;> cases hc
  rename_i bl o n a b c d p e q f g x os oh op rd _ y hy hl
  obtain ⟨hdl, hel, hyl⟩ := hl
  obtain ⟨st, xx, cc, hg, hld, hn, hc⟩ := strsAt_eq hy
  have hn6 := (sl_of hx).1
  refine ⟨rfl, rfl, by simp [renV, bndV, renL, bndL], ?_⟩
  have hbl : bl < h.length := by
    by_cases hb : bl < h.length
    · exact hb
    · unfold hget at hg
      rw [List.getD_eq_getElem?_getD, List.getElem?_eq_none (by omega)] at hg
      cases hg
  obtain ⟨us, hus⟩ : ∃ us, us = V.agg [.s a, .s b, .s c, .s d, .i .i64 p, .s e, .b q, .s f, .b g, .s x] := ⟨_, rfl⟩
  obtain ⟨og, hog⟩ : ∃ og, og = V.agg [.s os, .s oh, .i .i64 op] := ⟨_, rfl⟩
  simp -implicitDefEqProofs [go_sem, Tryz.f27]
  refine run_inv _ _ _ _ _ (fun (i : Nat) t h1 => i ≤ n ∧ get t 0 = .sl bl o n 1 ∧ get t 3 = .i .i64 rd ∧ get t 5 = .p h.length 0 ∧ get t 6 = .p (h.length + 1) 0 ∧ get t 9 = .i .i64 i ∧ listB (y.drop i) a d p e os oh op rd = listB y a d p e os oh op rd ∧ h1 = h ++ [⟨2, true, [.s a, .s b, .s c, .s d, .i .i64 p, .s e, .b q, .s f, .b g, .s x]⟩, ⟨2, true, [.s os, .s oh, .i .i64 op]⟩]) (fun i => n - i) _ (x := 0) ⟨by simp, rfl, rfl, rfl, rfl, rfl, rfl, by simp⟩ ?_
  rintro i t h1 ⟨hi, t0, t3, t5, t6, t9, hd, hh⟩ ih
  have hl1 : h1.length = h.length + 2 := by rw [hh]; simp
  have hg0 : hget h1 h.length = ⟨2, true, [.s a, .s b, .s c, .s d, .i .i64 p, .s e, .b q, .s f, .b g, .s x]⟩ := by rw [hh, hget_at0 rfl]; rfl
  have hg1 : hget h1 (h.length + 1) = ⟨2, true, [.s os, .s oh, .i .i64 op]⟩ := by rw [hh, hget_at rfl]; rfl
  have hgb : hget h1 bl = ⟨st + 1, xx, cc⟩ := by rw [hh, hget_lt hbl]; exact hg
  have hE : Ext h h1 := by rw [hh]; exact ⟨by simp, fun i hi => hget_lt hi⟩
  have hi6 : i < 1152921504606846976 := by omega
  by_cases hlt : i < n
  · have hlt' : i < y.length := by omega
    obtain ⟨w, hw⟩ : ∃ w, y[i] = w := ⟨_, rfl⟩
    have hc1 := hc i hlt'
    have hwl := hyl w (hw ▸ List.getElem_mem hlt')
    rw [hw] at hc1
    have hpo := srcL_po w
    have hpa := Nat.le_trans (srcL_pa w) hwl
    have hd2 : listB (y.drop i) a d p e os oh op rd = (matchB (srcL w) a d p e os oh op rd || listB (y.drop (i + 1)) a d p e os oh op rd) := by rw [List.drop_eq_getElem_cons hlt', hw]; rfl
    rw [hd2] at hd
    obtain ⟨⟨ek, es, eh, ep, ea⟩, hsw⟩ : ∃ E, srcL w = E := ⟨_, rfl⟩
    rw [hsw] at hpo hpa hd
    simp only at hpo hpa
    cases c1 : matchB ⟨ek, es, eh, ep, ea⟩ a d p e os oh op rd with
    | true =>
      rw [c1, Bool.true_or] at hd
      simp -implicitDefEqProofs [go_sem, Tryz.f27, t0, t3, t5, t6, t9, hlt, hc1, hgb, hg0, hg1, rSourceC, hwl, hsw, Expr5.V, Expr5.cells, rMatchC, hpo, hpa, hdl, hel, c1, ← hd, hE]
    | false =>
      rw [c1, Bool.false_or] at hd
      simp -implicitDefEqProofs [go_sem, Tryz.f27, t0, t3, t5, t6, t9, hlt, hc1, hgb, hg0, hg1, rSourceC, hwl, hsw, Expr5.V, Expr5.cells, rMatchC, hpo, hpa, hdl, hel, c1]
      refine ih (i + 1) _ _ (by omega) ⟨by omega, ?_⟩
      simp -implicitDefEqProofs [go_sem, t0, t3, t5, t6, t9, i64_n hi6, hd, hh]
  · have e0 : y.drop i = [] := List.drop_eq_nil_of_le (by omega)
    rw [e0] at hd
    have hd : listB y a d p e os oh op rd = false := hd.symm
    simp -implicitDefEqProofs [go_sem, Tryz.f27, t0, t9, hlt, hd, hE]
end GoD
