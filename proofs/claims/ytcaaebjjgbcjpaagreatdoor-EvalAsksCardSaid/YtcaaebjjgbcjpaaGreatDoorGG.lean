import Derived.Test.YtcaaebjjgbcjpaaGreatDoorGD
import Derived.Test.YtcaaebjjgbcjpaaGreatDoorVA
/-! Chapter 23: what is looked at, program's side. -/
namespace GoD
open Go Go.Proofs
set_option linter.unusedVariables false
set_option linter.unusedSimpArgs false
set_option maxHeartbeats 4000000
set_option maxRecDepth 100000
/-- fields in a row of cells -/
def fldsV : List V → Option (List (List Int × List Int))
  | [] => some []
  | .s a :: .s b :: t => (fldsV t).map ((a, b) :: ·)
  | _ => none
def fldsAt (h : Heap) (b o n : Nat) : Option (List (List Int × List Int)) := match hget h b with
  | ⟨0, _, _⟩ => none
  | ⟨_ + 1, _, c⟩ => match ldN c o (n * 2) with | some l => fldsV l | none => none
theorem fldsV_at : ∀ {l : List V} {fs : List (List Int × List Int)}, fldsV l = some fs → l.length = fs.length * 2 ∧ ∀ i (hi : i < fs.length), l[i * 2]? = some (.s fs[i].1) ∧ l[i * 2 + 1]? = some (.s fs[i].2)
  | [], fs, h => by simp [fldsV] at h; subst h; simp
  | .s a :: .s b :: t, fs, h => by
    simp only [fldsV] at h
    obtain ⟨r, hr, rfl⟩ := Option.map_eq_some_iff.1 h
    obtain ⟨h1, h2⟩ := fldsV_at hr
    refine ⟨by simp [h1]; omega, fun i hi => ?_⟩
    cases i with
    | zero => simp
    | succ i =>
      have := h2 i (by simpa using hi)
      rw [show (i + 1) * 2 = i * 2 + 1 + 1 by omega]
      simpa using this
  | [_], fs, h => by simp [fldsV] at h
  | .junk :: _ :: _, fs, h => by simp [fldsV] at h
  | .b _ :: _ :: _, fs, h => by simp [fldsV] at h
  | .i _ _ :: _ :: _, fs, h => by simp [fldsV] at h
  | .p _ _ :: _ :: _, fs, h => by simp [fldsV] at h
  | .g _ _ :: _ :: _, fs, h => by simp [fldsV] at h
  | .sl _ _ _ _ :: _ :: _, fs, h => by simp [fldsV] at h
  | .c _ :: _ :: _, fs, h => by simp [fldsV] at h
  | .agg _ :: _ :: _, fs, h => by simp [fldsV] at h
  | .tup _ :: _ :: _, fs, h => by simp [fldsV] at h
  | .f _ _ :: _ :: _, fs, h => by simp [fldsV] at h
  | .bf _ _ :: _ :: _, fs, h => by simp [fldsV] at h
  | .ifc _ _ :: _ :: _, fs, h => by simp [fldsV] at h
  | .e0 :: _ :: _, fs, h => by simp [fldsV] at h
  | .ai _ :: _ :: _, fs, h => by simp [fldsV] at h
  | .m _ :: _ :: _, fs, h => by simp [fldsV] at h
  | .s _ :: .junk :: _, fs, h => by simp [fldsV] at h
  | .s _ :: .b _ :: _, fs, h => by simp [fldsV] at h
  | .s _ :: .i _ _ :: _, fs, h => by simp [fldsV] at h
  | .s _ :: .p _ _ :: _, fs, h => by simp [fldsV] at h
  | .s _ :: .g _ _ :: _, fs, h => by simp [fldsV] at h
  | .s _ :: .sl _ _ _ _ :: _, fs, h => by simp [fldsV] at h
  | .s _ :: .c _ :: _, fs, h => by simp [fldsV] at h
  | .s _ :: .agg _ :: _, fs, h => by simp [fldsV] at h
  | .s _ :: .tup _ :: _, fs, h => by simp [fldsV] at h
  | .s _ :: .f _ _ :: _, fs, h => by simp [fldsV] at h
  | .s _ :: .bf _ _ :: _, fs, h => by simp [fldsV] at h
  | .s _ :: .ifc _ _ :: _, fs, h => by simp [fldsV] at h
  | .s _ :: .e0 :: _, fs, h => by simp [fldsV] at h
  | .s _ :: .ai _ :: _, fs, h => by simp [fldsV] at h
  | .s _ :: .m _ :: _, fs, h => by simp [fldsV] at h
theorem ld_one {c : List V} {k : Nat} {v : V} (h : c[k]? = some v) : ldN c k 1 = some [v] := by
  obtain ⟨h1, h2⟩ := List.getElem?_eq_some_iff.1 h
  rw [ldN, if_pos (by omega), List.drop_eq_getElem_cons h1, h2]; rfl
theorem ld_two {c : List V} {k : Nat} {v u : V} (h : c[k]? = some v) (h' : c[k + 1]? = some u) : ldN c k 2 = some [v, u] := by
  obtain ⟨h1, h2⟩ := List.getElem?_eq_some_iff.1 h
  obtain ⟨h3, h4⟩ := List.getElem?_eq_some_iff.1 h'
  rw [ldN, if_pos (by omega), List.drop_eq_getElem_cons h1, h2, List.drop_eq_getElem_cons h3, h4]; rfl
theorem fldsAt_eq {h : Heap} {b o n : Nat} {fs : List (List Int × List Int)} (hs : fldsAt h b o n = some fs) : ∃ st x c, hget h b = ⟨st + 1, x, c⟩ ∧ fs.length = n ∧ ∀ i (hi : i < fs.length), ldN c (o + i * 2) 1 = some [.s fs[i].1] ∧ ldN c (o + i * 2 + 1) 1 = some [.s fs[i].2] ∧ ldN c (o + i * 2) 2 = some [.s fs[i].1, .s fs[i].2] := by
  unfold fldsAt at hs
  split at hs
  · cases hs
  · rename_i st x c hg
    split at hs
    · rename_i l hl
      obtain ⟨h1, h2⟩ := fldsV_at hs
      unfold ldN at hl
      split at hl
      · rename_i hb
        have hl := Option.some.inj hl
        have hn : fs.length = n := by have := congrArg List.length hl; simp at this; omega
        refine ⟨st, x, c, hg, hn, fun i hi => ?_⟩
        obtain ⟨h3, h4⟩ := h2 i hi
        have e : ∀ k, k < n * 2 → l[k]? = c[o + k]? := fun k hk => by
          rw [← hl, List.getElem?_take, if_pos hk, List.getElem?_drop]
        rw [e _ (by omega)] at h3 h4
        exact ⟨ld_one h3, by rw [Nat.add_assoc]; exact ld_one h4, ld_two h3 (by rw [Nat.add_assoc]; exact h4)⟩
      · cases hl
    · cases hs
theorem fldsAt_ext {h h1 : Heap} {b o n : Nat} {fs : List (List Int × List Int)} (he : Ext h h1) (hs : fldsAt h b o n = some fs) : fldsAt h1 b o n = some fs := by
  obtain ⟨st, x, c, hg, _⟩ := fldsAt_eq hs
  have hb : b < h.length := by
    by_cases hb : b < h.length
    · exact hb
    · unfold hget at hg
      rw [List.getD_eq_getElem?_getD, List.getElem?_eq_none (by omega)] at hg
      cases hg
  unfold fldsAt at hs ⊢
  rw [he.2 b hb]; exact hs
theorem fldsAt_lt {h : Heap} {b o n : Nat} {fs : List (List Int × List Int)} (hs : fldsAt h b o n = some fs) : b < h.length := by
  obtain ⟨st, x, c, hg, _⟩ := fldsAt_eq hs
  by_cases hb : b < h.length
  · exact hb
  · unfold hget at hg
    rw [List.getD_eq_getElem?_getD, List.getElem?_eq_none (by omega)] at hg
    cases hg
/-- the values of fields of a name -/
def valsL (a : List Int) (fs : List (List Int × List Int)) : List (List Int) := (fs.filter fun f => decide (lowerL a = lowerL f.1)).map (·.2)
theorem valsL_cons (a : List Int) (f : List Int × List Int) (fs : List (List Int × List Int)) : valsL a (f :: fs) = if lowerL a = lowerL f.1 then f.2 :: valsL a fs else valsL a fs := by
  unfold valsL
  rw [List.filter_cons]
  by_cases c : lowerL a = lowerL f.1
  · simp [c]
  · simp [c]
theorem valsL_len (a : List Int) (fs : List (List Int × List Int)) : (valsL a fs).length ≤ fs.length := by
  unfold valsL; rw [List.length_map]; exact List.length_filter_le _ _
end GoD

/-! Chapter 23: the values of fields, both sides; is a query looked at. -/
namespace GoD
open Go Go.Proofs
set_option linter.unusedVariables false
set_option linter.unusedSimpArgs false
set_option maxHeartbeats 4000000
set_option maxRecDepth 100000
def oneS (h : Heap) (q : Nat) : Option (List Int) := match strsAt h q 0 1 with | some [a] => some a | _ => none
theorem oneS_eq {h : Heap} {q : Nat} {a : List Int} (hs : oneS h q = some a) : strsAt h q 0 1 = some [a] := by
  unfold oneS at hs
  split at hs
  · rename_i x he; obtain rfl := Option.some.inj hs; exact he
  · cases hs
theorem oneS_ld {h : Heap} {q : Nat} {a : List Int} (hs : oneS h q = some a) : ∃ st x c, hget h q = ⟨st + 1, x, c⟩ ∧ ldN c 0 1 = some [.s a] := by
  obtain ⟨st, x, c, h1, h2, _⟩ := strsAt_eq (oneS_eq hs)
  exact ⟨st, x, c, h1, h2⟩
theorem oneS_ext {h h1 : Heap} {q : Nat} {a : List Int} (he : Ext h h1) (hs : oneS h q = some a) : oneS h1 q = some a := by
  obtain ⟨st, x, c, hg, _⟩ := oneS_ld hs
  have hb : q < h.length := by
    by_cases hb : q < h.length
    · exact hb
    · unfold hget at hg
      rw [List.getD_eq_getElem?_getD, List.getElem?_eq_none (by omega)] at hg
      cases hg
  unfold oneS strsAt at hs ⊢
  rw [he.2 q hb]; exact hs
def rSameInC : Ct := fun args h => match args with | [.s l, .sl q 0 1 1] => (match oneS h q with | some a => if l.length ≤ 1048576 ∧ a.length ≤ 1048576 then some (.b (decide (lowerL a = lowerL l)), h) else none | none => none) | _ => none
theorem rSameIn_ok : CtOk Tryz.prog G0 78 rSameInC := by
  refine ct_plain (n := 2) fol (sound_cons rSame_ok sound_nil) (by kernel_rfl) Tryz.func78 rfl fun args h v h' hc r xs H hr hx => ?_
  unfold rSameInC at hc; split at hc <;> (try split at hc) <;> (try split at hc) <;> cases hc
  rename_i l q _ a ha hl
  obtain ⟨st, x, c, hg, hld⟩ := oneS_ld ha
  refine ⟨rfl, rfl, by simp [renV, bndV], ?_⟩
  by_cases c1 : lowerL a = lowerL l
  · simp -implicitDefEqProofs [go_sem, Tryz.f78]
    rw [run_again]
    simp -implicitDefEqProofs [go_sem, Tryz.f78, hg, hld, rSameC, hl.1, hl.2, c1]
  · simp -implicitDefEqProofs [go_sem, Tryz.f78]
    rw [run_again]
    simp -implicitDefEqProofs [go_sem, Tryz.f78, hg, hld, rSameC, hl.1, hl.2, c1]
    rw [run_again]
    simp -implicitDefEqProofs [go_sem, Tryz.f78, hg, hld, rSameC, hl.1, hl.2, c1, show IntKind.i64.wrap 1 = 1 from rfl]
def rValuesC : Ct := fun args h => match args with
  | [.sl b o n 2, .sl q 0 1 1] => (match fldsAt h b o n, oneS h q with
    | some fs, some a => if a.length ≤ 1048576 ∧ (∀ f ∈ fs, f.1.length ≤ 1048576) ∧ n ≤ 1048577 then some (.sl h.length 0 (valsL a fs).length 1, h ++ [⟨2, false, sts (valsL a fs)⟩]) else none
    | _, _ => none)
  | _ => none
theorem rValues_ok : CtOk Tryz.prog G0 61 rValuesC := by
  refine ct_run (n := 2) fol (sound_cons rSameIn_ok sound_nil) (by kernel_rfl) Tryz.func61 rfl fun args h v h' hc r xs H hr hx => ?_
  unfold rValuesC at hc; split at hc <;> (try split at hc) <;> (try split at hc) <;> cases hc
  rename_i b o n q _ _ fs a hf ha hl
  obtain ⟨hl1, hl2, hl3⟩ := hl
  obtain ⟨st, xx, c, hg, hn, hc⟩ := fldsAt_eq hf
  have hb := fldsAt_lt hf
  have hn6 := (sl_of hx).1
  refine ⟨rfl, ?_⟩
  simp -implicitDefEqProofs [go_sem, Tryz.f61]
  refine run_inv _ _ _ _ _ (fun (x : Nat × Nat × List (List Int)) t h1 => x.1 ≤ n ∧ get t 0 = .sl b o n 2 ∧ get t 1 = .sl q 0 1 1 ∧ get t 6 = .i .i64 x.1 ∧ get t 5 = .sl x.2.1 0 x.2.2.length 1 ∧ hget h1 x.2.1 = ⟨2, false, sts x.2.2⟩ ∧ h.length ≤ x.2.1 ∧ x.2.1 < h1.length ∧ Ext h h1 ∧ x.2.2.length ≤ x.1 ∧ x.2.2 ++ valsL a (fs.drop x.1) = valsL a fs) (fun x => n - x.1) _ (x := (0, h.length + 1, [])) ⟨by simp, rfl, rfl, rfl, rfl, by simp -implicitDefEqProofs [go_sem, sts], by simp, by simp, by simp -implicitDefEqProofs [go_sem], by simp, by simp⟩ ?_
  rintro ⟨i, m, acc⟩ t h1 ⟨hi, t0, t1, t6, t5, hg1, hm, hm', he, hal, ha1⟩ ih
  simp only at hi t0 t1 t6 t5 hg1 hm hm' hal ha1
  have hmn : m ≠ h1.length := by omega
  have hi6 : i < 1152921504606846976 := by omega
  have e1 : (acc.length + 1) * 16 ≤ 1099511627776 := by omega
  have hgb : hget h1 b = ⟨st + 1, xx, c⟩ := by rw [he.2 b hb]; exact hg
  have ha2 := oneS_ext he ha
  by_cases hlt : i < n
  · have hlt' : i < fs.length := by omega
    obtain ⟨c1, c2, c3⟩ := hc i hlt'
    have hf1 := hl2 fs[i] (List.getElem_mem hlt')
    rw [List.drop_eq_getElem_cons hlt', valsL_cons] at ha1
    generalize fs[i] = f at c1 c2 c3 hf1 ha1
    by_cases d1 : lowerL a = lowerL f.1
    · rw [if_pos d1] at ha1
      simp -implicitDefEqProofs [go_sem, Tryz.f61, t0, t1, t6, t5, hlt, c1, c2, hgb, hg1, rSameInC, ha2, hl1, hf1, d1, hm', ldN_s rfl, e1, hmn]
      refine ih (i + 1, h1.length + 1, acc ++ [f.2]) _ _ (by simp; omega) ⟨by simp; omega, ?_⟩
      simp -implicitDefEqProofs [go_sem, t0, t1, t6, t5, i64_n hi6, he, hm]
      exact ⟨by omega, hal, ha1⟩
    · rw [if_neg d1] at ha1
      simp -implicitDefEqProofs [go_sem, Tryz.f61, t0, t1, t6, t5, hlt, c1, c2, hgb, hg1, rSameInC, ha2, hl1, hf1, d1]
      refine ih (i + 1, m, acc) _ _ (by simp; omega) ⟨by simp; omega, ?_⟩
      simp -implicitDefEqProofs [go_sem, t0, t1, t6, t5, i64_n hi6, he, hm, hg1, hm']
      exact ⟨by omega, ha1⟩
  · have e : i = n := by omega
    rw [show fs.drop i = [] from List.drop_eq_nil_of_le (by omega), show valsL a [] = [] from rfl, List.append_nil] at ha1
    simp -implicitDefEqProofs [go_sem, Tryz.f61, t0, t1, t6, t5, hlt, hg1, hm']
    rw [← ha1]
    exact Trim.sl he (by omega) hm' hg1 (by simp -implicitDefEqProofs [go_sem])
end GoD

/-! Chapter 23: the values of fields, the program's side. -/
namespace GoD
open Go Go.Proofs
set_option linter.unusedVariables false
set_option linter.unusedSimpArgs false
set_option maxHeartbeats 4000000
set_option maxRecDepth 100000
def cellT (h : Heap) (q k : Nat) : Option (List Int) := match hget h q with
  | ⟨0, _, _⟩ => none
  | ⟨_ + 1, _, c⟩ => match ldN c k 1 with | some [.s l] => some l | _ => none
theorem cellT_eq {h : Heap} {q k : Nat} {l : List Int} (hs : cellT h q k = some l) : ∃ st x c, hget h q = ⟨st + 1, x, c⟩ ∧ ldN c k 1 = some [.s l] := by
  unfold cellT at hs
  split at hs
  · cases hs
  · rename_i st x c hg
    split at hs
    · rename_i m hm
      obtain rfl := Option.some.inj hs
      exact ⟨st, x, c, hg, hm⟩
    · cases hs
def pVclsC : Ct := fun args h => match args with
  | [.s n, .p p 0] => (match cellT h p 0 with | some x => if n.length ≤ 1048576 ∧ x.length ≤ 1048576 then some (.b (decide (lowerL n = lowerL x)), h) else none | none => none)
  | _ => none
theorem pVcls_ok : CtOk Tryz.prog G0 111 pVclsC := by
  refine ct_plain (n := 2) fol (sound_cons pSame_ok sound_nil) (by kernel_rfl) Tryz.func111 rfl fun args h v h' hc r xs H hr hx => ?_
  unfold pVclsC at hc; split at hc <;> (try split at hc) <;> (try split at hc) <;> cases hc
  rename_i n p _ x hs hl
  obtain ⟨st, xx, cc, hg, hld⟩ := cellT_eq hs
  refine ⟨rfl, rfl, by simp [renV, bndV], ?_⟩
  simp -implicitDefEqProofs [go_sem, Tryz.f111, hg, hld, pSameC, hl.1, hl.2]
def pIdxFSC : Ct := fun args h => match args with
  | [.sl q 0 1 1, .f (.func 111) [.p p 0]] => (match oneS h q, cellT h p 0 with
    | some a, some x => if a.length ≤ 1048576 ∧ x.length ≤ 1048576 then some (.i .i64 (if lowerL a = lowerL x then 0 else -1), h) else none
    | _, _ => none)
  | _ => none
theorem pIdxFS_ok : CtOk Tryz.prog G0 182 pIdxFSC := by
  refine ct_plain (n := 2) fol (sound_cons pVcls_ok sound_nil) (by kernel_rfl) Tryz.func182 rfl fun args h v h' hc r xs H hr hx => ?_
  unfold pIdxFSC at hc; split at hc <;> (try split at hc) <;> (try split at hc) <;> cases hc
  rename_i q p _ _ a x ha hs hl
  obtain ⟨st, xx, c, hg, hld⟩ := oneS_ld ha
  refine ⟨rfl, rfl, by simp [renV, bndV], ?_⟩
  by_cases c1 : lowerL a = lowerL x
  · simp -implicitDefEqProofs [go_sem, Tryz.f182]
    rw [run_again]
    simp -implicitDefEqProofs [go_sem, Tryz.f182, hg, hld, pVclsC, hs, hl.1, hl.2, c1]
  · simp -implicitDefEqProofs [go_sem, Tryz.f182]
    rw [run_again]
    simp -implicitDefEqProofs [go_sem, Tryz.f182, hg, hld, pVclsC, hs, hl.1, hl.2, c1]
    rw [run_again]
    simp -implicitDefEqProofs [go_sem, Tryz.f182, hg, hld, pVclsC, hs, hl.1, hl.2, c1, show IntKind.i64.wrap 1 = 1 from rfl]
def pContFC : Ct := fun args h => match args with
  | [.sl q 0 1 1, .f (.func 111) [.p p 0]] => (match oneS h q, cellT h p 0 with
    | some a, some x => if a.length ≤ 1048576 ∧ x.length ≤ 1048576 then some (.b (decide (lowerL a = lowerL x)), h) else none
    | _, _ => none)
  | _ => none
theorem pContF_ok : CtOk Tryz.prog G0 110 pContFC := by
  refine ct_plain (n := 2) fol (sound_cons pIdxFS_ok sound_nil) (by kernel_rfl) Tryz.func110 rfl fun args h v h' hc r xs H hr hx => ?_
  unfold pContFC at hc; split at hc <;> (try split at hc) <;> (try split at hc) <;> cases hc
  rename_i q p _ _ a x ha hs hl
  refine ⟨rfl, rfl, by simp [renV, bndV], ?_⟩
  by_cases c1 : lowerL a = lowerL x
  · simp -implicitDefEqProofs [go_sem, Tryz.f110, pIdxFSC, ha, hs, hl.1, hl.2, c1]
  · simp -implicitDefEqProofs [go_sem, Tryz.f110, pIdxFSC, ha, hs, hl.1, hl.2, c1]
def pValuesC : Ct := fun args h => match args with
  | [.sl b o n 2, .sl q 0 1 1] => (match fldsAt h b o n, oneS h q with
    | some fs, some a => if a.length ≤ 1048576 ∧ (∀ f ∈ fs, f.1.length ≤ 1048576) ∧ n ≤ 1048577 then some (.sl h.length 0 (valsL a fs).length 1, h ++ [⟨2, false, sts (valsL a fs)⟩]) else none
    | _, _ => none)
  | _ => none
theorem pValues_ok : CtOk Tryz.prog G0 47 pValuesC := by
  refine ct_run (n := 2) fol (sound_cons pContF_ok sound_nil) (by kernel_rfl) Tryz.func47 rfl fun args h v h' hc r xs H hr hx => ?_
  unfold pValuesC at hc; split at hc <;> (try split at hc) <;> (try split at hc) <;> cases hc
  rename_i b o n q _ _ fs a hf ha hl
  obtain ⟨hl1, hl2, hl3⟩ := hl
  obtain ⟨st, xx, c, hg, hn, hc⟩ := fldsAt_eq hf
  have hb := fldsAt_lt hf
  have hn6 := (sl_of hx).1
  refine ⟨rfl, ?_⟩
  simp -implicitDefEqProofs [go_sem, Tryz.f47]
  refine run_inv _ _ _ _ _ (fun (x : Nat × Nat × List (List Int)) t h1 => x.1 ≤ n ∧ get t 7 = .sl b o n 2 ∧ get t 1 = .sl q 0 1 1 ∧ get t 8 = .i .i64 n ∧ get t 9 = .i .i64 x.1 ∧ get t 4 = .sl x.2.1 0 x.2.2.length 1 ∧ hget h1 x.2.1 = ⟨2, false, sts x.2.2⟩ ∧ h.length ≤ x.2.1 ∧ x.2.1 < h1.length ∧ Ext h h1 ∧ x.2.2.length ≤ x.1 ∧ x.2.2 ++ valsL a (fs.drop x.1) = valsL a fs) (fun x => n - x.1) _ (x := (0, h.length, [])) ⟨by simp, rfl, rfl, rfl, rfl, rfl, by simp -implicitDefEqProofs [go_sem, sts], by simp, by simp, by simp -implicitDefEqProofs [go_sem], by simp, by simp⟩ ?_
  rintro ⟨i, m, acc⟩ t h1 ⟨hi, t7, t1, t8, t9, t4, hg1, hm, hm', he, hal, ha1⟩ ih
  simp only at hi t7 t1 t8 t9 t4 hg1 hm hm' hal ha1
  have hmn : m ≠ h1.length := by omega
  have hi6 : i < 1152921504606846976 := by omega
  have e1 : (acc.length + 1) * 16 ≤ 1099511627776 := by omega
  have hgb : hget h1 b = ⟨st + 1, xx, c⟩ := by rw [he.2 b hb]; exact hg
  by_cases hlt : i < n
  · have hlt' : i < fs.length := by omega
    obtain ⟨c1, c2, c3⟩ := hc i hlt'
    have hf1 := hl2 fs[i] (List.getElem_mem hlt')
    rw [List.drop_eq_getElem_cons hlt', valsL_cons] at ha1
    generalize fs[i] = f at c1 c2 c3 hf1 ha1
    have hx1 : Ext h1 (h1 ++ [⟨2, true, [.s f.1, .s f.2]⟩]) := (Ext.refl h1).new _
    have ha2 : oneS (h1 ++ [⟨2, true, [.s f.1, .s f.2]⟩]) q = some a := oneS_ext hx1 (oneS_ext he ha)
    have hc2 : cellT (h1 ++ [⟨2, true, [.s f.1, .s f.2]⟩]) h1.length 0 = some f.1 := by simp [cellT, hget_new, ldN]
    by_cases d1 : lowerL a = lowerL f.1
    · rw [if_pos d1] at ha1
      simp -implicitDefEqProofs [go_sem, Tryz.f47, t7, t1, t8, t9, t4, hlt, c3, hgb, hg1, pContFC, ha2, hc2, hl1, hf1, d1, hm', ldN_s rfl, e1, hmn]
      refine ih (i + 1, h1.length + 1 + 1, acc ++ [f.2]) _ _ (by simp; omega) ⟨by simp; omega, ?_⟩
      simp -implicitDefEqProofs [go_sem, t7, t1, t8, t9, t4, i64_n hi6, he, hm]
      refine ⟨?_, by omega, hal, ha1⟩
      unfold hget
      rw [List.getD_eq_getElem?_getD, List.getElem?_append_right (by simp; omega)]
      simp [show h1.length + 1 + 1 - h1.length = 2 by omega]
    · rw [if_neg d1] at ha1
      simp -implicitDefEqProofs [go_sem, Tryz.f47, t7, t1, t8, t9, t4, hlt, c3, hgb, hg1, pContFC, ha2, hc2, hl1, hf1, d1]
      refine ih (i + 1, m, acc) _ _ (by simp; omega) ⟨by simp; omega, ?_⟩
      simp -implicitDefEqProofs [go_sem, t7, t1, t8, t9, t4, i64_n hi6, he, hm, hg1, hm']
      exact ⟨by omega, ha1⟩
  · have e : i = n := by omega
    rw [show fs.drop i = [] from List.drop_eq_nil_of_le (by omega), show valsL a [] = [] from rfl, List.append_nil] at ha1
    simp -implicitDefEqProofs [go_sem, Tryz.f47, t7, t1, t8, t9, t4, hlt, hg1, hm']
    rw [← ha1]
    exact Trim.sl he (by omega) hm' hg1 (by simp -implicitDefEqProofs [go_sem])
end GoD
