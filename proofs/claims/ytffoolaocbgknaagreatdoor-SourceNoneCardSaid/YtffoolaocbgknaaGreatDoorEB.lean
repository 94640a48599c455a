import Derived.Test.YtffoolaocbgknaaGreatDoorEA
/-! Texts of ASCII as the document answers them: lists. -/
namespace GoD
open Go Go.Proofs
set_option linter.unusedVariables false
set_option linter.unusedSimpArgs false
set_option maxHeartbeats 1000000
set_option maxRecDepth 100000
def rSameC : Ct := fun args h => match args with | [.s l, .s m] => if l.length ≤ 1048576 ∧ m.length ≤ 1048576 then some (.b (decide (lowerL l = lowerL m)), h) else none | _ => none
theorem rSame_ok : CtOk Tryz.prog G0 33 rSameC := by
  refine ct_plain (n := 2) fol (sound_cons rLower_ok sound_nil) (by kernel_rfl) Tryz.func33 rfl fun args h v h' hc r xs H hr hx => ?_
  unfold rSameC at hc; split at hc <;> (try split at hc) <;> cases hc
  rename_i l m hl
  refine ⟨rfl, rfl, by simp [renV, bndV], ?_⟩
  simp -implicitDefEqProofs [go_sem, Tryz.f33, rLowerC, hl.1, hl.2]
def rInC : Ct := fun args h => match args with | [.s l, .sl b o n 1] => (match strsAt h b o n with | some y => some (.b (decide (l ∈ y)), h) | none => none) | _ => none
theorem mem_drop' {α : Type} {l : List α} {i : Nat} {c d : α} (hlt : i < l.length) (hc : l[i] = d) : c ∈ l.drop i ↔ c = d ∨ c ∈ l.drop (i + 1) := by rw [List.drop_eq_getElem_cons hlt, hc, List.mem_cons]
theorem rIn_ok : CtOk Tryz.prog G0 57 rInC := by
  refine ct_plain (n := 2) fol sound_nil (by kernel_rfl) Tryz.func57 rfl fun args h v h' hc r xs H hr hx => ?_
  unfold rInC at hc; split at hc <;> (try split at hc) <;> cases hc
  rename_i l b o n _ y hy
  obtain ⟨st, xx, c, hg, hld, hn, hc⟩ := strsAt_eq hy
  obtain ⟨hs, _, hx2⟩ := str_of hx
  have hn6 := (sl_of hx2).1
  refine ⟨rfl, rfl, by simp [renV, bndV], ?_⟩
  simp -implicitDefEqProofs [go_sem, Tryz.f57]
  refine run_inv _ _ _ _ _ (fun (i : Nat) t h1 => i ≤ n ∧ get t 0 = .s l ∧ get t 1 = .sl b o n 1 ∧ get t 5 = .i .i64 i ∧ (l ∈ y.drop i ↔ l ∈ y) ∧ Ext h h1 ∧ hget h1 b = ⟨st + 1, xx, c⟩) (fun i => n - i) _ (x := 0) ⟨by simp, rfl, rfl, rfl, Iff.rfl, Ext.refl h, hg⟩ ?_
  rintro i t h1 ⟨hi, t0, t1, t5, hd, he, hg1⟩ ih
  have hi6 : i < 1152921504606846976 := by omega
  by_cases hlt : i < n
  · have hlt' : i < y.length := by omega
    obtain ⟨d, hdd⟩ : ∃ d, y[i] = d := ⟨_, rfl⟩
    have hm := mem_drop' (c := l) hlt' hdd
    have hc1 := hc i hlt'
    rw [hdd] at hc1
    by_cases c1 : d = l
    · simp -implicitDefEqProofs [go_sem, Tryz.f57, t0, t1, t5, hlt, hc1, hg1, c1]
      exact ⟨hd.1 (hm.2 (.inl c1.symm)), he⟩
    · simp -implicitDefEqProofs [go_sem, Tryz.f57, t0, t1, t5, hlt, hc1, hg1, c1]
      refine ih (i + 1) _ _ (by omega) ⟨by omega, ?_⟩
      have hd' : l ∈ y.drop (i + 1) ↔ l ∈ y := ⟨fun h => hd.1 (hm.2 (.inr h)), fun h => (hm.1 (hd.2 h)).resolve_left fun e => c1 e.symm⟩
      simp -implicitDefEqProofs [go_sem, t0, t1, t5, i64_n hi6, he, hd', hg1]
  · have e0 : y.drop i = [] := List.drop_eq_nil_of_le (by omega)
    simp -implicitDefEqProofs [go_sem, Tryz.f57, t0, t1, t5, hlt]
    rw [e0] at hd
    exact ⟨fun hm => by simpa using hd.2 hm, he⟩
def rSplitC : Ct := fun args h => match args with | [.s l, .i .u8 c] => if l.length ≤ 1048576 then some (.sl h.length 0 (splitL c l).length 1, h ++ [⟨2, false, sts (splitL c l)⟩]) else none | _ => none
theorem rSplit_ok : CtOk Tryz.prog G0 48 rSplitC := by
  refine ct_run (n := 2) fol sound_nil (by kernel_rfl) Tryz.func48 rfl fun args h v h' hc r xs H hr hx => ?_
  unfold rSplitC at hc; split at hc <;> (try split at hc) <;> cases hc
  rename_i l c hl
  obtain ⟨⟨hs, _⟩, _⟩ := str_of hx
  refine ⟨rfl, ?_⟩
  simp -implicitDefEqProofs [go_sem, Tryz.f48]
  refine run_inv _ _ _ _ _ (fun (x : Nat × Nat × Nat × List (List Int)) t h1 => x.1 ≤ l.length ∧ x.2.1 ≤ x.1 ∧ get t 0 = .s l ∧ get t 1 = .i .u8 c ∧ get t 7 = .i .i64 x.1 ∧ get t 6 = .i .i64 x.2.1 ∧ get t 5 = .sl x.2.2.1 0 x.2.2.2.length 1 ∧ hget h1 x.2.2.1 = ⟨2, false, sts x.2.2.2⟩ ∧ h.length ≤ x.2.2.1 ∧ x.2.2.1 < h1.length ∧ Ext h h1 ∧ c ∉ (l.drop x.2.1).take (x.1 - x.2.1) ∧ x.2.2.2 ++ splitL c (l.drop x.2.1) = splitL c l) (fun x => l.length - x.1) _ (x := (0, 0, h.length + 1, [])) ⟨by simp, by simp, rfl, rfl, rfl, rfl, rfl, by simp -implicitDefEqProofs [go_sem, sts_nil], by simp, by simp, by simp -implicitDefEqProofs [go_sem], by simp, by simp⟩ ?_
  rintro ⟨i, f, m, acc⟩ t h1 ⟨hi, hf, t0, t1, t7, t6, t5, hg, hm, hm', he, hno, ha⟩ ih
  simp only at hi hf t0 t1 t7 t6 t5 hg hm hm' hno ha
  have hal : acc.length ≤ l.length + 1 := by have := congrArg List.length ha; have := splitL_len c l; simp at *; omega
  have hmn : m ≠ h1.length := by omega
  have hi6 : i < 1152921504606846976 := by omega
  have e1 : (acc.length + 1) * 16 ≤ 1099511627776 := by omega
  by_cases hlt : i < l.length
  · obtain ⟨d, hc⟩ : ∃ d, l[i] = d := ⟨_, rfl⟩
    by_cases c1 : d = c
    · subst c1
      simp -implicitDefEqProofs [go_sem, Tryz.f48, t0, t1, t7, t6, t5, hlt, hf, hi, hc, hg, hm', ldN_s rfl, e1, hmn]
      refine ih (i + 1, i + 1, h1.length + 1, acc ++ [(l.drop f).take (i - f)]) _ _ (by simp; omega) ⟨hlt, by simp, ?_⟩
      simp -implicitDefEqProofs [go_sem, t0, t1, t7, t6, t5, i64_n hi6, he, hm]
      refine ⟨by omega, ?_⟩
      rw [← ha, cut_at hf hlt, hc, splitL_cons hno, ← hc, ← cut_at hf hlt]
    · simp -implicitDefEqProofs [go_sem, Tryz.f48, t0, t1, t7, t6, t5, hlt, hc, c1]
      refine ih (i + 1, f, m, acc) _ _ (by simp; omega) ⟨hlt, by simp; omega, ?_⟩
      simp -implicitDefEqProofs [go_sem, t0, t1, t7, t6, t5, i64_n hi6, he, hm, hg, hm', cut_snoc hf hlt, hno, hc]
      exact ⟨fun e => c1 e.symm, ha⟩
  · have e : i = l.length := by omega
    simp -implicitDefEqProofs [go_sem, Tryz.f48, t0, t1, t7, t6, t5, hlt, hg, hm', ldN_s rfl, e1, hmn, Nat.le_trans hf hi, e]
    rw [e, cut_all] at hno
    rw [splitL_none hno] at ha
    have ha' := congrArg List.length ha
    rw [← ha]
    simp only [List.length_append, List.length_singleton]
    exact Trim.sl (by simp -implicitDefEqProofs [go_sem, he, hm]) (by have := he.1; omega) (by simp) (by simp -implicitDefEqProofs [go_sem]) (by simp -implicitDefEqProofs [go_sem])
end GoD
