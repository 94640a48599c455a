import Derived.Test.YtkhcoeampamegaaGreatDoorPN
/-! Policies as the program reads them: texts of ASCII, what stands between blanks, a list's own copy. -/
namespace GoD
open Go Go.Proofs
set_option linter.unusedVariables false
set_option linter.unusedSimpArgs false
set_option maxHeartbeats 4000000
set_option maxRecDepth 100000
def pAsciiC : Ct := fun args h => match args with | [.s l] => some (.b (asciiB l), h) | _ => none
theorem pAscii_ok : CtOk Tryz.prog G0 48 pAsciiC := by
  refine ct_plain (n := 1) fol sound_nil (by kernel_rfl) Tryz.func48 rfl fun args h v h' hc r xs H hr hx => ?_
  unfold pAsciiC at hc; split at hc <;> (try split at hc) <;> cases hc
  rename_i l
  obtain ⟨⟨hs, hl⟩, _⟩ := str_of hx
  refine ⟨rfl, rfl, by simp [renV, bndV], ?_⟩
  simp -implicitDefEqProofs [go_sem, Tryz.f48]
  refine run_inv _ _ _ _ _ (fun (i : Nat) t h1 => i ≤ l.length ∧ get t 0 = .s l ∧ get t 5 = .i .i64 l.length ∧ get t 6 = .i .i64 i ∧ asciiB (l.drop i) = asciiB l ∧ Ext h h1) (fun i => l.length - i) _ (x := 0) ⟨by simp, rfl, rfl, rfl, rfl, Ext.refl h⟩ ?_
  rintro i t h1 ⟨hi, t0, t5, t6, hd, he⟩ ih
  by_cases hlt : i < l.length
  · obtain ⟨d, hc⟩ : ∃ d, l[i] = d := ⟨_, rfl⟩
    rw [List.drop_eq_getElem_cons hlt, hc, asciiB_cons] at hd
    by_cases c1 : 128 ≤ d
    · rw [decide_eq_false (by omega), Bool.false_and] at hd
      simp -implicitDefEqProofs [go_sem, Tryz.f48, t0, t5, t6, hlt, hc, c1, ← hd, he]
    · rw [decide_eq_true (by omega), Bool.true_and] at hd
      simp -implicitDefEqProofs [go_sem, Tryz.f48, t0, t5, t6, hlt, hc, c1]
      refine ih (i + 1) _ _ (by omega) ⟨by omega, ?_⟩
      simp -implicitDefEqProofs [go_sem, t0, t5, t6, i64_1 hl hlt, he, hd]
  · have e0 : l.drop i = [] := List.drop_eq_nil_of_le (by omega)
    rw [e0] at hd
    simp -implicitDefEqProofs [go_sem, Tryz.f48, t0, t5, t6, hlt, ← hd, he]
    rfl
def pBlanksC : Ct := fun args h => match args with | [.s l] => if l.length ≤ 1048576 then some (.sl h.length 0 (blanksL l).length 1, h ++ [⟨2, false, sts (blanksL l)⟩]) else none | _ => none
theorem posL_bl {c : Int} (h : blB c = true) : (0 : Int) ≤ idxL c [9, 10, 12, 13, 32] := by
  rcases blB_iff.1 h with rfl | rfl | rfl | rfl | rfl <;> decide
theorem posL_nb {c : Int} (h : blB c = false) : ¬ (0 : Int) ≤ idxL c [9, 10, 12, 13, 32] := by
  have hb := mt (blB_iff (c := c)).2 (by simp [h])
  simp only [not_or] at hb
  obtain ⟨c1, c2, c3, c4, c5⟩ := hb
  simp [idxL, Ne.symm c1, Ne.symm c2, Ne.symm c3, Ne.symm c4, Ne.symm c5]
theorem pBlanks_ok : CtOk Tryz.prog G0 47 pBlanksC := by
  refine ct_run (n := 1) fol (sound_cons pIdx2_ok sound_nil) (by kernel_rfl) Tryz.func47 rfl fun args h v h' hc r xs H hr hx => ?_
  unfold pBlanksC at hc; split at hc <;> (try split at hc) <;> cases hc
  rename_i l hl
  obtain ⟨⟨hs, _⟩, _⟩ := str_of hx
  refine ⟨rfl, ?_⟩
  have w0 : IntKind.i64.wrap ((l.length : Int) + 1) = (l.length : Int) + 1 := w64 (by omega)
  simp -implicitDefEqProofs [go_sem, Tryz.f47, w0]
  refine run_inv _ _ _ _ _ (fun (x : Nat × Int × List Int × Nat × List (List Int)) t h1 => x.1 ≤ l.length + 1 ∧ get t 0 = .s l ∧ get t 9 = .i .i64 x.1 ∧ get t 8 = .i .i64 ((l.length : Int) + 1) ∧ get t 3 = .i .i64 x.2.1 ∧ get t 2 = .sl x.2.2.2.1 0 x.2.2.2.2.length 1 ∧ hget h1 x.2.2.2.1 = ⟨2, false, sts x.2.2.2.2⟩ ∧ h.length ≤ x.2.2.2.1 ∧ x.2.2.2.1 < h1.length ∧ Ext h h1 ∧ x.2.2.2.2.length ≤ x.1 ∧ (x.1 ≤ l.length → x.2.2.2.2 ++ blanksG x.2.2.1 (l.drop x.1) = blanksL l) ∧ (x.1 = l.length + 1 → x.2.2.2.2 = blanksL l) ∧ ((x.2.1 = -1 ∧ x.2.2.1 = []) ∨ ∃ f : Nat, x.2.1 = f ∧ f < x.1 ∧ x.2.2.1 = (l.drop f).take (x.1 - f))) (fun x => l.length + 1 - x.1) _ (x := (0, -1, [], h.length, [])) ⟨by simp, rfl, rfl, rfl, rfl, rfl, by simp -implicitDefEqProofs [go_sem, sts_nil], by simp, by simp, by simp -implicitDefEqProofs [go_sem], by simp, by simp [blanksL], by simp, by simp⟩ ?_
  rintro ⟨i, f, cur, m, acc⟩ t h1 ⟨hi, t0, t9, t8, t3, t2, hg, hm, hm', he, hal, ha, hz, hf⟩ ih
  simp only at hi t0 t9 t8 t3 t2 hg hm hm' hal ha hz hf
  have hmn : m ≠ h1.length := by omega
  have hi6 : i < 1152921504606846976 := by omega
  have e1 : (acc.length + 1) * 16 ≤ 1099511627776 := by omega
  by_cases hle : i ≤ l.length
  · have ha := ha hle
    have i0 : (i : Int) < (l.length : Int) + 1 := by omega
    by_cases hlt : i < l.length
    · obtain ⟨d, hc⟩ : ∃ d, l[i] = d := ⟨_, rfl⟩
      have hdr : l.drop i = d :: l.drop (i + 1) := by rw [List.drop_eq_getElem_cons hlt, hc]
      have hne : ¬ i = l.length := by omega
      have hne' : ¬ (i : Int) = l.length := by omega
      rw [hdr] at ha
      by_cases hb : blB d = true
      · rw [blanksG_blank hb] at ha
        have hp := posL_bl hb
        rcases hf with ⟨rfl, rfl⟩ | ⟨f, rfl, hfi, hcur⟩
        · simp -implicitDefEqProofs [go_sem, Tryz.f47, t0, t9, t8, t3, t2, i0, hlt, hne, hne', hc, pIdx2C, hp]
          refine ih (i + 1, -1, [], m, acc) _ _ (by simp; omega) ⟨by simp; omega, ?_⟩
          simp -implicitDefEqProofs [go_sem, t0, t9, t8, t3, t2, i64_n hi6, he, hm, hg, hm', blanksL]
          simp [blanksL] at ha
          exact ⟨by omega, fun _ => ha, fun e => by omega⟩
        · have hcn : cur ≠ [] := by rw [hcur]; intro e; have := congrArg List.length e; simp at this; omega
          rw [if_neg hcn] at ha
          have hfi' : f ≤ i := by omega
          simp -implicitDefEqProofs [go_sem, Tryz.f47, t0, t9, t8, t3, t2, i0, hlt, hne, hne', hc, pIdx2C, hp, hg, hm', ldN_s rfl, e1, hmn, hfi', hle]
          refine ih (i + 1, -1, [], h1.length + 1, acc ++ [cur]) _ _ (by simp; omega) ⟨by simp; omega, ?_⟩
          simp -implicitDefEqProofs [go_sem, t0, t9, t8, t3, t2, i64_n hi6, he, hm, hg, hm', ← hcur]
          simp at ha
          exact ⟨by omega, by omega, fun _ => ha, fun e => by omega⟩
      · have hb' : blB d = false := by simpa using hb
        rw [blanksG_other hb'] at ha
        have hp := posL_nb hb'
        rcases hf with ⟨rfl, rfl⟩ | ⟨f, rfl, hfi, hcur⟩
        · simp -implicitDefEqProofs [go_sem, Tryz.f47, t0, t9, t8, t3, t2, i0, hlt, hne, hne', hc, pIdx2C, hp]
          refine ih (i + 1, i, [d], m, acc) _ _ (by simp; omega) ⟨by simp; omega, ?_⟩
          simp -implicitDefEqProofs [go_sem, t0, t9, t8, t3, t2, i64_n hi6, he, hm, hg, hm']
          exact ⟨by omega, fun _ => ha, fun e => by omega, ⟨i, rfl, by omega, by rw [cut_snoc (Nat.le_refl i) hlt, hc]; simp⟩⟩
        · have hf0 : ¬ ((f : Int) < 0) := by omega
          simp -implicitDefEqProofs [go_sem, Tryz.f47, t0, t9, t8, t3, t2, i0, hlt, hne, hne', hc, pIdx2C, hp, hf0]
          refine ih (i + 1, f, cur ++ [d], m, acc) _ _ (by simp; omega) ⟨by simp; omega, ?_⟩
          simp -implicitDefEqProofs [go_sem, t0, t9, t8, t3, t2, i64_n hi6, he, hm, hg, hm']
          exact ⟨by omega, fun _ => ha, fun e => by omega, ⟨f, rfl, by omega, by rw [cut_snoc (by omega) hlt, hc, hcur]⟩⟩
    · have e : i = l.length := by omega
      rw [e, List.drop_length, blanksG] at ha
      have i1 : (l.length : Int) < (l.length : Int) + 1 := by omega
      rcases hf with ⟨rfl, rfl⟩ | ⟨f, rfl, hfi, hcur⟩
      · simp -implicitDefEqProofs [go_sem, Tryz.f47, t0, t9, t8, t3, t2, e, i1]
        refine ih (i + 1, -1, [], m, acc) _ _ (by simp; omega) ⟨by simp; omega, ?_⟩
        simp -implicitDefEqProofs [go_sem, t0, t9, t8, t3, t2, he, hm, hg, hm', w0, e]
        simp at ha
        exact ⟨by omega, fun e => by omega, ha⟩
      · have hcn : cur ≠ [] := by rw [hcur]; intro e; have := congrArg List.length e; simp at this; omega
        rw [if_neg hcn] at ha
        have hfi' : f ≤ l.length := by omega
        rw [e] at hcur
        simp -implicitDefEqProofs [go_sem, Tryz.f47, t0, t9, t8, t3, t2, e, i1, hg, hm', ldN_s rfl, e1, hmn, hfi']
        refine ih (i + 1, -1, [], h1.length + 1, acc ++ [cur]) _ _ (by simp; omega) ⟨by simp; omega, ?_⟩
        simp -implicitDefEqProofs [go_sem, t0, t9, t8, t3, t2, he, hm, hg, hm', hcur, w0, e]
        rw [hcur] at ha
        exact ⟨by omega, by omega, fun e => by omega, ha⟩
  · have hz := hz (by omega)
    have i1 : ¬ (i : Int) < (l.length : Int) + 1 := by omega
    simp -implicitDefEqProofs [go_sem, Tryz.f47, t0, t9, t8, t3, t2, i1]
    rw [hz]
    exact Trim.sl he hm hm' (by rw [hg, hz]) (by simp -implicitDefEqProofs [go_sem])
theorem alive {h : Heap} {b st : Nat} {x : Bool} {c : List V} (hg : hget h b = ⟨st + 1, x, c⟩) : b < h.length := by
  by_cases hb : b < h.length
  · exact hb
  · unfold hget at hg
    rw [List.getD_eq_getElem?_getD, List.getElem?_eq_none (by omega)] at hg
    cases hg
theorem hasC_alive {h : Heap} {b : Nat} (hc : hasC h b 0 = true) : b < h.length := by
  unfold hasC at hc
  simp only at hc
  split at hc
  · rename_i hg; exact alive hg
  · cases hc
theorem hasC_n {h : Heap} {b n : Nat} (hc : hasC h b 0 = true) : hasC h b n = true := by
  cases n with
  | zero => exact hc
  | succ n => rfl
theorem hasC_ext {h h1 : Heap} {b n : Nat} (he : Ext h h1) (hb : b < h.length) (hc : hasC h b n = true) : hasC h1 b n = true := by
  unfold hasC at hc ⊢
  cases n with
  | succ n => rfl
  | zero => simp only at hc ⊢; rw [he.2 b hb]; exact hc
def pCloneC : Ct := fun args h => match args with | [.sl b o n 1] => (match strsAt h b o n with | some y => if hasC h b n = true ∧ n ≤ 1048577 then some (.sl h.length 0 n 1, h ++ [⟨2, false, sts y⟩]) else none | none => none) | _ => none
theorem pClone_ok : CtOk Tryz.prog G0 37 pCloneC := by
  refine ct_run (n := 1) fol sound_nil (by kernel_rfl) Tryz.func37 rfl fun args h v h' hc r xs H hr hx => ?_
  unfold pCloneC at hc; split at hc <;> (try split at hc) <;> (try split at hc) <;> cases hc
  rename_i b o n _ y hy hcn
  obtain ⟨hc, hn⟩ := hcn
  obtain ⟨st, xx, cc, hg, hld, hl, _⟩ := strsAt_eq hy
  refine ⟨rfl, ?_⟩
  have hbl : b < h.length := by
    by_cases hb : b < h.length
    · exact hb
    · unfold hget at hg
      rw [List.getD_eq_getElem?_getD, List.getElem?_eq_none (by omega)] at hg
      cases hg
  have e1 : n * 16 ≤ 1099511627776 := by omega
  have e2 : (sts y).length = n := by rw [← hl]; simp [sts]
  have hne : ¬ b = h.length := by omega
  have hne2 : ¬ b = h.length + 1 := by omega
  have hc' := hasC_ext ((Ext.refl h).app [⟨2, false, []⟩]) hbl hc
  simp -implicitDefEqProofs [go_sem, Tryz.f37, hc', hld, hg, hget_lt hbl, hne, hne2, e1, e2]
  exact Trim.sl ⟨by simp, fun j hj => hget_lt hj⟩ (by omega) (by simp) (by rw [hget_at rfl]; rfl) (sts_flat _)
/-- what a policy's directives are, where they lie -/
def dirAt (h : Heap) (d : Dr) (v : V) : Prop := ∃ b o, v = .sl b o d.2.length 1 ∧ strsAt h b o d.2.length = some d.2 ∧ hasC h b 0 = true
def drs (h : Heap) : List Dr → List V → Prop
  | [], c => c = []
  | d :: ds, c => ∃ v c', c = .s d.1 :: v :: c' ∧ dirAt h d v ∧ drs h ds c'
theorem strsAt_ext {h h1 : Heap} {b o n : Nat} {y : List (List Int)} (he : Ext h h1) (hs : strsAt h b o n = some y) : strsAt h1 b o n = some y := by
  obtain ⟨st, x, c, hg, _⟩ := strsAt_eq hs
  unfold strsAt at hs ⊢
  rw [he.2 b (alive hg)]; exact hs
theorem dirAt_ext {h h1 : Heap} {d : Dr} {v : V} (he : Ext h h1) (hd : dirAt h d v) : dirAt h1 d v := by
  obtain ⟨b, o, h1, h2, h3⟩ := hd
  exact ⟨b, o, h1, strsAt_ext he h2, hasC_ext he (hasC_alive h3) h3⟩
theorem drs_ext {h h1 : Heap} (he : Ext h h1) : ∀ {ds : List Dr} {c : List V}, drs h ds c → drs h1 ds c
  | [], _, hd => hd
  | d :: ds, c, ⟨v, c', e, h2, h3⟩ => ⟨v, c', e, dirAt_ext he h2, drs_ext he h3⟩
theorem drs_len {h : Heap} : ∀ {ds : List Dr} {c : List V}, drs h ds c → c.length = ds.length * 2
  | [], c, hd => by rw [show c = [] from hd]; rfl
  | d :: ds, c, ⟨v, c', e, h2, h3⟩ => by rw [e]; have := drs_len h3; simp; omega
theorem drs_one {h : Heap} : ∀ {ds : List Dr} {c : List V}, drs h ds c → c.all isOne = true
  | [], c, hd => by rw [show c = [] from hd]; rfl
  | d :: ds, c, ⟨v, c', e, ⟨b, o, h1, _⟩, h3⟩ => by rw [e, h1]; simpa [isOne] using drs_one h3
theorem drs_snoc {h : Heap} {d : Dr} {v : V} (hv : dirAt h d v) : ∀ {ds : List Dr} {c : List V}, drs h ds c → drs h (ds ++ [d]) (c ++ [.s d.1, v])
  | [], c, hd => by rw [show c = [] from hd]; exact ⟨v, [], rfl, hv, rfl⟩
  | d :: ds, c, ⟨u, c', e, h2, h3⟩ => by rw [e]; exact ⟨u, _, rfl, h2, drs_snoc hv h3⟩
/-- the i-th directive, read -/
theorem drs_get {h : Heap} : ∀ {ds : List Dr} {c : List V} {i : Nat} (hi : i < ds.length), drs h ds c → ∃ v, ldN c (i * 2) 2 = some [.s ds[i].1, v] ∧ ldN c (i * 2) 1 = some [.s ds[i].1] ∧ dirAt h ds[i] v
  | [], _, _, hi, _ => by simp at hi
  | d :: ds, c, 0, _, ⟨v, c', e, h2, h3⟩ => ⟨v, by rw [e]; simp [ldN], by rw [e]; simp [ldN], h2⟩
  | d :: ds, c, i + 1, hi, ⟨v, c', e, h2, h3⟩ => by
    obtain ⟨u, h4, h5, h6⟩ := drs_get (i := i) (by simpa using hi) h3
    refine ⟨u, ?_, ?_, by simpa using h6⟩
    · unfold ldN at h4 ⊢
      rw [e]
      split at h4
      · rw [if_pos (by simp; omega), show (i + 1) * 2 = i * 2 + 2 by omega]; simpa using h4
      · cases h4
    · unfold ldN at h5 ⊢
      rw [e]
      split at h5
      · rw [if_pos (by simp; omega), show (i + 1) * 2 = i * 2 + 2 by omega]; simpa using h5
      · cases h5
end GoD

/-! Policies as the program reads them: a directive is found. -/
namespace GoD
open Go Go.Proofs
set_option linter.unusedVariables false
set_option linter.unusedSimpArgs false
set_option maxHeartbeats 4000000
set_option maxRecDepth 100000
theorem ldN_sts (y : List (List Int)) : ldN (sts y) 0 y.length = some (sts y) := by
  unfold ldN
  rw [if_pos (by simp [sts]), List.drop_zero, List.take_of_length_le (by simp [sts])]
def cellS (h : Heap) (q k : Nat) : Option (List Int) := match hget h q with
  | ⟨0, _, _⟩ => none
  | ⟨_ + 1, _, c⟩ => match ldN c k 1 with | some [.s l] => some l | _ => none
theorem cellS_eq {h : Heap} {q k : Nat} {l : List Int} (hs : cellS h q k = some l) : ∃ st x c, hget h q = ⟨st + 1, x, c⟩ ∧ ldN c k 1 = some [.s l] := by
  unfold cellS at hs
  split at hs
  · cases hs
  · rename_i st x c hg
    split at hs
    · rename_i m hm
      obtain rfl := Option.some.inj hs
      exact ⟨st, x, c, hg, hm⟩
    · cases hs
def pClsC : Ct := fun args h => match args with
  | [.agg [.s a, .sl b o n 1], .p q k] => (match cellS h q k with | some x => some (.b (a == x), h) | none => none)
  | _ => none
theorem pCls_ok : CtOk Tryz.prog G0 36 pClsC := by
  refine ct_plain (n := 2) fol sound_nil (by kernel_rfl) Tryz.func36 rfl fun args h v h' hc r xs H hr hx => ?_
  unfold pClsC at hc; split at hc <;> (try split at hc) <;> (try split at hc) <;> cases hc
  rename_i a b o n q k _ x hs
  obtain ⟨st, xx, cc, hg, hld⟩ := cellS_eq hs
  refine ⟨rfl, rfl, by simp [renV, bndV], ?_⟩
  have hne : ¬ q = h.length := by have := alive hg; omega
  simp -implicitDefEqProofs [go_sem, Tryz.f36, hg, hld, hne]
noncomputable def pIdxFC : Ct := rct (ctm [] Tryz.prog G0 [(36, pClsC)]) 35 2
theorem pIdxF_ok : CtOk Tryz.prog G0 35 pIdxFC := rct_ok (l := [(36, pClsC)]) fol (sound_cons pCls_ok sound_nil) [] (by kernel_rfl)
theorem pIdxF_rc {args : List V} {h : Heap} {Q : V → Heap → Prop} {c : Code} (hb : Tryz.f35.body = some c) (hn : args.length = 2) (hr : Run (ctm [] Tryz.prog G0 [(36, pClsC)]) (Fini (ctm [] Tryz.prog G0 [(36, pClsC)]) Tryz.f35.results.toList Q) [.c c] args h) : ∃ v h', pIdxFC args h = some (v, h') ∧ Q v h' := rct_run [] Tryz.func35 hb hn hr
theorem pIdxF_go {h : Heap} {b st : Nat} {x : Bool} {c : List V} {ds : List Dr} {q : Nat} {nm : List Int} (hb : hget h b = ⟨st + 1, x, c⟩) (hd : drs h ds c) (hq : cellS h q 0 = some nm) (hn : ds.length ≤ 1048577) :
    ∃ v h1, pIdxFC [.sl b 0 ds.length 2, .f (.func 36) [.p q 0]] h = some (v, h1) ∧ h1 = h ∧ match ds.find? (fun d => d.1 == nm) with
      | none => v = .i .i64 (-1)
      | some d => ∃ i, ∃ (hi : i < ds.length), v = .i .i64 i ∧ ds[i] = d := by
  refine pIdxF_rc rfl rfl ?_
  simp -implicitDefEqProofs [go_sem, Tryz.f35]
  refine run_inv _ _ _ _ _ (fun (i : Nat) t h1 => i ≤ ds.length ∧ get t 0 = .sl b 0 ds.length 2 ∧ get t 1 = .f (.func 36) [.p q 0] ∧ get t 7 = .i .i64 ds.length ∧ get t 8 = .i .i64 i ∧ (∀ j (hj : j < i) (hj2 : j < ds.length), ds[j].1 ≠ nm) ∧ h1 = h) (fun i => ds.length - i) _ (x := 0) ⟨by simp, rfl, rfl, rfl, rfl, by simp, rfl⟩ ?_
  rintro i t h1 ⟨hi, t0, t1, t7, t8, hj, rfl⟩ ih
  have hi6 : i < 1152921504606846976 := by omega
  by_cases hlt : i < ds.length
  · obtain ⟨v, hl2, hl1, b', o', hv, _⟩ := drs_get hlt hd
    by_cases c1 : ds[i].1 = nm
    · have hf : ds.find? (fun d => decide (d.1 = nm)) = some ds[i] := by
        rw [List.find?_eq_some_iff_getElem]
        exact ⟨by simp [c1], i, hlt, rfl, fun j hj1 => by simpa using hj j hj1 (by omega)⟩
      simp -implicitDefEqProofs [go_sem, Tryz.f35, t0, t1, t7, t8, hlt, hb, hl2, hv, pClsC, hq, c1, hf]
      exact ⟨i, rfl, hlt, rfl⟩
    · simp -implicitDefEqProofs [go_sem, Tryz.f35, t0, t1, t7, t8, hlt, hb, hl2, hv, pClsC, hq, c1]
      refine ih (i + 1) _ _ (by omega) ⟨by omega, ?_⟩
      simp -implicitDefEqProofs [go_sem, t0, t1, t7, t8, i64_n hi6]
      intro j hj1 hj2
      by_cases e : j = i
      · subst e; exact c1
      · exact hj j (by omega) hj2
  · have hf : ds.find? (fun d => decide (d.1 = nm)) = none := by
      rw [List.find?_eq_none]
      intro d hd
      obtain ⟨j, hj1, rfl⟩ := List.getElem_of_mem hd
      simpa using hj j (by omega) hj1
    simp -implicitDefEqProofs [go_sem, Tryz.f35, t0, t1, t7, t8, hlt, hf]
def FindV (m : Nat) (h1 : Heap) (v : V) : Option Dr → Prop
  | none => v = .tup [.agg [.s [], .c (.slice none 0 0)], .b false]
  | some d => ∃ b', m ≤ b' ∧ v = .tup [.agg [.s d.1, .sl b' 0 d.2.length 1], .b true] ∧ strsAt h1 b' 0 d.2.length = some d.2
theorem findL_cons (l : List Dr) (n : List Int) (ns : List (List Int)) : findL l (n :: ns) = match l.find? (fun d => d.1 == n) with | some d => some d | none => findL l ns := rfl
noncomputable def pFindC : Ct := rct (ctm [] Tryz.prog G0 [(35, pIdxFC), (37, pCloneC)]) 28 2
theorem pFind_ok : CtOk Tryz.prog G0 28 pFindC := rct_ok (l := [(35, pIdxFC), (37, pCloneC)]) fol (sound_cons pIdxF_ok (sound_cons pClone_ok sound_nil)) [] (by kernel_rfl)
theorem pFind_rc {args : List V} {h : Heap} {Q : V → Heap → Prop} {c : Code} (hb : Tryz.f28.body = some c) (hn : args.length = 2) (hr : Run (ctm [] Tryz.prog G0 [(35, pIdxFC), (37, pCloneC)]) (Fini (ctm [] Tryz.prog G0 [(35, pIdxFC), (37, pCloneC)]) Tryz.f28.results.toList Q) [.c c] args h) : ∃ v h', pFindC args h = some (v, h') ∧ Q v h' := rct_run [] Tryz.func28 hb hn hr
theorem pFind_go {h : Heap} {b st : Nat} {x : Bool} {c : List V} {ds : List Dr} {bn on : Nat} {names : List (List Int)} (hb : hget h b = ⟨st + 1, x, c⟩) (hd : drs h ds c) (hn : ds.length ≤ 1048577) (hs : strsAt h bn on names.length = some names) (hm : names.length ≤ 1048577) (hz : ∀ d ∈ ds, d.2.length ≤ 1048577) :
    ∃ v h1, pFindC [.sl b 0 ds.length 2, .sl bn on names.length 1] h = some (v, h1) ∧ Ext h h1 ∧ FindV h.length h1 v (findL ds names) := by
  refine pFind_rc rfl rfl ?_
  obtain ⟨st2, x2, c2, hg2, hld2, _, hc2⟩ := strsAt_eq hs
  have hbl := alive hb
  have hbn := alive hg2
  simp -implicitDefEqProofs [go_sem, Tryz.f28]
  refine run_inv _ _ _ _ _ (fun (i : Nat) t h1 => i ≤ names.length ∧ get t 0 = .sl b 0 ds.length 2 ∧ get t 10 = .sl bn on names.length 1 ∧ get t 11 = .i .i64 names.length ∧ get t 12 = .i .i64 i ∧ get t 4 = .p h.length 0 ∧ hget h1 h.length = ⟨2, true, [.s [], .c (.slice none 0 0)]⟩ ∧ h.length < h1.length ∧ Ext h h1 ∧ findL ds (names.drop i) = findL ds names) (fun i => names.length - i) _ (x := 0) ⟨by simp, rfl, rfl, rfl, rfl, rfl, by rw [hget_at0 rfl]; rfl, by simp, ⟨by simp, fun j hj => hget_lt hj⟩, by simp⟩ ?_
  rintro i t h1 ⟨hi, t0, t10, t11, t12, t4, hg0, hl1, hE, hf⟩ ih
  have hi6 : i < 1152921504606846976 := by omega
  have hb1 : hget h1 b = ⟨st + 1, x, c⟩ := by rw [hE.2 b hbl]; exact hb
  have hbn1 : hget h1 bn = ⟨st2 + 1, x2, c2⟩ := by rw [hE.2 bn hbn]; exact hg2
  by_cases hlt : i < names.length
  · have hc2 := hc2 i hlt
    obtain ⟨nm, hnm⟩ : ∃ nm, names[i] = nm := ⟨_, rfl⟩
    rw [hnm] at hc2
    rw [List.drop_eq_getElem_cons hlt, hnm, findL_cons] at hf
    have hE1 : Ext h (h1 ++ [⟨2, true, [.s nm]⟩]) := hE.new _
    obtain ⟨v, h2, hI, rfl, hv⟩ := pIdxF_go (h := h1 ++ [⟨2, true, [.s nm]⟩]) (b := b) (st := st) (x := x) (c := c) (ds := ds) (q := h1.length) (nm := nm) (by rw [hget_lt (by omega)]; exact hb1) (drs_ext hE1 hd) (by unfold cellS; rw [hget_at0 rfl]; rfl) hn
    cases hfd : ds.find? (fun d => d.1 == nm) with
    | none =>
      rw [hfd] at hv hf
      simp only at hv hf
      subst hv
      simp -implicitDefEqProofs [go_sem, Tryz.f28, t0, t10, t11, t12, t4, hlt, hbn1, hc2, hI]
      refine ih (i + 1) _ _ (by omega) ⟨by omega, ?_⟩
      simp -implicitDefEqProofs [go_sem, t0, t10, t11, t12, t4, i64_n hi6, hf, hE1, hg0]
      exact ⟨by omega, by omega⟩
    | some d =>
      rw [hfd] at hv hf
      simp only at hv hf
      obtain ⟨k, hk, rfl, hkd⟩ := hv
      obtain ⟨v, hv2, hv1, hdv⟩ := drs_get hk hd
      rw [hkd] at hv2 hv1 hdv
      obtain ⟨b', o', rfl, hs', hc'⟩ := hdv
      have hz' := hz d (hkd ▸ List.getElem_mem hk)
      have hE2 : Ext h (h1 ++ [⟨2, true, [.s nm]⟩, ⟨2, true, [.s d.1, .sl b' o' d.2.length 1]⟩]) := by
        have := hE1.new ⟨2, true, [.s d.1, .sl b' o' d.2.length 1]⟩
        simpa using this
      have hS := strsAt_ext hE2 hs'
      have hC := hasC_n (n := d.2.length) (hasC_ext hE2 (hasC_alive hc') hc')
      have hbl1 : b < h1.length := by omega
      simp -implicitDefEqProofs [go_sem, Tryz.f28, t0, t10, t11, t12, t4, hlt, hbn1, hc2, hI, hk, hget_lt hbl1, hb1, hv2, pCloneC, hS, hC, hz', hget_lt hl1, hg0]
      have hl3 : h.length < h1.length + 3 := by omega
      simp -implicitDefEqProofs [go_sem, t4, hl3, ← hf, FindV]
      refine ⟨(hE.app _).set (Nat.le_refl _) _, h1.length + 2, by have := hE.1; omega, rfl, ?_⟩
      unfold strsAt
      rw [hget_set, if_neg (by omega), hget_at rfl]
      simp only [List.getD_cons_succ, List.getD_cons_zero, ldN_sts, strsV_map]
  · have e0 : names.drop i = [] := List.drop_eq_nil_of_le (by omega)
    rw [e0] at hf
    have hv0 : (Value.slice none 0 0).oneCell' = true := rfl
    simp -implicitDefEqProofs [go_sem, Tryz.f28, t0, t10, t11, t12, t4, hlt, hg0, hl1, ← hf, findL, FindV, hv0]
    exact hE.set (Nat.le_refl _) _
end GoD

/-! Policies as the program reads them: all directives. -/
namespace GoD
open Go Go.Proofs
set_option linter.unusedVariables false
set_option linter.unusedSimpArgs false
set_option maxHeartbeats 4000000
set_option maxRecDepth 100000
theorem blanksG_mem : ∀ {l cur s : List Int}, s ∈ blanksG cur l → s.length ≤ cur.length + l.length
  | [], cur, s, h => by
    unfold blanksG at h
    split at h
    · cases h
    · simp at h; simp [h]
  | c :: t, cur, s, h => by
    unfold blanksG at h
    split at h
    · split at h
      · have := blanksG_mem h; simp at this ⊢; omega
      · rcases List.mem_cons.1 h with h | h
        · rw [h]; simp
        · have := blanksG_mem h; simp at this ⊢; omega
    · have := blanksG_mem h; simp at this ⊢; omega
def drB (N : Nat) (d : Dr) : Prop := d.2.length ≤ N + 1 ∧ ∀ s ∈ d.2, s.length ≤ N
theorem cspStep_B {N : Nat} {acc : List Dr} {p : List Int} (hp : p.length ≤ N) (ha : ∀ d ∈ acc, drB N d) : (∀ d ∈ cspStep acc p, drB N d) ∧ (cspStep acc p).length ≤ acc.length + 1 := by
  unfold cspStep
  split
  · exact ⟨ha, by omega⟩
  · split
    · exact ⟨ha, by omega⟩
    · refine ⟨fun d hd => ?_, by simp⟩
      rcases List.mem_append.1 hd with hd | hd
      · exact ha d hd
      · simp at hd
        subst hd
        refine ⟨?_, fun s hs => ?_⟩
        · have := blanksG_len p []
          simp [blanksL]; omega
        · have := blanksG_mem (List.mem_of_mem_tail hs)
          simp at this; omega
theorem cspF_B {N : Nat} : ∀ {y : List (List Int)} {acc : List Dr}, (∀ p ∈ y, p.length ≤ N) → (∀ d ∈ acc, drB N d) → (∀ d ∈ y.foldl cspStep acc, drB N d) ∧ (y.foldl cspStep acc).length ≤ acc.length + y.length
  | [], acc, _, ha => ⟨ha, by simp⟩
  | p :: y, acc, hy, ha => by
    obtain ⟨h1, h2⟩ := cspStep_B (hy p (by simp)) ha
    obtain ⟨h3, h4⟩ := cspF_B (y := y) (fun q hq => hy q (by simp [hq])) h1
    exact ⟨h3, by simp only [List.foldl_cons, List.length_cons]; omega⟩
theorem cspL_B {l : List Int} : ∀ d ∈ cspL l, drB l.length d := (cspF_B (fun p hp => splitL_mem hp) (by simp)).1
theorem unkill {h : Heap} {m : Nat} {d : Dr} {v : V} (hd : dirAt (h.set m dead) d v) : dirAt h d v := by
  obtain ⟨b, o, h1, h2, h3⟩ := hd
  have hne : b ≠ m := by
    rintro rfl
    have := hasC_alive h3
    rw [List.length_set] at this
    unfold strsAt at h2
    rw [hget_set, if_pos ⟨rfl, this⟩] at h2
    cases h2
  have hg : hget (h.set m dead) b = hget h b := by rw [hget_set, if_neg fun e => hne e.1.symm]
  refine ⟨b, o, h1, ?_, ?_⟩
  · unfold strsAt at h2 ⊢; rw [← hg]; exact h2
  · unfold hasC at h3 ⊢; rw [← hg]; exact h3
theorem drs_unkill {h : Heap} {m : Nat} : ∀ {ds : List Dr} {c : List V}, drs (h.set m dead) ds c → drs h ds c
  | [], _, hd => hd
  | d :: ds, c, ⟨v, c', e, h2, h3⟩ => ⟨v, c', e, unkill h2, drs_unkill h3⟩
theorem ext_kill {h h1 : Heap} (he : Ext h h1) (m : Nat) : Ext (h.set m dead) (h1.set m dead) := ⟨by have := he.1; simpa using this, fun i hi => by
  rw [List.length_set] at hi
  have := he.1
  rw [hget_set, hget_set]
  by_cases e : m = i
  · subst e; rw [if_pos ⟨rfl, by omega⟩, if_pos ⟨rfl, hi⟩]
  · rw [if_neg fun x => e x.1, if_neg fun x => e x.1]; exact he.2 i hi⟩
theorem find_any {ds : List Dr} {nm : List Int} : findL ds [nm] = none ↔ (ds.any fun d => d.1 == nm) = false := by
  unfold findL
  simp only [findL]
  cases hf : ds.find? (fun d => d.1 == nm) with
  | none =>
    rw [List.find?_eq_none] at hf
    simp only [true_iff]
    rw [List.any_eq_false]
    exact fun d hd => by simpa using hf d hd
  | some d =>
    simp only [reduceCtorEq, false_iff]
    have h1 := List.find?_some hf
    have h2 := List.mem_of_find?_eq_some hf
    rw [Bool.not_eq_false, List.any_eq_true]
    exact ⟨d, h2, h1⟩
theorem sts_get {y : List (List Int)} {i : Nat} (hi : i < y.length) : ldN (sts y) i 1 = some [.s y[i]] := by
  unfold ldN
  rw [if_pos (by simp [sts]; omega), List.drop_eq_getElem_cons (by simpa [sts] using hi)]
  simp [sts]
noncomputable def pCspC : Ct := rct (ctm [] Tryz.prog G0 [(46, pSplitC), (47, pBlanksC), (48, pAsciiC), (49, pLowerC), (28, pFindC)]) 31 1
theorem pCsp_ok : CtOk Tryz.prog G0 31 pCspC := rct_ok (l := [(46, pSplitC), (47, pBlanksC), (48, pAsciiC), (49, pLowerC), (28, pFindC)]) fol (sound_cons pSplit_ok (sound_cons pBlanks_ok (sound_cons pAscii_ok (sound_cons pLower_ok (sound_cons pFind_ok sound_nil))))) [] (by kernel_rfl)
theorem pCsp_rc {args : List V} {h : Heap} {Q : V → Heap → Prop} {c : Code} (hb : Tryz.f31.body = some c) (hn : args.length = 1) (hr : Run (ctm [] Tryz.prog G0 [(46, pSplitC), (47, pBlanksC), (48, pAsciiC), (49, pLowerC), (28, pFindC)]) (Fini (ctm [] Tryz.prog G0 [(46, pSplitC), (47, pBlanksC), (48, pAsciiC), (49, pLowerC), (28, pFindC)]) Tryz.f31.results.toList Q) [.c c] args h) : ∃ v h', pCspC args h = some (v, h') ∧ Q v h' := rct_run [] Tryz.func31 hb hn hr
theorem pCsp_go {h : Heap} {l : List Int} (hl : l.length ≤ 1048576) :
    ∃ v h1, pCspC [.s l] h = some (v, h1) ∧ Ext h h1 ∧ ∃ b c, v = .sl b 0 (cspL l).length 2 ∧ hget h1 b = ⟨2, false, c⟩ ∧ drs h1 (cspL l) c := by
  refine pCsp_rc rfl rfl ?_
  obtain ⟨y, hy⟩ : ∃ y, splitL 59 l = y := ⟨_, rfl⟩
  have hyn : y.length ≤ 1048577 := by have := splitL_len 59 l; rw [hy] at this; omega
  have hym : ∀ p ∈ y, p.length ≤ l.length := fun p hp => splitL_mem (c := 59) (hy ▸ hp)
  have hres : cspL l = y.foldl cspStep [] := by unfold cspL; rw [hy]
  rw [hres]
  simp -implicitDefEqProofs [go_sem, Tryz.f31, pSplitC, hl, hy]
  refine run_inv _ _ _ _ _ (fun (x : Nat × Nat) t h1 => x.1 ≤ y.length ∧ get t 2 = .sl x.2 0 ((y.take x.1).foldl cspStep []).length 2 ∧ get t 10 = .sl (h.length + 1) 0 y.length 1 ∧ get t 11 = .i .i64 y.length ∧ get t 12 = .i .i64 x.1 ∧ hget h1 (h.length + 1) = ⟨2, true, sts y⟩ ∧ h.length ≤ x.2 ∧ x.2 < h1.length ∧ x.2 ≠ h.length + 1 ∧ Ext h h1 ∧ ∃ c, hget h1 x.2 = ⟨2, false, c⟩ ∧ drs (h1.set x.2 dead) ((y.take x.1).foldl cspStep []) c) (fun x => y.length - x.1) _ (x := (0, h.length)) ⟨by simp, rfl, rfl, rfl, rfl, by rw [hget_at rfl]; rfl, by simp, by simp, by simp, ⟨by simp, fun j hj => hget_lt hj⟩, [], by rw [hget_at0 rfl]; rfl, rfl⟩ ?_
  rintro ⟨i, m⟩ t h1 ⟨hi, t2, t10, t11, t12, hgy, hm, hm', hmn, hE, c, hgm, hd⟩ ih
  simp only at hi t2 t10 t11 t12 hm hm' hmn hgm hd
  have hi6 : i < 1152921504606846976 := by omega
  obtain ⟨hB, hBl⟩ := cspF_B (N := l.length) (y := y.take i) (acc := []) (fun p hp => hym p (List.mem_of_mem_take hp)) (by simp)
  simp at hBl
  obtain ⟨ds, hds⟩ : ∃ ds, (y.take i).foldl cspStep [] = ds := ⟨_, rfl⟩
  rw [hds] at t2 hd hB hBl
  by_cases hlt : i < y.length
  · obtain ⟨p, hp⟩ : ∃ p, y[i] = p := ⟨_, rfl⟩
    have hpl : p.length ≤ 1048576 := by have := hym p (hp ▸ List.getElem_mem hlt); omega
    have hc := (sts_get hlt : ldN (sts y) i 1 = _)
    rw [hp] at hc
    have hD : (y.take (i + 1)).foldl cspStep [] = cspStep ds p := by rw [List.take_succ_eq_append_getElem hlt, List.foldl_append, hds, hp]; rfl
    have hE1 := hE.app [⟨2, false, sts (blanksL p)⟩]
    have skip : cspStep ds p = ds → ∀ t' (h2 : Heap), Ext h1 h2 → get t' 2 = .sl m 0 ds.length 2 → get t' 10 = .sl (h.length + 1) 0 y.length 1 → get t' 11 = .i .i64 y.length → get t' 12 = .i .i64 ((i + 1 : Nat) : Int) → _ := fun e t' h2 hE2 a b c1 d => ih (i + 1, m) t' h2 (by simp; omega) ⟨by simp; omega, by simp only; rw [hD, e]; exact a, b, c1, d, by rw [hE2.2 _ (by have := alive hgy; omega)]; exact hgy, hm, by have := hE2.1; simp only; omega, hmn, hE.trans hE2, c, by simp only; rw [hE2.2 _ hm']; exact hgm, by simp only; rw [hD, e]; exact drs_ext (ext_kill hE2 m) hd⟩
    cases c1 : asciiB p with
    | false =>
      have e : cspStep ds p = ds := by unfold cspStep; rw [if_pos (.inl c1)]
      simp -implicitDefEqProofs [go_sem, Tryz.f31, t2, t10, t11, t12, hlt, hgy, hc, pBlanksC, hpl, pAsciiC, c1]
      refine skip e _ _ ((Ext.refl h1).app _) ?_ ?_ ?_ ?_ <;> simp -implicitDefEqProofs [go_sem, t2, t10, t11, t12, i64_n hi6]
    | true =>
      by_cases c2 : blanksL p = []
      · have e : cspStep ds p = ds := by unfold cspStep; rw [if_pos (.inr c2)]
        simp -implicitDefEqProofs [go_sem, Tryz.f31, t2, t10, t11, t12, hlt, hgy, hc, pBlanksC, hpl, pAsciiC, c1, c2]
        refine skip e _ _ ((Ext.refl h1).app _) ?_ ?_ ?_ ?_ <;> simp -implicitDefEqProofs [go_sem, t2, t10, t11, t12, i64_n hi6]
      · obtain ⟨k, q, hkq⟩ : ∃ k q, blanksL p = k :: q := by
          cases hb : blanksL p with
          | nil => exact absurd hb c2
          | cons k q => exact ⟨k, q, rfl⟩
        have hst : cspStep ds p = if (ds.any fun d => d.1 == lowerL k) = true then ds else ds ++ [(lowerL k, q)] := by
          unfold cspStep; rw [if_neg (by simp [c1, c2]), hkq]; rfl
        have hq0 : ¬ ((q.length : Int) + 1 = 0) := by omega
        have ld0 : ldN (sts (k :: q)) 0 1 = some [.s k] := rfl
        have hkl : k.length ≤ 1048576 := by
          have := blanksG_mem (l := p) (cur := []) (s := k) (by show k ∈ blanksL p; rw [hkq]; simp)
          simp at this; omega
        have hEH : Ext h1 (h1 ++ [⟨2, false, sts (k :: q)⟩, ⟨2, true, [.s (lowerL k)]⟩]) := (Ext.refl h1).app _
        obtain ⟨v, h2, hF, hE2, hv⟩ := pFind_go (h := h1 ++ [⟨2, false, sts (k :: q)⟩, ⟨2, true, [.s (lowerL k)]⟩]) (b := m) (st := 1) (x := false) (c := c) (ds := ds) (bn := h1.length + 1) (on := 0) (names := [lowerL k]) (by rw [hget_lt hm']; exact hgm) (drs_ext hEH (drs_unkill hd)) (by omega) (by unfold strsAt; rw [hget_at rfl]; rfl) (by simp) (fun d hd => by have := (hB d hd).1; omega)
        have hE12 : Ext h1 h2 := hEH.trans hE2
        have hgm2 : hget h2 m = ⟨2, false, c⟩ := by rw [hE12.2 m hm']; exact hgm
        have hl2 : h1.length + 2 ≤ h2.length := by have := hE2.1; simpa using this
        have hgk : hget h2 h1.length = ⟨2, false, sts (k :: q)⟩ := by rw [hE2.2 _ (by simp), hget_at0 rfl]; rfl
        have hv0 : (Value.slice none 0 0).oneCell' = true := rfl
        simp only [List.length_singleton] at hF
        cases hfd : findL ds [lowerL k] with
        | some d =>
          have e : cspStep ds p = ds := by
            rw [hst, if_pos]
            cases ha : ds.any fun d => d.1 == lowerL k with
            | true => rfl
            | false => rw [find_any.2 ha] at hfd; cases hfd
          rw [hfd] at hv
          obtain ⟨b', _, rfl, _⟩ := hv
          simp -implicitDefEqProofs [go_sem, Tryz.f31, t2, t10, t11, t12, hlt, hgy, hc, pBlanksC, hpl, pAsciiC, c1, hkq, pLowerC, hq0, ld0, hkl, hF]
          refine skip e _ _ (hE12.app _) ?_ ?_ ?_ ?_ <;> simp -implicitDefEqProofs [go_sem, t2, t10, t11, t12, i64_n hi6]
        | none =>
          have e : cspStep ds p = ds ++ [(lowerL k, q)] := by rw [hst, if_neg (by rw [find_any.1 hfd]; simp)]
          rw [hfd] at hv
          obtain rfl := hv
          have hcl := drs_len hd
          have hco := drs_one hd
          have hq1 : (1 : Int) ≤ (q.length : Int) + 1 := by omega
          have hm2 : m < h2.length := by omega
          have ldc : ldN c 0 (ds.length * 2) = some c := by unfold ldN; rw [if_pos (by omega), List.drop_zero, List.take_of_length_le (by omega)]
          have e40 : (ds.length + 1) * 40 ≤ 1099511627776 := by omega
          have hmk : ¬ m = h2.length := by omega
          have hmk' : ¬ m = h2.length + 1 := by omega
          simp -implicitDefEqProofs [go_sem, Tryz.f31, t2, t10, t11, t12, hlt, hgy, hc, pBlanksC, hpl, pAsciiC, c1, hkq, pLowerC, hq0, ld0, hkl, hF, hv0, hgm2, hq1, hm2, ldc, e40, hmk, hmk']
          have hE3 : Ext h (h2.set m dead ++ [⟨2, true, [.s [], .c (.slice none 0 0)]⟩, ⟨2, true, [.s (lowerL k), .sl h1.length 1 q.length 1]⟩, ⟨2, false, c ++ [.s (lowerL k), .sl h1.length 1 q.length 1]⟩]) := ((hE.trans hE12).set hm dead).app _
          have hne : m ≠ h1.length := by omega
          have look3 : ∀ (l : Heap) j b, j < h2.length → m ≠ j → hget h2 j = b → hget (h2.set m dead ++ l) j = b := fun l j b h1 h2 h3 => by
            rw [hget_lt (by simpa using h1), hget_set, if_neg fun e => h2 e.1]; exact h3
          have hdir : ∀ l : Heap, dirAt (h2.set m dead ++ l) (lowerL k, q) (.sl h1.length 1 q.length 1) := fun l => by
            have hg3 := look3 l h1.length _ (by omega) hne hgk
            refine ⟨h1.length, 1, rfl, ?_, ?_⟩
            · unfold strsAt
              rw [hg3]
              have : ldN (sts (k :: q)) 1 q.length = some (sts q) := by
                unfold ldN
                rw [if_pos (by simp [sts]; omega)]
                simp [sts, List.take_of_length_le]
              simp only [this, strsV_map]
            · unfold hasC
              rw [hg3]; rfl
          refine ih (i + 1, h2.length + 2) _ _ (by simp; omega) ⟨by simp; omega, ?_, ?_, ?_, ?_, ?_, ?_, ?_, ?_, hE3, c ++ [.s (lowerL k), .sl h1.length 1 q.length 1], ?_, ?_⟩
          · simp only; rw [hD, e]; simp -implicitDefEqProofs [go_sem]
          · simp -implicitDefEqProofs [go_sem, t10]
          · simp -implicitDefEqProofs [go_sem, t11]
          · simp -implicitDefEqProofs [go_sem, t12, i64_n hi6]
          · exact look3 _ _ _ (by have := alive hgy; have := hE12.1; omega) hmn (by rw [hE12.2 _ (alive hgy)]; exact hgy)
          · simp only; have := hE.1; omega
          · simp
          · simp only; have := hE.1; omega
          · simp only
            have : (h2.set m dead).length = h2.length := by simp
            rw [hget_at this]; rfl
          · simp only; rw [hD, e]
            have : (h2.set m dead).length = h2.length := by simp
            rw [List.set_append_right _ _ (by simp), this, show h2.length + 2 - h2.length = 2 by omega]
            exact drs_snoc (hdir _) (drs_ext ((ext_kill hE12 m).trans ((Ext.refl _).app _)) hd)
  · have e : i = y.length := by omega
    subst e
    rw [List.take_length] at hds
    simp -implicitDefEqProofs [go_sem, Tryz.f31, t2, t10, t11, t12, hds, hE]
    exact ⟨c, hgm, drs_unkill hd⟩
end GoD
