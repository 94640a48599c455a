import Derived.Test.YtffoolaocbgknaaGreatDoorLB
/-! Chapter 15's laws over lists. -/
namespace GoD
open Go Go.Proofs
set_option linter.unusedVariables false
set_option linter.unusedSimpArgs false
set_option maxHeartbeats 2000000
set_option maxRecDepth 100000
def totL (m : Int) : Int → List (List Int) → Int
  | n, [] => n
  | n, p :: t => if n ≤ m then totL m (n + p.length) t else n
theorem totL_ge (m : Int) : ∀ (l : List (List Int)) (n : Int), n ≤ totL m n l
  | [], n => by simp [totL]
  | p :: t, n => by
    rw [totL]
    split
    · have := totL_ge m t (n + p.length); omega
    · omega
theorem totL_le {m : Int} : ∀ {l : List (List Int)} {n : Int}, totL m n l ≤ m → 0 ≤ n → ∀ p ∈ l, (p.length : Int) ≤ m
  | [], n, h, _ => by simp
  | p :: t, n, h, h0 => by
    rw [totL] at h
    split at h
    · have h1 := totL_ge m t (n + p.length)
      intro q hq
      rcases List.mem_cons.1 hq with rfl | hq
      · omega
      · exact totL_le h (by omega) q hq
    · omega
theorem hget_pos {h : Heap} {b st : Nat} {x : Bool} {c : List V} (hg : hget h b = ⟨st + 1, x, c⟩) : b < h.length := by
  by_cases hb : b < h.length
  · exact hb
  · unfold hget at hg
    rw [List.getD_eq_getElem?_getD, List.getElem?_eq_none (by omega)] at hg
    cases hg
def pTotalC : Ct := fun args h => match args with
  | [.sl b o n 1, .i .i64 m] => (match strsAt h b o n with | some y => if (∀ p ∈ y, p.length ≤ 281474976710656) ∧ m ≤ 1048576 ∧ 0 ≤ m then some (.i .i64 (totL m n y), h) else none | none => none)
  | _ => none
theorem pTotal_ok : CtOk Tryz.prog G0 22 pTotalC := by
  refine ct_plain (n := 2) fol sound_nil (by kernel_rfl) Tryz.func22 rfl fun args h v h' hc r xs H hr hx => ?_
  unfold pTotalC at hc; split at hc <;> (try split at hc) <;> (try split at hc) <;> cases hc
  rename_i b o n m _ y hy hl
  obtain ⟨hyl, hm, hm0⟩ := hl
  obtain ⟨st, xx, c, hg, hld, hn, hc⟩ := strsAt_eq hy
  have hn6 := (sl_of hx).1
  refine ⟨rfl, rfl, by simp [renV, bndV], ?_⟩
  obtain ⟨R, hR⟩ : ∃ R, totL m n y = R := ⟨_, rfl⟩
  rw [hR]
  simp -implicitDefEqProofs [go_sem, Tryz.f22]
  refine run_inv _ _ _ _ _ (fun (x : Nat × Int) t h1 => x.1 ≤ n ∧ get t 0 = .sl b o n 1 ∧ get t 1 = .i .i64 m ∧ get t 5 = .i .i64 x.2 ∧ get t 6 = .i .i64 x.1 ∧ 0 ≤ x.2 ∧ x.2 ≤ 562949953421312 ∧ totL m x.2 (y.drop x.1) = R ∧ h1 = h) (fun x => n - x.1) _ (x := (0, (n : Int))) ⟨by simp, by simp -implicitDefEqProofs [go_sem], by simp -implicitDefEqProofs [go_sem], by simp -implicitDefEqProofs [go_sem], by simp -implicitDefEqProofs [go_sem], by simp, by simp; omega, hR, rfl⟩ ?_
  rintro ⟨i, s⟩ t h1 ⟨hi, t0, t1, t5, t6, hs0, hs1, hd, rfl⟩ ih
  simp only at hi t5 t6 hs0 hs1 hd
  have hi6 : i < 1152921504606846976 := by omega
  by_cases hlt : i < n
  · have hlt' : i < y.length := by omega
    obtain ⟨w, hw⟩ : ∃ w, y[i] = w := ⟨_, rfl⟩
    have hwl := hyl w (hw ▸ List.getElem_mem hlt')
    have hc1 := hc i hlt'
    rw [hw] at hc1
    rw [List.drop_eq_getElem_cons hlt', hw, totL] at hd
    by_cases c1 : s ≤ m
    · rw [if_pos c1] at hd
      simp -implicitDefEqProofs [go_sem, Tryz.f22, t0, t1, t5, t6, hlt, c1, hc1, hg]
      refine ih (i + 1, s + w.length) _ _ (by simp; omega) ⟨by simp; omega, ?_⟩
      simp -implicitDefEqProofs [go_sem, t0, t1, t5, t6, i64_n hi6, w64 (x := s + (w.length : Int)) (by omega), hd]
      omega
    · rw [if_neg c1] at hd
      subst hd
      simp -implicitDefEqProofs [go_sem, Tryz.f22, t0, t1, t5, t6, hlt, c1]
  · rw [List.drop_eq_nil_of_le (by omega), totL] at hd
    subst hd
    simp -implicitDefEqProofs [go_sem, Tryz.f22, t0, t1, t5, t6, hlt]
def pLaw3C : Ct := fun args h => match args with
  | [.sl b o n 1, .s s, .s d, .i .i64 rd] => (match strsAt h b o n with | some y => if (∀ p ∈ y, p.length ≤ 281474976710656) then some (.b true, h) else none | none => none)
  | _ => none
theorem pLaw3_ok : CtOk Tryz.prog G0 5 pLaw3C := by
  refine ct_plain (n := 4) fol (sound_cons pAwake_ok (sound_cons pParsed_ok (sound_cons pSelf_ok (sound_cons pTotal_ok (sound_cons pParse_ok (sound_cons pMatch_ok (sound_cons rSource_ok (sound_cons rMatch_ok (sound_cons pList_ok (sound_cons rList_ok sound_nil)))))))))) (by kernel_rfl) Tryz.func5 rfl fun args h v h' hc r xs H hr hx => ?_
  unfold pLaw3C at hc; split at hc <;> (try split at hc) <;> (try split at hc) <;> cases hc
  rename_i b o n s d rd _ y hy hyl
  obtain ⟨st, xx, c, hg, hld, hn, hc⟩ := strsAt_eq hy
  have hn6 := (sl_of hx).1
  have hbl := hget_pos hg
  refine ⟨rfl, rfl, by simp [renV, bndV], ?_⟩
  obtain ⟨u, hu⟩ : ∃ u, urlOr s = u := ⟨_, rfl⟩
  obtain ⟨og, hog⟩ : ∃ og, selfO d = og := ⟨_, rfl⟩
  cases h1 : urlOk s with
  | false => simp -implicitDefEqProofs [go_sem, Tryz.f5, pAwakeC, pParsedC, h1, Url.V, Url.cells]
  | true =>
    obtain ⟨hho, hpa⟩ := urlOk_len h1
    rw [hu] at hho hpa
    have hy1 : strsAt (h ++ [⟨2, true, u.cells⟩]) b o n = some y := by
      rw [← hy]; unfold strsAt; rw [hget_lt hbl]
    unfold Url.cells at hy1
    by_cases h2 : totL 600 n y ≤ 600
    · have hsh := totL_le h2 (by omega)
      have hsh2 : ∀ p ∈ y, p.length ≤ 1048576 := fun p hp => by have := hsh p hp; omega
      simp -implicitDefEqProofs [go_sem, Tryz.f5, pAwakeC, pParsedC, pTotalC, h1, hu, hy1, eq_true hyl, h2, Url.V, Url.cells]
      refine run_inv _ _ _ _ _ (fun (i : Nat) t h1 => i ≤ n ∧ get t 0 = .sl b o n 1 ∧ get t 2 = .s d ∧ get t 3 = .i .i64 rd ∧ get t 9 = .p h.length 0 ∧ get t 11 = .i .i64 i ∧ h1 = h ++ [⟨2, true, u.cells⟩]) (fun i => n - i) _ (x := 0) ⟨by simp, by simp -implicitDefEqProofs [go_sem], by simp -implicitDefEqProofs [go_sem], by simp -implicitDefEqProofs [go_sem], by simp -implicitDefEqProofs [go_sem], by simp -implicitDefEqProofs [go_sem], by simp [Url.cells]⟩ ?_
      rintro i t h1 ⟨hi, t0, t2, t3, t9, t11, hh⟩ ih
      have hl1 : h1.length = h.length + 1 := by rw [hh]; simp
      have hg0 : hget h1 h.length = ⟨2, true, u.cells⟩ := by rw [hh, hget_at0 rfl]; rfl
      unfold Url.cells at hg0
      have hgb : hget h1 b = ⟨st + 1, xx, c⟩ := by rw [hh, hget_lt hbl]; exact hg
      have hy2 : strsAt h1 b o n = some y := by rw [hh]; exact hy1
      have hE : Ext h h1 := by rw [hh]; exact (Ext.refl h).new _
      have hi6 : i < 1152921504606846976 := by omega
      by_cases hlt : i < n
      · have hlt' : i < y.length := by omega
        obtain ⟨w, hw⟩ : ∃ w, y[i] = w := ⟨_, rfl⟩
        have hwl := hsh2 w (hw ▸ List.getElem_mem hlt')
        have hc1 := hc i hlt'
        rw [hw] at hc1
        have hpo := srcL_po w
        have hpp := Nat.le_trans (srcL_pa w) hwl
        obtain ⟨⟨ek, es, eh, ep, ea⟩, hsw⟩ : ∃ E, srcL w = E := ⟨_, rfl⟩
        rw [hsw] at hpo hpp
        simp only at hpo hpp
        simp -implicitDefEqProofs [go_sem, Tryz.f5, t0, t2, t3, t9, t11, hlt, hc1, hgb, hg0, pSelfC, hog, Org.V, Org.cells, pParseC, rSourceC, hwl, hsw, Expr5.V, Expr5.cells, pMatchC, rMatchC, hpo, hpp, hho, hpa]
        refine ih (i + 1) _ _ (by omega) ⟨by omega, ?_⟩
        simp -implicitDefEqProofs [go_sem, t0, t2, t3, t9, t11, i64_n hi6, hh]
      · simp -implicitDefEqProofs [go_sem, Tryz.f5, t0, t2, t3, t9, t11, hlt, hg0, pSelfC, hog, Org.V, Org.cells, pListC, rListC, hy2, eq_true hsh2, hho, hpa, pAwakeC, hE]
    · have h2' : 600 < totL 600 n y := by omega
      simp -implicitDefEqProofs [go_sem, Tryz.f5, pAwakeC, pParsedC, pTotalC, h1, hu, hy1, eq_true hyl, h2, h2', Url.V, Url.cells]
end GoD
