import Derived.Test.YtffoolaocbgknaaGreatDoorLD
/-! Chapter 15's laws over lists, in any order. -/
namespace GoD
open Go Go.Proofs
set_option linter.unusedVariables false
set_option linter.unusedSimpArgs false
set_option maxHeartbeats 2000000
set_option maxRecDepth 100000
theorem strsAt_one {h : Heap} {b o n i : Nat} {y : List (List Int)} (hs : strsAt h b o n = some y) (hi : i < y.length) : strsAt h b (o + i) 1 = some [y[i]] := by
  obtain ⟨st, x, c, hg, hld, hn, hc⟩ := strsAt_eq hs
  unfold strsAt
  rw [hg]
  simp only [hc i hi, strsV, Option.map_some]
theorem listB_rev (y : List (List Int)) (a d : List Int) (p : Int) (e os oh : List Int) (op rd : Int) : listB y.reverse a d p e os oh op rd = listB y a d p e os oh op rd := by
  unfold listB
  rw [List.any_reverse]
theorem listB_snoc (y : List (List Int)) (w : List Int) (a d : List Int) (p : Int) (e os oh : List Int) (op rd : Int) : listB (y ++ [w]) a d p e os oh op rd = (listB y a d p e os oh op rd || matchB (srcL w) a d p e os oh op rd) := by
  unfold listB
  rw [List.any_append]
  simp
theorem take_snoc {y : List (List Int)} {i : Nat} (h : i < y.length) : y.take (i + 1) = y.take i ++ [y[i]] := List.take_succ_eq_append_getElem h
def pLaw7C : Ct := fun args h => match args with
  | [.sl b o n 1, .s s, .s d, .i .i64 rd] => (match strsAt h b o n with | some y => if (∀ p ∈ y, p.length ≤ 281474976710656) then some (.b true, h) else none | none => none)
  | _ => none
theorem pLaw7_ok : CtOk Tryz.prog G0 7 pLaw7C := by
  refine ct_plain (n := 4) fol (sound_cons pAwake_ok (sound_cons pParsed_ok (sound_cons pSelf_ok (sound_cons pTotal_ok (sound_cons pList_ok sound_nil))))) (by kernel_rfl) Tryz.func7 rfl fun args h v h' hc r xs H hr hx => ?_
  unfold pLaw7C at hc; split at hc <;> (try split at hc) <;> (try split at hc) <;> cases hc
  rename_i b o n s d rd _ y hy hyl
  obtain ⟨st, xx, c, hg, hld, hn, hc⟩ := strsAt_eq hy
  have hn6 := (sl_of hx).1
  have hbl := hget_pos hg
  refine ⟨rfl, rfl, by simp [renV, bndV], ?_⟩
  obtain ⟨u, hu⟩ : ∃ u, urlOr s = u := ⟨_, rfl⟩
  obtain ⟨og, hog⟩ : ∃ og, selfO d = og := ⟨_, rfl⟩
  cases h1 : urlOk s with
  | false => simp -implicitDefEqProofs [go_sem, Tryz.f7, pAwakeC, pParsedC, h1, Url.V, Url.cells]
  | true =>
    obtain ⟨hho, hpa⟩ := urlOk_len h1
    rw [hu] at hho hpa
    have hy1 : strsAt (h ++ [⟨2, true, u.cells⟩]) b o n = some y := by
      rw [← hy]; unfold strsAt; rw [hget_lt hbl]
    unfold Url.cells at hy1
    by_cases h2 : totL 600 n y ≤ 600
    · have hsh := totL_le h2 (by omega)
      have hn600 : n ≤ 600 := by have := totL_ge 600 y (n : Int); omega
      have hsh2 : ∀ p ∈ y, p.length ≤ 1048576 := fun p hp => by have := hsh p hp; omega
      obtain ⟨LB, hLB⟩ : ∃ LB : List (List Int) → Bool, LB = fun z => listB z u.sch u.ho u.po u.path og.sch og.ho og.po rd := ⟨_, rfl⟩
      have hlb : ∀ z, listB z u.sch u.ho u.po u.path og.sch og.ho og.po rd = LB z := fun z => by rw [hLB]
      have hst : ∀ (z : List (List Int)) (w : List Int), LB (z ++ [w]) = (LB z || LB [w]) := by
        intro z w
        rw [hLB]
        simp only [listB_snoc]
        congr 1
        simp [listB]
      have hrv : ∀ z : List (List Int), LB z.reverse = LB z := fun z => by rw [hLB]; exact listB_rev _ _ _ _ _ _ _ _ _
      have hnl : LB [] = false := by rw [hLB]; rfl
      clear hLB
      simp -implicitDefEqProofs [go_sem, Tryz.f7, pAwakeC, pParsedC, pTotalC, h1, hu, hy1, eq_true hyl, h2, Url.V, Url.cells, pSelfC, hog, Org.V, Org.cells]
      refine run_inv _ _ _ _ _ (fun (x : Nat × Nat × Bool) t h1 => x.1 ≤ n ∧ get t 0 = .sl b o n 1 ∧ get t 3 = .i .i64 rd ∧ get t 9 = .p h.length 0 ∧ get t 11 = .p (h.length + 1) 0 ∧ get t 12 = .b (LB (y.take x.1)) ∧ get t 13 = .sl x.2.1 0 x.1 1 ∧ get t 14 = .i .i64 x.1 ∧ hget h1 x.2.1 = ⟨2, x.2.2, sts (y.take x.1).reverse⟩ ∧ h.length + 2 ≤ x.2.1 ∧ x.2.1 < h1.length ∧ hget h1 h.length = ⟨2, true, u.cells⟩ ∧ hget h1 (h.length + 1) = ⟨2, true, og.cells⟩ ∧ Ext h h1) (fun x => n - x.1) _ (x := (0, h.length + 2, false)) ⟨by simp, by simp -implicitDefEqProofs [go_sem], by simp -implicitDefEqProofs [go_sem], by simp -implicitDefEqProofs [go_sem], by simp -implicitDefEqProofs [go_sem], by simp -implicitDefEqProofs [go_sem, hnl], by simp -implicitDefEqProofs [go_sem], by simp -implicitDefEqProofs [go_sem], by simp -implicitDefEqProofs [go_sem, sts], by simp, by simp, by simp -implicitDefEqProofs [go_sem, Url.cells], by simp -implicitDefEqProofs [go_sem, Org.cells], by simp -implicitDefEqProofs [go_sem]⟩ ?_
      rintro ⟨i, mb, xb⟩ t h1 ⟨hi, t0, t3, t9, t11, t12, t13, t14, hm, hm1, hm2, hg0, hg1, hE⟩ ih
      simp only at hi t12 t13 t14 hm hm1 hm2
      unfold Url.cells at hg0
      unfold Org.cells at hg1
      have hgb : hget h1 b = ⟨st + 1, xx, c⟩ := by rw [hE.2 b hbl]; exact hg
      have hy2 : strsAt h1 b o n = some y := by rw [← hy]; unfold strsAt; rw [hE.2 b hbl]
      have hA0 : h.length < h1.length := by omega
      have hA1 : h.length + 1 < h1.length := by omega
      have hi6 : i < 1152921504606846976 := by omega
      have hrl : (y.take i).reverse.length = i := by simp; omega
      by_cases hlt : i < n
      · have hlt' : i < y.length := by omega
        obtain ⟨w, hw⟩ : ∃ w, y[i] = w := ⟨_, rfl⟩
        have hwl := hsh2 w (hw ▸ List.getElem_mem hlt')
        have hc1 := hc i hlt'
        have hone := strsAt_one hy2 hlt'
        have htk := take_snoc hlt'
        rw [hw] at hc1 hone htk
        have i1 : (i : Int) ≤ (i : Int) + 1 := by omega
        have i2 : (i : Int) + 1 ≤ n := by omega
        have i3 : i + 1 - i = 1 := by omega
        have imin : min i y.length = i := by omega
        have hcells : V.s w :: sts (y.take i).reverse = sts (y.take (i + 1)).reverse := by rw [htk, List.reverse_append]; rfl
        have i4 : (1 + i) * 16 ≤ 1099511627776 := by omega
        have hw1 : (∀ p ∈ [w], p.length ≤ 1048576) = True := eq_true fun p hp => by rw [List.mem_singleton.1 hp]; exact hwl
        cases hb : LB (y.take i) with
        | true =>
          rw [hb] at t12
          simp -implicitDefEqProofs [go_sem, Tryz.f7, t0, t3, t9, t11, t12, t13, t14, hlt, hc1, hgb, hm, hm2, ldN_s hrl, i4, imin, hcells]
          refine ih (i + 1, h1.length + 1, false) _ _ (by simp; omega) ⟨hlt, ?_⟩
          simp -implicitDefEqProofs [go_sem, t0, t3, t9, t11, t12, t13, t14, i64_n hi6, hg0, hg1, hE, htk, hst, hb, Url.cells, Org.cells, hA0, hA1]
          omega
        | false =>
          rw [hb] at t12
          simp -implicitDefEqProofs [go_sem, Tryz.f7, t0, t3, t9, t11, t12, t13, t14, hlt, hc1, hgb, hm, hm2, ldN_s hrl, i1, i2, i3, i4, i64_n hi6, hone, pListC, hw1, hwl, hg0, hg1, hho, hpa, hlb, imin, hcells]
          refine ih (i + 1, h1.length + 1, false) _ _ (by simp; omega) ⟨hlt, ?_⟩
          simp -implicitDefEqProofs [go_sem, t0, t3, t9, t11, t12, t13, t14, i64_n hi6, hg0, hg1, hE, htk, hst, hb, Url.cells, Org.cells, hA0, hA1]
          omega
      · have hin : i = n := by omega
        have hty : y.take i = y := List.take_of_length_le (by omega)
        have hat : strsAt h1 mb 0 i = some y.reverse := by
          have := strsAt_of (n := i) hm (by omega)
          rw [hty] at this
          rw [this, List.take_of_length_le (by simp; omega)]
        have hsr : ∀ p ∈ y.reverse, p.length ≤ 1048576 := fun p hp => hsh2 p (List.mem_reverse.1 hp)
        rw [hty] at t12
        simp -implicitDefEqProofs [go_sem, Tryz.f7, t0, t3, t9, t11, t12, t13, t14, hlt, pListC, hy2, hat, eq_true hsh2, eq_true hsr, hg0, hg1, hho, hpa, hlb, hrv, pAwakeC, hE]
    · have h2' : 600 < totL 600 n y := by omega
      simp -implicitDefEqProofs [go_sem, Tryz.f7, pAwakeC, pParsedC, pTotalC, h1, hu, hy1, eq_true hyl, h2, h2', Url.V, Url.cells]
end GoD
