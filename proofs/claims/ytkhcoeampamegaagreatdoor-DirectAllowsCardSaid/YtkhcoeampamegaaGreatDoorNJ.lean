import Derived.Test.YtkhcoeampamegaaGreatDoorNF
import Derived.Test.YtkhcoeampamegaaGreatDoorRD
import Derived.Test.YtkhcoeampamegaaGreatDoorLT
/-! DirectAllows. -/
namespace GoD
open Go Go.Proofs
set_option linter.unusedVariables false
set_option linter.unusedSimpArgs false
set_option maxHeartbeats 4000000
set_option maxRecDepth 100000
def pLaw16aC : Ct := fun args h => match args with
  | [.sl b o n 1, .s ds, .s s, .s dc, .i .i64 rd] => (match strsAt h b o n with | some y => if (∀ p ∈ y, p.length ≤ 281474976710656) then some (.b true, h) else none | none => none)
  | _ => none
theorem pLaw16a_ok : CtOk Tryz.prog G0 7 pLaw16aC := by
  refine ct_plain (n := 5) fol (sound_cons pAwake16_ok (sound_cons pParsed_ok (sound_cons pSelf_ok (sound_cons pTotal_ok (sound_cons pAllows_ok (sound_cons rAllows_ok (sound_cons pAll_ok (sound_cons rAllAllow_ok sound_nil)))))))) (by kernel_rfl) Tryz.func7 rfl fun args h v h' hc r xs H hr hx => ?_
  unfold pLaw16aC at hc; split at hc <;> (try split at hc) <;> (try split at hc) <;> cases hc
  rename_i b o n ds s dc rd _ y hy hyl
  obtain ⟨st, xx, c, hg, hld, hn, hc⟩ := strsAt_eq hy
  obtain ⟨hn6, _, hx2⟩ := sl_of hx
  obtain ⟨⟨_, hdl⟩, _⟩ := str_of hx2
  have hbl := hget_pos hg
  refine ⟨rfl, rfl, by simp [renV, bndV], ?_⟩
  obtain ⟨u, hu⟩ : ∃ u, urlOr s = u := ⟨_, rfl⟩
  obtain ⟨og, hog⟩ : ∃ og, selfO dc = og := ⟨_, rfl⟩
  cases h1 : urlOk s with
  | false => simp -implicitDefEqProofs [go_sem, Tryz.f7, pAwake16C, pParsedC, h1, Url.V, Url.cells]
  | true =>
    obtain ⟨hho, hpa⟩ := urlOk_len h1
    rw [hu] at hho hpa
    have hy1 : strsAt (h ++ [⟨2, true, u.cells⟩]) b o n = some y := by
      rw [← hy]; unfold strsAt; rw [hget_lt hbl]
    unfold Url.cells at hy1
    have htg := totL_ge 2000 y (n : Int)
    have htu := totL_up (m := 2000) (B := 281474976710656) (l := y) (n := n) (fun p hp => by have := hyl p hp; omega) (by omega)
    have w := w64 (x := totL 2000 n y + ds.length) (by omega)
    by_cases h2 : 2000 < totL 2000 n y + ds.length
    · simp -implicitDefEqProofs [go_sem, Tryz.f7, pAwake16C, pParsedC, pTotalC, h1, hu, hy1, eq_true hyl, w, h2, Url.V, Url.cells]
    · have hsh := totL_le (show totL 2000 n y ≤ 2000 by omega) (by omega)
      have hsh2 : ∀ p ∈ y, p.length ≤ 1048576 := fun p hp => by have := hsh p hp; omega
      simp -implicitDefEqProofs [go_sem, Tryz.f7, pAwake16C, pParsedC, pTotalC, h1, hu, hy1, eq_true hyl, w, h2, Url.V, Url.cells]
      refine run_inv _ _ _ _ _ (fun (i : Nat) t h1 => i ≤ n ∧ get t 0 = .sl b o n 1 ∧ get t 1 = .s ds ∧ get t 3 = .s dc ∧ get t 4 = .i .i64 rd ∧ get t 11 = .p h.length 0 ∧ get t 13 = .i .i64 i ∧ h1 = h ++ [⟨2, true, u.cells⟩]) (fun i => n - i) _ (x := 0) ⟨by simp, by simp -implicitDefEqProofs [go_sem], by simp -implicitDefEqProofs [go_sem], by simp -implicitDefEqProofs [go_sem], by simp -implicitDefEqProofs [go_sem], by simp -implicitDefEqProofs [go_sem], by simp -implicitDefEqProofs [go_sem], by simp [Url.cells]⟩ ?_
      rintro i t h1 ⟨hi, t0, t1, t3, t4, t11, t13, hh⟩ ih
      have hl1 : h1.length = h.length + 1 := by rw [hh]; simp
      have hg0 : hget h1 h.length = ⟨2, true, u.cells⟩ := by rw [hh, hget_at0 rfl]; rfl
      unfold Url.cells at hg0
      have hgb : hget h1 b = ⟨st + 1, xx, c⟩ := by rw [hh, hget_lt hbl]; exact hg
      have hy2 : strsAt h1 b o n = some y := by rw [hh]; exact hy1
      have hE : Ext h h1 := by rw [hh]; exact (Ext.refl h).new _
      have hi6 : i < 1152921504606846976 := by omega
      by_cases hlt : i < n
      · have hlt' : i < y.length := by omega
        obtain ⟨w, hw⟩ : ∃ w, y[i] = w := ⟨_, rfl⟩
        have hwl := hsh2 w (hw ▸ List.getElem_mem hlt')
        have hc1 := hc i hlt'
        rw [hw] at hc1
        simp -implicitDefEqProofs [go_sem, Tryz.f7, t0, t1, t3, t4, t11, t13, hlt, hc1, hgb, hg0, pSelfC, hog, Org.V, Org.cells, pAllowsC, rAllowsC, hwl, hho, hpa]
        refine ih (i + 1) _ _ (by omega) ⟨by omega, ?_⟩
        simp -implicitDefEqProofs [go_sem, t0, t1, t3, t4, t11, t13, i64_n hi6, hh]
      · simp -implicitDefEqProofs [go_sem, Tryz.f7, t0, t1, t3, t4, t11, t13, hlt, hg0, pSelfC, hog, Org.V, Org.cells, pAllC, rAllAllowC, hy2, eq_true hsh2, hho, hpa, pAwake16C, hE]
end GoD
