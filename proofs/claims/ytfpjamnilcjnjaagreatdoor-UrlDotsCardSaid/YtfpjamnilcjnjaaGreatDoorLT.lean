import Derived.Test.YtfpjamnilcjnjaaGreatDoorEX
/-! How long some texts are together. -/
namespace GoD
open Go Go.Proofs
set_option linter.unusedVariables false
set_option linter.unusedSimpArgs false
set_option maxHeartbeats 2000000
set_option maxRecDepth 100000
def totL (m : Int) : Int → List (List Int) → Int
  | n, [] => n
  | n, p :: t => if n ≤ m then totL m (n + p.length) t else n
theorem totL_ge (m : Int) : ∀ (l : List (List Int)) (n : Int), n ≤ totL m n l
  | [], n => by simp [totL]
  | p :: t, n => by
    rw [totL]
    split
    · have := totL_ge m t (n + p.length); omega
    · omega
theorem totL_le {m : Int} : ∀ {l : List (List Int)} {n : Int}, totL m n l ≤ m → 0 ≤ n → ∀ p ∈ l, (p.length : Int) ≤ m
  | [], n, h, _ => by simp
  | p :: t, n, h, h0 => by
    rw [totL] at h
    split at h
    · have h1 := totL_ge m t (n + p.length)
      intro q hq
      rcases List.mem_cons.1 hq with rfl | hq
      · omega
      · exact totL_le h (by omega) q hq
    · omega
theorem hget_pos {h : Heap} {b st : Nat} {x : Bool} {c : List V} (hg : hget h b = ⟨st + 1, x, c⟩) : b < h.length := by
  by_cases hb : b < h.length
  · exact hb
  · unfold hget at hg
    rw [List.getD_eq_getElem?_getD, List.getElem?_eq_none (by omega)] at hg
    cases hg
def pTotalC : Ct := fun args h => match args with
  | [.sl b o n 1, .i .i64 m] => (match strsAt h b o n with | some y => if (∀ p ∈ y, p.length ≤ 281474976710656) ∧ m ≤ 1048576 ∧ 0 ≤ m then some (.i .i64 (totL m n y), h) else none | none => none)
  | _ => none
theorem pTotal_ok : CtOk Tryz.prog G0 21 pTotalC := by
  refine ct_plain (n := 2) fol sound_nil (by kernel_rfl) Tryz.func21 rfl fun args h v h' hc r xs H hr hx => ?_
  unfold pTotalC at hc; split at hc <;> (try split at hc) <;> (try split at hc) <;> cases hc
  rename_i b o n m _ y hy hl
  obtain ⟨hyl, hm, hm0⟩ := hl
  obtain ⟨st, xx, c, hg, hld, hn, hc⟩ := strsAt_eq hy
  have hn6 := (sl_of hx).1
  refine ⟨rfl, rfl, by simp [renV, bndV], ?_⟩
  obtain ⟨R, hR⟩ : ∃ R, totL m n y = R := ⟨_, rfl⟩
  rw [hR]
  simp -implicitDefEqProofs [go_sem, Tryz.f21]
  refine run_inv _ _ _ _ _ (fun (x : Nat × Int) t h1 => x.1 ≤ n ∧ get t 0 = .sl b o n 1 ∧ get t 1 = .i .i64 m ∧ get t 5 = .i .i64 x.2 ∧ get t 6 = .i .i64 x.1 ∧ 0 ≤ x.2 ∧ x.2 ≤ 562949953421312 ∧ totL m x.2 (y.drop x.1) = R ∧ h1 = h) (fun x => n - x.1) _ (x := (0, (n : Int))) ⟨by simp, by simp -implicitDefEqProofs [go_sem], by simp -implicitDefEqProofs [go_sem], by simp -implicitDefEqProofs [go_sem], by simp -implicitDefEqProofs [go_sem], by simp, by simp; omega, hR, rfl⟩ ?_
  rintro ⟨i, s⟩ t h1 ⟨hi, t0, t1, t5, t6, hs0, hs1, hd, rfl⟩ ih
  simp only at hi t5 t6 hs0 hs1 hd
  have hi6 : i < 1152921504606846976 := by omega
  by_cases hlt : i < n
  · have hlt' : i < y.length := by omega
    obtain ⟨w, hw⟩ : ∃ w, y[i] = w := ⟨_, rfl⟩
    have hwl := hyl w (hw ▸ List.getElem_mem hlt')
    have hc1 := hc i hlt'
    rw [hw] at hc1
    rw [List.drop_eq_getElem_cons hlt', hw, totL] at hd
    by_cases c1 : s ≤ m
    · rw [if_pos c1] at hd
      simp -implicitDefEqProofs [go_sem, Tryz.f21, t0, t1, t5, t6, hlt, c1, hc1, hg]
      refine ih (i + 1, s + w.length) _ _ (by simp; omega) ⟨by simp; omega, ?_⟩
      simp -implicitDefEqProofs [go_sem, t0, t1, t5, t6, i64_n hi6, w64 (x := s + (w.length : Int)) (by omega), hd]
      omega
    · rw [if_neg c1] at hd
      subst hd
      simp -implicitDefEqProofs [go_sem, Tryz.f21, t0, t1, t5, t6, hlt, c1]
  · rw [List.drop_eq_nil_of_le (by omega), totL] at hd
    subst hd
    simp -implicitDefEqProofs [go_sem, Tryz.f21, t0, t1, t5, t6, hlt]
theorem totL_up {m B : Int} : ∀ {l : List (List Int)} {n : Int}, (∀ p ∈ l, (p.length : Int) ≤ B) → n ≤ m + B → totL m n l ≤ m + B
  | [], n, _, h => h
  | p :: t, n, hp, h => by
    rw [totL]
    split
    · have := hp p (by simp)
      exact totL_up (fun q hq => hp q (by simp [hq])) (by omega)
    · exact h
end GoD
