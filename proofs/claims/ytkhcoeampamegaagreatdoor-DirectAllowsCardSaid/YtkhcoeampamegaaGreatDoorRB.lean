import Derived.Test.YtkhcoeampamegaaGreatDoorNE
/-! Which directive decides, as the document answers it. -/
namespace GoD
open Go Go.Proofs
set_option linter.unusedVariables false
set_option linter.unusedSimpArgs false
set_option maxHeartbeats 4000000
set_option maxRecDepth 100000
def rChainC : Ct := fun args h => match args with | [.s d] => some (.sl h.length 0 (chainL d).length 1, h ++ [⟨2, !(chainL d).isEmpty, sts (chainL d)⟩]) | _ => none
theorem rChain_ok : CtOk Tryz.prog G0 13 rChainC := by
  refine ct_run (n := 1) fol sound_nil (by kernel_rfl) Tryz.func13 rfl fun args h v h' hc r xs H hr hx => ?_
  unfold rChainC at hc; split at hc <;> (try split at hc) <;> cases hc
  rename_i d
  refine ⟨rfl, ?_⟩
  by_cases k0 : d = []
  · subst k0
    have hl : chainL [] = [[99, 111, 110, 110, 101, 99, 116, 45, 115, 114, 99], [100, 101, 102, 97, 117, 108, 116, 45, 115, 114, 99]] := by kernel_rfl
    simp -implicitDefEqProofs [go_sem, Tryz.f13, hl, sts]
    exact Trim.sl ⟨by simp, fun j hj => hget_lt hj⟩ (by omega) (by simp) (by rw [hget_at rfl]; rfl) (by simp [flat])
  have k0' : d.isEmpty = false := by cases d <;> simp_all
  by_cases k1 : d = [115, 99, 114, 105, 112, 116]
  · subst k1
    have hl : chainL [115, 99, 114, 105, 112, 116] = [[115, 99, 114, 105, 112, 116, 45, 115, 114, 99, 45, 101, 108, 101, 109], [115, 99, 114, 105, 112, 116, 45, 115, 114, 99], [100, 101, 102, 97, 117, 108, 116, 45, 115, 114, 99]] := by kernel_rfl
    simp -implicitDefEqProofs [go_sem, Tryz.f13, hl, sts]
    exact Trim.sl ⟨by simp, fun j hj => hget_lt hj⟩ (by omega) (by simp) (by rw [hget_at rfl]; rfl) (by simp [flat])
  by_cases k2 : d = [115, 116, 121, 108, 101]
  · subst k2
    have hl : chainL [115, 116, 121, 108, 101] = [[115, 116, 121, 108, 101, 45, 115, 114, 99, 45, 101, 108, 101, 109], [115, 116, 121, 108, 101, 45, 115, 114, 99], [100, 101, 102, 97, 117, 108, 116, 45, 115, 114, 99]] := by kernel_rfl
    simp -implicitDefEqProofs [go_sem, Tryz.f13, hl, sts]
    exact Trim.sl ⟨by simp, fun j hj => hget_lt hj⟩ (by omega) (by simp) (by rw [hget_at rfl]; rfl) (by simp [flat])
  by_cases k3 : d = [105, 109, 97, 103, 101]
  · subst k3
    have hl : chainL [105, 109, 97, 103, 101] = [[105, 109, 103, 45, 115, 114, 99], [100, 101, 102, 97, 117, 108, 116, 45, 115, 114, 99]] := by kernel_rfl
    simp -implicitDefEqProofs [go_sem, Tryz.f13, hl, sts]
    exact Trim.sl ⟨by simp, fun j hj => hget_lt hj⟩ (by omega) (by simp) (by rw [hget_at rfl]; rfl) (by simp [flat])
  by_cases k4 : d = [102, 111, 110, 116]
  · subst k4
    have hl : chainL [102, 111, 110, 116] = [[102, 111, 110, 116, 45, 115, 114, 99], [100, 101, 102, 97, 117, 108, 116, 45, 115, 114, 99]] := by kernel_rfl
    simp -implicitDefEqProofs [go_sem, Tryz.f13, hl, sts]
    exact Trim.sl ⟨by simp, fun j hj => hget_lt hj⟩ (by omega) (by simp) (by rw [hget_at rfl]; rfl) (by simp [flat])
  by_cases k5 : d = [109, 97, 110, 105, 102, 101, 115, 116]
  · subst k5
    have hl : chainL [109, 97, 110, 105, 102, 101, 115, 116] = [[109, 97, 110, 105, 102, 101, 115, 116, 45, 115, 114, 99], [100, 101, 102, 97, 117, 108, 116, 45, 115, 114, 99]] := by kernel_rfl
    simp -implicitDefEqProofs [go_sem, Tryz.f13, hl, sts]
    exact Trim.sl ⟨by simp, fun j hj => hget_lt hj⟩ (by omega) (by simp) (by rw [hget_at rfl]; rfl) (by simp [flat])
  by_cases k6 : d = [97, 117, 100, 105, 111]
  · subst k6
    have hl : chainL [97, 117, 100, 105, 111] = [[109, 101, 100, 105, 97, 45, 115, 114, 99], [100, 101, 102, 97, 117, 108, 116, 45, 115, 114, 99]] := by kernel_rfl
    simp -implicitDefEqProofs [go_sem, Tryz.f13, hl, sts]
    exact Trim.sl ⟨by simp, fun j hj => hget_lt hj⟩ (by omega) (by simp) (by rw [hget_at rfl]; rfl) (by simp [flat])
  by_cases k7 : d = [118, 105, 100, 101, 111]
  · subst k7
    have hl : chainL [118, 105, 100, 101, 111] = [[109, 101, 100, 105, 97, 45, 115, 114, 99], [100, 101, 102, 97, 117, 108, 116, 45, 115, 114, 99]] := by kernel_rfl
    simp -implicitDefEqProofs [go_sem, Tryz.f13, hl, sts]
    exact Trim.sl ⟨by simp, fun j hj => hget_lt hj⟩ (by omega) (by simp) (by rw [hget_at rfl]; rfl) (by simp [flat])
  by_cases k8 : d = [116, 114, 97, 99, 107]
  · subst k8
    have hl : chainL [116, 114, 97, 99, 107] = [[109, 101, 100, 105, 97, 45, 115, 114, 99], [100, 101, 102, 97, 117, 108, 116, 45, 115, 114, 99]] := by kernel_rfl
    simp -implicitDefEqProofs [go_sem, Tryz.f13, hl, sts]
    exact Trim.sl ⟨by simp, fun j hj => hget_lt hj⟩ (by omega) (by simp) (by rw [hget_at rfl]; rfl) (by simp [flat])
  by_cases k9 : d = [111, 98, 106, 101, 99, 116]
  · subst k9
    have hl : chainL [111, 98, 106, 101, 99, 116] = [[111, 98, 106, 101, 99, 116, 45, 115, 114, 99], [100, 101, 102, 97, 117, 108, 116, 45, 115, 114, 99]] := by kernel_rfl
    simp -implicitDefEqProofs [go_sem, Tryz.f13, hl, sts]
    exact Trim.sl ⟨by simp, fun j hj => hget_lt hj⟩ (by omega) (by simp) (by rw [hget_at rfl]; rfl) (by simp [flat])
  by_cases k10 : d = [101, 109, 98, 101, 100]
  · subst k10
    have hl : chainL [101, 109, 98, 101, 100] = [[111, 98, 106, 101, 99, 116, 45, 115, 114, 99], [100, 101, 102, 97, 117, 108, 116, 45, 115, 114, 99]] := by kernel_rfl
    simp -implicitDefEqProofs [go_sem, Tryz.f13, hl, sts]
    exact Trim.sl ⟨by simp, fun j hj => hget_lt hj⟩ (by omega) (by simp) (by rw [hget_at rfl]; rfl) (by simp [flat])
  by_cases k11 : d = [102, 114, 97, 109, 101]
  · subst k11
    have hl : chainL [102, 114, 97, 109, 101] = [[102, 114, 97, 109, 101, 45, 115, 114, 99], [99, 104, 105, 108, 100, 45, 115, 114, 99], [100, 101, 102, 97, 117, 108, 116, 45, 115, 114, 99]] := by kernel_rfl
    simp -implicitDefEqProofs [go_sem, Tryz.f13, hl, sts]
    exact Trim.sl ⟨by simp, fun j hj => hget_lt hj⟩ (by omega) (by simp) (by rw [hget_at rfl]; rfl) (by simp [flat])
  by_cases k12 : d = [105, 102, 114, 97, 109, 101]
  · subst k12
    have hl : chainL [105, 102, 114, 97, 109, 101] = [[102, 114, 97, 109, 101, 45, 115, 114, 99], [99, 104, 105, 108, 100, 45, 115, 114, 99], [100, 101, 102, 97, 117, 108, 116, 45, 115, 114, 99]] := by kernel_rfl
    simp -implicitDefEqProofs [go_sem, Tryz.f13, hl, sts]
    exact Trim.sl ⟨by simp, fun j hj => hget_lt hj⟩ (by omega) (by simp) (by rw [hget_at rfl]; rfl) (by simp [flat])
  by_cases k13 : d = [119, 111, 114, 107, 101, 114]
  · subst k13
    have hl : chainL [119, 111, 114, 107, 101, 114] = [[119, 111, 114, 107, 101, 114, 45, 115, 114, 99], [99, 104, 105, 108, 100, 45, 115, 114, 99], [115, 99, 114, 105, 112, 116, 45, 115, 114, 99], [100, 101, 102, 97, 117, 108, 116, 45, 115, 114, 99]] := by kernel_rfl
    simp -implicitDefEqProofs [go_sem, Tryz.f13, hl, sts]
    exact Trim.sl ⟨by simp, fun j hj => hget_lt hj⟩ (by omega) (by simp) (by rw [hget_at rfl]; rfl) (by simp [flat])
  by_cases k14 : d = [115, 104, 97, 114, 101, 100, 119, 111, 114, 107, 101, 114]
  · subst k14
    have hl : chainL [115, 104, 97, 114, 101, 100, 119, 111, 114, 107, 101, 114] = [[119, 111, 114, 107, 101, 114, 45, 115, 114, 99], [99, 104, 105, 108, 100, 45, 115, 114, 99], [115, 99, 114, 105, 112, 116, 45, 115, 114, 99], [100, 101, 102, 97, 117, 108, 116, 45, 115, 114, 99]] := by kernel_rfl
    simp -implicitDefEqProofs [go_sem, Tryz.f13, hl, sts]
    exact Trim.sl ⟨by simp, fun j hj => hget_lt hj⟩ (by omega) (by simp) (by rw [hget_at rfl]; rfl) (by simp [flat])
  by_cases k15 : d = [115, 101, 114, 118, 105, 99, 101, 119, 111, 114, 107, 101, 114]
  · subst k15
    have hl : chainL [115, 101, 114, 118, 105, 99, 101, 119, 111, 114, 107, 101, 114] = [[119, 111, 114, 107, 101, 114, 45, 115, 114, 99], [99, 104, 105, 108, 100, 45, 115, 114, 99], [115, 99, 114, 105, 112, 116, 45, 115, 114, 99], [100, 101, 102, 97, 117, 108, 116, 45, 115, 114, 99]] := by kernel_rfl
    simp -implicitDefEqProofs [go_sem, Tryz.f13, hl, sts]
    exact Trim.sl ⟨by simp, fun j hj => hget_lt hj⟩ (by omega) (by simp) (by rw [hget_at rfl]; rfl) (by simp [flat])
  have hl : chainL d = [] := by simp [chainL, k0, k1, k2, k3, k4, k5, k6, k7, k8, k9, k10, k11, k12, k13, k14, k15]
  simp -implicitDefEqProofs [go_sem, Tryz.f13, hl, k0, k1, k2, k3, k4, k5, k6, k7, k8, k9, k10, k11, k12, k13, k14, k15, k0']
  exact Trim.sl ⟨by simp, fun j hj => hget_lt hj⟩ (by omega) (by simp) (by rw [hget_at rfl]; rfl) (sts_flat _)
def RFindV (h1 : Heap) (v : V) : Option Dr → Prop
  | none => v = .tup [.agg [.s [], .c (.slice none 0 0)], .b false]
  | some d => ∃ u, v = .tup [.agg [.s d.1, u], .b true] ∧ dirAt h1 d u
noncomputable def rFindC : Ct := rct (ctm [] Tryz.prog G0 []) 12 2
theorem rFind_ok : CtOk Tryz.prog G0 12 rFindC := rct_ok (l := []) fol sound_nil [] (by kernel_rfl)
theorem rFind_rc {args : List V} {h : Heap} {Q : V → Heap → Prop} {c : Code} (hb : Tryz.f12.body = some c) (hn : args.length = 2) (hr : Run (ctm [] Tryz.prog G0 []) (Fini (ctm [] Tryz.prog G0 []) Tryz.f12.results.toList Q) [.c c] args h) : ∃ v h', rFindC args h = some (v, h') ∧ Q v h' := rct_run [] Tryz.func12 hb hn hr
theorem rFind_go {h : Heap} {b st : Nat} {x : Bool} {c : List V} {ds : List Dr} {bn on : Nat} {names : List (List Int)} (hb : hget h b = ⟨st + 1, x, c⟩) (hd : drs h ds c) (hn : ds.length ≤ 1048577) (hs : strsAt h bn on names.length = some names) (hm : names.length ≤ 1048577) :
    ∃ v h1, rFindC [.sl b 0 ds.length 2, .sl bn on names.length 1] h = some (v, h1) ∧ Ext h h1 ∧ RFindV h1 v (findL ds names) := by
  refine rFind_rc rfl rfl ?_
  obtain ⟨st2, x2, c2, hg2, hld2, _, hc2⟩ := strsAt_eq hs
  have hbl := alive hb
  have hbn := alive hg2
  have hv0 : (Value.slice none 0 0).oneCell' = true := rfl
  have hE0 : Ext h (h ++ [⟨2, true, [.s [], .c (.slice none 0 0)]⟩]) := (Ext.refl h).app _
  simp -implicitDefEqProofs [go_sem, Tryz.f12]
  refine run_inv _ _ _ _ _ (fun (i : Nat) t h1 => i ≤ names.length ∧ get t 0 = .sl b 0 ds.length 2 ∧ get t 1 = .sl bn on names.length 1 ∧ get t 6 = .i .i64 i ∧ get t 4 = .p h.length 0 ∧ h1 = h ++ [⟨2, true, [.s [], .c (.slice none 0 0)]⟩] ∧ findL ds (names.drop i) = findL ds names) (fun i => names.length - i) _ (x := 0) ⟨by simp, rfl, rfl, rfl, rfl, rfl, by simp⟩ ?_
  rintro i t h1 ⟨hi, t0, t1, t6, t4, hh, hf⟩ ih
  have hi6 : i < 1152921504606846976 := by omega
  have hb1 : hget h1 b = ⟨st + 1, x, c⟩ := by rw [hh, hget_lt hbl]; exact hb
  have hbn1 : hget h1 bn = ⟨st2 + 1, x2, c2⟩ := by rw [hh, hget_lt hbn]; exact hg2
  have hg0 : hget h1 h.length = ⟨2, true, [.s [], .c (.slice none 0 0)]⟩ := by rw [hh, hget_at0 rfl]; rfl
  have hl1 : h.length < h1.length := by rw [hh]; simp
  have hE : Ext h h1 := by rw [hh]; exact hE0
  by_cases hlt : i < names.length
  · have hc2 := hc2 i hlt
    obtain ⟨nm, hnm⟩ : ∃ nm, names[i] = nm := ⟨_, rfl⟩
    rw [hnm] at hc2
    rw [List.drop_eq_getElem_cons hlt, hnm, findL_cons] at hf
    simp -implicitDefEqProofs [go_sem, Tryz.f12, t0, t1, t6, t4, hlt]
    refine run_inv _ _ _ _ _ (fun (j : Nat) t h2 => j ≤ ds.length ∧ get t 0 = .sl b 0 ds.length 2 ∧ get t 1 = .sl bn on names.length 1 ∧ get t 6 = .i .i64 i ∧ get t 4 = .p h.length 0 ∧ get t 7 = .i .i64 j ∧ h2 = h1 ∧ ∀ j' (hj : j' < j) (hj2 : j' < ds.length), ds[j'].1 ≠ nm) (fun j => ds.length - j) _ (x := 0) ⟨by simp, by simp -implicitDefEqProofs [go_sem, t0], by simp -implicitDefEqProofs [go_sem, t1], by simp -implicitDefEqProofs [go_sem, t6], by simp -implicitDefEqProofs [go_sem, t4], by simp -implicitDefEqProofs [go_sem], rfl, by simp⟩ ?_
    rintro j t h2 ⟨hj, t0, t1, t6, t4, t7, rfl, hno⟩ ih2
    by_cases hjt : j < ds.length
    · obtain ⟨v, hl2, hl1', hdv⟩ := drs_get hjt hd
      have hdv' := hdv
      obtain ⟨b', o', hv, _⟩ := hdv'
      have hb2 : ldN c (j * 2) 1 = some [.s ds[j].1] := hl1'
      by_cases c1 : ds[j].1 = nm
      · have hfd : ds.find? (fun d => d.1 == nm) = some ds[j] := by
          rw [List.find?_eq_some_iff_getElem]
          exact ⟨by simp [c1], j, hjt, rfl, fun k hk => by simpa using hno k hk (by omega)⟩
        rw [hfd] at hf
        simp only at hf
        rw [c1] at hb2 hl2
        simp -implicitDefEqProofs [go_sem, Tryz.f12, t0, t1, t6, t4, t7, hlt, hjt, hb1, hb2, hl2, hbn1, hc2, hv, hg0, hl1, ← hf, RFindV, c1]
        exact ⟨hE.set (Nat.le_refl _) _, dirAt_ext (hE.set (Nat.le_refl _) _) (hv ▸ hdv)⟩
      · simp -implicitDefEqProofs [go_sem, Tryz.f12, t0, t1, t6, t4, t7, hlt, hjt, hb1, hb2, hbn1, hc2, c1]
        refine ih2 (j + 1) _ _ (by omega) ⟨by omega, ?_⟩
        simp -implicitDefEqProofs [go_sem, t0, t1, t6, t4, t7, i64_n (show j < 1152921504606846976 by omega)]
        intro k hk hk2
        by_cases e : k = j
        · subst e; exact c1
        · exact hno k (by omega) hk2
    · have hfd : ds.find? (fun d => d.1 == nm) = none := by
        rw [List.find?_eq_none]
        intro d hd
        obtain ⟨k, hk1, rfl⟩ := List.getElem_of_mem hd
        simpa using hno k (by omega) hk1
      rw [hfd] at hf
      simp only at hf
      simp -implicitDefEqProofs [go_sem, Tryz.f12, t0, t1, t6, t4, t7, hjt]
      refine ih (i + 1) _ _ (by omega) ⟨by omega, ?_⟩
      simp -implicitDefEqProofs [go_sem, t0, t1, t6, t4, i64_n hi6, hf, hh]
  · have e0 : names.drop i = [] := List.drop_eq_nil_of_le (by omega)
    rw [e0] at hf
    simp -implicitDefEqProofs [go_sem, Tryz.f12, t0, t1, t6, t4, hlt, hg0, hl1, ← hf, findL, RFindV, hv0]
    exact hE.set (Nat.le_refl _) _
end GoD

/-! Policies as the document reads them. -/
namespace GoD
open Go Go.Proofs
set_option linter.unusedVariables false
set_option linter.unusedSimpArgs false
set_option maxHeartbeats 4000000
set_option maxRecDepth 100000
noncomputable def rCspC : Ct := rct (ctm [(8, [0, 1, 2, 3, 4, 5, 6, 7, 8], [37])] Tryz.prog G0 [(24, rSplitC), (25, rBlanksC), (26, rAsciiC), (27, rLowerC), (12, rFindC)]) 10 1
theorem rCsp_ok : CtOk Tryz.prog G0 10 rCspC := rct_ok (l := [(24, rSplitC), (25, rBlanksC), (26, rAsciiC), (27, rLowerC), (12, rFindC)]) fol (sound_cons rSplit_ok (sound_cons rBlanks_ok (sound_cons rAscii_ok (sound_cons rLower_ok (sound_cons rFind_ok sound_nil))))) [(8, [0, 1, 2, 3, 4, 5, 6, 7, 8], [37])] (by kernel_rfl)
theorem rCsp_rc {args : List V} {h : Heap} {Q : V → Heap → Prop} {c : Code} (hb : Tryz.f10.body = some c) (hn : args.length = 1) (hr : Run (ctm [(8, [0, 1, 2, 3, 4, 5, 6, 7, 8], [37])] Tryz.prog G0 [(24, rSplitC), (25, rBlanksC), (26, rAsciiC), (27, rLowerC), (12, rFindC)]) (Fini (ctm [(8, [0, 1, 2, 3, 4, 5, 6, 7, 8], [37])] Tryz.prog G0 [(24, rSplitC), (25, rBlanksC), (26, rAsciiC), (27, rLowerC), (12, rFindC)]) Tryz.f10.results.toList Q) [.c c] args h) : ∃ v h', rCspC args h = some (v, h') ∧ Q v h' := rct_run [(8, [0, 1, 2, 3, 4, 5, 6, 7, 8], [37])] Tryz.func10 hb hn hr
theorem rCsp_go {h : Heap} {l : List Int} (hl : l.length ≤ 1048576) :
    ∃ v h1, rCspC [.s l] h = some (v, h1) ∧ Ext h h1 ∧ ∃ b c, v = .sl b 0 (cspL l).length 2 ∧ hget h1 b = ⟨2, false, c⟩ ∧ drs h1 (cspL l) c := by
  refine rCsp_rc rfl rfl ?_
  obtain ⟨y, hy⟩ : ∃ y, splitL 59 l = y := ⟨_, rfl⟩
  have hyn : y.length ≤ 1048577 := by have := splitL_len 59 l; rw [hy] at this; omega
  have hym : ∀ p ∈ y, p.length ≤ l.length := fun p hp => splitL_mem (c := 59) (hy ▸ hp)
  have hres : cspL l = y.foldl cspStep [] := by unfold cspL; rw [hy]
  rw [hres]
  simp -implicitDefEqProofs [go_sem, Tryz.f10, rSplitC, hl, hy]
  refine run_inv _ _ _ _ _ (fun (x : Nat × Nat) t h1 => x.1 ≤ y.length ∧ get t 3 = .sl x.2 0 ((y.take x.1).foldl cspStep []).length 2 ∧ get t 4 = .sl (h.length + 2) 0 y.length 1 ∧ get t 5 = .i .i64 x.1 ∧ hget h1 (h.length + 2) = ⟨2, false, sts y⟩ ∧ h.length ≤ x.2 ∧ x.2 < h1.length ∧ x.2 ≠ h.length + 2 ∧ Ext h h1 ∧ ∃ c, hget h1 x.2 = ⟨2, false, c⟩ ∧ drs (h1.set x.2 dead) ((y.take x.1).foldl cspStep []) c) (fun x => y.length - x.1) _ (x := (0, h.length + 1)) ⟨by simp, rfl, rfl, rfl, by rw [hget_at rfl]; rfl, by simp, by simp, by simp, ⟨by simp, fun j hj => hget_lt hj⟩, [], by rw [hget_at rfl]; rfl, rfl⟩ ?_
  rintro ⟨i, m⟩ t h1 ⟨hi, t3, t4, t5, hgy, hm, hm', hmn, hE, c, hgm, hd⟩ ih
  simp only at hi t3 t4 t5 hm hm' hmn hgm hd
  have hi6 : i < 1152921504606846976 := by omega
  have hny : ¬ h.length + 2 = h1.length := by have := alive hgy; omega
  obtain ⟨hB, hBl⟩ := cspF_B (N := l.length) (y := y.take i) (acc := []) (fun p hp => hym p (List.mem_of_mem_take hp)) (by simp)
  simp at hBl
  obtain ⟨ds, hds⟩ : ∃ ds, (y.take i).foldl cspStep [] = ds := ⟨_, rfl⟩
  rw [hds] at t3 hd hB hBl
  by_cases hlt : i < y.length
  · obtain ⟨p, hp⟩ : ∃ p, y[i] = p := ⟨_, rfl⟩
    have hpl : p.length ≤ 1048576 := by have := hym p (hp ▸ List.getElem_mem hlt); omega
    have hc := (sts_get hlt : ldN (sts y) i 1 = _)
    rw [hp] at hc
    have hD : (y.take (i + 1)).foldl cspStep [] = cspStep ds p := by rw [List.take_succ_eq_append_getElem hlt, List.foldl_append, hds, hp]; rfl
    have hE1 := hE.app [⟨2, false, sts (blanksL p)⟩]
    have skip : cspStep ds p = ds → ∀ t' (h2 : Heap), Ext h1 h2 → get t' 3 = .sl m 0 ds.length 2 → get t' 4 = .sl (h.length + 2) 0 y.length 1 → get t' 5 = .i .i64 ((i + 1 : Nat) : Int) → _ := fun e t' h2 hE2 a b d => ih (i + 1, m) t' h2 (by simp; omega) ⟨by simp; omega, by simp only; rw [hD, e]; exact a, b, d, by rw [hE2.2 _ (by have := alive hgy; omega)]; exact hgy, hm, by have := hE2.1; simp only; omega, hmn, hE.trans hE2, c, by simp only; rw [hE2.2 _ hm']; exact hgm, by simp only; rw [hD, e]; exact drs_ext (ext_kill hE2 m) hd⟩
    cases c1 : asciiB p with
    | false =>
      have e : cspStep ds p = ds := by unfold cspStep; rw [if_pos (.inl c1)]
      simp -implicitDefEqProofs [go_sem, Tryz.f10, t3, t4, t5, hlt, hgy, hny, hc, rBlanksC, hpl, rAsciiC, c1]
      refine skip e _ _ ((Ext.refl h1).app _) ?_ ?_ ?_ <;> simp -implicitDefEqProofs [go_sem, t3, t4, t5, i64_n hi6]
    | true =>
      by_cases c2 : blanksL p = []
      · have e : cspStep ds p = ds := by unfold cspStep; rw [if_pos (.inr c2)]
        simp -implicitDefEqProofs [go_sem, Tryz.f10, t3, t4, t5, hlt, hgy, hny, hc, rBlanksC, hpl, rAsciiC, c1, c2]
        refine skip e _ _ ((Ext.refl h1).app _) ?_ ?_ ?_ <;> simp -implicitDefEqProofs [go_sem, t3, t4, t5, i64_n hi6]
      · obtain ⟨k, q, hkq⟩ : ∃ k q, blanksL p = k :: q := by
          cases hb : blanksL p with
          | nil => exact absurd hb c2
          | cons k q => exact ⟨k, q, rfl⟩
        have hst : cspStep ds p = if (ds.any fun d => d.1 == lowerL k) = true then ds else ds ++ [(lowerL k, q)] := by
          unfold cspStep; rw [if_neg (by simp [c1, c2]), hkq]; rfl
        have hq0 : ¬ ((q.length : Int) + 1 = 0) := by omega
        have ld0 : ldN (sts (k :: q)) 0 1 = some [.s k] := rfl
        have hkl : k.length ≤ 1048576 := by
          have := blanksG_mem (l := p) (cur := []) (s := k) (by show k ∈ blanksL p; rw [hkq]; simp)
          simp at this; omega
        have hEH : Ext h1 (h1 ++ [⟨2, false, sts (k :: q)⟩, ⟨2, true, [.s (lowerL k), .sl h1.length 1 q.length 1]⟩, ⟨2, true, [.s (lowerL k)]⟩]) := (Ext.refl h1).app _
        obtain ⟨v, h2, hF, hE2, hv⟩ := rFind_go (h := h1 ++ [⟨2, false, sts (k :: q)⟩, ⟨2, true, [.s (lowerL k), .sl h1.length 1 q.length 1]⟩, ⟨2, true, [.s (lowerL k)]⟩]) (b := m) (st := 1) (x := false) (c := c) (ds := ds) (bn := h1.length + 2) (on := 0) (names := [lowerL k]) (by rw [hget_lt hm']; exact hgm) (drs_ext hEH (drs_unkill hd)) (by omega) (by unfold strsAt; rw [hget_at rfl]; rfl) (by simp)
        have hE12 : Ext h1 h2 := hEH.trans hE2
        have hgm2 : hget h2 m = ⟨2, false, c⟩ := by rw [hE12.2 m hm']; exact hgm
        have hl2 : h1.length + 3 ≤ h2.length := by have := hE2.1; simpa using this
        have hgk : hget h2 h1.length = ⟨2, false, sts (k :: q)⟩ := by rw [hE2.2 _ (by simp), hget_at0 rfl]; rfl
        have hg7 : hget h2 (h1.length + 1) = ⟨2, true, [.s (lowerL k), .sl h1.length 1 q.length 1]⟩ := by rw [hE2.2 _ (by simp), hget_at rfl]; rfl
        have hn7 : ¬ h1.length + 1 = h2.length := by omega
        have hq1 : (1 : Int) ≤ (q.length : Int) + 1 := by omega
        have hv0 : (Value.slice none 0 0).oneCell' = true := rfl
        simp only [List.length_singleton] at hF
        cases hfd : findL ds [lowerL k] with
        | some d =>
          have e : cspStep ds p = ds := by
            rw [hst, if_pos]
            cases ha : ds.any fun d => d.1 == lowerL k with
            | true => rfl
            | false => rw [find_any.2 ha] at hfd; cases hfd
          rw [hfd] at hv
          obtain ⟨u, rfl, b', o', rfl, _⟩ := hv
          simp -implicitDefEqProofs [go_sem, Tryz.f10, t3, t4, t5, hlt, hgy, hny, hc, rBlanksC, hpl, rAsciiC, c1, hkq, rLowerC, hq0, hq1, ld0, hkl, hF]
          refine skip e _ _ (hE12.app _) ?_ ?_ ?_ <;> simp -implicitDefEqProofs [go_sem, t3, t4, t5, i64_n hi6]
        | none =>
          have e : cspStep ds p = ds ++ [(lowerL k, q)] := by rw [hst, if_neg (by rw [find_any.1 hfd]; simp)]
          rw [hfd] at hv
          obtain rfl := hv
          have hcl := drs_len hd
          have hco := drs_one hd
          have hq1 : (1 : Int) ≤ (q.length : Int) + 1 := by omega
          have hm2 : m < h2.length := by omega
          have ldc : ldN c 0 (ds.length * 2) = some c := by unfold ldN; rw [if_pos (by omega), List.drop_zero, List.take_of_length_le (by omega)]
          have e40 : (ds.length + 1) * 40 ≤ 1099511627776 := by omega
          have hmk : ¬ m = h2.length := by omega
          have hmk' : ¬ m = h2.length + 1 := by omega
          simp -implicitDefEqProofs [go_sem, Tryz.f10, t3, t4, t5, hlt, hgy, hny, hc, rBlanksC, hpl, rAsciiC, c1, hkq, rLowerC, hq0, ld0, hkl, hF, hv0, hgm2, hq1, hg7, hn7, hm2, ldc, e40, hmk, hmk']
          have hE3 : Ext h (h2.set m dead ++ [⟨2, true, [.s [], .c (.slice none 0 0)]⟩, ⟨2, true, [.s (lowerL k), .sl h1.length 1 q.length 1]⟩, ⟨2, false, c ++ [.s (lowerL k), .sl h1.length 1 q.length 1]⟩]) := ((hE.trans hE12).set hm dead).app _
          have hne : m ≠ h1.length := by omega
          have look3 : ∀ (l : Heap) j b, j < h2.length → m ≠ j → hget h2 j = b → hget (h2.set m dead ++ l) j = b := fun l j b h1 h2 h3 => by
            rw [hget_lt (by simpa using h1), hget_set, if_neg fun e => h2 e.1]; exact h3
          have hdir : ∀ l : Heap, dirAt (h2.set m dead ++ l) (lowerL k, q) (.sl h1.length 1 q.length 1) := fun l => by
            have hg3 := look3 l h1.length _ (by omega) hne hgk
            refine ⟨h1.length, 1, rfl, ?_, ?_⟩
            · unfold strsAt
              rw [hg3]
              have : ldN (sts (k :: q)) 1 q.length = some (sts q) := by
                unfold ldN
                rw [if_pos (by simp [sts]; omega)]
                simp [sts, List.take_of_length_le]
              simp only [this, strsV_map]
            · unfold hasC
              rw [hg3]; rfl
          refine ih (i + 1, h2.length + 2) _ _ (by simp; omega) ⟨by simp; omega, ?_, ?_, ?_, ?_, ?_, ?_, ?_, hE3, c ++ [.s (lowerL k), .sl h1.length 1 q.length 1], ?_, ?_⟩
          · simp only; rw [hD, e]; simp -implicitDefEqProofs [go_sem]
          · simp -implicitDefEqProofs [go_sem, t4]
          · simp -implicitDefEqProofs [go_sem, t5, i64_n hi6]
          · exact look3 _ _ _ (by have := alive hgy; have := hE12.1; omega) hmn (by rw [hE12.2 _ (alive hgy)]; exact hgy)
          · simp only; have := hE.1; omega
          · simp
          · simp only; have := hE.1; omega
          · simp only
            have : (h2.set m dead).length = h2.length := by simp
            rw [hget_at this]; rfl
          · simp only; rw [hD, e]
            have : (h2.set m dead).length = h2.length := by simp
            rw [List.set_append_right _ _ (by simp), this, show h2.length + 2 - h2.length = 2 by omega]
            exact drs_snoc (hdir _) (drs_ext ((ext_kill hE12 m).trans ((Ext.refl _).app _)) hd)
  · have e : i = y.length := by omega
    subst e
    rw [List.take_length] at hds
    simp -implicitDefEqProofs [go_sem, Tryz.f10, t3, t4, t5, hds, hE]
    exact ⟨c, hgm, drs_unkill hd⟩
end GoD
