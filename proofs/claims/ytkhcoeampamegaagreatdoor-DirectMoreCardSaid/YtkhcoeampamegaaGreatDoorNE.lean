import Derived.Test.YtkhcoeampamegaaGreatDoorNC
/-! Which directive decides, as the program answers it. -/
namespace GoD
open Go Go.Proofs
set_option linter.unusedVariables false
set_option linter.unusedSimpArgs false
set_option maxHeartbeats 4000000
set_option maxRecDepth 100000

def dfltT : List Int := [100, 101, 102, 97, 117, 108, 116, 45, 115, 114, 99]
def chainL (d : List Int) : List (List Int) :=
  if d = [] then [[99, 111, 110, 110, 101, 99, 116, 45, 115, 114, 99], [100, 101, 102, 97, 117, 108, 116, 45, 115, 114, 99]]
  else if d = [115, 99, 114, 105, 112, 116] then [[115, 99, 114, 105, 112, 116, 45, 115, 114, 99, 45, 101, 108, 101, 109], [115, 99, 114, 105, 112, 116, 45, 115, 114, 99], [100, 101, 102, 97, 117, 108, 116, 45, 115, 114, 99]]
  else if d = [115, 116, 121, 108, 101] then [[115, 116, 121, 108, 101, 45, 115, 114, 99, 45, 101, 108, 101, 109], [115, 116, 121, 108, 101, 45, 115, 114, 99], [100, 101, 102, 97, 117, 108, 116, 45, 115, 114, 99]]
  else if d = [105, 109, 97, 103, 101] then [[105, 109, 103, 45, 115, 114, 99], [100, 101, 102, 97, 117, 108, 116, 45, 115, 114, 99]]
  else if d = [102, 111, 110, 116] then [[102, 111, 110, 116, 45, 115, 114, 99], [100, 101, 102, 97, 117, 108, 116, 45, 115, 114, 99]]
  else if d = [109, 97, 110, 105, 102, 101, 115, 116] then [[109, 97, 110, 105, 102, 101, 115, 116, 45, 115, 114, 99], [100, 101, 102, 97, 117, 108, 116, 45, 115, 114, 99]]
  else if d = [97, 117, 100, 105, 111] ∨ d = [118, 105, 100, 101, 111] ∨ d = [116, 114, 97, 99, 107] then [[109, 101, 100, 105, 97, 45, 115, 114, 99], [100, 101, 102, 97, 117, 108, 116, 45, 115, 114, 99]]
  else if d = [111, 98, 106, 101, 99, 116] ∨ d = [101, 109, 98, 101, 100] then [[111, 98, 106, 101, 99, 116, 45, 115, 114, 99], [100, 101, 102, 97, 117, 108, 116, 45, 115, 114, 99]]
  else if d = [102, 114, 97, 109, 101] ∨ d = [105, 102, 114, 97, 109, 101] then [[102, 114, 97, 109, 101, 45, 115, 114, 99], [99, 104, 105, 108, 100, 45, 115, 114, 99], [100, 101, 102, 97, 117, 108, 116, 45, 115, 114, 99]]
  else if d = [119, 111, 114, 107, 101, 114] ∨ d = [115, 104, 97, 114, 101, 100, 119, 111, 114, 107, 101, 114] ∨ d = [115, 101, 114, 118, 105, 99, 101, 119, 111, 114, 107, 101, 114] then [[119, 111, 114, 107, 101, 114, 45, 115, 114, 99], [99, 104, 105, 108, 100, 45, 115, 114, 99], [115, 99, 114, 105, 112, 116, 45, 115, 114, 99], [100, 101, 102, 97, 117, 108, 116, 45, 115, 114, 99]]
  else []
noncomputable def pchainC : Ct := rct (ctm [] Tryz.prog G0 []) 29 1
theorem pchain_ok : CtOk Tryz.prog G0 29 pchainC := rct_ok (l := []) fol sound_nil [] (by kernel_rfl)
theorem pchain_rc {args : List V} {h : Heap} {Q : V → Heap → Prop} {c : Code} (hb : Tryz.f29.body = some c) (hn : args.length = 1) (hr : Run (ctm [] Tryz.prog G0 []) (Fini (ctm [] Tryz.prog G0 []) Tryz.f29.results.toList Q) [.c c] args h) : ∃ v h', pchainC args h = some (v, h') ∧ Q v h' := rct_run [] Tryz.func29 hb hn hr
theorem pchain_go {h : Heap} {y : List (List Int)} {b : Nat} (hg : hget h b = ⟨2, true, sts y⟩) (hn : y.length ≤ 1000) : pchainC [.sl b 0 y.length 1] h = some (.sl (h.length + 2) 0 (y.length + 1) 1, (h ++ [⟨2, false, []⟩, ⟨2, true, [.s dfltT]⟩] : Heap).set b dead ++ [⟨2, false, sts (y ++ [dfltT])⟩]) := by
  have hb := alive hg
  have e1 : (y.length + 1) * 16 ≤ 1099511627776 := by omega
  have e2 : ¬ b = h.length := by omega
  have e3 : ¬ b = h.length + 1 := by omega
  have e4 : ldN (sts y) 0 y.length = some (sts y) := ldN_sts y
  obtain ⟨v, h1, e, rfl, rfl⟩ := pchain_rc (args := [.sl b 0 y.length 1]) (h := h) (Q := fun v h1 => v = .sl (h.length + 2) 0 (y.length + 1) 1 ∧ h1 = (h ++ [⟨2, false, []⟩, ⟨2, true, [.s dfltT]⟩] : Heap).set b dead ++ [⟨2, false, sts (y ++ [dfltT])⟩]) rfl rfl (by
    simp -implicitDefEqProofs [go_sem, Tryz.f29, hg, hget_lt hb, e1, e2, e3, e4, dfltT, hb])
  exact e
def pDChainC : Ct := fun args h => match args with | [.s d] => some (.sl h.length 0 (chainL d).length 1, h ++ [⟨2, false, sts (chainL d)⟩]) | _ => none
theorem pDChain_ok : CtOk Tryz.prog G0 15 pDChainC := by
  refine ct_run (n := 1) fol (sound_cons pchain_ok sound_nil) (by kernel_rfl) Tryz.func15 rfl fun args h v h' hc r xs H hr hx => ?_
  unfold pDChainC at hc; split at hc <;> (try split at hc) <;> cases hc
  rename_i d
  refine ⟨rfl, ?_⟩
  by_cases k0 : d = []
  · subst k0
    have hc := pchain_go (h := h ++ [⟨2, false, []⟩, ⟨2, true, [.s [99, 111, 110, 110, 101, 99, 116, 45, 115, 114, 99]]⟩]) (y := [[99, 111, 110, 110, 101, 99, 116, 45, 115, 114, 99]]) (b := h.length + 1) (by rw [hget_at rfl]; rfl) (by simp)
    have hl : chainL [] = [[99, 111, 110, 110, 101, 99, 116, 45, 115, 114, 99], [100, 101, 102, 97, 117, 108, 116, 45, 115, 114, 99]] := by kernel_rfl
    simp only [List.length_cons, List.length_nil, List.length_append, Nat.zero_add, Nat.reduceAdd, List.cons_append, List.nil_append, List.append_assoc] at hc
    simp -implicitDefEqProofs [go_sem, Tryz.f15, hc, hl, dfltT]
    exact Trim.sl ⟨by simp, fun j hj => hget_lt hj⟩ (by omega) (by simp) (by rw [Nat.add_assoc, hget_at rfl]; rfl) (sts_flat _)
  have k0' : d.isEmpty = false := by cases d <;> simp_all
  by_cases k1 : d = [115, 99, 114, 105, 112, 116]
  · subst k1
    have hc := pchain_go (h := h ++ [⟨2, false, []⟩, ⟨2, true, [.s [115, 99, 114, 105, 112, 116, 45, 115, 114, 99, 45, 101, 108, 101, 109], .s [115, 99, 114, 105, 112, 116, 45, 115, 114, 99]]⟩]) (y := [[115, 99, 114, 105, 112, 116, 45, 115, 114, 99, 45, 101, 108, 101, 109], [115, 99, 114, 105, 112, 116, 45, 115, 114, 99]]) (b := h.length + 1) (by rw [hget_at rfl]; rfl) (by simp)
    have hl : chainL [115, 99, 114, 105, 112, 116] = [[115, 99, 114, 105, 112, 116, 45, 115, 114, 99, 45, 101, 108, 101, 109], [115, 99, 114, 105, 112, 116, 45, 115, 114, 99], [100, 101, 102, 97, 117, 108, 116, 45, 115, 114, 99]] := by kernel_rfl
    simp only [List.length_cons, List.length_nil, List.length_append, Nat.zero_add, Nat.reduceAdd, List.cons_append, List.nil_append, List.append_assoc] at hc
    simp -implicitDefEqProofs [go_sem, Tryz.f15, hc, hl, dfltT]
    exact Trim.sl ⟨by simp, fun j hj => hget_lt hj⟩ (by omega) (by simp) (by rw [Nat.add_assoc, hget_at rfl]; rfl) (sts_flat _)
  by_cases k2 : d = [115, 116, 121, 108, 101]
  · subst k2
    have hc := pchain_go (h := h ++ [⟨2, false, []⟩, ⟨2, true, [.s [115, 116, 121, 108, 101, 45, 115, 114, 99, 45, 101, 108, 101, 109], .s [115, 116, 121, 108, 101, 45, 115, 114, 99]]⟩]) (y := [[115, 116, 121, 108, 101, 45, 115, 114, 99, 45, 101, 108, 101, 109], [115, 116, 121, 108, 101, 45, 115, 114, 99]]) (b := h.length + 1) (by rw [hget_at rfl]; rfl) (by simp)
    have hl : chainL [115, 116, 121, 108, 101] = [[115, 116, 121, 108, 101, 45, 115, 114, 99, 45, 101, 108, 101, 109], [115, 116, 121, 108, 101, 45, 115, 114, 99], [100, 101, 102, 97, 117, 108, 116, 45, 115, 114, 99]] := by kernel_rfl
    simp only [List.length_cons, List.length_nil, List.length_append, Nat.zero_add, Nat.reduceAdd, List.cons_append, List.nil_append, List.append_assoc] at hc
    simp -implicitDefEqProofs [go_sem, Tryz.f15, hc, hl, dfltT]
    exact Trim.sl ⟨by simp, fun j hj => hget_lt hj⟩ (by omega) (by simp) (by rw [Nat.add_assoc, hget_at rfl]; rfl) (sts_flat _)
  by_cases k3 : d = [105, 109, 97, 103, 101]
  · subst k3
    have hc := pchain_go (h := h ++ [⟨2, false, []⟩, ⟨2, true, [.s [105, 109, 103, 45, 115, 114, 99]]⟩]) (y := [[105, 109, 103, 45, 115, 114, 99]]) (b := h.length + 1) (by rw [hget_at rfl]; rfl) (by simp)
    have hl : chainL [105, 109, 97, 103, 101] = [[105, 109, 103, 45, 115, 114, 99], [100, 101, 102, 97, 117, 108, 116, 45, 115, 114, 99]] := by kernel_rfl
    simp only [List.length_cons, List.length_nil, List.length_append, Nat.zero_add, Nat.reduceAdd, List.cons_append, List.nil_append, List.append_assoc] at hc
    simp -implicitDefEqProofs [go_sem, Tryz.f15, hc, hl, dfltT]
    exact Trim.sl ⟨by simp, fun j hj => hget_lt hj⟩ (by omega) (by simp) (by rw [Nat.add_assoc, hget_at rfl]; rfl) (sts_flat _)
  by_cases k4 : d = [102, 111, 110, 116]
  · subst k4
    have hc := pchain_go (h := h ++ [⟨2, false, []⟩, ⟨2, true, [.s [102, 111, 110, 116, 45, 115, 114, 99]]⟩]) (y := [[102, 111, 110, 116, 45, 115, 114, 99]]) (b := h.length + 1) (by rw [hget_at rfl]; rfl) (by simp)
    have hl : chainL [102, 111, 110, 116] = [[102, 111, 110, 116, 45, 115, 114, 99], [100, 101, 102, 97, 117, 108, 116, 45, 115, 114, 99]] := by kernel_rfl
    simp only [List.length_cons, List.length_nil, List.length_append, Nat.zero_add, Nat.reduceAdd, List.cons_append, List.nil_append, List.append_assoc] at hc
    simp -implicitDefEqProofs [go_sem, Tryz.f15, hc, hl, dfltT]
    exact Trim.sl ⟨by simp, fun j hj => hget_lt hj⟩ (by omega) (by simp) (by rw [Nat.add_assoc, hget_at rfl]; rfl) (sts_flat _)
  by_cases k5 : d = [109, 97, 110, 105, 102, 101, 115, 116]
  · subst k5
    have hc := pchain_go (h := h ++ [⟨2, false, []⟩, ⟨2, true, [.s [109, 97, 110, 105, 102, 101, 115, 116, 45, 115, 114, 99]]⟩]) (y := [[109, 97, 110, 105, 102, 101, 115, 116, 45, 115, 114, 99]]) (b := h.length + 1) (by rw [hget_at rfl]; rfl) (by simp)
    have hl : chainL [109, 97, 110, 105, 102, 101, 115, 116] = [[109, 97, 110, 105, 102, 101, 115, 116, 45, 115, 114, 99], [100, 101, 102, 97, 117, 108, 116, 45, 115, 114, 99]] := by kernel_rfl
    simp only [List.length_cons, List.length_nil, List.length_append, Nat.zero_add, Nat.reduceAdd, List.cons_append, List.nil_append, List.append_assoc] at hc
    simp -implicitDefEqProofs [go_sem, Tryz.f15, hc, hl, dfltT]
    exact Trim.sl ⟨by simp, fun j hj => hget_lt hj⟩ (by omega) (by simp) (by rw [Nat.add_assoc, hget_at rfl]; rfl) (sts_flat _)
  by_cases k6 : d = [97, 117, 100, 105, 111]
  · subst k6
    have hc := pchain_go (h := h ++ [⟨2, false, []⟩, ⟨2, true, [.s [109, 101, 100, 105, 97, 45, 115, 114, 99]]⟩]) (y := [[109, 101, 100, 105, 97, 45, 115, 114, 99]]) (b := h.length + 1) (by rw [hget_at rfl]; rfl) (by simp)
    have hl : chainL [97, 117, 100, 105, 111] = [[109, 101, 100, 105, 97, 45, 115, 114, 99], [100, 101, 102, 97, 117, 108, 116, 45, 115, 114, 99]] := by kernel_rfl
    simp only [List.length_cons, List.length_nil, List.length_append, Nat.zero_add, Nat.reduceAdd, List.cons_append, List.nil_append, List.append_assoc] at hc
    simp -implicitDefEqProofs [go_sem, Tryz.f15, hc, hl, dfltT]
    exact Trim.sl ⟨by simp, fun j hj => hget_lt hj⟩ (by omega) (by simp) (by rw [Nat.add_assoc, hget_at rfl]; rfl) (sts_flat _)
  by_cases k7 : d = [118, 105, 100, 101, 111]
  · subst k7
    have hc := pchain_go (h := h ++ [⟨2, false, []⟩, ⟨2, true, [.s [109, 101, 100, 105, 97, 45, 115, 114, 99]]⟩]) (y := [[109, 101, 100, 105, 97, 45, 115, 114, 99]]) (b := h.length + 1) (by rw [hget_at rfl]; rfl) (by simp)
    have hl : chainL [118, 105, 100, 101, 111] = [[109, 101, 100, 105, 97, 45, 115, 114, 99], [100, 101, 102, 97, 117, 108, 116, 45, 115, 114, 99]] := by kernel_rfl
    simp only [List.length_cons, List.length_nil, List.length_append, Nat.zero_add, Nat.reduceAdd, List.cons_append, List.nil_append, List.append_assoc] at hc
    simp -implicitDefEqProofs [go_sem, Tryz.f15, hc, hl, dfltT]
    exact Trim.sl ⟨by simp, fun j hj => hget_lt hj⟩ (by omega) (by simp) (by rw [Nat.add_assoc, hget_at rfl]; rfl) (sts_flat _)
  by_cases k8 : d = [116, 114, 97, 99, 107]
  · subst k8
    have hc := pchain_go (h := h ++ [⟨2, false, []⟩, ⟨2, true, [.s [109, 101, 100, 105, 97, 45, 115, 114, 99]]⟩]) (y := [[109, 101, 100, 105, 97, 45, 115, 114, 99]]) (b := h.length + 1) (by rw [hget_at rfl]; rfl) (by simp)
    have hl : chainL [116, 114, 97, 99, 107] = [[109, 101, 100, 105, 97, 45, 115, 114, 99], [100, 101, 102, 97, 117, 108, 116, 45, 115, 114, 99]] := by kernel_rfl
    simp only [List.length_cons, List.length_nil, List.length_append, Nat.zero_add, Nat.reduceAdd, List.cons_append, List.nil_append, List.append_assoc] at hc
    simp -implicitDefEqProofs [go_sem, Tryz.f15, hc, hl, dfltT]
    exact Trim.sl ⟨by simp, fun j hj => hget_lt hj⟩ (by omega) (by simp) (by rw [Nat.add_assoc, hget_at rfl]; rfl) (sts_flat _)
  by_cases k9 : d = [111, 98, 106, 101, 99, 116]
  · subst k9
    have hc := pchain_go (h := h ++ [⟨2, false, []⟩, ⟨2, true, [.s [111, 98, 106, 101, 99, 116, 45, 115, 114, 99]]⟩]) (y := [[111, 98, 106, 101, 99, 116, 45, 115, 114, 99]]) (b := h.length + 1) (by rw [hget_at rfl]; rfl) (by simp)
    have hl : chainL [111, 98, 106, 101, 99, 116] = [[111, 98, 106, 101, 99, 116, 45, 115, 114, 99], [100, 101, 102, 97, 117, 108, 116, 45, 115, 114, 99]] := by kernel_rfl
    simp only [List.length_cons, List.length_nil, List.length_append, Nat.zero_add, Nat.reduceAdd, List.cons_append, List.nil_append, List.append_assoc] at hc
    simp -implicitDefEqProofs [go_sem, Tryz.f15, hc, hl, dfltT]
    exact Trim.sl ⟨by simp, fun j hj => hget_lt hj⟩ (by omega) (by simp) (by rw [Nat.add_assoc, hget_at rfl]; rfl) (sts_flat _)
  by_cases k10 : d = [101, 109, 98, 101, 100]
  · subst k10
    have hc := pchain_go (h := h ++ [⟨2, false, []⟩, ⟨2, true, [.s [111, 98, 106, 101, 99, 116, 45, 115, 114, 99]]⟩]) (y := [[111, 98, 106, 101, 99, 116, 45, 115, 114, 99]]) (b := h.length + 1) (by rw [hget_at rfl]; rfl) (by simp)
    have hl : chainL [101, 109, 98, 101, 100] = [[111, 98, 106, 101, 99, 116, 45, 115, 114, 99], [100, 101, 102, 97, 117, 108, 116, 45, 115, 114, 99]] := by kernel_rfl
    simp only [List.length_cons, List.length_nil, List.length_append, Nat.zero_add, Nat.reduceAdd, List.cons_append, List.nil_append, List.append_assoc] at hc
    simp -implicitDefEqProofs [go_sem, Tryz.f15, hc, hl, dfltT]
    exact Trim.sl ⟨by simp, fun j hj => hget_lt hj⟩ (by omega) (by simp) (by rw [Nat.add_assoc, hget_at rfl]; rfl) (sts_flat _)
  by_cases k11 : d = [102, 114, 97, 109, 101]
  · subst k11
    have hc := pchain_go (h := h ++ [⟨2, false, []⟩, ⟨2, true, [.s [102, 114, 97, 109, 101, 45, 115, 114, 99], .s [99, 104, 105, 108, 100, 45, 115, 114, 99]]⟩]) (y := [[102, 114, 97, 109, 101, 45, 115, 114, 99], [99, 104, 105, 108, 100, 45, 115, 114, 99]]) (b := h.length + 1) (by rw [hget_at rfl]; rfl) (by simp)
    have hl : chainL [102, 114, 97, 109, 101] = [[102, 114, 97, 109, 101, 45, 115, 114, 99], [99, 104, 105, 108, 100, 45, 115, 114, 99], [100, 101, 102, 97, 117, 108, 116, 45, 115, 114, 99]] := by kernel_rfl
    simp only [List.length_cons, List.length_nil, List.length_append, Nat.zero_add, Nat.reduceAdd, List.cons_append, List.nil_append, List.append_assoc] at hc
    simp -implicitDefEqProofs [go_sem, Tryz.f15, hc, hl, dfltT]
    exact Trim.sl ⟨by simp, fun j hj => hget_lt hj⟩ (by omega) (by simp) (by rw [Nat.add_assoc, hget_at rfl]; rfl) (sts_flat _)
  by_cases k12 : d = [105, 102, 114, 97, 109, 101]
  · subst k12
    have hc := pchain_go (h := h ++ [⟨2, false, []⟩, ⟨2, true, [.s [102, 114, 97, 109, 101, 45, 115, 114, 99], .s [99, 104, 105, 108, 100, 45, 115, 114, 99]]⟩]) (y := [[102, 114, 97, 109, 101, 45, 115, 114, 99], [99, 104, 105, 108, 100, 45, 115, 114, 99]]) (b := h.length + 1) (by rw [hget_at rfl]; rfl) (by simp)
    have hl : chainL [105, 102, 114, 97, 109, 101] = [[102, 114, 97, 109, 101, 45, 115, 114, 99], [99, 104, 105, 108, 100, 45, 115, 114, 99], [100, 101, 102, 97, 117, 108, 116, 45, 115, 114, 99]] := by kernel_rfl
    simp only [List.length_cons, List.length_nil, List.length_append, Nat.zero_add, Nat.reduceAdd, List.cons_append, List.nil_append, List.append_assoc] at hc
    simp -implicitDefEqProofs [go_sem, Tryz.f15, hc, hl, dfltT]
    exact Trim.sl ⟨by simp, fun j hj => hget_lt hj⟩ (by omega) (by simp) (by rw [Nat.add_assoc, hget_at rfl]; rfl) (sts_flat _)
  by_cases k13 : d = [119, 111, 114, 107, 101, 114]
  · subst k13
    have hc := pchain_go (h := h ++ [⟨2, false, []⟩, ⟨2, true, [.s [119, 111, 114, 107, 101, 114, 45, 115, 114, 99], .s [99, 104, 105, 108, 100, 45, 115, 114, 99], .s [115, 99, 114, 105, 112, 116, 45, 115, 114, 99]]⟩]) (y := [[119, 111, 114, 107, 101, 114, 45, 115, 114, 99], [99, 104, 105, 108, 100, 45, 115, 114, 99], [115, 99, 114, 105, 112, 116, 45, 115, 114, 99]]) (b := h.length + 1) (by rw [hget_at rfl]; rfl) (by simp)
    have hl : chainL [119, 111, 114, 107, 101, 114] = [[119, 111, 114, 107, 101, 114, 45, 115, 114, 99], [99, 104, 105, 108, 100, 45, 115, 114, 99], [115, 99, 114, 105, 112, 116, 45, 115, 114, 99], [100, 101, 102, 97, 117, 108, 116, 45, 115, 114, 99]] := by kernel_rfl
    simp only [List.length_cons, List.length_nil, List.length_append, Nat.zero_add, Nat.reduceAdd, List.cons_append, List.nil_append, List.append_assoc] at hc
    simp -implicitDefEqProofs [go_sem, Tryz.f15, hc, hl, dfltT]
    exact Trim.sl ⟨by simp, fun j hj => hget_lt hj⟩ (by omega) (by simp) (by rw [Nat.add_assoc, hget_at rfl]; rfl) (sts_flat _)
  by_cases k14 : d = [115, 104, 97, 114, 101, 100, 119, 111, 114, 107, 101, 114]
  · subst k14
    have hc := pchain_go (h := h ++ [⟨2, false, []⟩, ⟨2, true, [.s [119, 111, 114, 107, 101, 114, 45, 115, 114, 99], .s [99, 104, 105, 108, 100, 45, 115, 114, 99], .s [115, 99, 114, 105, 112, 116, 45, 115, 114, 99]]⟩]) (y := [[119, 111, 114, 107, 101, 114, 45, 115, 114, 99], [99, 104, 105, 108, 100, 45, 115, 114, 99], [115, 99, 114, 105, 112, 116, 45, 115, 114, 99]]) (b := h.length + 1) (by rw [hget_at rfl]; rfl) (by simp)
    have hl : chainL [115, 104, 97, 114, 101, 100, 119, 111, 114, 107, 101, 114] = [[119, 111, 114, 107, 101, 114, 45, 115, 114, 99], [99, 104, 105, 108, 100, 45, 115, 114, 99], [115, 99, 114, 105, 112, 116, 45, 115, 114, 99], [100, 101, 102, 97, 117, 108, 116, 45, 115, 114, 99]] := by kernel_rfl
    simp only [List.length_cons, List.length_nil, List.length_append, Nat.zero_add, Nat.reduceAdd, List.cons_append, List.nil_append, List.append_assoc] at hc
    simp -implicitDefEqProofs [go_sem, Tryz.f15, hc, hl, dfltT]
    exact Trim.sl ⟨by simp, fun j hj => hget_lt hj⟩ (by omega) (by simp) (by rw [Nat.add_assoc, hget_at rfl]; rfl) (sts_flat _)
  by_cases k15 : d = [115, 101, 114, 118, 105, 99, 101, 119, 111, 114, 107, 101, 114]
  · subst k15
    have hc := pchain_go (h := h ++ [⟨2, false, []⟩, ⟨2, true, [.s [119, 111, 114, 107, 101, 114, 45, 115, 114, 99], .s [99, 104, 105, 108, 100, 45, 115, 114, 99], .s [115, 99, 114, 105, 112, 116, 45, 115, 114, 99]]⟩]) (y := [[119, 111, 114, 107, 101, 114, 45, 115, 114, 99], [99, 104, 105, 108, 100, 45, 115, 114, 99], [115, 99, 114, 105, 112, 116, 45, 115, 114, 99]]) (b := h.length + 1) (by rw [hget_at rfl]; rfl) (by simp)
    have hl : chainL [115, 101, 114, 118, 105, 99, 101, 119, 111, 114, 107, 101, 114] = [[119, 111, 114, 107, 101, 114, 45, 115, 114, 99], [99, 104, 105, 108, 100, 45, 115, 114, 99], [115, 99, 114, 105, 112, 116, 45, 115, 114, 99], [100, 101, 102, 97, 117, 108, 116, 45, 115, 114, 99]] := by kernel_rfl
    simp only [List.length_cons, List.length_nil, List.length_append, Nat.zero_add, Nat.reduceAdd, List.cons_append, List.nil_append, List.append_assoc] at hc
    simp -implicitDefEqProofs [go_sem, Tryz.f15, hc, hl, dfltT]
    exact Trim.sl ⟨by simp, fun j hj => hget_lt hj⟩ (by omega) (by simp) (by rw [Nat.add_assoc, hget_at rfl]; rfl) (sts_flat _)
  have hl : chainL d = [] := by simp [chainL, k0, k1, k2, k3, k4, k5, k6, k7, k8, k9, k10, k11, k12, k13, k14, k15]
  simp -implicitDefEqProofs [go_sem, Tryz.f15, hl, k0, k1, k2, k3, k4, k5, k6, k7, k8, k9, k10, k11, k12, k13, k14, k15, k0']
  exact Trim.sl ⟨by simp, fun j hj => hget_lt hj⟩ (by omega) (by simp) (by rw [hget_at rfl]; rfl) (sts_flat _)
end GoD

/-! Whether policies allow a fetch, as the program answers it. -/
namespace GoD
open Go Go.Proofs
set_option linter.unusedVariables false
set_option linter.unusedSimpArgs false
set_option maxHeartbeats 4000000
set_option maxRecDepth 100000
theorem chainL_len (d : List Int) : (chainL d).length ≤ 4 := by
  have key : ∀ (p : Prop) [Decidable p] (x y : List (List Int)), x.length ≤ 4 → y.length ≤ 4 → (if p then x else y).length ≤ 4 := fun p _ x y h1 h2 => by split <;> assumption
  unfold chainL
  repeat (refine key _ _ _ (by decide) ?_)
  decide
noncomputable def pDecideC : Ct := rct (ctm [] Tryz.prog G0 [(15, pDChainC), (28, pFindC)]) 11 2
theorem pDecide_ok : CtOk Tryz.prog G0 11 pDecideC := rct_ok (l := [(15, pDChainC), (28, pFindC)]) fol (sound_cons pDChain_ok (sound_cons pFind_ok sound_nil)) [] (by kernel_rfl)
theorem pDecide_rc {args : List V} {h : Heap} {Q : V → Heap → Prop} {c : Code} (hb : Tryz.f11.body = some c) (hn : args.length = 2) (hr : Run (ctm [] Tryz.prog G0 [(15, pDChainC), (28, pFindC)]) (Fini (ctm [] Tryz.prog G0 [(15, pDChainC), (28, pFindC)]) Tryz.f11.results.toList Q) [.c c] args h) : ∃ v h', pDecideC args h = some (v, h') ∧ Q v h' := rct_run [] Tryz.func11 hb hn hr
theorem pDecide_go {h : Heap} {b st : Nat} {x : Bool} {c : List V} {ds : List Dr} {d : List Int} (hb : hget h b = ⟨st + 1, x, c⟩) (hd : drs h ds c) (hn : ds.length ≤ 1048577) (hz : ∀ d ∈ ds, d.2.length ≤ 1048577) :
    ∃ v h1, pDecideC [.sl b 0 ds.length 2, .s d] h = some (v, h1) ∧ Ext h h1 ∧ FindV h.length h1 v (findL ds (chainL d)) := by
  refine pDecide_rc rfl rfl ?_
  have hm := chainL_len d
  have hbl := alive hb
  have hE1 : Ext h (h ++ [⟨2, true, [.s [], .c (.slice none 0 0)]⟩, ⟨2, false, sts (chainL d)⟩]) := (Ext.refl h).app _
  obtain ⟨v, h2, hF, hE2, hv⟩ := pFind_go (h := h ++ [⟨2, true, [.s [], .c (.slice none 0 0)]⟩, ⟨2, false, sts (chainL d)⟩]) (b := b) (st := st) (x := x) (c := c) (ds := ds) (bn := h.length + 1) (on := 0) (names := chainL d) (by rw [hget_lt hbl]; exact hb) (drs_ext hE1 hd) hn (by unfold strsAt; rw [hget_at rfl]; simp only [List.getD_cons_succ, List.getD_cons_zero, ldN_sts, strsV_map]) (by omega) hz
  have hE : Ext h h2 := hE1.trans hE2
  have hg0 : hget h2 h.length = ⟨2, true, [.s [], .c (.slice none 0 0)]⟩ := by rw [hE2.2 _ (by simp), hget_at0 rfl]; rfl
  have hl2 : h.length < h2.length := by have := hE2.1; simp at this; omega
  have hv0 : (Value.slice none 0 0).oneCell' = true := rfl
  cases hf : findL ds (chainL d) with
  | none =>
    rw [hf] at hv
    obtain rfl := hv
    simp -implicitDefEqProofs [go_sem, Tryz.f11, pDChainC, hF, hg0, hl2, hv0, FindV]
    exact hE.set (Nat.le_refl _) _
  | some e =>
    rw [hf] at hv
    obtain ⟨b', hb', rfl, hs⟩ := hv
    have hb' : h.length + 2 ≤ b' := by simpa using hb'
    simp -implicitDefEqProofs [go_sem, Tryz.f11, pDChainC, hF, hg0, hl2, FindV]
    refine ⟨hE.set (Nat.le_refl _) _, b', by omega, rfl, ?_⟩
    unfold strsAt at hs ⊢
    rw [hget_set, if_neg (by omega)]
    exact hs
def allowB (p ds a d : List Int) (po : Int) (e os oh : List Int) (op rd : Int) : Bool := match findL (cspL p) (chainL ds) with
  | none => true
  | some x => listB x.2 a d po e os oh op rd
theorem findL_mem {l : List Dr} : ∀ {ns : List (List Int)} {d : Dr}, findL l ns = some d → d ∈ l
  | [], d, h => by cases h
  | n :: ns, d, h => by
    unfold findL at h
    split at h
    · rename_i d' hf
      obtain rfl := Option.some.inj h
      exact List.mem_of_find?_eq_some hf
    · exact findL_mem h
def pAllowsC : Ct := fun args h => match args with
  | [.s pp, .s ds, .agg [.s a, .s b, .s c, .s d, .i .i64 p, .s e, .b q, .s f, .b g, .s x], .agg [.s os, .s oh, .i .i64 op], .i .i64 rd] =>
    if pp.length ≤ 1048576 ∧ d.length ≤ 1048576 ∧ e.length ≤ 1048576 then some (.b (allowB pp ds a d p e os oh op rd), h) else none
  | _ => none
theorem pAllows_ok : CtOk Tryz.prog G0 17 pAllowsC := by
  refine ct_plain (n := 5) fol (sound_cons pCsp_ok (sound_cons pDecide_ok (sound_cons pList_ok sound_nil))) (by kernel_rfl) Tryz.func17 rfl fun args h v h' hc r xs H hr hx => ?_
  unfold pAllowsC at hc; split at hc <;> (try split at hc) <;> cases hc
  rename_i pp ds a b c d p e q f g x os oh op rd hl
  obtain ⟨h1, h2, h3⟩ := hl
  refine ⟨rfl, rfl, by simp [renV, bndV], ?_⟩
  obtain ⟨us, hus⟩ : ∃ us, us = [V.s a, V.s b, V.s c, V.s d, V.i .i64 p, V.s e, V.b q, V.s f, V.b g, V.s x] := ⟨_, rfl⟩
  obtain ⟨og, hog⟩ : ∃ og, og = [V.s os, V.s oh, V.i .i64 op] := ⟨_, rfl⟩
  have hE0 : Ext h (h ++ [⟨2, true, us⟩, ⟨2, true, og⟩]) := (Ext.refl h).app _
  obtain ⟨v, g1, hC, hE1, bb, c, rfl, hg, hd⟩ := pCsp_go (h := h ++ [⟨2, true, us⟩, ⟨2, true, og⟩]) (l := pp) h1
  have hB : ∀ d ∈ cspL pp, d.2.length ≤ 1048577 := fun d hd => by have := (cspL_B d hd).1; omega
  have hBn : (cspL pp).length ≤ 1048577 := by
    have := (cspF_B (N := pp.length) (y := splitL 59 pp) (acc := []) (fun p hp => splitL_mem hp) (by simp)).2
    have h2 := splitL_len 59 pp
    unfold cspL
    simp at this; omega
  obtain ⟨v, g2, hD, hE2, hv⟩ := pDecide_go (h := g1) (d := ds) hg hd hBn hB
  have hE : Ext h g2 := (hE0.trans hE1).trans hE2
  have hl1 : h.length + 2 ≤ g1.length := by have := hE1.1; simpa using this
  have hl2 : g1.length ≤ g2.length := hE2.1
  have gu : hget g2 h.length = ⟨2, true, us⟩ := by rw [hE2.2 _ (by omega), hE1.2 _ (by simp), hget_at0 rfl]; rfl
  have go : hget g2 (h.length + 1) = ⟨2, true, og⟩ := by rw [hE2.2 _ (by omega), hE1.2 _ (by simp), hget_at rfl]; rfl
  have hv0 : (Value.slice none 0 0).oneCell' = true := rfl
  cases hf : findL (cspL pp) (chainL ds) with
  | none =>
    rw [hf] at hv
    obtain rfl := hv
    have ha : allowB pp ds a d p e os oh op rd = true := by unfold allowB; rw [hf]
    subst hus hog
    simp -implicitDefEqProofs [go_sem, Tryz.f17, hC, hD, hv0, ha]
    exact hE.app _
  | some y =>
    rw [hf] at hv
    obtain ⟨b', hb', rfl, hs⟩ := hv
    have ha : allowB pp ds a d p e os oh op rd = listB y.2 a d p e os oh op rd := by unfold allowB; rw [hf]
    have hy := findL_mem hf
    have hys : ∀ s ∈ y.2, s.length ≤ 1048576 := fun s hs => by have := (cspL_B y hy).2 s hs; omega
    subst hus hog
    have hn1 : ¬ h.length = g2.length := by omega
    have hn2 : ¬ h.length + 1 = g2.length := by omega
    have hs2 := strsAt_ext ((Ext.refl g2).app [⟨2, true, [.s y.1, .sl b' 0 y.2.length 1]⟩]) hs
    have hll : h.length < g2.length := by omega
    have hll1 : h.length + 1 < g2.length := by omega
    simp -implicitDefEqProofs [go_sem, Tryz.f17, hC, hD, ha, hn1, hn2, gu, go, hget_lt hll, hget_lt hll1, pListC, hs2, h2, h3, eq_true hys]
    exact hE.app _
def pAllC : Ct := fun args h => match args with
  | [.sl bl o n 1, .s ds, .agg [.s a, .s b, .s c, .s d, .i .i64 p, .s e, .b q, .s f, .b g, .s x], .agg [.s os, .s oh, .i .i64 op], .i .i64 rd] => (match strsAt h bl o n with
    | some y => if d.length ≤ 1048576 ∧ e.length ≤ 1048576 ∧ (∀ s ∈ y, s.length ≤ 1048576) then some (.b (y.all fun s => allowB s ds a d p e os oh op rd), h) else none
    | none => none)
  | _ => none
theorem pAll_ok : CtOk Tryz.prog G0 22 pAllC := by
  refine ct_plain (n := 5) fol (sound_cons pAllows_ok sound_nil) (by kernel_rfl) Tryz.func22 rfl fun args h v h' hc r xs H hr hx => ?_
  unfold pAllC at hc; split at hc <;> (try split at hc) <;> (try split at hc) <;> cases hc
  rename_i bl o n ds a b c d p e q f g x os oh op rd _ y hy hl
  obtain ⟨hdl, hel, hyl⟩ := hl
  obtain ⟨st, xx, cc, hg, hld, hn, hc⟩ := strsAt_eq hy
  have hn6 := (sl_of hx).1
  refine ⟨rfl, rfl, by simp [renV, bndV, renL, bndL], ?_⟩
  have hbl := alive hg
  obtain ⟨us, hus⟩ : ∃ us, us = [V.s a, V.s b, V.s c, V.s d, V.i .i64 p, V.s e, V.b q, V.s f, V.b g, V.s x] := ⟨_, rfl⟩
  obtain ⟨og, hog⟩ : ∃ og, og = [V.s os, V.s oh, V.i .i64 op] := ⟨_, rfl⟩
  obtain ⟨A, hA⟩ : ∃ A : List Int → Bool, A = fun s => allowB s ds a d p e os oh op rd := ⟨_, rfl⟩
  rw [← hA]
  have hA1 : ∀ s, allowB s ds a d p e os oh op rd = A s := fun s => by rw [hA]
  simp -implicitDefEqProofs [go_sem, Tryz.f22]
  refine run_inv _ _ _ _ _ (fun (i : Nat) t h1 => i ≤ n ∧ get t 1 = .s ds ∧ get t 13 = .sl bl o n 1 ∧ get t 14 = .i .i64 n ∧ get t 4 = .i .i64 rd ∧ get t 7 = .p h.length 0 ∧ get t 8 = .p (h.length + 1) 0 ∧ get t 15 = .i .i64 i ∧ (y.drop i).all A = y.all A ∧ h1 = h ++ [⟨2, true, us⟩, ⟨2, true, og⟩]) (fun i => n - i) _ (x := 0) ⟨by simp, rfl, rfl, rfl, rfl, rfl, rfl, rfl, by simp, by rw [hus, hog]⟩ ?_
  rintro i t h1 ⟨hi, t1, t13, t14, t4, t7, t8, t15, hd, hh⟩ ih
  have hl1 : h1.length = h.length + 2 := by rw [hh]; simp
  have hg0 : hget h1 h.length = ⟨2, true, us⟩ := by rw [hh, hget_at0 rfl]; rfl
  have hg1 : hget h1 (h.length + 1) = ⟨2, true, og⟩ := by rw [hh, hget_at rfl]; rfl
  have hgb : hget h1 bl = ⟨st + 1, xx, cc⟩ := by rw [hh, hget_lt hbl]; exact hg
  have hE : Ext h h1 := by rw [hh]; exact (Ext.refl h).app _
  have hi6 : i < 1152921504606846976 := by omega
  rw [hus] at hg0
  rw [hog] at hg1
  by_cases hlt : i < n
  · have hlt' : i < y.length := by omega
    obtain ⟨w, hw⟩ : ∃ w, y[i] = w := ⟨_, rfl⟩
    have hc1 := hc i hlt'
    have hwl := hyl w (hw ▸ List.getElem_mem hlt')
    rw [hw] at hc1
    have hd2 : (y.drop i).all A = (A w && (y.drop (i + 1)).all A) := by rw [List.drop_eq_getElem_cons hlt', hw]; rfl
    rw [hd2] at hd
    cases c1 : A w with
    | false =>
      rw [c1, Bool.false_and] at hd
      simp -implicitDefEqProofs [go_sem, Tryz.f22, t1, t13, t14, t4, t7, t8, t15, hlt, hc1, hgb, hg0, hg1, pAllowsC, hA1, hwl, hdl, hel, c1, hE]
      exact ⟨w, hw ▸ List.getElem_mem hlt', c1⟩
    | true =>
      rw [c1, Bool.true_and] at hd
      simp -implicitDefEqProofs [go_sem, Tryz.f22, t1, t13, t14, t4, t7, t8, t15, hlt, hc1, hgb, hg0, hg1, pAllowsC, hA1, hwl, hdl, hel, c1]
      refine ih (i + 1) _ _ (by omega) ⟨by omega, ?_⟩
      simp -implicitDefEqProofs [go_sem, t1, t13, t14, t4, t7, t8, t15, i64_n hi6, hh]
      exact hd
  · have e0 : y.drop i = [] := List.drop_eq_nil_of_le (by omega)
    rw [e0] at hd
    simp -implicitDefEqProofs [go_sem, Tryz.f22, t13, t14, t15, hlt, hE]
    exact List.all_eq_true.1 (show y.all A = true from hd.symm)
end GoD
