import Derived.Test.YtkhcoeampamegaaGreatDoorNF
import Derived.Test.YtkhcoeampamegaaGreatDoorRD
/-! DirectChains. -/
namespace GoD
open Go Go.Proofs
set_option linter.unusedVariables false
set_option linter.unusedSimpArgs false
set_option maxHeartbeats 4000000
set_option maxRecDepth 100000
theorem strsAt_new (h : Heap) (y : List (List Int)) (s : Nat) (x : Bool) (l : Heap) : strsAt (h ++ ⟨s + 1, x, sts y⟩ :: l) h.length 0 y.length = some y := by
  unfold strsAt
  rw [hget_at0 rfl]
  simp only [List.getD_cons_zero, ldN_sts, strsV_map]
def pLaw16cC : Ct := fun args h => match args with | [.s d, .s p] => some (.b true, h) | _ => none
theorem pLaw16c_ok : CtOk Tryz.prog G0 3 pLaw16cC := by
  refine ct_plain (n := 2) fol (sound_cons pAwake16_ok (sound_cons rCsp_ok (sound_cons pDecide_ok (sound_cons rChain_ok (sound_cons rFind_ok (sound_cons pDChain_ok (sound_cons pTexts_ok sound_nil))))))) (by kernel_rfl) Tryz.func3 rfl fun args h v h' hc r xs H hr hx => ?_
  unfold pLaw16cC at hc; split at hc <;> (try split at hc) <;> cases hc
  rename_i d p
  refine ⟨rfl, rfl, by simp [renV, bndV], ?_⟩
  obtain ⟨⟨_, hl1⟩, _, hx2⟩ := str_of hx
  obtain ⟨⟨_, hl2⟩, _⟩ := str_of hx2
  have w := w64 (x := (d.length : Int) + p.length) (by omega)
  by_cases c1 : (2000 : Int) < (d.length : Int) + p.length
  · simp -implicitDefEqProofs [go_sem, Tryz.f3, pAwake16C, w, c1]
  · have h1 : p.length ≤ 1048576 := by omega
    obtain ⟨v, g1, hC, hE1, bb, c, rfl, hg, hd⟩ := rCsp_go (h := h) (l := p) h1
    have hBn := cspL_len h1
    have hm := chainL_len d
    have hB : ∀ d ∈ cspL p, d.2.length ≤ 1048577 := fun d hd => by have := (cspL_B d hd).1; omega
    obtain ⟨bl, hbl⟩ : ∃ bl, (chainL d).isEmpty = bl := ⟨_, rfl⟩
    obtain ⟨v, g2, hD, hE2, hv⟩ := pDecide_go (h := g1) (d := d) hg hd hBn hB
    have hE12 : Ext h g2 := hE1.trans hE2
    have hg2 := hE2.2 _ (alive hg)
    rw [hg] at hg2
    have rf : ∀ A : Blk, ∃ v g4, rFindC [.sl bb 0 (cspL p).length 2, .sl (g2.length + 1) 0 (chainL d).length 1] (g2 ++ [A, ⟨2, !bl, sts (chainL d)⟩]) = some (v, g4) ∧ Ext (g2 ++ [A, ⟨2, !bl, sts (chainL d)⟩]) g4 ∧ RFindV g4 v (findL (cspL p) (chainL d)) := fun A => by
      have hEc : Ext g2 (g2 ++ [A, ⟨2, !bl, sts (chainL d)⟩]) := (Ext.refl g2).app _
      exact rFind_go (b := bb) (st := 1) (x := false) (c := c) (ds := cspL p) (bn := g2.length + 1) (on := 0) (names := chainL d) (by rw [hget_lt (alive hg2)]; exact hg2) (drs_ext (hE2.trans hEc) hd) hBn (by unfold strsAt; rw [hget_at rfl]; simp only [List.getD_cons_succ, List.getD_cons_zero, ldN_sts, strsV_map]) (by omega)
    have hv0 : (Value.slice none 0 0).oneCell' = true := rfl
    cases hf : findL (cspL p) (chainL d) with
    | none =>
      rw [hf] at hv
      obtain rfl := hv
      obtain ⟨v, g4, hR, hE4, hr⟩ := rf ⟨2, true, [.s [], .c (.slice none 0 0)]⟩
      rw [hf] at hr
      obtain rfl := hr
      have hE : Ext h g4 := (hE12.app _).trans hE4
      have hl4 : g2.length + 2 ≤ g4.length := by have := hE4.1; simpa using this
      have ga : hget g4 g2.length = ⟨2, true, [.s [], .c (.slice none 0 0)]⟩ := by rw [hE4.2 _ (by simp), hget_at0 rfl]; rfl
      have n1 : ¬ g2.length = g4.length := by omega
      have lt1 : g2.length < g4.length := by omega
      have hT1 : ∀ B : Blk, strsAt (g4 ++ [B, ⟨2, false, sts (chainL d)⟩, ⟨2, !bl, sts (chainL d)⟩]) (g4.length + 1) 0 (chainL d).length = some (chainL d) := fun B => by
        unfold strsAt; rw [hget_at rfl]; simp only [List.getD_cons_succ, List.getD_cons_zero, ldN_sts, strsV_map]
      have hT2 : ∀ B : Blk, strsAt (g4 ++ [B, ⟨2, false, sts (chainL d)⟩, ⟨2, !bl, sts (chainL d)⟩]) (g4.length + 2) 0 (chainL d).length = some (chainL d) := fun B => by
        unfold strsAt; rw [hget_at rfl]; simp only [List.getD_cons_succ, List.getD_cons_zero, ldN_sts, strsV_map]
      simp (maxSteps := 2000000) -implicitDefEqProofs [go_sem, Tryz.f3, w, c1, hC, hD, rChainC, hbl, hR, hv0, pDChainC, pTextsC, pTexts1C, pTexts2C, hT1, hT2, hget_lt lt1, ga, pAwake16C]
      exact hE.app _
    | some y =>
      rw [hf] at hv
      obtain ⟨b1, hb1, rfl, hs1⟩ := hv
      obtain ⟨v, g4, hR, hE4, hr⟩ := rf ⟨2, true, [.s y.1, .sl b1 0 y.2.length 1]⟩
      rw [hf] at hr
      obtain ⟨u, rfl, b2, o2, rfl, hs2, _⟩ := hr
      have hE : Ext h g4 := (hE12.app _).trans hE4
      have hl4 : g2.length + 2 ≤ g4.length := by have := hE4.1; simpa using this
      have ga : hget g4 g2.length = ⟨2, true, [.s y.1, .sl b1 0 y.2.length 1]⟩ := by rw [hE4.2 _ (by simp), hget_at0 rfl]; rfl
      have n1 : ¬ g2.length = g4.length := by omega
      have lt1 : g2.length < g4.length := by omega
      have hT1 : ∀ B : Blk, strsAt (g4 ++ [B, ⟨2, false, sts (chainL d)⟩, ⟨2, !bl, sts (chainL d)⟩]) (g4.length + 1) 0 (chainL d).length = some (chainL d) := fun B => by
        unfold strsAt; rw [hget_at rfl]; simp only [List.getD_cons_succ, List.getD_cons_zero, ldN_sts, strsV_map]
      have hT2 : ∀ B : Blk, strsAt (g4 ++ [B, ⟨2, false, sts (chainL d)⟩, ⟨2, !bl, sts (chainL d)⟩]) (g4.length + 2) 0 (chainL d).length = some (chainL d) := fun B => by
        unfold strsAt; rw [hget_at rfl]; simp only [List.getD_cons_succ, List.getD_cons_zero, ldN_sts, strsV_map]
      have hT3 : ∀ l : Heap, strsAt (g4 ++ l) b1 0 y.2.length = some y.2 := fun l => strsAt_ext (((Ext.refl g2).app _).trans hE4 |>.app l) hs1
      have hT4 : ∀ l : Heap, strsAt (g4 ++ l) b2 o2 y.2.length = some y.2 := fun l => strsAt_ext ((Ext.refl g4).app l) hs2
      simp (maxSteps := 2000000) -implicitDefEqProofs [go_sem, Tryz.f3, w, c1, hC, hD, rChainC, hbl, hR, hv0, pDChainC, pTextsC, pTexts1C, pTexts2C, hT1, hT2, hT3, hT4, hget_lt lt1, ga, pAwake16C]
      exact hE.app _
end GoD
