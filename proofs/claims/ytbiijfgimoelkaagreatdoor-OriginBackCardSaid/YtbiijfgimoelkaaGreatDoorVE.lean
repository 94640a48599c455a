import Derived.Test.YtbiijfgimoelkaaGreatDoorVD
import Derived.Test.YtbiijfgimoelkaaGreatDoorVC
import Derived.Test.YtbiijfgimoelkaaGreatDoorZE
/-! What an Origin's text is read as. -/
namespace GoD
open Go Go.Proofs
set_option linter.unusedVariables false
set_option linter.unusedSimpArgs false
set_option maxHeartbeats 8000000
set_option maxRecDepth 100000
def nullT : List Int := [110, 117, 108, 108]
abbrev Or := List Int × List Int × Int
def oA (l : List Int) : List Int × List Int × Bool := cutG l [58, 47, 47]
def oB (l : List Int) : List Int × List Int × Bool := cutG (oA l).2.1 [58]
def oP (l : List Int) : Int := if (oB l).2.2 = true then (numU (oB l).2.1).getD 0 else (defaultL (oA l).1).1
def parseO (l : List Int) : Option Or := if l = nullT then some ([], [], 0) else if (defaultL (oA l).1).2 = true ∧ hostL (oB l).1 = some (oB l).1 ∧ oP l ≤ 65535 ∧ orgT (oA l).1 (oB l).1 (oP l) = l then some ((oA l).1, (oB l).1, oP l) else none
def refO (l : List Int) : Option Or := if l = nullT then some ([], [], 0) else if 65536 < l.length then none else match urlL l with
  | none => none
  | some u => if orgT u.sch u.ho (portL u.sch u.po) = l then some (u.sch, u.ho, portL u.sch u.po) else none
def oAns : Option Or → V
  | none => .tup [.agg [.s [], .s [], .i .i64 0], .i .i64 8]
  | some (a, b, p) => .tup [.agg [.s a, .s b, .i .i64 p], .i .i64 0]
theorem oAns_flat (o : Option Or) (m : Nat) : renV id (oAns o) = oAns o ∧ bndV m (oAns o) := by
  cases o with
  | none => simp [oAns, renV, bndV, renL, bndL]
  | some x => obtain ⟨a, b, p⟩ := x; simp [oAns, renV, bndV, renL, bndL]
theorem oP_ge (l : List Int) : 0 ≤ oP l := by
  unfold oP
  split
  · exact numU_ge _
  · unfold defaultL
    split
    · simp
    · split
      · simp
      · split <;> simp
def pOParseC : Ct := fun args h => match args with | [.s l] => if l.length ≤ 400000 then some (oAns (parseO l), h) else none | _ => none
theorem pOParse_ok : CtOk Tryz.prog G0 25 pOParseC := by
  refine ct_plain (n := 1) fol (sound_cons pCutG_ok (sound_cons pDefault_ok (sound_cons pNumberA_ok (sound_cons pHParse_ok (sound_cons pOText_ok sound_nil))))) (by kernel_rfl) Tryz.func25 rfl fun args h v h' hc r xs H hr hx => ?_
  unfold pOParseC at hc; split at hc <;> (try split at hc) <;> cases hc
  rename_i l hl
  refine ⟨rfl, rfl, oAns_flat _ _, ?_⟩
  have hA := cutG_len l [58, 47, 47]
  have hB := cutG_len (oA l).2.1 [58]
  have hP := oP_ge l
  obtain ⟨R, hR⟩ : ∃ R, parseO l = R := ⟨_, rfl⟩
  rw [hR]
  unfold parseO at hR
  by_cases c0 : l = nullT
  · rw [if_pos c0] at hR
    subst hR c0
    simp -implicitDefEqProofs [go_sem, Tryz.f25, nullT, oAns]
  rw [if_neg c0] at hR
  unfold nullT at c0
  obtain ⟨⟨a, x, w⟩, e1⟩ : ∃ z, cutG l [58, 47, 47] = z := ⟨_, rfl⟩
  have e1' : oA l = (a, x, w) := e1
  rw [e1] at hA
  rw [e1'] at hB
  unfold oB at hR
  unfold oP oB at hP hR
  rw [e1'] at hP hR
  simp only at hA hB hP hR
  obtain ⟨⟨b, pt, wi⟩, e2⟩ : ∃ z, cutG x [58] = z := ⟨_, rfl⟩
  rw [e2] at hB hP hR
  simp only at hB hP hR
  have x7 : x.length ≤ 1048576 := by omega
  have b7 : b.length ≤ 1048576 := by omega
  have l7 : l.length ≤ 1048576 := by omega
  have ab : a.length + b.length ≤ 1000000 := by omega
  obtain ⟨⟨d, ok⟩, e3⟩ : ∃ z, defaultL a = z := ⟨_, rfl⟩
  rw [e3] at hP hR
  simp only at hP hR
  clear e1'
  simp only [Tryz.f25, run_seq]
  generalize hK9 : (Code.region 9 _ _).seq _ = K9
  have rest : ∀ (t : Tm) (h1 : Heap) (p : Int), p = (if wi = true then (numU pt).getD 0 else d) → get t 0 = .s l → get t 2 = .p h.length 0 → get t 4 = .s a → get t 7 = .s b → get t 10 = .p (h.length + 1) 0 → h1 = h ++ [⟨2, true, [.s [], .s [], .i .i64 0]⟩, ⟨2, true, [.s a, .s b, .i .i64 p]⟩] → Run (ctx Tryz.prog G0 [(59, pCutGC), (30, pDefaultC), (60, pNumberAC), (61, pHParseC), (12, pOTextC)]) (Fini (ctx Tryz.prog G0 [(59, pCutGC), (30, pDefaultC), (60, pNumberAC), (61, pHParseC), (12, pOTextC)]) Tryz.f25.results.toList fun v' h1 => v' = oAns R ∧ Ext h h1) [.c K9] t h1 := by
    intro t h1 p hp t0 t2 t4 t7 t10 hh
    subst hK9
    rw [← hp] at hP hR
    have hl1 : h1.length = h.length + 2 := by rw [hh]; simp
    have hE : Ext h h1 := by rw [hh]; exact (Ext.refl h).app _
    have hg0 : hget h1 h.length = ⟨2, true, [.s [], .s [], .i .i64 0]⟩ := by rw [hh, hget_at0 rfl]; rfl
    have hg1 : hget h1 (h.length + 1) = ⟨2, true, [.s a, .s b, .i .i64 p]⟩ := by rw [hh, hget_at rfl]; rfl
    clear hh
    cases ok with
    | false =>
      rw [if_neg (by simp)] at hR
      subst hR
      cases hH : hostL b with
      | none => simp -implicitDefEqProofs [go_sem, t0, t2, t4, t7, t10, pDefaultC, pHParseC, e3, b7, hH, hostV, hg0, hg1, hl1, oAns, hE, Ext.set]
      | some g => simp -implicitDefEqProofs [go_sem, t0, t2, t4, t7, t10, pDefaultC, pHParseC, e3, b7, hH, hostV, hg0, hg1, hl1, oAns, hE, Ext.set]
    | true =>
      cases hH : hostL b with
      | none =>
        rw [if_neg (by rw [hH]; simp)] at hR
        subst hR
        simp -implicitDefEqProofs [go_sem, t0, t2, t4, t7, t10, pDefaultC, pHParseC, e3, b7, hH, hostV, hg0, hg1, hl1, oAns, hE, Ext.set]
      | some g =>
        by_cases c1 : g = b
        · subst c1
          by_cases c2 : 65535 < p
          · rw [if_neg (by omega)] at hR
            subst hR
            simp -implicitDefEqProofs [go_sem, t0, t2, t4, t7, t10, pDefaultC, pHParseC, e3, b7, hH, hostV, hg0, hg1, hl1, oAns, hE, Ext.set, c2]
          · have c2' : p ≤ 65535 := by omega
            by_cases c3 : orgT a g p = l
            · rw [if_pos ⟨rfl, hH, c2', c3⟩] at hR
              subst hR
              simp -implicitDefEqProofs [go_sem, t0, t2, t4, t7, t10, pDefaultC, pHParseC, pOTextC, e3, b7, hH, hostV, hg0, hg1, hl1, oAns, hE, Ext.set, c2, c2', ab, hP, c3]
            · rw [if_neg (by simp [c3])] at hR
              subst hR
              simp -implicitDefEqProofs [go_sem, t0, t2, t4, t7, t10, pDefaultC, pHParseC, pOTextC, e3, b7, hH, hostV, hg0, hg1, hl1, oAns, hE, Ext.set, c2, c2', ab, hP, c3]
        · rw [if_neg (by rw [hH]; simp [c1])] at hR
          subst hR
          simp -implicitDefEqProofs [go_sem, t0, t2, t4, t7, t10, pDefaultC, pHParseC, e3, b7, hH, hostV, hg0, hg1, hl1, oAns, hE, Ext.set, c1]
  cases wi with
  | true =>
    simp -implicitDefEqProofs [go_sem, Tryz.f25, c0, pCutGC, l7, x7, e1, e2, pDefaultC, e3, pNumberAC]
    refine rest _ _ _ (by rw [if_pos rfl]) ?_ ?_ ?_ ?_ ?_ rfl <;> simp -implicitDefEqProofs [go_sem]
  | false =>
    simp -implicitDefEqProofs [go_sem, Tryz.f25, c0, pCutGC, l7, x7, e1, e2, pDefaultC, e3]
    refine rest _ _ _ (by rw [if_neg (by simp)]) ?_ ?_ ?_ ?_ ?_ rfl <;> simp -implicitDefEqProofs [go_sem]
theorem portL_le {u : Url} (h : UrlN u) : 0 ≤ portL u.sch u.po ∧ portL u.sch u.po ≤ 65535 := by
  unfold portL
  split
  · rcases sch_of h.sch with e | e | e | e | e <;> rw [e] <;> decide
  · rename_i h1; rcases h.po with h | h <;> omega
def rOriginC : Ct := fun args h => match args with | [.s l] => some (oAns (refO l), h) | _ => none
theorem rOrigin_ok : CtOk Tryz.prog G0 26 rOriginC := by
  refine ct_plain (n := 1) fol (sound_cons rURL_ok (sound_cons rOf_ok (sound_cons rOText_ok sound_nil))) (by kernel_rfl) Tryz.func26 rfl fun args h v h' hc r xs H hr hx => ?_
  unfold rOriginC at hc; split at hc <;> (try split at hc) <;> cases hc
  rename_i l
  obtain ⟨⟨hs, hl⟩, _⟩ := str_of hx
  refine ⟨rfl, rfl, oAns_flat _ _, ?_⟩
  obtain ⟨R, hR⟩ : ∃ R, refO l = R := ⟨_, rfl⟩
  rw [hR]
  unfold refO at hR
  by_cases c0 : l = nullT
  · rw [if_pos c0] at hR
    subst hR c0
    simp -implicitDefEqProofs [go_sem, Tryz.f26, nullT, oAns]
  rw [if_neg c0] at hR
  unfold nullT at c0
  by_cases c1 : 65536 < l.length
  · rw [if_pos c1] at hR
    subst hR
    have c1' : (65536 : Int) < l.length := by omega
    simp -implicitDefEqProofs [go_sem, Tryz.f26, c0, c1', oAns]
  rw [if_neg c1] at hR
  have c1' : ¬ (65536 : Int) < l.length := by omega
  cases hu : urlL l with
  | none =>
    rw [hu] at hR
    subst hR
    simp -implicitDefEqProofs [go_sem, Tryz.f26, c0, c1', oAns, rURLC, hu, urlAns_none]
  | some u =>
    rw [hu] at hR
    simp only at hR
    have hn := urlL_n hs hu
    have hp := portL_le hn
    have h1 := (urlL_len hu).1
    have h2 := (scheme_at hn.sch []).2.2.2.1
    have h3 : u.sch.length + u.ho.length ≤ 1000000 := by omega
    by_cases c2 : orgT u.sch u.ho (portL u.sch u.po) = l
    · rw [if_pos c2] at hR
      subst hR
      simp -implicitDefEqProofs [go_sem, Tryz.f26, c0, c1', oAns, rURLC, rOfC, rOTextC, hu, urlAns_some, hp, h3, c2]
    · rw [if_neg c2] at hR
      subst hR
      simp -implicitDefEqProofs [go_sem, Tryz.f26, c0, c1', oAns, rURLC, rOfC, rOTextC, hu, urlAns_some, hp, h3, c2]
/-! the plain law -/
theorem org_form {u : Url} (h : UrlN u) : orgT u.sch u.ho (portL u.sch u.po) = u.sch ++ 58 :: 47 :: 47 :: (u.ho ++ ptT u.po) := by
  have hne : u.sch ≠ [] := (scheme_at h.sch []).2.2.2.2
  have hz : oNull u.sch u.ho (portL u.sch u.po) = false := by unfold oNull; rw [decide_eq_false hne]; rfl
  unfold orgT ptT portL
  unfold portL at hz
  rw [hz, if_neg (by simp)]
  by_cases c : u.po = -1
  · rw [if_pos c, if_pos c, if_pos ⟨h.sch, rfl⟩]; simp
  · have := (h.po.resolve_left c).2.2
    rw [if_neg c, if_neg c, if_neg (fun e => this e.2.symm)]; simp
/-- a scheme, a host and a port, as text, are read as themselves -/
theorem org_url {a b r : List Int} {p : Int} (hs : (defaultL a).2 = true) (hh : hostL b = some b) (hp : p = -1 ∨ (0 ≤ p ∧ p ≤ 65535 ∧ p ≠ (defaultL a).1)) (hr : r = [] ∨ ∃ t, r = 47 :: t) :
    ∃ u, url1 (a ++ 58 :: 47 :: 47 :: ((b ++ ptT p) ++ r)) = some u ∧ u.sch = a ∧ u.ho = b ∧ u.po = p := by
  have hb := (host_fixed hh).1
  rw [url1_at hs (by simp [hb]) (fun c hc => sub4 (m := []) (auth_mem hh (po_or hp) hc).2.2) (by rcases hr with rfl | ⟨t, rfl⟩; exact .inl rfl; exact .inr ⟨47, t, rfl, by decide⟩), restL_none fun hm => (auth_mem hh (po_or hp) hm).2.2 (by decide), authW_at hh hp]
  exact ⟨_, rfl, rfl, rfl, rfl⟩
theorem org_vis {a b : List Int} {p : Int} (hs : (defaultL a).2 = true) (hh : hostL b = some b) (hp : p = -1 ∨ 0 ≤ p) : Vis (a ++ 58 :: 47 :: 47 :: (b ++ ptT p)) := by
  refine Vis.app (scheme_at hs []).2.2.1 fun c hc => ?_
  rcases List.mem_cons.1 hc with rfl | hc
  · omega
  rcases List.mem_cons.1 hc with rfl | hc
  · omega
  rcases List.mem_cons.1 hc with rfl | hc
  · omega
  have := auth_mem hh hp hc
  exact ⟨this.1, this.2.1⟩
theorem po_of {a : List Int} {p : Int} (h0 : 0 ≤ p) (h1 : p ≤ 65535) : (if p = (defaultL a).1 then -1 else p) = -1 ∨ (0 ≤ (if p = (defaultL a).1 then -1 else p) ∧ (if p = (defaultL a).1 then -1 else p) ≤ 65535 ∧ (if p = (defaultL a).1 then -1 else p) ≠ (defaultL a).1) := by
  split
  · exact .inl rfl
  · rename_i h; exact .inr ⟨h0, h1, h⟩
theorem org_form2 {a b : List Int} {p : Int} (hs : (defaultL a).2 = true) (h0 : 0 ≤ p) : orgT a b p = a ++ 58 :: 47 :: 47 :: (b ++ ptT (if p = (defaultL a).1 then -1 else p)) := by
  have hne : a ≠ [] := (scheme_at hs []).2.2.2.2
  have hz : oNull a b p = false := by unfold oNull; rw [decide_eq_false hne]; rfl
  unfold orgT ptT
  rw [hz, if_neg (by simp)]
  by_cases c : p = (defaultL a).1
  · rw [if_pos ⟨hs, c.symm⟩, if_pos c, if_pos rfl]; simp
  · rw [if_neg (fun e => c e.2.symm), if_neg c, if_neg (by omega)]; simp
theorem cut_org {a b : List Int} {p : Int} (hs : (defaultL a).2 = true) (hh : hostL b = some b) (hp : p = -1 ∨ (0 ≤ p ∧ p ≤ 65535 ∧ p ≠ (defaultL a).1)) :
    oA (a ++ 58 :: 47 :: 47 :: (b ++ ptT p)) = (a, b ++ ptT p, true) ∧ oB (a ++ 58 :: 47 :: 47 :: (b ++ ptT p)) = (if p = -1 then (b, [], false) else (b, decI p, true)) ∧ oP (a ++ 58 :: 47 :: 47 :: (b ++ ptT p)) = portL a p := by
  have ha58 : (58 : Int) ∉ a := by rcases sch_of hs with rfl | rfl | rfl | rfl | rfl <;> decide
  have hb58 : (58 : Int) ∉ b := forb_not (host_fixed hh).2.2.2 (by decide)
  have hav : Byt a := (scheme_at hs []).2.2.1.byt
  have hbv : Byt b := (forb_vis (host_fixed hh).2.2.2).byt
  have hrv : Byt (b ++ ptT p) := fun c hc => by have := auth_mem hh (po_or hp) hc; omega
  have e1 : oA (a ++ 58 :: 47 :: 47 :: (b ++ ptT p)) = (a, b ++ ptT p, true) := by
    unfold oA
    rw [show a ++ 58 :: 47 :: 47 :: (b ++ ptT p) = a ++ (58 :: [47, 47]) ++ (b ++ ptT p) by simp]
    exact cutG_at hav hrv (by omega) ha58
  have e2 : oB (a ++ 58 :: 47 :: 47 :: (b ++ ptT p)) = (if p = -1 then (b, [], false) else (b, decI p, true)) := by
    unfold oB
    rw [e1]
    unfold ptT
    by_cases c : p = -1
    · rw [if_pos c, if_pos c, List.append_nil]; exact cutG_no hbv (by omega) hb58
    · rw [if_neg c, if_neg c, show b ++ 58 :: decI p = b ++ (58 :: []) ++ decI p by simp]
      refine cutG_at hbv ?_ (by omega) hb58
      intro x hx
      rw [decI_dec (by omega)] at hx
      have := dec_mem hx
      omega
  refine ⟨e1, e2, ?_⟩
  unfold oP portL
  rw [e2, e1]
  by_cases c : p = -1
  · rw [if_pos c, if_pos c]; rfl
  · rw [if_neg c, if_neg c]
    have := hp.resolve_left c
    simp only
    rw [if_pos trivial, decI_dec (by omega), numU_dec (by omega), Option.getD_some]
    omega
theorem parse_org {u : Url} (h : UrlN u) : parseO (orgT u.sch u.ho (portL u.sch u.po)) = some (u.sch, u.ho, portL u.sch u.po) := by
  obtain ⟨e1, e2, e3⟩ := cut_org h.sch h.ho h.po
  rw [← org_form h] at e1 e2 e3
  have hp := portL_le h
  have hb : (oB (orgT u.sch u.ho (portL u.sch u.po))).1 = u.ho := by rw [e2]; split <;> rfl
  have hn : orgT u.sch u.ho (portL u.sch u.po) ≠ nullT := by
    rw [org_form h]
    rcases sch_of h.sch with e | e | e | e | e <;> rw [e] <;> simp [nullT]
  unfold parseO
  rw [if_neg hn, hb, e1, e3]
  simp only
  rw [if_pos ⟨h.sch, h.ho, hp.2, trivial⟩]
theorem origin_eq {l : List Int} (hb : Byt l) (hl : l.length ≤ 3000) : parseO l = refO l := by
  by_cases c0 : l = nullT
  · unfold parseO refO; rw [if_pos c0, if_pos c0]
  have hR : refO l = match urlL l with
    | none => none
    | some u => if orgT u.sch u.ho (portL u.sch u.po) = l then some (u.sch, u.ho, portL u.sch u.po) else none := by
    unfold refO; rw [if_neg c0, if_neg (by omega)]
  by_cases c1 : (defaultL (oA l).1).2 = true ∧ hostL (oB l).1 = some (oB l).1 ∧ oP l ≤ 65535 ∧ orgT (oA l).1 (oB l).1 (oP l) = l
  · have hP : parseO l = some ((oA l).1, (oB l).1, oP l) := by unfold parseO; rw [if_neg c0, if_pos c1]
    obtain ⟨k1, k2, k3, k4⟩ := c1
    have h0 := oP_ge l
    have hf := org_form2 (b := (oB l).1) k1 h0
    obtain ⟨u, u1, u2, u3, u4⟩ := org_url (r := []) k1 k2 (po_of h0 k3) (.inl rfl)
    have hv := org_vis k1 k2 (po_or (po_of (a := (oA l).1) h0 k3))
    rw [List.append_nil] at u1
    rw [← hf, k4] at u1 hv
    have hU : urlL l = some u := by
      unfold urlL
      rw [if_neg (by omega), utf8_vis hv, if_pos rfl, clean_vis hv, u1]
    have hport : portL u.sch u.po = oP l := by
      rw [u2, u4]
      unfold portL
      by_cases c : oP l = (defaultL (oA l).1).1
      · rw [if_pos c, if_pos rfl, c]
      · rw [if_neg c, if_neg (by omega)]
    rw [hP, hR, hU]
    simp only
    rw [hport, u2, u3, if_pos k4]
  · have hP : parseO l = none := by unfold parseO; rw [if_neg c0, if_neg c1]
    rw [hP, hR]
    cases hU : urlL l with
    | none => rfl
    | some u =>
      simp only
      by_cases c2 : orgT u.sch u.ho (portL u.sch u.po) = l
      · have := parse_org (urlL_n hb hU)
        rw [c2, hP] at this
        cases this
      · rw [if_neg c2]
theorem trimR_keep {A : List Int} (h : Vis A) (R : List Int) : trimR (A ++ R) = A ++ trimR R := by
  rw [trimR_app]
  split
  · rename_i e; rw [trimR_vis h, e, List.append_nil]
  · rfl
theorem clean_front {A R : List Int} (h : Vis A) (hn : A ≠ []) : ∃ R', cleanL (A ++ R) = A ++ R' := by
  refine ⟨(trimR R).filter keepB, ?_⟩
  have hk : A.filter keepB = A := by
    rw [List.filter_eq_self]
    intro c hc
    have := h c hc
    have h1 : ¬ c = 9 := by omega
    have h2 : ¬ c = 10 := by omega
    have h3 : ¬ c = 13 := by omega
    simp [keepB, h1, h2, h3]
  unfold cleanL
  rw [trimL_app, trimL_vis h, if_neg hn, trimR_keep h, List.filter_append, hk]
/-- an Origin's text with a path behind it -/
theorem org_tail {u : Url} (h : UrlN u) {tail : List Int} (hb : Byt tail) (hu : utf8B tail = true) (hl : (orgT u.sch u.ho (portL u.sch u.po) ++ 47 :: tail).length ≤ 65536) : ∃ v, urlL (orgT u.sch u.ho (portL u.sch u.po) ++ 47 :: tail) = some v ∧ v.sch = u.sch ∧ v.ho = u.ho ∧ v.po = u.po := by
  have hf := org_form h
  have hv0 := org_vis h.sch h.ho (po_or h.po)
  rw [← hf] at hv0
  have hv : Vis (orgT u.sch u.ho (portL u.sch u.po) ++ [47]) := Vis.app hv0 (vis_dec _ (by decide))
  have e : orgT u.sch u.ho (portL u.sch u.po) ++ 47 :: tail = (orgT u.sch u.ho (portL u.sch u.po) ++ [47]) ++ tail := by simp
  obtain ⟨R', hR⟩ := clean_front (R := tail) hv (by simp)
  obtain ⟨w, w1, w2, w3, w4⟩ := org_url (r := 47 :: R') h.sch h.ho h.po (.inr ⟨R', rfl⟩)
  refine ⟨w, ?_, w2, w3, w4⟩
  unfold urlL
  rw [if_neg (by omega), e, utf8_front _ _ _ (Nat.le_refl _) hv.byt (utf8_vis hv), hu, if_pos rfl, hR, hf, ← w1]
  simp
end GoD
