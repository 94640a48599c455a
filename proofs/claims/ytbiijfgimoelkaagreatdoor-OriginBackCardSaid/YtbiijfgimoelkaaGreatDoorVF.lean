import Derived.Test.YtbiijfgimoelkaaGreatDoorVE
import Derived.Test.YtbiijfgimoelkaaGreatDoorOX
/-! OriginParses, OriginBack: the laws' runs. -/
namespace GoD
open Go Go.Proofs
set_option linter.unusedVariables false
set_option linter.unusedSimpArgs false
set_option maxHeartbeats 8000000
set_option maxRecDepth 100000
def pLawOrC : Ct := fun args h => match args with | [.s l] => some (.b true, h) | _ => none
theorem pLawOr_ok : CtOk Tryz.prog G0 7 pLawOrC := by
  refine ct_plain (n := 1) fol (sound_cons pAwakeO_ok (sound_cons pOParse_ok (sound_cons rOrigin_ok sound_nil))) (by kernel_rfl) Tryz.func7 rfl fun args h v h' hc r xs H hr hx => ?_
  unfold pLawOrC at hc; split at hc <;> (try split at hc) <;> cases hc
  rename_i l
  obtain ⟨⟨hs, hl⟩, _⟩ := str_of hx
  refine ⟨rfl, rfl, by simp [renV, bndV], ?_⟩
  by_cases c1 : (3000 : Int) < l.length
  · simp -implicitDefEqProofs [go_sem, Tryz.f7, pAwakeOC, c1]
  · have hq := origin_eq hs (by omega)
    have l4 : l.length ≤ 400000 := by omega
    obtain ⟨o, ho⟩ : ∃ o, refO l = o := ⟨_, rfl⟩
    rw [ho] at hq
    cases o with
    | none => simp -implicitDefEqProofs [go_sem, Tryz.f7, pAwakeOC, pOParseC, rOriginC, c1, l4, hq, ho, oAns]
    | some x =>
      obtain ⟨a, b, p⟩ := x
      simp -implicitDefEqProofs [go_sem, Tryz.f7, pAwakeOC, pOParseC, rOriginC, c1, l4, hq, ho, oAns]
theorem ofAns_pair (o : Option Url) : ∃ a b p q, ofAns o = .tup [.agg [.s a, .s b, .i .i64 p], .b q] := by cases o <;> exact ⟨_, _, _, _, rfl⟩
def pLawObC : Ct := fun args h => match args with | [.s l, .s m] => some (.b true, h) | _ => none
theorem pLawOb_ok : CtOk Tryz.prog G0 8 pLawObC := by
  refine ct_plain (n := 2) fol (sound_cons pAwakeO_ok (sound_cons pOf12_ok (sound_cons pOText_ok (sound_cons pOParse_ok (sound_cons pOSame_ok (sound_cons rUTF8_ok sound_nil)))))) (by kernel_rfl) Tryz.func8 rfl fun args h v h' hc r xs H hr hx => ?_
  unfold pLawObC at hc; split at hc <;> (try split at hc) <;> cases hc
  rename_i l m
  obtain ⟨⟨hs, hl⟩, ys, hys⟩ := str_of hx
  obtain ⟨⟨hs2, hl2⟩, _⟩ := str_of hys
  refine ⟨rfl, rfl, by simp [renV, bndV], ?_⟩
  have w1 : IntKind.i64.wrap ((l.length : Int) + m.length) = (l.length : Int) + m.length := w64 (by omega)
  by_cases c1 : (3000 : Int) < (l.length : Int) + m.length
  · simp -implicitDefEqProofs [go_sem, Tryz.f8, pAwakeOC, w1, c1]
  have hp := parse_eq hs
  cases hu : urlL l with
  | none =>
    rw [hu] at hp
    simp -implicitDefEqProofs [go_sem, Tryz.f8, pAwakeOC, pOf12C, w1, c1, hp, ofAns]
  | some u =>
    rw [hu] at hp
    have hn := urlL_n hs hu
    have hp1 := portL_le hn
    have h1 := (urlL_len hu).1
    have h2 := (scheme_at hn.sch []).2.2.2.1
    have h3 : u.sch.length + u.ho.length ≤ 1000000 := by omega
    have hO := parse_org hn
    have hz : oNull u.sch u.ho (portL u.sch u.po) = false := by unfold oNull; rw [decide_eq_false (scheme_at hn.sch []).2.2.2.2]; rfl
    obtain ⟨P, hP⟩ : ∃ P, portL u.sch u.po = P := ⟨_, rfl⟩
    have hf := org_form hn
    have hvis := org_vis hn.sch hn.ho (po_or hn.po)
    rw [← hf] at hvis
    have hpt : (ptT u.po).length ≤ 11 := by
      have h4 := decI_len (p := u.po) (by rcases hn.po with h | h <;> omega)
      unfold ptT
      split <;> simp; omega
    have hTl : (orgT u.sch u.ho (portL u.sch u.po)).length ≤ 4000 := by rw [hf]; simp; omega
    have hT := org_tail hn (tail := m) hs2
    rw [hP] at hp1 hO hz hf hvis hTl hT
    obtain ⟨T, eT⟩ : ∃ T, orgT u.sch u.ho P = T := ⟨_, rfl⟩
    rw [eT] at hO hvis hTl hT
    have k1 : T.length ≤ 400000 := by omega
    have k2 : T.length + 1 ≤ 281474976710656 := by omega
    have k3 : T.length + 1 + m.length ≤ 281474976710656 := by omega
    have k4 : T.length + (m.length + 1) ≤ 281474976710656 := by omega
    have k5 : T.length + (1 + m.length) ≤ 281474976710656 := by omega
    have k6 : 1 + m.length ≤ 281474976710656 := by omega
    have k7 : m.length + 1 ≤ 281474976710656 := by omega
    have hpb : parseU (T ++ 47 :: m) = urlL (T ++ 47 :: m) := parse_eq fun c hc => by
      rcases List.mem_append.1 hc with h | h
      · exact hvis.byt c h
      · rcases List.mem_cons.1 h with rfl | h
        · omega
        · exact hs2 c h
    have hTl2 : (T ++ 47 :: m).length ≤ 65536 := by simp; omega
    simp only [Tryz.f8, run_seq]
    generalize hK8 : (Code.region 8 _ _).seq _ = K8
    have rest : ∀ (t : Tm) (a b : List Int) (p : Int) (q : Bool), (utf8B m = true → a = u.sch ∧ b = u.ho ∧ p = P ∧ q = true) → get t 1 = .s m → get t 5 = .p h.length 0 → get t 7 = .p (h.length + 1) 0 → get t 8 = .i .i64 0 → get t 9 = .p (h.length + 2) 0 → get t 10 = .b q → Run (ctx Tryz.prog G0 [(11, pAwakeOC), (27, pOf12C), (12, pOTextC), (25, pOParseC), (18, pOSameC), (28, rUTF8C)]) (Fini (ctx Tryz.prog G0 [(11, pAwakeOC), (27, pOf12C), (12, pOTextC), (25, pOParseC), (18, pOSameC), (28, rUTF8C)]) Tryz.f8.results.toList fun v' h1 => v' = V.b true ∧ Ext h h1) [.c K8] t (h ++ [⟨2, true, [.s u.sch, .s u.ho, .i .i64 P]⟩, ⟨2, true, [.s u.sch, .s u.ho, .i .i64 P]⟩, ⟨2, true, [.s a, .s b, .i .i64 p]⟩]) := by
      intro t a b p q hq t1 t5 t7 t8 t9 t10
      subst hK8
      have hE : Ext h (h ++ [(⟨2, true, [.s u.sch, .s u.ho, .i .i64 P]⟩ : Blk), ⟨2, true, [.s u.sch, .s u.ho, .i .i64 P]⟩, ⟨2, true, [.s a, .s b, .i .i64 p]⟩]) := (Ext.refl h).app _
      cases hm : utf8B m with
      | false => simp -implicitDefEqProofs [go_sem, t1, t5, t7, t8, t9, t10, pAwakeOC, pOSameC, rUTF8C, hz, hm, hE]
      | true =>
        obtain ⟨rfl, rfl, rfl, rfl⟩ := hq hm
        simp -implicitDefEqProofs [go_sem, t1, t5, t7, t8, t9, t10, pAwakeOC, pOSameC, rUTF8C, hz, hm, hE]
    obtain ⟨a, b, p, q, hA, hq⟩ : ∃ a b p q, ofAns (parseU (T ++ 47 :: m)) = .tup [.agg [.s a, .s b, .i .i64 p], .b q] ∧ (utf8B m = true → a = u.sch ∧ b = u.ho ∧ p = P ∧ q = true) := by
      cases hm : utf8B m with
      | false =>
        obtain ⟨a, b, p, q, hA⟩ := ofAns_pair (parseU (T ++ 47 :: m))
        exact ⟨a, b, p, q, hA, fun e => by cases e⟩
      | true =>
        obtain ⟨v, v1, v2, v3, v4⟩ := hT hm hTl2
        rw [v1] at hpb
        exact ⟨u.sch, u.ho, P, true, by rw [hpb, ofAns, v2, v3, v4, hP], fun _ => ⟨rfl, rfl, rfl, rfl⟩⟩
    have hs0 : ofAns (some u) = .tup [.agg [.s u.sch, .s u.ho, .i .i64 P], .b true] := by rw [ofAns, hP]
    simp -implicitDefEqProofs [go_sem, Tryz.f8, pOf12C, pOTextC, pOParseC, w1, c1, hp, hs0, h3, hp1, eT, k1, k2, k3, k4, k5, k6, k7, hO, oAns, hA]
    refine rest _ a b p q hq ?_ ?_ ?_ ?_ ?_ ?_ <;> simp -implicitDefEqProofs [go_sem]
end GoD
