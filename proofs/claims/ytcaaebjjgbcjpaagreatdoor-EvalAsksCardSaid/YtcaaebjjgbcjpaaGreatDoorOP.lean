import Derived.Test.YtcaaebjjgbcjpaaGreatDoorOK
import Derived.Test.YtcaaebjjgbcjpaaGreatDoorOE
import Derived.Test.YtcaaebjjgbcjpaaGreatDoorPF
import Derived.Test.YtcaaebjjgbcjpaaGreatDoorEN
/-! url.Parse. -/
namespace GoD
open Go Go.Proofs
set_option linter.unusedVariables false
set_option linter.unusedSimpArgs false
set_option maxHeartbeats 8000000
set_option maxRecDepth 100000
def pPUtf8C : Ct := fun args h => match args with | [.s l] => some (.b (validR l), h) | _ => none
theorem pPUtf8_ok : CtOk Tryz.prog G0 96 pPUtf8C := by
  refine ct_plain (n := 1) fol (sound_cons pValid_ok sound_nil) (by kernel_rfl) Tryz.func96 rfl fun args h v h' hc r xs H hr hx => ?_
  unfold pPUtf8C at hc; split at hc <;> (try split at hc) <;> cases hc
  rename_i l
  refine ⟨rfl, rfl, by simp [renV, bndV], ?_⟩
  simp -implicitDefEqProofs [go_sem, Tryz.f96, pValidC]
def rdL (l : List Int) (u : Url) : Blk := ⟨2, true, [.s l, .s u.sch, .s u.us, .s u.pa, .s u.ho, .i .i64 u.po, .s u.path, .b u.q, .s u.qu, .b u.f, .s u.fr]⟩
theorem set_last (h : Heap) (A B : Blk) : (h ++ [A]).set h.length B = h ++ [B] := by
  rw [List.set_append_right _ _ (Nat.le_refl _), Nat.sub_self]; rfl
theorem get_lastB (h : Heap) (A : Blk) : hget (h ++ [A]) h.length = A := by rw [hget_at0 rfl]; rfl
theorem pPassU_e {h : Heap} {m l : List Int} {u : Url} (hl : l.length ≤ 1048576) : pPassUC [.p h.length 0, .s m] (h ++ [rdL l u]) = some (.b (decide (passK m l = 1)), h ++ [rdL (l.drop (passK m l)) u]) := by
  have := pPassU_at (h := h ++ [rdL l u]) (m := m) (l := l) (c := u.cells) (get_lastB h _) (by simp) rfl hl
  rw [this, set_last]; rfl
theorem pUpTo_e {h : Heap} {m l : List Int} {u : Url} (hl : l.length ≤ 1048576) : pUpToC [.p h.length 0, .s m] (h ++ [rdL l u]) = some (.s (l.take (upL m l)), h ++ [rdL (l.drop (upL m l)) u]) := by
  have := pUpTo_at (h := h ++ [rdL l u]) (m := m) (l := l) (c := u.cells) (get_lastB h _) (by simp) rfl hl
  rw [this, set_last]; rfl
theorem pSchU_e {h : Heap} {l : List Int} {u : Url} (hl : l.length ≤ 1048576) : pSchUC [.p h.length 0] (h ++ [rdL l u]) = some (.b (schUR l u).1, h ++ [rdL (schUR l u).2.1 (schUR l u).2.2]) := by
  unfold pSchUC
  have hr : rdAt (h ++ [rdL l u]) h.length = some (l, u) := rdAt_of (get_lastB h _)
  simp only [hr]
  rw [if_pos ⟨by simp, hl⟩, set_last]; rfl
theorem pAuthU_e {h : Heap} {l : List Int} {u : Url} (hl : l.length ≤ 1048576) : pAuthUC [.p h.length 0] (h ++ [rdL l u]) = some (.b (authUR l u).1, h ++ [rdL (l.drop (upL [47, 92, 63, 35] l)) (authUR l u).2]) := by
  unfold pAuthUC
  have hr : rdAt (h ++ [rdL l u]) h.length = some (l, u) := rdAt_of (get_lastB h _)
  simp only [hr]
  rw [if_pos ⟨by simp, hl⟩, set_last]; rfl
theorem pPathU_e {h : Heap} {l : List Int} {u : Url} (hl : l.length ≤ 1048576) : pPathUC [.p h.length 0] (h ++ [rdL l u]) = some (.tup [], h ++ [rdL (pathRunU [] l).2 { u with path := pathU l }]) := by
  unfold pPathUC
  have hr : rdAt (h ++ [rdL l u]) h.length = some (l, u) := rdAt_of (get_lastB h _)
  simp only [hr]
  rw [if_pos ⟨by simp, hl⟩, set_last]; rfl
theorem pathRunU_len : ∀ (n : Nat) (acc : List (List Int)) (l : List Int), l.length ≤ n → (pathRunU acc l).2.length ≤ l.length
  | _, acc, [], _ => by rw [pathRunU]; exact Nat.le_refl _
  | 0, acc, c :: t, h => by simp at h
  | n + 1, acc, c :: t, h => by
    by_cases hc : c = 47 ∨ c = 92
    · rw [pathRunU_go hc]
      have := pathRunU_len n (pathStepU acc (t.take (upM t)) (t.drop (upM t))) (t.drop (upM t)) (by simp at h ⊢; omega)
      simp at this ⊢; omega
    · rw [pathRunU_stop hc]; exact Nat.le_refl _
theorem urlAns_none : urlAns none = .tup [.agg [.s [], .s [], .s [], .s [], .i .i64 0, .s [], .b false, .s [], .b false, .s []], .i .i64 8] := rfl
theorem urlAns_some (u : Url) : urlAns (some u) = .tup [.agg [.s u.sch, .s u.us, .s u.pa, .s u.ho, .i .i64 u.po, .s u.path, .b u.q, .s u.qu, .b u.f, .s u.fr], .i .i64 0] := rfl
theorem passK_01 (m l : List Int) : passK m l = 0 ∨ passK m l = 1 := by
  cases l with
  | nil => exact .inl rfl
  | cons d t =>
    by_cases h : d ∈ m
    · exact .inr (if_pos h)
    · exact .inl (if_neg h)
def schL0 (s : List Int) : Bool × List Int × Url := schUR s urlZ
def fragU (l : List Int) (u : Url) : Url := if passK [35] l = 1 then { u with f := true, fr := encL 1 (l.drop (passK [35] l)) } else { u with f := false }
def queryU (l : List Int) (u : Url) : List Int × Url := if passK [63] l = 1 then ((l.drop (passK [63] l)).drop (upL [35] (l.drop (passK [63] l))), { u with q := true, qu := encL 2 ((l.drop (passK [63] l)).take (upL [35] (l.drop (passK [63] l)))) }) else (l, { u with q := false })
def parseU3 (l : List Int) (u : Url) : Url := fragU (queryU (pathRunU [] l).2 { u with path := pathU l }).1 (queryU (pathRunU [] l).2 { u with path := pathU l }).2
def parseU2 (l : List Int) (u : Url) : Option Url := if (authUR l u).1 = true then some (parseU3 (l.drop (upL [47, 92, 63, 35] l)) (authUR l u).2) else none
def parseU1 (s : List Int) : Option Url := if (schUR s urlZ).1 = true then parseU2 (skipL (schUR s urlZ).2.1) (schUR s urlZ).2.2 else none
def parseU (l : List Int) : Option Url := if 65536 < l.length then none else if validR l = true then parseU1 (rmL (trimGo l)) else none
def pUParseC : Ct := fun args h => match args with | [.s l] => some (urlAns (parseU l), h) | _ => none
theorem pUParse_ok : CtOk Tryz.prog G0 42 pUParseC := by
  refine ct_plain (n := 1) fol (sound_cons pPUtf8_ok (sound_cons pTrimF_ok (sound_cons pNewR_ok (sound_cons pReplace_ok (sound_cons pSchU_ok (sound_cons pPassU_ok (sound_cons pAuthU_ok (sound_cons pPathU_ok (sound_cons pUpTo_ok (sound_cons pEncode_ok sound_nil)))))))))) (by kernel_rfl) Tryz.func42 rfl fun args h v h' hc r xs H hr hx => ?_
  unfold pUParseC at hc; split at hc <;> (try split at hc) <;> cases hc
  rename_i l
  obtain ⟨⟨hs, hl⟩, _⟩ := str_of hx
  refine ⟨rfl, rfl, urlAns_flat _ _, ?_⟩
  obtain ⟨R, hR⟩ : ∃ R, parseU l = R := ⟨_, rfl⟩
  rw [hR]
  unfold parseU at hR
  by_cases c1 : 65536 < l.length
  · have c1' : (65536 : Int) < l.length := by omega
    rw [if_pos c1] at hR
    subst hR
    simp -implicitDefEqProofs [go_sem, Tryz.f42, c1, c1', urlAns, urlZ, Url.V, Url.cells]
  · have c1' : ¬ (65536 : Int) < l.length := by omega
    rw [if_neg c1] at hR
    by_cases c2 : validR l = true
    · rw [if_pos c2] at hR
      simp only [Tryz.f42, run_seq]
      generalize hK : (Code.region 6 _ _).seq _ = K
      obtain ⟨s1, hs1⟩ : ∃ s, trimGo l = s := ⟨_, rfl⟩
      rw [hs1] at hR
      have hs1l : s1.length ≤ l.length := by
        rw [← hs1]
        unfold trimGo
        rw [ofBA_size]
        have := trimF_size blankR (toBA l)
        rwa [toBA_size] at this
      have hs1b : ∀ c ∈ s1, 0 ≤ c ∧ c < 256 := by
        rw [← hs1]
        intro c hc
        unfold trimGo ofBA at hc
        obtain ⟨d, _, rfl⟩ := List.mem_map.1 hc
        have := d.toNat_lt
        omega
      obtain ⟨s2, hs2⟩ : ∃ s, rmL s1 = s := ⟨_, rfl⟩
      rw [hs2] at hR
      have hs2l : s2.length ≤ 1048576 := by have := rmL_le s1; rw [hs2] at this; omega
      have hT : pTrimFC [.s l, .f (.func 98) []] = fun h => some (.s s1, h) := by
        funext h
        unfold pTrimFC
        simp [show l.length ≤ 1048576 by omega, hs1]
      obtain ⟨Z, hZ⟩ : ∃ Z : Blk, Z = ⟨2, true, [.s [], .s [], .s [], .s [], .i .i64 0, .s [], .b false, .s [], .b false, .s []]⟩ := ⟨_, rfl⟩
      obtain ⟨v, hB, hN, rfl, hhB⟩ := pNewR_go (h := h ++ [Z, ⟨2, true, sts old6⟩]) (b := h.length + 1) (o := 0) (by unfold strsAt; rw [hget_at rfl]; rfl)
      have eL : (h ++ [Z, (⟨2, true, sts old6⟩ : Blk)]).length = h.length + 2 := by simp
      rw [eL] at hN hhB
      have hhB2 : hB = h ++ [Z, ⟨2, true, sts old6⟩, ⟨2, false, sts old6⟩, repB (h.length + 2)] := by rw [hhB, List.append_assoc]; rfl
      obtain ⟨v, h4, hRp, rfl, hE4⟩ := pReplace_go (h := hB) (b := h.length + 3) (q0 := h.length + 2) (l := s1) (by rw [hhB2, hget_at rfl]; rfl) (by rw [hhB2]; unfold strsAt; rw [hget_at rfl]; rfl) (by omega) hs1b
      rw [hs2] at hRp
      have hB4 : hB.length = h.length + 4 := by rw [hhB2]; simp
      have hE : Ext (h ++ [Z]) h4 := by
        have := hE4.1
        refine ⟨by simp; omega, fun i hi => ?_⟩
        simp at hi
        rw [hE4.2 _ (by omega) (by omega), hhB2]
        by_cases e : i < h.length
        · rw [hget_lt e, hget_lt e]
        · have e : i = h.length := by omega
          subst e
          rw [hget_at0 rfl, hget_at0 rfl]; rfl
      have eS : sts old6 = [V.s [9], V.s [], V.s [10], V.s [], V.s [13], V.s []] := rfl
      rw [eS, hZ] at hN
      clear hhB hhB2 hE4
      simp -implicitDefEqProofs [go_sem, c1, c1', pPUtf8C, c2, hT, hN, hRp]
      have eR : h4 ++ [(⟨2, true, [.s s2, .s [], .s [], .s [], .s [], .i .i64 0, .s [], .b false, .s [], .b false, .s []]⟩ : Blk)] = h4 ++ [rdL s2 urlZ] := rfl
      rw [eR]
      refine run_gen (fun t => get t 2 = .p h.length 0 ∧ get t 4 = .p h4.length 0) (by simp -implicitDefEqProofs [go_sem]) ?_
      rintro t ⟨t2, t4⟩
      subst hK
      have hZ4 : hget h4 h.length = Z := by rw [hE.2 _ (by simp), get_lastB]
      have hZl : h.length < h4.length := by have := hE.1; simp at this; omega
      have hEh : Ext h h4 := ((Ext.refl h).app [Z]).trans hE
      have err : ∀ (B : Blk), ∀ Y : Blk, Ext h ((h4 ++ [B]).set h.length Y) := fun B Y => (hEh.app _).set (Nat.le_refl _) _
      have hget4 : ∀ B : Blk, hget (h4 ++ [B]) h.length = Z := fun B => by rw [hget_lt hZl]; exact hZ4
      unfold parseU1 at hR
      have hSch := fun u => pSchU_e (h := h4) (l := s2) (u := u) hs2l
      obtain ⟨S, hS⟩ : ∃ S, schUR s2 urlZ = S := ⟨_, rfl⟩
      have hSch := hSch urlZ
      rw [hS] at hSch hR
      generalize hK : (Code.block 0 _).seq _ = K
      by_cases c3 : S.1 = true
      · rw [if_pos c3] at hR
        rw [c3] at hSch
        simp -implicitDefEqProofs [go_sem, Tryz.f42, t2, t4, hSch]
        refine run_gen (fun t => get t 2 = .p h.length 0 ∧ get t 4 = .p h4.length 0) (by simp -implicitDefEqProofs [go_sem, t2, t4]) ?_
        clear t2 t4
        clear t
        rintro t ⟨t2, t4⟩
        subst hK
        obtain ⟨l1, hl1⟩ : ∃ x, S.2.1 = x := ⟨_, rfl⟩
        obtain ⟨u1, hu1⟩ : ∃ x, S.2.2 = x := ⟨_, rfl⟩
        have hl1l : l1.length ≤ 1048576 := by
          rw [← hl1, ← hS]
          unfold schUR
          split
          · split
            · simp; omega
            · simp; omega
          · simp; omega
        rw [hl1, hu1] at hR ⊢
        generalize hK : ((Code.region 9 _ _).seq _).seq _ = K
        have rest : ∀ (t : Tm) (x : List Int), skipL l1 = x → x.length ≤ 1048576 → get t 2 = .p h.length 0 → get t 4 = .p h4.length 0 → Run (ctx Tryz.prog G0 [(96, pPUtf8C), (97, pTrimFC), (99, pNewRC), (100, pReplaceC), (101, pSchUC), (102, pPassUC), (103, pAuthUC), (104, pPathUC), (106, pUpToC), (105, pEncodeC)]) (Fini (ctx Tryz.prog G0 [(96, pPUtf8C), (97, pTrimFC), (99, pNewRC), (100, pReplaceC), (101, pSchUC), (102, pPassUC), (103, pAuthUC), (104, pPathUC), (106, pUpToC), (105, pEncodeC)]) Tryz.f42.results.toList fun v' h1 => v' = urlAns R ∧ Ext h h1) [.c K] t (h4 ++ [rdL x u1]) := by
          clear t2 t4
          clear t
          intro t x hx hxl t2 t4
          subst hK
          rw [hx] at hR
          unfold parseU2 at hR
          have hA := pAuthU_e (h := h4) (l := x) (u := u1) hxl
          obtain ⟨A, hAe⟩ : ∃ A, authUR x u1 = A := ⟨_, rfl⟩
          rw [hAe] at hA hR
          obtain ⟨l3, hl3⟩ : ∃ y, x.drop (upL [47, 92, 63, 35] x) = y := ⟨_, rfl⟩
          have hl3l : l3.length ≤ 1048576 := by rw [← hl3, List.length_drop]; omega
          rw [hl3] at hA hR
          generalize hK : (Code.region 11 _ _).seq _ = K
          by_cases c4 : A.1 = true
          · rw [if_pos c4] at hR
            rw [c4] at hA
            simp -implicitDefEqProofs [go_sem, t2, t4, hA]
            subst hK
            obtain ⟨u2, hu2⟩ : ∃ x, A.2 = x := ⟨_, rfl⟩
            rw [hu2] at hR ⊢
            have hPa := pPathU_e (h := h4) (l := l3) (u := u2) hl3l
            obtain ⟨l4, hl4⟩ : ∃ x, (pathRunU [] l3).2 = x := ⟨_, rfl⟩
            have hl4l : l4.length ≤ 1048576 := by rw [← hl4]; exact Nat.le_trans (pathRunU_len _ _ _ (Nat.le_refl _)) hl3l
            unfold parseU3 at hR
            obtain ⟨p, hp⟩ : ∃ p, pathU l3 = p := ⟨_, rfl⟩
            rw [hl4, hp] at hPa
            rw [hl4, hp] at hR
            have hQ := pPassU_e (h := h4) (m := [63]) (l := l4) (u := { u2 with path := p }) hl4l
            have errS : ∀ (B : Blk), Ext h (h4 ++ [B]) := fun B => hEh.app _
            simp only [rdL] at hPa
            have goalE : (h4 ++ [rdL l3 u2]) = h4 ++ [⟨2, true, [.s l3, .s u2.sch, .s u2.us, .s u2.pa, .s u2.ho, .i .i64 u2.po, .s u2.path, .b u2.q, .s u2.qu, .b u2.f, .s u2.fr]⟩] := rfl
            rw [goalE]
            unfold queryU at hR
            rcases passK_01 [63] l4 with q0 | q1
            · rw [if_neg (by omega)] at hR
              simp only at hR
              rw [q0, List.drop_zero] at hQ
              simp only [rdL] at hQ
              have hF := pPassU_e (h := h4) (m := [35]) (l := l4) (u := { u2 with path := p, q := false }) (by omega)
              rcases passK_01 [35] l4 with f0 | f1
              · unfold fragU at hR
                rw [if_neg (by omega)] at hR
                rw [f0, List.drop_zero] at hF
                simp only [rdL] at hF
                subst hR
                simp -implicitDefEqProofs [go_sem, t2, t4, hPa, hQ, hF, set_last, hget4, hZ, hget_set, show h.length < h4.length + 1 by omega, err, errS, urlAns_some]
              · unfold fragU at hR
                rw [if_pos f1] at hR
                rw [f1] at hF hR
                simp only [rdL] at hF
                subst hR
                have e1 : (l4.drop 1).length ≤ 1048576 := by rw [List.length_drop]; omega
                simp -implicitDefEqProofs [go_sem, t2, t4, hPa, hQ, hF, pEncodeC, e1, show l4.length ≤ 1048577 by omega, set_last, hget4, hZ, hget_set, show h.length < h4.length + 1 by omega, err, errS, urlAns_some]
            · rw [if_pos q1] at hR
              rw [q1] at hQ hR
              obtain ⟨l5, hl5⟩ : ∃ x, l4.drop 1 = x := ⟨_, rfl⟩
              have hl5l : l5.length ≤ 1048576 := by rw [← hl5, List.length_drop]; omega
              rw [hl5] at hQ hR
              simp only at hR
              have hU5 := pUpTo_e (h := h4) (m := [35]) (l := l5) (u := { u2 with path := p, q := true }) hl5l
              obtain ⟨s5, hs5⟩ : ∃ x, l5.take (upL [35] l5) = x := ⟨_, rfl⟩
              obtain ⟨l6, hl6⟩ : ∃ x, l5.drop (upL [35] l5) = x := ⟨_, rfl⟩
              have hs5l : s5.length ≤ 1048576 := by rw [← hs5, List.length_take]; omega
              have hl6l : l6.length ≤ 1048576 := by rw [← hl6, List.length_drop]; omega
              rw [hs5, hl6] at hU5 hR
              simp only [rdL] at hQ hU5
              have hF := pPassU_e (h := h4) (m := [35]) (l := l6) (u := { u2 with path := p, q := true, qu := encL 2 s5 }) (by omega)
              rcases passK_01 [35] l6 with f0 | f1
              · unfold fragU at hR
                rw [if_neg (by omega)] at hR
                rw [f0, List.drop_zero] at hF
                simp only [rdL] at hF
                subst hR
                simp -implicitDefEqProofs [go_sem, t2, t4, hPa, hQ, hU5, pEncodeC, hs5l, hF, set_last, hget4, hZ, hget_set, show h.length < h4.length + 1 by omega, err, errS, urlAns_some]
              · unfold fragU at hR
                rw [if_pos f1] at hR
                rw [f1] at hF hR
                simp only [rdL] at hF
                subst hR
                have e1 : (l6.drop 1).length ≤ 1048576 := by rw [List.length_drop]; omega
                simp -implicitDefEqProofs [go_sem, t2, t4, hPa, hQ, hU5, pEncodeC, hs5l, hF, pEncodeC, e1, show l6.length ≤ 1048577 by omega, set_last, hget4, hZ, hget_set, show h.length < h4.length + 1 by omega, err, errS, urlAns_some]
          · rw [if_neg c4] at hR
            subst hR
            have c4' : A.1 = false := by simpa using c4
            rw [c4'] at hA
            simp -implicitDefEqProofs [go_sem, t2, t4, hA, hget4, hZ, hget_set, show h.length < h4.length + 1 by omega, err, urlAns_none]
        simp -implicitDefEqProofs [go_sem]
        refine run_inv _ _ _ _ _ (fun (x : List Int) t hx => get t 2 = .p h.length 0 ∧ get t 4 = .p h4.length 0 ∧ skipL l1 = skipL x ∧ x.length ≤ 1048576 ∧ hx = h4 ++ [rdL x u1]) (fun x => x.length) _ (x := l1) ⟨t2, t4, rfl, hl1l, rfl⟩ ?_
        clear t2 t4
        clear t
        rintro x t hx ⟨t2, t4, hsk, hxl, rfl⟩ ih
        have hP := pPassU_e (h := h4) (m := [47, 92]) (l := x) (u := u1) hxl
        match x with
        | [] =>
          rw [show passK [47, 92] [] = 0 from rfl, List.drop_zero] at hP
          simp -implicitDefEqProofs [go_sem, t4, hP]
          exact rest _ [] hsk (by simp) (by simp -implicitDefEqProofs [go_sem, t2]) (by simp -implicitDefEqProofs [go_sem, t4])
        | d :: y =>
          by_cases c5 : d = 47 ∨ d = 92
          · have hk : passK [47, 92] (d :: y) = 1 := if_pos (by simpa using c5)
            rw [hk, List.drop_succ_cons, List.drop_zero] at hP
            simp -implicitDefEqProofs [go_sem, t4, hP]
            refine ih y _ _ (by simp) ⟨by simp -implicitDefEqProofs [go_sem, t2], by simp -implicitDefEqProofs [go_sem, t4], by rw [hsk, skipL, if_pos c5], by simp at hxl; omega, rfl⟩
          · have hk : passK [47, 92] (d :: y) = 0 := if_neg (by simp; exact ⟨fun e => c5 (.inl e), fun e => c5 (.inr e)⟩)
            rw [hk, List.drop_zero] at hP
            simp -implicitDefEqProofs [go_sem, t4, hP]
            exact rest _ (d :: y) (by rw [hsk, skipL, if_neg c5]) hxl (by simp -implicitDefEqProofs [go_sem, t2]) (by simp -implicitDefEqProofs [go_sem, t4])
      · rw [if_neg c3] at hR
        subst hR
        have c3' : S.1 = false := by simpa using c3
        rw [c3'] at hSch
        simp -implicitDefEqProofs [go_sem, Tryz.f42, t2, t4, hSch, hget4, hZ, hget_set, show h.length < h4.length + 1 by omega, err, urlAns_none]
    · rw [if_neg c2] at hR
      subst hR
      have c2' : validR l = false := by simpa using c2
      simp -implicitDefEqProofs [go_sem, Tryz.f42, c1, c1', pPUtf8C, c2', urlAns, urlZ, Url.V, Url.cells]
end GoD

/-! A URL's text, on both sides. -/
namespace GoD
open Go Go.Proofs
set_option linter.unusedVariables false
set_option linter.unusedSimpArgs false
set_option maxHeartbeats 8000000
set_option maxRecDepth 100000
def preT (a b c : List Int) : List Int := a ++ [58, 47, 47] ++ (if b = [] ∧ c = [] then [] else b ++ (if c = [] then [] else 58 :: c) ++ [64])
def midT (d : List Int) (p : Int) (e : List Int) : List Int := d ++ (if p = -1 then [] else 58 :: decI p) ++ e
def sufT (m : Int) (q : Bool) (f : List Int) : List Int := if q = true then m :: f else []
def textU (u : Url) : List Int := preT u.sch u.us u.pa ++ (midT u.ho u.po u.path ++ (sufT 63 u.q u.qu ++ sufT 35 u.f u.fr))
def urlSum (u : Url) : Nat := u.sch.length + u.us.length + u.pa.length + u.ho.length + u.path.length + u.qu.length + u.fr.length
theorem decI_len {p : Int} (h : -1 ≤ p ∧ p ≤ 65535) : (decI p).length ≤ 10 := by
  unfold decI
  split
  · have : p = -1 := by omega
    subst this; decide +kernel
  · have := revD_len 10 p.toNat (by omega)
    by_cases h0 : p.toNat = 0
    · rw [h0, decD]; decide
    · rw [decD_rev (by omega), List.length_reverse]; exact this
def pUTextC : Ct := fun args h => match args with | [.agg [.s a, .s b, .s c, .s d, .i .i64 p, .s e, .b q, .s f, .b g, .s k]] => if urlSum ⟨a, b, c, d, p, e, q, f, g, k⟩ ≤ 1000000 ∧ -1 ≤ p ∧ p ≤ 65535 then some (.s (textU ⟨a, b, c, d, p, e, q, f, g, k⟩), h) else none | _ => none
def rUTextC : Ct := fun args h => match args with | [.agg [.s a, .s b, .s c, .s d, .i .i64 p, .s e, .b q, .s f, .b g, .s k]] => if urlSum ⟨a, b, c, d, p, e, q, f, g, k⟩ ≤ 1000000 ∧ -1 ≤ p ∧ p ≤ 65535 then some (.s (textU ⟨a, b, c, d, p, e, q, f, g, k⟩), h) else none | _ => none
end GoD

/-! Chapter 11's guards, what the document fixes, and UrlTexts. -/
namespace GoD
open Go Go.Proofs
set_option linter.unusedVariables false
set_option linter.unusedSimpArgs false
set_option maxHeartbeats 8000000
set_option maxRecDepth 100000
def pAPortC : Ct := fun args h => match args with | [.i .i64 p] => some (.b (decide (-1 ≤ p) && decide (p ≤ 65535)), h) | _ => none
def urlOkB (u : Url) : Bool := decide (-1 ≤ u.po) && decide (u.po ≤ 65535) && decide (urlSum u ≤ 3000)
theorem agg10 {r : List (Option Loc)} {a b c d e f k : List Int} {p : Int} {q g : Bool} {xs : List Value} (hx : RL r [V.agg [.s a, .s b, .s c, .s d, .i .i64 p, .s e, .b q, .s f, .b g, .s k]] xs) : a.length ≤ 281474976710656 ∧ b.length ≤ 281474976710656 ∧ c.length ≤ 281474976710656 ∧ d.length ≤ 281474976710656 ∧ e.length ≤ 281474976710656 ∧ f.length ≤ 281474976710656 ∧ k.length ≤ 281474976710656 := by
  cases hx with | cons h1 h2 =>
  cases h1 with | agg _ ys h3 =>
  have h := fun (i : Nat) (l : List Int) (hi : ([.s a, .s b, .s c, .s d, .i .i64 p, .s e, .b q, .s f, .b g, .s k] : List V)[i]? = some (.s l)) => show l.length ≤ 281474976710656 by
    obtain ⟨x, _, hr⟩ := h3.get? hi
    cases hr with | s _ hl => exact hl.2
  exact ⟨h 0 a rfl, h 1 b rfl, h 2 c rfl, h 3 d rfl, h 5 e rfl, h 7 f rfl, h 9 k rfl⟩
def pAUrlC : Ct := fun args h => match args with | [.agg [.s a, .s b, .s c, .s d, .i .i64 p, .s e, .b q, .s f, .b g, .s k]] => some (.b (urlOkB ⟨a, b, c, d, p, e, q, f, g, k⟩), h) | _ => none
def aw1 : List Int := [72, 84, 84, 80, 83, 58, 92, 92, 69, 120, 46, 99, 111, 109, 58, 52, 52, 51, 92, 97, 92, 46, 46, 92, 98, 63, 113, 35, 102]
def aw1U : Url := ⟨[104, 116, 116, 112, 115], [], [], [101, 120, 46, 99, 111, 109], -1, [47, 98], true, [113], true, [102]⟩
theorem aw1_eq : parseU aw1 = some aw1U := by kernel_rfl
theorem aw2_eq : parseU [102, 105, 108, 101, 58, 47, 47, 47, 97] = none := by kernel_rfl
theorem aw1_t : textU aw1U = [104, 116, 116, 112, 115, 58, 47, 47, 101, 120, 46, 99, 111, 109, 47, 98, 63, 113, 35, 102] := by kernel_rfl
def pAwakeUC : Ct := fun args h => match args with | [] => some (.b true, h) | _ => none
theorem urlOk_sum {u : Url} (h : urlOkB u = true) : urlSum u ≤ 1000000 ∧ -1 ≤ u.po ∧ u.po ≤ 65535 := by
  unfold urlOkB at h
  simp only [Bool.and_eq_true, decide_eq_true_eq] at h
  omega
def pLawUtC : Ct := fun args h => match args with | [.agg [.s a, .s b, .s c, .s d, .i .i64 p, .s e, .b q, .s f, .b g, .s k]] => some (.b true, h) | _ => none
end GoD
