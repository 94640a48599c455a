import Derived.Test.YtfpjamnilcjnjaaGreatDoorZF
import Derived.Test.YtfpjamnilcjnjaaGreatDoorOX
import Derived.Test.YtfpjamnilcjnjaaGreatDoorLT
/-! UrlDots: the law's run. -/
namespace GoD
open Go Go.Proofs
set_option linter.unusedVariables false
set_option linter.unusedSimpArgs false
set_option maxHeartbeats 8000000
set_option maxRecDepth 100000
def dotOf (p : List Int) : List Int := if p.length % 4 = 1 then [46] else if p.length % 4 = 2 then [37, 50, 69, 46] else [120]
theorem dotOf_mem (p : List Int) : dotOf p ∈ dot3 := by unfold dotOf; split <;> (try split) <;> simp [dot3]
theorem round4 (n : Nat) : roundU (n : Int) 4 = ((n % 4 : Nat) : Int) := by
  unfold roundU
  have : (n : Int).tmod 4 = ((n % 4 : Nat) : Int) := rfl
  rw [this, if_neg (by omega)]
theorem dots_x {W : List (List Int)} {b : Bool} (p : List Int) (h : ∀ q ∈ W, q = [120]) : ∀ q ∈ (dotS (W, b) p).1, q = [120] := by
  intro q hq
  unfold dotS at hq
  split at hq
  · rcases List.mem_append.1 hq with hq | hq
    · exact h q hq
    · simpa using hq
  · split at hq
    · exact h q hq
    · exact h q ((List.dropLast_sublist W).mem hq)
theorem slash_x : ∀ {W : List (List Int)}, (∀ q ∈ W, q = [120]) → (slashL W).length = 2 * W.length
  | [], _ => rfl
  | q :: t, h => by
    rw [slashL_cons, h q (by simp)]
    have := slash_x (W := t) fun x hx => h x (by simp [hx])
    simp
    omega
theorem slash_dots : ∀ {W : List (List Int)}, (∀ q ∈ W, q ∈ dot3) → (slashL W).length ≤ 5 * W.length
  | [], _ => by simp [slashL]
  | q :: t, h => by
    have h4 : ∀ p ∈ dot3, p.length ≤ 4 := by decide
    have := h4 q (h q (by simp))
    have := slash_dots (W := t) fun x hx => h x (by simp [hx])
    rw [slashL_cons]
    simp
    omega
def pLawUdC : Ct := fun args h => match args with
  | [.sl b o n 1] => (match strsAt h b o n with | some y => if ∀ p ∈ y, p.length ≤ 281474976710656 then some (.b true, h) else none | none => none)
  | _ => none
/-- what stands for the row so far -/
def WantB (h h1 : Heap) (v : V) (W : List (List Int)) : Prop := ∃ m c, v = .sl m 0 W.length 1 ∧ hget h1 m = ⟨2, false, c⟩ ∧ ldN c 0 W.length = some (sts W) ∧ h.length ≤ m ∧ m < h1.length
theorem pLawUd_ok : CtOk Tryz.prog G0 7 pLawUdC := by
  refine ct_plain (n := 1) fol (sound_cons pAwakeU_ok (sound_cons pUParse_ok (sound_cons pRoundU_ok (sound_cons pTotal_ok sound_nil)))) (by kernel_rfl) Tryz.func7 rfl fun args h v h' hc r xs H hr hx => ?_
  unfold pLawUdC at hc; split at hc <;> (try split at hc) <;> (try split at hc) <;> cases hc
  rename_i b o n _ y hy hyl
  obtain ⟨st, xx, c, hg, hld, hn, hc⟩ := strsAt_eq hy
  have hb := hget_pos hg
  have hn6 := (sl_of hx).1
  refine ⟨rfl, rfl, by simp [renV, bndV], ?_⟩
  have hT : pTotalC [.sl b o n 1, .i .i64 3000] h = some (.i .i64 (totL 3000 n y), h) := by simp only [pTotalC, hy]; rw [if_pos ⟨hyl, by omega, by omega⟩]
  by_cases c1 : 3000 < totL 3000 n y
  · simp -implicitDefEqProofs [go_sem, Tryz.f7, pAwakeUC, hT, c1]
  by_cases c2 : (60 : Int) < n
  · simp -implicitDefEqProofs [go_sem, Tryz.f7, pAwakeUC, hT, c1, c2]
  have hp3 := totL_le (show totL 3000 (n : Int) y ≤ 3000 by omega) (by omega)
  have hn60 : n ≤ 60 := by omega
  obtain ⟨ps, hps⟩ : ∃ ps, y.map dotOf = ps := ⟨_, rfl⟩
  have hpl : ps.length = n := by rw [← hps, List.length_map, hn]
  have hpm : ∀ x ∈ ps, x ∈ dot3 := by
    intro x hx
    rw [← hps] at hx
    obtain ⟨p, _, rfl⟩ := List.mem_map.1 hx
    exact dotOf_mem p
  obtain ⟨hv, u, hu, hup⟩ := dots_url hpm (by omega)
  have hU : parseU (httpA ++ slashL ps) = some u := (parse_eq hv.byt).trans hu
  clear hu hv
  simp only [Tryz.f7, run_seq]
  generalize hK25 : (Code.region 25 _ _).seq _ = K25
  have rest : ∀ (t : Tm) (h1 : Heap) (W : List (List Int)) (la : Bool), ps.foldl dotS ([], false) = (W, la) → (∀ q ∈ W, q = [120]) → W.length ≤ 60 → get t 3 = .s (httpA ++ slashL ps) → WantB h h1 (get t 4) W → get t 5 = .s (if la = true then [120] else []) → Ext h h1 → Run (ctx Tryz.prog G0 [(9, pAwakeUC), (10, pUParseC), (19, pRoundUC), (21, pTotalC)]) (Fini (ctx Tryz.prog G0 [(9, pAwakeUC), (10, pUParseC), (19, pRoundUC), (21, pTotalC)]) Tryz.f7.results.toList fun v' h1 => v' = V.b true ∧ Ext h h1) [.c K25] t h1 := by
    intro t h1 W la hW hWx hWl t3 t4 t5 he
    subst hK25
    rw [hW] at hup
    generalize hK30 : ((Code.region 30 _ _).seq _).seq _ = K30
    have rest2 : ∀ (t : Tm) (h1 : Heap), get t 3 = .s (httpA ++ slashL ps) → get t 8 = .s (slashL W) → get t 5 = .s (if la = true then [120] else []) → Ext h h1 → Run (ctx Tryz.prog G0 [(9, pAwakeUC), (10, pUParseC), (19, pRoundUC), (21, pTotalC)]) (Fini (ctx Tryz.prog G0 [(9, pAwakeUC), (10, pUParseC), (19, pRoundUC), (21, pTotalC)]) Tryz.f7.results.toList fun v' h1 => v' = V.b true ∧ Ext h h1) [.c K30] t h1 := by
      clear t3 t4 t5 he
      clear t h1
      intro t h1 t3 t8 t5 he
      subst hK30
      have lW := slash_x hWx
      obtain ⟨X, hX⟩ : ∃ X, slashL W = X := ⟨_, rfl⟩
      obtain ⟨T, hT⟩ : ∃ X, httpA ++ slashL ps = X := ⟨_, rfl⟩
      rw [hX] at t8 lW
      rw [hT] at t3 hU
      unfold dotF at hup
      simp only [hX] at hup
      have k1 : X.length + 1 ≤ 281474976710656 := by omega
      cases la with
      | true =>
        have hup : u.path = X := by simpa using hup
        simp -implicitDefEqProofs [go_sem, t3, t8, t5, pUParseC, hU, urlAns_some, hup, pAwakeUC, he]
      | false =>
        have hup : u.path = X ++ [47] := by simpa using hup
        simp -implicitDefEqProofs [go_sem, t3, t8, t5, pUParseC, hU, urlAns_some, hup, pAwakeUC, he, k1]
    obtain ⟨m, c', t4, hgm, hldm, hm, hm'⟩ := t4
    simp -implicitDefEqProofs [go_sem]
    refine run_inv _ _ _ _ _ (fun (i : Nat) t h2 => i ≤ W.length ∧ get t 3 = .s (httpA ++ slashL ps) ∧ get t 4 = .sl m 0 W.length 1 ∧ get t 5 = .s (if la = true then [120] else []) ∧ get t 8 = .s (slashL (W.take i)) ∧ get t 9 = .i .i64 i ∧ h2 = h1) (fun i => W.length - i) _ (x := 0) ⟨by simp, by simp -implicitDefEqProofs [go_sem, t3], by simp -implicitDefEqProofs [go_sem, t4], by simp -implicitDefEqProofs [go_sem, t5], by simp -implicitDefEqProofs [go_sem, slashL], by simp -implicitDefEqProofs [go_sem], rfl⟩ ?_
    clear t3 t4 t5
    rintro i t h2 ⟨hi, t3, t4, t5, t8, t9, rfl⟩ ih
    have hi6 : i < 1152921504606846976 := by omega
    by_cases hlt : i < W.length
    · obtain ⟨w, hw⟩ : ∃ w, W[i] = w := ⟨_, rfl⟩
      have hwx : w = [120] := hw ▸ hWx _ (List.getElem_mem hlt)
      have hl1 := ldN_at hldm rfl hlt hlt
      rw [hw] at hl1
      have lX : (slashL (W.take i)).length ≤ 120 := by
        rw [slash_x fun q hq => hWx q (List.mem_of_mem_take hq), List.length_take]; omega
      obtain ⟨X, hX⟩ : ∃ X, slashL (W.take i) = X := ⟨_, rfl⟩
      rw [hX] at t8 lX
      have hS : slashL (W.take (i + 1)) = X ++ 47 :: w := by rw [slashL_snoc hlt, hX, hw]
      subst hwx
      have k1 : X.length + 1 ≤ 281474976710656 := by omega
      have k2 : X.length + 1 + 1 ≤ 281474976710656 := by omega
      have k3 : X.length + 2 ≤ 281474976710656 := by omega
      simp -implicitDefEqProofs [go_sem, t3, t4, t5, t8, t9, hlt, hgm, hl1, k1, k2, k3]
      refine ih (i + 1) _ _ (by omega) ⟨by omega, ?_⟩
      simp -implicitDefEqProofs [go_sem, t3, t4, t5, t8, t9, i64_n hi6, hS]
    · have e : i = W.length := by omega
      rw [e, List.take_length] at t8
      simp -implicitDefEqProofs [go_sem, t3, t4, t5, t8, t9, hlt]
      refine rest2 _ _ ?_ ?_ ?_ he <;> simp -implicitDefEqProofs [go_sem, t3, t5, t8]
  simp -implicitDefEqProofs [go_sem, Tryz.f7, hT, c1, c2]
  refine run_inv _ _ _ _ _ (fun (x : Nat × List (List Int) × Bool) t h1 => x.1 ≤ n ∧ get t 0 = .sl b o n 1 ∧ get t 3 = .s (httpA ++ slashL (ps.take x.1)) ∧ WantB h h1 (get t 4) x.2.1 ∧ get t 5 = .s (if x.2.2 = true then [120] else []) ∧ get t 6 = .i .i64 x.1 ∧ (ps.take x.1).foldl dotS ([], false) = (x.2.1, x.2.2) ∧ (∀ q ∈ x.2.1, q = [120]) ∧ x.2.1.length ≤ x.1 ∧ Ext h h1) (fun x => n - x.1) _ (x := (0, [], false)) ⟨by simp, by simp -implicitDefEqProofs [go_sem], by simp -implicitDefEqProofs [go_sem, slashL, httpA], ⟨h.length, [], by simp -implicitDefEqProofs [go_sem], by simp -implicitDefEqProofs [go_sem], rfl, Nat.le_refl _, by simp⟩, by simp -implicitDefEqProofs [go_sem], by simp -implicitDefEqProofs [go_sem], rfl, by simp, by simp, (Ext.refl h).new _⟩ ?_
  rintro ⟨i, W, la⟩ t h1 ⟨hi, t0, t3, t4, t5, t6, hW, hWx, hWl, he⟩ ih
  simp only at hi t3 t4 t5 t6 hW hWx hWl
  have hi6 : i < 1152921504606846976 := by omega
  by_cases hlt : i < n
  · have hlt' : i < y.length := by omega
    have hlp : i < ps.length := by omega
    obtain ⟨w, hw⟩ : ∃ w, y[i] = w := ⟨_, rfl⟩
    have hwl : w.length ≤ 3000 := by have := hp3 w (hw ▸ List.getElem_mem hlt'); omega
    have hc1 := hc i hlt'
    rw [hw] at hc1
    have hg1 : hget h1 b = ⟨st + 1, xx, c⟩ := by rw [he.2 b hb, hg]
    obtain ⟨P, hP⟩ : ∃ P, ps[i] = P := ⟨_, rfl⟩
    have hPw : P = dotOf w := by rw [← hP, ← hw]; simp [← hps]
    have lX : (slashL (ps.take i)).length ≤ 300 := by
      have := slash_dots fun q hq => hpm q (List.mem_of_mem_take (i := i) hq)
      rw [List.length_take] at this
      omega
    have hS : slashL (ps.take (i + 1)) = slashL (ps.take i) ++ 47 :: P := by rw [slashL_snoc hlp, hP]
    have hF : (ps.take (i + 1)).foldl dotS ([], false) = dotS (W, la) P := by rw [List.take_succ_eq_append_getElem hlp, List.foldl_append, hW, hP]; rfl
    have hx' := dots_x (b := la) P hWx
    obtain ⟨X, hX⟩ : ∃ X, httpA ++ slashL (ps.take i) = X := ⟨_, rfl⟩
    have lX : X.length ≤ 400 := by rw [← hX]; simp [httpA]; omega
    rw [hX] at t3
    have hS : httpA ++ slashL (ps.take (i + 1)) = X ++ 47 :: P := by rw [hS, ← List.append_assoc, hX]
    have k1 : ∀ k : Nat, 400 ≤ k → X.length ≤ k := fun k hk => by omega
    have k2 : ∀ k K : Nat, 400 + k ≤ K → X.length + k ≤ K := fun k K hk => by omega
    have r4 := round4 w.length
    have q4 : w.length % 4 < 4 := Nat.mod_lt _ (by decide)
    unfold dotOf at hPw
    by_cases d1 : w.length % 4 = 1
    · rw [if_pos d1] at hPw
      subst hPw
      rw [d1] at r4
      simp -implicitDefEqProofs [go_sem, t0, t3, t5, t6, hlt, hc1, hg1, pRoundUC, r4, k1, k2]
      refine ih (i + 1, W, false) _ _ (by simp; omega) ⟨by simp; omega, ?_⟩
      simp -implicitDefEqProofs [go_sem, t0, t3, t6, i64_n hi6, hS, hF, dotS, he]
      exact ⟨t4, hWx, by omega⟩
    · rw [if_neg d1] at hPw
      by_cases d2 : w.length % 4 = 2
      · rw [if_pos d2] at hPw
        subst hPw
        rw [d2] at r4
        obtain ⟨m, c', t4, hgm, hldm, hm, hm'⟩ := t4
        by_cases e0 : W.length = 0
        · have e0' : ¬ 0 < W.length := by omega
          have eW := List.length_eq_zero_iff.1 e0
          simp -implicitDefEqProofs [go_sem, t0, t3, t4, t5, t6, hlt, hc1, hg1, pRoundUC, r4, k1, k2, e0']
          refine ih (i + 1, W, false) _ _ (by simp; omega) ⟨by simp; omega, ?_⟩
          simp -implicitDefEqProofs [go_sem, t0, t3, t6, i64_n hi6, hS, hF, dotS, he]
          refine ⟨⟨m, c', t4, hgm, hldm, hm, hm'⟩, by rw [eW]; rfl, hWx, by omega⟩
        · have e0' : (0 : Int) < W.length := by omega
          obtain ⟨j, hj⟩ : ∃ j, W.length = j + 1 := ⟨W.length - 1, by omega⟩
          have hjl := ldN_less hldm rfl j (by omega)
          have hd : W.dropLast = W.take j := by rw [List.dropLast_eq_take, hj]; rfl
          have hjd : (W.take j).length = j := by rw [List.length_take]; omega
          have hq1 : ((j : Int) + 1 - 1) = j := by omega
          rw [hj] at t4 e0'
          have e1 : (j : Int) ≤ (j : Int) + 1 := by omega
          have e2 : 0 < j + 1 := by omega
          have e3 : (j : Int) + 1 - 1 = j := by omega
          simp -implicitDefEqProofs [go_sem, t0, t3, t4, t5, t6, hlt, hc1, hg1, pRoundUC, r4, k1, k2, hq1, w64 (x := (j : Int)) (by omega), e1, e2, e3]
          refine ih (i + 1, W.take j, false) _ _ (by simp; omega) ⟨by simp; omega, ?_⟩
          simp -implicitDefEqProofs [go_sem, t0, t3, t6, i64_n hi6, hS, hF, dotS, he, hd]
          refine ⟨⟨m, c', by rw [hjd], hgm, by rw [hjd]; exact hjl, hm, hm'⟩, fun q hq => hWx q (List.mem_of_mem_take hq), by omega⟩
      · rw [if_neg d2] at hPw
        subst hPw
        have z1 : ¬ ((w.length % 4 : Nat) : Int) = 1 := by omega
        have z2 : ¬ ((w.length % 4 : Nat) : Int) = 2 := by omega
        obtain ⟨z, hz⟩ : ∃ z : Int, ((w.length % 4 : Nat) : Int) = z := ⟨_, rfl⟩
        rw [hz] at r4 z1 z2
        obtain ⟨m, c', t4, hgm, hldm, hm, hm'⟩ := t4
        have hmn : m ≠ h1.length := by omega
        have hWl1 : W.length + 1 ≤ 1099511627776 := by omega
        have hWl2 : (W.length + 1) * 16 ≤ 1099511627776 := by omega
        simp -implicitDefEqProofs [go_sem, t0, t3, t4, t5, t6, hlt, hc1, hg1, pRoundUC, r4, z1, z2, k1, k2, hgm, hm', hmn, hldm, hWl1, hWl2]
        refine ih (i + 1, W ++ [[120]], true) _ _ (by simp; omega) ⟨by simp; omega, ?_⟩
        simp -implicitDefEqProofs [go_sem, t0, t3, t6, i64_n hi6, hS, hF, dotS, he, hm]
        refine ⟨⟨h1.length + 1, sts (W ++ [[120]]), by simp, by simp -implicitDefEqProofs [go_sem, sts], ldN_s rfl, by have := he.1; omega, by simp⟩, ?_⟩
        exact ⟨fun q hq => hq.elim (hWx q) id, by omega⟩
  · have e : i = n := by omega
    have e2 : ps.take i = ps := List.take_of_length_le (by omega)
    rw [e2] at t3 hW
    simp -implicitDefEqProofs [go_sem, Tryz.f7, t0, t3, t5, t6, hlt]
    refine rest _ _ W la hW hWx (by omega) ?_ ?_ ?_ he
    · simp -implicitDefEqProofs [go_sem, t3]
    · simpa [go_sem] using t4
    · simp -implicitDefEqProofs [go_sem, t5]
end GoD
