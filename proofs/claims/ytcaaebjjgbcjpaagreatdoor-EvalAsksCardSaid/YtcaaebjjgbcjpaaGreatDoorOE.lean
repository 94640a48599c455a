import Derived.Test.YtcaaebjjgbcjpaaGreatDoorOC
/-! A replacer of single bytes by nothing: it is used. -/
namespace GoD
open Go Go.Proofs
set_option linter.unusedVariables false
set_option linter.unusedSimpArgs false
set_option maxHeartbeats 4000000
set_option maxRecDepth 100000
def rmB (c : Int) : Bool := decide (c = 13) || decide (c = 10) || decide (c = 9)
def rmL (l : List Int) : List Int := l.filter fun c => !rmB c
theorem rmL_snoc (l : List Int) (c : Int) : rmL (l ++ [c]) = if rmB c = true then rmL l else rmL l ++ [c] := by
  unfold rmL
  rw [List.filter_append]
  by_cases h : rmB c = true <;> simp [h]
theorem rmL_take {l : List Int} {i : Nat} (h : i < l.length) : rmL (l.take (i + 1)) = if rmB l[i] = true then rmL (l.take i) else rmL (l.take i) ++ [l[i]] := by
  rw [List.take_succ_eq_append_getElem h, rmL_snoc]
theorem rmL_pre (l : List Int) (i : Nat) : (rmL (l.take i)).length ≤ (rmL l).length := by
  conv => rhs; rw [← List.take_append_drop i l]
  unfold rmL
  rw [List.filter_append, List.length_append]; omega
theorem rmL_le (l : List Int) : (rmL l).length ≤ l.length := List.length_filter_le _ _
theorem rmL_all {l : List Int} (h : (rmL l).length = l.length) : rmL l = l := by
  unfold rmL at h ⊢
  rw [List.filter_eq_self]
  exact List.length_filter_eq_length_iff.1 h
theorem rmL_count : ∀ l : List Int, l.count 13 + l.count 10 + l.count 9 + (rmL l).length = l.length
  | [] => rfl
  | c :: l => by
    have ih := rmL_count l
    have e : (rmL (c :: l)).length = (rmL l).length + if rmB c = true then 0 else 1 := by
      unfold rmL
      by_cases h : rmB c = true <;> simp [h]
    rw [e, List.count_cons, List.count_cons, List.count_cons, List.length_cons]
    by_cases h1 : c = 13
    · subst h1; simp [rmB]; omega
    · by_cases h2 : c = 10
      · subst h2; simp [rmB]; omega
      · by_cases h3 : c = 9
        · subst h3; simp [rmB]; omega
        · simp [rmB, h1, h2, h3]; omega
def cA (l : List Int) : Nat → Nat
  | 0 => 0
  | 1 => l.count 13
  | 2 => l.count 13 + l.count 10
  | _ => l.count 13 + l.count 10 + l.count 9
theorem cA_le (l : List Int) : ∀ k, cA l k ≤ l.length := fun k => by
  have := rmL_count l
  unfold cA
  split <;> omega
theorem rep_bts : ∀ n : Nat, repL n [V.i .u8 0] = bts (List.replicate n 0)
  | 0 => rfl
  | n + 1 => by rw [repL, rep_bts n, List.replicate_succ]; rfl
noncomputable def pRepSC : Ct := rct (ctm [] Tryz.prog G0 [(317, pCountC)]) 411 2
theorem pRepS_ok : CtOk Tryz.prog G0 411 pRepSC := rct_ok (l := [(317, pCountC)]) fol (sound_cons pCount_ok sound_nil) [] (by kernel_rfl)
theorem pRepS_rc {args : List V} {h : Heap} {Q : V → Heap → Prop} {c : Code} (hb : Tryz.f411.body = some c) (hn : args.length = 2) (hr : Run (ctm [] Tryz.prog G0 [(317, pCountC)]) (Fini (ctm [] Tryz.prog G0 [(317, pCountC)]) Tryz.f411.results.toList Q) [.c c] args h) : ∃ v h', pRepSC args h = some (v, h') ∧ Q v h' := rct_run [] Tryz.func411 hb hn hr
theorem pRepS_go {h : Heap} {m q : Nat} {x : Bool} {l : List Int} (hm : hget h m = ⟨2, x, tabK 3 ++ [.sl q 0 3 1]⟩) (hq : hget h q = cellK 3) (hl : l.length ≤ 1048576) (hs : ∀ c ∈ l, 0 ≤ c ∧ c < 256) : ∃ v h1, pRepSC [.p m 0, .s l] h = some (v, h1) ∧ v = .s (rmL l) ∧ Ext h h1 := by
  have hml := aliveO hm
  have hql : q < h.length := aliveO (st := 1) (x := false) (c := sts [[13], [10], [9]]) hq
  have hq : hget h q = ⟨2, false, sts [[13], [10], [9]]⟩ := hq
  simp only [sts, List.map_cons, List.map_nil] at hq
  obtain ⟨N, hN⟩ : ∃ N, (rmL l).length = N := ⟨_, rfl⟩
  have hNl : N ≤ l.length := hN ▸ rmL_le l
  have hcnt := rmL_count l
  rw [hN] at hcnt
  refine pRepS_rc rfl rfl ?_
  simp only [Tryz.f411, run_seq]
  generalize hK : ((Code.region 19 _ _).seq _).seq _ = K
  have rest : ∀ t h1, get t 0 = .p m 0 → get t 1 = .s l → get t 5 = .i .i64 N → get t 6 = .b (decide (¬ N = l.length)) → Ext h h1 → Run (ctm [] Tryz.prog G0 [(317, pCountC)]) (Fini (ctm [] Tryz.prog G0 [(317, pCountC)]) Tryz.f411.results.toList fun v h1 => v = .s (rmL l) ∧ Ext h h1) [.c K] t h1 := by
    intro t h1 t0 t1 t5 t6 hE
    subst hK
    have ldt : ∀ (cc : Nat) (s : V), cc < 256 → ldN (tabK 3 ++ [s]) cc 1 = some [if (cc = 13 ∧ 1 ≤ 3) ∨ (cc = 10 ∧ 2 ≤ 3) ∨ (cc = 9 ∧ 3 ≤ 3) then .e0 else .c (.slice none 0 0)] := fun cc s h => tab_ld h s
    have hinfo : (Tryz.prog.info? 5).isSome = true := by kernel_rfl
    by_cases cN : N = l.length
    · have e := rmL_all (l := l) (by omega)
      simp -implicitDefEqProofs [go_sem, Tryz.f411, t1, t6, cN, e, hE]
    · have hN6 : (N : Int) ≤ 16777216 := by omega
      simp -implicitDefEqProofs [go_sem, Tryz.f411, t1, t5, t6, cN, hN6, rep_bts]
      refine run_inv _ _ _ _ _ (fun (i : Nat) t h2 => i ≤ l.length ∧ get t 0 = .p m 0 ∧ get t 1 = .s l ∧ get t 12 = .sl h1.length 0 N 1 ∧ get t 13 = .i .i64 (rmL (l.take i)).length ∧ get t 14 = .i .i64 i ∧ hget h2 h1.length = ⟨2, true, bts (rmL (l.take i) ++ List.replicate (N - (rmL (l.take i)).length) 0)⟩ ∧ h1.length < h2.length ∧ Ext h h2) (fun i => l.length - i) _ (x := 0) ⟨by omega, by simp -implicitDefEqProofs [go_sem, t0], by simp -implicitDefEqProofs [go_sem, t1], by simp -implicitDefEqProofs [go_sem], by simp -implicitDefEqProofs [go_sem, rmL], by simp -implicitDefEqProofs [go_sem], by rw [hget_at0 rfl]; simp [rmL], by simp, hE.app _⟩ ?_
      rintro i t h2 ⟨hi, t0, t1, t12, t13, t14, hg, hB, hE2⟩ ih
      have hm1 : hget h2 m = ⟨2, x, tabK 3 ++ [.sl q 0 3 1]⟩ := by rw [hE2.2 _ hml]; exact hm
      have hi6 : i < 1152921504606846976 := by omega
      have hBh : h.length ≤ h1.length := hE.1
      by_cases hlt : i < l.length
      · have hst := rmL_take hlt
        have hpre := rmL_pre l (i + 1)
        rw [hN] at hpre
        obtain ⟨c, hc⟩ : ∃ c, l[i] = c := ⟨_, rfl⟩
        have hcb := hs c (hc ▸ List.getElem_mem hlt)
        rw [hc] at hst
        obtain ⟨R, hR⟩ : ∃ R, rmL (l.take i) = R := ⟨_, rfl⟩
        rw [hR] at t13 hg hst
        obtain ⟨cn, rfl⟩ : ∃ cn : Nat, c = cn := ⟨c.toNat, by omega⟩
        have hcn : cn < 256 := by omega
        have ld1 := ldt cn (.sl q 0 3 1) hcn
        by_cases c1 : rmB cn = true
        · rw [if_pos c1] at hst
          rw [hst] at hpre
          have ld2 : ldN (tabK 3 ++ [.sl q 0 3 1]) cn 1 = some [.e0] := by
            rw [ld1, if_pos]
            simp [rmB] at c1
            omega
          have hpre' : (R.length : Int) ≤ N := by omega
          simp -implicitDefEqProofs [go_sem, Tryz.f411, t0, t1, t12, t13, t14, hlt, hc, hm1, tab_f, ld2, hcn, hcb.2, hpre, hpre', copyV, hinfo]
          refine ih (i + 1) _ _ (by omega) ⟨by omega, ?_⟩
          rw [hst]
          simp -implicitDefEqProofs [go_sem, t0, t1, t12, i64_n hi6, w64 (x := (R.length : Int)) (by omega), hg, hB, hE2]
        · rw [if_neg c1] at hst
          rw [hst, List.length_append] at hpre
          have hpre : R.length < N := by simp at hpre; omega
          have hpre' : (R.length : Int) < N := by omega
          have ld2 : ldN (tabK 3 ++ [.sl q 0 3 1]) cn 1 = some [.c (.slice none 0 0)] := by
            rw [ld1, if_neg]
            simp [rmB] at c1
            omega
          have hset : (R ++ List.replicate (N - R.length) 0).set R.length (cn : Int) = (R ++ [(cn : Int)]) ++ List.replicate (N - (R.length + 1)) 0 := by
            rw [List.set_append_right _ _ (Nat.le_refl _), Nat.sub_self, show N - R.length = (N - (R.length + 1)) + 1 by omega, List.replicate_succ, List.set_cons_zero, List.append_assoc]; rfl
          simp -implicitDefEqProofs [go_sem, Tryz.f411, t0, t1, t12, t13, t14, hlt, hc, hm1, tab_f, ld2, hcn, hcb.2, hpre, hpre', hg, hB, bts_set, hset, show 1 ≤ N - R.length by omega]
          refine ih (i + 1) _ _ (by omega) ⟨by omega, ?_⟩
          rw [hst]
          simp -implicitDefEqProofs [go_sem, t0, t1, t12, i64_n hi6, w64 (x := (R.length : Int) + 1) (by omega), hg, hB, hget_set]
          exact hE2.set (by omega) _
      · have e : l.take i = l := List.take_of_length_le (by omega)
        rw [e, hN] at hg
        simp only [Nat.sub_self, List.replicate_zero, List.append_nil] at hg
        simp -implicitDefEqProofs [go_sem, Tryz.f411, t1, t12, t14, hlt, hg, ldN_b hN, hE2]
  have ldt : ∀ (cc : Nat) (s : V), cc < 256 → ldN (tabK 3 ++ [s]) cc 1 = some [if (cc = 13 ∧ 1 ≤ 3) ∨ (cc = 10 ∧ 2 ≤ 3) ∨ (cc = 9 ∧ 3 ≤ 3) then .e0 else .c (.slice none 0 0)] := fun cc s h => tab_ld h s
  by_cases c24 : 24 ≤ l.length
  · have c24' : (24 : Int) ≤ l.length := by omega
    simp -implicitDefEqProofs [go_sem, Tryz.f411, hm, tab_c, tab_f, tab_ls, tab_len, c24, c24', w64 (x := 24) (by omega)]
    refine run_inv _ _ _ _ _ (fun (i : Nat) t h1 => i ≤ 3 ∧ get t 0 = .p m 0 ∧ get t 1 = .s l ∧ get t 30 = .sl q 0 3 1 ∧ get t 31 = .i .i64 3 ∧ get t 32 = .i .i64 i ∧ get t 5 = .i .i64 ((l.length : Int) - cA l i) ∧ get t 6 = .b (decide (¬ cA l i = 0)) ∧ Ext h h1) (fun i => 3 - i) _ (x := 0) ⟨by omega, by simp -implicitDefEqProofs [go_sem], by simp -implicitDefEqProofs [go_sem], by simp -implicitDefEqProofs [go_sem], by simp -implicitDefEqProofs [go_sem], by simp -implicitDefEqProofs [go_sem], by simp -implicitDefEqProofs [go_sem, cA], by simp -implicitDefEqProofs [go_sem, cA], Ext.refl h⟩ ?_
    rintro i t h1 ⟨hi, t0, t1, t30, t31, t32, t5, t6, hE⟩ ih
    have hm1 : hget h1 m = ⟨2, x, tabK 3 ++ [.sl q 0 3 1]⟩ := by rw [hE.2 _ hml]; exact hm
    have hq1 : hget h1 q = ⟨2, false, [.s [13], .s [10], .s [9]]⟩ := by rw [hE.2 _ hql]; exact hq
    have hc13 : l.count 13 ≤ l.length := List.count_le_length
    rcases (show i = 0 ∨ i = 1 ∨ i = 2 ∨ i = 3 by omega) with rfl | rfl | rfl | rfl
    · have t32 : get t 32 = .i .i64 0 := t32
      obtain ⟨a, ha⟩ : ∃ a, cA l 0 = a := ⟨_, rfl⟩
      obtain ⟨C, hC⟩ : ∃ C, l.count 13 = C := ⟨_, rfl⟩
      have hn : cA l 1 = a + C := by rw [← ha, ← hC]; simp [cA]
      have hb : a + C ≤ l.length := by rw [← hn]; exact cA_le l 1
      rw [ha] at t5 t6
      by_cases c0 : C = 0
      · simp -implicitDefEqProofs [go_sem, Tryz.f411, t0, t1, t30, t31, t32, t5, t6, hq1, pCountC, hC, c0]
        refine ih 1 _ _ (by omega) ⟨by omega, ?_⟩
        simp -implicitDefEqProofs [go_sem, t0, t1, t30, t31, t5, t6, hn, c0, hE, w64 (x := 1) (by omega)]
      · have c0' : ¬ (C : Int) = 0 := by omega
        simp -implicitDefEqProofs [go_sem, Tryz.f411, t0, t1, t30, t31, t32, t5, t6, hq1, hm1, pCountC, hC, c0, c0', tab_f, ldt]
        refine ih 1 _ _ (by omega) ⟨by omega, ?_⟩
        simp -implicitDefEqProofs [go_sem, t0, t1, t30, t31, t5, t6, hn, c0, hE, w64 (x := 1) (by omega), w64 (x := -1) (by omega), w64 (x := -(C : Int)) (by omega), w64 (x := (l.length : Int) - a + -(C : Int)) (by omega)]
        omega
    · have t32 : get t 32 = .i .i64 1 := t32
      obtain ⟨a, ha⟩ : ∃ a, cA l 1 = a := ⟨_, rfl⟩
      obtain ⟨C, hC⟩ : ∃ C, l.count 10 = C := ⟨_, rfl⟩
      have hn : cA l 2 = a + C := by rw [← ha, ← hC]; simp [cA]
      have hb : a + C ≤ l.length := by rw [← hn]; exact cA_le l 2
      rw [ha] at t5 t6
      by_cases c0 : C = 0
      · simp -implicitDefEqProofs [go_sem, Tryz.f411, t0, t1, t30, t31, t32, t5, t6, hq1, pCountC, hC, c0]
        refine ih 2 _ _ (by omega) ⟨by omega, ?_⟩
        simp -implicitDefEqProofs [go_sem, t0, t1, t30, t31, t5, t6, hn, c0, hE, w64 (x := 2) (by omega)]
      · have c0' : ¬ (C : Int) = 0 := by omega
        simp -implicitDefEqProofs [go_sem, Tryz.f411, t0, t1, t30, t31, t32, t5, t6, hq1, hm1, pCountC, hC, c0, c0', tab_f, ldt]
        refine ih 2 _ _ (by omega) ⟨by omega, ?_⟩
        simp -implicitDefEqProofs [go_sem, t0, t1, t30, t31, t5, t6, hn, c0, hE, w64 (x := 2) (by omega), w64 (x := -1) (by omega), w64 (x := -(C : Int)) (by omega), w64 (x := (l.length : Int) - a + -(C : Int)) (by omega)]
        omega
    · have t32 : get t 32 = .i .i64 2 := t32
      obtain ⟨a, ha⟩ : ∃ a, cA l 2 = a := ⟨_, rfl⟩
      obtain ⟨C, hC⟩ : ∃ C, l.count 9 = C := ⟨_, rfl⟩
      have hn : cA l 3 = a + C := by rw [← ha, ← hC]; simp [cA]
      have hb : a + C ≤ l.length := by rw [← hn]; exact cA_le l 3
      rw [ha] at t5 t6
      by_cases c0 : C = 0
      · simp -implicitDefEqProofs [go_sem, Tryz.f411, t0, t1, t30, t31, t32, t5, t6, hq1, pCountC, hC, c0]
        refine ih 3 _ _ (by omega) ⟨by omega, ?_⟩
        simp -implicitDefEqProofs [go_sem, t0, t1, t30, t31, t5, t6, hn, c0, hE, w64 (x := 3) (by omega)]
      · have c0' : ¬ (C : Int) = 0 := by omega
        simp -implicitDefEqProofs [go_sem, Tryz.f411, t0, t1, t30, t31, t32, t5, t6, hq1, hm1, pCountC, hC, c0, c0', tab_f, ldt]
        refine ih 3 _ _ (by omega) ⟨by omega, ?_⟩
        simp -implicitDefEqProofs [go_sem, t0, t1, t30, t31, t5, t6, hn, c0, hE, w64 (x := 3) (by omega), w64 (x := -1) (by omega), w64 (x := -(C : Int)) (by omega), w64 (x := (l.length : Int) - a + -(C : Int)) (by omega)]
        omega
    · have t32 : get t 32 = .i .i64 3 := t32
      have e3 : (l.length : Int) - cA l 3 = N := by simp only [cA]; omega
      have e4 : decide (¬ cA l 3 = 0) = decide (¬ N = l.length) := decide_eq_decide.2 (by simp only [cA]; omega)
      rw [e3] at t5
      rw [e4] at t6
      simp -implicitDefEqProofs [go_sem, Tryz.f411, t31, t32]
      exact rest _ _ (by simp -implicitDefEqProofs [go_sem, t0]) (by simp -implicitDefEqProofs [go_sem, t1]) (by simp -implicitDefEqProofs [go_sem, t5]) (by simp -implicitDefEqProofs [go_sem, t6]) hE
  · have c24' : ¬ (24 : Int) ≤ l.length := by omega
    simp -implicitDefEqProofs [go_sem, Tryz.f411, hm, tab_c, tab_f, tab_ls, tab_len, c24, c24', w64 (x := 24) (by omega)]
    refine run_inv _ _ _ _ _ (fun (i : Nat) t h1 => i ≤ l.length ∧ get t 0 = .p m 0 ∧ get t 1 = .s l ∧ get t 10 = .i .i64 i ∧ get t 5 = .i .i64 ((l.length : Int) - i + (rmL (l.take i)).length) ∧ get t 6 = .b (decide (¬ (rmL (l.take i)).length = i)) ∧ Ext h h1) (fun i => l.length - i) _ (x := 0) ⟨by omega, by simp -implicitDefEqProofs [go_sem], by simp -implicitDefEqProofs [go_sem], by simp -implicitDefEqProofs [go_sem], by simp -implicitDefEqProofs [go_sem, rmL], by simp -implicitDefEqProofs [go_sem, rmL], Ext.refl h⟩ ?_
    rintro i t h1 ⟨hi, t0, t1, t10, t5, t6, hE⟩ ih
    have hm1 : hget h1 m = ⟨2, x, tabK 3 ++ [.sl q 0 3 1]⟩ := by rw [hE.2 _ hml]; exact hm
    have hle : (rmL (l.take i)).length ≤ i := by have := rmL_le (l.take i); simp at this; omega
    have hi6 : i < 1152921504606846976 := by omega
    by_cases hlt : i < l.length
    · have hst := rmL_take hlt
      obtain ⟨c, hc⟩ : ∃ c, l[i] = c := ⟨_, rfl⟩
      have hcb := hs c (hc ▸ List.getElem_mem hlt)
      rw [hc] at hst
      obtain ⟨a, ha⟩ : ∃ a, (rmL (l.take i)).length = a := ⟨_, rfl⟩
      obtain ⟨cn, rfl⟩ : ∃ cn : Nat, c = cn := ⟨c.toNat, by omega⟩
      have hcn : cn < 256 := by omega
      have ld1 := ldt cn (.sl q 0 3 1) hcn
      rw [ha] at t5 t6 hle
      by_cases c1 : rmB cn = true
      · have hln : (rmL (l.take (i + 1))).length = a := by rw [hst, if_pos c1, ha]
        have ld2 : ldN (tabK 3 ++ [.sl q 0 3 1]) cn 1 = some [.e0] := by
          rw [ld1, if_pos]
          simp [rmB] at c1
          omega
        simp -implicitDefEqProofs [go_sem, Tryz.f411, t0, t1, t10, t5, t6, hlt, hc, hm1, tab_f, ld2, hcn, hcb.2]
        refine ih (i + 1) _ _ (by omega) ⟨by omega, ?_⟩
        simp -implicitDefEqProofs [go_sem, t0, t1, t10, hln, hE, i64_n hi6, w64 (x := -1) (by omega), w64 (x := (l.length : Int) - i + a + -1) (by omega)]
        omega
      · have hln : (rmL (l.take (i + 1))).length = a + 1 := by rw [hst, if_neg c1, List.length_append, ha]; rfl
        have ld2 : ldN (tabK 3 ++ [.sl q 0 3 1]) cn 1 = some [.c (.slice none 0 0)] := by
          rw [ld1, if_neg]
          simp [rmB] at c1
          omega
        simp -implicitDefEqProofs [go_sem, Tryz.f411, t0, t1, t10, t5, t6, hlt, hc, hm1, tab_f, ld2, hcn, hcb.2]
        refine ih (i + 1) _ _ (by omega) ⟨by omega, ?_⟩
        simp -implicitDefEqProofs [go_sem, t0, t1, t10, t5, t6, hln, hE, i64_n hi6]
        omega
    · have e : l.take i = l := List.take_of_length_le (by omega)
      have ei : i = l.length := by omega
      rw [e, hN] at t5 t6
      rw [ei] at t5 t6
      have t5 : get t 5 = .i .i64 N := by rw [t5]; congr 1; omega
      simp -implicitDefEqProofs [go_sem, Tryz.f411, t1, t10, hlt]
      exact rest _ _ (by simp -implicitDefEqProofs [go_sem, t0]) (by simp -implicitDefEqProofs [go_sem, t1]) (by simp -implicitDefEqProofs [go_sem, t5]) (by simp -implicitDefEqProofs [go_sem, t6]) hE
end GoD

/-! strings.Replacer, at its first use. -/
namespace GoD
open Go Go.Proofs
set_option linter.unusedVariables false
set_option linter.unusedSimpArgs false
set_option maxHeartbeats 4000000
set_option maxRecDepth 100000
theorem meth_rep : methB Tryz.prog 322 "Replace" = some 411 := by kernel_rfl
noncomputable def pReplaceC : Ct := rct (ctm [] Tryz.prog G0 [(169, pDoC), (411, pRepSC)]) 100 2
theorem pReplace_ok : CtOk Tryz.prog G0 100 pReplaceC := rct_ok (l := [(169, pDoC), (411, pRepSC)]) fol (sound_cons pDo_ok (sound_cons pRepS_ok sound_nil)) [] (by kernel_rfl)
theorem pReplace_rc {args : List V} {h : Heap} {Q : V → Heap → Prop} {c : Code} (hb : Tryz.f100.body = some c) (hn : args.length = 2) (hr : Run (ctm [] Tryz.prog G0 [(169, pDoC), (411, pRepSC)]) (Fini (ctm [] Tryz.prog G0 [(169, pDoC), (411, pRepSC)]) Tryz.f100.results.toList Q) [.c c] args h) : ∃ v h', pReplaceC args h = some (v, h') ∧ Q v h' := rct_run [] Tryz.func100 hb hn hr
theorem pReplace_go {h : Heap} {b q0 : Nat} {l : List Int} (hb : hget h b = repB q0) (hs : strsAt h q0 0 6 = some old6) (hl : l.length ≤ 1048576) (hbs : ∀ c ∈ l, 0 ≤ c ∧ c < 256) : ∃ v h1, pReplaceC [.p b 0, .s l] h = some (v, h1) ∧ v = .s (rmL l) ∧ ExtB b h h1 := by
  unfold repB at hb
  have hbl := aliveO hb
  have hql : q0 < h.length ∧ ¬ q0 = b := by
    obtain ⟨st, xx, c, hg, hld, _⟩ := strsAt_eq hs
    refine ⟨aliveO hg, fun e => ?_⟩
    subst e
    rw [hb] at hg
    cases hg
    revert hld
    unfold ldN
    simp
  have hb0 : hget (h.set b ⟨2, true, onceL 0 1 (.i .u32 0) (.c .nilIface) (.sl q0 0 6 1)⟩) b = ⟨2, true, [.i .u32 0, .i .i32 1, .i .u32 0, .c .nilIface, .sl q0 0 6 1]⟩ := by rw [hget_set, if_pos ⟨rfl, hbl⟩]; rfl
  have hs0 : strsAt (h.set b ⟨2, true, onceL 0 1 (.i .u32 0) (.c .nilIface) (.sl q0 0 6 1)⟩) q0 0 6 = some old6 := by
    rw [← hs]
    unfold strsAt
    rw [hget_set, if_neg (by omega)]
  obtain ⟨v, h2, hC, rfl, hE2, m, q, hm1, hq1, hb2, hm, hq⟩ := pBuildOnce_go hb0 hs0
  simp only [List.length_set] at hm1 hq1
  have hbl2 := aliveO hb2
  have hDo : pDoC [.p b 0, .bf (.func 170) [.p b 0]] h = some (.tup [], h2.set b ⟨2, true, onceL 1 0 (.i .u32 0) (.ifc 322 (.p m 0)) (.c (.slice none 0 0))⟩) := by
    unfold pDoC
    simp [hb, hC, hb2]
  obtain ⟨h3, hh3⟩ : ∃ h3, h2.set b ⟨2, true, onceL 1 0 (.i .u32 0) (.ifc 322 (.p m 0)) (.c (.slice none 0 0))⟩ = h3 := ⟨_, rfl⟩
  rw [hh3] at hDo
  have hb3 : hget h3 b = ⟨2, true, onceL 1 0 (.i .u32 0) (.ifc 322 (.p m 0)) (.c (.slice none 0 0))⟩ := by rw [← hh3, hget_set, if_pos ⟨rfl, hbl2⟩]
  have hm3 : hget h3 m = ⟨2, true, tabK 3 ++ [.sl q 0 3 1]⟩ := by rw [← hh3, hget_set, if_neg (by omega)]; exact hm
  have hq3 : hget h3 q = cellK 3 := by rw [← hh3, hget_set, if_neg (by omega)]; exact hq
  obtain ⟨v, h4, hR, rfl, hE4⟩ := pRepS_go hm3 hq3 hl hbs
  refine pReplace_rc rfl rfl ?_
  have hb3' : hget h3 b = ⟨2, true, [.i .u32 1, .i .i32 0, .i .u32 0, .ifc 322 (.p m 0), .c (.slice none 0 0)]⟩ := hb3
  simp -implicitDefEqProofs [go_sem, Tryz.f100, hDo, hb3', meth_rep, hR]
  have l2 : h2.length = h3.length := by rw [← hh3, List.length_set]
  refine ⟨by have := hE4.1; have := hE2.1; simp at this; omega, fun i hi hne => ?_⟩
  have := hE2.1
  simp at this
  rw [hE4.2 _ (by omega), ← hh3, hget_set, if_neg (by omega), hE2.2 _ (by simpa using hi) hne, hget_set, if_neg (by omega)]
end GoD
