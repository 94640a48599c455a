import Derived.Test.YtopejcaiabebpaaDoorNK
import Derived.Test.YtopejcaiabebpaaDoorRC
/-! CspMany. -/
namespace GoD
open Go Go.Proofs
set_option linter.unusedVariables false
set_option linter.unusedSimpArgs false
set_option maxHeartbeats 4000000
set_option maxRecDepth 100000
theorem ct_plainM {P : Program} {G : Nat → List V} {l : List (FuncId × Ct)} (hm : P.follows .mixedOrders = true) (hl : Sound (ctx P G l)) (pm : List (Nat × List Nat × List Nat)) {f n : FuncId} {fn : Func} {c : Code} {C : Ct} (hok : okFnM P pm f n = true) (hf : P.funcs[f]? = some fn) (hb : fn.body = some c)
    (hc : ∀ args h v h', C args h = some (v, h') → ∀ (r : List (Option Loc)) (xs : List Value) (H : Array Obj), HR G r h H → RL r args xs → args.length = n ∧ h' = h ∧ (renV id v = v ∧ bndV h.length v) ∧ Run (ctm pm P G l) (Fini (ctm pm P G l) fn.results.toList fun v' h1 => v' = v ∧ Ext h h1) [.c c] args h) : CtOk P G f C :=
  ct_okM hm hl pm hok fun args h v h' h1 r xs H hr hx => by
    obtain ⟨e1, rfl, e2, e3⟩ := hc args h v h' h1 r xs H hr hx
    obtain ⟨k, v', h2, e4, rfl, e5⟩ := call_of_run (E := ctm pm P G l) hf hb e3
    exact ⟨e1, k, v', h2, id, e4, Trim.flat e2 e5⟩
def roundK (k n : Int) : Int := if k.tmod n < 0 then k.tmod n + n else k.tmod n
def pRoundKC : Ct := fun args h => match args with | [.i .i64 k, .i .i64 n] => if 0 < n ∧ n ≤ 1000000 then some (.i .i64 (roundK k n), h) else none | _ => none
theorem pRoundK_ok : CtOk Tryd.prog G0 14 pRoundKC := by
  refine ct_plain (n := 2) fol sound_nil (by kernel_rfl) Tryd.func14 rfl fun args h v h' hc r xs H hr hx => ?_
  unfold pRoundKC at hc; split at hc <;> (try split at hc) <;> cases hc
  rename_i k n hn
  have hn0 : ¬ n = 0 := by omega
  have h1 := Int.tmod_lt_of_pos k hn.1
  have h2 : -n < k.tmod n := Int.neg_lt_of_neg_lt (by rw [← Int.neg_tmod]; exact Int.tmod_lt_of_pos _ hn.1)
  refine ⟨rfl, rfl, by simp [renV, bndV], ?_⟩
  by_cases c1 : k.tmod n < 0
  · simp -implicitDefEqProofs [go_sem, Tryd.f14, hn0, c1, roundK, w64 (x := k.tmod n + n) (by omega)]
  · simp -implicitDefEqProofs [go_sem, Tryd.f14, hn0, c1, roundK]
theorem roundK_lt {k n : Int} (hn : 0 < n) : 0 ≤ roundK k n ∧ roundK k n < n := by
  have h1 := Int.tmod_lt_of_pos k hn
  have h2 : -n < k.tmod n := Int.neg_lt_of_neg_lt (by rw [← Int.neg_tmod]; exact Int.tmod_lt_of_pos _ hn)
  unfold roundK
  split <;> omega
def intsV : List V → Option (List Int)
  | [] => some []
  | .i .i64 x :: c => (intsV c).map (x :: ·)
  | _ => none
def its (l : List Int) : List V := l.map (.i .i64)
def intsAt (h : Heap) (b o n : Nat) : Option (List Int) := match hget h b with
  | ⟨0, _, _⟩ => none
  | ⟨_ + 1, _, c⟩ => match ldN c o n with | some l => intsV l | none => none
theorem intsV_eq : ∀ {c : List V} {l : List Int}, intsV c = some l → c = its l
  | [], l, h => by simp [intsV] at h; subst h; rfl
  | v :: c, l, h => by
    unfold intsV at h
    split at h
    · rename_i e; cases e
    · rename_i x c' e
      obtain ⟨rfl, rfl⟩ := List.cons.inj e
      obtain ⟨a, h1, rfl⟩ := Option.map_eq_some_iff.1 h
      rw [intsV_eq h1]; rfl
    · cases h
theorem ldN_part {c l : List V} {o n i : Nat} (h : ldN c o n = some l) (hi : i < n) : ∃ v, l[i]? = some v ∧ ldN c (o + i) 1 = some [v] := by
  unfold ldN at h ⊢
  split at h
  · rename_i hl
    obtain rfl := Option.some.inj h
    have hoi : o + i < c.length := by omega
    refine ⟨c[o + i], by simp [hi, hoi], ?_⟩
    rw [if_pos (by omega), List.drop_eq_getElem_cons hoi]; rfl
  · cases h
theorem intsAt_eq {h : Heap} {b o n : Nat} {l : List Int} (hs : intsAt h b o n = some l) : ∃ st x c, hget h b = ⟨st + 1, x, c⟩ ∧ l.length = n ∧ ∀ i (hi : i < l.length), ldN c (o + i) 1 = some [.i .i64 l[i]] := by
  unfold intsAt at hs
  split at hs
  · cases hs
  · rename_i st x c hg
    split at hs
    · rename_i l' hl
      have e := intsV_eq hs
      subst e
      have hn : l.length = n := by
        unfold ldN at hl
        split at hl
        · have := congrArg List.length (Option.some.inj hl)
          simp [its] at this
          omega
        · cases hl
      refine ⟨st, x, c, hg, hn, fun i hi => ?_⟩
      obtain ⟨v, h1, h2⟩ := ldN_part (i := i) hl (by omega)
      rw [h2]
      simp [its, hi] at h1
      rw [← h1]
    · cases hs
def aw14 : List Int := [73, 77, 71, 45, 115, 114, 99, 32, 97, 32, 32, 98, 59, 59, 105, 109, 103, 45, 115, 114, 99, 32, 99, 59, 32, 195, 169]
theorem aw14_eq : cspL aw14 = [([105, 109, 103, 45, 115, 114, 99], [[97], [98]])] := by kernel_rfl
def pAwake14C : Ct := fun args h => match args with | [] => some (.b true, h) | _ => none
theorem pAwake14_ok : CtOk Tryd.prog G0 8 pAwake14C := by
  refine ct_plain (n := 0) fol (sound_cons pCsp_ok (sound_cons pTexts_ok sound_nil)) (by kernel_rfl) Tryd.func8 rfl fun args h v h' hc r xs H hr hx => ?_
  unfold pAwake14C at hc; split at hc <;> (try split at hc) <;> cases hc
  refine ⟨rfl, rfl, by simp [renV, bndV], ?_⟩
  obtain ⟨v, g1, hC, hE, b, c, rfl, hg, hd⟩ := pCsp_go (h := h) (l := aw14) (by decide)
  rw [aw14_eq] at hC hd
  obtain ⟨v, c', rfl, ⟨b', o', rfl, hs, _⟩, hc'⟩ := hd
  obtain rfl : c' = [] := hc'
  unfold aw14 at hC
  have hT : strsAt (g1 ++ [⟨2, true, [.s [97], .s [98]]⟩]) g1.length 0 2 = some [[97], [98]] := by unfold strsAt; rw [hget_at0 rfl]; rfl
  have hS : strsAt (g1 ++ [⟨2, true, [.s [97], .s [98]]⟩]) b' o' 2 = some [[97], [98]] := strsAt_ext ((Ext.refl g1).app [⟨2, true, [.s [97], .s [98]]⟩]) hs
  simp -implicitDefEqProofs [go_sem, Tryd.f8, hC, hg, pTextsC, pTexts1C, hT, hS]
  exact hE.app _
def pAlikeC : Ct := fun args h => match args with
  | [.agg [.s a, .sl b o n 1], .agg [.s a', .sl b' o' n' 1]] => (match strsAt h b o n, strsAt h b' o' n' with | some x, some y => some (.b (decide (a = a') && decide (x = y)), h) | _, _ => none)
  | _ => none
theorem pAlike_ok : CtOk Tryd.prog G0 16 pAlikeC := by
  refine ct_plain (n := 2) fol (sound_cons pTexts_ok sound_nil) (by kernel_rfl) Tryd.func16 rfl fun args h v h' hc r xs H hr hx => ?_
  unfold pAlikeC at hc; split at hc <;> (try split at hc) <;> (try split at hc) <;> cases hc
  rename_i a b o n a' b' o' n' _ _ x y hx1 hy1
  refine ⟨rfl, rfl, by simp [renV, bndV], ?_⟩
  have e1 := strsAt_ext ((Ext.refl h).app [⟨2, true, [.s a, .sl b o n 1]⟩, ⟨2, true, [.s a', .sl b' o' n' 1]⟩]) hx1
  have e2 := strsAt_ext ((Ext.refl h).app [⟨2, true, [.s a, .sl b o n 1]⟩, ⟨2, true, [.s a', .sl b' o' n' 1]⟩]) hy1
  by_cases c1 : a = a'
  · subst c1
    simp -implicitDefEqProofs [go_sem, Tryd.f16, pTextsC, pTexts1C, e1, e2]
  · simp -implicitDefEqProofs [go_sem, Tryd.f16, c1]
theorem manyT_take {rs : List Nat} {i : Nat} (hi : i < rs.length) : manyT 0 (rs.take (i + 1)) = manyT 0 (rs.take i) ++ ([32, 100, 97 + (i : Int)] ++ srcs rs[i]) ++ [32, 59] := by
  rw [List.take_succ_eq_append_getElem hi, manyT_snoc, List.length_take, Nat.min_eq_left (by omega), Nat.zero_add]
  simp [segS, nameD, List.append_assoc]
def pLawMC : Ct := fun args h => match args with | [.sl b o n 1] => (match intsAt h b o n with | some y => some (.b true, h) | none => none) | _ => none
theorem pLawM_ok : CtOk Tryd.prog G0 5 pLawMC := by
  refine ct_plainM (n := 1) fol (sound_cons pAwake14_ok (sound_cons pRoundK_ok (sound_cons pCsp_ok (sound_cons pFind_ok (sound_cons pAlike_ok sound_nil))))) [(19, [0, 1, 2, 3, 4, 5, 6, 7, 8, 9, 10, 11, 12, 13, 14, 15, 16, 17, 18, 19, 20, 21, 22, 23, 24, 25], [])] (by kernel_rfl) Tryd.func5 rfl fun args h v h' hc r xs H hr hx => ?_
  unfold pLawMC at hc; split at hc <;> (try split at hc) <;> (try split at hc) <;> cases hc
  rename_i b o n _ ys hy
  obtain ⟨st, xx, cc, hg, hn, hc⟩ := intsAt_eq hy
  have hn6 := (sl_of hx).1
  have hbl := alive hg
  refine ⟨rfl, rfl, by simp [renV, bndV], ?_⟩
  by_cases c1 : 20 < n
  · have c1' : (20 : Int) < n := by omega
    simp -implicitDefEqProofs [go_sem, Tryd.f5, c1, c1', pAwake14C]
  · have c1' : ¬ (20 : Int) < n := by omega
    obtain ⟨rs, hrs⟩ : ∃ rs : List Nat, rs = ys.map fun y => (roundK y 5).toNat := ⟨_, rfl⟩
    have hrl : rs.length = n := by rw [hrs]; simp [hn]
    have hr5 : ∀ r ∈ rs, r < 5 := fun r hr => by
      rw [hrs] at hr
      obtain ⟨y, _, rfl⟩ := List.mem_map.1 hr
      have := roundK_lt (k := y) (n := 5) (by omega)
      omega
    have hrd : ∀ i (hi : i < ys.length), roundK ys[i] 5 = ((rs[i]'(by rw [hrl]; omega) : Nat) : Int) := fun i hi => by
      have := roundK_lt (k := ys[i]) (n := 5) (by omega)
      simp only [hrs, List.getElem_map]
      omega
    simp -implicitDefEqProofs [go_sem, Tryd.f5, c1, c1']
    refine run_inv _ _ _ _ _ (fun (i : Nat) t h1 => i ≤ n ∧ get t 0 = .sl b o n 1 ∧ get t 3 = .s (manyT 0 (rs.take i)) ∧ get t 4 = .i .i64 i ∧ Ext h h1) (fun i => n - i) _ (x := 0) ⟨by simp, rfl, rfl, rfl, Ext.refl h⟩ ?_
    rintro i t h1 ⟨hi, t0, t3, t4, hE⟩ ih
    have hgb : hget h1 b = ⟨st + 1, xx, cc⟩ := by rw [hE.2 b hbl]; exact hg
    have hTl := manyT_len (rs.take i) 0 (fun r hr => hr5 r (List.mem_of_mem_take hr))
    have hTl2 : (manyT 0 (rs.take i)).length ≤ 400 := by simp at hTl; omega
    obtain ⟨T, hT⟩ : ∃ T, manyT 0 (rs.take i) = T := ⟨_, rfl⟩
    rw [hT] at t3 hTl2
    by_cases hlt : i < n
    · have hlt' : i < ys.length := by omega
      have hlr : i < rs.length := by omega
      have hci := hc i hlt'
      have hri := hrd i hlt'
      have hr := hr5 _ (List.getElem_mem hlr)
      have hnext := manyT_take hlr
      rw [hT] at hnext
      obtain ⟨r, hrr⟩ : ∃ r, rs[i] = r := ⟨_, rfl⟩
      rw [hrr] at hri hr hnext
      obtain ⟨yi, hyi⟩ : ∃ yi, ys[i] = yi := ⟨_, rfl⟩
      rw [hyi] at hci hri
      have e1 : IntKind.i64.wrap (97 + (i : Int)) = 97 + (i : Int) := w64 (by omega)
      have e2 : (97 + (i : Int)) % 256 = 97 + (i : Int) := by omega
      have z1 : T.length + 2 ≤ 281474976710656 := by omega
      have z2 : T.length + 3 ≤ 281474976710656 := by omega
      have z1' : T.length ≤ 281474976710654 := by omega
      have z2' : T.length ≤ 281474976710653 := by omega
      simp -implicitDefEqProofs [go_sem, Tryd.f5, t0, t3, t4, hlt, e1, e2, z1, z2, z1', z2']
      refine run_inv _ _ _ _ _ (fun (k : Nat) t h2 => k ≤ r ∧ get t 0 = .sl b o n 1 ∧ get t 3 = .s (T ++ ([32, 100, 97 + (i : Int)] ++ srcs k)) ∧ get t 4 = .i .i64 i ∧ get t 5 = .i .i64 k ∧ Ext h h2) (fun k => r - k) _ (x := 0) ⟨by simp, by simp -implicitDefEqProofs [go_sem, t0], by simp -implicitDefEqProofs [go_sem, srcs], by simp -implicitDefEqProofs [go_sem, t4], by simp -implicitDefEqProofs [go_sem], hE.app _⟩ ?_
      rintro k t h2 ⟨hk, t0, t3, t4, t5, hE2⟩ ih2
      have hgb2 : hget h2 b = ⟨st + 1, xx, cc⟩ := by rw [hE2.2 b hbl]; exact hg
      have hsl := srcs_len k
      have hk6 : k < 1152921504606846976 := by omega
      obtain ⟨W, hW⟩ : ∃ W, T ++ ([32, 100, 97 + (i : Int)] ++ srcs k) = W := ⟨_, rfl⟩
      have hWl : W.length ≤ 500 := by rw [← hW]; simp; omega
      rw [hW] at t3
      have y1 : W.length ≤ 281474976710654 := by omega
      have y2 : W.length ≤ 281474976710653 := by omega
      have y3 : W.length + 3 ≤ 281474976710656 := by omega
      have y4 : W.length + 2 ≤ 281474976710656 := by omega
      by_cases hkt : k < r
      · have hkt' : (k : Int) < r := by omega
        have f1 : IntKind.i64.wrap (48 + (k : Int)) = 48 + (k : Int) := w64 (by omega)
        have f2 : (48 + (k : Int)) % 256 = 48 + (k : Int) := by omega
        simp -implicitDefEqProofs [go_sem, Tryd.f5, t0, t3, t4, t5, hlt, hgb2, hci, pRoundKC, hri, hkt, hkt', f1, f2, y1, y2, y3, y4]
        refine ih2 (k + 1) _ _ (by omega) ⟨by omega, ?_⟩
        simp -implicitDefEqProofs [go_sem, t0, t3, t4, t5, i64_n hk6, ← hW, srcs]
        exact hE2.app _
      · have hkt' : ¬ (k : Int) < r := by omega
        have e : k = r := by omega
        subst e
        simp -implicitDefEqProofs [go_sem, Tryd.f5, t0, t3, t4, t5, hlt, hgb2, hci, pRoundKC, hri, hkt, hkt', y1, y2, y3, y4]
        refine ih (i + 1) _ _ (by omega) ⟨by omega, ?_⟩
        simp -implicitDefEqProofs [go_sem, t0, t3, t4, i64_n (show i < 1152921504606846976 by omega), hnext, ← hW, hE2]
    · have e : rs.take i = rs := List.take_of_length_le (by omega)
      rw [e] at hT
      obtain ⟨v, g1, hC, hE1, bb, c, rfl, hgc, hd⟩ := pCsp_go (h := h1) (l := T) (by omega)
      rw [← hT, csp_many (by omega) hr5] at hC hd
      rw [manyD_len, hrl] at hC
      rw [hT] at hC
      have hE1h : Ext h g1 := hE.trans hE1
      have hDl : (manyD 0 rs).length = n := by rw [manyD_len, hrl]
      simp -implicitDefEqProofs [go_sem, Tryd.f5, t0, t3, t4, hlt, hC]
      refine run_inv _ _ _ _ _ (fun (i : Nat) t h3 => i ≤ n ∧ get t 0 = .sl b o n 1 ∧ get t 6 = .sl bb 0 n 2 ∧ get t 7 = .i .i64 i ∧ Ext g1 h3) (fun i => n - i) _ (x := 0) ⟨by simp, by simp -implicitDefEqProofs [go_sem, t0], by simp -implicitDefEqProofs [go_sem], by simp -implicitDefEqProofs [go_sem], Ext.refl g1⟩ ?_
      rintro i t h3 ⟨hi, t0, t6, t7, hE3⟩ ih
      have hE3h : Ext h h3 := hE1h.trans hE3
      have hgb : hget h3 b = ⟨st + 1, xx, cc⟩ := by rw [hE3h.2 b hbl]; exact hg
      have hbb := alive hgc
      have hgc3 : hget h3 bb = ⟨2, false, c⟩ := by rw [hE3.2 bb hbb]; exact hgc
      have hbb3 := alive hgc3
      have hd3 := drs_ext hE3 hd
      by_cases hlt : i < n
      · have hlt' : i < ys.length := by omega
        have hlr : i < rs.length := by omega
        have hci := hc i hlt'
        have hri := hrd i hlt'
        obtain ⟨v, hv2, hv1, hdv⟩ := drs_get (i := i) (by omega) hd3
        have hmd := manyD_get (i := 0) hlr
        rw [Nat.zero_add] at hmd
        rw [hmd] at hv2 hv1 hdv
        obtain ⟨b', o', rfl, hs', hc'⟩ := hdv
        have hsl := srcsL_len rs[i]
        simp only at hv2 hv1 hs'
        rw [hsl] at hv2 hs'
        obtain ⟨r, hrr⟩ : ∃ r, rs[i] = r := ⟨_, rfl⟩
        have hr := hr5 _ (List.getElem_mem hlr)
        rw [hrr] at hri hr hv2 hs' hsl hmd
        obtain ⟨yi, hyi⟩ : ∃ yi, ys[i] = yi := ⟨_, rfl⟩
        rw [hyi] at hci hri
        have e1 : IntKind.i64.wrap (97 + (i : Int)) = 97 + (i : Int) := w64 (by omega)
        have e2 : (97 + (i : Int)) % 256 = 97 + (i : Int) := by omega
        have hnm : nameD i = [100, 97 + (i : Int)] := rfl
        have hfd := find_many hlr (ns := [[100, 97]])
        rw [hrr] at hfd
        have hEH : Ext h3 (h3 ++ [⟨2, true, [.i .u8 (97 + (i : Int))]⟩, ⟨2, true, [.s [110, 111, 110, 101], .s (nameD i), .s [100, 97]]⟩]) := (Ext.refl h3).app _
        obtain ⟨v, g6, hF, hE6, hv⟩ := pFind_go (h := h3 ++ [⟨2, true, [.i .u8 (97 + (i : Int))]⟩, ⟨2, true, [.s [110, 111, 110, 101], .s (nameD i), .s [100, 97]]⟩]) (b := bb) (st := 1) (x := false) (c := c) (ds := manyD 0 rs) (bn := h3.length + 1) (on := 0) (names := [[110, 111, 110, 101], nameD i, [100, 97]]) (by rw [hget_lt hbb3]; exact hgc3) (drs_ext hEH hd3) (by omega) (by unfold strsAt; rw [hget_at rfl]; rfl) (by simp) (fun d hd => by
          obtain ⟨j, hj, rfl⟩ := List.getElem_of_mem hd
          have hj' : j < rs.length := by rwa [manyD_len] at hj
          rw [manyD_get hj']
          have := hr5 _ (List.getElem_mem hj')
          simp only [srcsL_len]; omega)
        rw [hfd] at hv
        obtain ⟨b6, _, rfl, hs6⟩ := hv
        simp only [hsl] at hs6 hF
        rw [hDl, hnm] at hF
        have hE36 : Ext h3 g6 := hEH.trans hE6
        have hgb6 : hget g6 b = ⟨st + 1, xx, cc⟩ := by rw [hE36.2 b (alive hgb)]; exact hgb
        have hgc6 : hget g6 bb = ⟨2, false, c⟩ := by rw [hE36.2 bb hbb3]; exact hgc3
        have s1 := strsAt_ext ((Ext.refl g6).app [⟨2, true, [.s (nameD i), .sl b6 0 r 1]⟩]) hs6
        have s2 := strsAt_ext (hE36.app [⟨2, true, [.s (nameD i), .sl b6 0 r 1]⟩]) hs'
        rw [hnm] at s1 s2 hv1 hv2
        simp only [List.length_cons, List.length_nil, Nat.zero_add, Nat.reduceAdd] at hF
        have hv3 : ldN c (i * 2 + 1) 1 = some [.sl b' o' r 1] := by
          obtain ⟨v, h1, h2⟩ := ldN_part (i := 1) hv2 (by omega)
          simp at h1
          rw [h2, ← h1]
        have n1 : ¬ bb = h3.length := by omega
        have n2 : ¬ b = h3.length := by have := alive hgb; omega
        have n3 : ¬ bb = g6.length := by have := alive hgc6; omega
        simp -implicitDefEqProofs [go_sem, Tryd.f5, t0, t6, t7, hlt, hgb, hgc3, hci, hv1, hv2, hv3, pRoundKC, hri, e1, e2, hF, hgc6, n1, n2, n3, pAlikeC, s1, s2]
        refine ih (i + 1) _ _ (by omega) ⟨by omega, ?_⟩
        simp -implicitDefEqProofs [go_sem, t0, t6, t7, i64_n (show i < 1152921504606846976 by omega)]
        exact (hE3.trans hE36).app _
      · simp -implicitDefEqProofs [go_sem, Tryd.f5, t0, t6, t7, hlt, pAwake14C, hE3h]
end GoD
