import Derived.Test.YtcaaebjjgbcjpaaGreatDoorOH
/-! What url.Parse's reader reads: ports, the authority. -/
namespace GoD
open Go Go.Proofs
set_option linter.unusedVariables false
set_option linter.unusedSimpArgs false
set_option maxHeartbeats 4000000
set_option maxRecDepth 100000
def portRun : Int → List Int → Option Int
  | n, [] => some n
  | n, c :: t => if c < 48 ∨ 57 < c then none else if 65535 < 10 * n + (c - 48) then none else portRun (10 * n + (c - 48)) t
def portUR (s : List Int) (u : Url) : Bool × Url := match portRun 0 s with
  | none => (false, u)
  | some n => (true, { u with po := if s = [] ∨ n = (defaultL u.sch).1 then -1 else n })
def pPortUC : Ct := fun args h => match args with
  | [.p b 0, .s s] => (match rdAt h b with
    | some (l, u) => if b < h.length ∧ s.length ≤ 1048576 then some (.b (portUR s u).1, h.set b (rdU l (portUR s u).2)) else none
    | none => none)
  | _ => none
theorem pPortU_ok : CtOk Tryz.prog G0 178 pPortUC := by
  refine ct_run (n := 2) fol (sound_cons pDefault_ok sound_nil) (by kernel_rfl) Tryz.func178 rfl fun args h v h' hc r xs H hr hx => ?_
  unfold pPortUC at hc; split at hc <;> (try split at hc) <;> (try split at hc) <;> cases hc
  rename_i b s _ l u hrd hb
  obtain ⟨hb, hsl⟩ := hb
  obtain ⟨_, _, hx2⟩ := (⟨trivial, trivial, hx⟩ : True ∧ True ∧ _)
  have hstr : Str s := by cases hx with | cons _ h2 => cases h2 with | cons h3 _ => cases h3 with | s _ h => exact h
  obtain ⟨hs, _⟩ := hstr
  have hg := rdAt_eq hrd
  have hg' : hget h b = ⟨2, true, [.s l, .s u.sch, .s u.us, .s u.pa, .s u.ho, .i .i64 u.po, .s u.path, .b u.q, .s u.qu, .b u.f, .s u.fr]⟩ := hg
  refine ⟨rfl, ?_⟩
  have fin : ∀ (v : V) (u' : Url), renV id v = v ∧ bndV h.length v → ∃ σ, Trim h v (h.set b (rdU l u')) v (h.set b (rdU l u')) σ := fun v u' hv => Trim.own hv (rdU_flat _ _) (Ext.refl _)
  obtain ⟨P, hP⟩ : ∃ P, portUR s u = P := ⟨_, rfl⟩
  rw [hP]
  have hs6 : s.length ≤ 281474976710656 := by omega
  have fail : portRun 0 s = none → ∃ σ, Trim h (V.b false) h (.b P.1) (h.set b (rdU l P.2)) σ := fun e => by
    have e1 : P = (false, u) := by rw [← hP]; unfold portUR; rw [e]
    subst e1
    have := fin (.b false) u ⟨rfl, trivial⟩
    have e : h.set b (rdU l u) = h := set_same hb hg
    rw [e] at this ⊢
    exact this
  simp -implicitDefEqProofs [go_sem, Tryz.f178]
  refine run_inv _ _ _ _ _ (fun (x : Nat × Int) t hx => x.1 ≤ s.length ∧ get t 0 = .p b 0 ∧ get t 1 = .s s ∧ get t 10 = .i .i64 s.length ∧ get t 11 = .i .i64 x.1 ∧ get t 5 = .i .i64 x.2 ∧ 0 ≤ x.2 ∧ x.2 ≤ 65535 ∧ portRun x.2 (s.drop x.1) = portRun 0 s ∧ hx = h) (fun x => s.length - x.1) _ (x := (0, 0)) ⟨by simp, by simp -implicitDefEqProofs [go_sem], by simp -implicitDefEqProofs [go_sem], by simp -implicitDefEqProofs [go_sem], by simp -implicitDefEqProofs [go_sem], by simp -implicitDefEqProofs [go_sem], by simp, by simp, by simp, rfl⟩ ?_
  rintro ⟨i, n⟩ t hx ⟨hi, t0, t1, t10, t11, t5, n0, n1, ha, rfl⟩ ih
  simp only at hi t11 t5 n0 n1 ha
  by_cases hlt : i < s.length
  · obtain ⟨d, hd⟩ : ∃ d, s[i] = d := ⟨_, rfl⟩
    have hdb := hs d (hd ▸ List.getElem_mem hlt)
    rw [List.drop_eq_getElem_cons hlt, hd, portRun] at ha
    by_cases c1 : d < 48
    · rw [if_pos (.inl c1)] at ha
      simp -implicitDefEqProofs [go_sem, Tryz.f178, t0, t1, t10, t11, hlt, hd, c1]
      exact fail ha.symm
    · by_cases c2 : 57 < d
      · rw [if_pos (.inr c2)] at ha
        simp -implicitDefEqProofs [go_sem, Tryz.f178, t0, t1, t10, t11, hlt, hd, c1, c2]
        exact fail ha.symm
      · rw [if_neg (by omega)] at ha
        have m1 : (d - 48) % 256 = d - 48 := by omega
        by_cases c3 : 65535 < 10 * n + (d - 48)
        · rw [if_pos c3] at ha
          simp -implicitDefEqProofs [go_sem, Tryz.f178, t0, t1, t10, t11, t5, hlt, hd, c1, c2, m1, c3, w64 (x := 10 * n) (by omega), w64 (x := d - 48) (by omega), w64 (x := 10 * n + (d - 48)) (by omega)]
          exact fail ha.symm
        · rw [if_neg c3] at ha
          simp -implicitDefEqProofs [go_sem, Tryz.f178, t0, t1, t10, t11, t5, hlt, hd, c1, c2, m1, c3, w64 (x := 10 * n) (by omega), w64 (x := d - 48) (by omega), w64 (x := 10 * n + (d - 48)) (by omega)]
          refine ih (i + 1, 10 * n + (d - 48)) _ _ (by simp; omega) ⟨hlt, ?_⟩
          simp -implicitDefEqProofs [go_sem, t0, t1, t10, i64_1 hs6 hlt]
          exact ⟨by omega, by omega, ha⟩
  · rw [List.drop_eq_nil_of_le (by omega), portRun] at ha
    have hP2 : P = (true, { u with po := if s = [] ∨ n = (defaultL u.sch).1 then -1 else n }) := by rw [← hP]; unfold portUR; rw [← ha]
    subst hP2
    by_cases c1 : s = []
    · have c1' : s.isEmpty = true := by rw [c1]; rfl
      simp -implicitDefEqProofs [go_sem, Tryz.f178, t0, t1, t10, t11, t5, hlt, hg', hb, hget_set, pDefaultC, c1, c1']
      exact fin (.b true) { u with po := -1 } ⟨rfl, trivial⟩
    · have c1' : s.isEmpty = false := by cases s with | nil => exact absurd rfl c1 | cons _ _ => rfl
      by_cases c2 : n = (defaultL u.sch).1
      · have := fin (.b true) { u with po := -1 } ⟨rfl, trivial⟩
        simp -implicitDefEqProofs [go_sem, Tryz.f178, t0, t1, t10, t11, t5, hlt, hg', hb, hget_set, pDefaultC, c1, c1', c2]
        exact this
      · simp -implicitDefEqProofs [go_sem, Tryz.f178, t0, t1, t10, t11, t5, hlt, hg', hb, hget_set, pDefaultC, c1, c1', c2]
        exact fin (.b true) { u with po := n } ⟨rfl, trivial⟩
theorem pPortU_at {h : Heap} {b : Nat} {s l : List Int} {u : Url} (hg : hget h b = rdU l u) (hb : b < h.length) (hs : s.length ≤ 1048576) : pPortUC [.p b 0, .s s] h = some (.b (portUR s u).1, h.set b (rdU l (portUR s u).2)) := by
  unfold pPortUC
  simp only [rdAt_of hg]
  rw [if_pos ⟨hb, hs⟩]
def cut1 (c : Int) (l : List Int) : List Int × List Int := if 0 ≤ idxL c l then (l.take (idxL c l).toNat, l.drop ((idxL c l).toNat + 1)) else (l, [])
theorem cut1_le (c : Int) (l : List Int) : (cut1 c l).1.length ≤ l.length ∧ (cut1 c l).2.length ≤ l.length := by
  unfold cut1
  split <;> simp <;> omega
theorem cutV1_eq (c : Int) (l : List Int) : ∃ w, cutV1 c l = .tup [.s (cut1 c l).1, .s (cut1 c l).2, .b w] := by
  unfold cutV1 cut1
  split
  · exact ⟨true, rfl⟩
  · exact ⟨false, rfl⟩
def auT (s : List Int) (u : Url) : List Int × Url := if 0 ≤ lastU 64 s then (s.drop ((lastU 64 s).toNat + 1), { u with us := encL 4 (cut1 58 (s.take (lastU 64 s).toNat)).1, pa := encL 4 (cut1 58 (s.take (lastU 64 s).toNat)).2 }) else (s, u)
def auH (s1 : List Int) (u : Url) : Bool × Url := match hostL (cut1 58 s1).1 with
  | none => (false, { u with ho := [] })
  | some hh => portUR (cut1 58 s1).2 { u with ho := hh }
def authUR (l : List Int) (u : Url) : Bool × Url := auH (auT (l.take (upL [47, 92, 63, 35] l)) u).1 (auT (l.take (upL [47, 92, 63, 35] l)) u).2
theorem auT_le (s : List Int) (u : Url) : (auT s u).1.length ≤ s.length := by
  unfold auT
  split <;> simp
def pAuthUC : Ct := fun args h => match args with
  | [.p b 0] => (match rdAt h b with
    | some (l, u) => if b < h.length ∧ l.length ≤ 1048576 then some (.b (authUR l u).1, h.set b (rdU (l.drop (upL [47, 92, 63, 35] l)) (authUR l u).2)) else none
    | none => none)
  | _ => none
theorem pAuthU_ok : CtOk Tryz.prog G0 103 pAuthUC := by
  refine ct_run (n := 1) fol (sound_cons pUpTo_ok (sound_cons pLast2_ok (sound_cons pCut_ok (sound_cons pEncode_ok (sound_cons pHParse_ok (sound_cons pPortU_ok sound_nil)))))) (by kernel_rfl) Tryz.func103 rfl fun args h v h' hc r xs H hr hx => ?_
  unfold pAuthUC at hc; split at hc <;> (try split at hc) <;> (try split at hc) <;> cases hc
  rename_i b _ l u hrd hb
  obtain ⟨hb, hl⟩ := hb
  have hg := rdAt_eq hrd
  refine ⟨rfl, ?_⟩
  obtain ⟨s, hs⟩ : ∃ s, l.take (upL [47, 92, 63, 35] l) = s := ⟨_, rfl⟩
  obtain ⟨r0, hr0⟩ : ∃ s, l.drop (upL [47, 92, 63, 35] l) = s := ⟨_, rfl⟩
  have fin : ∀ (v : V) (u' : Url), renV id v = v ∧ bndV h.length v → ∃ σ, Trim h v (h.set b (rdU r0 u')) v (h.set b (rdU r0 u')) σ := fun v u' hv => Trim.own hv (rdU_flat _ _) (Ext.refl _)
  have hsl : s.length ≤ 1048576 := by rw [← hs, List.length_take]; omega
  have hU := pUpTo_at (m := [47, 92, 63, 35]) (l := l) (c := u.cells) hg hb rfl hl
  rw [hs, hr0] at hU
  unfold authUR
  rw [hs, hr0]
  have hTl := auT_le s u
  have hge := lastU_ge 64 s
  simp only [Tryz.f103, run_seq]
  generalize hK : (Code.region 7 _ _).seq _ = K
  obtain ⟨A, hA⟩ : ∃ A, auH (auT s u).1 (auT s u).2 = A := ⟨_, rfl⟩
  rw [hA]
  have rest : ∀ (t : Tm) (s1 : List Int) (u1 : Url), s1.length ≤ 1048576 → auH s1 u1 = A → get t 0 = .p b 0 → get t 3 = .s s1 → Run (ctx Tryz.prog G0 [(106, pUpToC), (175, pLast2C), (176, pCutC), (105, pEncodeC), (177, pHParseC), (178, pPortUC)]) (Fini (ctx Tryz.prog G0 [(106, pUpToC), (175, pLast2C), (176, pCutC), (105, pEncodeC), (177, pHParseC), (178, pPortUC)]) Tryz.f103.results.toList fun v' h1 => ∃ σ, Trim h v' h1 (.b A.1) (h.set b (rdU r0 A.2)) σ) [.c K] t (h.set b ⟨2, true, [.s r0, .s u1.sch, .s u1.us, .s u1.pa, .s u1.ho, .i .i64 u1.po, .s u1.path, .b u1.q, .s u1.qu, .b u1.f, .s u1.fr]⟩) := by
    intro t s1 u1 hs1 hA1 t0 t3
    subst hK
    obtain ⟨w, hcut⟩ := cutV1_eq 58 s1
    have hcl := cut1_le 58 s1
    obtain ⟨hp, hhp⟩ : ∃ x, cut1 58 s1 = x := ⟨_, rfl⟩
    rw [hhp] at hcut hcl
    unfold auH at hA1
    rw [hhp] at hA1
    have l1 : hp.1.length ≤ 1048576 := by omega
    have l2 : hp.2.length ≤ 1048576 := by omega
    cases hH : hostL hp.1 with
    | none =>
      rw [hH] at hA1
      subst hA1
      simp -implicitDefEqProofs [go_sem, Tryz.f103, t0, t3, pCutC, hcut, pHParseC, l1, hH, hostV, hget_set, hb]
      exact fin (.b false) { u1 with ho := [] } ⟨rfl, trivial⟩
    | some hh =>
      rw [hH] at hA1
      subst hA1
      have hP := pPortU_at (h := h.set b ⟨2, true, [.s r0, .s u1.sch, .s u1.us, .s u1.pa, .s hh, .i .i64 u1.po, .s u1.path, .b u1.q, .s u1.qu, .b u1.f, .s u1.fr]⟩) (b := b) (s := hp.2) (l := r0) (u := { u1 with ho := hh }) (by rw [hget_set, if_pos ⟨rfl, hb⟩]; rfl) (by rw [List.length_set]; exact hb) l2
      rw [List.set_set] at hP
      simp -implicitDefEqProofs [go_sem, Tryz.f103, t0, t3, pCutC, hcut, pHParseC, l1, hH, hostV, hget_set, hb, hP]
      exact fin (.b (portUR hp.2 { u1 with ho := hh }).1) _ ⟨rfl, trivial⟩
  have hU' : pUpToC [.p b 0, .s [47, 92, 63, 35]] h = some (.s s, h.set b ⟨2, true, [.s r0, .s u.sch, .s u.us, .s u.pa, .s u.ho, .i .i64 u.po, .s u.path, .b u.q, .s u.qu, .b u.f, .s u.fr]⟩) := hU
  unfold auT at hA hTl
  by_cases c1 : 0 ≤ lastU 64 s
  · obtain ⟨n, hn⟩ : ∃ n : Nat, lastU 64 s = n := ⟨(lastU 64 s).toNat, by omega⟩
    rw [if_pos c1] at hA hTl
    rw [hn] at hA hTl hge
    simp only [Int.toNat_natCast] at hA hTl
    obtain ⟨w, hcut⟩ := cutV1_eq 58 (s.take n)
    have hcl := cut1_le 58 (s.take n)
    rw [List.length_take] at hcl
    obtain ⟨up, hup⟩ : ∃ x, cut1 58 (s.take n) = x := ⟨_, rfl⟩
    rw [hup] at hcut hcl hA
    have l1 : up.1.length ≤ 1048576 := by omega
    have l2 : up.2.length ≤ 1048576 := by omega
    have a1 : (n : Int) ≤ s.length := by omega
    have a2 : (n : Int) + 1 ≤ s.length := by omega
    have a3 : n ≤ s.length := by omega
    have a4 : 0 ≤ (n : Int) + 1 := by omega
    have a5 : ((n : Int) + 1).toNat = n + 1 := by omega
    simp -implicitDefEqProofs [go_sem, Tryz.f103, hU', pLast2C, hn, a1, a2, a3, a4, a5, pCutC, hcut, pEncodeC, l1, l2, hget_set, hb, w64 (x := (n : Int) + 1) (by omega)]
    exact rest _ (s.drop (n + 1)) { u with us := encL 4 up.1, pa := encL 4 up.2 } (by rw [List.length_drop]; omega) hA (by simp -implicitDefEqProofs [go_sem]) (by simp -implicitDefEqProofs [go_sem])
  · rw [if_neg c1] at hA
    simp -implicitDefEqProofs [go_sem, Tryz.f103, hU', pLast2C, c1]
    exact rest _ s u hsl hA (by simp -implicitDefEqProofs [go_sem]) (by simp -implicitDefEqProofs [go_sem])
end GoD

/-! What url.Parse's reader reads: points, paths. -/
namespace GoD
open Go Go.Proofs
set_option linter.unusedVariables false
set_option linter.unusedSimpArgs false
set_option maxHeartbeats 4000000
set_option maxRecDepth 100000
theorem replaceK_len (old new : List UInt8) (h : new.length ≤ old.length) : ∀ (k : Nat) (s : List UInt8), (Lib.replaceK old new k s).length ≤ s.length
  | 0, s => by simp [Lib.replaceK]
  | k + 1, s => by
    have hg := Lib.index_ge s old
    unfold Lib.replaceK
    split
    · exact Nat.le_refl _
    · rename_i hm
      have hm' : ¬ Lib.index s old = -1 := fun e => hm (by rw [e]; rfl)
      have hr := Lib.index_room s old (by omega)
      have ih := replaceK_len old new h k (s.drop ((Lib.index s old).toNat + old.length))
      simp only [List.length_append, List.length_take, List.length_drop] at ih ⊢
      omega
theorem replGo_len (l old new : List Int) (h : new.length ≤ old.length) : (replGo l old new).length ≤ l.length := by
  unfold replGo
  rw [ofBA_size]
  show (Lib.replaceAll (toBA l).data.toList (toBA old).data.toList (toBA new).data.toList).toArray.size ≤ l.length
  rw [List.size_toArray]
  unfold Lib.replaceAll Lib.replace
  have e : (toBA l).data.toList.length = l.length := by rw [toBA_list]; simp
  split
  · omega
  · exact Nat.le_trans (replaceK_len _ _ (by rw [toBA_list, toBA_list]; simpa using h) _ _) (by omega)
def dotR (l : List Int) : List Int := replGo (lowerL l) [37, 50, 101] [46]
def dotsU (l : List Int) : Nat := if dotR l = [46] then 1 else if dotR l = [46, 46] then 2 else 0
def pDotsUC : Ct := fun args h => match args with | [.s l] => if l.length ≤ 1048576 then some (.i .i64 (dotsU l), h) else none | _ => none
theorem pDotsU_ok : CtOk Tryz.prog G0 179 pDotsUC := by
  refine ct_plain (n := 1) fol (sound_cons pLower_ok (sound_cons pReplA_ok sound_nil)) (by kernel_rfl) Tryz.func179 rfl fun args h v h' hc r xs H hr hx => ?_
  unfold pDotsUC at hc; split at hc <;> (try split at hc) <;> cases hc
  rename_i l hl
  refine ⟨rfl, rfl, by simp [renV, bndV], ?_⟩
  have hll : (lowerL l).length ≤ 1048576 := by simpa [lowerL] using hl
  have hrl : (replGo (lowerL l) [37, 50, 101] [46]).length ≤ 281474976710656 := Nat.le_trans (replGo_len _ _ _ (by simp)) (by omega)
  have hR : pReplAC [.s (lowerL l), .s [37, 50, 101], .s [46]] = fun h => some (.s (dotR l), h) := by
    funext h
    unfold pReplAC
    simp only []
    rw [if_pos ⟨hll, by simp, by simp, hrl⟩]
    rfl
  unfold dotsU
  by_cases c1 : dotR l = [46]
  · simp -implicitDefEqProofs [go_sem, Tryz.f179, pLowerC, hl, hR, c1]
  · by_cases c2 : dotR l = [46, 46]
    · simp -implicitDefEqProofs [go_sem, Tryz.f179, pLowerC, hl, hR, c1, c2]
    · simp -implicitDefEqProofs [go_sem, Tryz.f179, pLowerC, hl, hR, c1, c2]
theorem mapf_intercalate {α β : Type} (f : α → β) (sep : List α) : ∀ y : List (List α), (sep.map f).intercalate (y.map (List.map f)) = (sep.intercalate y).map f
  | [] => rfl
  | [p] => by simp [List.intercalate]
  | p :: q :: t => by
    have ih := mapf_intercalate f sep (q :: t)
    simp only [List.intercalate, List.map_cons, List.intersperse_cons_cons, List.flatten_cons, List.map_append] at ih ⊢
    rw [ih]
theorem joinGo_eq (y : List (List Int)) (sep : List Int) : joinGo y sep = (sep.intercalate y).map fun c => ((UInt8.ofNat c.toNat).toNat : Int) := by
  unfold joinGo ofBA
  show (((Lib.join ((y.map toBA).map (·.data.toList)) (toBA sep).data.toList).toArray).toList.map _) = _
  have e1 : (y.map toBA).map (·.data.toList) = y.map (List.map fun c => UInt8.ofNat c.toNat) := by
    rw [List.map_map]; rfl
  have e2 : (toBA sep).data.toList = sep.map fun c => UInt8.ofNat c.toNat := rfl
  rw [e1, e2]
  unfold Lib.join
  rw [mapf_intercalate]
  simp
theorem inter_len (sep : List Int) : ∀ y : List (List Int), (sep.intercalate y).length ≤ (y.map List.length).sum + y.length * sep.length
  | [] => by simp [List.intercalate]
  | [p] => by simp [List.intercalate]
  | p :: q :: t => by
    have ih := inter_len sep (q :: t)
    simp only [List.intercalate, List.intersperse_cons_cons, List.flatten_cons, List.length_append, List.map_cons, List.sum_cons, List.length_cons] at ih ⊢
    rw [Nat.add_mul (t.length + 1) 1]
    omega
theorem slash_sum : ∀ y : List (List Int), (slashL y).length = (y.map List.length).sum + y.length
  | [] => rfl
  | p :: t => by
    have ih := slash_sum t
    unfold slashL at ih ⊢
    rw [List.flatMap_cons, List.length_append, ih]
    simp; omega
theorem join_slash (y : List (List Int)) : (joinGo y [47]).length ≤ (slashL y).length := by
  rw [joinGo_eq, List.length_map, slash_sum]
  have := inter_len [47] y
  simpa using this
def lastUB : List Int → Bool
  | [] => true
  | c :: _ => decide (c = 63) || decide (c = 35)
def pathStepU (acc : List (List Int)) (s r : List Int) : List (List Int) :=
  if dotsU s = 0 then acc ++ [encL 3 s] else if lastUB r = true then (if dotsU s = 2 then acc.dropLast else acc) ++ [[]] else if dotsU s = 2 then acc.dropLast else acc
def upM (l : List Int) : Nat := upL [47, 92, 63, 35] l
def pathRunU (acc : List (List Int)) (l : List Int) : List (List Int) × List Int := match l with
  | [] => (acc, [])
  | c :: t => if c = 47 ∨ c = 92 then pathRunU (pathStepU acc (t.take (upM t)) (t.drop (upM t))) (t.drop (upM t)) else (acc, c :: t)
termination_by l.length
decreasing_by simp; omega
theorem pathRunU_go {acc : List (List Int)} {c : Int} {t : List Int} (h : c = 47 ∨ c = 92) : pathRunU acc (c :: t) = pathRunU (pathStepU acc (t.take (upM t)) (t.drop (upM t))) (t.drop (upM t)) := by
  rw [pathRunU, if_pos h]
theorem pathRunU_stop {acc : List (List Int)} {c : Int} {t : List Int} (h : ¬ (c = 47 ∨ c = 92)) : pathRunU acc (c :: t) = (acc, c :: t) := by
  rw [pathRunU, if_neg h]
theorem slash_dropU (l : List (List Int)) : (slashL l.dropLast).length ≤ (slashL l).length := by
  unfold slashL
  rcases List.eq_nil_or_concat l with rfl | ⟨q, c, rfl⟩
  · simp
  · rw [List.concat_eq_append, List.dropLast_concat, List.flatMap_append]; simp
theorem stepU_len (acc : List (List Int)) (s r : List Int) : (slashL (pathStepU acc s r)).length ≤ (slashL acc).length + 3 * s.length + 1 := by
  have h1 := slash_dropU acc
  have h2 := encL_len 3 s
  have h3 : ∀ (A : List (List Int)) (x : List Int), (slashL (A ++ [x])).length = (slashL A).length + (x.length + 1) := by intro A x; simp [slashL]
  unfold pathStepU
  split
  · rw [h3]; omega
  · split
    · split
      · rw [h3, List.length_nil]; omega
      · rw [h3, List.length_nil]; omega
    · split <;> omega
def pathU (l : List Int) : List Int := 47 :: (if (pathRunU [] l).1 = [] then [] else joinGo (pathRunU [] l).1 [47])
end GoD

/-! What url.Parse's reader reads: paths. -/
namespace GoD
open Go Go.Proofs
set_option linter.unusedVariables false
set_option linter.unusedSimpArgs false
set_option maxHeartbeats 8000000
set_option maxRecDepth 100000
theorem ext_setb {h h1 : Heap} {b : Nat} {A B : Blk} (he : Ext (h.set b A) h1) (hb : b < h.length) : Ext (h.set b B) (h1.set b B) := by
  have hl := he.1
  rw [List.length_set] at hl
  refine ⟨by rw [List.length_set, List.length_set]; exact hl, fun i hi => ?_⟩
  rw [List.length_set] at hi
  by_cases e : i = b
  · subst e; rw [hget_set, hget_set, if_pos ⟨rfl, by omega⟩, if_pos ⟨rfl, hb⟩]
  · rw [hget_set, hget_set, if_neg (by omega), if_neg (by omega)]
    have := he.2 i (by rw [List.length_set]; exact hi)
    rwa [hget_set, if_neg (by omega)] at this
theorem sts_app (a : List (List Int)) (x : List Int) : sts a ++ [.s x] = sts (a ++ [x]) := by simp [sts]
def pPathUC : Ct := fun args h => match args with
  | [.p b 0] => (match rdAt h b with
    | some (l, u) => if b < h.length ∧ l.length ≤ 1048576 then some (.tup [], h.set b (rdU (pathRunU [] l).2 { u with path := pathU l })) else none
    | none => none)
  | _ => none
theorem pPathU_ok : CtOk Tryz.prog G0 104 pPathUC := by
  refine ct_run (n := 1) fol (sound_cons pPassU_ok (sound_cons pUpTo_ok (sound_cons pDotsU_ok (sound_cons pEncode_ok (sound_cons pJoin_ok sound_nil))))) (by kernel_rfl) Tryz.func104 rfl fun args h v h' hc r xs H hr hx => ?_
  unfold pPathUC at hc; split at hc <;> (try split at hc) <;> (try split at hc) <;> cases hc
  rename_i b _ l u hrd hb
  obtain ⟨hb, hl⟩ := hb
  have hg := rdAt_eq hrd
  refine ⟨rfl, ?_⟩
  obtain ⟨R, hR⟩ : ∃ R, pathRunU [] l = R := ⟨_, rfl⟩
  have hRu : pathU l = 47 :: (if R.1 = [] then [] else joinGo R.1 [47]) := by unfold pathU; rw [hR]
  rw [hRu, hR]
  have hbn : ∀ {h1 : Heap} {x : List Int}, Ext (h.set b (rdU x u)) h1 → b < h1.length := fun he => by have := he.1; rw [List.length_set] at this; omega
  simp only [Tryz.f104, run_seq]
  generalize hKe : Code.region 11 _ _ = Ke
  have fin : ∀ (t : Tm) (h1 : Heap) (q : Nat) (c : List V), get t 0 = .p b 0 → get t 2 = .sl q 0 R.1.length 1 → hget h1 b = rdU R.2 u → hget h1 q = ⟨2, false, c⟩ → ldN c 0 R.1.length = some (sts R.1) → Ext (h.set b (rdU R.2 u)) h1 → (slashL R.1).length ≤ 3145728 → Run (ctx Tryz.prog G0 [(102, pPassUC), (106, pUpToC), (179, pDotsUC), (105, pEncodeC), (180, pJoinC)]) (Fini (ctx Tryz.prog G0 [(102, pPassUC), (106, pUpToC), (179, pDotsUC), (105, pEncodeC), (180, pJoinC)]) Tryz.f104.results.toList fun v' h1 => ∃ σ, Trim h v' h1 (.tup []) (h.set b (rdU R.2 { u with path := 47 :: (if R.1 = [] then [] else joinGo R.1 [47]) })) σ) [.c Ke] t h1 := by
    intro t h1 q c t0 t2 hgb hgq hld hE hlen
    subst hKe
    have hb1 := hbn hE
    have hgb' : hget h1 b = ⟨2, true, [.s R.2, .s u.sch, .s u.us, .s u.pa, .s u.ho, .i .i64 u.po, .s u.path, .b u.q, .s u.qu, .b u.f, .s u.fr]⟩ := hgb
    have hss := slash_sum R.1
    have hjs := join_slash R.1
    have hst : strsAt h1 q 0 R.1.length = some R.1 := by unfold strsAt; rw [hgq]; simp only [hld, strsV_map]
    have hJ : pJoinC [.sl q 0 R.1.length 1, .s [47]] h1 = some (.s (if R.1 = [] then [] else joinGo R.1 [47]), h1) := by
      unfold pJoinC
      simp only []
      by_cases e : R.1 = []
      · rw [if_pos e, if_pos (by rw [e]; rfl)]
      · have e2 : ¬ R.1.length = 0 := fun q => e (List.eq_nil_of_length_eq_zero q)
        rw [if_neg e, if_neg e2]
        simp only [hst]
        rw [if_pos ⟨by omega, by omega, by omega⟩]
    obtain ⟨J, hJe⟩ : ∃ J, (if R.1 = [] then [] else joinGo R.1 [47]) = J := ⟨_, rfl⟩
    have hJl : J.length ≤ 3145728 := by
      rw [← hJe]
      split
      · simp
      · omega
    rw [hJe] at hJ ⊢
    simp -implicitDefEqProofs [go_sem, Tryz.f104, t0, t2, hJ, hgb', hb1, show 1 + J.length ≤ 281474976710656 by omega, show J.length + 1 ≤ 281474976710656 by omega]
    exact Trim.own ⟨rfl, trivial⟩ (rdU_flat _ _) (ext_setb hE hb)
  simp -implicitDefEqProofs [go_sem]
  refine run_inv _ _ _ _ _ (fun (x : List Int × List (List Int) × Nat × List V) t h1 => get t 0 = .p b 0 ∧ get t 2 = .sl x.2.2.1 0 x.2.1.length 1 ∧ hget h1 b = rdU x.1 u ∧ hget h1 x.2.2.1 = ⟨2, false, x.2.2.2⟩ ∧ ldN x.2.2.2 0 x.2.1.length = some (sts x.2.1) ∧ h.length ≤ x.2.2.1 ∧ x.2.2.1 < h1.length ∧ Ext (h.set b (rdU x.1 u)) h1 ∧ pathRunU x.2.1 x.1 = R ∧ (slashL x.2.1).length + 3 * x.1.length ≤ 3 * l.length ∧ x.1.length ≤ l.length) (fun x => x.1.length) _ (x := (l, [], h.length, [])) ⟨by simp -implicitDefEqProofs [go_sem], by simp -implicitDefEqProofs [go_sem], by rw [hget_lt hb]; exact hg, by rw [hget_at0 rfl]; rfl, rfl, Nat.le_refl _, by simp, by rw [set_same hb hg]; exact (Ext.refl h).app _, hR, by simp [slashL], Nat.le_refl _⟩ ?_
  rintro ⟨l', acc, q, c⟩ t h1 ⟨t0, t2, hgb, hgq, hld, hq, hq1, hE, ha, hlen, hl'⟩ ih
  simp only at t2 hgb hgq hld hq hq1 hE ha hlen hl'
  have hb1 := hbn hE
  have hqb : ¬ q = b := by omega
  have hP := pPassU_at (m := [47, 92]) hgb hb1 rfl (show l'.length ≤ 1048576 by omega)
  have stop : passK [47, 92] l' = 0 → R = (acc, l') → Run (ctx Tryz.prog G0 [(102, pPassUC), (106, pUpToC), (179, pDotsUC), (105, pEncodeC), (180, pJoinC)]) (Fini (ctx Tryz.prog G0 [(102, pPassUC), (106, pUpToC), (179, pDotsUC), (105, pEncodeC), (180, pJoinC)]) Tryz.f104.results.toList fun v' h1 => ∃ σ, Trim h v' h1 (.tup []) (h.set b (rdU R.2 { u with path := 47 :: (if R.1 = [] then [] else joinGo R.1 [47]) })) σ) [.c (loop1 Tryz.f104), .again (loop1 Tryz.f104), .b 0, .c Ke] t h1 := by
    intro h0 hR1
    have e0 : h1.set b ⟨2, true, .s l' :: u.cells⟩ = h1 := set_same hb1 hgb
    rw [h0, List.drop_zero, e0] at hP
    subst hR1
    simp -implicitDefEqProofs [go_sem, loop1, loopC, Tryz.f104, t0, hP]
    exact fin _ _ q c (by simp -implicitDefEqProofs [go_sem, t0]) (by simp -implicitDefEqProofs [go_sem, t2]) hgb hgq hld hE (by show (slashL acc).length ≤ 3145728; omega)
  match l' with
  | [] =>
    rw [pathRunU] at ha
    exact stop rfl ha.symm
  | c1 :: t1 =>
    by_cases hc : c1 = 47 ∨ c1 = 92
    · have hk : passK [47, 92] (c1 :: t1) = 1 := if_pos (by simpa using hc)
      rw [hk, List.drop_succ_cons, List.drop_zero, show decide ((1 : Nat) = 1) = true from rfl] at hP
      rw [pathRunU_go hc] at ha
      simp only [List.length_cons] at hlen hl'
      have hU := pUpTo_at (h := h1.set b ⟨2, true, .s t1 :: u.cells⟩) (b := b) (m := [47, 92, 63, 35]) (l := t1) (c := u.cells) (by rw [hget_set, if_pos ⟨rfl, hb1⟩]) (by rw [List.length_set]; exact hb1) rfl (by omega)
      rw [List.set_set] at hU
      obtain ⟨s, hs⟩ : ∃ s, t1.take (upM t1) = s := ⟨_, rfl⟩
      obtain ⟨r, hr⟩ : ∃ s, t1.drop (upM t1) = s := ⟨_, rfl⟩
      have hs' : t1.take (upL [47, 92, 63, 35] t1) = s := hs
      have hr' : t1.drop (upL [47, 92, 63, 35] t1) = r := hr
      have hsr : s.length + r.length = t1.length := by rw [← hs, ← hr, List.length_take, List.length_drop]; omega
      rw [hs, hr] at ha
      rw [hs', hr'] at hU
      generalize hK : (Code.region 4 _ _).seq _ = K
      obtain ⟨H, hH⟩ : ∃ H, h1.set b ⟨2, true, .s r :: u.cells⟩ = H := ⟨_, rfl⟩
      rw [hH] at hU
      have hHb : hget H b = ⟨2, true, [.s r, .s u.sch, .s u.us, .s u.pa, .s u.ho, .i .i64 u.po, .s u.path, .b u.q, .s u.qu, .b u.f, .s u.fr]⟩ := by rw [← hH, hget_set, if_pos ⟨rfl, hb1⟩]; rfl
      have hHl : H.length = h1.length := by rw [← hH, List.length_set]
      have hHq : hget H q = ⟨2, false, c⟩ := by rw [← hH, hget_set, if_neg (by omega)]; exact hgq
      have hEH : Ext (h.set b (rdU r u)) H := by rw [← hH]; exact ext_setb hE hb
      have hbH : b < H.length := by omega
      have hqH : q < H.length := by omega
      have tail : ∀ t : Tm, get t 0 = .p b 0 → get t 2 = .sl q 0 acc.length 1 → get t 3 = .s s → get t 4 = .b (lastUB r) → Run (ctx Tryz.prog G0 [(102, pPassUC), (106, pUpToC), (179, pDotsUC), (105, pEncodeC), (180, pJoinC)]) (Fini (ctx Tryz.prog G0 [(102, pPassUC), (106, pUpToC), (179, pDotsUC), (105, pEncodeC), (180, pJoinC)]) [] fun v' h1 => ∃ σ, Trim h v' h1 (V.tup []) (h.set b (rdU R.2 { u with path := 47 :: (if R.1 = [] then [] else joinGo R.1 [47]) })) σ) [.c K, .b 1, .again (loop1 Tryz.f104), .b 0, .c Ke] t H := by
        intro t t0 t2 t3 t4
        subst hK
        have hsl : s.length ≤ 1048576 := by omega
        have hac := slash_sum acc
        have hcap : (acc.length + 1) * 16 ≤ 1099511627776 := by omega
        have step := stepU_len acc s r
        have hgoal : ∀ (t' : Tm) (h2 : Heap) (acc' : List (List Int)) (q' : Nat) (c' : List V), pathStepU acc s r = acc' → get t' 0 = .p b 0 → get t' 2 = .sl q' 0 acc'.length 1 → hget h2 b = rdU r u → hget h2 q' = ⟨2, false, c'⟩ → ldN c' 0 acc'.length = some (sts acc') → h.length ≤ q' → q' < h2.length → Ext (h.set b (rdU r u)) h2 → Run (ctx Tryz.prog G0 [(102, pPassUC), (106, pUpToC), (179, pDotsUC), (105, pEncodeC), (180, pJoinC)]) (Fini (ctx Tryz.prog G0 [(102, pPassUC), (106, pUpToC), (179, pDotsUC), (105, pEncodeC), (180, pJoinC)]) [] fun v' h1 => ∃ σ, Trim h v' h1 (V.tup []) (h.set b (rdU R.2 { u with path := 47 :: (if R.1 = [] then [] else joinGo R.1 [47]) })) σ) [.again (loop1 Tryz.f104), .b 0, .c Ke] t' h2 := fun t' h2 acc' q' c' e1 e2 e3 e4 e5 e6 e7 e8 e9 => by
          subst e1
          exact ih (r, pathStepU acc s r, q', c') t' h2 (by simp only [List.length_cons]; omega) ⟨e2, e3, e4, e5, e6, e7, e8, e9, ha, by simp only; omega, by simp only; omega⟩
        have hgoA : ∀ (t' : Tm) (A : List (List Int)) (n : Nat) (e : List Int) (X : Blk), A.length = n → pathStepU acc s r = A ++ [e] → ldN c 0 n = some (sts A) → get t' 0 = .p b 0 → get t' 2 = .sl (H.length + 1) 0 (n + 1) 1 → Run (ctx Tryz.prog G0 [(102, pPassUC), (106, pUpToC), (179, pDotsUC), (105, pEncodeC), (180, pJoinC)]) (Fini (ctx Tryz.prog G0 [(102, pPassUC), (106, pUpToC), (179, pDotsUC), (105, pEncodeC), (180, pJoinC)]) [] fun v' h1 => ∃ σ, Trim h v' h1 (V.tup []) (h.set b (rdU R.2 { u with path := 47 :: (if R.1 = [] then [] else joinGo R.1 [47]) })) σ) [.again (loop1 Tryz.f104), .b 0, .c Ke] t' (H.set q dead ++ [X, ⟨2, false, sts (A ++ [e])⟩]) := fun t' A n e X e1 e2 e3 e4 e5 => by
          refine hgoal t' _ (A ++ [e]) (H.length + 1) (sts (A ++ [e])) e2 e4 (by rw [e5, List.length_append, e1]; rfl) ?_ ?_ ?_ (by omega) (by simp) ?_
          · rw [hget_lt (by rw [List.length_set]; exact hbH), hget_set, if_neg (by omega)]; exact hHb
          · rw [hget_at (n := H.length) (k := 1) (by rw [List.length_set])]; rfl
          · exact ldN_s rfl
          · exact ((Ext.set hEH (by rw [List.length_set]; exact hq) _).app _)
        have hlo : (sts acc).length = acc.length := sts_len acc
        by_cases d0 : dotsU s = 0
        · have e1 : pathStepU acc s r = acc ++ [encL 3 s] := by unfold pathStepU; rw [if_pos d0]
          simp -implicitDefEqProofs [go_sem, Tryz.f104, t0, t2, t3, t4, pDotsUC, hsl, d0, pEncodeC, hHq, hqH, hld, hcap]
          exact hgoA _ acc acc.length (encL 3 s) _ rfl e1 hld (by simp -implicitDefEqProofs [go_sem, t0]) (by simp -implicitDefEqProofs [go_sem])
        · by_cases d2 : dotsU s = 2
          · have d2' : (dotsU s : Int) = 2 := by omega
            by_cases ea : acc = []
            · have e0 : acc.length = 0 := by rw [ea]; rfl
              have ed : acc.dropLast = acc := by rw [ea]; rfl
              have hn0 : ¬ (0 : Int) < acc.length := by omega
              have hld0 : ldN c 0 0 = some (sts acc) := by rw [e0] at hld; exact hld
              cases hL : lastUB r with
              | true =>
                have e1 : pathStepU acc s r = acc ++ [[]] := by unfold pathStepU; rw [if_neg d0, if_pos hL, if_pos d2, ed]
                rw [hL] at t4
                simp -implicitDefEqProofs [go_sem, Tryz.f104, t0, t2, t3, t4, pDotsUC, hsl, d2, d2', e0, hn0, hHq, hqH, hld0]
                exact hgoA _ acc 0 [] ⟨2, true, [.s []]⟩ e0 e1 hld0 (by simp -implicitDefEqProofs [go_sem, t0]) (by simp -implicitDefEqProofs [go_sem])
              | false =>
                have e1 : pathStepU acc s r = acc := by unfold pathStepU; rw [if_neg d0, if_neg (by rw [hL]; simp), if_pos d2, ed]
                rw [hL] at t4
                simp -implicitDefEqProofs [go_sem, Tryz.f104, t0, t2, t3, t4, pDotsUC, hsl, d2, d2', e0, hn0]
                exact hgoal _ _ acc q c e1 (by simp -implicitDefEqProofs [go_sem, t0]) (by simp -implicitDefEqProofs [go_sem, t2]) hHb hHq hld hq hqH hEH
            · have en : 0 < acc.length := List.length_pos_iff.2 ea
              have hn0 : (0 : Int) < acc.length := by omega
              obtain ⟨n, hn⟩ : ∃ n, acc.length = n + 1 := ⟨acc.length - 1, by omega⟩
              have hdl : acc.dropLast.length = n := by rw [List.length_dropLast, hn]; rfl
              have hld2 : ldN c 0 n = some (sts acc.dropLast) := by
                rw [hn] at hld
                unfold ldN at hld ⊢
                split at hld
                · rename_i hle
                  rw [if_pos (by omega)]
                  have h9 := Option.some.inj hld
                  rw [List.drop_zero] at h9 ⊢
                  have h10 := congrArg (List.take n) h9
                  rw [List.take_take, Nat.min_eq_left (by omega)] at h10
                  rw [h10]
                  congr 1
                  rw [List.dropLast_eq_take, hn]
                  simp [sts]
                · cases hld
              have w1 : IntKind.i64.wrap ((n : Int) + 1 - 1) = n := by rw [show (n : Int) + 1 - 1 = n by omega]; exact w64 (by omega)
              have w2 : IntKind.i64.wrap (n : Int) = n := w64 (by omega)
              have hc2 : (n + 1) * 16 ≤ 1099511627776 := by omega
              have a1 : (n : Int) ≤ (n : Int) + 1 := by omega
              cases hL : lastUB r with
              | true =>
                have e1 : pathStepU acc s r = acc.dropLast ++ [[]] := by unfold pathStepU; rw [if_neg d0, if_pos hL, if_pos d2]
                rw [hL] at t4
                simp -implicitDefEqProofs [go_sem, Tryz.f104, t0, t2, t3, t4, pDotsUC, hsl, d2, d2', hn, w1, w2, a1, hHq, hqH, hld2, hc2]
                exact hgoA _ acc.dropLast n [] ⟨2, true, [.s []]⟩ hdl e1 hld2 (by simp -implicitDefEqProofs [go_sem, t0]) (by simp -implicitDefEqProofs [go_sem])
              | false =>
                have e1 : pathStepU acc s r = acc.dropLast := by unfold pathStepU; rw [if_neg d0, if_neg (by rw [hL]; simp), if_pos d2]
                rw [hL] at t4
                simp -implicitDefEqProofs [go_sem, Tryz.f104, t0, t2, t3, t4, pDotsUC, hsl, d2, d2', hn, w1, w2, a1]
                exact hgoal _ _ acc.dropLast q c e1 (by simp -implicitDefEqProofs [go_sem, t0]) (by simp -implicitDefEqProofs [go_sem, hdl]) hHb hHq (by rw [hdl]; exact hld2) hq hqH hEH
          · have d2' : ¬ (dotsU s : Int) = 2 := by omega
            have d0' : ¬ (dotsU s : Int) = 0 := by omega
            cases hL : lastUB r with
            | true =>
              have e1 : pathStepU acc s r = acc ++ [[]] := by unfold pathStepU; rw [if_neg d0, if_pos hL, if_neg d2]
              rw [hL] at t4
              simp -implicitDefEqProofs [go_sem, Tryz.f104, t0, t2, t3, t4, pDotsUC, hsl, d2, d2', d0, d0', hHq, hqH, hld, hcap]
              exact hgoA _ acc acc.length [] ⟨2, true, [.s []]⟩ rfl e1 hld (by simp -implicitDefEqProofs [go_sem, t0]) (by simp -implicitDefEqProofs [go_sem])
            | false =>
              have e1 : pathStepU acc s r = acc := by unfold pathStepU; rw [if_neg d0, if_neg (by rw [hL]; simp), if_neg d2]
              rw [hL] at t4
              simp -implicitDefEqProofs [go_sem, Tryz.f104, t0, t2, t3, t4, pDotsUC, hsl, d2, d2', d0, d0']
              exact hgoal _ _ acc q c e1 (by simp -implicitDefEqProofs [go_sem, t0]) (by simp -implicitDefEqProofs [go_sem, t2]) hHb hHq hld hq hqH hEH
      have hr0 : r = [] ∨ ∃ d r', r = d :: r' := by cases r with | nil => exact .inl rfl | cons d r' => exact .inr ⟨d, r', rfl⟩
      rcases hr0 with e | ⟨d, r', e⟩
      · simp -implicitDefEqProofs [go_sem, Tryz.f104, t0, hP, hU, hHb, e]
        subst hK
        exact tail _ (by simp -implicitDefEqProofs [go_sem, t0]) (by simp -implicitDefEqProofs [go_sem, t2]) (by simp -implicitDefEqProofs [go_sem]) (by simp -implicitDefEqProofs [go_sem, e, lastUB])
      · by_cases d1 : d = 63
        · simp -implicitDefEqProofs [go_sem, Tryz.f104, t0, hP, hU, hHb, e, d1]
          subst hK
          exact tail _ (by simp -implicitDefEqProofs [go_sem, t0]) (by simp -implicitDefEqProofs [go_sem, t2]) (by simp -implicitDefEqProofs [go_sem]) (by simp -implicitDefEqProofs [go_sem, e, lastUB, d1])
        · by_cases d2 : d = 35
          · simp -implicitDefEqProofs [go_sem, Tryz.f104, t0, hP, hU, hHb, e, d1, d2]
            subst hK
            exact tail _ (by simp -implicitDefEqProofs [go_sem, t0]) (by simp -implicitDefEqProofs [go_sem, t2]) (by simp -implicitDefEqProofs [go_sem]) (by simp -implicitDefEqProofs [go_sem, e, lastUB, d1, d2])
          · simp -implicitDefEqProofs [go_sem, Tryz.f104, t0, hP, hU, hHb, e, d1, d2]
            subst hK
            exact tail _ (by simp -implicitDefEqProofs [go_sem, t0]) (by simp -implicitDefEqProofs [go_sem, t2]) (by simp -implicitDefEqProofs [go_sem]) (by simp -implicitDefEqProofs [go_sem, e, lastUB, d1, d2])
    · have hk : passK [47, 92] (c1 :: t1) = 0 := if_neg (by simp; exact ⟨fun e => hc (.inl e), fun e => hc (.inr e)⟩)
      rw [pathRunU_stop hc] at ha
      exact stop hk ha.symm
end GoD
