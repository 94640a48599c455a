import Derived.Test.YtcaaebjjgbcjpaaGreatDoorEX
/-! What the runtime's own rows of bytes answer. -/
namespace GoD
open Go Go.Proofs
set_option linter.unusedVariables false
set_option linter.unusedSimpArgs false
set_option maxHeartbeats 4000000
set_option maxRecDepth 100000
def idxL (c : Int) : List Int → Int
  | [] => -1
  | b :: l => if b = c then 0 else if idxL c l = -1 then -1 else idxL c l + 1
theorem idxL_ge (c : Int) : ∀ l : List Int, -1 ≤ idxL c l ∧ idxL c l < l.length
  | [] => by simp [idxL]
  | b :: l => by
    have := idxL_ge c l
    rw [idxL]
    split
    · simp <;> omega
    · split <;> simp <;> omega
theorem byte_inj {a b : Int} (ha : 0 ≤ a ∧ a < 256) (hb : 0 ≤ b ∧ b < 256) : (a.toNat.toUInt8 == b.toNat.toUInt8) = decide (a = b) := by
  by_cases h : a = b
  · simp [h]
  · have : a.toNat.toUInt8 ≠ b.toNat.toUInt8 := by
      intro e
      have e := congrArg UInt8.toNat e
      simp only [UInt8.toNat_ofNat'] at e
      omega
    simp [h, this]
theorem toBA_list (l : List Int) : (toBA l).data.toList = l.map fun c => c.toNat.toUInt8 := by simp [toBA]
theorem indexByte_eq {c : Int} (hc : 0 ≤ c ∧ c < 256) : ∀ {l : List Int}, (∀ x ∈ l, 0 ≤ x ∧ x < 256) → Lib.indexByte (l.map fun c => c.toNat.toUInt8) c.toNat.toUInt8 = idxL c l
  | [], _ => rfl
  | b :: l, h => by
    have ih := indexByte_eq hc fun x hx => h x (List.mem_cons_of_mem _ hx)
    rw [List.map_cons, Lib.indexByte, ih, idxL, byte_inj (h b List.mem_cons_self) hc]
    by_cases e : b = c
    · simp [e]
    · by_cases f : idxL c l = -1 <;> simp [e, f]
theorem countByte_eq {c : Int} (hc : 0 ≤ c ∧ c < 256) {l : List Int} (h : ∀ x ∈ l, 0 ≤ x ∧ x < 256) : Lib.countByte (l.map fun c => c.toNat.toUInt8) c.toNat.toUInt8 = l.count c := by
  unfold Lib.countByte
  induction l with
  | nil => rfl
  | cons b l ih =>
    rw [List.map_cons, List.count_cons, List.count_cons, ih fun x hx => h x (List.mem_cons_of_mem _ hx), byte_inj (h b List.mem_cons_self) hc]
    by_cases e : b = c <;> simp [e]
theorem byteOf {r : List (Option Loc)} {n : Int} {a : List V} {xs : List Value} (h : RL r (.i .u8 n :: a) xs) : 0 ≤ n ∧ n < 256 := by
  have := (int_of h).1
  simpa [lo, hi, IntKind.signed, IntKind.bits] using this
def pIdxC : Ct := fun args h => match args with | [.s l, .i .u8 c] => some (.i .i64 (idxL c l), h) | _ => none
theorem pIdx_ok : CtOk Tryz.prog G0 274 pIdxC := by
  intro args h v h' hc
  unfold pIdxC at hc
  split at hc
  · rename_i l c
    cases hc
    refine .inr ⟨rfl, fun r xs w hx => ?_⟩
    obtain ⟨⟨hs, hl⟩, _, hx2⟩ := str_of hx
    have hb := byteOf hx2
    have hge := idxL_ge c l
    cases hx with | cons h1 h2 =>
    cases h1
    cases h2 with | cons h3 h4 =>
    cases h3
    cases h4
    refine ⟨.int .i64 (idxL c l), ?_, .i _ _ (w64 (by omega))⟩
    rw [run_callFunc_extern Tryz.func274 (by kernel_rfl) (by kernel_rfl) (by kernel_rfl) (e := Extern.BytealgIndexByte.indexByte) (by kernel_rfl), Lib.run_indexByteString]
    rw [toBA_list, indexByte_eq hb hs]
    rfl
  · cases hc
def pCntC : Ct := fun args h => match args with | [.s l, .i .u8 c] => some (.i .i64 (l.count c), h) | _ => none
theorem pCnt_ok : CtOk Tryz.prog G0 356 pCntC := by
  intro args h v h' hc
  unfold pCntC at hc
  split at hc
  · rename_i l c
    cases hc
    refine .inr ⟨rfl, fun r xs w hx => ?_⟩
    obtain ⟨⟨hs, hl⟩, _, hx2⟩ := str_of hx
    have hb := byteOf hx2
    have hge : l.count c ≤ l.length := List.count_le_length
    cases hx with | cons h1 h2 =>
    cases h1
    cases h2 with | cons h3 h4 =>
    cases h3
    cases h4
    refine ⟨.int .i64 (l.count c), ?_, .i _ _ (w64 (by omega))⟩
    rw [run_callFunc_extern Tryz.func356 (by kernel_rfl) (by kernel_rfl) (by kernel_rfl) (e := Extern.BytealgCount.count) (by kernel_rfl), Lib.run_countString]
    rw [toBA_list, countByte_eq hb hs]
    rfl
  · cases hc
theorem idxL_count (c : Int) : ∀ l : List Int, idxL c l = -1 ↔ l.count c = 0
  | [] => by simp [idxL]
  | b :: l => by
    have ih := idxL_count c l
    have hg := idxL_ge c l
    rw [idxL]
    by_cases h : b = c
    · subst h; simp
    · rw [if_neg h, List.count_cons_of_ne h]
      by_cases h2 : idxL c l = -1
      · simp [h2, ih.1 h2]
      · rw [if_neg h2]
        constructor
        · intro h3; omega
        · intro h3; exact absurd (ih.2 h3) h2
theorem splitL_idx {c : Int} : ∀ {l : List Int} {m : Nat}, idxL c l = m → splitL c l = l.take m :: splitL c (l.drop (m + 1)) ∧ l.count c = (l.drop (m + 1)).count c + 1 ∧ m < l.length
  | [], m, h => by simp [idxL] at h <;> omega
  | b :: l, m, h => by
    rw [idxL] at h
    by_cases e : b = c
    · subst e
      rw [if_pos rfl] at h
      have : m = 0 := by omega
      subst this
      refine ⟨?_, ?_, by simp⟩
      · rw [splitL, if_pos rfl]; rfl
      · simp
    · rw [if_neg e] at h
      by_cases h2 : idxL c l = -1
      · rw [if_pos h2] at h; omega
      · rw [if_neg h2] at h
        have hg := idxL_ge c l
        obtain ⟨k, rfl⟩ : ∃ k, m = k + 1 := ⟨m - 1, by omega⟩
        obtain ⟨h3, h4, h5⟩ := splitL_idx (c := c) (l := l) (m := k) (by omega)
        refine ⟨?_, ?_, by simp; omega⟩
        · rw [splitL, if_neg e, h3]; rfl
        · rw [List.count_cons_of_ne e, h4]; rfl
theorem splitL_zero {c : Int} {l : List Int} (h : l.count c = 0) : splitL c l = [l] := splitL_none (List.count_eq_zero.1 h)
theorem splitL_count (c : Int) : ∀ l : List Int, (splitL c l).length = l.count c + 1
  | [] => by simp [splitL]
  | b :: l => by
    have ih := splitL_count c l
    rw [splitL]
    by_cases e : b = c
    · subst e; simp [ih]
    · rw [if_neg e, List.count_cons_of_ne e]
      split
      · rename_i h; rw [h] at ih; simp at ih
      · rename_i h; rw [h] at ih; simpa using ih
def pIdx1C : Ct := fun args h => match args with | [.s l, .i .u8 c] => some (.i .i64 (idxL c l), h) | _ => none
theorem pIdx1_ok : CtOk Tryz.prog G0 236 pIdx1C := by
  refine ct_plain (n := 2) fol (sound_cons pIdx_ok sound_nil) (by kernel_rfl) Tryz.func236 rfl fun args h v h' hc r xs H hr hx => ?_
  unfold pIdx1C at hc; split at hc <;> (try split at hc) <;> cases hc
  rename_i l c
  refine ⟨rfl, rfl, by simp [renV, bndV], ?_⟩
  simp -implicitDefEqProofs [go_sem, Tryz.f236, pIdxC]
def pIdx2C : Ct := fun args h => match args with | [.s l, .i .u8 c] => some (.i .i64 (idxL c l), h) | _ => none
theorem pIdx2_ok : CtOk Tryz.prog G0 172 pIdx2C := by
  refine ct_plain (n := 2) fol (sound_cons pIdx1_ok sound_nil) (by kernel_rfl) Tryz.func172 rfl fun args h v h' hc r xs H hr hx => ?_
  unfold pIdx2C at hc; split at hc <;> (try split at hc) <;> cases hc
  rename_i l c
  refine ⟨rfl, rfl, by simp [renV, bndV], ?_⟩
  simp -implicitDefEqProofs [go_sem, Tryz.f172, pIdx1C]
def pInd1C : Ct := fun args h => match args with | [.s l, .s [c]] => some (.i .i64 (idxL c l), h) | _ => none
theorem pInd1_ok : CtOk Tryz.prog G0 275 pInd1C := by
  refine ct_plain (n := 2) fol (sound_cons pIdx1_ok sound_nil) (by kernel_rfl) Tryz.func275 rfl fun args h v h' hc r xs H hr hx => ?_
  unfold pInd1C at hc; split at hc <;> (try split at hc) <;> cases hc
  rename_i l c
  refine ⟨rfl, rfl, by simp [renV, bndV], ?_⟩
  by_cases h1 : [c] = l
  · subst h1
    simp -implicitDefEqProofs [go_sem, Tryz.f275, idxL]
  · simp -implicitDefEqProofs [go_sem, Tryz.f275, h1, pIdx1C]
def pInd2C : Ct := fun args h => match args with | [.s l, .s [c]] => some (.i .i64 (idxL c l), h) | _ => none
theorem pInd2_ok : CtOk Tryz.prog G0 318 pInd2C := by
  refine ct_plain (n := 2) fol (sound_cons pInd1_ok sound_nil) (by kernel_rfl) Tryz.func318 rfl fun args h v h' hc r xs H hr hx => ?_
  unfold pInd2C at hc; split at hc <;> (try split at hc) <;> cases hc
  rename_i l c
  refine ⟨rfl, rfl, by simp [renV, bndV], ?_⟩
  simp -implicitDefEqProofs [go_sem, Tryz.f318, pInd1C]
def pCountC : Ct := fun args h => match args with | [.s l, .s [c]] => some (.i .i64 (l.count c), h) | _ => none
theorem pCount_ok : CtOk Tryz.prog G0 317 pCountC := by
  refine ct_plain (n := 2) fol (sound_cons pCnt_ok sound_nil) (by kernel_rfl) Tryz.func317 rfl fun args h v h' hc r xs H hr hx => ?_
  unfold pCountC at hc; split at hc <;> (try split at hc) <;> cases hc
  rename_i l c
  refine ⟨rfl, rfl, by simp [renV, bndV], ?_⟩
  simp -implicitDefEqProofs [go_sem, Tryz.f317, pCntC]
theorem repL_eq (n : Nat) (v : V) : repL n [v] = List.replicate n v := by
  induction n with
  | zero => rfl
  | succ n ih => rw [repL, ih]; rfl
theorem set_two {h : Heap} {a b c : Blk} {n : Nat} (e : n = h.length + 1) : (h ++ [a, b]).set n c = h ++ [a, c] := by
  subst e
  rw [List.set_append_right _ _ (by omega)]
  simp
theorem sts_put {d : List (List Int)} {p : List Int} {k i : Nat} {z : V} (e : i = d.length) : (sts d ++ List.replicate (k + 1) z).set i (.s p) = sts (d ++ [p]) ++ List.replicate k z := by
  subst e
  rw [List.set_append_right _ _ (by simp [sts_len]), sts_len, Nat.sub_self, List.replicate_succ, List.set_cons_zero, ← sts_snoc, List.append_assoc]
  rfl
def pGenC : Ct := fun args h => match args with | [.s l, .s [c], .i .i64 0, .i .i64 (-1)] => if l.length ≤ 1048576 then some (.sl h.length 0 (splitL c l).length 1, h ++ [⟨2, true, sts (splitL c l)⟩]) else none | _ => none
theorem pGen_ok : CtOk Tryz.prog G0 321 pGenC := by
  refine ct_run (n := 4) fol (sound_cons pCount_ok (sound_cons pInd2_ok sound_nil)) (by kernel_rfl) Tryz.func321 rfl fun args h v h' hc r xs H hr hx => ?_
  unfold pGenC at hc; split at hc <;> (try split at hc) <;> cases hc
  rename_i l c hl
  refine ⟨rfl, ?_⟩
  obtain ⟨n, hn⟩ : ∃ n, l.count c = n := ⟨_, rfl⟩
  have hnl : n ≤ l.length := by rw [← hn]; exact List.count_le_length
  have hsl : (splitL c l).length = n + 1 := by rw [splitL_count, hn]
  have e1 : ¬ ((l.length : Int) + 1 < (n : Int) + 1) := by omega
  have e2 : (n : Int) + 1 ≤ 16777216 := by omega
  have e3 : (0 : Int) ≤ (n : Int) + 1 := by omega
  have e4 : (n : Int) + 1 - 1 = n := by omega
  have n6 : n < 1152921504606846976 := by omega
  have l6 : l.length < 1152921504606846976 := by omega
  simp -implicitDefEqProofs [go_sem, Tryz.f321, pCountC, hn, e1, e2, e3, e4, i64_n n6, i64_n l6, w64 (x := (n : Int)) (by omega), repL_eq]
  refine run_inv _ _ _ _ _ (fun (x : Nat × List Int × List (List Int)) t h1 => x.1 ≤ n ∧ x.2.1.length ≤ l.length ∧ x.2.2.length = x.1 ∧ x.2.1.count c + x.1 = n ∧ x.2.2 ++ splitL c x.2.1 = splitL c l ∧ get t 0 = .s x.2.1 ∧ get t 1 = .s [c] ∧ get t 2 = .i .i64 0 ∧ get t 3 = .i .i64 n ∧ get t 9 = .sl (h.length + 1) 0 (n + 1) 1 ∧ get t 10 = .i .i64 x.1 ∧ h1 = h ++ [⟨2, false, []⟩, ⟨2, true, sts x.2.2 ++ List.replicate (n + 1 - x.1) (.s [])⟩]) (fun x => n - x.1) _ (x := (0, l, [])) ⟨by simp, by simp, rfl, hn, by simp, by simp -implicitDefEqProofs [go_sem], by simp -implicitDefEqProofs [go_sem], by simp -implicitDefEqProofs [go_sem], by simp -implicitDefEqProofs [go_sem], by simp -implicitDefEqProofs [go_sem], by simp -implicitDefEqProofs [go_sem], by simp [sts]⟩ ?_
  rintro ⟨i, s, d⟩ t h1 ⟨hi, hsl1, hd, hct, ha, t0, t1, t2, t3, t9, t10, hh⟩ ih
  simp only at hi hsl1 hd hct ha t0 t10 hh
  have hl1 : h1.length = h.length + 2 := by rw [hh]; simp
  have hg : hget h1 (h.length + 1) = ⟨2, true, sts d ++ List.replicate (n + 1 - i) (.s [])⟩ := by rw [hh, hget_at rfl]; rfl
  have hlen : (sts d ++ List.replicate (n + 1 - i) (V.s [])).length = n + 1 := by simp [sts_len]; omega
  have hi6 : i < 1152921504606846976 := by omega
  have i2 : (i : Int) < (n : Int) + 1 := by omega
  have i3 : i < n + 1 := by omega
  have i4 : (i : Int) + 1 ≤ (n : Int) + 1 := by omega
  have i5 : i + 1 ≤ n + 1 := by omega
  obtain ⟨X, hX⟩ : ∃ X, sts d ++ List.replicate (n + 1 - i) (V.s []) = X := ⟨_, rfl⟩
  have hset : ∀ p : List Int, X.set i (.s p) = sts (d ++ [p]) ++ List.replicate (n - i) (.s []) := by
    intro p
    rw [← hX, show n + 1 - i = (n - i) + 1 by omega, sts_put hd.symm]
  rw [hX] at hg hlen hh
  by_cases hlt : i < n
  · have hne : idxL c s ≠ -1 := fun e => by have := (idxL_count c s).1 e; omega
    have hge := idxL_ge c s
    obtain ⟨m, hm⟩ : ∃ m : Nat, idxL c s = m := ⟨(idxL c s).toNat, by omega⟩
    obtain ⟨h3, h4, h5⟩ := splitL_idx hm
    have m6 : m < 1152921504606846976 := by omega
    have m1 : ¬ (m : Int) < 0 := by omega
    have m2 : (m : Int) ≤ s.length := by omega
    have m3 : (m : Int) + 1 ≤ s.length := by omega
    have m4 : m ≤ s.length := by omega
    simp -implicitDefEqProofs [go_sem, Tryz.f321, t0, t1, t2, t3, t9, t10, hlt, hi, pInd2C, hm, m1, m2, m3, m4, h5, i2, i3, hg, hl1, hlen, hset, i64_n m6, w64 (x := (m : Int)) (by omega)]
    refine ih (i + 1, s.drop (m + 1), d ++ [s.take m]) _ _ (by simp; omega) ⟨by simp; omega, by simp; omega, by simp; omega, by simp; omega, ?_, ?_, ?_, ?_, ?_, ?_, ?_, ?_⟩
    · simp only [List.append_assoc]
      rw [← ha, h3]; rfl
    all_goals simp -implicitDefEqProofs [go_sem, t0, t1, t2, t3, t9, t10, i64_n hi6]
    rw [hh, set_two rfl]
  · have hin : i = n := by omega
    subst hin
    have h0 : s.count c = 0 := by omega
    rw [splitL_zero h0] at ha
    have hfin : h1.set (h.length + 1) ⟨2, true, X.set i (.s s)⟩ = h ++ [⟨2, false, []⟩, ⟨2, true, sts (splitL c l)⟩] := by
      rw [hset, ha, hh, set_two rfl]; simp
    simp -implicitDefEqProofs [go_sem, Tryz.f321, t0, t1, t2, t3, t9, t10, i2, i3, i4, i5, hg, hl1, hlen, i64_n hi6, hfin, hsl]
    exact Trim.sl ⟨by simp, fun j hj => hget_lt hj⟩ (by omega) (by simp) (by rw [hget_at rfl]; rfl) (sts_flat _)
def pSplitSC : Ct := fun args h => match args with | [.s l, .s [c]] => if l.length ≤ 1048576 then some (.sl h.length 0 (splitL c l).length 1, h ++ [⟨2, true, sts (splitL c l)⟩]) else none | _ => none
theorem pSplitS_ok : CtOk Tryz.prog G0 287 pSplitSC := by
  refine ct_run (n := 2) fol (sound_cons pGen_ok sound_nil) (by kernel_rfl) Tryz.func287 rfl fun args h v h' hc r xs H hr hx => ?_
  unfold pSplitSC at hc; split at hc <;> (try split at hc) <;> cases hc
  rename_i l c hl
  refine ⟨rfl, ?_⟩
  simp -implicitDefEqProofs [go_sem, Tryz.f287, pGenC, hl]
  exact Trim.sl ⟨by simp, fun j hj => hget_lt hj⟩ (by omega) (by simp) (by rw [hget_at rfl]; rfl) (sts_flat _)
def pSplitC : Ct := fun args h => match args with | [.s l, .i .u8 c] => if l.length ≤ 1048576 then some (.sl h.length 0 (splitL c l).length 1, h ++ [⟨2, true, sts (splitL c l)⟩]) else none | _ => none
theorem pSplit_ok : CtOk Tryz.prog G0 252 pSplitC := by
  refine ct_run (n := 2) fol (sound_cons pSplitS_ok sound_nil) (by kernel_rfl) Tryz.func252 rfl fun args h v h' hc r xs H hr hx => ?_
  unfold pSplitC at hc; split at hc <;> (try split at hc) <;> cases hc
  rename_i l c hl
  refine ⟨rfl, ?_⟩
  simp -implicitDefEqProofs [go_sem, Tryz.f252, pSplitSC, hl]
  exact Trim.sl ⟨by simp, fun j hj => hget_lt hj⟩ (by omega) (by simp) (by rw [hget_at rfl]; rfl) (sts_flat _)
def lowTo (l : List Int) (i : Nat) : List Int := lowerL (l.take i) ++ l.drop i
theorem lowTo_len (l : List Int) (i : Nat) : (lowTo l i).length = l.length := by simp [lowTo, lowerL]; omega
theorem lowTo_step {l : List Int} {i : Nat} (h : i < l.length) : (lowTo l i).set i (lowB l[i]) = lowTo l (i + 1) := by
  unfold lowTo
  have e : (lowerL (l.take i)).length = i := by simp [lowerL]; omega
  rw [List.set_append_right _ _ (by omega), e, Nat.sub_self, List.drop_eq_getElem_cons h, List.set_cons_zero]
  rw [show lowerL (l.take (i + 1)) = lowerL (l.take i) ++ [lowB l[i]] from snoc_map l lowB h, List.append_assoc]
  rfl
theorem lowTo_get {l : List Int} {i : Nat} (h : i < l.length) : ldN (bts (lowTo l i)) i 1 = some [.i .u8 l[i]] := by
  have e : (lowerL (l.take i)).length = i := by simp [lowerL]; omega
  have h2 : i < (bts (lowTo l i)).length := by rw [bts_len, lowTo_len]; exact h
  rw [ldN, if_pos (by omega), List.drop_eq_getElem_cons h2]
  have : (bts (lowTo l i))[i] = .i .u8 l[i] := by
    simp only [bts, List.getElem_map, lowTo]
    rw [List.getElem_append_right (by omega)]
    simp [e]
  rw [this]; rfl
theorem lowTo_same {l : List Int} {i : Nat} (h : i < l.length) (e : lowB l[i] = l[i]) : lowTo l i = lowTo l (i + 1) := by
  rw [← lowTo_step h, e]
  refine (List.ext_getElem (by simp) ?_)
  intro j h1 h2
  rw [List.getElem_set]
  split
  · rename_i q
    subst q
    have e : (lowerL (l.take i)).length = i := by simp [lowerL]; omega
    simp only [lowTo]
    rw [List.getElem_append_right (by omega)]
    simp [e]
  · rfl
theorem bts_set (l : List Int) (i : Nat) (c : Int) : (bts l).set i (.i .u8 c) = bts (l.set i c) := by simp [bts, List.map_set]
def pLowerC : Ct := fun args h => match args with | [.s l] => if l.length ≤ 1048576 then some (.s (lowerL l), h) else none | _ => none
theorem pLower_ok : CtOk Tryz.prog G0 173 pLowerC := by
  refine ct_plain (n := 1) fol sound_nil (by kernel_rfl) Tryz.func173 rfl fun args h v h' hc r xs H hr hx => ?_
  unfold pLowerC at hc; split at hc <;> (try split at hc) <;> cases hc
  rename_i l hl
  obtain ⟨⟨hs, _⟩, _⟩ := str_of hx
  refine ⟨rfl, rfl, by simp [renV, bndV], ?_⟩
  by_cases hl0 : l = []
  · subst hl0
    simp -implicitDefEqProofs [go_sem, Tryz.f173]
    refine run_inv _ _ _ _ _ (fun (_ : Unit) t h1 => get t 3 = .e0 ∧ get t 9 = .i .i64 0 ∧ get t 10 = .i .i64 0 ∧ Ext h h1) (fun _ => 0) _ (x := ()) ⟨rfl, rfl, rfl, Ext.refl h⟩ ?_
    rintro _ t h1 ⟨t3, t9, t10, hE⟩ ih
    simp -implicitDefEqProofs [go_sem, Tryz.f173, t3, t9, t10, hE, lowerL]
  have hl1 : ¬ l.length = 0 := fun e => hl0 (List.eq_nil_of_length_eq_zero e)
  simp -implicitDefEqProofs [go_sem, Tryz.f173, hl0, hl1]
  refine run_inv _ _ _ _ _ (fun (i : Nat) t h1 => i ≤ l.length ∧ get t 3 = .sl h.length 0 l.length 1 ∧ get t 8 = .sl h.length 0 l.length 1 ∧ get t 9 = .i .i64 l.length ∧ get t 10 = .i .i64 i ∧ h1 = h ++ [⟨2, false, bts (lowTo l i)⟩]) (fun i => l.length - i) _ (x := 0) ⟨by simp, by simp -implicitDefEqProofs [go_sem], by simp -implicitDefEqProofs [go_sem], by simp -implicitDefEqProofs [go_sem], by simp -implicitDefEqProofs [go_sem], by simp [bts, lowTo, lowerL]⟩ ?_
  rintro i t h1 ⟨hi, t3, t8, t9, t10, hh⟩ ih
  have hi6 : i < 1152921504606846976 := by omega
  have hl1 : h1.length = h.length + 1 := by rw [hh]; simp
  have hg : hget h1 h.length = ⟨2, false, bts (lowTo l i)⟩ := by rw [hh, hget_at0 rfl]; rfl
  have hE : Ext h h1 := by rw [hh]; exact (Ext.refl h).new _
  by_cases hlt : i < l.length
  · obtain ⟨d, hc⟩ : ∃ d, l[i] = d := ⟨_, rfl⟩
    have hd := hs d (hc ▸ List.getElem_mem hlt)
    have hget1 := lowTo_get hlt
    have hst := lowTo_step hlt
    rw [hc] at hget1 hst
    obtain ⟨X, hX⟩ : ∃ X, lowTo l i = X := ⟨_, rfl⟩
    have hXl : X.length = l.length := by rw [← hX]; exact lowTo_len l i
    by_cases c1 : 65 ≤ d
    · by_cases c2 : d ≤ 90
      · have e1 : ((d + 97) % 256 - 65) % 256 = d + 32 := by omega
        rw [show lowB d = d + 32 by simp [lowB, c1, c2]] at hst
        rw [hX] at hst hg hget1
        simp -implicitDefEqProofs [go_sem, Tryz.f173, t3, t8, t9, t10, hlt, hl1, hg, hget1, c1, c2, e1, bts_set, hst, hXl, show i + 1 ≤ l.length from hlt]
        refine ih (i + 1) _ _ (by omega) ⟨hlt, ?_, ?_, ?_, ?_, ?_⟩
        all_goals try simp -implicitDefEqProofs [go_sem, t3, t8, t9, t10, i64_n hi6]
        rw [hh, List.set_append_right _ _ (by omega)]; simp
      · have hs1 := lowTo_same hlt (by rw [hc]; simp [lowB, c2])
        simp -implicitDefEqProofs [go_sem, Tryz.f173, t3, t8, t9, t10, hlt, hl1, hg, hget1, c1, c2]
        refine ih (i + 1) _ _ (by omega) ⟨hlt, ?_, ?_, ?_, ?_, ?_⟩
        all_goals try simp -implicitDefEqProofs [go_sem, t3, t8, t9, t10, i64_n hi6]
        rw [hh, hs1]
    · have hs1 := lowTo_same hlt (by rw [hc]; simp [lowB, c1])
      simp -implicitDefEqProofs [go_sem, Tryz.f173, t3, t8, t9, t10, hlt, hl1, hg, hget1, c1]
      refine ih (i + 1) _ _ (by omega) ⟨hlt, ?_, ?_, ?_, ?_, ?_⟩
      all_goals try simp -implicitDefEqProofs [go_sem, t3, t8, t9, t10, i64_n hi6]
      rw [hh, hs1]
  · have hin : i = l.length := by omega
    have hX : lowTo l i = lowerL l := by rw [hin]; simp [lowTo, lowerL]
    rw [hX] at hg
    have hll : (lowerL l).length = l.length := by simp [lowerL]
    simp -implicitDefEqProofs [go_sem, Tryz.f173, t3, t8, t9, t10, hlt, hl1, hg, ldN_b hll, hE]
def pSameC : Ct := fun args h => match args with | [.s l, .s m] => if l.length ≤ 1048576 ∧ m.length ≤ 1048576 then some (.b (decide (lowerL l = lowerL m)), h) else none | _ => none
theorem pSame_ok : CtOk Tryz.prog G0 109 pSameC := by
  refine ct_plain (n := 2) fol (sound_cons pLower_ok sound_nil) (by kernel_rfl) Tryz.func109 rfl fun args h v h' hc r xs H hr hx => ?_
  unfold pSameC at hc; split at hc <;> (try split at hc) <;> cases hc
  rename_i l m hl
  refine ⟨rfl, rfl, by simp [renV, bndV], ?_⟩
  simp -implicitDefEqProofs [go_sem, Tryz.f109, pLowerC, hl.1, hl.2]
/-- where a text stands in a list -/
def posL (l : List Int) : List (List Int) → Int
  | [] => -1
  | p :: y => if l = p then 0 else if posL l y = -1 then -1 else posL l y + 1
theorem posL_mem (l : List Int) : ∀ y : List (List Int), -1 ≤ posL l y ∧ (0 ≤ posL l y ↔ l ∈ y)
  | [] => by simp [posL]
  | p :: y => by
    have ih := posL_mem l y
    rw [posL, List.mem_cons]
    by_cases h : l = p
    · simp [h]
    · rw [if_neg h]
      by_cases h2 : posL l y = -1
      · rw [if_pos h2]
        have : ¬ l ∈ y := fun e => by have := ih.2.2 e; omega
        simp [h, this]
      · rw [if_neg h2]
        have : l ∈ y := ih.2.1 (by omega)
        simp [this]; omega
def posAt (l : List Int) (i : Nat) (y : List (List Int)) : Int := if posL l y = -1 then -1 else i + posL l y
def pPosC : Ct := fun args h => match args with | [.sl b o n 1, .s l] => (match strsAt h b o n with | some y => some (.i .i64 (posL l y), h) | none => none) | _ => none
theorem pPos_ok : CtOk Tryz.prog G0 190 pPosC := by
  refine ct_plain (n := 2) fol sound_nil (by kernel_rfl) Tryz.func190 rfl fun args h v h' hc r xs H hr hx => ?_
  unfold pPosC at hc; split at hc <;> (try split at hc) <;> cases hc
  rename_i b o n l _ y hy
  obtain ⟨st, xx, c, hg, hld, hn, hc⟩ := strsAt_eq hy
  have hn6 := (sl_of hx).1
  refine ⟨rfl, rfl, by simp [renV, bndV], ?_⟩
  simp -implicitDefEqProofs [go_sem, Tryz.f190]
  refine run_inv _ _ _ _ _ (fun (i : Nat) t h1 => i ≤ n ∧ get t 0 = .sl b o n 1 ∧ get t 1 = .s l ∧ get t 7 = .i .i64 n ∧ get t 8 = .i .i64 i ∧ posAt l i (y.drop i) = posL l y ∧ h1 = h) (fun i => n - i) _ (x := 0) ⟨by simp, rfl, rfl, rfl, rfl, by simp [posAt]; intro e; exact e.symm, rfl⟩ ?_
  rintro i t h1 ⟨hi, t0, t1, t7, t8, hd, rfl⟩ ih
  have hi6 : i < 1152921504606846976 := by omega
  by_cases hlt : i < n
  · have hlt' : i < y.length := by omega
    obtain ⟨d, hdd⟩ : ∃ d, y[i] = d := ⟨_, rfl⟩
    have hc1 := hc i hlt'
    rw [hdd] at hc1
    rw [List.drop_eq_getElem_cons hlt', hdd] at hd
    by_cases c1 : l = d
    · have hr : posL l y = i := by rw [← hd]; simp [posAt, posL, c1]
      simp -implicitDefEqProofs [go_sem, Tryz.f190, t0, t1, t7, t8, hlt, hc1, hg, eq_true c1, hr]
    · have hd' : posAt l (i + 1) (y.drop (i + 1)) = posL l y := by
        rw [← hd]
        have := (posL_mem l (y.drop (i + 1))).1
        simp only [posAt, posL, if_neg c1]
        by_cases e : posL l (y.drop (i + 1)) = -1
        · simp [e]
        · rw [if_neg e, if_neg e, if_neg (by omega)]; omega
      simp -implicitDefEqProofs [go_sem, Tryz.f190, t0, t1, t7, t8, hlt, hc1, hg, c1]
      refine ih (i + 1) _ _ (by omega) ⟨by omega, ?_⟩
      simp -implicitDefEqProofs [go_sem, t0, t1, t7, t8, i64_n hi6, hd']
  · have e0 : y.drop i = [] := List.drop_eq_nil_of_le (by omega)
    rw [e0] at hd
    have hr : posL l y = -1 := by rw [← hd]; simp [posAt, posL]
    simp -implicitDefEqProofs [go_sem, Tryz.f190, t0, t1, t7, t8, hlt, hr]
def pContainsC : Ct := fun args h => match args with | [.sl b o n 1, .s l] => (match strsAt h b o n with | some y => some (.b (decide (l ∈ y)), h) | none => none) | _ => none
theorem pContains_ok : CtOk Tryz.prog G0 126 pContainsC := by
  refine ct_plain (n := 2) fol (sound_cons pPos_ok sound_nil) (by kernel_rfl) Tryz.func126 rfl fun args h v h' hc r xs H hr hx => ?_
  unfold pContainsC at hc; split at hc <;> (try split at hc) <;> cases hc
  rename_i b o n l _ y hy
  refine ⟨rfl, rfl, by simp [renV, bndV], ?_⟩
  simp -implicitDefEqProofs [go_sem, Tryz.f126, pPosC, hy, (posL_mem l y).2]
def pAnyC : Ct := fun args h => match args with | [.s l, .sl b o n 1] => (match strsAt h b o n with | some y => some (.b (decide (l ∈ y)), h) | none => none) | _ => none
theorem pAny_ok : CtOk Tryz.prog G0 63 pAnyC := by
  refine ct_plain (n := 2) fol (sound_cons pContains_ok sound_nil) (by kernel_rfl) Tryz.func63 rfl fun args h v h' hc r xs H hr hx => ?_
  unfold pAnyC at hc; split at hc <;> (try split at hc) <;> cases hc
  rename_i l b o n _ y hy
  refine ⟨rfl, rfl, by simp [renV, bndV], ?_⟩
  simp -implicitDefEqProofs [go_sem, Tryz.f63, pContainsC, hy]
end GoD

/-! Bytes, percents and ends of texts as the program answers them. -/
namespace GoD
open Go Go.Proofs
set_option linter.unusedVariables false
set_option linter.unusedSimpArgs false
set_option maxHeartbeats 4000000
set_option maxRecDepth 100000
def pLetterC : Ct := fun args h => match args with | [.i .u8 c] => some (.b (letterB c), h) | _ => none
theorem pLetter_ok : CtOk Tryz.prog G0 326 pLetterC := by
  refine ct_plain (n := 1) fol sound_nil (by kernel_rfl) Tryz.func326 rfl fun args h v h' hc r xs H hr hx => ?_
  unfold pLetterC at hc; split at hc <;> (try split at hc) <;> cases hc
  rename_i c
  refine ⟨rfl, rfl, by simp [renV, bndV], ?_⟩
  by_cases h1 : 97 ≤ c <;> by_cases h2 : c ≤ 122 <;> by_cases h3 : 65 ≤ c <;> by_cases h4 : c ≤ 90 <;> (try omega) <;>
  simp -implicitDefEqProofs [go_sem, Tryz.f326, h1, h2, h3, h4, letterB]
def pDigitC : Ct := fun args h => match args with | [.i .u8 c] => some (.b (digitB c), h) | _ => none
theorem pDigit_ok : CtOk Tryz.prog G0 329 pDigitC := by
  refine ct_plain (n := 1) fol sound_nil (by kernel_rfl) Tryz.func329 rfl fun args h v h' hc r xs H hr hx => ?_
  unfold pDigitC at hc; split at hc <;> (try split at hc) <;> cases hc
  rename_i c
  refine ⟨rfl, rfl, by simp [renV, bndV], ?_⟩
  by_cases h1 : 48 ≤ c <;> by_cases h2 : c ≤ 57 <;> simp -implicitDefEqProofs [go_sem, Tryz.f329, h1, h2, digitB]
def pSchemedC : Ct := fun args h => match args with | [.i .u8 c] => some (.b (schB c), h) | _ => none
theorem pSchemed_ok : CtOk Tryz.prog G0 325 pSchemedC := by
  refine ct_plain (n := 1) fol (sound_cons pLetter_ok (sound_cons pDigit_ok sound_nil)) (by kernel_rfl) Tryz.func325 rfl fun args h v h' hc r xs H hr hx => ?_
  unfold pSchemedC at hc; split at hc <;> (try split at hc) <;> cases hc
  rename_i c
  refine ⟨rfl, rfl, by simp [renV, bndV], ?_⟩
  cases h1 : letterB c with
  | true => simp -implicitDefEqProofs [go_sem, Tryz.f325, pLetterC, pDigitC, h1, schB]
  | false =>
    cases h2 : digitB c with
    | true => simp -implicitDefEqProofs [go_sem, Tryz.f325, pLetterC, pDigitC, h1, h2, schB]
    | false =>
      by_cases h3 : c = 43
      · simp -implicitDefEqProofs [go_sem, Tryz.f325, pLetterC, pDigitC, h1, h2, eq_true h3, schB]
      · by_cases h4 : c = 45
        · simp -implicitDefEqProofs [go_sem, Tryz.f325, pLetterC, pDigitC, h1, h2, h3, eq_true h4, schB]
        · simp -implicitDefEqProofs [go_sem, Tryz.f325, pLetterC, pDigitC, h1, h2, h3, h4, schB]
def pLabelledC : Ct := fun args h => match args with | [.i .u8 c] => some (.b (labB c), h) | _ => none
theorem pLabelled_ok : CtOk Tryz.prog G0 328 pLabelledC := by
  refine ct_plain (n := 1) fol (sound_cons pLetter_ok (sound_cons pDigit_ok sound_nil)) (by kernel_rfl) Tryz.func328 rfl fun args h v h' hc r xs H hr hx => ?_
  unfold pLabelledC at hc; split at hc <;> (try split at hc) <;> cases hc
  rename_i c
  refine ⟨rfl, rfl, by simp [renV, bndV], ?_⟩
  cases h1 : letterB c with
  | true => simp -implicitDefEqProofs [go_sem, Tryz.f328, pLetterC, pDigitC, h1, labB]
  | false =>
    cases h2 : digitB c with
    | true => simp -implicitDefEqProofs [go_sem, Tryz.f328, pLetterC, pDigitC, h1, h2, labB]
    | false =>
      by_cases h3 : c = 45
      · simp -implicitDefEqProofs [go_sem, Tryz.f328, pLetterC, pDigitC, h1, h2, eq_true h3, labB]
      · simp -implicitDefEqProofs [go_sem, Tryz.f328, pLetterC, pDigitC, h1, h2, h3, labB]
theorem idxL_neg (c : Int) (l : List Int) : decide (idxL c l < 0) = !decide (c ∈ l) := by
  have h1 := idxL_ge c l
  have h2 := idxL_count c l
  by_cases h : c ∈ l
  · have : ¬ idxL c l = -1 := fun e => by rw [h2, List.count_eq_zero] at e; exact e h
    rw [decide_eq_true h, decide_eq_false (by omega)]; rfl
  · have : idxL c l = -1 := by rw [h2, List.count_eq_zero]; exact h
    rw [decide_eq_false h, this]; rfl
def pPathedC : Ct := fun args h => match args with | [.i .u8 c] => some (.b (pathC c), h) | _ => none
theorem pPathed_ok : CtOk Tryz.prog G0 330 pPathedC := by
  refine ct_plain (n := 1) fol (sound_cons pIdx2_ok sound_nil) (by kernel_rfl) Tryz.func330 rfl fun args h v h' hc r xs H hr hx => ?_
  unfold pPathedC at hc; split at hc <;> (try split at hc) <;> cases hc
  rename_i c
  refine ⟨rfl, rfl, by simp [renV, bndV], ?_⟩
  have hn := idxL_neg c [63, 35, 59, 44]
  by_cases h1 : 33 ≤ c <;> by_cases h2 : c ≤ 126 <;> simp -implicitDefEqProofs [go_sem, Tryz.f330, h1, h2, pIdx2C, pathC, hn, -List.mem_cons]
def hexT : List Int := [48, 49, 50, 51, 52, 53, 54, 55, 56, 57, 65, 66, 67, 68, 69, 70]
theorem hexIdx {c : Int} (h : 0 ≤ c ∧ c < 256) : idxL (if 97 ≤ c ∧ c ≤ 102 then c - 32 else c) hexT = hexv c := by
  have key : ∀ n : Nat, n < 256 → idxL (if 97 ≤ (n : Int) ∧ (n : Int) ≤ 102 then (n : Int) - 32 else n) hexT = hexv n := by decide +kernel
  have := key c.toNat (by omega)
  rwa [Int.toNat_of_nonneg h.1] at this
theorem or16 {a b : Int} (ha : 0 ≤ a ∧ a ≤ 15) (hb : 0 ≤ b ∧ b ≤ 15) : Go.bits .or .i64 (16 * a) b = 16 * a + b := by
  have key : ∀ n : Nat, n < 16 → ∀ m : Nat, m < 16 → Go.bits .or .i64 (16 * (n : Int)) m = 16 * (n : Int) + m := by decide +kernel
  have := key a.toNat (by omega) b.toNat (by omega)
  rwa [Int.toNat_of_nonneg ha.1, Int.toNat_of_nonneg hb.1] at this
def pHexDC : Ct := fun args h => match args with | [.i .u8 c] => some (.i .i64 (hexv c), h) | _ => none
theorem pHexD_ok : CtOk Tryz.prog G0 276 pHexDC := by
  refine ct_plain (n := 1) fol (sound_cons pIdx2_ok sound_nil) (by kernel_rfl) Tryz.func276 rfl fun args h v h' hc r xs H hr hx => ?_
  unfold pHexDC at hc; split at hc <;> (try split at hc) <;> cases hc
  rename_i c
  have hb := byteOf hx
  refine ⟨rfl, rfl, by simp [renV, bndV], ?_⟩
  have hi := hexIdx hb
  unfold hexT at hi
  by_cases h1 : 97 ≤ c
  · by_cases h2 : c ≤ 102
    · have e1 : (c - 32) % 256 = c - 32 := by omega
      rw [if_pos ⟨h1, h2⟩] at hi
      simp -implicitDefEqProofs [go_sem, Tryz.f276, h1, h2, e1, pIdx2C, hi]
    · rw [if_neg fun e => h2 e.2] at hi
      simp -implicitDefEqProofs [go_sem, Tryz.f276, h1, h2, pIdx2C, hi]
  · rw [if_neg fun e => h1 e.1] at hi
    simp -implicitDefEqProofs [go_sem, Tryz.f276, h1, pIdx2C, hi]
def pDecodeC : Ct := fun args h => match args with | [.s l] => if l.length ≤ 1048576 then some (.s (decodeL l), h) else none | _ => none
theorem pDecode_ok : CtOk Tryz.prog G0 239 pDecodeC := by
  refine ct_plain (n := 1) fol (sound_cons pHexD_ok sound_nil) (by kernel_rfl) Tryz.func239 rfl fun args h v h' hc r xs H hr hx => ?_
  unfold pDecodeC at hc; split at hc <;> (try split at hc) <;> cases hc
  rename_i l hl
  obtain ⟨⟨hs, _⟩, _⟩ := str_of hx
  refine ⟨rfl, rfl, by simp [renV, bndV], ?_⟩
  simp -implicitDefEqProofs [go_sem, Tryz.f239]
  refine run_inv _ _ _ _ _ (fun (x : Nat × Nat × List Int) t h1 => x.1 ≤ l.length ∧ get t 0 = .s l ∧ get t 4 = .i .i64 x.1 ∧ get t 3 = .sl x.2.1 0 x.2.2.length 1 ∧ hget h1 x.2.1 = ⟨2, false, bts x.2.2⟩ ∧ h.length ≤ x.2.1 ∧ x.2.1 < h1.length ∧ Ext h h1 ∧ x.2.2.length ≤ x.1 ∧ x.2.2 ++ decodeL (l.drop x.1) = decodeL l) (fun x => l.length - x.1) _ (x := (0, h.length, [])) ⟨by simp, rfl, rfl, rfl, by simp -implicitDefEqProofs [go_sem, bts_nil], by simp, by simp, by simp -implicitDefEqProofs [go_sem], by simp, by simp⟩ ?_
  rintro ⟨i, m, acc⟩ t h1 ⟨hi, t0, t4, t3, hg, hm, hm', he, hal, ha⟩ ih
  simp only at hi t0 t4 t3 hg hm hm' hal ha
  have hmn : m ≠ h1.length := by omega
  have hi6 : i < 1152921504606846976 := by omega
  have e1 : (acc.length + 1) ≤ 1099511627776 := by omega
  by_cases hlt : i < l.length
  · obtain ⟨d, hc⟩ : ∃ d, l[i] = d := ⟨_, rfl⟩
    have hdr : l.drop i = d :: l.drop (i + 1) := by rw [List.drop_eq_getElem_cons hlt, hc]
    rw [hdr] at ha
    by_cases c1 : d = 37
    · by_cases c2 : i + 2 < l.length
      · obtain ⟨a, hca⟩ : ∃ a, l[i + 1] = a := ⟨_, rfl⟩
        obtain ⟨b, hcb⟩ : ∃ b, l[i + 2] = b := ⟨_, rfl⟩
        have hdr2 : l.drop (i + 1) = a :: b :: l.drop (i + 3) := by rw [List.drop_eq_getElem_cons (show i + 1 < l.length by omega), hca, List.drop_eq_getElem_cons c2, hcb]
        have c2' : i + 1 < l.length := by omega
        have x1 := hexv_le a
        have x2 := hexv_le b
        by_cases c3 : 0 ≤ hexv a
        · by_cases c4 : 0 ≤ hexv b
          · have m1 : (16 * hexv a + hexv b) % 256 = 16 * hexv a + hexv b := by omega
            have m2 : hexv a * 16 = 16 * hexv a := Int.mul_comm _ _
            have m3 := or16 ⟨c3, x1.2⟩ ⟨c4, x2.2⟩
            rw [c1, hdr2, decodeL_hex c3 c4] at ha
            simp -implicitDefEqProofs [go_sem, Tryz.f239, t0, t4, t3, hlt, hc, c1, c2, c2', c3, c4, pHexDC, hg, hm', ldN_b rfl, e1, hmn, i64_n hi6, i64_2 hi6, hca, hcb]
            refine ih (i + 3, h1.length + 1, acc ++ [16 * hexv a + hexv b]) _ _ (by simp; omega) ⟨by simp; omega, ?_⟩
            simp -implicitDefEqProofs [go_sem, t0, t3, t4, i64_3 hi6, he, hm, m1, m2, m3, w64 (x := 16 * hexv a) (by omega)]
            exact ⟨by omega, by omega, ha⟩
          · rw [decodeL_other fun a' b' r e _ _ h => by rw [hdr2] at e; simp at e; rw [← e.2.1] at h; exact c4 h] at ha
            simp -implicitDefEqProofs [go_sem, Tryz.f239, t0, t4, t3, hlt, hc, c1, c2, c2', c3, c4, hca, hcb, pHexDC, hg, hm', ldN_b rfl, e1, hmn, i64_n hi6, i64_2 hi6]
            refine ih (i + 1, h1.length + 1, acc ++ [d]) _ _ (by simp; omega) ⟨hlt, ?_⟩
            simp -implicitDefEqProofs [go_sem, t0, t3, t4, i64_n hi6, he, hm, c1]
            rw [c1] at ha
            exact ⟨by omega, hal, ha⟩
        · rw [decodeL_other fun a' b' r e _ h _ => by rw [hdr2] at e; simp at e; rw [← e.1] at h; exact c3 h] at ha
          simp -implicitDefEqProofs [go_sem, Tryz.f239, t0, t4, t3, hlt, hc, c1, c2, c2', c3, hca, hcb, pHexDC, hg, hm', ldN_b rfl, e1, hmn, i64_n hi6, i64_2 hi6]
          refine ih (i + 1, h1.length + 1, acc ++ [d]) _ _ (by simp; omega) ⟨hlt, ?_⟩
          simp -implicitDefEqProofs [go_sem, t0, t3, t4, i64_n hi6, he, hm, c1]
          rw [c1] at ha
          exact ⟨by omega, hal, ha⟩
      · rw [decodeL_other fun a' b' r e _ _ _ => by have := congrArg List.length e; simp at this; omega] at ha
        simp -implicitDefEqProofs [go_sem, Tryz.f239, t0, t4, t3, hlt, hc, c1, c2, pHexDC, hg, hm', ldN_b rfl, e1, hmn, i64_n hi6, i64_2 hi6]
        refine ih (i + 1, h1.length + 1, acc ++ [d]) _ _ (by simp; omega) ⟨hlt, ?_⟩
        simp -implicitDefEqProofs [go_sem, t0, t3, t4, i64_n hi6, he, hm, c1]
        rw [c1] at ha
        exact ⟨by omega, hal, ha⟩
    · rw [decodeL_other fun _ _ _ _ e => absurd e c1] at ha
      simp -implicitDefEqProofs [go_sem, Tryz.f239, t0, t4, t3, hlt, hc, c1, hg, hm', ldN_b rfl, e1, hmn]
      refine ih (i + 1, h1.length + 1, acc ++ [d]) _ _ (by simp; omega) ⟨hlt, ?_⟩
      simp -implicitDefEqProofs [go_sem, t0, t3, t4, i64_n hi6, he, hm]
      exact ⟨by omega, hal, ha⟩
  · have e : i = l.length := by omega
    rw [e, List.drop_length, show decodeL [] = [] from rfl, List.append_nil] at ha
    simp -implicitDefEqProofs [go_sem, Tryz.f239, t0, t3, t4, hlt, hg, hm', ldN_b rfl, e, he]
    exact ha
def pPctSameC : Ct := fun args h => match args with | [.s l, .s m] => if l.length ≤ 1048576 ∧ m.length ≤ 1048576 then some (.b (decide (decodeL l = decodeL m)), h) else none | _ => none
theorem pPctSame_ok : CtOk Tryz.prog G0 323 pPctSameC := by
  refine ct_plain (n := 2) fol (sound_cons pDecode_ok sound_nil) (by kernel_rfl) Tryz.func323 rfl fun args h v h' hc r xs H hr hx => ?_
  unfold pPctSameC at hc; split at hc <;> (try split at hc) <;> cases hc
  rename_i l m hl
  refine ⟨rfl, rfl, by simp [renV, bndV], ?_⟩
  simp -implicitDefEqProofs [go_sem, Tryz.f323, pDecodeC, hl.1, hl.2]
def headB (l m : List Int) : Bool := decide (m.length ≤ l.length) && decide (l.take m.length = m)
def pHasPre1C : Ct := fun args h => match args with | [.s l, .s m] => some (.b (headB l m), h) | _ => none
theorem pHasPre1_ok : CtOk Tryz.prog G0 114 pHasPre1C := by
  refine ct_plain (n := 2) fol sound_nil (by kernel_rfl) Tryz.func114 rfl fun args h v h' hc r xs H hr hx => ?_
  unfold pHasPre1C at hc; split at hc <;> (try split at hc) <;> cases hc
  rename_i l m
  refine ⟨rfl, rfl, by simp [renV, bndV], ?_⟩
  by_cases h1 : m.length ≤ l.length
  · have h2 : (m.length : Int) ≤ l.length := by omega
    simp -implicitDefEqProofs [go_sem, Tryz.f114, h1, h2, headB]
  · have h2 : ¬ (m.length : Int) ≤ l.length := by omega
    simp -implicitDefEqProofs [go_sem, Tryz.f114, h1, h2, headB]
def pHasPreC : Ct := fun args h => match args with | [.s l, .s m] => some (.b (headB l m), h) | _ => none
theorem pHasPre_ok : CtOk Tryz.prog G0 49 pHasPreC := by
  refine ct_plain (n := 2) fol (sound_cons pHasPre1_ok sound_nil) (by kernel_rfl) Tryz.func49 rfl fun args h v h' hc r xs H hr hx => ?_
  unfold pHasPreC at hc; split at hc <;> (try split at hc) <;> cases hc
  rename_i l m
  refine ⟨rfl, rfl, by simp [renV, bndV], ?_⟩
  simp -implicitDefEqProofs [go_sem, Tryz.f49, pHasPre1C]
def pHasSuf1C : Ct := fun args h => match args with | [.s l, .s m] => some (.b (endsL l m), h) | _ => none
theorem pHasSuf1_ok : CtOk Tryz.prog G0 185 pHasSuf1C := by
  refine ct_plain (n := 2) fol sound_nil (by kernel_rfl) Tryz.func185 rfl fun args h v h' hc r xs H hr hx => ?_
  unfold pHasSuf1C at hc; split at hc <;> (try split at hc) <;> cases hc
  rename_i l m
  obtain ⟨⟨hs, hl⟩, _, hx2⟩ := str_of hx
  obtain ⟨⟨_, hm⟩, _⟩ := str_of hx2
  refine ⟨rfl, rfl, by simp [renV, bndV], ?_⟩
  by_cases h1 : m.length ≤ l.length
  · have h2 : (m.length : Int) ≤ l.length := by omega
    have h3 : ((l.length : Int) - m.length).toNat = l.length - m.length := by omega
    have h4 : (0 : Int) ≤ (l.length : Int) - m.length := by omega
    have h5 : (l.length : Int) - m.length ≤ l.length := by omega
    simp -implicitDefEqProofs [go_sem, Tryz.f185, h1, h2, h3, h4, h5, endsL, w64 (x := (l.length : Int) - m.length) (by omega)]
  · simp -implicitDefEqProofs [go_sem, Tryz.f185, h1, endsL]
def pHasSufC : Ct := fun args h => match args with | [.s l, .s m] => some (.b (endsL l m), h) | _ => none
theorem pHasSuf_ok : CtOk Tryz.prog G0 113 pHasSufC := by
  refine ct_plain (n := 2) fol (sound_cons pHasSuf1_ok sound_nil) (by kernel_rfl) Tryz.func113 rfl fun args h v h' hc r xs H hr hx => ?_
  unfold pHasSufC at hc; split at hc <;> (try split at hc) <;> cases hc
  rename_i l m
  refine ⟨rfl, rfl, by simp [renV, bndV], ?_⟩
  simp -implicitDefEqProofs [go_sem, Tryz.f113, pHasSuf1C]
def cutP (l m : List Int) : V := if headB l m = true then .tup [.s (l.drop m.length), .b true] else .tup [.s l, .b false]
theorem cutP_flat (l m : List Int) (k : Nat) : renV id (cutP l m) = cutP l m ∧ bndV k (cutP l m) := by unfold cutP; split <;> simp [renV, bndV, renL, bndL]
theorem headB_le {l m : List Int} (h : headB l m = true) : m.length ≤ l.length := by
  unfold headB at h
  by_cases h1 : m.length ≤ l.length
  · exact h1
  · rw [decide_eq_false h1] at h; cases h
def pCutPre1C : Ct := fun args h => match args with | [.s l, .s m] => some (cutP l m, h) | _ => none
theorem pCutPre1_ok : CtOk Tryz.prog G0 373 pCutPre1C := by
  refine ct_plain (n := 2) fol (sound_cons pHasPre1_ok sound_nil) (by kernel_rfl) Tryz.func373 rfl fun args h v h' hc r xs H hr hx => ?_
  unfold pCutPre1C at hc; split at hc <;> (try split at hc) <;> cases hc
  rename_i l m
  refine ⟨rfl, rfl, cutP_flat _ _ _, ?_⟩
  cases h1 : headB l m with
  | true =>
    have h2 : (m.length : Int) ≤ l.length := by have := headB_le h1; omega
    have h3 := headB_le h1
    simp -implicitDefEqProofs [go_sem, Tryz.f373, pHasPre1C, h1, h2, h3, cutP]
  | false => simp -implicitDefEqProofs [go_sem, Tryz.f373, pHasPre1C, h1, cutP]
def pCutPreC : Ct := fun args h => match args with | [.s l, .s m] => some (cutP l m, h) | _ => none
theorem pCutPre_ok : CtOk Tryz.prog G0 358 pCutPreC := by
  refine ct_plain (n := 2) fol (sound_cons pCutPre1_ok sound_nil) (by kernel_rfl) Tryz.func358 rfl fun args h v h' hc r xs H hr hx => ?_
  unfold pCutPreC at hc; split at hc <;> (try split at hc) <;> cases hc
  rename_i l m
  refine ⟨rfl, rfl, cutP_flat _ _ _, ?_⟩
  cases h1 : headB l m with
  | true => simp -implicitDefEqProofs [go_sem, Tryz.f358, pCutPre1C, h1, cutP]
  | false => simp -implicitDefEqProofs [go_sem, Tryz.f358, pCutPre1C, h1, cutP]
end GoD

/-! Addresses as the program answers them. -/
namespace GoD
open Go Go.Proofs
set_option linter.unusedVariables false
set_option linter.unusedSimpArgs false
set_option maxHeartbeats 4000000
set_option maxRecDepth 100000
def pValueC : Ct := fun args h => match args with | [.i .u8 c] => some (.i .i64 (hexv c), h) | _ => none
theorem pValue_ok : CtOk Tryz.prog G0 316 pValueC := by
  refine ct_plain (n := 1) fol sound_nil (by kernel_rfl) Tryz.func316 rfl fun args h v h' hc r xs H hr hx => ?_
  unfold pValueC at hc; split at hc <;> (try split at hc) <;> cases hc
  rename_i c
  have hb := byteOf hx
  refine ⟨rfl, rfl, by simp [renV, bndV], ?_⟩
  unfold hexv
  by_cases h1 : 48 ≤ c <;> by_cases h2 : c ≤ 57 <;> by_cases h3 : 97 ≤ c <;> by_cases h4 : c ≤ 102 <;> by_cases h5 : 65 ≤ c <;> by_cases h6 : c ≤ 70 <;> (try omega) <;>
  (simp -implicitDefEqProofs [go_sem, Tryz.f316, h1, h2, h3, h4, h5, h6, V.i.injEq]; try (simp (disch := omega) only [w64]; try omega))
def pHDigitsC : Ct := fun args h => match args with | [.s l, .i .i64 b] => some (.b (digitsB b l), h) | _ => none
theorem pHDigits_ok : CtOk Tryz.prog G0 278 pHDigitsC := by
  refine ct_plain (n := 2) fol (sound_cons pValue_ok sound_nil) (by kernel_rfl) Tryz.func278 rfl fun args h v h' hc r xs H hr hx => ?_
  unfold pHDigitsC at hc; split at hc <;> (try split at hc) <;> cases hc
  rename_i l b
  obtain ⟨⟨hs, hl⟩, _⟩ := str_of hx
  refine ⟨rfl, rfl, by simp [renV, bndV], ?_⟩
  simp -implicitDefEqProofs [go_sem, Tryz.f278]
  refine run_inv _ _ _ _ _ (fun (i : Nat) t h1 => i ≤ l.length ∧ get t 0 = .s l ∧ get t 1 = .i .i64 b ∧ get t 8 = .i .i64 l.length ∧ get t 9 = .i .i64 i ∧ digitsB b (l.drop i) = digitsB b l ∧ Ext h h1) (fun i => l.length - i) _ (x := 0) ⟨by simp, rfl, rfl, rfl, rfl, rfl, Ext.refl h⟩ ?_
  rintro i t h1 ⟨hi, t0, t1, t8, t9, hd, he⟩ ih
  by_cases hlt : i < l.length
  · obtain ⟨d, hc⟩ : ∃ d, l[i] = d := ⟨_, rfl⟩
    rw [List.drop_eq_getElem_cons hlt, hc, digitsB_cons] at hd
    by_cases c1 : hexv d < 0
    · rw [decide_eq_false (by omega), Bool.false_and] at hd
      simp -implicitDefEqProofs [go_sem, Tryz.f278, t0, t1, t8, t9, hlt, hc, c1, pValueC, ← hd, he]
    · by_cases c2 : b ≤ hexv d
      · rw [decide_eq_false (by omega), Bool.false_and] at hd
        simp -implicitDefEqProofs [go_sem, Tryz.f278, t0, t1, t8, t9, hlt, hc, c1, c2, pValueC, ← hd, he]
      · rw [decide_eq_true (by omega), Bool.true_and] at hd
        simp -implicitDefEqProofs [go_sem, Tryz.f278, t0, t1, t8, t9, hlt, hc, c1, c2, pValueC]
        refine ih (i + 1) _ _ (by omega) ⟨by omega, ?_⟩
        simp -implicitDefEqProofs [go_sem, t0, t1, t8, t9, i64_1 hl hlt, he, hd]
  · have e0 : l.drop i = [] := List.drop_eq_nil_of_le (by omega)
    rw [e0, show digitsB b [] = true from rfl] at hd
    simp -implicitDefEqProofs [go_sem, Tryz.f278, t0, t1, t8, t9, hlt, ← hd, he]
def hexAns (l : List Int) : V := if hexP l = true then .tup [.s (l.drop 2), .b true] else .tup [.s [], .b false]
def pHexC : Ct := fun args h => match args with | [.s l] => some (hexAns l, h) | _ => none
theorem pHex_ok : CtOk Tryz.prog G0 277 pHexC := by
  refine ct_plain (n := 1) fol sound_nil (by kernel_rfl) Tryz.func277 rfl fun args h v h' hc r xs H hr hx => ?_
  unfold pHexC at hc; split at hc <;> (try split at hc) <;> cases hc
  rename_i l
  refine ⟨rfl, rfl, by unfold hexAns; split <;> simp [renV, bndV, renL, bndL], ?_⟩
  match l with
  | [] => simp -implicitDefEqProofs [go_sem, Tryz.f277, hexAns, hexP]
  | [a] => simp -implicitDefEqProofs [go_sem, Tryz.f277, hexAns, hexP]
  | a :: b :: r =>
    have k1 : (1 : Int) < (r.length : Int) + 1 + 1 := by omega
    have k2 : (0 : Int) < (r.length : Int) + 1 + 1 := by omega
    have k3 : (2 : Int) ≤ (r.length : Int) + 1 + 1 := by omega
    by_cases c1 : a = 48
    · by_cases c2 : b = 120
      · simp -implicitDefEqProofs [go_sem, Tryz.f277, hexAns, hexP, k1, k2, k3, eq_true c1, eq_true c2]
      · by_cases c3 : b = 88
        · simp -implicitDefEqProofs [go_sem, Tryz.f277, hexAns, hexP, k1, k2, k3, eq_true c1, c2, eq_true c3]
        · simp -implicitDefEqProofs [go_sem, Tryz.f277, hexAns, hexP, k1, k2, k3, eq_true c1, c2, c3]
    · simp -implicitDefEqProofs [go_sem, Tryz.f277, hexAns, hexP, k1, k2, k3, c1]
noncomputable def hpart1 : Code := loop1 Tryz.f282
theorem hpart_loop {P : Ex → Tm → Heap → Prop} {k : List Todo} {b : Int} {rest : List Int} {h : Heap} (hb : 8 ≤ b ∧ b ≤ 16) (hl : rest.length ≤ 1048576) (hd : ∀ c ∈ rest, 0 ≤ hexv c ∧ hexv c < b)
    (hx : ∀ t n, accV b 0 rest = some n → get t 2 = .i .i64 n → RunX (ctx Tryz.prog G0 [(277, pHexC), (278, pHDigitsC), (316, pValueC)]) P k (.e 0) t h)
    (hr : ∀ t, accV b 0 rest = none → get t 2 = .i .i64 0 → get t 3 = .b false → RunX (ctx Tryz.prog G0 [(277, pHexC), (278, pHDigitsC), (316, pValueC)]) P k .r t h)
    {t : Tm} (t4 : get t 4 = .i .i64 b) (t5 : get t 5 = .s rest) (t2 : get t 2 = .i .i64 0) (t36 : get t 36 = .i .i64 rest.length) (t37 : get t 37 = .i .i64 0) : Run (ctx Tryz.prog G0 [(277, pHexC), (278, pHDigitsC), (316, pValueC)]) P (.again hpart1 :: k) t h := by
  refine run_inv _ _ _ _ _ (fun (x : Nat × Int) t h1 => x.1 ≤ rest.length ∧ get t 4 = .i .i64 b ∧ get t 5 = .s rest ∧ get t 2 = .i .i64 x.2 ∧ get t 36 = .i .i64 rest.length ∧ get t 37 = .i .i64 x.1 ∧ 0 ≤ x.2 ∧ x.2 < 4294967296 ∧ accV b x.2 (rest.drop x.1) = accV b 0 rest ∧ h1 = h) (fun x => rest.length - x.1) _ (x := (0, 0)) ⟨by simp, t4, t5, t2, t36, t37, by simp, by simp, rfl, rfl⟩ ?_
  clear t4 t5 t2 t36 t37
  rintro ⟨i, n⟩ t h1 ⟨hi, t4, t5, t2, t36, t37, hn0, hn1, ha, rfl⟩ ih
  simp only at hi t2 t37 hn0 hn1 ha
  by_cases hlt : i < rest.length
  · obtain ⟨d, hc⟩ : ∃ d, rest[i] = d := ⟨_, rfl⟩
    have hdd := hd d (hc ▸ List.getElem_mem hlt)
    rw [List.drop_eq_getElem_cons hlt, hc, accV] at ha
    have hm0 := Int.mul_nonneg (show 0 ≤ b by omega) hn0
    have hm1 : b * n ≤ 16 * n := Int.mul_le_mul_of_nonneg_right hb.2 hn0
    have hi6 : i < 1152921504606846976 := by omega
    by_cases c1 : 4294967296 ≤ b * n + hexv d
    · rw [if_pos c1] at ha
      simp -implicitDefEqProofs [go_sem, hpart1, loop1, loopC, Tryz.f282, t4, t5, t2, t36, t37, hlt, hc, pValueC, c1, w64 (x := b * n) (by omega), w64 (x := b * n + hexv d) (by omega)]
      exact hr _ ha.symm (by simp -implicitDefEqProofs [go_sem]) (by simp -implicitDefEqProofs [go_sem])
    · rw [if_neg c1] at ha
      simp -implicitDefEqProofs [go_sem, hpart1, loop1, loopC, Tryz.f282, t4, t5, t2, t36, t37, hlt, hc, pValueC, c1, w64 (x := b * n) (by omega), w64 (x := b * n + hexv d) (by omega)]
      refine ih (i + 1, b * n + hexv d) _ _ (by simp; omega) ⟨hlt, ?_⟩
      simp -implicitDefEqProofs [go_sem, t4, t5, t2, t36, t37, i64_n hi6]
      exact ⟨by omega, by omega, ha⟩
  · have e0 : rest.drop i = [] := List.drop_eq_nil_of_le (by omega)
    rw [e0, accV] at ha
    simp -implicitDefEqProofs [go_sem, hpart1, loop1, loopC, Tryz.f282, t4, t5, t2, t36, t37, hlt]
    exact hx _ n ha.symm (by simp -implicitDefEqProofs [go_sem, t2])
def pPartC : Ct := fun args h => match args with | [.s l] => if l.length ≤ 1048576 then some (.tup [.i .i64 (okV (pieceV l)).1, .b (okV (pieceV l)).2], h) else none | _ => none
theorem digitsB_all {b : Int} {l : List Int} (h : digitsB b l = true) : ∀ c ∈ l, 0 ≤ hexv c ∧ hexv c < b := fun c hc => of_decide_eq_true (List.all_eq_true.1 h c hc)
theorem pPart_ok : CtOk Tryz.prog G0 282 pPartC := by
  refine ct_plain (n := 1) fol (sound_cons pHex_ok (sound_cons pHDigits_ok (sound_cons pValue_ok sound_nil))) (by kernel_rfl) Tryz.func282 rfl fun args h v h' hc r xs H hr hx => ?_
  unfold pPartC at hc; split at hc <;> (try split at hc) <;> cases hc
  rename_i l hl
  obtain ⟨⟨hs, _⟩, _⟩ := str_of hx
  refine ⟨rfl, rfl, by simp [renV, bndV, renL, bndL], ?_⟩
  obtain ⟨v, hv⟩ : ∃ v, pieceV l = v := ⟨_, rfl⟩
  rw [hv]
  by_cases h0 : l = []
  · subst h0
    have : v = none := by rw [← hv]; rfl
    subst this
    simp -implicitDefEqProofs [go_sem, Tryz.f282, pHexC, hexAns, pHDigitsC, hexP, okV, digitsB]
  have h0' : l.isEmpty = false := by cases l with | nil => exact absurd rfl h0 | cons _ _ => rfl
  have hpv : v = if digitsB (baseV l) (restV l) = false then none else accV (baseV l) 0 (restV l) := by
    rw [← hv]; unfold pieceV
    by_cases hd : digitsB (baseV l) (restV l) = false
    · rw [if_pos (.inr hd), if_pos hd]
    · rw [if_neg (by simp only [not_or]; exact ⟨h0, hd⟩), if_neg hd]
  have main : ∀ (b : Int) (rest : List Int) (hb : 8 ≤ b ∧ b ≤ 16) (hr : rest.length ≤ 1048576) (hbb : baseV l = b) (hrr : restV l = rest) (hd : digitsB b rest = true) (k : List Todo) (P : Ex → Tm → Heap → Prop), (∀ t n, v = some n → get t 2 = .i .i64 n → RunX (ctx Tryz.prog G0 [(277, pHexC), (278, pHDigitsC), (316, pValueC)]) P k (.e 0) t h) → (∀ t, v = none → get t 2 = .i .i64 0 → get t 3 = .b false → RunX (ctx Tryz.prog G0 [(277, pHexC), (278, pHDigitsC), (316, pValueC)]) P k .r t h) → ∀ {t : Tm}, get t 4 = .i .i64 b → get t 5 = .s rest → get t 2 = .i .i64 0 → get t 36 = .i .i64 rest.length → get t 37 = .i .i64 0 → Run (ctx Tryz.prog G0 [(277, pHexC), (278, pHDigitsC), (316, pValueC)]) P (.again hpart1 :: k) t h := by
    intro b rest hb hr hbb hrr hd k P hx hr2 t t4 t5 t2 t36 t37
    rw [hbb, hrr, hd, if_neg (by simp)] at hpv
    exact hpart_loop hb hr (digitsB_all hd) (fun t n e => hx t n (hpv.trans e)) (fun t e => hr2 t (hpv.trans e)) t4 t5 t2 t36 t37
  have bad : ∀ (b : Int) (rest : List Int), baseV l = b → restV l = rest → digitsB b rest = false → v = none := by
    intro b rest e1 e2 e3
    rw [e1, e2, e3, if_pos rfl] at hpv
    exact hpv
  cases c1 : hexP l with
  | true =>
    have eb : baseV l = 16 := by unfold baseV; rw [if_pos c1]
    have er : restV l = l.drop 2 := by unfold restV; rw [if_pos c1]
    cases hd : digitsB 16 (l.drop 2) with
    | false =>
      have := bad _ _ eb er hd
      subst this
      simp -implicitDefEqProofs [go_sem, Tryz.f282, pHexC, hexAns, pHDigitsC, c1, h0, h0', hd, okV]
    | true =>
      simp -implicitDefEqProofs [go_sem, Tryz.f282, pHexC, hexAns, pHDigitsC, c1, h0, h0', hd]
      refine main 16 (l.drop 2) (by omega) (by simp; omega) eb er hd _ _ ?_ ?_ ?_ ?_ ?_ ?_ ?_
      · intro t n e t2
        simp -implicitDefEqProofs [go_sem, t2, e, okV]
      · intro t e t2 t3
        simp -implicitDefEqProofs [go_sem, t2, t3, e, okV]
      all_goals simp -implicitDefEqProofs [go_sem]
  | false =>
    by_cases c2 : 1 < l.length ∧ l.head? = some 48
    · have eb : baseV l = 8 := by unfold baseV; rw [c1, if_neg (by simp), if_pos c2]
      have er : restV l = l.drop 1 := by unfold restV; rw [c1, if_neg (by simp), if_pos c2]
      obtain ⟨c2, c3⟩ := c2
      have c4 : 0 < l.length := by omega
      have c2' : (1 : Int) < l.length := by omega
      have c4' : (0 : Int) < l.length := by omega
      have c5' : (1 : Int) ≤ l.length := by omega
      have c3' : l[0] = 48 := by rw [List.head?_eq_getElem?, List.getElem?_eq_getElem c4] at c3; exact Option.some.inj c3
      cases hd : digitsB 8 (l.drop 1) with
      | false =>
        have := bad _ _ eb er hd
        subst this
        rw [List.drop_one] at hd
        simp -implicitDefEqProofs [go_sem, Tryz.f282, pHexC, hexAns, pHDigitsC, c1, h0, h0', c2, c2', c3', c4, c4', c5', hd, okV]
      | true =>
        rw [List.drop_one] at hd er
        simp -implicitDefEqProofs [go_sem, Tryz.f282, pHexC, hexAns, pHDigitsC, c1, h0, h0', c2, c2', c3', c4, c4', c5', hd]
        refine main 8 l.tail (by omega) (by simp; omega) eb er hd _ _ ?_ ?_ ?_ ?_ ?_ ?_ ?_
        · intro t n e t2
          simp -implicitDefEqProofs [go_sem, t2, e, okV]
        · intro t e t2 t3
          simp -implicitDefEqProofs [go_sem, t2, t3, e, okV]
        all_goals simp -implicitDefEqProofs [go_sem]
    · have eb : baseV l = 10 := by unfold baseV; rw [c1, if_neg (by simp), if_neg c2]
      have er : restV l = l := by unfold restV; rw [c1, if_neg (by simp), if_neg c2]
      have cond : ∀ (t : Tm) (P : Ex → Tm → Heap → Prop), True := fun _ _ => trivial
      by_cases c3 : 1 < l.length
      · have c4 : 0 < l.length := by omega
        have c2' : (1 : Int) < l.length := by omega
        have c4' : (0 : Int) < l.length := by omega
        have c3' : ¬ l[0] = 48 := fun e => c2 ⟨c3, by rw [List.head?_eq_getElem?, List.getElem?_eq_getElem c4, e]⟩
        cases hd : digitsB 10 l with
        | false =>
          have := bad _ _ eb er hd
          subst this
          simp -implicitDefEqProofs [go_sem, Tryz.f282, pHexC, hexAns, pHDigitsC, c1, h0, h0', c2', c3, c3', c4, c4', hd, okV]
        | true =>
          simp -implicitDefEqProofs [go_sem, Tryz.f282, pHexC, hexAns, pHDigitsC, c1, h0, h0', c2', c3, c3', c4, c4', hd]
          refine main 10 l (by omega) hl eb er hd _ _ ?_ ?_ ?_ ?_ ?_ ?_ ?_
          · intro t n e t2
            simp -implicitDefEqProofs [go_sem, t2, e, okV]
          · intro t e t2 t3
            simp -implicitDefEqProofs [go_sem, t2, t3, e, okV]
          all_goals simp -implicitDefEqProofs [go_sem]
      · have c2' : ¬ (1 : Int) < l.length := by omega
        cases hd : digitsB 10 l with
        | false =>
          have := bad _ _ eb er hd
          subst this
          simp -implicitDefEqProofs [go_sem, Tryz.f282, pHexC, hexAns, pHDigitsC, c1, h0, h0', c2', c3, hd, okV]
        | true =>
          simp -implicitDefEqProofs [go_sem, Tryz.f282, pHexC, hexAns, pHDigitsC, c1, h0, h0', c2', c3, hd]
          refine main 10 l (by omega) hl eb er hd _ _ ?_ ?_ ?_ ?_ ?_ ?_ ?_
          · intro t n e t2
            simp -implicitDefEqProofs [go_sem, t2, e, okV]
          · intro t e t2 t3
            simp -implicitDefEqProofs [go_sem, t2, t3, e, okV]
          all_goals simp -implicitDefEqProofs [go_sem]
end GoD
