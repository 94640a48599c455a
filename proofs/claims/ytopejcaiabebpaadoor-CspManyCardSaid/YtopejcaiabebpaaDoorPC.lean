import Derived.Test.YtopejcaiabebpaaDoorEX
/-! What the runtime's own rows of bytes answer. -/
namespace GoD
open Go Go.Proofs
set_option linter.unusedVariables false
set_option linter.unusedSimpArgs false
set_option maxHeartbeats 4000000
set_option maxRecDepth 100000
def idxL (c : Int) : List Int → Int
  | [] => -1
  | b :: l => if b = c then 0 else if idxL c l = -1 then -1 else idxL c l + 1
theorem idxL_ge (c : Int) : ∀ l : List Int, -1 ≤ idxL c l ∧ idxL c l < l.length
  | [] => by simp [idxL]
  | b :: l => by
    have := idxL_ge c l
    rw [idxL]
    split
    · simp <;> omega
    · split <;> simp <;> omega
theorem byte_inj {a b : Int} (ha : 0 ≤ a ∧ a < 256) (hb : 0 ≤ b ∧ b < 256) : (a.toNat.toUInt8 == b.toNat.toUInt8) = decide (a = b) := by
  by_cases h : a = b
  · simp [h]
  · have : a.toNat.toUInt8 ≠ b.toNat.toUInt8 := by
      intro e
      have e := congrArg UInt8.toNat e
      simp only [UInt8.toNat_ofNat'] at e
      omega
    simp [h, this]
theorem toBA_list (l : List Int) : (toBA l).data.toList = l.map fun c => c.toNat.toUInt8 := by simp [toBA]
theorem indexByte_eq {c : Int} (hc : 0 ≤ c ∧ c < 256) : ∀ {l : List Int}, (∀ x ∈ l, 0 ≤ x ∧ x < 256) → Lib.indexByte (l.map fun c => c.toNat.toUInt8) c.toNat.toUInt8 = idxL c l
  | [], _ => rfl
  | b :: l, h => by
    have ih := indexByte_eq hc fun x hx => h x (List.mem_cons_of_mem _ hx)
    rw [List.map_cons, Lib.indexByte, ih, idxL, byte_inj (h b List.mem_cons_self) hc]
    by_cases e : b = c
    · simp [e]
    · by_cases f : idxL c l = -1 <;> simp [e, f]
theorem countByte_eq {c : Int} (hc : 0 ≤ c ∧ c < 256) {l : List Int} (h : ∀ x ∈ l, 0 ≤ x ∧ x < 256) : Lib.countByte (l.map fun c => c.toNat.toUInt8) c.toNat.toUInt8 = l.count c := by
  unfold Lib.countByte
  induction l with
  | nil => rfl
  | cons b l ih =>
    rw [List.map_cons, List.count_cons, List.count_cons, ih fun x hx => h x (List.mem_cons_of_mem _ hx), byte_inj (h b List.mem_cons_self) hc]
    by_cases e : b = c <;> simp [e]
theorem byteOf {r : List (Option Loc)} {n : Int} {a : List V} {xs : List Value} (h : RL r (.i .u8 n :: a) xs) : 0 ≤ n ∧ n < 256 := by
  have := (int_of h).1
  simpa [lo, hi, IntKind.signed, IntKind.bits] using this
def pIdxC : Ct := fun args h => match args with | [.s l, .i .u8 c] => some (.i .i64 (idxL c l), h) | _ => none
theorem pIdx_ok : CtOk Tryd.prog G0 44 pIdxC := by
  intro args h v h' hc
  unfold pIdxC at hc
  split at hc
  · rename_i l c
    cases hc
    refine .inr ⟨rfl, fun r xs w hx => ?_⟩
    obtain ⟨⟨hs, hl⟩, _, hx2⟩ := str_of hx
    have hb := byteOf hx2
    have hge := idxL_ge c l
    cases hx with | cons h1 h2 =>
    cases h1
    cases h2 with | cons h3 h4 =>
    cases h3
    cases h4
    refine ⟨.int .i64 (idxL c l), ?_, .i _ _ (w64 (by omega))⟩
    rw [run_callFunc_extern Tryd.func44 (by kernel_rfl) (by kernel_rfl) (by kernel_rfl) (e := Extern.BytealgIndexByte.indexByte) (by kernel_rfl), Lib.run_indexByteString]
    rw [toBA_list, indexByte_eq hb hs]
    rfl
  · cases hc
def pCntC : Ct := fun args h => match args with | [.s l, .i .u8 c] => some (.i .i64 (l.count c), h) | _ => none
theorem pCnt_ok : CtOk Tryd.prog G0 49 pCntC := by
  intro args h v h' hc
  unfold pCntC at hc
  split at hc
  · rename_i l c
    cases hc
    refine .inr ⟨rfl, fun r xs w hx => ?_⟩
    obtain ⟨⟨hs, hl⟩, _, hx2⟩ := str_of hx
    have hb := byteOf hx2
    have hge : l.count c ≤ l.length := List.count_le_length
    cases hx with | cons h1 h2 =>
    cases h1
    cases h2 with | cons h3 h4 =>
    cases h3
    cases h4
    refine ⟨.int .i64 (l.count c), ?_, .i _ _ (w64 (by omega))⟩
    rw [run_callFunc_extern Tryd.func49 (by kernel_rfl) (by kernel_rfl) (by kernel_rfl) (e := Extern.BytealgCount.count) (by kernel_rfl), Lib.run_countString]
    rw [toBA_list, countByte_eq hb hs]
    rfl
  · cases hc
theorem idxL_count (c : Int) : ∀ l : List Int, idxL c l = -1 ↔ l.count c = 0
  | [] => by simp [idxL]
  | b :: l => by
    have ih := idxL_count c l
    have hg := idxL_ge c l
    rw [idxL]
    by_cases h : b = c
    · subst h; simp
    · rw [if_neg h, List.count_cons_of_ne h]
      by_cases h2 : idxL c l = -1
      · simp [h2, ih.1 h2]
      · rw [if_neg h2]
        constructor
        · intro h3; omega
        · intro h3; exact absurd (ih.2 h3) h2
theorem splitL_idx {c : Int} : ∀ {l : List Int} {m : Nat}, idxL c l = m → splitL c l = l.take m :: splitL c (l.drop (m + 1)) ∧ l.count c = (l.drop (m + 1)).count c + 1 ∧ m < l.length
  | [], m, h => by simp [idxL] at h <;> omega
  | b :: l, m, h => by
    rw [idxL] at h
    by_cases e : b = c
    · subst e
      rw [if_pos rfl] at h
      have : m = 0 := by omega
      subst this
      refine ⟨?_, ?_, by simp⟩
      · rw [splitL, if_pos rfl]; rfl
      · simp
    · rw [if_neg e] at h
      by_cases h2 : idxL c l = -1
      · rw [if_pos h2] at h; omega
      · rw [if_neg h2] at h
        have hg := idxL_ge c l
        obtain ⟨k, rfl⟩ : ∃ k, m = k + 1 := ⟨m - 1, by omega⟩
        obtain ⟨h3, h4, h5⟩ := splitL_idx (c := c) (l := l) (m := k) (by omega)
        refine ⟨?_, ?_, by simp; omega⟩
        · rw [splitL, if_neg e, h3]; rfl
        · rw [List.count_cons_of_ne e, h4]; rfl
theorem splitL_zero {c : Int} {l : List Int} (h : l.count c = 0) : splitL c l = [l] := splitL_none (List.count_eq_zero.1 h)
theorem splitL_count (c : Int) : ∀ l : List Int, (splitL c l).length = l.count c + 1
  | [] => by simp [splitL]
  | b :: l => by
    have ih := splitL_count c l
    rw [splitL]
    by_cases e : b = c
    · subst e; simp [ih]
    · rw [if_neg e, List.count_cons_of_ne e]
      split
      · rename_i h; rw [h] at ih; simp at ih
      · rename_i h; rw [h] at ih; simpa using ih
def pIdx1C : Ct := fun args h => match args with | [.s l, .i .u8 c] => some (.i .i64 (idxL c l), h) | _ => none
theorem pIdx1_ok : CtOk Tryd.prog G0 38 pIdx1C := by
  refine ct_plain (n := 2) fol (sound_cons pIdx_ok sound_nil) (by kernel_rfl) Tryd.func38 rfl fun args h v h' hc r xs H hr hx => ?_
  unfold pIdx1C at hc; split at hc <;> (try split at hc) <;> cases hc
  rename_i l c
  refine ⟨rfl, rfl, by simp [renV, bndV], ?_⟩
  simp -implicitDefEqProofs [go_sem, Tryd.f38, pIdxC]
def pIdx2C : Ct := fun args h => match args with | [.s l, .i .u8 c] => some (.i .i64 (idxL c l), h) | _ => none
theorem pIdx2_ok : CtOk Tryd.prog G0 33 pIdx2C := by
  refine ct_plain (n := 2) fol (sound_cons pIdx1_ok sound_nil) (by kernel_rfl) Tryd.func33 rfl fun args h v h' hc r xs H hr hx => ?_
  unfold pIdx2C at hc; split at hc <;> (try split at hc) <;> cases hc
  rename_i l c
  refine ⟨rfl, rfl, by simp [renV, bndV], ?_⟩
  simp -implicitDefEqProofs [go_sem, Tryd.f33, pIdx1C]
def pInd1C : Ct := fun args h => match args with | [.s l, .s [c]] => some (.i .i64 (idxL c l), h) | _ => none
theorem pInd1_ok : CtOk Tryd.prog G0 50 pInd1C := by
  refine ct_plain (n := 2) fol (sound_cons pIdx1_ok sound_nil) (by kernel_rfl) Tryd.func50 rfl fun args h v h' hc r xs H hr hx => ?_
  unfold pInd1C at hc; split at hc <;> (try split at hc) <;> cases hc
  rename_i l c
  refine ⟨rfl, rfl, by simp [renV, bndV], ?_⟩
  by_cases h1 : [c] = l
  · subst h1
    simp -implicitDefEqProofs [go_sem, Tryd.f50, idxL]
  · simp -implicitDefEqProofs [go_sem, Tryd.f50, h1, pIdx1C]
def pInd2C : Ct := fun args h => match args with | [.s l, .s [c]] => some (.i .i64 (idxL c l), h) | _ => none
theorem pInd2_ok : CtOk Tryd.prog G0 43 pInd2C := by
  refine ct_plain (n := 2) fol (sound_cons pInd1_ok sound_nil) (by kernel_rfl) Tryd.func43 rfl fun args h v h' hc r xs H hr hx => ?_
  unfold pInd2C at hc; split at hc <;> (try split at hc) <;> cases hc
  rename_i l c
  refine ⟨rfl, rfl, by simp [renV, bndV], ?_⟩
  simp -implicitDefEqProofs [go_sem, Tryd.f43, pInd1C]
def pCountC : Ct := fun args h => match args with | [.s l, .s [c]] => some (.i .i64 (l.count c), h) | _ => none
theorem pCount_ok : CtOk Tryd.prog G0 42 pCountC := by
  refine ct_plain (n := 2) fol (sound_cons pCnt_ok sound_nil) (by kernel_rfl) Tryd.func42 rfl fun args h v h' hc r xs H hr hx => ?_
  unfold pCountC at hc; split at hc <;> (try split at hc) <;> cases hc
  rename_i l c
  refine ⟨rfl, rfl, by simp [renV, bndV], ?_⟩
  simp -implicitDefEqProofs [go_sem, Tryd.f42, pCntC]
theorem repL_eq (n : Nat) (v : V) : repL n [v] = List.replicate n v := by
  induction n with
  | zero => rfl
  | succ n ih => rw [repL, ih]; rfl
theorem set_two {h : Heap} {a b c : Blk} {n : Nat} (e : n = h.length + 1) : (h ++ [a, b]).set n c = h ++ [a, c] := by
  subst e
  rw [List.set_append_right _ _ (by omega)]
  simp
theorem sts_put {d : List (List Int)} {p : List Int} {k i : Nat} {z : V} (e : i = d.length) : (sts d ++ List.replicate (k + 1) z).set i (.s p) = sts (d ++ [p]) ++ List.replicate k z := by
  subst e
  rw [List.set_append_right _ _ (by simp [sts_len]), sts_len, Nat.sub_self, List.replicate_succ, List.set_cons_zero, ← sts_snoc, List.append_assoc]
  rfl
def pGenC : Ct := fun args h => match args with | [.s l, .s [c], .i .i64 0, .i .i64 (-1)] => if l.length ≤ 1048576 then some (.sl h.length 0 (splitL c l).length 1, h ++ [⟨2, true, sts (splitL c l)⟩]) else none | _ => none
theorem pGen_ok : CtOk Tryd.prog G0 37 pGenC := by
  refine ct_run (n := 4) fol (sound_cons pCount_ok (sound_cons pInd2_ok sound_nil)) (by kernel_rfl) Tryd.func37 rfl fun args h v h' hc r xs H hr hx => ?_
  unfold pGenC at hc; split at hc <;> (try split at hc) <;> cases hc
  rename_i l c hl
  refine ⟨rfl, ?_⟩
  obtain ⟨n, hn⟩ : ∃ n, l.count c = n := ⟨_, rfl⟩
  have hnl : n ≤ l.length := by rw [← hn]; exact List.count_le_length
  have hsl : (splitL c l).length = n + 1 := by rw [splitL_count, hn]
  have e1 : ¬ ((l.length : Int) + 1 < (n : Int) + 1) := by omega
  have e2 : (n : Int) + 1 ≤ 16777216 := by omega
  have e3 : (0 : Int) ≤ (n : Int) + 1 := by omega
  have e4 : (n : Int) + 1 - 1 = n := by omega
  have n6 : n < 1152921504606846976 := by omega
  have l6 : l.length < 1152921504606846976 := by omega
  simp -implicitDefEqProofs [go_sem, Tryd.f37, pCountC, hn, e1, e2, e3, e4, i64_n n6, i64_n l6, w64 (x := (n : Int)) (by omega), repL_eq]
  refine run_inv _ _ _ _ _ (fun (x : Nat × List Int × List (List Int)) t h1 => x.1 ≤ n ∧ x.2.1.length ≤ l.length ∧ x.2.2.length = x.1 ∧ x.2.1.count c + x.1 = n ∧ x.2.2 ++ splitL c x.2.1 = splitL c l ∧ get t 0 = .s x.2.1 ∧ get t 1 = .s [c] ∧ get t 2 = .i .i64 0 ∧ get t 3 = .i .i64 n ∧ get t 9 = .sl (h.length + 1) 0 (n + 1) 1 ∧ get t 10 = .i .i64 x.1 ∧ h1 = h ++ [⟨2, false, []⟩, ⟨2, true, sts x.2.2 ++ List.replicate (n + 1 - x.1) (.s [])⟩]) (fun x => n - x.1) _ (x := (0, l, [])) ⟨by simp, by simp, rfl, hn, by simp, by simp -implicitDefEqProofs [go_sem], by simp -implicitDefEqProofs [go_sem], by simp -implicitDefEqProofs [go_sem], by simp -implicitDefEqProofs [go_sem], by simp -implicitDefEqProofs [go_sem], by simp -implicitDefEqProofs [go_sem], by simp [sts]⟩ ?_
  rintro ⟨i, s, d⟩ t h1 ⟨hi, hsl1, hd, hct, ha, t0, t1, t2, t3, t9, t10, hh⟩ ih
  simp only at hi hsl1 hd hct ha t0 t10 hh
  have hl1 : h1.length = h.length + 2 := by rw [hh]; simp
  have hg : hget h1 (h.length + 1) = ⟨2, true, sts d ++ List.replicate (n + 1 - i) (.s [])⟩ := by rw [hh, hget_at rfl]; rfl
  have hlen : (sts d ++ List.replicate (n + 1 - i) (V.s [])).length = n + 1 := by simp [sts_len]; omega
  have hi6 : i < 1152921504606846976 := by omega
  have i2 : (i : Int) < (n : Int) + 1 := by omega
  have i3 : i < n + 1 := by omega
  have i4 : (i : Int) + 1 ≤ (n : Int) + 1 := by omega
  have i5 : i + 1 ≤ n + 1 := by omega
  obtain ⟨X, hX⟩ : ∃ X, sts d ++ List.replicate (n + 1 - i) (V.s []) = X := ⟨_, rfl⟩
  have hset : ∀ p : List Int, X.set i (.s p) = sts (d ++ [p]) ++ List.replicate (n - i) (.s []) := by
    intro p
    rw [← hX, show n + 1 - i = (n - i) + 1 by omega, sts_put hd.symm]
  rw [hX] at hg hlen hh
  by_cases hlt : i < n
  · have hne : idxL c s ≠ -1 := fun e => by have := (idxL_count c s).1 e; omega
    have hge := idxL_ge c s
    obtain ⟨m, hm⟩ : ∃ m : Nat, idxL c s = m := ⟨(idxL c s).toNat, by omega⟩
    obtain ⟨h3, h4, h5⟩ := splitL_idx hm
    have m6 : m < 1152921504606846976 := by omega
    have m1 : ¬ (m : Int) < 0 := by omega
    have m2 : (m : Int) ≤ s.length := by omega
    have m3 : (m : Int) + 1 ≤ s.length := by omega
    have m4 : m ≤ s.length := by omega
    simp -implicitDefEqProofs [go_sem, Tryd.f37, t0, t1, t2, t3, t9, t10, hlt, hi, pInd2C, hm, m1, m2, m3, m4, h5, i2, i3, hg, hl1, hlen, hset, i64_n m6, w64 (x := (m : Int)) (by omega)]
    refine ih (i + 1, s.drop (m + 1), d ++ [s.take m]) _ _ (by simp; omega) ⟨by simp; omega, by simp; omega, by simp; omega, by simp; omega, ?_, ?_, ?_, ?_, ?_, ?_, ?_, ?_⟩
    · simp only [List.append_assoc]
      rw [← ha, h3]; rfl
    all_goals simp -implicitDefEqProofs [go_sem, t0, t1, t2, t3, t9, t10, i64_n hi6]
    rw [hh, set_two rfl]
  · have hin : i = n := by omega
    subst hin
    have h0 : s.count c = 0 := by omega
    rw [splitL_zero h0] at ha
    have hfin : h1.set (h.length + 1) ⟨2, true, X.set i (.s s)⟩ = h ++ [⟨2, false, []⟩, ⟨2, true, sts (splitL c l)⟩] := by
      rw [hset, ha, hh, set_two rfl]; simp
    simp -implicitDefEqProofs [go_sem, Tryd.f37, t0, t1, t2, t3, t9, t10, i2, i3, i4, i5, hg, hl1, hlen, i64_n hi6, hfin, hsl]
    exact Trim.sl ⟨by simp, fun j hj => hget_lt hj⟩ (by omega) (by simp) (by rw [hget_at rfl]; rfl) (sts_flat _)
def pSplitSC : Ct := fun args h => match args with | [.s l, .s [c]] => if l.length ≤ 1048576 then some (.sl h.length 0 (splitL c l).length 1, h ++ [⟨2, true, sts (splitL c l)⟩]) else none | _ => none
theorem pSplitS_ok : CtOk Tryd.prog G0 32 pSplitSC := by
  refine ct_run (n := 2) fol (sound_cons pGen_ok sound_nil) (by kernel_rfl) Tryd.func32 rfl fun args h v h' hc r xs H hr hx => ?_
  unfold pSplitSC at hc; split at hc <;> (try split at hc) <;> cases hc
  rename_i l c hl
  refine ⟨rfl, ?_⟩
  simp -implicitDefEqProofs [go_sem, Tryd.f32, pGenC, hl]
  exact Trim.sl ⟨by simp, fun j hj => hget_lt hj⟩ (by omega) (by simp) (by rw [hget_at rfl]; rfl) (sts_flat _)
def pSplitC : Ct := fun args h => match args with | [.s l, .i .u8 c] => if l.length ≤ 1048576 then some (.sl h.length 0 (splitL c l).length 1, h ++ [⟨2, true, sts (splitL c l)⟩]) else none | _ => none
theorem pSplit_ok : CtOk Tryd.prog G0 22 pSplitC := by
  refine ct_run (n := 2) fol (sound_cons pSplitS_ok sound_nil) (by kernel_rfl) Tryd.func22 rfl fun args h v h' hc r xs H hr hx => ?_
  unfold pSplitC at hc; split at hc <;> (try split at hc) <;> cases hc
  rename_i l c hl
  refine ⟨rfl, ?_⟩
  simp -implicitDefEqProofs [go_sem, Tryd.f22, pSplitSC, hl]
  exact Trim.sl ⟨by simp, fun j hj => hget_lt hj⟩ (by omega) (by simp) (by rw [hget_at rfl]; rfl) (sts_flat _)
def lowTo (l : List Int) (i : Nat) : List Int := lowerL (l.take i) ++ l.drop i
theorem lowTo_len (l : List Int) (i : Nat) : (lowTo l i).length = l.length := by simp [lowTo, lowerL]; omega
theorem lowTo_step {l : List Int} {i : Nat} (h : i < l.length) : (lowTo l i).set i (lowB l[i]) = lowTo l (i + 1) := by
  unfold lowTo
  have e : (lowerL (l.take i)).length = i := by simp [lowerL]; omega
  rw [List.set_append_right _ _ (by omega), e, Nat.sub_self, List.drop_eq_getElem_cons h, List.set_cons_zero]
  rw [show lowerL (l.take (i + 1)) = lowerL (l.take i) ++ [lowB l[i]] from snoc_map l lowB h, List.append_assoc]
  rfl
theorem lowTo_get {l : List Int} {i : Nat} (h : i < l.length) : ldN (bts (lowTo l i)) i 1 = some [.i .u8 l[i]] := by
  have e : (lowerL (l.take i)).length = i := by simp [lowerL]; omega
  have h2 : i < (bts (lowTo l i)).length := by rw [bts_len, lowTo_len]; exact h
  rw [ldN, if_pos (by omega), List.drop_eq_getElem_cons h2]
  have : (bts (lowTo l i))[i] = .i .u8 l[i] := by
    simp only [bts, List.getElem_map, lowTo]
    rw [List.getElem_append_right (by omega)]
    simp [e]
  rw [this]; rfl
theorem lowTo_same {l : List Int} {i : Nat} (h : i < l.length) (e : lowB l[i] = l[i]) : lowTo l i = lowTo l (i + 1) := by
  rw [← lowTo_step h, e]
  refine (List.ext_getElem (by simp) ?_)
  intro j h1 h2
  rw [List.getElem_set]
  split
  · rename_i q
    subst q
    have e : (lowerL (l.take i)).length = i := by simp [lowerL]; omega
    simp only [lowTo]
    rw [List.getElem_append_right (by omega)]
    simp [e]
  · rfl
theorem bts_set (l : List Int) (i : Nat) (c : Int) : (bts l).set i (.i .u8 c) = bts (l.set i c) := by simp [bts, List.map_set]
def pLowerC : Ct := fun args h => match args with | [.s l] => if l.length ≤ 1048576 then some (.s (lowerL l), h) else none | _ => none
theorem pLower_ok : CtOk Tryd.prog G0 24 pLowerC := by
  refine ct_plain (n := 1) fol sound_nil (by kernel_rfl) Tryd.func24 rfl fun args h v h' hc r xs H hr hx => ?_
  unfold pLowerC at hc; split at hc <;> (try split at hc) <;> cases hc
  rename_i l hl
  obtain ⟨⟨hs, _⟩, _⟩ := str_of hx
  refine ⟨rfl, rfl, by simp [renV, bndV], ?_⟩
  simp -implicitDefEqProofs [go_sem, Tryd.f24]
  refine run_inv _ _ _ _ _ (fun (i : Nat) t h1 => i ≤ l.length ∧ get t 3 = .sl h.length 0 l.length 1 ∧ get t 8 = .sl h.length 0 l.length 1 ∧ get t 9 = .i .i64 l.length ∧ get t 10 = .i .i64 i ∧ h1 = h ++ [⟨2, false, bts (lowTo l i)⟩]) (fun i => l.length - i) _ (x := 0) ⟨by simp, by simp -implicitDefEqProofs [go_sem], by simp -implicitDefEqProofs [go_sem], by simp -implicitDefEqProofs [go_sem], by simp -implicitDefEqProofs [go_sem], by simp [bts, lowTo, lowerL]⟩ ?_
  rintro i t h1 ⟨hi, t3, t8, t9, t10, hh⟩ ih
  have hi6 : i < 1152921504606846976 := by omega
  have hl1 : h1.length = h.length + 1 := by rw [hh]; simp
  have hg : hget h1 h.length = ⟨2, false, bts (lowTo l i)⟩ := by rw [hh, hget_at0 rfl]; rfl
  have hE : Ext h h1 := by rw [hh]; exact (Ext.refl h).new _
  by_cases hlt : i < l.length
  · obtain ⟨d, hc⟩ : ∃ d, l[i] = d := ⟨_, rfl⟩
    have hd := hs d (hc ▸ List.getElem_mem hlt)
    have hget1 := lowTo_get hlt
    have hst := lowTo_step hlt
    rw [hc] at hget1 hst
    obtain ⟨X, hX⟩ : ∃ X, lowTo l i = X := ⟨_, rfl⟩
    have hXl : X.length = l.length := by rw [← hX]; exact lowTo_len l i
    by_cases c1 : 65 ≤ d
    · by_cases c2 : d ≤ 90
      · have e1 : ((d + 97) % 256 - 65) % 256 = d + 32 := by omega
        rw [show lowB d = d + 32 by simp [lowB, c1, c2]] at hst
        rw [hX] at hst hg hget1
        simp -implicitDefEqProofs [go_sem, Tryd.f24, t3, t8, t9, t10, hlt, hl1, hg, hget1, c1, c2, e1, bts_set, hst, hXl, show i + 1 ≤ l.length from hlt]
        refine ih (i + 1) _ _ (by omega) ⟨hlt, ?_, ?_, ?_, ?_, ?_⟩
        all_goals try simp -implicitDefEqProofs [go_sem, t3, t8, t9, t10, i64_n hi6]
        rw [hh, List.set_append_right _ _ (by omega)]; simp
      · have hs1 := lowTo_same hlt (by rw [hc]; simp [lowB, c2])
        simp -implicitDefEqProofs [go_sem, Tryd.f24, t3, t8, t9, t10, hlt, hl1, hg, hget1, c1, c2]
        refine ih (i + 1) _ _ (by omega) ⟨hlt, ?_, ?_, ?_, ?_, ?_⟩
        all_goals try simp -implicitDefEqProofs [go_sem, t3, t8, t9, t10, i64_n hi6]
        rw [hh, hs1]
    · have hs1 := lowTo_same hlt (by rw [hc]; simp [lowB, c1])
      simp -implicitDefEqProofs [go_sem, Tryd.f24, t3, t8, t9, t10, hlt, hl1, hg, hget1, c1]
      refine ih (i + 1) _ _ (by omega) ⟨hlt, ?_, ?_, ?_, ?_, ?_⟩
      all_goals try simp -implicitDefEqProofs [go_sem, t3, t8, t9, t10, i64_n hi6]
      rw [hh, hs1]
  · have hin : i = l.length := by omega
    have hX : lowTo l i = lowerL l := by rw [hin]; simp [lowTo, lowerL]
    rw [hX] at hg
    have hll : (lowerL l).length = l.length := by simp [lowerL]
    simp -implicitDefEqProofs [go_sem, Tryd.f24, t3, t8, t9, t10, hlt, hl1, hg, ldN_b hll, hE]
def pSameC : Ct := fun args h => match args with | [.s l, .s m] => if l.length ≤ 1048576 ∧ m.length ≤ 1048576 then some (.b (decide (lowerL l = lowerL m)), h) else none | _ => none
/-- where a text stands in a list -/
def posL (l : List Int) : List (List Int) → Int
  | [] => -1
  | p :: y => if l = p then 0 else if posL l y = -1 then -1 else posL l y + 1
theorem posL_mem (l : List Int) : ∀ y : List (List Int), -1 ≤ posL l y ∧ (0 ≤ posL l y ↔ l ∈ y)
  | [] => by simp [posL]
  | p :: y => by
    have ih := posL_mem l y
    rw [posL, List.mem_cons]
    by_cases h : l = p
    · simp [h]
    · rw [if_neg h]
      by_cases h2 : posL l y = -1
      · rw [if_pos h2]
        have : ¬ l ∈ y := fun e => by have := ih.2.2 e; omega
        simp [h, this]
      · rw [if_neg h2]
        have : l ∈ y := ih.2.1 (by omega)
        simp [this]; omega
def posAt (l : List Int) (i : Nat) (y : List (List Int)) : Int := if posL l y = -1 then -1 else i + posL l y
def pPosC : Ct := fun args h => match args with | [.sl b o n 1, .s l] => (match strsAt h b o n with | some y => some (.i .i64 (posL l y), h) | none => none) | _ => none
def pContainsC : Ct := fun args h => match args with | [.sl b o n 1, .s l] => (match strsAt h b o n with | some y => some (.b (decide (l ∈ y)), h) | none => none) | _ => none
def pAnyC : Ct := fun args h => match args with | [.s l, .sl b o n 1] => (match strsAt h b o n with | some y => some (.b (decide (l ∈ y)), h) | none => none) | _ => none
end GoD

/-! Bytes, percents and ends of texts as the program answers them. -/
namespace GoD
open Go Go.Proofs
set_option linter.unusedVariables false
set_option linter.unusedSimpArgs false
set_option maxHeartbeats 4000000
set_option maxRecDepth 100000
def pLetterC : Ct := fun args h => match args with | [.i .u8 c] => some (.b (letterB c), h) | _ => none
def pDigitC : Ct := fun args h => match args with | [.i .u8 c] => some (.b (digitB c), h) | _ => none
def pSchemedC : Ct := fun args h => match args with | [.i .u8 c] => some (.b (schB c), h) | _ => none
def pLabelledC : Ct := fun args h => match args with | [.i .u8 c] => some (.b (labB c), h) | _ => none
theorem idxL_neg (c : Int) (l : List Int) : decide (idxL c l < 0) = !decide (c ∈ l) := by
  have h1 := idxL_ge c l
  have h2 := idxL_count c l
  by_cases h : c ∈ l
  · have : ¬ idxL c l = -1 := fun e => by rw [h2, List.count_eq_zero] at e; exact e h
    rw [decide_eq_true h, decide_eq_false (by omega)]; rfl
  · have : idxL c l = -1 := by rw [h2, List.count_eq_zero]; exact h
    rw [decide_eq_false h, this]; rfl
def pPathedC : Ct := fun args h => match args with | [.i .u8 c] => some (.b (pathC c), h) | _ => none
def hexT : List Int := [48, 49, 50, 51, 52, 53, 54, 55, 56, 57, 65, 66, 67, 68, 69, 70]
theorem hexIdx {c : Int} (h : 0 ≤ c ∧ c < 256) : idxL (if 97 ≤ c ∧ c ≤ 102 then c - 32 else c) hexT = hexv c := by
  have key : ∀ n : Nat, n < 256 → idxL (if 97 ≤ (n : Int) ∧ (n : Int) ≤ 102 then (n : Int) - 32 else n) hexT = hexv n := by decide +kernel
  have := key c.toNat (by omega)
  rwa [Int.toNat_of_nonneg h.1] at this
theorem or16 {a b : Int} (ha : 0 ≤ a ∧ a ≤ 15) (hb : 0 ≤ b ∧ b ≤ 15) : Go.bits .or .i64 (16 * a) b = 16 * a + b := by
  have key : ∀ n : Nat, n < 16 → ∀ m : Nat, m < 16 → Go.bits .or .i64 (16 * (n : Int)) m = 16 * (n : Int) + m := by decide +kernel
  have := key a.toNat (by omega) b.toNat (by omega)
  rwa [Int.toNat_of_nonneg ha.1, Int.toNat_of_nonneg hb.1] at this
def pHexDC : Ct := fun args h => match args with | [.i .u8 c] => some (.i .i64 (hexv c), h) | _ => none
def pDecodeC : Ct := fun args h => match args with | [.s l] => if l.length ≤ 1048576 then some (.s (decodeL l), h) else none | _ => none
def pPctSameC : Ct := fun args h => match args with | [.s l, .s m] => if l.length ≤ 1048576 ∧ m.length ≤ 1048576 then some (.b (decide (decodeL l = decodeL m)), h) else none | _ => none
def headB (l m : List Int) : Bool := decide (m.length ≤ l.length) && decide (l.take m.length = m)
def pHasPre1C : Ct := fun args h => match args with | [.s l, .s m] => some (.b (headB l m), h) | _ => none
def pHasPreC : Ct := fun args h => match args with | [.s l, .s m] => some (.b (headB l m), h) | _ => none
def pHasSuf1C : Ct := fun args h => match args with | [.s l, .s m] => some (.b (endsL l m), h) | _ => none
def pHasSufC : Ct := fun args h => match args with | [.s l, .s m] => some (.b (endsL l m), h) | _ => none
def cutP (l m : List Int) : V := if headB l m = true then .tup [.s (l.drop m.length), .b true] else .tup [.s l, .b false]
theorem cutP_flat (l m : List Int) (k : Nat) : renV id (cutP l m) = cutP l m ∧ bndV k (cutP l m) := by unfold cutP; split <;> simp [renV, bndV, renL, bndL]
theorem headB_le {l m : List Int} (h : headB l m = true) : m.length ≤ l.length := by
  unfold headB at h
  by_cases h1 : m.length ≤ l.length
  · exact h1
  · rw [decide_eq_false h1] at h; cases h
def pCutPre1C : Ct := fun args h => match args with | [.s l, .s m] => some (cutP l m, h) | _ => none
def pCutPreC : Ct := fun args h => match args with | [.s l, .s m] => some (cutP l m, h) | _ => none
end GoD

/-! Addresses as the program answers them. -/
namespace GoD
open Go Go.Proofs
set_option linter.unusedVariables false
set_option linter.unusedSimpArgs false
set_option maxHeartbeats 4000000
set_option maxRecDepth 100000
def pValueC : Ct := fun args h => match args with | [.i .u8 c] => some (.i .i64 (hexv c), h) | _ => none
def pHDigitsC : Ct := fun args h => match args with | [.s l, .i .i64 b] => some (.b (digitsB b l), h) | _ => none
def hexAns (l : List Int) : V := if hexP l = true then .tup [.s (l.drop 2), .b true] else .tup [.s [], .b false]
def pHexC : Ct := fun args h => match args with | [.s l] => some (hexAns l, h) | _ => none
def pPartC : Ct := fun args h => match args with | [.s l] => if l.length ≤ 1048576 then some (.tup [.i .i64 (okV (pieceV l)).1, .b (okV (pieceV l)).2], h) else none | _ => none
theorem digitsB_all {b : Int} {l : List Int} (h : digitsB b l = true) : ∀ c ∈ l, 0 ≤ hexv c ∧ hexv c < b := fun c hc => of_decide_eq_true (List.all_eq_true.1 h c hc)
end GoD
