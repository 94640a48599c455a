import Derived.Test.YtffoolaocbgknaaGreatDoorEO
/-! Sets of bytes, percents and blanks as the document writes and leaves them. -/
namespace GoD
open Go Go.Proofs
set_option linter.unusedVariables false
set_option linter.unusedSimpArgs false
set_option maxHeartbeats 4000000
set_option maxRecDepth 100000
def moreL (s : Int) : Option (List Int) :=
  if s = 1 then some [34, 60, 62, 96] else if s = 2 then some [34, 35, 39, 60, 62] else if s = 3 then some [34, 35, 60, 62, 63, 94, 96, 123, 125]
  else if s = 4 then some [34, 35, 60, 62, 63, 94, 96, 123, 125, 47, 58, 59, 61, 64, 91, 92, 93, 124] else none
def inB (c s : Int) : Bool := match moreL s with
  | none => false
  | some m => decide (c < 33) || decide (126 < c) || decide (c ∈ m)
def rInSetC : Ct := fun args h => match args with | [.i .u8 c, .i .i64 s] => some (.b (inB c s), h) | _ => none
theorem rInSet_ok : CtOk Tryz.prog G0 94 rInSetC := by
  refine ct_plain (n := 2) fol (sound_cons rHas_ok sound_nil) (by kernel_rfl) Tryz.func94 rfl fun args h v h' hc r xs H hr hx => ?_
  unfold rInSetC at hc; split at hc <;> (try split at hc) <;> cases hc
  rename_i c s
  refine ⟨rfl, rfl, by simp [renV, bndV], ?_⟩
  obtain ⟨res, hE⟩ : ∃ x, inB c s = x := ⟨_, rfl⟩
  rw [hE]
  unfold inB moreL at hE
  by_cases s1 : s = 1
  · subst s1; subst hE
    by_cases c1 : c < 33 <;> by_cases c2 : 126 < c <;> simp -implicitDefEqProofs [go_sem, Tryz.f94, rHasC, c1, c2, -List.mem_cons]
  · by_cases s2 : s = 2
    · subst s2; subst hE
      by_cases c1 : c < 33 <;> by_cases c2 : 126 < c <;> simp -implicitDefEqProofs [go_sem, Tryz.f94, rHasC, c1, c2, -List.mem_cons]
    · by_cases s3 : s = 3
      · subst s3; subst hE
        by_cases c1 : c < 33 <;> by_cases c2 : 126 < c <;> simp -implicitDefEqProofs [go_sem, Tryz.f94, rHasC, c1, c2, -List.mem_cons]
      · by_cases s4 : s = 4
        · subst s4; subst hE
          by_cases c1 : c < 33 <;> by_cases c2 : 126 < c <;> simp -implicitDefEqProofs [go_sem, Tryz.f94, rHasC, c1, c2, -List.mem_cons]
        · rw [if_neg s1, if_neg s2, if_neg s3, if_neg s4] at hE
          subst hE
          simp -implicitDefEqProofs [go_sem, Tryz.f94, s1, s2, s3, s4]
def hexD (v : Int) : Int := [48, 49, 50, 51, 52, 53, 54, 55, 56, 57, 65, 66, 67, 68, 69, 70].getD v.toNat 0
def encL (s : Int) : List Int → List Int
  | [] => []
  | c :: t => if inB c s = true then 37 :: hexD (c / 16) :: hexD (c % 16) :: encL s t else c :: encL s t
theorem encL_len (s : Int) : ∀ l, (encL s l).length ≤ 3 * l.length
  | [] => by simp [encL]
  | c :: t => by
    have := encL_len s t
    rw [encL]
    split <;> simp <;> omega
theorem and15 {c : Int} (h : 0 ≤ c ∧ c < 256) : Go.bits .and .u8 c 15 = c % 16 :=
  bits_mask .u8 8 (by decide) (fun n h₀ h₁ => by rw [w8]; omega) 4 (by decide) c h.1 (by omega)
def rEncodeC : Ct := fun args h => match args with | [.s l, .i .i64 s] => if l.length ≤ 1048576 then some (.s (encL s l), h) else none | _ => none
theorem rEncode_ok : CtOk Tryz.prog G0 74 rEncodeC := by
  refine ct_plain (n := 2) fol (sound_cons rInSet_ok sound_nil) (by kernel_rfl) Tryz.func74 rfl fun args h v h' hc r xs H hr hx => ?_
  unfold rEncodeC at hc; split at hc <;> (try split at hc) <;> cases hc
  rename_i l s hl
  obtain ⟨⟨hs, _⟩, _⟩ := str_of hx
  refine ⟨rfl, rfl, by simp [renV, bndV], ?_⟩
  simp -implicitDefEqProofs [go_sem, Tryz.f74]
  refine run_inv _ _ _ _ _ (fun (x : Nat × Nat × List Int) t h1 => x.1 ≤ l.length ∧ get t 0 = .s l ∧ get t 1 = .i .i64 s ∧ get t 5 = .s [48, 49, 50, 51, 52, 53, 54, 55, 56, 57, 65, 66, 67, 68, 69, 70] ∧ get t 7 = .i .i64 x.1 ∧ get t 6 = .sl x.2.1 0 x.2.2.length 1 ∧ hget h1 x.2.1 = ⟨2, false, bts x.2.2⟩ ∧ h.length ≤ x.2.1 ∧ x.2.1 < h1.length ∧ Ext h h1 ∧ x.2.2.length ≤ 3 * x.1 ∧ x.2.2 ++ encL s (l.drop x.1) = encL s l) (fun x => l.length - x.1) _ (x := (0, h.length, [])) ⟨by simp, rfl, rfl, rfl, rfl, rfl, by simp -implicitDefEqProofs [go_sem, bts_nil], by simp, by simp, by simp -implicitDefEqProofs [go_sem], by simp, by simp⟩ ?_
  rintro ⟨i, m, acc⟩ t h1 ⟨hi, t0, t1, t5, t7, t6, hg, hm, hm', he, hal, ha⟩ ih
  simp only at hi t0 t7 t6 hg hm hm' hal ha
  have hmn : m ≠ h1.length := by omega
  have hi6 : i < 1152921504606846976 := by omega
  have e1 : (acc.length + 1) ≤ 1099511627776 := by omega
  have e3 : (acc.length + 3) ≤ 1099511627776 := by omega
  by_cases hlt : i < l.length
  · obtain ⟨d, hc⟩ : ∃ d, l[i] = d := ⟨_, rfl⟩
    have hd := hs d (hc ▸ List.getElem_mem hlt)
    have hdr : l.drop i = d :: l.drop (i + 1) := by rw [List.drop_eq_getElem_cons hlt, hc]
    rw [hdr, encL] at ha
    cases c1 : inB d s with
    | true =>
      rw [if_pos c1] at ha
      have k1 : 0 ≤ d / 16 := by omega
      have k2 : d / 16 < 16 := by omega
      have k3 : 0 ≤ d % 16 := by omega
      have k4 : d % 16 < 16 := by omega
      simp -implicitDefEqProofs [go_sem, Tryz.f74, t0, t1, t5, t7, t6, hlt, hc, c1, rInSetC, hg, hm', ldN_b rfl, e1, e3, hmn, and15 hd, k1, k2, k3, k4]
      refine ih (i + 1, h1.length + 1, acc ++ [37, hexD (d / 16), hexD (d % 16)]) _ _ (by simp; omega) ⟨hlt, ?_⟩
      have hh : ∀ v : Int, 0 ≤ v → v < 16 → ∀ (hv : v.toNat < 16), [48, 49, 50, 51, 52, 53, 54, 55, 56, 57, 65, 66, 67, 68, 69, 70][v.toNat]'hv = hexD v := fun v _ _ hv => (getD_of hv rfl).symm
      simp -implicitDefEqProofs [go_sem, t0, t1, t5, t6, t7, i64_n hi6, he, hm]
      rw [hh _ k1 k2, hh _ k3 k4]
      exact ⟨by simp [bts], by omega, by omega, ha⟩
    | false =>
      rw [if_neg (by rw [c1]; simp)] at ha
      simp -implicitDefEqProofs [go_sem, Tryz.f74, t0, t1, t5, t7, t6, hlt, hc, c1, rInSetC, hg, hm', ldN_b rfl, e1, hmn]
      refine ih (i + 1, h1.length + 1, acc ++ [d]) _ _ (by simp; omega) ⟨hlt, ?_⟩
      simp -implicitDefEqProofs [go_sem, t0, t1, t5, t6, t7, i64_n hi6, he, hm]
      exact ⟨by omega, by omega, ha⟩
  · have e : i = l.length := by omega
    rw [e, List.drop_length, show encL s [] = [] from rfl, List.append_nil] at ha
    simp -implicitDefEqProofs [go_sem, Tryz.f74, t0, t1, t5, t6, t7, hlt, hg, hm', ldN_b rfl, e, he]
    exact ha
def trimL : List Int → List Int
  | [] => []
  | c :: t => if c ≤ 32 then trimL t else c :: t
def trimR (l : List Int) : List Int := (trimL l.reverse).reverse
theorem trimR_snoc (q : List Int) (c : Int) : trimR (q ++ [c]) = if c ≤ 32 then trimR q else q ++ [c] := by
  unfold trimR
  rw [List.reverse_append, show [c].reverse ++ q.reverse = c :: q.reverse from rfl, trimL]
  split
  · rfl
  · simp
theorem trimL_len : ∀ l, (trimL l).length ≤ l.length
  | [] => by simp [trimL]
  | c :: t => by
    have := trimL_len t
    rw [trimL]
    split <;> simp; omega
def keepB (c : Int) : Bool := !decide (c = 9) && !decide (c = 10) && !decide (c = 13)
def cleanL (l : List Int) : List Int := (trimR (trimL l)).filter keepB
theorem cleanL_len (l : List Int) : (cleanL l).length ≤ l.length := by
  unfold cleanL trimR
  refine Nat.le_trans (List.length_filter_le _ _) ?_
  have h1 := trimL_len (trimL l).reverse
  have h2 := trimL_len l
  simp at *
  omega
def rCleanC : Ct := fun args h => match args with | [.s l] => if l.length ≤ 1048576 then some (.s (cleanL l), h) else none | _ => none
theorem filter_snoc (l : List Int) (f : Int → Bool) {i : Nat} (h : i < l.length) : (l.take (i + 1)).filter f = (l.take i).filter f ++ if f l[i] = true then [l[i]] else [] := by
  rw [List.take_succ_eq_append_getElem h, List.filter_append]
  congr 1
  cases hf : f l[i] <;> simp [hf]
def loopL : Code → List Code
  | .loop a => a :: loopL a
  | .seq a b => loopL a ++ loopL b
  | .cond _ a b => loopL a ++ loopL b
  | .block _ a => loopL a
  | _ => []
def loopAt (f : Func) (n : Nat) : Code := (f.body.map fun c => (loopL c).getD n .skip).getD .skip
noncomputable def clean2 : Code := loopAt Tryz.f71 1
noncomputable def clean3 : Code := loopAt Tryz.f71 2
theorem clean2_ok {P : Ex → Tm → Heap → Prop} {k : List Todo} {s0 : List Int} {h : Heap} (hl : s0.length ≤ 1048576)
    (hx : ∀ t, get t 0 = .s (trimR s0) → RunX (ctx Tryz.prog G0 []) P k (.e 2) t h)
    {t : Tm} (t0 : get t 0 = .s s0) : Run (ctx Tryz.prog G0 []) P (.again clean2 :: k) t h := by
  refine run_inv _ _ _ _ _ (fun (s : List Int) t h2 => s.length ≤ 1048576 ∧ get t 0 = .s s ∧ trimR s = trimR s0 ∧ h2 = h) (fun s => s.length) _ (x := s0) ⟨hl, t0, rfl, rfl⟩ ?_
  rintro s t h2 ⟨hsl, t0, hs, rfl⟩ ih
  rcases List.eq_nil_or_concat s with rfl | ⟨q, c, rfl⟩
  · simp -implicitDefEqProofs [go_sem, clean2, loopAt, loopL, Tryz.f71, t0]
    exact hx _ (by simp -implicitDefEqProofs [go_sem, t0, ← hs]; rfl)
  · rw [List.concat_eq_append] at *
    rw [trimR_snoc] at hs
    simp at hsl
    have k1 : (0 : Int) < (q.length : Int) + 1 := by omega
    have k2 : (q.length : Int) + 1 - 1 = q.length := by omega
    have k3 : (q.length : Int) < q.length + 1 := by omega
    have k4 : (q.length : Int) ≤ q.length + 1 := by omega
    by_cases c1 : c ≤ 32
    · rw [if_pos c1] at hs
      simp -implicitDefEqProofs [go_sem, clean2, loopAt, loopL, Tryz.f71, t0, k1, k2, k3, k4, w64 (x := (q.length : Int)) (by omega), c1]
      refine ih q _ _ (by simp) ⟨by omega, ?_⟩
      simp -implicitDefEqProofs [go_sem, hs]
    · rw [if_neg c1] at hs
      simp -implicitDefEqProofs [go_sem, clean2, loopAt, loopL, Tryz.f71, t0, k1, k2, k3, k4, w64 (x := (q.length : Int)) (by omega), c1]
      exact hx _ (by simp -implicitDefEqProofs [go_sem, t0, ← hs])
theorem clean3_ok {P : Ex → Tm → Heap → Prop} {k : List Todo} {s : List Int} {m0 : Nat} {h h0 : Heap} (hl : s.length ≤ 1048576)
    (hx : ∀ t h1 m, get t 3 = .sl m 0 (s.filter keepB).length 1 → hget h1 m = ⟨2, false, bts (s.filter keepB)⟩ → m < h1.length → Ext h h1 → RunX (ctx Tryz.prog G0 []) P k (.e 4) t h1)
    {t : Tm} (t0 : get t 0 = .s s) (t4 : get t 4 = .i .i64 0) (t3 : get t 3 = .sl m0 0 0 1) (hg : hget h0 m0 = ⟨2, false, bts []⟩) (hm : h.length ≤ m0) (hm' : m0 < h0.length) (he : Ext h h0) : Run (ctx Tryz.prog G0 []) P (.again clean3 :: k) t h0 := by
  refine run_inv _ _ _ _ _ (fun (x : Nat × Nat × List Int) t h1 => x.1 ≤ s.length ∧ get t 0 = .s s ∧ get t 4 = .i .i64 x.1 ∧ get t 3 = .sl x.2.1 0 x.2.2.length 1 ∧ hget h1 x.2.1 = ⟨2, false, bts x.2.2⟩ ∧ h.length ≤ x.2.1 ∧ x.2.1 < h1.length ∧ Ext h h1 ∧ x.2.2.length ≤ x.1 ∧ x.2.2 = (s.take x.1).filter keepB) (fun x => s.length - x.1) _ (x := (0, m0, [])) ⟨by simp, t0, t4, t3, hg, hm, hm', he, by simp, by simp⟩ ?_
  clear t0 t4 t3 hg hm hm' he
  rintro ⟨i, m, acc⟩ t h1 ⟨hi, t0, t4, t3, hg, hm, hm', he, hal, ha⟩ ih
  simp only at hi t0 t4 t3 hg hm hm' hal ha
  have hmn : m ≠ h1.length := by omega
  have hi6 : i < 1152921504606846976 := by omega
  have e1 : (acc.length + 1) ≤ 1099511627776 := by omega
  by_cases hlt : i < s.length
  · obtain ⟨d, hc⟩ : ∃ d, s[i] = d := ⟨_, rfl⟩
    have hf := filter_snoc s keepB hlt
    rw [hc, ← ha] at hf
    have no : ∀ t', keepB d = false → get t' 0 = .s s → get t' 4 = .i .i64 ((i + 1 : Nat) : Int) → get t' 3 = .sl m 0 acc.length 1 → Run (ctx Tryz.prog G0 []) P (.again clean3 :: k) t' h1 := by
      intro t' e a b c
      refine ih (i + 1, m, acc) _ _ (by simp; omega) ⟨hlt, a, b, c, hg, hm, hm', he, by simp; omega, ?_⟩
      rw [hf, e]; simp
    by_cases c1 : d = 9
    · simp -implicitDefEqProofs [go_sem, clean3, loopAt, loopL, Tryz.f71, t0, t3, t4, hlt, hc, eq_true c1]
      exact no _ (by simp [keepB, c1]) (by simp -implicitDefEqProofs [go_sem, t0]) (by simp -implicitDefEqProofs [go_sem, t4, i64_n hi6]) (by simp -implicitDefEqProofs [go_sem, t3])
    · by_cases c2 : d = 10
      · simp -implicitDefEqProofs [go_sem, clean3, loopAt, loopL, Tryz.f71, t0, t3, t4, hlt, hc, c1, eq_true c2]
        exact no _ (by simp [keepB, c2]) (by simp -implicitDefEqProofs [go_sem, t0]) (by simp -implicitDefEqProofs [go_sem, t4, i64_n hi6]) (by simp -implicitDefEqProofs [go_sem, t3])
      · by_cases c3 : d = 13
        · simp -implicitDefEqProofs [go_sem, clean3, loopAt, loopL, Tryz.f71, t0, t3, t4, hlt, hc, c1, c2, eq_true c3]
          exact no _ (by simp [keepB, c3]) (by simp -implicitDefEqProofs [go_sem, t0]) (by simp -implicitDefEqProofs [go_sem, t4, i64_n hi6]) (by simp -implicitDefEqProofs [go_sem, t3])
        · have e : keepB d = true := by simp [keepB, c1, c2, c3]
          rw [e, if_pos rfl] at hf
          simp -implicitDefEqProofs [go_sem, clean3, loopAt, loopL, Tryz.f71, t0, t3, t4, hlt, hc, c1, c2, c3, hg, hm', ldN_b rfl, e1, hmn]
          refine ih (i + 1, h1.length + 1, acc ++ [d]) _ _ (by simp; omega) ⟨hlt, ?_⟩
          simp -implicitDefEqProofs [go_sem, t0, t3, t4, hf, i64_n hi6, he, hm]
          omega
  · have e : i = s.length := by omega
    rw [e, List.take_length] at ha
    subst ha
    simp -implicitDefEqProofs [go_sem, clean3, loopAt, loopL, Tryz.f71, t0, t3, t4, hlt]
    exact hx _ _ m (by simp -implicitDefEqProofs [go_sem, t3]) hg hm' he
theorem rClean_ok : CtOk Tryz.prog G0 71 rCleanC := by
  refine ct_plain (n := 1) fol sound_nil (by kernel_rfl) Tryz.func71 rfl fun args h v h' hc r xs H hr hx => ?_
  unfold rCleanC at hc; split at hc <;> (try split at hc) <;> cases hc
  rename_i l hl
  obtain ⟨⟨hs, _⟩, _⟩ := str_of hx
  refine ⟨rfl, rfl, by simp [renV, bndV], ?_⟩
  simp -implicitDefEqProofs [go_sem, Tryz.f71]
  refine run_inv _ _ _ _ _ (fun (s : List Int) t h1 => s.length ≤ l.length ∧ get t 0 = .s s ∧ trimL s = trimL l ∧ h1 = h) (fun s => s.length) _ (x := l) ⟨by simp, rfl, rfl, rfl⟩ ?_
  rintro s t h1 ⟨hsl, t0, hs1, rfl⟩ ih
  by_cases hgo : ∃ c r, s = c :: r ∧ c ≤ 32
  · obtain ⟨c, r, rfl, hc⟩ := hgo
    have k1 : (1 : Int) ≤ (r.length : Int) + 1 := by omega
    have k2 : (0 : Int) < (r.length : Int) + 1 := by omega
    simp at hsl
    simp -implicitDefEqProofs [go_sem, Tryz.f71, t0, hc, k1, k2]
    refine ih r _ _ (by simp) ⟨by omega, ?_⟩
    rw [trimL, if_pos hc] at hs1
    simp -implicitDefEqProofs [go_sem, hs1]
  · have hs2 : s = trimL l := by
      rw [← hs1]
      match s, hgo with
      | [], _ => rfl
      | c :: r, hgo => rw [trimL, if_neg fun e => hgo ⟨c, r, rfl, e⟩]
    have hlen : s.length ≤ 1048576 := by omega
    have two : ∀ c r, s = c :: r → ¬ c ≤ 32 := fun c r e h => hgo ⟨c, r, e, h⟩
    have hcl : cleanL l = (trimR s).filter keepB := by rw [hs2]; rfl
    have hlr : (trimR s).length ≤ 1048576 := by
      have := trimL_len s.reverse
      unfold trimR
      simp at this ⊢
      omega
    have fin : ∀ (Q : Ex → Tm → Heap → Prop) (k : List Todo) (t : Tm), (∀ t2 h2 m, get t2 3 = .sl m 0 ((trimR s).filter keepB).length 1 → hget h2 m = ⟨2, false, bts ((trimR s).filter keepB)⟩ → m < h2.length → Ext h1 h2 → RunX (ctx Tryz.prog G0 []) Q k (.e 4) t2 h2) → get t 0 = .s (trimR s) → get t 4 = .i .i64 0 → get t 3 = .sl h1.length 0 0 1 → Run (ctx Tryz.prog G0 []) Q (.again clean3 :: k) t (h1 ++ [⟨2, false, []⟩]) := fun Q k t a b c d => clean3_ok hlr a b c d (by simp -implicitDefEqProofs [go_sem, bts_nil]) (Nat.le_refl _) (by simp) (by simp -implicitDefEqProofs [go_sem])
    clear ih hs1 hs2
    rcases s with _ | ⟨c, r⟩
    · simp -implicitDefEqProofs [go_sem, Tryz.f71, t0]
      refine clean2_ok (s0 := []) (by simp) (fun t t0 => ?_) (by simp -implicitDefEqProofs [go_sem, t0])
      simp -implicitDefEqProofs [go_sem, Tryz.f71, t0]
      refine fin _ _ _ (fun t2 h2 m t3 hg hm he => ?_) (by simp -implicitDefEqProofs [go_sem, t0]) (by simp -implicitDefEqProofs [go_sem]) (by simp -implicitDefEqProofs [go_sem])
      simp -implicitDefEqProofs [go_sem, t3, hg, hm, ldN_b rfl, hcl, he]
    · have hc : ¬ c ≤ 32 := two c r rfl
      have k1 : (1 : Int) ≤ (r.length : Int) + 1 := by omega
      have k2 : (0 : Int) < (r.length : Int) + 1 := by omega
      simp -implicitDefEqProofs [go_sem, Tryz.f71, t0, hc, k1, k2]
      refine clean2_ok (s0 := c :: r) hlen (fun t t0 => ?_) (by simp -implicitDefEqProofs [go_sem, t0])
      simp -implicitDefEqProofs [go_sem, Tryz.f71, t0]
      refine fin _ _ _ (fun t2 h2 m t3 hg hm he => ?_) (by simp -implicitDefEqProofs [go_sem, t0]) (by simp -implicitDefEqProofs [go_sem]) (by simp -implicitDefEqProofs [go_sem])
      simp -implicitDefEqProofs [go_sem, t3, hg, hm, ldN_b rfl, hcl, he]
end GoD
