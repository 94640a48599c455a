import Derived.Test.YtcaaebjjgbcjpaaGreatDoorET
/-! URLs as the document reads them. -/
namespace GoD
open Go Go.Proofs
set_option linter.unusedVariables false
set_option linter.unusedSimpArgs false
set_option maxHeartbeats 4000000
set_option maxRecDepth 100000
structure Url where
  sch : List Int
  us : List Int
  pa : List Int
  ho : List Int
  po : Int
  path : List Int
  q : Bool
  qu : List Int
  f : Bool
  fr : List Int
def Url.cells (u : Url) : List V := [.s u.sch, .s u.us, .s u.pa, .s u.ho, .i .i64 u.po, .s u.path, .b u.q, .s u.qu, .b u.f, .s u.fr]
def Url.V (u : Url) : V := .agg u.cells
def skipL : List Int → List Int
  | [] => []
  | c :: t => if c = 47 ∨ c = 92 then skipL t else c :: t
theorem skipL_len : ∀ l, (skipL l).length ≤ l.length
  | [] => by simp [skipL]
  | c :: t => by
    have := skipL_len t
    rw [skipL]
    split <;> simp; omega
def cutF (s : List Int) : List Int := s.take (upL [35] s)
def url3 (sch s1 : List Int) (ho : List Int) (po : Int) (a s2 : List Int) : Url :=
  { sch := sch, us := userL a [], pa := passL a [], ho := ho, po := po
    path := pathL ((cutF s2).take (upL [63] (cutF s2)))
    q := decide (upL [63] (cutF s2) < (cutF s2).length), qu := if upL [63] (cutF s2) < (cutF s2).length then encL 2 ((cutF s2).drop (upL [63] (cutF s2) + 1)) else []
    f := decide (upL [35] s2 < s2.length), fr := if upL [35] s2 < s2.length then encL 1 (s2.drop (upL [35] s2 + 1)) else [] }
def url2 (sch s1 : List Int) : Option Url := match authW sch (restL (s1.take (upL [47, 92, 63, 35] s1))) [] 0 with
  | (false, _, _) => none
  | (true, ho, po) => some (url3 sch s1 ho po (s1.take (upL [47, 92, 63, 35] s1)) (s1.drop (upL [47, 92, 63, 35] s1)))
def url1 (s : List Int) : Option Url := if (defaultL (lowerL (s.take (schemeN s)))).2 = true then url2 (lowerL (s.take (schemeN s))) (skipL (s.drop (schemeN s + 1))) else none
def urlL (l : List Int) : Option Url := if 65536 < l.length then none else if utf8B l = true then url1 (cleanL l) else none
def urlZ : Url := ⟨[], [], [], [], 0, [], false, [], false, []⟩
def urlAns : Option Url → V
  | none => .tup [urlZ.V, .i .i64 8]
  | some u => .tup [u.V, .i .i64 0]
def rURLC : Ct := fun args h => match args with | [.s l] => some (urlAns (urlL l), h) | _ => none
theorem urlAns_flat (o : Option Url) (m : Nat) : renV id (urlAns o) = urlAns o ∧ bndV m (urlAns o) := by cases o <;> simp [urlAns, Url.V, Url.cells, renV, bndV, renL, bndL]
def urlBk (u : Url) : Blk := ⟨2, true, u.cells⟩
def urlS (sch : List Int) : Url := ⟨sch, [], [], [], 0, [], false, [], false, []⟩
theorem rURL_ok : CtOk Tryz.prog G0 16 rURLC := by
  refine ct_plain (n := 1) fol (sound_cons rUTF8_ok (sound_cons rClean_ok (sound_cons rScheme_ok (sound_cons rLower_ok (sound_cons rDefault_ok (sound_cons rUpTo_ok (sound_cons rAuth_ok (sound_cons rEncode_ok (sound_cons rPath_ok sound_nil))))))))) (by kernel_rfl) Tryz.func16 rfl fun args h v h' hc r xs H hr hx => ?_
  unfold rURLC at hc; split at hc <;> (try split at hc) <;> cases hc
  rename_i l
  obtain ⟨⟨hs, hl⟩, _⟩ := str_of hx
  refine ⟨rfl, rfl, urlAns_flat _ _, ?_⟩
  obtain ⟨R, hR⟩ : ∃ R, urlL l = R := ⟨_, rfl⟩
  rw [hR]
  unfold urlL at hR
  by_cases c1 : 65536 < l.length
  · rw [if_pos c1] at hR
    subst hR
    have c1' : (65536 : Int) < l.length := by omega
    simp -implicitDefEqProofs [go_sem, Tryz.f16, c1, c1', urlAns, urlZ, Url.V, Url.cells]
  rw [if_neg c1] at hR
  have c1' : ¬ (65536 : Int) < l.length := by omega
  cases c2 : utf8B l with
  | false =>
    rw [c2, if_neg (by simp)] at hR
    subst hR
    simp -implicitDefEqProofs [go_sem, Tryz.f16, c1, c1', rUTF8C, c2, urlAns, urlZ, Url.V, Url.cells]
  | true =>
    rw [c2, if_pos rfl] at hR
    obtain ⟨s, hsv⟩ : ∃ s, cleanL l = s := ⟨_, rfl⟩
    have hsl : s.length ≤ 65536 := by rw [← hsv]; have := cleanL_len l; omega
    rw [hsv] at hR
    unfold url1 at hR
    obtain ⟨k, hk⟩ : ∃ k, schemeN s = k := ⟨_, rfl⟩
    have hkl : k ≤ s.length := by rw [← hk]; exact schemeN_le s
    have hkp : k ≠ 0 → k < s.length := by rw [← hk]; exact schemeN_lt
    rw [hk] at hR
    obtain ⟨sch, hsch⟩ : ∃ sch, lowerL (s.take k) = sch := ⟨_, rfl⟩
    rw [hsch] at hR
    have hkl' : (k : Int) ≤ s.length := by omega
    have hk7 : k ≤ 1048576 := by omega
    have hk6 : k < 1152921504606846976 := by omega
    have hl7 : l.length ≤ 1048576 := by omega
    simp only [Tryz.f16, run_seq]
    generalize hK12 : (Code.region 12 _ _).seq _ = K12
    have st12 : ∀ (s1 : List Int) (t : Tm) (h1 : Heap), h1 = h ++ [urlBk urlZ, urlBk (urlS sch)] → s1.length ≤ 65536 → url2 sch s1 = R → get t 0 = .s s1 → get t 2 = .p h.length 0 → get t 5 = .p (h.length + 1) 0 → Run (ctx Tryz.prog G0 [(50, rUTF8C), (51, rCleanC), (52, rSchemeC), (53, rLowerC), (54, rDefaultC), (55, rUpToC), (56, rAuthC), (57, rEncodeC), (58, rPathC)]) (Fini (ctx Tryz.prog G0 [(50, rUTF8C), (51, rCleanC), (52, rSchemeC), (53, rLowerC), (54, rDefaultC), (55, rUpToC), (56, rAuthC), (57, rEncodeC), (58, rPathC)]) [ResultVar.cell 2 55, ResultVar.tmp 3] fun v' h1 => v' = urlAns R ∧ Ext h h1) [.c K12] t h1 := by
      subst hK12
      intro s1 t h1 hh hs1 hR2 t0 t2 t5
      have hl1 : h1.length = h.length + 2 := by rw [hh]; simp
      have hg0 : hget h1 h.length = urlBk urlZ := by rw [hh, hget_at0 rfl]; rfl
      have hg1 : hget h1 (h.length + 1) = urlBk (urlS sch) := by rw [hh, hget_at rfl]; rfl
      unfold url2 at hR2
      obtain ⟨k1, hk1⟩ : ∃ k1, upL [47, 92, 63, 35] s1 = k1 := ⟨_, rfl⟩
      have hk1l : k1 ≤ s1.length := by rw [← hk1]; exact upL_le _ _
      have hk1l' : (k1 : Int) ≤ s1.length := by omega
      rw [hk1] at hR2
      obtain ⟨a, ha⟩ : ∃ a, s1.take k1 = a := ⟨_, rfl⟩
      obtain ⟨s2, hs2⟩ : ∃ s2, s1.drop k1 = s2 := ⟨_, rfl⟩
      have hal : a.length ≤ 65536 := by rw [← ha]; simp; omega
      have hs2l : s2.length ≤ 65536 := by rw [← hs2]; simp; omega
      rw [ha, hs2] at hR2
      have hE : Ext h h1 := by rw [hh]; exact ⟨by simp, fun i hi => hget_lt hi⟩
      have hrun : rAuthC [.p (h.length + 1) 0, .s a] h1 = some (.b (authW sch (restL a) [] 0).1, h1.set (h.length + 1) (urlB sch (userL a []) (passL a []) (authW sch (restL a) [] 0).2.1 (authW sch (restL a) [] 0).2.2 [] false [] false [])) := by
        simp [rAuthC, hg1, urlBk, Url.cells, urlS, hal, hl1]
      rcases hA : authW sch (restL a) [] 0 with ⟨_ | _, ho, po⟩
      · rw [hA] at hR2 hrun
        subst hR2
        simp only at hrun
        simp -implicitDefEqProofs [go_sem, t0, t2, t5, rUpToC, hk1, hk1l, hk1l', ha, hrun, hg0, hl1, urlBk, urlZ, urlAns, Url.V, Url.cells, hE, Ext.set]
      · rw [hA] at hR2 hrun
        simp only at hR2 hrun
        subst hR2
        obtain ⟨us, hus⟩ : ∃ us, userL a [] = us := ⟨_, rfl⟩
        obtain ⟨pa, hpa⟩ : ∃ pa, passL a [] = pa := ⟨_, rfl⟩
        rw [hus, hpa] at hrun
        obtain ⟨k2, hk2⟩ : ∃ k2, upL [35] s2 = k2 := ⟨_, rfl⟩
        have hk2l : k2 ≤ s2.length := by rw [← hk2]; exact upL_le _ _
        have hk2l' : (k2 : Int) ≤ s2.length := by omega
        have hk26 : k2 < 1152921504606846976 := by omega
        obtain ⟨s3, hs3⟩ : ∃ s3, s2.take k2 = s3 := ⟨_, rfl⟩
        have hs3l : s3.length ≤ 65536 := by rw [← hs3]; simp; omega
        have hcf : cutF s2 = s3 := by unfold cutF; rw [hk2, hs3]
        obtain ⟨k3, hk3⟩ : ∃ k3, upL [63] s3 = k3 := ⟨_, rfl⟩
        have hk3l : k3 ≤ s3.length := by rw [← hk3]; exact upL_le _ _
        have hk3l' : (k3 : Int) ≤ s3.length := by omega
        have hk36 : k3 < 1152921504606846976 := by omega
        obtain ⟨s4, hs4⟩ : ∃ s4, s3.take k3 = s4 := ⟨_, rfl⟩
        have hs4l : s4.length ≤ 1048576 := by rw [← hs4]; simp; omega
        have hu : url3 sch s1 ho po a s2 = { sch := sch, us := us, pa := pa, ho := ho, po := po, path := pathL s4, q := decide (k3 < s3.length), qu := if k3 < s3.length then encL 2 (s3.drop (k3 + 1)) else [], f := decide (k2 < s2.length), fr := if k2 < s2.length then encL 1 (s2.drop (k2 + 1)) else [] } := by
          unfold url3
          rw [hcf, hk2, hk3, hs4, hus, hpa]
        rw [hu]
        clear hu hcf hR hA hus hpa hs1
        simp only [run_seq]
        generalize hK20 : (Code.region 20 _ _).seq _ = K20
        have st20 : ∀ (t : Tm) (h2 : Heap) (f : Bool) (fr : List Int), get t 0 = .s s2 → get t 4 = .i .i64 k2 → get t 2 = .p h.length 0 → get t 5 = .p (h.length + 1) 0 → h2.length = h.length + 2 → hget h2 h.length = urlBk urlZ → hget h2 (h.length + 1) = urlB sch us pa ho po [] false [] f fr → Ext h h2 → Run (ctx Tryz.prog G0 [(50, rUTF8C), (51, rCleanC), (52, rSchemeC), (53, rLowerC), (54, rDefaultC), (55, rUpToC), (56, rAuthC), (57, rEncodeC), (58, rPathC)]) (Fini (ctx Tryz.prog G0 [(50, rUTF8C), (51, rCleanC), (52, rSchemeC), (53, rLowerC), (54, rDefaultC), (55, rUpToC), (56, rAuthC), (57, rEncodeC), (58, rPathC)]) [ResultVar.cell 2 55, ResultVar.tmp 3] fun v' h1 => v' = urlAns (some { sch := sch, us := us, pa := pa, ho := ho, po := po, path := pathL s4, q := decide (k3 < s3.length), qu := if k3 < s3.length then encL 2 (s3.drop (k3 + 1)) else [], f := f, fr := fr }) ∧ Ext h h1) [.c K20] t h2 := by
          subst hK20
          clear hrun hg0 hg1 hE hl1 hh t0 t2 t5
          intro t h2 f fr t0 t4 t2 t5 hl1 hg0 hg1 hE
          by_cases e1 : k3 < s3.length
          · have e1' : (k3 : Int) + 1 ≤ s3.length := by omega
            have e2 : s3.length ≤ 1048576 + (k3 + 1) := by omega
            have e3 : s3.length - (k3 + 1) ≤ 1048576 := by omega
            simp only [if_pos e1, decide_eq_true e1]
            simp -implicitDefEqProofs [go_sem, t0, t2, t4, t5, rUpToC, rEncodeC, rPathC, hs3, hk2l, hk2l', hk3, hk3l, hk3l', e1, e1', e2, e3, hs4, hs4l, hg0, hg1, hl1, urlBk, urlZ, urlB, urlAns, Url.V, Url.cells, hE, Ext.set, i64_n hk36, hget_set]
          · simp only [if_neg e1, decide_eq_false e1]
            simp -implicitDefEqProofs [go_sem, t0, t2, t4, t5, rUpToC, rEncodeC, rPathC, hs3, hk2l, hk2l', hk3, hk3l, hk3l', e1, hs4, hs4l, hg0, hg1, hl1, urlBk, urlZ, urlB, urlAns, Url.V, Url.cells, hE, Ext.set, hget_set]
        by_cases e1 : k2 < s2.length
        · have e1' : (k2 : Int) + 1 ≤ s2.length := by omega
          have e2 : s2.length ≤ 1048576 + (k2 + 1) := by omega
          have e3 : s2.length - (k2 + 1) ≤ 1048576 := by omega
          simp only [if_pos e1, decide_eq_true e1]
          simp -implicitDefEqProofs [go_sem, t0, t2, t5, rUpToC, hk1, hk1l, hk1l', ha, hs2, hrun, rEncodeC, e1, e1', e2, e3, hk2, hl1, hs2l, i64_n hk26, hget_set, urlB]
          refine st20 _ _ true _ ?_ ?_ ?_ ?_ ?_ ?_ ?_ ?_
          all_goals simp -implicitDefEqProofs [go_sem, t0, t2, t5, hl1, hget_set, hg0, urlB, hE, Ext.set]
        · simp only [if_neg e1, decide_eq_false e1]
          simp -implicitDefEqProofs [go_sem, t0, t2, t5, rUpToC, hk1, hk1l, hk1l', ha, hs2, hrun, rEncodeC, e1, hk2, hl1, hs2l, hget_set, urlB]
          refine st20 _ _ false _ ?_ ?_ ?_ ?_ ?_ ?_ ?_ ?_
          all_goals simp -implicitDefEqProofs [go_sem, t0, t2, t5, hl1, hget_set, hg0, urlB, hE, Ext.set]
    cases d1 : (defaultL sch).2 with
    | false =>
      rw [d1, if_neg (by simp)] at hR
      subst hR
      simp -implicitDefEqProofs [go_sem, c1, c1', rUTF8C, c2, rCleanC, hl7, hsv, rSchemeC, hk, hkl, hkl', rLowerC, hk7, hsch, rDefaultC, d1, urlAns, urlZ, Url.V, Url.cells, hget_set, hget_new]
    | true =>
      rw [d1, if_pos rfl] at hR
      have hk0 : k ≠ 0 := by
        intro e
        rw [e] at hsch
        rw [← hsch] at d1
        simp [lowerL, defaultL] at d1
      have hkk := hkp hk0
      have hkk' : (k : Int) + 1 ≤ s.length := by omega
      have hsd : (s.drop (k + 1)).length ≤ 65536 := by simp; omega
      simp -implicitDefEqProofs [go_sem, c1, c1', rUTF8C, c2, rCleanC, hl7, hsv, rSchemeC, hk, hkl, hkl', rLowerC, hk7, hsch, rDefaultC, d1, hkk, hkk', i64_n hk6]
      refine run_inv _ _ _ _ _ (fun (x : List Int) t h1 => x.length ≤ 65536 ∧ get t 0 = .s x ∧ get t 2 = .p h.length 0 ∧ get t 5 = .p (h.length + 1) 0 ∧ skipL x = skipL (s.drop (k + 1)) ∧ h1 = h ++ [urlBk urlZ, urlBk (urlS sch)]) (fun x => x.length) _ (x := s.drop (k + 1)) ⟨hsd, by simp -implicitDefEqProofs [go_sem], by simp -implicitDefEqProofs [go_sem], by simp -implicitDefEqProofs [go_sem], rfl, by simp [urlBk, Url.cells, urlZ, urlS]⟩ ?_
      rintro x t h1 ⟨hxl, t0, t2, t5, hd, hh⟩ ih
      match x, hxl, t0, hd with
      | [], _, t0, hd =>
        simp -implicitDefEqProofs [go_sem, t0]
        refine st12 [] _ _ hh (by simp) ?_ ?_ ?_ ?_
        · rw [← hd] at hR; exact hR
        all_goals simp -implicitDefEqProofs [go_sem, t0, t2, t5]
      | c :: q, hxl, t0, hd =>
        have k1 : (1 : Int) ≤ (q.length : Int) + 1 := by omega
        have k2 : (0 : Int) < (q.length : Int) + 1 := by omega
        rw [skipL] at hd
        by_cases e1 : c = 47
        · rw [if_pos (.inl e1)] at hd
          simp -implicitDefEqProofs [go_sem, t0, eq_true e1, k1, k2]
          refine ih q _ _ (by simp) ⟨by simp at hxl; omega, ?_, ?_, ?_, hd, hh⟩
          all_goals simp -implicitDefEqProofs [go_sem, t0, t2, t5]
        · by_cases e2 : c = 92
          · rw [if_pos (.inr e2)] at hd
            simp -implicitDefEqProofs [go_sem, t0, e1, eq_true e2, k1, k2]
            refine ih q _ _ (by simp) ⟨by simp at hxl; omega, ?_, ?_, ?_, hd, hh⟩
            all_goals simp -implicitDefEqProofs [go_sem, t0, t2, t5]
          · rw [if_neg (by omega)] at hd
            simp -implicitDefEqProofs [go_sem, t0, e1, e2, k1, k2]
            refine st12 (c :: q) _ _ hh hxl ?_ ?_ ?_ ?_
            · rw [← hd] at hR; exact hR
            all_goals simp -implicitDefEqProofs [go_sem, t0, t2, t5]
end GoD

/-! Source expressions as the document reads them. -/
namespace GoD
open Go Go.Proofs
set_option linter.unusedVariables false
set_option linter.unusedSimpArgs false
set_option maxHeartbeats 4000000
set_option maxRecDepth 100000
structure Expr5 where
  kind : Int
  sch : List Int
  ho : List Int
  po : List Int
  pa : List Int
def Expr5.cells (e : Expr5) : List V := [.i .i64 e.kind, .s e.sch, .s e.ho, .s e.po, .s e.pa]
def Expr5.V (e : Expr5) : V := .agg e.cells
def exprZ : Expr5 := ⟨0, [], [], [], []⟩
def pathC (c : Int) : Bool := decide (33 ≤ c) && decide (c ≤ 126) && !decide (c ∈ [63, 35, 59, 44])
def pathOk (s : List Int) : Bool := s.all pathC
def src4 (sch ho po s : List Int) : Expr5 := if s ≠ [] ∧ s.head? ≠ some 47 then exprZ else if pathOk s = true then ⟨4, sch, ho, po, s⟩ else exprZ
def src3 (sch ho : List Int) : List Int → Expr5
  | [] => src4 sch ho [] []
  | c :: r => if c = 58 then (if r.head? = some 42 then src4 sch ho [42] (r.drop 1) else if cntL digitB r = 0 ∨ 5 < cntL digitB r then exprZ else src4 sch ho (r.take (cntL digitB r)) (r.drop (cntL digitB r))) else src4 sch ho [] (c :: r)
def src2 (sch s : List Int) : Expr5 := if hostPartN s = 0 then exprZ else src3 sch (lowerL (s.take (hostPartN s))) (s.drop (hostPartN s))
def src1 (s : List Int) : Expr5 := if 0 < schemeN s ∧ schemeN s + 1 = s.length then ⟨3, lowerL (s.take (schemeN s)), [], [], []⟩ else if 0 < schemeN s ∧ (s.drop (schemeN s)).take 3 = [58, 47, 47] then src2 (lowerL (s.take (schemeN s))) (s.drop (schemeN s + 3)) else src2 [] s
def srcL (s : List Int) : Expr5 := if s = [42] then ⟨1, [], [], [], []⟩ else if lowerL s = [39, 115, 101, 108, 102, 39] then ⟨2, [], [], [], []⟩ else if 2 ≤ s.length ∧ s.head? = some 39 ∧ s.getLast? = some 39 then ⟨5, [], [], [], []⟩ else src1 s
theorem hostPartN_le (l : List Int) : hostPartN l ≤ l.length := by
  match l with
  | [] => simp [hostPartN]
  | [a] =>
    rw [hostPartN]
    split
    · simp
    · exact labelsN_le _
  | a :: b :: r =>
    have h1 := labelsN_le r
    have h2 := labelsN_le (a :: b :: r)
    rw [hostPartN]
    split
    · split
      · split <;> simp <;> omega
      · simp
    · exact h2
def exprBk (e : Expr5) : Blk := ⟨2, true, e.cells⟩
noncomputable def srcA : Code := loopAt Tryz.f209 0
noncomputable def srcB : Code := loopAt Tryz.f209 1
theorem srcA_ok {P : Ex → Tm → Heap → Prop} {k : List Todo} {s : List Int} {h : Heap} {d2 d4 : V} (hl : s.length ≤ 1048576) (hl0 : 1 ≤ s.length)
    (hx : ∀ t, get t 0 = .s s → get t 2 = d2 → get t 4 = d4 → get t 5 = .i .i64 ((1 + cntL digitB s.tail : Nat) : Int) → RunX (ctx Tryz.prog G0 [(141, rSameC), (52, rSchemeC), (53, rLowerC), (263, rHostPartC), (117, rDigitC), (118, rHasC)]) P k (.e 1) t h)
    {t : Tm} (t0 : get t 0 = .s s) (t2 : get t 2 = d2) (t4 : get t 4 = d4) (t5 : get t 5 = .i .i64 1) : Run (ctx Tryz.prog G0 [(141, rSameC), (52, rSchemeC), (53, rLowerC), (263, rHostPartC), (117, rDigitC), (118, rHasC)]) P (.again srcA :: k) t h := by
  refine run_inv _ _ _ _ _ (fun (i : Nat) t h1 => 1 ≤ i ∧ i ≤ s.length ∧ get t 0 = .s s ∧ get t 2 = d2 ∧ get t 4 = d4 ∧ get t 5 = .i .i64 i ∧ i + cntL digitB (s.drop i) = 1 + cntL digitB s.tail ∧ h1 = h) (fun i => s.length - i) _ (x := 1) ⟨Nat.le_refl _, hl0, t0, t2, t4, t5, by simp, rfl⟩ ?_
  clear t0 t2 t4 t5
  rintro i t h1 ⟨hi1, hi, t0, t2, t4, t5, hd, rfl⟩ ih
  have hi6 : i < 1152921504606846976 := by omega
  by_cases hlt : i < s.length
  · obtain ⟨d, hc⟩ : ∃ d, s[i] = d := ⟨_, rfl⟩
    rw [List.drop_eq_getElem_cons hlt, hc, cntL] at hd
    cases c1 : digitB d with
    | true =>
      rw [c1, if_pos rfl] at hd
      simp -implicitDefEqProofs [go_sem, srcA, loopAt, loopL, Tryz.f209, t0, t5, hlt, hc, rDigitC, c1]
      refine ih (i + 1) _ _ (by omega) ⟨by omega, hlt, ?_⟩
      simp -implicitDefEqProofs [go_sem, t0, t2, t4, t5, i64_n hi6]
      omega
    | false =>
      rw [c1, if_neg (by simp)] at hd
      simp -implicitDefEqProofs [go_sem, srcA, loopAt, loopL, Tryz.f209, t0, t5, hlt, hc, rDigitC, c1]
      refine hx _ ?_ ?_ ?_ ?_ <;> simp -implicitDefEqProofs [go_sem, t0, t2, t4, t5]
      omega
  · rw [List.drop_eq_nil_of_le (by omega), cntL] at hd
    simp -implicitDefEqProofs [go_sem, srcA, loopAt, loopL, Tryz.f209, t0, t5, hlt, rDigitC]
    refine hx _ ?_ ?_ ?_ ?_ <;> simp -implicitDefEqProofs [go_sem, t0, t2, t4, t5]
    omega
theorem pathOk_cons (c : Int) (t : List Int) : pathOk (c :: t) = (pathC c && pathOk t) := rfl
theorem srcB_ok {P : Ex → Tm → Heap → Prop} {k : List Todo} {s : List Int} {h : Heap} {d4 : V} {b : Nat} (hl : s.length ≤ 1048576) (hb : b < h.length) (hg : hget h b = exprBk exprZ)
    (hx : ∀ t, pathOk s = true → get t 0 = .s s → get t 2 = .p b 0 → get t 4 = d4 → RunX (ctx Tryz.prog G0 [(141, rSameC), (52, rSchemeC), (53, rLowerC), (263, rHostPartC), (117, rDigitC), (118, rHasC)]) P k (.e 3) t h)
    (hr : ∀ t, pathOk s = false → get t 2 = .p b 0 → RunX (ctx Tryz.prog G0 [(141, rSameC), (52, rSchemeC), (53, rLowerC), (263, rHostPartC), (117, rDigitC), (118, rHasC)]) P k .r t h)
    {t : Tm} (t0 : get t 0 = .s s) (t2 : get t 2 = .p b 0) (t4 : get t 4 = d4) (t6 : get t 6 = .i .i64 0) : Run (ctx Tryz.prog G0 [(141, rSameC), (52, rSchemeC), (53, rLowerC), (263, rHostPartC), (117, rDigitC), (118, rHasC)]) P (.again srcB :: k) t h := by
  have hsame : h.set b ⟨2, true, [.i .i64 0, .s [], .s [], .s [], .s []]⟩ = h := set_same hb hg
  have hg' : hget h b = ⟨2, true, [.i .i64 0, .s [], .s [], .s [], .s []]⟩ := hg
  refine run_inv _ _ _ _ _ (fun (i : Nat) t h1 => i ≤ s.length ∧ get t 0 = .s s ∧ get t 2 = .p b 0 ∧ get t 4 = d4 ∧ get t 6 = .i .i64 i ∧ pathOk (s.drop i) = pathOk s ∧ h1 = h) (fun i => s.length - i) _ (x := 0) ⟨by simp, t0, t2, t4, t6, rfl, rfl⟩ ?_
  clear t0 t2 t4 t6
  rintro i t h1 ⟨hi, t0, t2, t4, t6, hd, rfl⟩ ih
  have hi6 : i < 1152921504606846976 := by omega
  by_cases hlt : i < s.length
  · obtain ⟨d, hc⟩ : ∃ d, s[i] = d := ⟨_, rfl⟩
    rw [List.drop_eq_getElem_cons hlt, hc, pathOk_cons] at hd
    have bad : pathC d = false → pathOk s = false := fun e => by rw [← hd, e]; rfl
    by_cases c1 : d < 33
    · simp -implicitDefEqProofs [go_sem, srcB, loopAt, loopL, Tryz.f209, t0, t2, t6, hlt, hc, c1, hb, hg', hsame]
      exact hr _ (bad (by simp [pathC]; omega)) (by simp -implicitDefEqProofs [go_sem, t2])
    · by_cases c2 : 126 < d
      · simp -implicitDefEqProofs [go_sem, srcB, loopAt, loopL, Tryz.f209, t0, t2, t6, hlt, hc, c1, c2, hb, hg', hsame]
        exact hr _ (bad (by simp [pathC]; omega)) (by simp -implicitDefEqProofs [go_sem, t2])
      · by_cases c3 : d ∈ [63, 35, 59, 44]
        · simp -implicitDefEqProofs [go_sem, srcB, loopAt, loopL, Tryz.f209, t0, t2, t6, hlt, hc, c1, c2, rHasC, -List.mem_cons, c3, hb, hg', hsame]
          exact hr _ (bad (by rw [pathC, decide_eq_true c3]; simp)) (by simp -implicitDefEqProofs [go_sem, t2])
        · have good : pathC d = true := by rw [pathC, decide_eq_false c3]; simp; omega
          rw [good, Bool.true_and] at hd
          simp -implicitDefEqProofs [go_sem, srcB, loopAt, loopL, Tryz.f209, t0, t2, t6, hlt, hc, c1, c2, rHasC, -List.mem_cons, c3]
          refine ih (i + 1) _ _ (by omega) ⟨hlt, ?_⟩
          simp -implicitDefEqProofs [go_sem, t0, t2, t4, t6, i64_n hi6, hd]
  · rw [List.drop_eq_nil_of_le (by omega)] at hd
    simp -implicitDefEqProofs [go_sem, srcB, loopAt, loopL, Tryz.f209, t0, t6, hlt]
    refine hx _ hd.symm ?_ ?_ ?_ <;> simp -implicitDefEqProofs [go_sem, t0, t2, t4]
def rSourceC : Ct := fun args h => match args with | [.s l] => if l.length ≤ 1048576 then some ((srcL l).V, h) else none | _ => none
theorem Expr5.flat (e : Expr5) (m : Nat) : renV id e.V = e.V ∧ bndV m e.V := by simp [Expr5.V, Expr5.cells, renV, bndV, renL, bndL]
theorem rSource_ok : CtOk Tryz.prog G0 209 rSourceC := by
  refine ct_plain (n := 1) fol (sound_cons rSame_ok (sound_cons rScheme_ok (sound_cons rLower_ok (sound_cons rHostPart_ok (sound_cons rDigit_ok (sound_cons rHas_ok sound_nil)))))) (by kernel_rfl) Tryz.func209 rfl fun args h v h' hc r xs H hr hx => ?_
  unfold rSourceC at hc; split at hc <;> (try split at hc) <;> cases hc
  rename_i l hl
  obtain ⟨⟨hs, _⟩, _⟩ := str_of hx
  refine ⟨rfl, rfl, Expr5.flat _ _, ?_⟩
  simp only [Tryz.f209, run_seq]
  generalize hK7 : (Code.region 7 _ _).seq _ = K7
  have st7 : ∀ (t : Tm) (h1 : Heap), get t 0 = .s l → get t 2 = .p h.length 0 → h1 = h ++ [exprBk exprZ] → Run (ctx Tryz.prog G0 [(141, rSameC), (52, rSchemeC), (53, rLowerC), (263, rHostPartC), (117, rDigitC), (118, rHasC)]) (Fini (ctx Tryz.prog G0 [(141, rSameC), (52, rSchemeC), (53, rLowerC), (263, rHostPartC), (117, rDigitC), (118, rHasC)]) [ResultVar.cell 2 261] fun v' h1 => v' = (src1 l).V ∧ Ext h h1) [.c K7] t h1 := by
    subst hK7
    intro t h1 t0 t2 hh
    have hl1 : h1.length = h.length + 1 := by rw [hh]; simp
    have hg0 : hget h1 h.length = exprBk exprZ := by rw [hh, hget_at0 rfl]; rfl
    have hE : Ext h h1 := by rw [hh]; exact (Ext.refl h).new _
    simp only [run_seq]
    generalize hK14 : (Code.region 14 _ _).seq _ = K14
    have st14 : ∀ (s sch : List Int) (t : Tm) (h2 : Heap), s.length ≤ 1048576 → get t 0 = .s s → get t 2 = .p h.length 0 → get t 4 = .p (h.length + 1) 0 → h2.length = h.length + 2 → hget h2 h.length = exprBk exprZ → hget h2 (h.length + 1) = exprBk ⟨4, sch, [], [], []⟩ → Ext h h2 → Run (ctx Tryz.prog G0 [(141, rSameC), (52, rSchemeC), (53, rLowerC), (263, rHostPartC), (117, rDigitC), (118, rHasC)]) (Fini (ctx Tryz.prog G0 [(141, rSameC), (52, rSchemeC), (53, rLowerC), (263, rHostPartC), (117, rDigitC), (118, rHasC)]) [ResultVar.cell 2 261] fun v' h1 => v' = (src2 sch s).V ∧ Ext h h1) [.c K14] t h2 := by
      subst hK14
      clear t0 t2 hh hl1 hg0 hE
      intro s sch t h2 hsl t0 t2 t4 hl1 hg0 hg1 hE
      have same0 : h2.set h.length ⟨2, true, [.i .i64 0, .s [], .s [], .s [], .s []]⟩ = h2 := set_same (by omega) hg0
      simp only [run_seq]
      generalize hK29 : ((Code.region 29 _ _).seq _).seq _ = K29
      have st29 : ∀ (s ho po : List Int) (t : Tm) (h2 : Heap), s.length ≤ 1048576 → get t 0 = .s s → get t 2 = .p h.length 0 → get t 4 = .p (h.length + 1) 0 → h2.length = h.length + 2 → hget h2 h.length = exprBk exprZ → hget h2 (h.length + 1) = exprBk ⟨4, sch, ho, po, []⟩ → Ext h h2 → Run (ctx Tryz.prog G0 [(141, rSameC), (52, rSchemeC), (53, rLowerC), (263, rHostPartC), (117, rDigitC), (118, rHasC)]) (Fini (ctx Tryz.prog G0 [(141, rSameC), (52, rSchemeC), (53, rLowerC), (263, rHostPartC), (117, rDigitC), (118, rHasC)]) [ResultVar.cell 2 261] fun v' h1 => v' = (src4 sch ho po s).V ∧ Ext h h1) [.c K29] t h2 := by
        subst hK29
        clear same0 t0 t2 t4 hl1 hg0 hg1 hE hsl
        intro s ho po t h2 hsl t0 t2 t4 hl1 hg0 hg1 hE
        have same0 : h2.set h.length ⟨2, true, [.i .i64 0, .s [], .s [], .s [], .s []]⟩ = h2 := set_same (by omega) hg0
        have lp : ∀ (k : List Todo) (P : Ex → Tm → Heap → Prop) (t : Tm), get t 0 = .s s → get t 2 = .p h.length 0 → get t 4 = .p (h.length + 1) 0 → get t 6 = .i .i64 0 → (∀ t, pathOk s = true → get t 0 = .s s → get t 2 = .p h.length 0 → get t 4 = .p (h.length + 1) 0 → RunX (ctx Tryz.prog G0 [(141, rSameC), (52, rSchemeC), (53, rLowerC), (263, rHostPartC), (117, rDigitC), (118, rHasC)]) P k (.e 3) t h2) → (∀ t, pathOk s = false → get t 2 = .p h.length 0 → RunX (ctx Tryz.prog G0 [(141, rSameC), (52, rSchemeC), (53, rLowerC), (263, rHostPartC), (117, rDigitC), (118, rHasC)]) P k .r t h2) → Run (ctx Tryz.prog G0 [(141, rSameC), (52, rSchemeC), (53, rLowerC), (263, rHostPartC), (117, rDigitC), (118, rHasC)]) P (.again srcB :: k) t h2 := fun k P t a b c d e f => srcB_ok hsl (by omega) hg0 e f a b c d
        rcases hs0 : s with _ | ⟨c, r⟩
        · rw [hs0] at t0 lp
          have hres : src4 sch ho po [] = ⟨4, sch, ho, po, []⟩ := by simp [src4, pathOk]
          simp -implicitDefEqProofs [go_sem, t0]
          refine lp _ _ _ ?_ ?_ ?_ ?_ ?_ ?_
          · simp -implicitDefEqProofs [go_sem, t0]
          · simp -implicitDefEqProofs [go_sem, t2]
          · simp -implicitDefEqProofs [go_sem, t4]
          · simp -implicitDefEqProofs [go_sem]
          · intro t _ t0 t2 t4
            simp -implicitDefEqProofs [go_sem, t0, t2, t4, hg0, hg1, hl1, hget_set, exprBk, Expr5.cells, exprZ, Expr5.V, hres, hE, Ext.set]
          · intro t e; simp [pathOk] at e
        · rw [hs0] at t0 lp
          have k1 : (0 : Int) < (r.length : Int) + 1 := by omega
          by_cases c1 : c = 47
          · simp -implicitDefEqProofs [go_sem, t0, eq_true c1, k1]
            refine lp _ _ _ ?_ ?_ ?_ ?_ ?_ ?_
            · simp -implicitDefEqProofs [go_sem, t0]
            · simp -implicitDefEqProofs [go_sem, t2]
            · simp -implicitDefEqProofs [go_sem, t4]
            · simp -implicitDefEqProofs [go_sem]
            · intro t e t0 t2 t4
              have hres : src4 sch ho po (c :: r) = ⟨4, sch, ho, po, c :: r⟩ := by unfold src4; rw [if_neg (by simp [c1]), e, if_pos rfl]
              simp -implicitDefEqProofs [go_sem, t0, t2, t4, hg0, hg1, hl1, hget_set, exprBk, Expr5.cells, exprZ, Expr5.V, hres, hE, Ext.set]
            · intro t e t2
              have hres : src4 sch ho po (c :: r) = exprZ := by unfold src4; rw [if_neg (by simp [c1]), e, if_neg (by simp)]
              simp -implicitDefEqProofs [go_sem, t2, hg0, hl1, exprBk, Expr5.cells, exprZ, Expr5.V, hres, hE]
          · have hres : src4 sch ho po (c :: r) = exprZ := by unfold src4; rw [if_pos (by simp [c1])]
            simp -implicitDefEqProofs [go_sem, t0, t2, c1, k1, hg0, hl1, exprBk, Expr5.cells, exprZ, Expr5.V, hres, hE, same0]
      obtain ⟨n, hn⟩ : ∃ n, hostPartN s = n := ⟨_, rfl⟩
      have hnl : n ≤ s.length := by rw [← hn]; exact hostPartN_le s
      have hnl' : (n : Int) ≤ s.length := by omega
      have hn7 : n ≤ 1048576 := by omega
      unfold src2
      rw [hn]
      by_cases c1 : n = 0
      · rw [if_pos c1]
        simp -implicitDefEqProofs [go_sem, t0, t2, rHostPartC, hn, eq_true c1, hg0, hl1, exprBk, Expr5.cells, exprZ, Expr5.V, hE, same0]
      rw [if_neg c1]
      obtain ⟨ho, hho⟩ : ∃ ho, lowerL (s.take n) = ho := ⟨_, rfl⟩
      obtain ⟨w, hw⟩ : ∃ w, s.drop n = w := ⟨_, rfl⟩
      have hwl : w.length ≤ 1048576 := by rw [← hw]; simp; omega
      rw [hho, hw]
      rcases hw0 : w with _ | ⟨c, r⟩
      · rw [hw0] at hw
        rw [src3]
        simp -implicitDefEqProofs [go_sem, t0, t2, t4, rHostPartC, hn, c1, hnl, hnl', hn7, rLowerC, hho, hw, hg1, hl1, exprBk, Expr5.cells]
        refine st29 [] ho [] _ _ (by simp) ?_ ?_ ?_ ?_ ?_ ?_ ?_
        all_goals simp -implicitDefEqProofs [go_sem, t0, t2, t4, hl1, hget_set, hg0, hg1, exprBk, Expr5.cells, hE, Ext.set]
      · rw [hw0] at hw hwl
        have k1 : (0 : Int) < (r.length : Int) + 1 := by omega
        simp at hwl
        by_cases c2 : c = 58
        · rw [src3, if_pos c2]
          rcases hr0 : r with _ | ⟨d, q⟩
          · rw [hr0] at hw
            rw [if_neg (by simp), if_pos (by simp [cntL])]
            simp -implicitDefEqProofs [go_sem, t0, t2, t4, rHostPartC, hn, c1, hnl, hnl', hn7, rLowerC, hho, hw, hg1, hl1, exprBk, Expr5.cells, eq_true c2]
            refine srcA_ok (s := [c]) (d2 := .p h.length 0) (d4 := .p (h.length + 1) 0) (by simp) (by simp) ?_ ?_ ?_ ?_ ?_
            · intro t t0 t2 t4 t5
              simp [cntL] at t5
              simp -implicitDefEqProofs [go_sem, t5, t2, hl1, hg0, exprBk, Expr5.cells, exprZ, Expr5.V, hE, hget_set, Ext.set]
            all_goals simp -implicitDefEqProofs [go_sem, t0, t2, t4]
          · rw [hr0] at hw hwl
            simp at hwl
            have k2 : (1 : Int) < (q.length : Int) + 1 + 1 := by omega
            have k3 : (0 : Int) < (q.length : Int) + 1 + 1 := by omega
            have k4 : (2 : Int) ≤ (q.length : Int) + 1 + 1 := by omega
            by_cases c3 : d = 42
            · rw [if_pos (by rw [c3]; rfl)]
              simp -implicitDefEqProofs [go_sem, t0, t2, t4, rHostPartC, hn, c1, hnl, hnl', hn7, rLowerC, hho, hw, hg1, hl1, exprBk, Expr5.cells, eq_true c2, eq_true c3, k2, k3, k4, hget_set]
              refine st29 q ho [42] _ _ (by omega) ?_ ?_ ?_ ?_ ?_ ?_ ?_
              all_goals simp -implicitDefEqProofs [go_sem, t0, t2, t4, hl1, hget_set, hg0, hg1, exprBk, Expr5.cells, hE, Ext.set, c3]
            · rw [if_neg (by simp [c3])]
              simp -implicitDefEqProofs [go_sem, t0, t2, t4, rHostPartC, hn, c1, hnl, hnl', hn7, rLowerC, hho, hw, hg1, hl1, exprBk, Expr5.cells, eq_true c2, c3, k2, k3, k4, hget_set]
              obtain ⟨x, hx0⟩ : ∃ x, cntL digitB (d :: q) = x := ⟨_, rfl⟩
              have hxl : x ≤ q.length + 1 := by rw [← hx0]; exact cntL_le _ _
              have x1 : (x : Int) ≤ (q.length : Int) + 1 := by omega
              rw [hx0]
              refine srcA_ok (s := c :: d :: q) (d2 := .p h.length 0) (d4 := .p (h.length + 1) 0) (by simp; omega) (by simp) ?_ ?_ ?_ ?_ ?_
              · intro t t0 t2 t4 t5
                rw [List.tail_cons, hx0] at t5
                by_cases e1 : x = 0
                · rw [if_pos (.inl e1)]
                  rw [e1] at t5
                  simp at t5
                  simp -implicitDefEqProofs [go_sem, t5, t2, hl1, hg0, exprBk, Expr5.cells, exprZ, Expr5.V, hE, hget_set, Ext.set]
                · obtain ⟨y, rfl⟩ : ∃ y, x = y + 1 := ⟨x - 1, by omega⟩
                  have e3 : ((1 + (y + 1) : Nat) : Int) = (y : Int) + 2 := by omega
                  rw [e3] at t5
                  have e4 : ((y : Int) + 2 = 1) = False := eq_false (by omega)
                  by_cases e2 : 5 < y + 1
                  · rw [if_pos (.inr e2)]
                    have e5 : (6 : Int) < (y : Int) + 2 := by omega
                    simp -implicitDefEqProofs [go_sem, t5, t2, e4, e5, hl1, hg0, exprBk, Expr5.cells, exprZ, Expr5.V, hE, hget_set, Ext.set]
                  · rw [if_neg (by omega)]
                    have e5 : ¬ (6 : Int) < (y : Int) + 2 := by omega
                    have e6 : (1 : Int) ≤ (y : Int) + 2 := by omega
                    have e7 : (y : Int) + 2 ≤ (q.length : Int) + 1 + 1 := by omega
                    have e8 : ((y : Int) + 2).toNat = y + 2 := by omega
                    have e9 : (0 : Int) ≤ (y : Int) + 2 := by omega
                    simp -implicitDefEqProofs [go_sem, t0, t2, t4, t5, e4, e5, e6, e7, e8, e9, hl1, hg0, hg1, exprBk, Expr5.cells, hget_set]
                    refine st29 ((d :: q).drop (y + 1)) ho ((d :: q).take (y + 1)) _ _ (by simp; omega) ?_ ?_ ?_ ?_ ?_ ?_ ?_
                    all_goals simp -implicitDefEqProofs [go_sem, t0, t2, t4, hl1, hget_set, hg0, hg1, exprBk, Expr5.cells, hE, Ext.set]
              all_goals simp -implicitDefEqProofs [go_sem, t0, t2, t4]
        · rw [src3, if_neg c2]
          simp -implicitDefEqProofs [go_sem, t0, t2, t4, rHostPartC, hn, c1, hnl, hnl', hn7, rLowerC, hho, hw, hg1, hl1, exprBk, Expr5.cells, c2, k1]
          refine st29 (c :: r) ho [] _ _ (by simp; omega) ?_ ?_ ?_ ?_ ?_ ?_ ?_
          all_goals simp -implicitDefEqProofs [go_sem, t0, t2, t4, hl1, hget_set, hg0, hg1, exprBk, Expr5.cells, hE, Ext.set]
    obtain ⟨k, hk⟩ : ∃ k, schemeN l = k := ⟨_, rfl⟩
    have hkl : k ≤ l.length := by rw [← hk]; exact schemeN_le l
    have hkl' : (k : Int) ≤ l.length := by omega
    have hk7 : k ≤ 1048576 := by omega
    have hk6 : k < 1152921504606846976 := by omega
    unfold src1
    rw [hk]
    obtain ⟨sch, hsch⟩ : ∃ sch, lowerL (l.take k) = sch := ⟨_, rfl⟩
    rw [hsch]
    by_cases c1 : 0 < k
    · have c1' : (0 : Int) < k := by omega
      by_cases c2 : k + 1 = l.length
      · rw [if_pos ⟨c1, c2⟩]
        have c2' : ((k : Int) + 1 = l.length) = True := eq_true (by omega)
        simp -implicitDefEqProofs [go_sem, t0, t2, rSchemeC, hk, c1, c1', eq_true c2, c2', i64_n hk6, hkl, hkl', hk7, rLowerC, hsch, hl1, hg0, exprBk, Expr5.cells, exprZ, Expr5.V, hE, hget_set, Ext.set]
      · rw [if_neg fun e => c2 e.2]
        have c2' : ((k : Int) + 1 = l.length) = False := eq_false (by omega)
        by_cases c3 : k + 3 ≤ l.length
        · have c3' : (k : Int) + 3 ≤ l.length := by omega
          have c5 : k + 3 - k = 3 := by omega
          have c6 : (k : Int) ≤ (k : Int) + 3 := by omega
          obtain ⟨x, hx0⟩ : ∃ x, (l.drop k).take 3 = x := ⟨_, rfl⟩
          rw [hx0]
          by_cases c4 : x = [58, 47, 47]
          · rw [if_pos ⟨c1, c4⟩]
            simp -implicitDefEqProofs [go_sem, t0, t2, rSchemeC, hk, c1, c1', c2, c2', c3, c3', c5, c6, hx0, eq_true c4, i64_n hk6, w64 (x := (k : Int) + 3) (by omega), hkl, hkl', hk7, rLowerC, hsch, hl1, hg0, exprBk, Expr5.cells, exprZ, hget_set]
            refine st14 (l.drop (k + 3)) sch _ _ (by simp; omega) ?_ ?_ ?_ ?_ ?_ ?_ ?_
            all_goals simp -implicitDefEqProofs [go_sem, t0, t2, hl1, hget_set, hg0, exprBk, Expr5.cells, exprZ, hE, Ext.set]
          · rw [if_neg fun e => c4 e.2]
            simp -implicitDefEqProofs [go_sem, t0, t2, rSchemeC, hk, c1, c1', c2, c2', c3, c3', c5, c6, hx0, c4, i64_n hk6, w64 (x := (k : Int) + 3) (by omega), hkl, hkl', hl1, hg0, exprBk, Expr5.cells, exprZ, hget_set]
            refine st14 l [] _ _ hl ?_ ?_ ?_ ?_ ?_ ?_ ?_
            all_goals simp -implicitDefEqProofs [go_sem, t0, t2, hl1, hget_set, hg0, exprBk, Expr5.cells, exprZ, hE, Ext.set]
        · rw [if_neg fun e => c3 (by have := congrArg List.length e.2; simp at this; omega)]
          have c3' : ¬ (k : Int) + 3 ≤ l.length := by omega
          simp -implicitDefEqProofs [go_sem, t0, t2, rSchemeC, hk, c1, c1', c2, c2', c3, c3', i64_n hk6, w64 (x := (k : Int) + 3) (by omega), hkl, hkl', hl1, hg0, exprBk, Expr5.cells, exprZ, hget_set]
          refine st14 l [] _ _ hl ?_ ?_ ?_ ?_ ?_ ?_ ?_
          all_goals simp -implicitDefEqProofs [go_sem, t0, t2, hl1, hget_set, hg0, exprBk, Expr5.cells, exprZ, hE, Ext.set]
    · rw [if_neg fun e => c1 e.1, if_neg fun e => c1 e.1]
      have c1' : ¬ (0 : Int) < k := by omega
      simp -implicitDefEqProofs [go_sem, t0, t2, rSchemeC, hk, c1, c1', hl1, hg0, exprBk, Expr5.cells, exprZ, hget_set]
      refine st14 l [] _ _ hl ?_ ?_ ?_ ?_ ?_ ?_ ?_
      all_goals simp -implicitDefEqProofs [go_sem, t0, t2, hl1, hget_set, hg0, exprBk, Expr5.cells, exprZ, hE, Ext.set]
  obtain ⟨R, hR⟩ : ∃ R, srcL l = R := ⟨_, rfl⟩
  rw [hR]
  unfold srcL at hR
  by_cases c1 : l = [42]
  · rw [if_pos c1] at hR
    subst hR
    simp -implicitDefEqProofs [go_sem, eq_true c1, Expr5.V, Expr5.cells]
  rw [if_neg c1] at hR
  by_cases c2 : lowerL l = [39, 115, 101, 108, 102, 39]
  · rw [if_pos c2] at hR
    subst hR
    have c2' : (lowerL l = lowerL [39, 115, 101, 108, 102, 39]) = True := eq_true (by rw [c2]; rfl)
    simp -implicitDefEqProofs [go_sem, c1, rSameC, hl, c2', Expr5.V, Expr5.cells]
  rw [if_neg c2] at hR
  have c2' : (lowerL l = lowerL [39, 115, 101, 108, 102, 39]) = False := eq_false (by rw [show lowerL [39, 115, 101, 108, 102, 39] = [39, 115, 101, 108, 102, 39] from rfl]; exact c2)
  by_cases c3 : 2 ≤ l.length
  · have c3' : (2 : Int) ≤ l.length := by omega
    have c4 : 0 < l.length := by omega
    have c4' : (0 : Int) < l.length := by omega
    obtain ⟨a, ha⟩ : ∃ a, l[0] = a := ⟨_, rfl⟩
    obtain ⟨n, hn⟩ : ∃ n, l.length = n + 1 := ⟨l.length - 1, by omega⟩
    have hn1 : n < l.length := by omega
    obtain ⟨z, hz⟩ : ∃ z, l[n] = z := ⟨_, rfl⟩
    have hhd : l.head? = some a := by rw [List.head?_eq_getElem?, List.getElem?_eq_getElem c4, ha]
    have hla : l.getLast? = some z := by rw [List.getLast?_eq_getElem?, hn, Nat.add_sub_cancel, List.getElem?_eq_getElem hn1, hz]
    have hn2 : (l.length : Int) - 1 = n := by omega
    have hn3 : (n : Int) < l.length := by omega
    rw [hhd, hla] at hR
    by_cases c5 : a = 39
    · by_cases c6 : z = 39
      · rw [if_pos ⟨c3, by rw [c5], by rw [c6]⟩] at hR
        subst hR
        simp -implicitDefEqProofs [go_sem, c1, rSameC, hl, c2', c3, c3', c4, c4', ha, eq_true c5, hn2, hn3, hn1, hz, eq_true c6, w64 (x := (n : Int)) (by omega), Expr5.V, Expr5.cells]
      · rw [if_neg (by simp [c6])] at hR
        subst hR
        simp -implicitDefEqProofs [go_sem, c1, rSameC, hl, c2', c3, c3', c4, c4', ha, eq_true c5, hn2, hn3, hn1, hz, c6, w64 (x := (n : Int)) (by omega)]
        exact st7 _ _ (by simp -implicitDefEqProofs [go_sem]) (by simp -implicitDefEqProofs [go_sem]) (by simp [exprBk, Expr5.cells, exprZ])
    · rw [if_neg (by simp [c5])] at hR
      subst hR
      simp -implicitDefEqProofs [go_sem, c1, rSameC, hl, c2', c3, c3', c4, c4', ha, c5]
      exact st7 _ _ (by simp -implicitDefEqProofs [go_sem]) (by simp -implicitDefEqProofs [go_sem]) (by simp [exprBk, Expr5.cells, exprZ])
  · rw [if_neg fun e => c3 e.1] at hR
    subst hR
    have c3' : ¬ (2 : Int) ≤ l.length := by omega
    simp -implicitDefEqProofs [go_sem, c1, rSameC, hl, c2', c3, c3']
    exact st7 _ _ (by simp -implicitDefEqProofs [go_sem]) (by simp -implicitDefEqProofs [go_sem]) (by simp [exprBk, Expr5.cells, exprZ])
end GoD

/-! Whether an expression matches a URL, as the document says. -/
namespace GoD
open Go Go.Proofs
set_option linter.unusedVariables false
set_option linter.unusedSimpArgs false
set_option maxHeartbeats 4000000
set_option maxRecDepth 100000
def httpT : List Int := [104, 116, 116, 112]
def httpsT : List Int := [104, 116, 116, 112, 115]
def wsT : List Int := [119, 115]
def wssT : List Int := [119, 115, 115]
def ownB (us uh : List Int) (up : Int) (os oh : List Int) (op : Int) : Bool :=
  (decide (os = us) && decide (oh = uh) && decide (op = portL us up) && !oNull os oh op) ||
  (!oNull os oh op && decide (oh = uh) && (decide (op = portL us up) || (normalB os op && normalB us (portL us up))) && (decide (us = httpsT) || decide (us = wssT) || (decide (os = httpT) && decide (us = wsT))))
def namedB (e : Expr5) (us uh : List Int) (up : Int) (path os oh : List Int) (op rd : Int) : Bool :=
  (if e.sch = [] then oNull os oh op || schemeB os us else schemeB e.sch us) && hostB e.ho uh && portB e.po us up && (decide (rd ≠ 0) || pathB e.pa path)
def matchB (e : Expr5) (us uh : List Int) (up : Int) (path os oh : List Int) (op rd : Int) : Bool :=
  if e.kind = 1 then decide (us ∈ [httpT, httpsT, wsT, wssT]) || decide (us = os) else if e.kind = 2 then ownB us uh up os oh op
  else if e.kind = 3 then schemeB e.sch us else if e.kind = 4 then namedB e us uh up path os oh op rd else false
def portQ (l : List Int) : Prop := l = [] ∨ l = [42] ∨ portP l = true
instance (l : List Int) : Decidable (portQ l) := by unfold portQ; exact inferInstance
def rMatchC : Ct := fun args h => match args with
  | [.agg [.i .i64 k, .s es, .s eh, .s ep, .s ea], .agg [.s a, .s b, .s c, .s d, .i .i64 p, .s e, .b q, .s f, .b g, .s x], .agg [.s os, .s oh, .i .i64 op], .i .i64 rd] =>
    if portQ ep ∧ d.length ≤ 1048576 ∧ e.length ≤ 1048576 ∧ ea.length ≤ 1048576 then some (.b (matchB ⟨k, es, eh, ep, ea⟩ a d p e os oh op rd), h) else none
  | _ => none
theorem oNull_eq (a b : List Int) (p : Int) : (a.isEmpty && (b.isEmpty && decide (p = 0))) = oNull a b p := by cases a <;> cases b <;> simp [oNull]
theorem rMatch_ok : CtOk Tryz.prog G0 208 rMatchC := by
  refine ct_plain (n := 4) fol (sound_cons rOf_ok (sound_cons rIn_ok (sound_cons rOSame_ok (sound_cons rNormal_ok (sound_cons rSchemeMatch_ok (sound_cons rHostMatch_ok (sound_cons rPortMatch_ok (sound_cons rPathMatch_ok sound_nil)))))))) (by kernel_rfl) Tryz.func208 rfl fun args h v h' hc r xs H hr hx => ?_
  unfold rMatchC at hc; split at hc <;> (try split at hc) <;> cases hc
  rename_i k es eh ep ea a b c d p e q f g x os oh op rd hl
  obtain ⟨hep, hdl, hel, heal⟩ := hl
  refine ⟨rfl, rfl, by simp [renV, bndV, renL, bndL], ?_⟩
  have hep0 : (ep = [] ∨ ep = [42] ∨ portP ep = true) = True := eq_true hep
  have zz := oNull_eq os oh op
  by_cases k1 : k = 1
  · by_cases m1 : a ∈ [[104, 116, 116, 112], [104, 116, 116, 112, 115], [119, 115], [119, 115, 115]]
    · simp -implicitDefEqProofs [go_sem, Tryz.f208, rOfC, rInC, rOSameC, rNormalC, rSchemeMatchC, rHostMatchC, rPortMatchC, rPathMatchC, strsAt, strsV, hget_new, matchB, namedB, ownB, httpT, httpsT, wsT, wssT, hdl, hel, heal, hep0, zz, -List.mem_cons, eq_true k1, eq_true m1]
    · by_cases m2 : a = os
      · simp -implicitDefEqProofs [go_sem, Tryz.f208, rOfC, rInC, rOSameC, rNormalC, rSchemeMatchC, rHostMatchC, rPortMatchC, rPathMatchC, strsAt, strsV, hget_new, matchB, namedB, ownB, httpT, httpsT, wsT, wssT, hdl, hel, heal, hep0, zz, -List.mem_cons, eq_true k1, m1, eq_true m2]
      · simp -implicitDefEqProofs [go_sem, Tryz.f208, rOfC, rInC, rOSameC, rNormalC, rSchemeMatchC, rHostMatchC, rPortMatchC, rPathMatchC, strsAt, strsV, hget_new, matchB, namedB, ownB, httpT, httpsT, wsT, wssT, hdl, hel, heal, hep0, zz, -List.mem_cons, eq_true k1, m1, m2]
  · by_cases k2 : k = 2
    · cases s1 : (decide (os = a) && decide (oh = d) && decide (op = portL a p) && !oNull os oh op) with
      | true =>
        simp -implicitDefEqProofs [go_sem, Tryz.f208, rOfC, rInC, rOSameC, rNormalC, rSchemeMatchC, rHostMatchC, rPortMatchC, rPathMatchC, strsAt, strsV, hget_new, matchB, namedB, ownB, httpT, httpsT, wsT, wssT, hdl, hel, heal, hep0, zz, -List.mem_cons, k1, eq_true k2, s1]
      | false =>
        cases z1 : oNull os oh op with
        | true =>
          simp -implicitDefEqProofs [go_sem, Tryz.f208, rOfC, rInC, rOSameC, rNormalC, rSchemeMatchC, rHostMatchC, rPortMatchC, rPathMatchC, strsAt, strsV, hget_new, matchB, namedB, ownB, httpT, httpsT, wsT, wssT, hdl, hel, heal, hep0, zz, -List.mem_cons, k1, eq_true k2, s1, z1]
        | false =>
          by_cases h1 : oh = d
          · by_cases p1 : op = portL a p
            · by_cases a1 : a = [104, 116, 116, 112, 115]
              · simp -implicitDefEqProofs [go_sem, Tryz.f208, rOfC, rInC, rOSameC, rNormalC, rSchemeMatchC, rHostMatchC, rPortMatchC, rPathMatchC, strsAt, strsV, hget_new, matchB, namedB, ownB, httpT, httpsT, wsT, wssT, hdl, hel, heal, hep0, zz, -List.mem_cons, k1, eq_true k2, s1, z1, eq_true h1, eq_true p1, eq_true a1]
              · by_cases a2 : a = [119, 115, 115]
                · simp -implicitDefEqProofs [go_sem, Tryz.f208, rOfC, rInC, rOSameC, rNormalC, rSchemeMatchC, rHostMatchC, rPortMatchC, rPathMatchC, strsAt, strsV, hget_new, matchB, namedB, ownB, httpT, httpsT, wsT, wssT, hdl, hel, heal, hep0, zz, -List.mem_cons, k1, eq_true k2, s1, z1, eq_true h1, eq_true p1, a1, eq_true a2]
                · by_cases o1 : os = [104, 116, 116, 112]
                  · by_cases a3 : a = [119, 115]
                    · simp -implicitDefEqProofs [go_sem, Tryz.f208, rOfC, rInC, rOSameC, rNormalC, rSchemeMatchC, rHostMatchC, rPortMatchC, rPathMatchC, strsAt, strsV, hget_new, matchB, namedB, ownB, httpT, httpsT, wsT, wssT, hdl, hel, heal, hep0, zz, -List.mem_cons, k1, eq_true k2, s1, z1, eq_true h1, eq_true p1, a1, a2, eq_true o1, eq_true a3]
                    · simp -implicitDefEqProofs [go_sem, Tryz.f208, rOfC, rInC, rOSameC, rNormalC, rSchemeMatchC, rHostMatchC, rPortMatchC, rPathMatchC, strsAt, strsV, hget_new, matchB, namedB, ownB, httpT, httpsT, wsT, wssT, hdl, hel, heal, hep0, zz, -List.mem_cons, k1, eq_true k2, s1, z1, eq_true h1, eq_true p1, a1, a2, eq_true o1, a3]
                  · simp -implicitDefEqProofs [go_sem, Tryz.f208, rOfC, rInC, rOSameC, rNormalC, rSchemeMatchC, rHostMatchC, rPortMatchC, rPathMatchC, strsAt, strsV, hget_new, matchB, namedB, ownB, httpT, httpsT, wsT, wssT, hdl, hel, heal, hep0, zz, -List.mem_cons, k1, eq_true k2, s1, z1, eq_true h1, eq_true p1, a1, a2, o1]
            · cases n1 : normalB os op with
              | true =>
                cases n2 : normalB a (portL a p) with
                | true =>
                  by_cases a1 : a = [104, 116, 116, 112, 115]
                  · simp -implicitDefEqProofs [go_sem, Tryz.f208, rOfC, rInC, rOSameC, rNormalC, rSchemeMatchC, rHostMatchC, rPortMatchC, rPathMatchC, strsAt, strsV, hget_new, matchB, namedB, ownB, httpT, httpsT, wsT, wssT, hdl, hel, heal, hep0, zz, -List.mem_cons, k1, eq_true k2, s1, z1, eq_true h1, p1, n1, n2, eq_true a1]
                  · by_cases a2 : a = [119, 115, 115]
                    · simp -implicitDefEqProofs [go_sem, Tryz.f208, rOfC, rInC, rOSameC, rNormalC, rSchemeMatchC, rHostMatchC, rPortMatchC, rPathMatchC, strsAt, strsV, hget_new, matchB, namedB, ownB, httpT, httpsT, wsT, wssT, hdl, hel, heal, hep0, zz, -List.mem_cons, k1, eq_true k2, s1, z1, eq_true h1, p1, n1, n2, a1, eq_true a2]
                    · by_cases o1 : os = [104, 116, 116, 112]
                      · by_cases a3 : a = [119, 115]
                        · simp -implicitDefEqProofs [go_sem, Tryz.f208, rOfC, rInC, rOSameC, rNormalC, rSchemeMatchC, rHostMatchC, rPortMatchC, rPathMatchC, strsAt, strsV, hget_new, matchB, namedB, ownB, httpT, httpsT, wsT, wssT, hdl, hel, heal, hep0, zz, -List.mem_cons, k1, eq_true k2, s1, z1, eq_true h1, p1, n1, n2, a1, a2, eq_true o1, eq_true a3]
                        · simp -implicitDefEqProofs [go_sem, Tryz.f208, rOfC, rInC, rOSameC, rNormalC, rSchemeMatchC, rHostMatchC, rPortMatchC, rPathMatchC, strsAt, strsV, hget_new, matchB, namedB, ownB, httpT, httpsT, wsT, wssT, hdl, hel, heal, hep0, zz, -List.mem_cons, k1, eq_true k2, s1, z1, eq_true h1, p1, n1, n2, a1, a2, eq_true o1, a3]
                      · simp -implicitDefEqProofs [go_sem, Tryz.f208, rOfC, rInC, rOSameC, rNormalC, rSchemeMatchC, rHostMatchC, rPortMatchC, rPathMatchC, strsAt, strsV, hget_new, matchB, namedB, ownB, httpT, httpsT, wsT, wssT, hdl, hel, heal, hep0, zz, -List.mem_cons, k1, eq_true k2, s1, z1, eq_true h1, p1, n1, n2, a1, a2, o1]
                | false =>
                  simp -implicitDefEqProofs [go_sem, Tryz.f208, rOfC, rInC, rOSameC, rNormalC, rSchemeMatchC, rHostMatchC, rPortMatchC, rPathMatchC, strsAt, strsV, hget_new, matchB, namedB, ownB, httpT, httpsT, wsT, wssT, hdl, hel, heal, hep0, zz, -List.mem_cons, k1, eq_true k2, s1, z1, eq_true h1, p1, n1, n2]
              | false =>
                simp -implicitDefEqProofs [go_sem, Tryz.f208, rOfC, rInC, rOSameC, rNormalC, rSchemeMatchC, rHostMatchC, rPortMatchC, rPathMatchC, strsAt, strsV, hget_new, matchB, namedB, ownB, httpT, httpsT, wsT, wssT, hdl, hel, heal, hep0, zz, -List.mem_cons, k1, eq_true k2, s1, z1, eq_true h1, p1, n1]
          · simp -implicitDefEqProofs [go_sem, Tryz.f208, rOfC, rInC, rOSameC, rNormalC, rSchemeMatchC, rHostMatchC, rPortMatchC, rPathMatchC, strsAt, strsV, hget_new, matchB, namedB, ownB, httpT, httpsT, wsT, wssT, hdl, hel, heal, hep0, zz, -List.mem_cons, k1, eq_true k2, s1, z1, h1]
    · by_cases k3 : k = 3
      · simp -implicitDefEqProofs [go_sem, Tryz.f208, rOfC, rInC, rOSameC, rNormalC, rSchemeMatchC, rHostMatchC, rPortMatchC, rPathMatchC, strsAt, strsV, hget_new, matchB, namedB, ownB, httpT, httpsT, wsT, wssT, hdl, hel, heal, hep0, zz, -List.mem_cons, k1, k2, eq_true k3]
      · by_cases k4 : k = 4
        · by_cases e1 : es = []
          · cases z1 : oNull os oh op with
            | true =>
              cases h1 : hostB eh d with
              | true =>
                cases p1 : portB ep a p with
                | true =>
                  by_cases r1 : rd = 0
                  · simp -implicitDefEqProofs [go_sem, Tryz.f208, rOfC, rInC, rOSameC, rNormalC, rSchemeMatchC, rHostMatchC, rPortMatchC, rPathMatchC, strsAt, strsV, hget_new, matchB, namedB, ownB, httpT, httpsT, wsT, wssT, hdl, hel, heal, hep0, zz, -List.mem_cons, k1, k2, k3, eq_true k4, eq_true e1, z1, h1, p1, eq_true r1]
                  · simp -implicitDefEqProofs [go_sem, Tryz.f208, rOfC, rInC, rOSameC, rNormalC, rSchemeMatchC, rHostMatchC, rPortMatchC, rPathMatchC, strsAt, strsV, hget_new, matchB, namedB, ownB, httpT, httpsT, wsT, wssT, hdl, hel, heal, hep0, zz, -List.mem_cons, k1, k2, k3, eq_true k4, eq_true e1, z1, h1, p1, r1]
                | false =>
                  simp -implicitDefEqProofs [go_sem, Tryz.f208, rOfC, rInC, rOSameC, rNormalC, rSchemeMatchC, rHostMatchC, rPortMatchC, rPathMatchC, strsAt, strsV, hget_new, matchB, namedB, ownB, httpT, httpsT, wsT, wssT, hdl, hel, heal, hep0, zz, -List.mem_cons, k1, k2, k3, eq_true k4, eq_true e1, z1, h1, p1]
              | false =>
                simp -implicitDefEqProofs [go_sem, Tryz.f208, rOfC, rInC, rOSameC, rNormalC, rSchemeMatchC, rHostMatchC, rPortMatchC, rPathMatchC, strsAt, strsV, hget_new, matchB, namedB, ownB, httpT, httpsT, wsT, wssT, hdl, hel, heal, hep0, zz, -List.mem_cons, k1, k2, k3, eq_true k4, eq_true e1, z1, h1]
            | false =>
              cases s1 : schemeB os a with
              | true =>
                cases h1 : hostB eh d with
                | true =>
                  cases p1 : portB ep a p with
                  | true =>
                    by_cases r1 : rd = 0
                    · simp -implicitDefEqProofs [go_sem, Tryz.f208, rOfC, rInC, rOSameC, rNormalC, rSchemeMatchC, rHostMatchC, rPortMatchC, rPathMatchC, strsAt, strsV, hget_new, matchB, namedB, ownB, httpT, httpsT, wsT, wssT, hdl, hel, heal, hep0, zz, -List.mem_cons, k1, k2, k3, eq_true k4, eq_true e1, z1, s1, h1, p1, eq_true r1]
                    · simp -implicitDefEqProofs [go_sem, Tryz.f208, rOfC, rInC, rOSameC, rNormalC, rSchemeMatchC, rHostMatchC, rPortMatchC, rPathMatchC, strsAt, strsV, hget_new, matchB, namedB, ownB, httpT, httpsT, wsT, wssT, hdl, hel, heal, hep0, zz, -List.mem_cons, k1, k2, k3, eq_true k4, eq_true e1, z1, s1, h1, p1, r1]
                  | false =>
                    simp -implicitDefEqProofs [go_sem, Tryz.f208, rOfC, rInC, rOSameC, rNormalC, rSchemeMatchC, rHostMatchC, rPortMatchC, rPathMatchC, strsAt, strsV, hget_new, matchB, namedB, ownB, httpT, httpsT, wsT, wssT, hdl, hel, heal, hep0, zz, -List.mem_cons, k1, k2, k3, eq_true k4, eq_true e1, z1, s1, h1, p1]
                | false =>
                  simp -implicitDefEqProofs [go_sem, Tryz.f208, rOfC, rInC, rOSameC, rNormalC, rSchemeMatchC, rHostMatchC, rPortMatchC, rPathMatchC, strsAt, strsV, hget_new, matchB, namedB, ownB, httpT, httpsT, wsT, wssT, hdl, hel, heal, hep0, zz, -List.mem_cons, k1, k2, k3, eq_true k4, eq_true e1, z1, s1, h1]
              | false =>
                simp -implicitDefEqProofs [go_sem, Tryz.f208, rOfC, rInC, rOSameC, rNormalC, rSchemeMatchC, rHostMatchC, rPortMatchC, rPathMatchC, strsAt, strsV, hget_new, matchB, namedB, ownB, httpT, httpsT, wsT, wssT, hdl, hel, heal, hep0, zz, -List.mem_cons, k1, k2, k3, eq_true k4, eq_true e1, z1, s1]
          · cases s1 : schemeB es a with
            | true =>
              cases h1 : hostB eh d with
              | true =>
                cases p1 : portB ep a p with
                | true =>
                  by_cases r1 : rd = 0
                  · simp -implicitDefEqProofs [go_sem, Tryz.f208, rOfC, rInC, rOSameC, rNormalC, rSchemeMatchC, rHostMatchC, rPortMatchC, rPathMatchC, strsAt, strsV, hget_new, matchB, namedB, ownB, httpT, httpsT, wsT, wssT, hdl, hel, heal, hep0, zz, -List.mem_cons, k1, k2, k3, eq_true k4, e1, s1, h1, p1, eq_true r1]
                  · simp -implicitDefEqProofs [go_sem, Tryz.f208, rOfC, rInC, rOSameC, rNormalC, rSchemeMatchC, rHostMatchC, rPortMatchC, rPathMatchC, strsAt, strsV, hget_new, matchB, namedB, ownB, httpT, httpsT, wsT, wssT, hdl, hel, heal, hep0, zz, -List.mem_cons, k1, k2, k3, eq_true k4, e1, s1, h1, p1, r1]
                | false =>
                  simp -implicitDefEqProofs [go_sem, Tryz.f208, rOfC, rInC, rOSameC, rNormalC, rSchemeMatchC, rHostMatchC, rPortMatchC, rPathMatchC, strsAt, strsV, hget_new, matchB, namedB, ownB, httpT, httpsT, wsT, wssT, hdl, hel, heal, hep0, zz, -List.mem_cons, k1, k2, k3, eq_true k4, e1, s1, h1, p1]
              | false =>
                simp -implicitDefEqProofs [go_sem, Tryz.f208, rOfC, rInC, rOSameC, rNormalC, rSchemeMatchC, rHostMatchC, rPortMatchC, rPathMatchC, strsAt, strsV, hget_new, matchB, namedB, ownB, httpT, httpsT, wsT, wssT, hdl, hel, heal, hep0, zz, -List.mem_cons, k1, k2, k3, eq_true k4, e1, s1, h1]
            | false =>
              simp -implicitDefEqProofs [go_sem, Tryz.f208, rOfC, rInC, rOSameC, rNormalC, rSchemeMatchC, rHostMatchC, rPortMatchC, rPathMatchC, strsAt, strsV, hget_new, matchB, namedB, ownB, httpT, httpsT, wsT, wssT, hdl, hel, heal, hep0, zz, -List.mem_cons, k1, k2, k3, eq_true k4, e1, s1]
        · simp -implicitDefEqProofs [go_sem, Tryz.f208, rOfC, rInC, rOSameC, rNormalC, rSchemeMatchC, rHostMatchC, rPortMatchC, rPathMatchC, strsAt, strsV, hget_new, matchB, namedB, ownB, httpT, httpsT, wsT, wssT, hdl, hel, heal, hep0, zz, -List.mem_cons, k1, k2, k3, k4]
end GoD

/-! Whether one of some expressions matches, as the document says. -/
namespace GoD
open Go Go.Proofs
set_option linter.unusedVariables false
set_option linter.unusedSimpArgs false
set_option maxHeartbeats 4000000
set_option maxRecDepth 100000
theorem cntL_all (p : Int → Bool) : ∀ l : List Int, (l.take (cntL p l)).all p = true
  | [] => by simp [cntL]
  | c :: t => by
    have := cntL_all p t
    rw [cntL]
    split
    · rename_i h; rw [List.take_succ_cons, List.all_cons, h, this]; rfl
    · simp
theorem src4_po {sch ho po s : List Int} (h : portQ po) : portQ (src4 sch ho po s).po := by
  unfold src4
  split
  · exact .inl rfl
  · split
    · exact h
    · exact .inl rfl
theorem src4_pa (sch ho po s : List Int) : (src4 sch ho po s).pa.length ≤ s.length := by
  unfold src4
  split
  · simp [exprZ]
  · split <;> simp [exprZ]
theorem src3_po (sch ho : List Int) : ∀ s, portQ (src3 sch ho s).po
  | [] => src4_po (.inl rfl)
  | c :: r => by
    rw [src3]
    split
    · split
      · exact src4_po (.inr (.inl rfl))
      · split
        · exact .inl rfl
        · rename_i h
          refine src4_po (.inr (.inr ?_))
          have h2 := cntL_all digitB r
          have h3 := cntL_le digitB r
          rw [portP, h2, decide_eq_true (by simp; omega)]; rfl
    · exact src4_po (.inl rfl)
theorem src3_pa (sch ho : List Int) : ∀ s, (src3 sch ho s).pa.length ≤ s.length
  | [] => src4_pa _ _ _ _
  | c :: r => by
    rw [src3]
    split
    · split
      · exact Nat.le_trans (src4_pa _ _ _ _) (by simp; omega)
      · split
        · simp [exprZ]
        · exact Nat.le_trans (src4_pa _ _ _ _) (by simp; omega)
    · exact src4_pa _ _ _ _
theorem src2_po (sch s : List Int) : portQ (src2 sch s).po := by
  unfold src2
  split
  · exact .inl rfl
  · exact src3_po _ _ _
theorem src2_pa (sch s : List Int) : (src2 sch s).pa.length ≤ s.length := by
  unfold src2
  split
  · simp [exprZ]
  · exact Nat.le_trans (src3_pa _ _ _) (by simp)
theorem srcL_po (s : List Int) : portQ (srcL s).po := by
  unfold srcL src1
  repeat' split
  all_goals first | exact .inl rfl | exact src2_po _ _
theorem srcL_pa (s : List Int) : (srcL s).pa.length ≤ s.length := by
  unfold srcL src1
  repeat' split
  all_goals first | exact Nat.zero_le _ | exact Nat.le_trans (src2_pa _ _) (by simp)
def listB (y : List (List Int)) (us uh : List Int) (up : Int) (path os oh : List Int) (op rd : Int) : Bool := y.any fun s => matchB (srcL s) us uh up path os oh op rd
def rListC : Ct := fun args h => match args with
  | [.sl bl o n 1, .agg [.s a, .s b, .s c, .s d, .i .i64 p, .s e, .b q, .s f, .b g, .s x], .agg [.s os, .s oh, .i .i64 op], .i .i64 rd] => (match strsAt h bl o n with
    | some y => if d.length ≤ 1048576 ∧ e.length ≤ 1048576 ∧ (∀ s ∈ y, s.length ≤ 1048576) then some (.b (listB y a d p e os oh op rd), h) else none
    | none => none)
  | _ => none
theorem rList_ok : CtOk Tryz.prog G0 147 rListC := by
  refine ct_plain (n := 4) fol (sound_cons rSource_ok (sound_cons rMatch_ok sound_nil)) (by kernel_rfl) Tryz.func147 rfl fun args h v h' hc r xs H hr hx => ?_
  unfold rListC at hc; split at hc <;> (try split at hc) <;> (try split at hc) <;> cases hc
  rename_i bl o n a b c d p e q f g x os oh op rd _ y hy hl
  obtain ⟨hdl, hel, hyl⟩ := hl
  obtain ⟨st, xx, cc, hg, hld, hn, hc⟩ := strsAt_eq hy
  have hn6 := (sl_of hx).1
  refine ⟨rfl, rfl, by simp [renV, bndV, renL, bndL], ?_⟩
  have hbl : bl < h.length := by
    by_cases hb : bl < h.length
    · exact hb
    · unfold hget at hg
      rw [List.getD_eq_getElem?_getD, List.getElem?_eq_none (by omega)] at hg
      cases hg
  obtain ⟨us, hus⟩ : ∃ us, us = V.agg [.s a, .s b, .s c, .s d, .i .i64 p, .s e, .b q, .s f, .b g, .s x] := ⟨_, rfl⟩
  obtain ⟨og, hog⟩ : ∃ og, og = V.agg [.s os, .s oh, .i .i64 op] := ⟨_, rfl⟩
  simp -implicitDefEqProofs [go_sem, Tryz.f147]
  refine run_inv _ _ _ _ _ (fun (i : Nat) t h1 => i ≤ n ∧ get t 0 = .sl bl o n 1 ∧ get t 3 = .i .i64 rd ∧ get t 5 = .p h.length 0 ∧ get t 6 = .p (h.length + 1) 0 ∧ get t 9 = .i .i64 i ∧ listB (y.drop i) a d p e os oh op rd = listB y a d p e os oh op rd ∧ h1 = h ++ [⟨2, true, [.s a, .s b, .s c, .s d, .i .i64 p, .s e, .b q, .s f, .b g, .s x]⟩, ⟨2, true, [.s os, .s oh, .i .i64 op]⟩]) (fun i => n - i) _ (x := 0) ⟨by simp, rfl, rfl, rfl, rfl, rfl, rfl, by simp⟩ ?_
  rintro i t h1 ⟨hi, t0, t3, t5, t6, t9, hd, hh⟩ ih
  have hl1 : h1.length = h.length + 2 := by rw [hh]; simp
  have hg0 : hget h1 h.length = ⟨2, true, [.s a, .s b, .s c, .s d, .i .i64 p, .s e, .b q, .s f, .b g, .s x]⟩ := by rw [hh, hget_at0 rfl]; rfl
  have hg1 : hget h1 (h.length + 1) = ⟨2, true, [.s os, .s oh, .i .i64 op]⟩ := by rw [hh, hget_at rfl]; rfl
  have hgb : hget h1 bl = ⟨st + 1, xx, cc⟩ := by rw [hh, hget_lt hbl]; exact hg
  have hE : Ext h h1 := by rw [hh]; exact ⟨by simp, fun i hi => hget_lt hi⟩
  have hi6 : i < 1152921504606846976 := by omega
  by_cases hlt : i < n
  · have hlt' : i < y.length := by omega
    obtain ⟨w, hw⟩ : ∃ w, y[i] = w := ⟨_, rfl⟩
    have hc1 := hc i hlt'
    have hwl := hyl w (hw ▸ List.getElem_mem hlt')
    rw [hw] at hc1
    have hpo := srcL_po w
    have hpa := Nat.le_trans (srcL_pa w) hwl
    have hd2 : listB (y.drop i) a d p e os oh op rd = (matchB (srcL w) a d p e os oh op rd || listB (y.drop (i + 1)) a d p e os oh op rd) := by rw [List.drop_eq_getElem_cons hlt', hw]; rfl
    rw [hd2] at hd
    obtain ⟨⟨ek, es, eh, ep, ea⟩, hsw⟩ : ∃ E, srcL w = E := ⟨_, rfl⟩
    rw [hsw] at hpo hpa hd
    simp only at hpo hpa
    cases c1 : matchB ⟨ek, es, eh, ep, ea⟩ a d p e os oh op rd with
    | true =>
      rw [c1, Bool.true_or] at hd
      simp -implicitDefEqProofs [go_sem, Tryz.f147, t0, t3, t5, t6, t9, hlt, hc1, hgb, hg0, hg1, rSourceC, hwl, hsw, Expr5.V, Expr5.cells, rMatchC, hpo, hpa, hdl, hel, c1, ← hd, hE]
    | false =>
      rw [c1, Bool.false_or] at hd
      simp -implicitDefEqProofs [go_sem, Tryz.f147, t0, t3, t5, t6, t9, hlt, hc1, hgb, hg0, hg1, rSourceC, hwl, hsw, Expr5.V, Expr5.cells, rMatchC, hpo, hpa, hdl, hel, c1]
      refine ih (i + 1) _ _ (by omega) ⟨by omega, ?_⟩
      simp -implicitDefEqProofs [go_sem, t0, t3, t5, t6, t9, i64_n hi6, hd, hh]
  · have e0 : y.drop i = [] := List.drop_eq_nil_of_le (by omega)
    rw [e0] at hd
    have hd : listB y a d p e os oh op rd = false := hd.symm
    simp -implicitDefEqProofs [go_sem, Tryz.f147, t0, t9, hlt, hd, hE]
end GoD
