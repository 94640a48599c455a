import Derived.Test.YtbiijfgimoelkaaGreatDoorET
/-! URLs as the document reads them. -/
namespace GoD
open Go Go.Proofs
set_option linter.unusedVariables false
set_option linter.unusedSimpArgs false
set_option maxHeartbeats 4000000
set_option maxRecDepth 100000
structure Url where
  sch : List Int
  us : List Int
  pa : List Int
  ho : List Int
  po : Int
  path : List Int
  q : Bool
  qu : List Int
  f : Bool
  fr : List Int
def Url.cells (u : Url) : List V := [.s u.sch, .s u.us, .s u.pa, .s u.ho, .i .i64 u.po, .s u.path, .b u.q, .s u.qu, .b u.f, .s u.fr]
def Url.V (u : Url) : V := .agg u.cells
def skipL : List Int → List Int
  | [] => []
  | c :: t => if c = 47 ∨ c = 92 then skipL t else c :: t
theorem skipL_len : ∀ l, (skipL l).length ≤ l.length
  | [] => by simp [skipL]
  | c :: t => by
    have := skipL_len t
    rw [skipL]
    split <;> simp; omega
def cutF (s : List Int) : List Int := s.take (upL [35] s)
def url3 (sch s1 : List Int) (ho : List Int) (po : Int) (a s2 : List Int) : Url :=
  { sch := sch, us := userL a [], pa := passL a [], ho := ho, po := po
    path := pathL ((cutF s2).take (upL [63] (cutF s2)))
    q := decide (upL [63] (cutF s2) < (cutF s2).length), qu := if upL [63] (cutF s2) < (cutF s2).length then encL 2 ((cutF s2).drop (upL [63] (cutF s2) + 1)) else []
    f := decide (upL [35] s2 < s2.length), fr := if upL [35] s2 < s2.length then encL 1 (s2.drop (upL [35] s2 + 1)) else [] }
def url2 (sch s1 : List Int) : Option Url := match authW sch (restL (s1.take (upL [47, 92, 63, 35] s1))) [] 0 with
  | (false, _, _) => none
  | (true, ho, po) => some (url3 sch s1 ho po (s1.take (upL [47, 92, 63, 35] s1)) (s1.drop (upL [47, 92, 63, 35] s1)))
def url1 (s : List Int) : Option Url := if (defaultL (lowerL (s.take (schemeN s)))).2 = true then url2 (lowerL (s.take (schemeN s))) (skipL (s.drop (schemeN s + 1))) else none
def urlL (l : List Int) : Option Url := if 65536 < l.length then none else if utf8B l = true then url1 (cleanL l) else none
def urlZ : Url := ⟨[], [], [], [], 0, [], false, [], false, []⟩
def urlAns : Option Url → V
  | none => .tup [urlZ.V, .i .i64 8]
  | some u => .tup [u.V, .i .i64 0]
def rURLC : Ct := fun args h => match args with | [.s l] => some (urlAns (urlL l), h) | _ => none
theorem urlAns_flat (o : Option Url) (m : Nat) : renV id (urlAns o) = urlAns o ∧ bndV m (urlAns o) := by cases o <;> simp [urlAns, Url.V, Url.cells, renV, bndV, renL, bndL]
def urlBk (u : Url) : Blk := ⟨2, true, u.cells⟩
def urlS (sch : List Int) : Url := ⟨sch, [], [], [], 0, [], false, [], false, []⟩
theorem rURL_ok : CtOk Tryz.prog G0 20 rURLC := by
  refine ct_plain (n := 1) fol (sound_cons rUTF8_ok (sound_cons rClean_ok (sound_cons rScheme_ok (sound_cons rLower_ok (sound_cons rDefault_ok (sound_cons rUpTo_ok (sound_cons rAuth_ok (sound_cons rEncode_ok (sound_cons rPath_ok sound_nil))))))))) (by kernel_rfl) Tryz.func20 rfl fun args h v h' hc r xs H hr hx => ?_
  unfold rURLC at hc; split at hc <;> (try split at hc) <;> cases hc
  rename_i l
  obtain ⟨⟨hs, hl⟩, _⟩ := str_of hx
  refine ⟨rfl, rfl, urlAns_flat _ _, ?_⟩
  obtain ⟨R, hR⟩ : ∃ R, urlL l = R := ⟨_, rfl⟩
  rw [hR]
  unfold urlL at hR
  by_cases c1 : 65536 < l.length
  · rw [if_pos c1] at hR
    subst hR
    have c1' : (65536 : Int) < l.length := by omega
    simp -implicitDefEqProofs [go_sem, Tryz.f20, c1, c1', urlAns, urlZ, Url.V, Url.cells]
  rw [if_neg c1] at hR
  have c1' : ¬ (65536 : Int) < l.length := by omega
  cases c2 : utf8B l with
  | false =>
    rw [c2, if_neg (by simp)] at hR
    subst hR
    simp -implicitDefEqProofs [go_sem, Tryz.f20, c1, c1', rUTF8C, c2, urlAns, urlZ, Url.V, Url.cells]
  | true =>
    rw [c2, if_pos rfl] at hR
    obtain ⟨s, hsv⟩ : ∃ s, cleanL l = s := ⟨_, rfl⟩
    have hsl : s.length ≤ 65536 := by rw [← hsv]; have := cleanL_len l; omega
    rw [hsv] at hR
    unfold url1 at hR
    obtain ⟨k, hk⟩ : ∃ k, schemeN s = k := ⟨_, rfl⟩
    have hkl : k ≤ s.length := by rw [← hk]; exact schemeN_le s
    have hkp : k ≠ 0 → k < s.length := by rw [← hk]; exact schemeN_lt
    rw [hk] at hR
    obtain ⟨sch, hsch⟩ : ∃ sch, lowerL (s.take k) = sch := ⟨_, rfl⟩
    rw [hsch] at hR
    have hkl' : (k : Int) ≤ s.length := by omega
    have hk7 : k ≤ 1048576 := by omega
    have hk6 : k < 1152921504606846976 := by omega
    have hl7 : l.length ≤ 1048576 := by omega
    simp only [Tryz.f20, run_seq]
    generalize hK12 : (Code.region 12 _ _).seq _ = K12
    have st12 : ∀ (s1 : List Int) (t : Tm) (h1 : Heap), h1 = h ++ [urlBk urlZ, urlBk (urlS sch)] → s1.length ≤ 65536 → url2 sch s1 = R → get t 0 = .s s1 → get t 2 = .p h.length 0 → get t 5 = .p (h.length + 1) 0 → Run (ctx Tryz.prog G0 [(28, rUTF8C), (50, rCleanC), (51, rSchemeC), (52, rLowerC), (32, rDefaultC), (53, rUpToC), (54, rAuthC), (55, rEncodeC), (56, rPathC)]) (Fini (ctx Tryz.prog G0 [(28, rUTF8C), (50, rCleanC), (51, rSchemeC), (52, rLowerC), (32, rDefaultC), (53, rUpToC), (54, rAuthC), (55, rEncodeC), (56, rPathC)]) [ResultVar.cell 2 25, ResultVar.tmp 3] fun v' h1 => v' = urlAns R ∧ Ext h h1) [.c K12] t h1 := by
      subst hK12
      intro s1 t h1 hh hs1 hR2 t0 t2 t5
      have hl1 : h1.length = h.length + 2 := by rw [hh]; simp
      have hg0 : hget h1 h.length = urlBk urlZ := by rw [hh, hget_at0 rfl]; rfl
      have hg1 : hget h1 (h.length + 1) = urlBk (urlS sch) := by rw [hh, hget_at rfl]; rfl
      unfold url2 at hR2
      obtain ⟨k1, hk1⟩ : ∃ k1, upL [47, 92, 63, 35] s1 = k1 := ⟨_, rfl⟩
      have hk1l : k1 ≤ s1.length := by rw [← hk1]; exact upL_le _ _
      have hk1l' : (k1 : Int) ≤ s1.length := by omega
      rw [hk1] at hR2
      obtain ⟨a, ha⟩ : ∃ a, s1.take k1 = a := ⟨_, rfl⟩
      obtain ⟨s2, hs2⟩ : ∃ s2, s1.drop k1 = s2 := ⟨_, rfl⟩
      have hal : a.length ≤ 65536 := by rw [← ha]; simp; omega
      have hs2l : s2.length ≤ 65536 := by rw [← hs2]; simp; omega
      rw [ha, hs2] at hR2
      have hE : Ext h h1 := by rw [hh]; exact ⟨by simp, fun i hi => hget_lt hi⟩
      have hrun : rAuthC [.p (h.length + 1) 0, .s a] h1 = some (.b (authW sch (restL a) [] 0).1, h1.set (h.length + 1) (urlB sch (userL a []) (passL a []) (authW sch (restL a) [] 0).2.1 (authW sch (restL a) [] 0).2.2 [] false [] false [])) := by
        simp [rAuthC, hg1, urlBk, Url.cells, urlS, hal, hl1]
      rcases hA : authW sch (restL a) [] 0 with ⟨_ | _, ho, po⟩
      · rw [hA] at hR2 hrun
        subst hR2
        simp only at hrun
        simp -implicitDefEqProofs [go_sem, t0, t2, t5, rUpToC, hk1, hk1l, hk1l', ha, hrun, hg0, hl1, urlBk, urlZ, urlAns, Url.V, Url.cells, hE, Ext.set]
      · rw [hA] at hR2 hrun
        simp only at hR2 hrun
        subst hR2
        obtain ⟨us, hus⟩ : ∃ us, userL a [] = us := ⟨_, rfl⟩
        obtain ⟨pa, hpa⟩ : ∃ pa, passL a [] = pa := ⟨_, rfl⟩
        rw [hus, hpa] at hrun
        obtain ⟨k2, hk2⟩ : ∃ k2, upL [35] s2 = k2 := ⟨_, rfl⟩
        have hk2l : k2 ≤ s2.length := by rw [← hk2]; exact upL_le _ _
        have hk2l' : (k2 : Int) ≤ s2.length := by omega
        have hk26 : k2 < 1152921504606846976 := by omega
        obtain ⟨s3, hs3⟩ : ∃ s3, s2.take k2 = s3 := ⟨_, rfl⟩
        have hs3l : s3.length ≤ 65536 := by rw [← hs3]; simp; omega
        have hcf : cutF s2 = s3 := by unfold cutF; rw [hk2, hs3]
        obtain ⟨k3, hk3⟩ : ∃ k3, upL [63] s3 = k3 := ⟨_, rfl⟩
        have hk3l : k3 ≤ s3.length := by rw [← hk3]; exact upL_le _ _
        have hk3l' : (k3 : Int) ≤ s3.length := by omega
        have hk36 : k3 < 1152921504606846976 := by omega
        obtain ⟨s4, hs4⟩ : ∃ s4, s3.take k3 = s4 := ⟨_, rfl⟩
        have hs4l : s4.length ≤ 1048576 := by rw [← hs4]; simp; omega
        have hu : url3 sch s1 ho po a s2 = { sch := sch, us := us, pa := pa, ho := ho, po := po, path := pathL s4, q := decide (k3 < s3.length), qu := if k3 < s3.length then encL 2 (s3.drop (k3 + 1)) else [], f := decide (k2 < s2.length), fr := if k2 < s2.length then encL 1 (s2.drop (k2 + 1)) else [] } := by
          unfold url3
          rw [hcf, hk2, hk3, hs4, hus, hpa]
        rw [hu]
        clear hu hcf hR hA hus hpa hs1
        simp only [run_seq]
        generalize hK20 : (Code.region 20 _ _).seq _ = K20
        have st20 : ∀ (t : Tm) (h2 : Heap) (f : Bool) (fr : List Int), get t 0 = .s s2 → get t 4 = .i .i64 k2 → get t 2 = .p h.length 0 → get t 5 = .p (h.length + 1) 0 → h2.length = h.length + 2 → hget h2 h.length = urlBk urlZ → hget h2 (h.length + 1) = urlB sch us pa ho po [] false [] f fr → Ext h h2 → Run (ctx Tryz.prog G0 [(28, rUTF8C), (50, rCleanC), (51, rSchemeC), (52, rLowerC), (32, rDefaultC), (53, rUpToC), (54, rAuthC), (55, rEncodeC), (56, rPathC)]) (Fini (ctx Tryz.prog G0 [(28, rUTF8C), (50, rCleanC), (51, rSchemeC), (52, rLowerC), (32, rDefaultC), (53, rUpToC), (54, rAuthC), (55, rEncodeC), (56, rPathC)]) [ResultVar.cell 2 25, ResultVar.tmp 3] fun v' h1 => v' = urlAns (some { sch := sch, us := us, pa := pa, ho := ho, po := po, path := pathL s4, q := decide (k3 < s3.length), qu := if k3 < s3.length then encL 2 (s3.drop (k3 + 1)) else [], f := f, fr := fr }) ∧ Ext h h1) [.c K20] t h2 := by
          subst hK20
          clear hrun hg0 hg1 hE hl1 hh t0 t2 t5
          intro t h2 f fr t0 t4 t2 t5 hl1 hg0 hg1 hE
          by_cases e1 : k3 < s3.length
          · have e1' : (k3 : Int) + 1 ≤ s3.length := by omega
            have e2 : s3.length ≤ 1048576 + (k3 + 1) := by omega
            have e3 : s3.length - (k3 + 1) ≤ 1048576 := by omega
            simp only [if_pos e1, decide_eq_true e1]
            simp -implicitDefEqProofs [go_sem, t0, t2, t4, t5, rUpToC, rEncodeC, rPathC, hs3, hk2l, hk2l', hk3, hk3l, hk3l', e1, e1', e2, e3, hs4, hs4l, hg0, hg1, hl1, urlBk, urlZ, urlB, urlAns, Url.V, Url.cells, hE, Ext.set, i64_n hk36, hget_set]
          · simp only [if_neg e1, decide_eq_false e1]
            simp -implicitDefEqProofs [go_sem, t0, t2, t4, t5, rUpToC, rEncodeC, rPathC, hs3, hk2l, hk2l', hk3, hk3l, hk3l', e1, hs4, hs4l, hg0, hg1, hl1, urlBk, urlZ, urlB, urlAns, Url.V, Url.cells, hE, Ext.set, hget_set]
        by_cases e1 : k2 < s2.length
        · have e1' : (k2 : Int) + 1 ≤ s2.length := by omega
          have e2 : s2.length ≤ 1048576 + (k2 + 1) := by omega
          have e3 : s2.length - (k2 + 1) ≤ 1048576 := by omega
          simp only [if_pos e1, decide_eq_true e1]
          simp -implicitDefEqProofs [go_sem, t0, t2, t5, rUpToC, hk1, hk1l, hk1l', ha, hs2, hrun, rEncodeC, e1, e1', e2, e3, hk2, hl1, hs2l, i64_n hk26, hget_set, urlB]
          refine st20 _ _ true _ ?_ ?_ ?_ ?_ ?_ ?_ ?_ ?_
          all_goals simp -implicitDefEqProofs [go_sem, t0, t2, t5, hl1, hget_set, hg0, urlB, hE, Ext.set]
        · simp only [if_neg e1, decide_eq_false e1]
          simp -implicitDefEqProofs [go_sem, t0, t2, t5, rUpToC, hk1, hk1l, hk1l', ha, hs2, hrun, rEncodeC, e1, hk2, hl1, hs2l, hget_set, urlB]
          refine st20 _ _ false _ ?_ ?_ ?_ ?_ ?_ ?_ ?_ ?_
          all_goals simp -implicitDefEqProofs [go_sem, t0, t2, t5, hl1, hget_set, hg0, urlB, hE, Ext.set]
    cases d1 : (defaultL sch).2 with
    | false =>
      rw [d1, if_neg (by simp)] at hR
      subst hR
      simp -implicitDefEqProofs [go_sem, c1, c1', rUTF8C, c2, rCleanC, hl7, hsv, rSchemeC, hk, hkl, hkl', rLowerC, hk7, hsch, rDefaultC, d1, urlAns, urlZ, Url.V, Url.cells, hget_set, hget_new]
    | true =>
      rw [d1, if_pos rfl] at hR
      have hk0 : k ≠ 0 := by
        intro e
        rw [e] at hsch
        rw [← hsch] at d1
        simp [lowerL, defaultL] at d1
      have hkk := hkp hk0
      have hkk' : (k : Int) + 1 ≤ s.length := by omega
      have hsd : (s.drop (k + 1)).length ≤ 65536 := by simp; omega
      simp -implicitDefEqProofs [go_sem, c1, c1', rUTF8C, c2, rCleanC, hl7, hsv, rSchemeC, hk, hkl, hkl', rLowerC, hk7, hsch, rDefaultC, d1, hkk, hkk', i64_n hk6]
      refine run_inv _ _ _ _ _ (fun (x : List Int) t h1 => x.length ≤ 65536 ∧ get t 0 = .s x ∧ get t 2 = .p h.length 0 ∧ get t 5 = .p (h.length + 1) 0 ∧ skipL x = skipL (s.drop (k + 1)) ∧ h1 = h ++ [urlBk urlZ, urlBk (urlS sch)]) (fun x => x.length) _ (x := s.drop (k + 1)) ⟨hsd, by simp -implicitDefEqProofs [go_sem], by simp -implicitDefEqProofs [go_sem], by simp -implicitDefEqProofs [go_sem], rfl, by simp [urlBk, Url.cells, urlZ, urlS]⟩ ?_
      rintro x t h1 ⟨hxl, t0, t2, t5, hd, hh⟩ ih
      match x, hxl, t0, hd with
      | [], _, t0, hd =>
        simp -implicitDefEqProofs [go_sem, t0]
        refine st12 [] _ _ hh (by simp) ?_ ?_ ?_ ?_
        · rw [← hd] at hR; exact hR
        all_goals simp -implicitDefEqProofs [go_sem, t0, t2, t5]
      | c :: q, hxl, t0, hd =>
        have k1 : (1 : Int) ≤ (q.length : Int) + 1 := by omega
        have k2 : (0 : Int) < (q.length : Int) + 1 := by omega
        rw [skipL] at hd
        by_cases e1 : c = 47
        · rw [if_pos (.inl e1)] at hd
          simp -implicitDefEqProofs [go_sem, t0, eq_true e1, k1, k2]
          refine ih q _ _ (by simp) ⟨by simp at hxl; omega, ?_, ?_, ?_, hd, hh⟩
          all_goals simp -implicitDefEqProofs [go_sem, t0, t2, t5]
        · by_cases e2 : c = 92
          · rw [if_pos (.inr e2)] at hd
            simp -implicitDefEqProofs [go_sem, t0, e1, eq_true e2, k1, k2]
            refine ih q _ _ (by simp) ⟨by simp at hxl; omega, ?_, ?_, ?_, hd, hh⟩
            all_goals simp -implicitDefEqProofs [go_sem, t0, t2, t5]
          · rw [if_neg (by omega)] at hd
            simp -implicitDefEqProofs [go_sem, t0, e1, e2, k1, k2]
            refine st12 (c :: q) _ _ hh hxl ?_ ?_ ?_ ?_
            · rw [← hd] at hR; exact hR
            all_goals simp -implicitDefEqProofs [go_sem, t0, t2, t5]
end GoD

/-! Source expressions as the document reads them. -/
namespace GoD
open Go Go.Proofs
set_option linter.unusedVariables false
set_option linter.unusedSimpArgs false
set_option maxHeartbeats 4000000
set_option maxRecDepth 100000
structure Expr5 where
  kind : Int
  sch : List Int
  ho : List Int
  po : List Int
  pa : List Int
def Expr5.cells (e : Expr5) : List V := [.i .i64 e.kind, .s e.sch, .s e.ho, .s e.po, .s e.pa]
def Expr5.V (e : Expr5) : V := .agg e.cells
def exprZ : Expr5 := ⟨0, [], [], [], []⟩
def pathC (c : Int) : Bool := decide (33 ≤ c) && decide (c ≤ 126) && !decide (c ∈ [63, 35, 59, 44])
def pathOk (s : List Int) : Bool := s.all pathC
def src4 (sch ho po s : List Int) : Expr5 := if s ≠ [] ∧ s.head? ≠ some 47 then exprZ else if pathOk s = true then ⟨4, sch, ho, po, s⟩ else exprZ
def src3 (sch ho : List Int) : List Int → Expr5
  | [] => src4 sch ho [] []
  | c :: r => if c = 58 then (if r.head? = some 42 then src4 sch ho [42] (r.drop 1) else if cntL digitB r = 0 ∨ 5 < cntL digitB r then exprZ else src4 sch ho (r.take (cntL digitB r)) (r.drop (cntL digitB r))) else src4 sch ho [] (c :: r)
def src2 (sch s : List Int) : Expr5 := if hostPartN s = 0 then exprZ else src3 sch (lowerL (s.take (hostPartN s))) (s.drop (hostPartN s))
def src1 (s : List Int) : Expr5 := if 0 < schemeN s ∧ schemeN s + 1 = s.length then ⟨3, lowerL (s.take (schemeN s)), [], [], []⟩ else if 0 < schemeN s ∧ (s.drop (schemeN s)).take 3 = [58, 47, 47] then src2 (lowerL (s.take (schemeN s))) (s.drop (schemeN s + 3)) else src2 [] s
def srcL (s : List Int) : Expr5 := if s = [42] then ⟨1, [], [], [], []⟩ else if lowerL s = [39, 115, 101, 108, 102, 39] then ⟨2, [], [], [], []⟩ else if 2 ≤ s.length ∧ s.head? = some 39 ∧ s.getLast? = some 39 then ⟨5, [], [], [], []⟩ else src1 s
theorem hostPartN_le (l : List Int) : hostPartN l ≤ l.length := by
  match l with
  | [] => simp [hostPartN]
  | [a] =>
    rw [hostPartN]
    split
    · simp
    · exact labelsN_le _
  | a :: b :: r =>
    have h1 := labelsN_le r
    have h2 := labelsN_le (a :: b :: r)
    rw [hostPartN]
    split
    · split
      · split <;> simp <;> omega
      · simp
    · exact h2
def exprBk (e : Expr5) : Blk := ⟨2, true, e.cells⟩
theorem pathOk_cons (c : Int) (t : List Int) : pathOk (c :: t) = (pathC c && pathOk t) := rfl
def rSourceC : Ct := fun args h => match args with | [.s l] => if l.length ≤ 1048576 then some ((srcL l).V, h) else none | _ => none
theorem Expr5.flat (e : Expr5) (m : Nat) : renV id e.V = e.V ∧ bndV m e.V := by simp [Expr5.V, Expr5.cells, renV, bndV, renL, bndL]
end GoD

/-! Whether an expression matches a URL, as the document says. -/
namespace GoD
open Go Go.Proofs
set_option linter.unusedVariables false
set_option linter.unusedSimpArgs false
set_option maxHeartbeats 4000000
set_option maxRecDepth 100000
def httpT : List Int := [104, 116, 116, 112]
def httpsT : List Int := [104, 116, 116, 112, 115]
def wsT : List Int := [119, 115]
def wssT : List Int := [119, 115, 115]
def ownB (us uh : List Int) (up : Int) (os oh : List Int) (op : Int) : Bool :=
  (decide (os = us) && decide (oh = uh) && decide (op = portL us up) && !oNull os oh op) ||
  (!oNull os oh op && decide (oh = uh) && (decide (op = portL us up) || (normalB os op && normalB us (portL us up))) && (decide (us = httpsT) || decide (us = wssT) || (decide (os = httpT) && decide (us = wsT))))
def namedB (e : Expr5) (us uh : List Int) (up : Int) (path os oh : List Int) (op rd : Int) : Bool :=
  (if e.sch = [] then oNull os oh op || schemeB os us else schemeB e.sch us) && hostB e.ho uh && portB e.po us up && (decide (rd ≠ 0) || pathB e.pa path)
def matchB (e : Expr5) (us uh : List Int) (up : Int) (path os oh : List Int) (op rd : Int) : Bool :=
  if e.kind = 1 then decide (us ∈ [httpT, httpsT, wsT, wssT]) || decide (us = os) else if e.kind = 2 then ownB us uh up os oh op
  else if e.kind = 3 then schemeB e.sch us else if e.kind = 4 then namedB e us uh up path os oh op rd else false
def portQ (l : List Int) : Prop := l = [] ∨ l = [42] ∨ portP l = true
instance (l : List Int) : Decidable (portQ l) := by unfold portQ; exact inferInstance
def rMatchC : Ct := fun args h => match args with
  | [.agg [.i .i64 k, .s es, .s eh, .s ep, .s ea], .agg [.s a, .s b, .s c, .s d, .i .i64 p, .s e, .b q, .s f, .b g, .s x], .agg [.s os, .s oh, .i .i64 op], .i .i64 rd] =>
    if portQ ep ∧ d.length ≤ 1048576 ∧ e.length ≤ 1048576 ∧ ea.length ≤ 1048576 then some (.b (matchB ⟨k, es, eh, ep, ea⟩ a d p e os oh op rd), h) else none
  | _ => none
theorem oNull_eq (a b : List Int) (p : Int) : (a.isEmpty && (b.isEmpty && decide (p = 0))) = oNull a b p := by cases a <;> cases b <;> simp [oNull]
end GoD

/-! Whether one of some expressions matches, as the document says. -/
namespace GoD
open Go Go.Proofs
set_option linter.unusedVariables false
set_option linter.unusedSimpArgs false
set_option maxHeartbeats 4000000
set_option maxRecDepth 100000
theorem cntL_all (p : Int → Bool) : ∀ l : List Int, (l.take (cntL p l)).all p = true
  | [] => by simp [cntL]
  | c :: t => by
    have := cntL_all p t
    rw [cntL]
    split
    · rename_i h; rw [List.take_succ_cons, List.all_cons, h, this]; rfl
    · simp
theorem src4_po {sch ho po s : List Int} (h : portQ po) : portQ (src4 sch ho po s).po := by
  unfold src4
  split
  · exact .inl rfl
  · split
    · exact h
    · exact .inl rfl
theorem src4_pa (sch ho po s : List Int) : (src4 sch ho po s).pa.length ≤ s.length := by
  unfold src4
  split
  · simp [exprZ]
  · split <;> simp [exprZ]
theorem src3_po (sch ho : List Int) : ∀ s, portQ (src3 sch ho s).po
  | [] => src4_po (.inl rfl)
  | c :: r => by
    rw [src3]
    split
    · split
      · exact src4_po (.inr (.inl rfl))
      · split
        · exact .inl rfl
        · rename_i h
          refine src4_po (.inr (.inr ?_))
          have h2 := cntL_all digitB r
          have h3 := cntL_le digitB r
          rw [portP, h2, decide_eq_true (by simp; omega)]; rfl
    · exact src4_po (.inl rfl)
theorem src3_pa (sch ho : List Int) : ∀ s, (src3 sch ho s).pa.length ≤ s.length
  | [] => src4_pa _ _ _ _
  | c :: r => by
    rw [src3]
    split
    · split
      · exact Nat.le_trans (src4_pa _ _ _ _) (by simp; omega)
      · split
        · simp [exprZ]
        · exact Nat.le_trans (src4_pa _ _ _ _) (by simp; omega)
    · exact src4_pa _ _ _ _
theorem src2_po (sch s : List Int) : portQ (src2 sch s).po := by
  unfold src2
  split
  · exact .inl rfl
  · exact src3_po _ _ _
theorem src2_pa (sch s : List Int) : (src2 sch s).pa.length ≤ s.length := by
  unfold src2
  split
  · simp [exprZ]
  · exact Nat.le_trans (src3_pa _ _ _) (by simp)
theorem srcL_po (s : List Int) : portQ (srcL s).po := by
  unfold srcL src1
  repeat' split
  all_goals first | exact .inl rfl | exact src2_po _ _
theorem srcL_pa (s : List Int) : (srcL s).pa.length ≤ s.length := by
  unfold srcL src1
  repeat' split
  all_goals first | exact Nat.zero_le _ | exact Nat.le_trans (src2_pa _ _) (by simp)
def listB (y : List (List Int)) (us uh : List Int) (up : Int) (path os oh : List Int) (op rd : Int) : Bool := y.any fun s => matchB (srcL s) us uh up path os oh op rd
def rListC : Ct := fun args h => match args with
  | [.sl bl o n 1, .agg [.s a, .s b, .s c, .s d, .i .i64 p, .s e, .b q, .s f, .b g, .s x], .agg [.s os, .s oh, .i .i64 op], .i .i64 rd] => (match strsAt h bl o n with
    | some y => if d.length ≤ 1048576 ∧ e.length ≤ 1048576 ∧ (∀ s ∈ y, s.length ≤ 1048576) then some (.b (listB y a d p e os oh op rd), h) else none
    | none => none)
  | _ => none
end GoD
