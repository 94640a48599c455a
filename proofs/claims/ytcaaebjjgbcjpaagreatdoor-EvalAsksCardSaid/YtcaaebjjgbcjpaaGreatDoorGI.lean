import Derived.Test.YtcaaebjjgbcjpaaGreatDoorGG
import Derived.Test.YtcaaebjjgbcjpaaGreatDoorVA
import Derived.Test.YtcaaebjjgbcjpaaGreatDoorGL
/-! Chapter 23: what is looked at, and what atoms answer: the program's side. -/
namespace GoD
open Go Go.Proofs
set_option linter.unusedVariables false
set_option linter.unusedSimpArgs false
set_option maxHeartbeats 8000000
set_option maxRecDepth 100000
def smallG : Nat → List (List Int × List Int) → Bool
  | n, [] => decide (n ≤ 4000)
  | n, f :: t => if n ≤ 4000 then smallG (n + f.1.length + f.2.length + 1) t else false
theorem smallG_le : ∀ {fs : List (List Int × List Int)} {n : Nat}, smallG n fs = true → n ≤ 4000 ∧ fs.length ≤ 4000 ∧ ∀ f ∈ fs, f.1.length ≤ 4000
  | [], n, h => by simp [smallG] at h; exact ⟨h, by simp, by simp⟩
  | f :: t, n, h => by
    have key : ∀ (fs : List (List Int × List Int)) (m : Nat), smallG m fs = true → m + fs.length ≤ 4000 ∧ ∀ g ∈ fs, g.1.length ≤ 4000 := by
      intro fs
      induction fs with
      | nil => intro m h; simp [smallG] at h; simpa using h
      | cons g t ih =>
        intro m h
        rw [smallG] at h
        split at h
        · obtain ⟨h1, h2⟩ := ih _ h
          refine ⟨by simp; omega, fun q hq => ?_⟩
          rcases List.mem_cons.1 hq with rfl | hq
          · omega
          · exact h2 q hq
        · cases h
    obtain ⟨h1, h2⟩ := key _ _ h
    exact ⟨by omega, by omega, h2⟩
def pSmallC : Ct := fun args h => match args with
  | [.agg [.s doc, .s url, .s dest, .s meth, .b cors, .b creds, .i .i64 redir, .sl b o n 2]] => (match fldsAt h b o n with
    | some fs => if (doc.length ≤ 281474976710656 ∧ url.length ≤ 281474976710656 ∧ dest.length ≤ 281474976710656 ∧ meth.length ≤ 281474976710656) ∧ (∀ f ∈ fs, f.1.length ≤ 281474976710656 ∧ f.2.length ≤ 281474976710656) ∧ n ≤ 281474976710656 then some (.b (smallG (doc.length + url.length + dest.length + meth.length) fs), h) else none
    | none => none)
  | _ => none
theorem pSmall_ok : CtOk Tryz.prog G0 5 pSmallC := by
  refine ct_plain (n := 1) fol sound_nil (by kernel_rfl) Tryz.func5 rfl fun args h v h' hc r xs H hr hx => ?_
  unfold pSmallC at hc; split at hc <;> (try split at hc) <;> (try split at hc) <;> cases hc
  rename_i doc url dest meth cors creds redir b o n _ fs hf hl
  obtain ⟨⟨l1, l2, l3, l4⟩, hl2, hl3⟩ := hl
  obtain ⟨st, xx, c, hg, hn, hc⟩ := fldsAt_eq hf
  have hb := fldsAt_lt hf
  refine ⟨rfl, rfl, by simp [renV, bndV], ?_⟩
  obtain ⟨bs, hbs⟩ : ∃ bs : Nat, doc.length + url.length + dest.length + meth.length = bs := ⟨_, rfl⟩
  have hb1 : bs ≤ 2251799813685248 := by omega
  have w1 : IntKind.i64.wrap ((doc.length : Int) + url.length) = (doc.length : Int) + url.length := w64 (by omega)
  have w2 : IntKind.i64.wrap ((doc.length : Int) + url.length + dest.length) = (doc.length : Int) + url.length + dest.length := w64 (by omega)
  have w3 : IntKind.i64.wrap ((doc.length : Int) + url.length + dest.length + meth.length) = (bs : Int) := by rw [w64 (by omega)]; omega
  rw [hbs]
  simp -implicitDefEqProofs [go_sem, Tryz.f5, w1, w2, w3]
  clear w1 w2 w3
  refine run_inv _ _ _ _ _ (fun (x : Nat × Nat) t h1 => x.1 ≤ n ∧ get t 1 = .p h.length 0 ∧ get t 4 = .i .i64 x.1 ∧ get t 3 = .i .i64 x.2 ∧ x.2 ≤ 2251799813685248 ∧ hget h1 h.length = ⟨2, true, [.s doc, .s url, .s dest, .s meth, .b cors, .b creds, .i .i64 redir, .sl b o n 2]⟩ ∧ Ext h h1 ∧ smallG x.2 (fs.drop x.1) = smallG bs fs) (fun x => n - x.1) _ (x := (0, bs)) ⟨by simp, rfl, rfl, rfl, hb1, by simp -implicitDefEqProofs [go_sem], by simp -implicitDefEqProofs [go_sem], by simp⟩ ?_
  rintro ⟨i, m⟩ t h1 ⟨hi, t1, t4, t3, hm, hg1, he, hs⟩ ih
  simp only at hi t1 t4 t3 hm hs
  have hi6 : i < 1152921504606846976 := by omega
  have hgb : hget h1 b = ⟨st + 1, xx, c⟩ := by rw [he.2 b hb]; exact hg
  by_cases hlt : i < n
  · have hlt' : i < fs.length := by omega
    obtain ⟨c1, c2, c3⟩ := hc i hlt'
    have hf1 := hl2 fs[i] (List.getElem_mem hlt')
    rw [List.drop_eq_getElem_cons hlt', smallG] at hs
    generalize fs[i] = f at c1 c2 c3 hf1 hs
    by_cases d1 : m ≤ 4000
    · rw [if_pos d1] at hs
      have d1' : (m : Int) ≤ 4000 := by omega
      simp -implicitDefEqProofs [go_sem, Tryz.f5, t1, t4, t3, hlt, hg1, d1, d1', c1, c2, hgb]
      refine ih (i + 1, m + f.1.length + f.2.length + 1) _ _ (by simp; omega) ⟨by simp; omega, ?_⟩
      simp -implicitDefEqProofs [go_sem, t1, t4, t3, i64_n hi6, he, hg1, w64 (x := (m : Int) + f.1.length) (by omega), w64 (x := (m : Int) + f.1.length + f.2.length) (by omega), w64 (x := (m : Int) + f.1.length + f.2.length + 1) (by omega)]
      exact ⟨by omega, hs⟩
    · rw [if_neg d1] at hs
      have d1' : ¬ (m : Int) ≤ 4000 := by omega
      simp -implicitDefEqProofs [go_sem, Tryz.f5, t1, t4, t3, hlt, hg1, d1, d1', ← hs, he]
  · rw [show fs.drop i = [] from List.drop_eq_nil_of_le (by omega), smallG] at hs
    simp -implicitDefEqProofs [go_sem, Tryz.f5, t1, t4, t3, hlt, hg1, ← hs, he]
    omega
def uOr (o : Option Url) : Url := o.getD urlZ
theorem urlAns_uOr (o : Option Url) : urlAns o = .tup [(uOr o).V, .i .i64 (if o.isSome = true then 0 else 8)] := by cases o <;> rfl
def selfU (P : List Int → Option Url) (doc : List Int) : List V := if doc = [] then [.s [], .s [], .i .i64 0] else match P doc with
  | some u => [.s u.sch, .s u.ho, .i .i64 (portL u.sch u.po)]
  | none => [.s [], .s [], .i .i64 0]
def docOk (P : List Int → Option Url) (doc : List Int) : Bool := decide (doc = []) || (P doc).isSome
def pLookC : Ct := fun args h => match args with
  | [.agg [.s doc, .s url, .s dest, .s meth, .b cors, .b creds, .i .i64 redir, .sl b o n 2]] => if b < h.length then some (.agg ([.s doc, .s url, .s dest, .s meth, .b cors, .b creds, .i .i64 redir, .sl b o n 2] ++ ((uOr (parseU url)).cells ++ ([.b (parseU url).isSome] ++ (selfU parseU doc ++ [.b (docOk parseU doc)])))), h) else none
  | _ => none
theorem pLook_ok : CtOk Tryz.prog G0 14 pLookC := by
  refine ct_plain (n := 1) fol (sound_cons pUParse_ok (sound_cons pOf_ok sound_nil)) (by kernel_rfl) Tryz.func14 rfl fun args h v h' hc r xs H hr hx => ?_
  unfold pLookC at hc; split at hc <;> (try split at hc) <;> cases hc
  rename_i doc url dest meth cors creds redir b o n hb
  refine ⟨rfl, rfl, ?_, ?_⟩
  · unfold selfU
    split
    · simp [renV, bndV, renL, bndL, Url.cells, hb]
    · split <;> simp [renV, bndV, renL, bndL, Url.cells, hb]
  by_cases d0 : doc = []
  · cases hu : parseU url with
    | none => simp -implicitDefEqProofs [go_sem, Tryz.f14, pUParseC, pOfC, hu, urlAns, uOr, Url.V, Url.cells, urlZ, selfU, docOk, d0]
    | some u => simp -implicitDefEqProofs [go_sem, Tryz.f14, pUParseC, pOfC, hu, urlAns, uOr, Url.V, Url.cells, urlZ, selfU, docOk, d0]
  · have d1 : doc.isEmpty = false := by cases doc <;> simp_all
    cases hu : parseU url with
    | none =>
      cases hd : parseU doc with
      | none => simp -implicitDefEqProofs [go_sem, Tryz.f14, pUParseC, pOfC, hu, hd, urlAns, uOr, Url.V, Url.cells, urlZ, selfU, docOk, d0, d1]
      | some d => simp -implicitDefEqProofs [go_sem, Tryz.f14, pUParseC, pOfC, hu, hd, urlAns, uOr, Url.V, Url.cells, urlZ, selfU, docOk, d0, d1]
    | some u =>
      cases hd : parseU doc with
      | none => simp -implicitDefEqProofs [go_sem, Tryz.f14, pUParseC, pOfC, hu, hd, urlAns, uOr, Url.V, Url.cells, urlZ, selfU, docOk, d0, d1]
      | some d => simp -implicitDefEqProofs [go_sem, Tryz.f14, pUParseC, pOfC, hu, hd, urlAns, uOr, Url.V, Url.cells, urlZ, selfU, docOk, d0, d1]
end GoD

/-! Chapter 23: what atoms answer: the program's side. -/
namespace GoD
open Go Go.Proofs
set_option linter.unusedVariables false
set_option linter.unusedSimpArgs false
set_option maxHeartbeats 8000000
set_option maxRecDepth 100000
def askB (k tx dest meth : List Int) (cors creds : Bool) (fs : List (List Int × List Int)) (u : Url) (ok : Bool) (oa ob : List Int) (op : Int) : Bool :=
  if k = [115, 97, 109, 101, 45, 111, 114, 105, 103, 105, 110] then decide (oa = u.sch) && decide (ob = u.ho) && decide (op = portL u.sch u.po) && !oNull oa ob op
  else if k = [116, 114, 117, 115, 116, 101, 100] then trustB u.sch u.ho
  else if k = [99, 114, 101, 100, 115] then creds
  else if k = [99, 111, 114, 115] then cors
  else if k = [109, 101, 116, 104, 111, 100] then decide (methL meth = methL tx)
  else if k = [100, 101, 115, 116] then decide (dest = tx)
  else if k = [115, 99, 104, 101, 109, 101] then decide (u.sch = tx)
  else if k = [104, 101, 97, 100, 101, 114] then decide (0 < (valsL tx fs).length)
  else if k = [104, 111, 115, 116] then ok && hostB tx u.ho
  else if k = [112, 97, 116, 104] then ok && headB u.path tx
  else false
noncomputable def pAskmC : Ct := rct (ctm [(17, List.range 12, [2000082])] Tryz.prog G0 [(43, pOfC), (44, pOSameC), (45, pSecureC), (46, pMethC), (47, pValuesC), (48, pHostC), (49, pHasPreC)]) 15 2
theorem pAskm_ok : CtOk Tryz.prog G0 15 pAskmC := rct_ok (l := [(43, pOfC), (44, pOSameC), (45, pSecureC), (46, pMethC), (47, pValuesC), (48, pHostC), (49, pHasPreC)]) fol (sound_cons pOf_ok (sound_cons pOSame_ok (sound_cons pSecure_ok (sound_cons pMeth_ok (sound_cons pValues_ok (sound_cons pHost_ok (sound_cons pHasPre_ok sound_nil))))))) [(17, List.range 12, [2000082])] (by kernel_rfl)
theorem pAskm_rc {args : List V} {h : Heap} {Q : V → Heap → Prop} {c : Code} (hb : Tryz.f15.body = some c) (hn : args.length = 2) (hr : Run (ctm [(17, List.range 12, [2000082])] Tryz.prog G0 [(43, pOfC), (44, pOSameC), (45, pSecureC), (46, pMethC), (47, pValuesC), (48, pHostC), (49, pHasPreC)]) (Fini (ctm [(17, List.range 12, [2000082])] Tryz.prog G0 [(43, pOfC), (44, pOSameC), (45, pSecureC), (46, pMethC), (47, pValuesC), (48, pHostC), (49, pHasPreC)]) Tryz.f15.results.toList Q) [.c c] args h) : ∃ v h', pAskmC args h = some (v, h') ∧ Q v h' := rct_run [(17, List.range 12, [2000082])] Tryz.func15 hb hn hr
theorem pAskm_go {h : Heap} {p st b o n : Nat} {x : Bool} {k tx doc url dest meth oa ob : List Int} {cors creds ok dk : Bool} {redir op : Int} {u : Url} {fs : List (List Int × List Int)}
    (hg : hget h p = ⟨st + 1, x, [.s doc, .s url, .s dest, .s meth, .b cors, .b creds, .i .i64 redir, .sl b o n 2, .s u.sch, .s u.us, .s u.pa, .s u.ho, .i .i64 u.po, .s u.path, .b u.q, .s u.qu, .b u.f, .s u.fr, .b ok, .s oa, .s ob, .i .i64 op, .b dk]⟩)
    (hf : fldsAt h b o n = some fs) (hm : meth.length ≤ 4000) (ht : tx.length ≤ 1000) (hu : u.ho.length ≤ 1048576) (hfs : ∀ f ∈ fs, f.1.length ≤ 4000) (hn : n ≤ 4000) :
    ∃ v h1, pAskmC [.p p 0, .agg [.s k, .s tx]] h = some (v, h1) ∧ v = .b (askB k tx dest meth cors creds fs u ok oa ob op) ∧ Ext h h1 := by
  have hp : p < h.length := by
    by_cases hb : p < h.length
    · exact hb
    · unfold hget at hg
      rw [List.getD_eq_getElem?_getD, List.getElem?_eq_none (by omega)] at hg
      cases hg
  have hne : ¬ p = h.length := by omega
  have m1 : meth.length ≤ 1048576 := by omega
  have m2 : tx.length ≤ 1048576 := by omega
  have m3 : ∀ f ∈ fs, f.1.length ≤ 1048576 := fun f hf => by have := hfs f hf; omega
  have m4 : n ≤ 1048577 := by omega
  have hF : fldsAt (h ++ [⟨2, true, [.s k, .s tx]⟩, ⟨2, true, [.s tx]⟩]) b o n = some fs := fldsAt_ext ((Ext.refl h).app _) hf
  have hO : oneS (h ++ [⟨2, true, [.s k, .s tx]⟩, ⟨2, true, [.s tx]⟩]) (h.length + 1) = some tx := by
    unfold oneS
    rw [strsAt_of (st := 1) (x := true) (z := [tx]) (n := 1) (by
      unfold hget
      rw [List.getD_eq_getElem?_getD, List.getElem?_append_right (by omega)]
      simp [sts]) (by simp)]
    rfl
  have hV : pValuesC [.sl b o n 2, .sl (h.length + 1) 0 1 1] (h ++ [⟨2, true, [.s k, .s tx]⟩, ⟨2, true, [.s tx]⟩]) = some (.sl (h.length + 2) 0 (valsL tx fs).length 1, h ++ [⟨2, true, [.s k, .s tx]⟩, ⟨2, true, [.s tx]⟩, ⟨2, false, sts (valsL tx fs)⟩]) := by
    unfold pValuesC
    simp only [hF, hO]
    rw [if_pos ⟨m2, m3, m4⟩]
    simp
  refine pAskm_rc rfl rfl ?_
  unfold askB
  by_cases k0 : k = [115, 97, 109, 101, 45, 111, 114, 105, 103, 105, 110]
  · simp -implicitDefEqProofs [go_sem, Tryz.f15, hg, hne, eq_true k0, pOfC, pOSameC]
  by_cases k1 : k = [116, 114, 117, 115, 116, 101, 100]
  · simp -implicitDefEqProofs [go_sem, Tryz.f15, hg, hne, k0, eq_true k1, pSecureC, hu]
  by_cases k2 : k = [99, 114, 101, 100, 115]
  · simp -implicitDefEqProofs [go_sem, Tryz.f15, hg, hne, k0, k1, eq_true k2]
  by_cases k3 : k = [99, 111, 114, 115]
  · simp -implicitDefEqProofs [go_sem, Tryz.f15, hg, hne, k0, k1, k2, eq_true k3]
  by_cases k4 : k = [109, 101, 116, 104, 111, 100]
  · simp -implicitDefEqProofs [go_sem, Tryz.f15, hg, hne, k0, k1, k2, k3, eq_true k4, pMethC, m1, m2]
  by_cases k5 : k = [100, 101, 115, 116]
  · simp -implicitDefEqProofs [go_sem, Tryz.f15, hg, hne, k0, k1, k2, k3, k4, eq_true k5]
  by_cases k6 : k = [115, 99, 104, 101, 109, 101]
  · simp -implicitDefEqProofs [go_sem, Tryz.f15, hg, hne, k0, k1, k2, k3, k4, k5, eq_true k6]
  by_cases k7 : k = [104, 101, 97, 100, 101, 114]
  · simp -implicitDefEqProofs [go_sem, Tryz.f15, hg, hne, k0, k1, k2, k3, k4, k5, k6, eq_true k7, hV]
  by_cases k8 : k = [104, 111, 115, 116]
  · cases ok <;> simp -implicitDefEqProofs [go_sem, Tryz.f15, hg, hne, k0, k1, k2, k3, k4, k5, k6, k7, eq_true k8, pHostC, hu]
  by_cases k9 : k = [112, 97, 116, 104]
  · cases ok <;> simp -implicitDefEqProofs [go_sem, Tryz.f15, hg, hne, k0, k1, k2, k3, k4, k5, k6, k7, k8, eq_true k9, pHasPreC]
  simp -implicitDefEqProofs [go_sem, Tryz.f15, hg, hne, k0, k1, k2, k3, k4, k5, k6, k7, k8, k9]
end GoD
