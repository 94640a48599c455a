import Derived.Test.YtkhcoeampamegaaGreatDoorNF
import Derived.Test.YtkhcoeampamegaaGreatDoorLT
/-! DirectMore. -/
namespace GoD
open Go Go.Proofs
set_option linter.unusedVariables false
set_option linter.unusedSimpArgs false
set_option maxHeartbeats 40000000
set_option maxRecDepth 100000
theorem ct_plainM {P : Program} {G : Nat → List V} {l : List (FuncId × Ct)} (hm : P.follows .mixedOrders = true) (hl : Sound (ctx P G l)) (pm : List (Nat × List Nat × List Nat)) {f n : FuncId} {fn : Func} {c : Code} {C : Ct} (hok : okFnM P pm f n = true) (hf : P.funcs[f]? = some fn) (hb : fn.body = some c)
    (hc : ∀ args h v h', C args h = some (v, h') → ∀ (r : List (Option Loc)) (xs : List Value) (H : Array Obj), HR G r h H → RL r args xs → args.length = n ∧ h' = h ∧ (renV id v = v ∧ bndV h.length v) ∧ Run (ctm pm P G l) (Fini (ctm pm P G l) fn.results.toList fun v' h1 => v' = v ∧ Ext h h1) [.c c] args h) : CtOk P G f C :=
  ct_okM hm hl pm hok fun args h v h' h1 r xs H hr hx => by
    obtain ⟨e1, rfl, e2, e3⟩ := hc args h v h' h1 r xs H hr hx
    obtain ⟨k, v', h2, e4, rfl, e5⟩ := call_of_run (E := ctm pm P G l) hf hb e3
    exact ⟨e1, k, v', h2, id, e4, Trim.flat e2 e5⟩
theorem run_gen {E : Env} {P : Ex → Tm → Heap → Prop} {c : List Todo} {h : Heap} {t : Tm} (Q : Tm → Prop) (hq : Q t) (hr : ∀ t, Q t → Run E P c t h) : Run E P c t h := hr t hq
theorem fadeH_self (h : Heap) : fadeH h h = h := by simp [fadeH]
theorem fadeH_set {h H : Heap} {i : Nat} {b : Blk} (hi : h.length ≤ i) : fadeH h (H.set i b) = fadeH h H := by
  unfold fadeH
  rw [List.length_set, List.take_set_of_le hi]
theorem fadeH_app {h H l : Heap} (hl : h.length ≤ H.length) : fadeH h (H ++ l) = fadeH h H ++ List.replicate l.length dead := by
  unfold fadeH
  rw [List.take_append_of_le_length hl, List.length_append, show H.length + l.length - h.length = (H.length - h.length) + l.length by omega, ← List.replicate_append_replicate, List.append_assoc]
def pAllNC : Ct := fun args h => match args with
  | [.c (.slice none 0 0), .s ds, .agg [.s a, .s b, .s c, .s d, .i .i64 p, .s e, .b q, .s f, .b g, .s x], .agg [.s os, .s oh, .i .i64 op], .i .i64 rd] => some (.b true, h)
  | _ => none
theorem pAllN_ok : CtOk Tryz.prog G0 22 pAllNC := by
  refine ct_plain (n := 5) fol (sound_cons pAllows_ok sound_nil) (by kernel_rfl) Tryz.func22 rfl fun args h v h' hc r xs H hr hx => ?_
  unfold pAllNC at hc; split at hc <;> (try split at hc) <;> cases hc
  rename_i ds a b c d p e q f g x os oh op rd
  refine ⟨rfl, rfl, by simp [renV, bndV], ?_⟩
  simp -implicitDefEqProofs [go_sem, Tryz.f22]
  refine run_inv _ _ _ _ _ (fun (x : Unit) t h1 => get t 14 = .i .i64 0 ∧ get t 15 = .i .i64 0 ∧ Ext h h1) (fun _ => 0) _ (x := ()) ⟨rfl, rfl, (Ext.refl h).app _⟩ ?_
  rintro _ t h1 ⟨t14, t15, hE⟩ ih
  simp -implicitDefEqProofs [go_sem, Tryz.f22, t14, t15, hE]
def pAll2C : Ct := fun args h => match pAllNC args h with
  | some x => some x
  | none => pAllC args h
theorem pAll2_ok : CtOk Tryz.prog G0 22 pAll2C := by
  intro args h v h' hc
  unfold pAll2C at hc
  split at hc
  · rename_i x hx
    cases hc
    exact pAllN_ok _ _ _ _ hx
  · exact pAll_ok _ _ _ _ hc
def pLaw16mC : Ct := fun args h => match args with
  | [.sl b o n 1, .s mo, .s ds, .s s, .s dc] => (match strsAt h b o n with | some y => if (∀ p ∈ y, p.length ≤ 281474976710656) then some (.b true, h) else none | none => none)
  | _ => none
theorem pLaw16m_ok : CtOk Tryz.prog G0 8 pLaw16mC := by
  refine ct_plainM (n := 5) fol (sound_cons pAwake16_ok (sound_cons pParsed_ok (sound_cons pSelf_ok (sound_cons pTotal_ok (sound_cons pAll2_ok sound_nil))))) [(5, [1, 3, 6, 8, 7, 0, 2, 4, 5, 9, 10, 11], [49]), (5, [1, 3, 6, 8, 0, 7, 2, 4, 5, 9, 10, 11], [49]), (5, [1, 3, 6, 8, 0, 2, 7, 4, 5, 9, 10, 11], [49]), (5, [1, 3, 6, 8, 0, 2, 4, 7, 5, 9, 10, 11], [49]), (5, [1, 3, 6, 8, 0, 2, 4, 5, 7, 9, 10, 11], [49]), (5, [1, 3, 6, 8, 7, 0, 4, 2, 5, 9, 10, 11], [49]), (5, [1, 3, 6, 8, 0, 7, 4, 2, 5, 9, 10, 11], [49]), (5, [1, 3, 6, 8, 0, 4, 7, 2, 5, 9, 10, 11], [49]), (5, [1, 3, 6, 8, 0, 4, 2, 7, 5, 9, 10, 11], [49]), (5, [1, 3, 6, 8, 0, 4, 2, 5, 7, 9, 10, 11], [49]), (5, [1, 3, 6, 8, 7, 4, 0, 2, 5, 9, 10, 11], [49]), (5, [1, 3, 6, 8, 4, 7, 0, 2, 5, 9, 10, 11], [49]), (5, [1, 3, 6, 8, 4, 0, 7, 2, 5, 9, 10, 11], [49]), (5, [1, 3, 6, 8, 4, 0, 2, 7, 5, 9, 10, 11], [49]), (5, [1, 3, 6, 8, 4, 0, 2, 5, 7, 9, 10, 11], [49])] (by kernel_rfl) Tryz.func8 rfl fun args h v h' hc r xs H hr hx => ?_
  unfold pLaw16mC at hc; split at hc <;> (try split at hc) <;> (try split at hc) <;> cases hc
  rename_i b o n mo ds s dc _ y hy hyl
  obtain ⟨st, xx, c, hg, hld, hn, hc⟩ := strsAt_eq hy
  obtain ⟨hn6, _, hx2⟩ := sl_of hx
  obtain ⟨⟨_, hml⟩, _, hx3⟩ := str_of hx2
  obtain ⟨⟨_, hdl⟩, _⟩ := str_of hx3
  have hbl := hget_pos hg
  refine ⟨rfl, rfl, by simp [renV, bndV], ?_⟩
  obtain ⟨u, hu⟩ : ∃ u, urlOr s = u := ⟨_, rfl⟩
  obtain ⟨og, hog⟩ : ∃ og, selfO dc = og := ⟨_, rfl⟩
  cases h1 : urlOk s with
  | false => simp -implicitDefEqProofs [go_sem, Tryz.f8, pAwake16C, pParsedC, h1, Url.V, Url.cells]
  | true =>
    obtain ⟨hho, hpa⟩ := urlOk_len h1
    rw [hu] at hho hpa
    have hy1 : strsAt (h ++ [⟨2, true, u.cells⟩]) b o n = some y := by
      rw [← hy]; unfold strsAt; rw [hget_lt hbl]
    unfold Url.cells at hy1
    have htg := totL_ge 2000 y (n : Int)
    have htu := totL_up (m := 2000) (B := 281474976710656) (l := y) (n := n) (fun p hp => by have := hyl p hp; omega) (by omega)
    have w := w64 (x := totL 2000 n y + ds.length) (by omega)
    have w2 := w64 (x := totL 2000 n y + ds.length + mo.length) (by omega)
    by_cases h2 : 2000 < totL 2000 n y + ds.length + mo.length
    · simp -implicitDefEqProofs [go_sem, Tryz.f8, pAwake16C, pParsedC, pTotalC, h1, hu, hy1, eq_true hyl, w, w2, h2, Url.V, Url.cells]
    · have hsh := totL_le (show totL 2000 n y ≤ 2000 by omega) (by omega)
      have hsh2 : ∀ p ∈ y, p.length ≤ 1048576 := fun p hp => by have := hsh p hp; omega
      have hnl : n ≤ 2000 := by omega
      simp only [Tryz.f8, run_seq]
      generalize hK : (Code.region 4 _ _).seq _ = K
      simp -implicitDefEqProofs [go_sem, pAwake16C, pParsedC, pTotalC, h1, hu, hy1, eq_true hyl, w, w2, h2, Url.V, Url.cells]
      generalize hh1 : h ++ [(⟨2, true, [V.s u.sch, V.s u.us, V.s u.pa, V.s u.ho, V.i IntKind.i64 u.po, V.s u.path, V.b u.q, V.s u.qu, V.b u.f, V.s u.fr]⟩ : Blk)] = h1
      have hE : Ext h h1 := hh1 ▸ (Ext.refl h).app _
      have hg0 : hget h1 h.length = ⟨2, true, [V.s u.sch, V.s u.us, V.s u.pa, V.s u.ho, V.i IntKind.i64 u.po, V.s u.path, V.b u.q, V.s u.qu, V.b u.f, V.s u.fr]⟩ := by rw [← hh1, hget_at0 rfl]; rfl
      have hl1 : h.length < h1.length := by rw [← hh1]; simp
      have hgb : hget h1 b = ⟨st + 1, xx, c⟩ := by rw [← hh1, hget_lt hbl]; exact hg
      have hy2 : strsAt h1 b o n = some y := by rw [← hh1]; exact hy1
      refine run_gen (fun t => get t 0 = .sl b o n 1 ∧ get t 1 = .s mo ∧ get t 2 = .s ds ∧ get t 4 = .s dc ∧ get t 11 = .p h.length 0) (by simp -implicitDefEqProofs [go_sem]) ?_
      rintro t ⟨t0, t1, t2, t4, t11⟩
      subst hK
      simp only [run_seq]
      generalize hK : (Code.region 5 _ _).seq _ = K
      simp -implicitDefEqProofs [go_sem, t0, t1, t2, t4, t11, hg0, pSelfC, hog, Org.V, Org.cells, pAll2C, pAllNC, pAllC, hy2, eq_true hsh2, hho, hpa]
      obtain ⟨A, hA⟩ : ∃ A : List Int → Bool, A = fun s => allowB s ds u.sch u.ho u.po u.path og.sch og.ho og.po 0 := ⟨_, rfl⟩
      rw [← hA]
      have hA1 : ∀ s, allowB s ds u.sch u.ho u.po u.path og.sch og.ho og.po 0 = A s := fun s => by rw [hA]
      refine run_gen (fun t => get t 0 = .sl b o n 1 ∧ get t 1 = .s mo ∧ get t 2 = .s ds ∧ get t 4 = .s dc ∧ get t 11 = .p h.length 0 ∧ get t 13 = .b (y.all A)) (by simp -implicitDefEqProofs [go_sem, t0, t1, t2, t4, t11]) ?_
      clear t0 t1 t2 t4 t11
      clear t
      rintro t ⟨t0, t1, t2, t4, t11, t13⟩
      subst hK
      simp only [run_seq]
      generalize hK : (Code.region 6 _ _).seq _ = K
      have hyn : y.length = n := hn
      have hld1 : ldN c o n = some (sts y) := hld
      have hS : ∀ (H : Heap) (q : Nat), hget H q = ⟨2, false, sts y ++ [V.s mo]⟩ → strsAt H q 0 (n + 1) = some (y ++ [mo]) := fun H q hq => by
        unfold strsAt
        rw [hq]
        have e1 : sts y ++ [V.s mo] = sts (y ++ [mo]) := by simp [sts]
        have e2 : n + 1 = (y ++ [mo]).length := by simp [hyn]
        simp only [e1, e2, ldN_sts, strsV_map]
      have hall : ∀ p ∈ y ++ [mo], p.length ≤ 1048576 := fun p hp => by
        rcases List.mem_append.1 hp with hp | hp
        · exact hsh2 p hp
        · simp at hp; subst hp; omega
      have hall2 : (∀ p ∈ y ++ [mo], p.length ≤ 1048576) = True := eq_true hall
      have n1 : ¬ b = h1.length := by have := alive hgb; omega
      have o1 : (sts y).all isOne = true := by rw [List.all_eq_true]; intro v hv; obtain ⟨p, _, rfl⟩ := List.mem_map.1 hv; rfl
      have o2 : (sts y).length = n := by rw [sts_len, hyn]
      have o3 : n * 16 ≤ 1099511627776 := by omega
      have o4 : (n + 1) * 16 ≤ 1099511627776 := by omega
      have o5 : ldN (sts y) 0 n = some (sts y) := by have := ldN_sts y; rwa [hyn] at this
      simp (maxSteps := 8000000) [go_sem, allS, multiS, pick, t0, t1, t2, t4, t11, t13, hg0, hgb, hget_lt hl1, hget_lt (alive hgb), n1, hld1, o1, o2, o3, o4, o5, pSelfC, hog, Org.V, Org.cells, pAll2C, pAllNC, pAllC, hS, hall2, hho, hpa, hA1]
      have hall4 : (u.ho.length ≤ 1048576 ∧ u.path.length ≤ 1048576 ∧ ∀ s ∈ y ++ [mo], s.length ≤ 1048576) = True := eq_true ⟨hho, hpa, hall⟩
      simp (maxSteps := 8000000) only [hall4, if_true, ctm_same]
      simp (maxSteps := 8000000) [go_sem, fadeT, isAsg, fadeH_app, fadeH_self]
      have hE2 : Ext h (h1 ++ [dead, dead, dead, dead]) := hE.app _
      have hg2 : hget (h1 ++ [dead, dead, dead, dead]) h.length = ⟨2, true, [V.s u.sch, V.s u.us, V.s u.pa, V.s u.ho, V.i IntKind.i64 u.po, V.s u.path, V.b u.q, V.s u.qu, V.b u.f, V.s u.fr]⟩ := by rw [hget_lt hl1]; exact hg0
      refine run_gen (fun t => get t 2 = .s ds ∧ get t 4 = .s dc ∧ get t 11 = .p h.length 0 ∧ get t 13 = .b (y.all A) ∧ get t 14 = .b (y.all A && A mo)) (by simp -implicitDefEqProofs [go_sem, t2, t4, t11, t13]) ?_
      clear t0 t1 t2 t4 t11 t13
      clear t
      rintro t ⟨t2, t4, t11, t13, t14⟩
      subst hK
      generalize h1 ++ [dead, dead, dead, dead] = h2 at hE2 hg2 ⊢
      obtain ⟨B, hB⟩ : ∃ B, y.all A = B := ⟨_, rfl⟩
      obtain ⟨D, hD⟩ : ∃ D, A mo = D := ⟨_, rfl⟩
      rw [hB] at t13 t14
      rw [hD] at t14
      cases B <;> cases D <;> simp -implicitDefEqProofs [go_sem, t2, t4, t11, t13, t14, hg2, pSelfC, hog, Org.V, Org.cells, pAll2C, pAllNC, pAwake16C, hE2]
end GoD
