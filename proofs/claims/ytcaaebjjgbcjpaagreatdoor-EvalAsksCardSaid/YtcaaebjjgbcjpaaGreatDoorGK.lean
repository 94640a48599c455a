import Derived.Test.YtcaaebjjgbcjpaaGreatDoorGI
import Derived.Test.YtcaaebjjgbcjpaaGreatDoorOU
/-! Chapter 23: questions, both sides. -/
namespace GoD
open Go Go.Proofs
set_option linter.unusedVariables false
set_option linter.unusedSimpArgs false
set_option maxHeartbeats 8000000
set_option maxRecDepth 100000
theorem agg_str {r : List (Option Loc)} {l m : List V} {xs : List Value} (hx : RL r (.agg l :: m) xs) {i : Nat} {s : List Int} (hi : l[i]? = some (.s s)) : Str s := by
  cases hx with | cons h1 h2 =>
  cases h1 with | agg _ ys h3 =>
  obtain ⟨x, _, hr⟩ := h3.get? hi
  cases hr with | s _ hl => exact hl
theorem RL_tail {r : List (Option Loc)} {v : V} {m : List V} {xs : List Value} (hx : RL r (v :: m) xs) : ∃ ys, RL r m ys := by
  cases hx with | cons h1 h2 => exact ⟨_, h2⟩
def selfT (P : List Int → Option Url) (doc : List Int) : List Int × List Int × Int := if doc = [] then ([], [], 0) else match P doc with
  | some u => (u.sch, u.ho, portL u.sch u.po)
  | none => ([], [], 0)
theorem selfU_T (P : List Int → Option Url) (doc : List Int) : selfU P doc = [.s (selfT P doc).1, .s (selfT P doc).2.1, .i .i64 (selfT P doc).2.2] := by
  unfold selfU selfT
  split
  · rfl
  · cases P doc <;> rfl
def askQ (P : List Int → Option Url) (k tx doc url dest meth : List Int) (cors creds : Bool) (fs : List (List Int × List Int)) : Bool :=
  askB k tx dest meth cors creds fs (uOr (P url)) (P url).isSome (selfT P doc).1 (selfT P doc).2.1 (selfT P doc).2.2
theorem urlL_sch {l : List Int} {u : Url} (h : urlL l = some u) : u.sch ≠ [] := by
  unfold urlL at h
  split at h
  · cases h
  · split at h
    · unfold url1 at h
      split at h
      · rename_i hd
        unfold url2 at h
        split at h
        · cases h
        · rw [← Option.some.inj h]
          show lowerL _ ≠ []
          intro e
          rw [e] at hd
          exact absurd hd (by decide)
      · cases h
    · cases h
theorem urlL_ok (l : List Int) : (urlL l).isSome = decide ((uOr (urlL l)).sch ≠ []) := by
  cases hu : urlL l with
  | none => rfl
  | some u => simp [uOr, urlL_sch hu]
theorem uOr_ho {l : List Int} (hl : l.length ≤ 4000) : (uOr (urlL l)).ho.length ≤ 1048576 := by
  cases hu : urlL l with
  | none => simp [uOr, urlZ]
  | some u => have := (urlL_len hu).1; simp [uOr]; omega
theorem uOr_z (l : List Int) : (uOr (urlL l)).sch = [] → uOr (urlL l) = urlZ := by
  cases hu : urlL l with
  | none => intro _; rfl
  | some u => intro h; exact absurd h (urlL_sch hu)
theorem trust_z : trustB [] [] = false := by kernel_rfl
def okQ (tx doc url meth : List Int) (n : Nat) (fs : List (List Int × List Int)) : Prop := tx.length ≤ 1000 ∧ doc.length ≤ 4000 ∧ url.length ≤ 4000 ∧ meth.length ≤ 4000 ∧ n ≤ 4000 ∧ ∀ f ∈ fs, f.1.length ≤ 4000
instance (tx doc url meth : List Int) (n : Nat) (fs : List (List Int × List Int)) : Decidable (okQ tx doc url meth n fs) := by unfold okQ; infer_instance
def pAskC : Ct := fun args h => match args with
  | [.agg [.s k, .s tx], .agg [.s doc, .s url, .s dest, .s meth, .b cors, .b creds, .i .i64 redir, .sl b o n 2]] => (match fldsAt h b o n with
    | some fs => if okQ tx doc url meth n fs then some (.b (askQ parseU k tx doc url dest meth cors creds fs), h) else none
    | none => none)
  | _ => none
theorem pAsk_ok : CtOk Tryz.prog G0 7 pAskC := by
  refine ct_plain (n := 2) fol (sound_cons pLook_ok (sound_cons pAskm_ok sound_nil)) (by kernel_rfl) Tryz.func7 rfl fun args h v h' hc r xs H hr hx => ?_
  unfold pAskC at hc; split at hc <;> (try split at hc) <;> (try split at hc) <;> cases hc
  rename_i k tx doc url dest meth cors creds redir b o n _ fs hf hl
  obtain ⟨l1, l2, l3, l4, l5, l6⟩ := hl
  have hb := fldsAt_lt hf
  refine ⟨rfl, rfl, by simp [renV, bndV], ?_⟩
  obtain ⟨_, hx2⟩ := RL_tail hx
  have hpu := parse_eq (agg_str hx2 (i := 1) rfl).1
  unfold askQ
  have hb2 : b < h.length + 2 := by omega
  obtain ⟨oa, ob, op, hT⟩ : ∃ oa ob op, selfT parseU doc = (oa, ob, op) := ⟨_, _, _, rfl⟩
  obtain ⟨u, hu⟩ : ∃ u, uOr (parseU url) = u := ⟨_, rfl⟩
  obtain ⟨ok, hok⟩ : ∃ ok, (parseU url).isSome = ok := ⟨_, rfl⟩
  obtain ⟨dk, hdk⟩ : ∃ dk, docOk parseU doc = dk := ⟨_, rfl⟩
  have hho : u.ho.length ≤ 1048576 := by rw [← hu, hpu]; exact uOr_ho l3
  simp -implicitDefEqProofs [go_sem, Tryz.f7, pLookC, hb2, selfU_T, hT, hu, hok, hdk, Url.cells]
  obtain ⟨v, h1, e1, rfl, he1⟩ := pAskm_go (h := h ++ [⟨2, true, [.s k, .s tx]⟩, ⟨2, true, [.s doc, .s url, .s dest, .s meth, .b cors, .b creds, .i .i64 redir, .sl b o n 2]⟩, ⟨2, true, [.s doc, .s url, .s dest, .s meth, .b cors, .b creds, .i .i64 redir, .sl b o n 2, .s u.sch, .s u.us, .s u.pa, .s u.ho, .i .i64 u.po, .s u.path, .b u.q, .s u.qu, .b u.f, .s u.fr, .b ok, .s oa, .s ob, .i .i64 op, .b dk]⟩]) (p := h.length + 2) (st := 1) (x := true) (k := k) (tx := tx) (doc := doc) (url := url) (dest := dest) (meth := meth) (cors := cors) (creds := creds) (redir := redir) (b := b) (o := o) (n := n) (u := u) (fs := fs) (ok := ok) (oa := oa) (ob := ob) (op := op) (dk := dk) (by
      unfold hget
      rw [List.getD_eq_getElem?_getD, List.getElem?_append_right (by omega)]
      simp [show h.length + 2 - h.length = 2 by omega]) (fldsAt_ext ((Ext.refl h).app _) hf) l4 l1 hho l6 l5
  simp -implicitDefEqProofs [go_sem, e1]
  exact ((Ext.refl h).app _).trans he1
end GoD

/-! Chapter 23: questions, the document's side. -/
namespace GoD
open Go Go.Proofs
set_option linter.unusedVariables false
set_option linter.unusedSimpArgs false
set_option maxHeartbeats 8000000
set_option maxRecDepth 100000
def rSelfQC : Ct := fun args h => match args with
  | [.agg [.s doc, .s url, .s dest, .s meth, .b cors, .b creds, .i .i64 redir, .sl b o n 2]] => if b < h.length then some (.tup [.agg (selfU urlL doc), .b (docOk urlL doc)], h) else none
  | _ => none
theorem rSelfQ_ok : CtOk Tryz.prog G0 17 rSelfQC := by
  refine ct_plain (n := 1) fol (sound_cons rURL_ok (sound_cons rOf_ok sound_nil)) (by kernel_rfl) Tryz.func17 rfl fun args h v h' hc r xs H hr hx => ?_
  unfold rSelfQC at hc; split at hc <;> (try split at hc) <;> cases hc
  rename_i doc url dest meth cors creds redir b o n hb
  refine ⟨rfl, rfl, ?_, ?_⟩
  · unfold selfU
    split
    · simp [renV, bndV, renL, bndL]
    · split <;> simp [renV, bndV, renL, bndL]
  by_cases d0 : doc = []
  · simp -implicitDefEqProofs [go_sem, Tryz.f17, selfU, docOk, d0]
  · have d1 : doc.isEmpty = false := by cases doc <;> simp_all
    cases hd : urlL doc with
    | none => simp -implicitDefEqProofs [go_sem, Tryz.f17, rURLC, rOfC, hd, urlAns, Url.V, Url.cells, urlZ, selfU, docOk, d0, d1]
    | some d => simp -implicitDefEqProofs [go_sem, Tryz.f17, rURLC, rOfC, hd, urlAns, Url.V, Url.cells, urlZ, selfU, docOk, d0, d1]
def rAskedC : Ct := fun args h => match args with
  | [.agg [.s k, .s tx], .agg [.s doc, .s url, .s dest, .s meth, .b cors, .b creds, .i .i64 redir, .sl b o n 2], .agg [.s u0, .s u1, .s u2, .s u3, .i .i64 u4, .s u5, .b u6, .s u7, .b u8, .s u9], .agg [.s oa, .s ob, .i .i64 op]] => (match fldsAt h b o n with
    | some fs => if (tx.length ≤ 1000 ∧ meth.length ≤ 4000 ∧ n ≤ 4000 ∧ (∀ f ∈ fs, f.1.length ≤ 4000)) ∧ u3.length ≤ 1048576 ∧ (u0 = [] → u1 = [] ∧ u2 = [] ∧ u3 = [] ∧ u4 = 0 ∧ u5 = [] ∧ u6 = false ∧ u7 = [] ∧ u8 = false ∧ u9 = []) then some (.b (askB k tx dest meth cors creds fs ⟨u0, u1, u2, u3, u4, u5, u6, u7, u8, u9⟩ (decide (u0 ≠ [])) oa ob op), h) else none
    | none => none)
  | _ => none
theorem rAsked_ok : CtOk Tryz.prog G0 18 rAskedC := by
  refine ct_plain (n := 4) fol (sound_cons rOf_ok (sound_cons rOSame_ok (sound_cons rSecure_ok (sound_cons rMeth_ok (sound_cons rValues_ok (sound_cons rHostMatch_ok sound_nil)))))) (by kernel_rfl) Tryz.func18 rfl fun args h v h' hc r xs H hr hx => ?_
  unfold rAskedC at hc; split at hc <;> (try split at hc) <;> (try split at hc) <;> cases hc
  rename_i k tx doc url dest meth cors creds redir b o n u0 u1 u2 u3 u4 u5 u6 u7 u8 u9 oa ob op _ fs hf hl
  obtain ⟨⟨l1, l4, l5, l6⟩, hu, hz⟩ := hl
  refine ⟨rfl, rfl, by simp [renV, bndV], ?_⟩
  have m1 : meth.length ≤ 1048576 := by omega
  have m2 : tx.length ≤ 1048576 := by omega
  have m3 : ∀ f ∈ fs, f.1.length ≤ 1048576 := fun f hf => by have := l6 f hf; omega
  have m4 : n ≤ 1048577 := by omega
  have hV : ∀ A B C D E, E = (⟨2, true, [.s tx]⟩ : Blk) → rValuesC [.sl b o n 2, .sl (h.length + 4) 0 1 1] (h ++ [A, B, C, D, E]) = some (.sl (h.length + 5) 0 (valsL tx fs).length 1, h ++ [A, B, C, D, E, ⟨2, false, sts (valsL tx fs)⟩]) := fun A B C D E hE => by
    have hF : fldsAt (h ++ [A, B, C, D, E]) b o n = some fs := fldsAt_ext ((Ext.refl h).app _) hf
    have hO : oneS (h ++ [A, B, C, D, E]) (h.length + 4) = some tx := by
      unfold oneS
      rw [strsAt_of (st := 1) (x := true) (z := [tx]) (n := 1) (by
        unfold hget
        rw [List.getD_eq_getElem?_getD, List.getElem?_append_right (by omega)]
        simp [sts, show h.length + 4 - h.length = 4 by omega, hE]) (by simp)]
      rfl
    unfold rValuesC
    simp only [hF, hO]
    rw [if_pos ⟨m2, m3, m4⟩]
    simp
  unfold askB
  by_cases z : u0 = []
  · obtain ⟨rfl, rfl, rfl, rfl, rfl, rfl, rfl, rfl, rfl⟩ := hz z
    subst z
    by_cases k0 : k = [115, 97, 109, 101, 45, 111, 114, 105, 103, 105, 110]
    · simp -implicitDefEqProofs [go_sem, Tryz.f18, eq_true k0, rOfC, rOSameC, trust_z]
    by_cases k1 : k = [116, 114, 117, 115, 116, 101, 100]
    · simp -implicitDefEqProofs [go_sem, Tryz.f18, k0, eq_true k1, rSecureC, hu, trust_z]
    by_cases k2 : k = [99, 114, 101, 100, 115]
    · simp -implicitDefEqProofs [go_sem, Tryz.f18, k0, k1, eq_true k2, trust_z]
    by_cases k3 : k = [99, 111, 114, 115]
    · simp -implicitDefEqProofs [go_sem, Tryz.f18, k0, k1, k2, eq_true k3, trust_z]
    by_cases k4 : k = [109, 101, 116, 104, 111, 100]
    · simp -implicitDefEqProofs [go_sem, Tryz.f18, k0, k1, k2, k3, eq_true k4, rMethC, m1, m2, trust_z]
    by_cases k5 : k = [100, 101, 115, 116]
    · simp -implicitDefEqProofs [go_sem, Tryz.f18, k0, k1, k2, k3, k4, eq_true k5, trust_z]
    by_cases k6 : k = [115, 99, 104, 101, 109, 101]
    · simp -implicitDefEqProofs [go_sem, Tryz.f18, k0, k1, k2, k3, k4, k5, eq_true k6, trust_z]
      cases tx <;> simp
    by_cases k7 : k = [104, 101, 97, 100, 101, 114]
    · simp -implicitDefEqProofs [go_sem, Tryz.f18, k0, k1, k2, k3, k4, k5, k6, eq_true k7, hV, trust_z]
    by_cases k8 : k = [104, 111, 115, 116]
    · simp -implicitDefEqProofs [go_sem, Tryz.f18, k0, k1, k2, k3, k4, k5, k6, k7, eq_true k8, rHostMatchC, hu, trust_z]
    by_cases k9 : k = [112, 97, 116, 104]
    · simp -implicitDefEqProofs [go_sem, Tryz.f18, k0, k1, k2, k3, k4, k5, k6, k7, k8, eq_true k9, headB, m2, trust_z]
    simp -implicitDefEqProofs [go_sem, Tryz.f18, k0, k1, k2, k3, k4, k5, k6, k7, k8, k9, trust_z]
  · have z1 : u0.isEmpty = false := by cases u0 <;> simp_all
    by_cases k0 : k = [115, 97, 109, 101, 45, 111, 114, 105, 103, 105, 110]
    · simp -implicitDefEqProofs [go_sem, Tryz.f18, eq_true k0, rOfC, rOSameC, z, z1]
    by_cases k1 : k = [116, 114, 117, 115, 116, 101, 100]
    · simp -implicitDefEqProofs [go_sem, Tryz.f18, k0, eq_true k1, rSecureC, hu, z, z1]
    by_cases k2 : k = [99, 114, 101, 100, 115]
    · simp -implicitDefEqProofs [go_sem, Tryz.f18, k0, k1, eq_true k2, z, z1]
    by_cases k3 : k = [99, 111, 114, 115]
    · simp -implicitDefEqProofs [go_sem, Tryz.f18, k0, k1, k2, eq_true k3, z, z1]
    by_cases k4 : k = [109, 101, 116, 104, 111, 100]
    · simp -implicitDefEqProofs [go_sem, Tryz.f18, k0, k1, k2, k3, eq_true k4, rMethC, m1, m2, z, z1]
    by_cases k5 : k = [100, 101, 115, 116]
    · simp -implicitDefEqProofs [go_sem, Tryz.f18, k0, k1, k2, k3, k4, eq_true k5, z, z1]
    by_cases k6 : k = [115, 99, 104, 101, 109, 101]
    · simp -implicitDefEqProofs [go_sem, Tryz.f18, k0, k1, k2, k3, k4, k5, eq_true k6, z, z1]
    by_cases k7 : k = [104, 101, 97, 100, 101, 114]
    · simp -implicitDefEqProofs [go_sem, Tryz.f18, k0, k1, k2, k3, k4, k5, k6, eq_true k7, hV, z, z1]
    by_cases k8 : k = [104, 111, 115, 116]
    · simp -implicitDefEqProofs [go_sem, Tryz.f18, k0, k1, k2, k3, k4, k5, k6, k7, eq_true k8, rHostMatchC, hu, z, z1]
    by_cases k9 : k = [112, 97, 116, 104]
    · by_cases e1 : tx.length ≤ u5.length
      · simp -implicitDefEqProofs [go_sem, Tryz.f18, k0, k1, k2, k3, k4, k5, k6, k7, k8, eq_true k9, headB, m2, z, z1, e1]
      · simp -implicitDefEqProofs [go_sem, Tryz.f18, k0, k1, k2, k3, k4, k5, k6, k7, k8, eq_true k9, headB, m2, z, z1, e1]
    simp -implicitDefEqProofs [go_sem, Tryz.f18, k0, k1, k2, k3, k4, k5, k6, k7, k8, k9, z, z1]
end GoD
