import Derived.Test.YtkollnjnfdpolaaKC
/-! KeepNothing. -/
namespace GoD
open Go Go.Proofs
set_option linter.unusedVariables false
set_option linter.unusedSimpArgs false
set_option maxHeartbeats 4000000
set_option maxRecDepth 100000
theorem known_still {P : Program} {G : Nat → List V} {f : FuncId} {args : List V} {v : V} {h' : Heap} (hk : Known P G f args [] v h') (h1 : flatL args = true) (h2 : flatV v = true) (h : Heap) : Known P G f args h v h := by
  rcases hk with ⟨h3, h4⟩ | ⟨rfl, h4⟩
  · exact .inl ⟨h3, h4.still h1 h2⟩
  · exact .inr ⟨rfl, h4⟩
/-- what the code itself reckons, but for what it leaves behind -/
theorem known_run {f : FuncId} {args : List V} {h : Heap} {v : V} (he : (callN Try.prog G0 [] [] pm6 ext0 300 40 f args h).map (·.1) = some v) : ∃ h', Known Try.prog G0 f args h v h' := by
  obtain ⟨⟨v', h'⟩, h1, h2⟩ := Option.map_eq_some_iff.1 he
  simp only at h2
  subst h2
  exact ⟨h', callN_ok fol okA ext0_ok 40 [] _ _ _ _ _ h1⟩
theorem known_run2 {f : FuncId} {args : List V} {h : Heap} {v : V} {h' : Heap} (he : callN Try.prog G0 [] [] pm6 ext0 300 40 f args h = some (v, h')) : Known Try.prog G0 f args h v h' := callN_ok fol okA ext0_ok 40 [] _ _ _ _ _ he
def pAwake6C : Ct := fun args h => match args with | [] => some (.b true, h) | _ => none
theorem pAwake6_ok : CtOk Try.prog G0 6 pAwake6C := fun args h v h' hc => by
  unfold pAwake6C at hc
  split at hc
  · cases hc; exact known_still aT32 rfl rfl _
  · cases hc
theorem aliveK {h : Heap} {b st : Nat} {x : Bool} {c : List V} (hg : hget h b = ⟨st + 1, x, c⟩) : b < h.length := by
  by_cases hb : b < h.length
  · exact hb
  · unfold hget at hg
    rw [List.getD_eq_getElem?_getD, List.getElem?_eq_none (by omega)] at hg
    cases hg
abbrev zH : V := .agg [.i .i64 0, .i .i64 0, .i .i64 0, .i .i64 0, .c (.slice none 0 0), .s [], .c (.slice none 0 0)]
def pNextNC : Ct := fun args h => match args with | [.c (.pointer none)] => some (zH, h) | _ => none
theorem pNextN_ok : CtOk Try.prog G0 25 pNextNC := fun args h v h' hc => by
  unfold pNextNC at hc
  split at hc
  · cases hc
    obtain ⟨k, hk⟩ := known_run (f := 25) (args := [.c (.pointer none)]) (h := []) (v := zH) (by kernel_rfl)
    exact known_still hk rfl rfl _
  · cases hc
def pHardNC : Ct := fun args h => match args with | [.c (.pointer none)] => some (zH, h) | _ => none
theorem pHardN_ok : CtOk Try.prog G0 10 pHardNC := fun args h v h' hc => by
  unfold pHardNC at hc
  split at hc
  · cases hc
    obtain ⟨k, hk⟩ := known_run (f := 10) (args := [.c (.pointer none)]) (h := []) (v := zH) (by kernel_rfl)
    exact known_still hk rfl rfl _
  · cases hc
open Classical in
noncomputable def pSameNC : Ct := fun args h => if args = [zH, zH] then some (.b true, h) else none
theorem pSameN_ok : CtOk Try.prog G0 9 pSameNC := fun args h v h' hc => by
  unfold pSameNC at hc
  split at hc
  · rename_i e
    subst e
    cases hc
    obtain ⟨k, hk⟩ := known_run (f := 9) (args := [zH, zH]) (h := []) (v := .b true) (by kernel_rfl)
    exact known_still hk rfl rfl _
  · cases hc
theorem pSameN_at (h : Heap) : pSameNC [zH, zH] h = some (.b true, h) := if_pos rfl
def hV (m : Int) : Heap := [⟨2, true, [.i .i64 m, .i .i64 0, .i .i64 0, .i .i64 0, .c (.slice none 0 0), .s [], .c (.slice none 0 0)]⟩, ⟨2, true, [.i .i64 m, .i .i64 0]⟩]
noncomputable def rW (m : Int) : Option (V × Heap) := callN Try.prog G0 [] [] pm6 ext0 300 40 28 [.i .u8 1, .sl 1 0 2 1] (hV m)
noncomputable def hW (m : Int) : Heap := match rW m with | some (_, h) => h | none => []
theorem rW_eq (m : Int) : rW m = some (.p 3 0, hW m) := by kernel_rfl
theorem hW_len (m : Int) : (hW m).length = 36 := by kernel_rfl
theorem hW_take (m : Int) : (hW m).take 2 = hV m := by kernel_rfl
theorem hW_get (m : Int) : hget (hW m) 3 = ⟨2, true, [.sl 35 0 18 1]⟩ := by kernel_rfl
open Classical in
noncomputable def pStepMC : Ct := fun args h => match h with | ⟨_, _, .i .i64 m :: _⟩ :: _ => if args = [.i .u8 1, .sl 1 0 2 1] ∧ h = hV m then some (.p 3 0, hW m) else none | _ => none
theorem pStepM_known (m : Int) : Known Try.prog G0 28 [.i .u8 1, .sl 1 0 2 1] (hV m) (.p 3 0) (hW m) := by
  have h := rW_eq m
  unfold rW at h
  exact known_run2 h
theorem pStepM_ok : CtOk Try.prog G0 28 pStepMC := fun args h v h' hc => by
  unfold pStepMC at hc
  split at hc
  · split at hc
    · rename_i e
      cases hc
      rw [e.1, e.2]
      exact pStepM_known _
    · cases hc
  · cases hc
theorem pStepM_at (m : Int) : pStepMC [.i .u8 1, .sl 1 0 2 1] (hV m) = some (.p 3 0, hW m) := if_pos ⟨rfl, rfl⟩
def pGoneNC : Ct := fun args h => match args with | [.c (.pointer none)] => some (.b true, h) | _ => none
theorem pGoneN_ok : CtOk Try.prog G0 31 pGoneNC := by
  refine ct_plain (n := 1) fol sound_nil (by kernel_rfl) Try.func31 rfl fun args h v h' hc r xs H hr hx => ?_
  unfold pGoneNC at hc; split at hc <;> (try split at hc) <;> cases hc
  exact ⟨rfl, rfl, by simp [renV, bndV], by simp -implicitDefEqProofs [go_sem, Try.f31]⟩
def pDoesNC : Ct := fun args h => match args with | [.c (.pointer none), .agg [.i k1 a1, .i k2 a2, .i k3 a3, .i k4 a4, .c (.slice none 0 0), .s s, .c (.slice none 0 0)], y] => some (.i .i64 6, h) | _ => none
theorem pDoesN_ok : CtOk Try.prog G0 27 pDoesNC := by
  refine ct_plain (n := 3) fol (sound_cons pGoneN_ok sound_nil) (by kernel_rfl) Try.func27 rfl fun args h v h' hc r xs H hr hx => ?_
  unfold pDoesNC at hc; split at hc <;> (try split at hc) <;> cases hc
  refine ⟨rfl, rfl, by simp [renV, bndV], ?_⟩
  simp -implicitDefEqProofs [go_sem, Try.f27, pGoneNC, Value.oneCell']
noncomputable def pVoteRC : Ct := rct (ctm [] Try.prog G0 []) 26 3
theorem pVoteR_ok : CtOk Try.prog G0 26 pVoteRC := rct_ok (l := []) fol sound_nil [] (by kernel_rfl)
theorem pVoteR_rc {args : List V} {h : Heap} {Q : V → Heap → Prop} {c : Code} (hb : Try.f26.body = some c) (hn : args.length = 3) (hr : Run (ctm [] Try.prog G0 []) (Fini (ctm [] Try.prog G0 []) Try.f26.results.toList Q) [.c c] args h) : ∃ v h', pVoteRC args h = some (v, h') ∧ Q v h' := rct_run [] Try.func26 hb hn hr
theorem pVoteR_go {h : Heap} {b : Nat} {m : Int} {c0 c1 c2 c3 c4 c5 c6 : V} (hb : hget h b = ⟨2, true, [c0, c1, c2, c3, c4, c5, c6]⟩) (hm : 0 ≤ m) : pVoteRC [.p b 0, .i .i64 m, .i .i64 0] h = some (.i .i64 0, h.set b ⟨2, true, [.i .i64 m, .i .i64 0, c2, c3, c4, c5, c6]⟩) := by
  have hl := aliveK hb
  obtain ⟨v, h', e, rfl, rfl⟩ := pVoteR_rc (args := [.p b 0, .i .i64 m, .i .i64 0]) (h := h) (Q := fun v h' => v = .i .i64 0 ∧ h' = h.set b ⟨2, true, [.i .i64 m, .i .i64 0, c2, c3, c4, c5, c6]⟩) rfl rfl (by
    have hm2 : ¬ m < 0 := by omega
    simp -implicitDefEqProofs [go_sem, Try.f26, hb, hm2, hl])
  exact e
theorem hg0 (b : Blk) (l : Heap) : hget (b :: l) 0 = b := rfl
theorem hg1 (a b : Blk) (l : Heap) : hget (a :: b :: l) 1 = b := rfl
theorem quiet_pm (E : Env) : (quiet E).pm = E.pm := rfl
noncomputable def pVoteN0C : Ct := rct (ctm (pm6 11) Try.prog G0 [(25, pNextNC), (26, pVoteRC), (28, pStepMC), (27, pDoesNC)]) 11 3
theorem pVoteN0_ok : CtOk Try.prog G0 11 pVoteN0C := rct_ok (l := [(25, pNextNC), (26, pVoteRC), (28, pStepMC), (27, pDoesNC)]) fol (sound_cons pNextN_ok (sound_cons pVoteR_ok (sound_cons pStepM_ok (sound_cons pDoesN_ok sound_nil)))) (pm6 11) (by kernel_rfl)
theorem pVoteN0_rc {args : List V} {h : Heap} {Q : V → Heap → Prop} {c : Code} (hb : Try.f11.body = some c) (hn : args.length = 3) (hr : Run (ctm (pm6 11) Try.prog G0 [(25, pNextNC), (26, pVoteRC), (28, pStepMC), (27, pDoesNC)]) (Fini (ctm (pm6 11) Try.prog G0 [(25, pNextNC), (26, pVoteRC), (28, pStepMC), (27, pDoesNC)]) Try.f11.results.toList Q) [.c c] args h) : ∃ v h', pVoteN0C args h = some (v, h') ∧ Q v h' := rct_run (pm6 11) Try.func11 hb hn hr
theorem pVoteN0_go {m : Int} (hm : 0 ≤ m) : ∃ h', pVoteN0C [.c (.pointer none), .i .i64 m, .i .i64 0] [] = some (.i .i64 6, h') := by
  obtain ⟨v, h', e, rfl⟩ := pVoteN0_rc (args := [.c (.pointer none), .i .i64 m, .i .i64 0]) (h := []) (Q := fun v h' => v = .i .i64 6) rfl rfl (by
    have hv := pVoteR_go (h := [⟨2, true, [.i .i64 0, .i .i64 0, .i .i64 0, .i .i64 0, .c (.slice none 0 0), .s [], .c (.slice none 0 0)]⟩]) (b := 0) rfl hm
    have hs := pStepM_at m
    have h1 := hW_take m
    have h2 := hW_len m
    have h3 := hW_get m
    unfold hV at hs h1
    generalize hW m = W at hs h1 h2 h3
    have hp : pm6 11 = [(888888888, [], []), (5, [0, 1, 2, 3, 4, 5, 6, 7, 8, 9, 10, 11], [1000022, 2000027])] := by kernel_rfl
    simp -implicitDefEqProofs [go_sem, Try.f11, hp, pNextNC, hv, pDoesNC, Value.oneCell', hs, h1, h2, h3, hg0, hg1, quiet_pm])
  exact ⟨h', e⟩
def pVoteNC : Ct := fun args h => match args with | [.c (.pointer none), .i .i64 m, .i .i64 0] => if 0 ≤ m then some (.i .i64 6, h) else if m = -1 then some (.i .i64 1, h) else none | _ => none
theorem pVoteN_ok : CtOk Try.prog G0 11 pVoteNC := fun args h v h' hc => by
  unfold pVoteNC at hc
  split at hc
  · split at hc
    · rename_i hm
      cases hc
      obtain ⟨k, hk⟩ := pVoteN0_go hm
      exact known_still (pVoteN0_ok _ _ _ _ hk) rfl rfl _
    · split at hc
      · rename_i hm
        subst hm
        cases hc
        obtain ⟨k, hk⟩ := known_run (f := 11) (args := [.c (.pointer none), .i .i64 (-1), .i .i64 0]) (h := []) (v := .i .i64 1) (by kernel_rfl)
        exact known_still hk rfl rfl _
      · cases hc
  · cases hc
noncomputable def pDNewC : Ct := rct (ctm [] Try.prog G0 []) 7 1
theorem pDNew_ok : CtOk Try.prog G0 7 pDNewC := rct_ok (l := []) fol sound_nil [] (by kernel_rfl)
theorem pDNew_rc {args : List V} {h : Heap} {Q : V → Heap → Prop} {c : Code} (hb : Try.f7.body = some c) (hn : args.length = 1) (hr : Run (ctm [] Try.prog G0 []) (Fini (ctm [] Try.prog G0 []) Try.f7.results.toList Q) [.c c] args h) : ∃ v h', pDNewC args h = some (v, h') ∧ Q v h' := rct_run [] Try.func7 hb hn hr
theorem pDNew_go {h : Heap} : pDNewC [.i .i64 1000] h = some (.tup [.p h.length 0, .i .i64 0], h ++ [⟨2, true, [.i .i64 1000, .c (.map none), .i .i64 0, .b false, .i .i64 0]⟩]) := by
  obtain ⟨v, h', e, rfl, rfl⟩ := pDNew_rc (args := [.i .i64 1000]) (h := h) (Q := fun v h' => v = .tup [.p h.length 0, .i .i64 0] ∧ h' = h ++ [⟨2, true, [.i .i64 1000, .c (.map none), .i .i64 0, .b false, .i .i64 0]⟩]) rfl rfl (by
    simp -implicitDefEqProofs [go_sem, Try.f7, Value.oneCell'])
  exact e
noncomputable def pBesideC : Ct := rct (ctm [] Try.prog G0 []) 17 1
theorem pBeside_ok : CtOk Try.prog G0 17 pBesideC := rct_ok (l := []) fol sound_nil [] (by kernel_rfl)
theorem pBeside_rc {args : List V} {h : Heap} {Q : V → Heap → Prop} {c : Code} (hb : Try.f17.body = some c) (hn : args.length = 1) (hr : Run (ctm [] Try.prog G0 []) (Fini (ctm [] Try.prog G0 []) Try.f17.results.toList Q) [.c c] args h) : ∃ v h', pBesideC args h = some (v, h') ∧ Q v h' := rct_run [] Try.func17 hb hn hr
theorem pBeside_go {h : Heap} {b : Nat} {x : Bool} {c0 c1 c2 c3 c4 c5 c6 c7 c9 c10 : V} {p : List Int} (hb : hget h b = ⟨2, x, [c0, c1, c2, c3, c4, c5, c6, c7, .s p, c9, c10]⟩) (hp : p.length ≤ 1000) : pBesideC [.p b 7] h = some (.s (p ++ [46, 110, 101, 119]), h) := by
  obtain ⟨v, h', e, rfl, rfl⟩ := pBeside_rc (args := [.p b 7]) (h := h) (Q := fun v h' => v = .s (p ++ [46, 110, 101, 119]) ∧ h' = h) rfl rfl (by
    have h1 : p.length + 4 ≤ 281474976710656 := by omega
    simp -implicitDefEqProofs [go_sem, Try.f17, hb, h1])
  exact e
noncomputable def pDReadC : Ct := rct (ctm [(888888888, [], [])] Try.prog G0 []) 16 2
theorem pDRead_ok : CtOk Try.prog G0 16 pDReadC := rct_ok (l := []) fol sound_nil [(888888888, [], [])] (by kernel_rfl)
theorem pDRead_rc {args : List V} {h : Heap} {Q : V → Heap → Prop} {c : Code} (hb : Try.f16.body = some c) (hn : args.length = 2) (hr : Run (ctm [(888888888, [], [])] Try.prog G0 []) (Fini (ctm [(888888888, [], [])] Try.prog G0 []) Try.f16.results.toList Q) [.c c] args h) : ∃ v h', pDReadC args h = some (v, h') ∧ Q v h' := rct_run [(888888888, [], [])] Try.func16 hb hn hr
theorem pDRead_go {h : Heap} {b : Nat} {x : Bool} {c0 c2 c3 c4 : V} {p : List Int} (hb : hget h b = ⟨2, x, [c0, .c (.map none), c2, c3, c4]⟩) : pDReadC [.p b 0, .s p] h = some (.tup [.c (.slice none 0 0), .i .i64 4], h) := by
  obtain ⟨v, h', e, rfl, rfl⟩ := pDRead_rc (args := [.p b 0, .s p]) (h := h) (Q := fun v h' => v = .tup [.c (.slice none 0 0), .i .i64 4] ∧ h' = h) rfl rfl (by
    have hz : (Try.prog.info? 80).bind (·.zero) = some (.pointer none) := by kernel_rfl
    obtain ⟨i, hi, hz⟩ := Option.bind_eq_some_iff.1 hz
    have hk : okK (.pointer none) = true := rfl
    simp -implicitDefEqProofs [go_sem, Try.f16, hb, Value.oneCell', hi, hz, hk])
  exact e
noncomputable def pOpenC : Ct := rct (ctm (pm6 8) Try.prog G0 [(17, pBesideC), (16, pDReadC)]) 8 2
theorem pOpen_ok : CtOk Try.prog G0 8 pOpenC := rct_ok (l := [(17, pBesideC), (16, pDReadC)]) fol (sound_cons pBeside_ok (sound_cons pDRead_ok sound_nil)) (pm6 8) (by kernel_rfl)
theorem pOpen_rc {args : List V} {h : Heap} {Q : V → Heap → Prop} {c : Code} (hb : Try.f8.body = some c) (hn : args.length = 2) (hr : Run (ctm (pm6 8) Try.prog G0 [(17, pBesideC), (16, pDReadC)]) (Fini (ctm (pm6 8) Try.prog G0 [(17, pBesideC), (16, pDReadC)]) Try.f8.results.toList Q) [.c c] args h) : ∃ v h', pOpenC args h = some (v, h') ∧ Q v h' := rct_run (pm6 8) Try.func8 hb hn hr
theorem pOpen_go {h : Heap} {b : Nat} {c0 c2 c3 c4 : V} {p : List Int} (hb : hget h b = ⟨2, true, [c0, .c (.map none), c2, c3, c4]⟩) (hp : p.length ≤ 300) : ∃ v h', pOpenC [.p b 0, .s p] h = some (.tup [v, .i .i64 (if p = [] ∨ 40 < p.length then 1 else 0)], h') ∧ Ext h h' := by
  have hl := aliveK hb
  obtain ⟨v, h', e, w, rfl, h1⟩ := pOpen_rc (args := [.p b 0, .s p]) (h := h) (Q := fun v h' => ∃ w, v = .tup [w, .i .i64 (if p = [] ∨ 40 < p.length then 1 else 0)] ∧ Ext h h') rfl rfl (by
    have h3 : p.length + 3 ≤ 281474976710656 := by omega
    have hp8 : pm6 8 = [(888888888, [], []), (15, [0, 1, 2, 3, 4, 5, 6, 7, 8, 9, 10, 11, 12], [2000083])] := by kernel_rfl
    have h4 : p.length + 3 ≤ 1000 := by omega
    by_cases q1 : p = []
    · subst q1
      simp -implicitDefEqProofs [go_sem, Try.f8, hp8, Ext]
    have q1b : p.isEmpty = false := by simpa using q1
    by_cases q2 : 40 < p.length
    · have q2i : (40 : Int) < p.length := by omega
      simp -implicitDefEqProofs [go_sem, Try.f8, hp8, Ext, q1, q1b, q2, q2i]
    have q2i : ¬ (40 : Int) < p.length := by omega
    have hb2 : hget (h ++ [⟨2, true, [.i .i64 0, .i .i64 0, .i .i64 0, .i .i64 0, .c (.slice none 0 0), .s [], .c (.slice none 0 0), .p b 0, .s (p ++ [108, 111, 103]), .i .i64 0, .b false]⟩]) b = ⟨2, true, [c0, .c (.map none), c2, c3, c4]⟩ := by rw [hget_new, if_neg (by omega)]; exact hb
    have hk2 : hget (h ++ [⟨2, true, [.i .i64 0, .i .i64 0, .i .i64 0, .i .i64 0, .c (.slice none 0 0), .s [], .c (.slice none 0 0), .p b 0, .s (p ++ [108, 111, 103]), .i .i64 0, .b false]⟩]) h.length = ⟨2, true, [.i .i64 0, .i .i64 0, .i .i64 0, .i .i64 0, .c (.slice none 0 0), .s [], .c (.slice none 0 0), .p b 0, .s (p ++ [108, 111, 103]), .i .i64 0, .b false]⟩ := by rw [hget_new, if_pos rfl]
    have hB := pBeside_go hk2 (by simp; omega)
    have hR1 := pDRead_go (p := p ++ [108, 111, 103] ++ [46, 110, 101, 119]) hb2
    have hR2 := pDRead_go (p := p ++ [108, 111, 103]) hb2
    simp only [List.append_assoc, List.cons_append, List.nil_append] at hB hR1 hR2
    simp -implicitDefEqProofs [go_sem, Try.f8, hp8, q1, q1b, q2, q2i, h3, Value.oneCell', hB, hR1, hR2, quiet_pm]
    )
  exact ⟨w, h', e, h1⟩
end GoD
