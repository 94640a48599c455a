import Derived.Test.YtffoolaocbgknaaGreatDoorER
/-! The user, the host and the port of a URL as the document reads them. -/
namespace GoD
open Go Go.Proofs
set_option linter.unusedVariables false
set_option linter.unusedSimpArgs false
set_option maxHeartbeats 4000000
set_option maxRecDepth 100000
theorem Trim.own {h h1 : Heap} {v : V} {b : Nat} {blk : Blk} (hv : renV id v = v ∧ bndV h.length v) (hf : blk.cells.all GoD.flat = true) (he : Ext (h.set b blk) h1) : ∃ σ, Trim h v h1 v (h.set b blk) σ := by
  have hl := he.1
  rw [List.length_set] at hl
  refine ⟨id, ⟨by simp, fun _ _ => rfl, fun i hi => by rw [List.length_set] at hi; exact Nat.lt_of_lt_of_le hi hl, fun _ _ _ _ h => h, hv.1.symm, by simpa using hv.2, ?_⟩⟩
  intro i c hc
  have h2 := he.get hc
  by_cases hi : i = b
  · subst hi
    have hlt : i < (h.set i blk).length := (List.getElem?_eq_some_iff.1 hc).1
    rw [List.length_set] at hlt
    rw [List.getElem?_set_self hlt] at hc
    cases hc
    exact .inr ⟨by rw [renL_flat hf]; exact h2, bndL_flat hf⟩
  · rw [List.getElem?_set_ne (fun e => hi e.symm)] at hc
    exact .inl ⟨(List.getElem?_eq_some_iff.1 hc).1, hc, h2⟩
/-- where the last sign of that kind is -/
def lastG (a i : Int) : List Int → Int
  | [] => a
  | c :: t => lastG (if c = 64 then i else a) (i + 1) t
theorem lastG_le : ∀ (l : List Int) (a i : Int), -1 ≤ a → a < i → 0 ≤ i → -1 ≤ lastG a i l ∧ lastG a i l < i + l.length
  | [], a, i, h1, h2, h3 => by simp [lastG]; omega
  | c :: t, a, i, h1, h2, h3 => by
    have := lastG_le t (if c = 64 then i else a) (i + 1) (by split <;> omega) (by split <;> omega) (by omega)
    rw [lastG, List.length_cons]
    omega
def portA : Int → List Int → Option Int
  | n, [] => some n
  | n, c :: t => if 65535 < 10 * n + (c - 48) then none else portA (10 * n + (c - 48)) t
def portV (sch q : List Int) : Option Int := if q = [] then some (-1) else if digitsB 10 q = true then (portA 0 q).map fun n => if n = (defaultL sch).1 then -1 else n else none
def hostP (sch s : List Int) : Option (List Int × Option Int) := (hostL (s.take (upL [58] s))).map fun hh => (hh, if upL [58] s = s.length then some (-1) else portV sch (s.drop (upL [58] s + 1)))
def authW (sch s ho : List Int) (po : Int) : Bool × List Int × Int := match hostP sch s with
  | none => (false, ho, po)
  | some (hh, none) => (false, hh, -1)
  | some (hh, some n) => (true, hh, n)
def atL (s : List Int) : Int := lastG (-1) 0 s
def userL (s u : List Int) : List Int := if 0 ≤ atL s then encL 4 ((s.take (atL s).toNat).take (upL [58] (s.take (atL s).toNat))) else u
def passL (s p : List Int) : List Int := if 0 ≤ atL s then (if upL [58] (s.take (atL s).toNat) < (s.take (atL s).toNat).length then encL 4 ((s.take (atL s).toNat).drop (upL [58] (s.take (atL s).toNat) + 1)) else p) else p
def restL (s : List Int) : List Int := if 0 ≤ atL s then s.drop ((atL s).toNat + 1) else s
def urlB (sch us pa ho : List Int) (po : Int) (path : List Int) (q : Bool) (qu : List Int) (f : Bool) (fr : List Int) : Blk := ⟨2, true, [.s sch, .s us, .s pa, .s ho, .i .i64 po, .s path, .b q, .s qu, .b f, .s fr]⟩
def rAuthC : Ct := fun args h => match args with
  | [.p b 0, .s l] => match hget h b with
    | ⟨2, true, [.s sch, .s u, .s p, .s ho, .i .i64 po, .s pa, .b q, .s qu, .b f, .s fr]⟩ => if l.length ≤ 65536 ∧ b < h.length then some (.b (authW sch (restL l) ho po).1, h.set b (urlB sch (userL l u) (passL l p) (authW sch (restL l) ho po).2.1 (authW sch (restL l) ho po).2.2 pa q qu f fr)) else none
    | _ => none
  | _ => none
noncomputable def auth1 : Code := loopAt Tryz.f73 0
noncomputable def auth2 : Code := loopAt Tryz.f73 1
noncomputable def authX : Env := ctx Tryz.prog G0 [(72, rUpToC), (74, rEncodeC), (92, rHostC), (93, rDigitsC), (53, rDefaultC)]
theorem auth1_ok {P : Ex → Tm → Heap → Prop} {k : List Todo} {s : List Int} {b : Nat} {h : Heap} (hl : s.length ≤ 65536)
    (hx : ∀ t, get t 0 = .p b 0 → get t 1 = .s s → get t 5 = .i .i64 (atL s) → RunX (ctx Tryz.prog G0 [(72, rUpToC), (74, rEncodeC), (92, rHostC), (93, rDigitsC), (53, rDefaultC)]) P k (.e 0) t h)
    {t : Tm} (t0 : get t 0 = .p b 0) (t1 : get t 1 = .s s) (t5 : get t 5 = .i .i64 (-1)) (t6 : get t 6 = .i .i64 0) : Run (ctx Tryz.prog G0 [(72, rUpToC), (74, rEncodeC), (92, rHostC), (93, rDigitsC), (53, rDefaultC)]) P (.again auth1 :: k) t h := by
  refine run_inv _ _ _ _ _ (fun (x : Nat × Int) t h1 => x.1 ≤ s.length ∧ get t 0 = .p b 0 ∧ get t 1 = .s s ∧ get t 5 = .i .i64 x.2 ∧ get t 6 = .i .i64 x.1 ∧ lastG x.2 x.1 (s.drop x.1) = atL s ∧ h1 = h) (fun x => s.length - x.1) _ (x := (0, -1)) ⟨by simp, t0, t1, t5, t6, rfl, rfl⟩ ?_
  clear t0 t1 t5 t6
  rintro ⟨i, a⟩ t h1 ⟨hi, t0, t1, t5, t6, ha, rfl⟩ ih
  simp only at hi t5 t6 ha
  have hi6 : i < 1152921504606846976 := by omega
  by_cases hlt : i < s.length
  · obtain ⟨d, hc⟩ : ∃ d, s[i] = d := ⟨_, rfl⟩
    rw [List.drop_eq_getElem_cons hlt, hc, lastG] at ha
    by_cases c1 : d = 64
    · rw [if_pos c1] at ha
      simp -implicitDefEqProofs [go_sem, auth1, loopAt, loopL, Tryz.f73, t0, t1, t5, t6, hlt, hc, eq_true c1]
      refine ih (i + 1, i) _ _ (by simp; omega) ⟨hlt, ?_⟩
      simp -implicitDefEqProofs [go_sem, t0, t1, t5, t6, i64_n hi6, ha]
    · rw [if_neg c1] at ha
      simp -implicitDefEqProofs [go_sem, auth1, loopAt, loopL, Tryz.f73, t0, t1, t5, t6, hlt, hc, c1]
      refine ih (i + 1, a) _ _ (by simp; omega) ⟨hlt, ?_⟩
      simp -implicitDefEqProofs [go_sem, t0, t1, t5, t6, i64_n hi6, ha]
  · have e : i = s.length := by omega
    rw [e, List.drop_length, lastG] at ha
    simp -implicitDefEqProofs [go_sem, auth1, loopAt, loopL, Tryz.f73, t0, t1, t5, t6, hlt]
    exact hx _ (by simp -implicitDefEqProofs [go_sem, t0]) (by simp -implicitDefEqProofs [go_sem, t1]) (by simp -implicitDefEqProofs [go_sem, t5, ha])
theorem auth2_ok {P : Ex → Tm → Heap → Prop} {k : List Todo} {q : List Int} {b : Nat} {h : Heap} (hl : q.length ≤ 65536) (hq : ∀ c ∈ q, 48 ≤ c ∧ c ≤ 57)
    (hx : ∀ t n, portA 0 q = some n → 0 ≤ n → n ≤ 65535 → get t 0 = .p b 0 → get t 13 = .i .i64 n → RunX (ctx Tryz.prog G0 [(72, rUpToC), (74, rEncodeC), (92, rHostC), (93, rDigitsC), (53, rDefaultC)]) P k (.e 2) t h)
    (hr : ∀ t, portA 0 q = none → get t 4 = .b false → RunX (ctx Tryz.prog G0 [(72, rUpToC), (74, rEncodeC), (92, rHostC), (93, rDigitsC), (53, rDefaultC)]) P k .r t h)
    {t : Tm} (t0 : get t 0 = .p b 0) (t12 : get t 12 = .s q) (t13 : get t 13 = .i .i64 0) (t14 : get t 14 = .i .i64 0) : Run (ctx Tryz.prog G0 [(72, rUpToC), (74, rEncodeC), (92, rHostC), (93, rDigitsC), (53, rDefaultC)]) P (.again auth2 :: k) t h := by
  refine run_inv _ _ _ _ _ (fun (x : Nat × Int) t h1 => x.1 ≤ q.length ∧ get t 0 = .p b 0 ∧ get t 12 = .s q ∧ get t 13 = .i .i64 x.2 ∧ get t 14 = .i .i64 x.1 ∧ 0 ≤ x.2 ∧ x.2 ≤ 65535 ∧ portA x.2 (q.drop x.1) = portA 0 q ∧ h1 = h) (fun x => q.length - x.1) _ (x := (0, 0)) ⟨by simp, t0, t12, t13, t14, by simp, by simp, rfl, rfl⟩ ?_
  clear t0 t12 t13 t14
  rintro ⟨i, n⟩ t h1 ⟨hi, t0, t12, t13, t14, hn0, hn1, ha, rfl⟩ ih
  simp only at hi t13 t14 hn0 hn1 ha
  have hi6 : i < 1152921504606846976 := by omega
  by_cases hlt : i < q.length
  · obtain ⟨d, hc⟩ : ∃ d, q[i] = d := ⟨_, rfl⟩
    have hd := hq d (hc ▸ List.getElem_mem hlt)
    rw [List.drop_eq_getElem_cons hlt, hc, portA] at ha
    have m1 : (d - 48) % 256 = d - 48 := by omega
    by_cases c1 : 65535 < 10 * n + (d - 48)
    · rw [if_pos c1] at ha
      simp -implicitDefEqProofs [go_sem, auth2, loopAt, loopL, Tryz.f73, t0, t12, t13, t14, hlt, hc, m1, c1, w64 (x := 10 * n) (by omega), w64 (x := d - 48) (by omega), w64 (x := 10 * n + (d - 48)) (by omega)]
      exact hr _ ha.symm (by simp -implicitDefEqProofs [go_sem])
    · rw [if_neg c1] at ha
      simp -implicitDefEqProofs [go_sem, auth2, loopAt, loopL, Tryz.f73, t0, t12, t13, t14, hlt, hc, m1, c1, w64 (x := 10 * n) (by omega), w64 (x := d - 48) (by omega), w64 (x := 10 * n + (d - 48)) (by omega)]
      refine ih (i + 1, 10 * n + (d - 48)) _ _ (by simp; omega) ⟨hlt, ?_⟩
      simp -implicitDefEqProofs [go_sem, t0, t12, t13, t14, i64_n hi6, ha]
      omega
  · have e : i = q.length := by omega
    rw [e, List.drop_length, portA] at ha
    simp -implicitDefEqProofs [go_sem, auth2, loopAt, loopL, Tryz.f73, t0, t12, t13, t14, hlt]
    exact hx _ n ha.symm hn0 hn1 (by simp -implicitDefEqProofs [go_sem, t0]) (by simp -implicitDefEqProofs [go_sem, t13])
theorem set_same {h : Heap} {b : Nat} {x : Blk} (hb : b < h.length) (hg : hget h b = x) : h.set b x = h := by
  apply List.ext_getElem (by simp)
  intro i h1 h2
  rw [List.getElem_set]
  split
  · rename_i e
    subst e
    unfold hget at hg
    rw [List.getD_eq_getElem?_getD, List.getElem?_eq_getElem h2] at hg
    exact hg.symm
  · rfl
theorem digitsB10 {q : List Int} (h : digitsB 10 q = true) : ∀ c ∈ q, 48 ≤ c ∧ c ≤ 57 := by
  intro c hc
  have h0 := (List.all_eq_true.1 h) c hc
  obtain ⟨h1, h2⟩ := of_decide_eq_true h0
  unfold hexv at h1 h2
  by_cases a : 48 ≤ c ∧ c ≤ 57
  · exact a
  · rw [if_neg a] at h1 h2
    by_cases b : 97 ≤ c ∧ c ≤ 102
    · rw [if_pos b] at h2; omega
    · rw [if_neg b] at h1 h2
      by_cases d : 65 ≤ c ∧ c ≤ 70
      · rw [if_pos d] at h2; omega
      · rw [if_neg d] at h1; omega
theorem rAuth_ok : CtOk Tryz.prog G0 73 rAuthC := by
  refine ct_run (n := 2) fol (sound_cons rUpTo_ok (sound_cons rEncode_ok (sound_cons rHost_ok (sound_cons rDigits_ok (sound_cons rDefault_ok sound_nil))))) (by kernel_rfl) Tryz.func73 rfl fun args h v h' hc r xs H hr hx => ?_
  unfold rAuthC at hc
  split at hc
  · split at hc
    · split at hc
      · rename_i b l _ sch u p ho po pa q qu f fr hg hlb
        obtain ⟨hl, hb⟩ := hlb
        cases hc
        refine ⟨rfl, ?_⟩
        simp only [Tryz.f73, run_seq]
        generalize hK : (Code.region 14 _ _).seq _ = K
        have hb' := hb
        have hsame : h.set b (urlB sch u p ho po pa q qu f fr) = h := set_same hb hg
        have rest : ∀ s1 : List Int, s1.length ≤ 65536 → ∀ t us ps h1, get t 0 = .p b 0 → get t 1 = .s s1 → h1 = h.set b (urlB sch us ps ho po pa q qu f fr) → Run (ctx Tryz.prog G0 [(72, rUpToC), (74, rEncodeC), (92, rHostC), (93, rDigitsC), (53, rDefaultC)]) (Fini (ctx Tryz.prog G0 [(72, rUpToC), (74, rEncodeC), (92, rHostC), (93, rDigitsC), (53, rDefaultC)]) [ResultVar.tmp 4] fun v' h2 => ∃ σ, Trim h v' h2 (V.b (authW sch s1 ho po).1) (h.set b (urlB sch us ps (authW sch s1 ho po).2.1 (authW sch s1 ho po).2.2 pa q qu f fr)) σ) [.c K] t h1 := by
          subst hK
          intro s1 hs1 t us ps h1 t0 t1 hh1
          have hg1 : hget h1 b = urlB sch us ps ho po pa q qu f fr := by rw [hh1, hget_set, if_pos ⟨rfl, hb⟩]
          have hl1 : h1.length = h.length := by rw [hh1, List.length_set]
          have hbl : b < h1.length := by omega
          have fin : ∀ (r : Bool) (ho' : List Int) (po' : Int) (h2 : Heap), authW sch s1 ho po = (r, ho', po') → h2 = h1.set b (urlB sch us ps ho' po' pa q qu f fr) → ∃ σ, Trim h (V.b r) h2 (V.b (authW sch s1 ho po).1) (h.set b (urlB sch us ps (authW sch s1 ho po).2.1 (authW sch s1 ho po).2.2 pa q qu f fr)) σ := by
            intro r ho' po' h2 e e2
            rw [e, e2, hh1, List.set_set]
            exact Trim.own (by simp [renV, bndV]) (by simp [urlB, GoD.flat]) (Ext.refl _)
          obtain ⟨W, hW⟩ : ∃ W, authW sch s1 ho po = W := ⟨_, rfl⟩
          obtain ⟨n, hn⟩ : ∃ n, upL [58] s1 = n := ⟨_, rfl⟩
          have hnl : n ≤ s1.length := by rw [← hn]; exact upL_le _ _
          have hnl' : (n : Int) ≤ s1.length := by omega
          have htl : (s1.take n).length ≤ 1048576 := by simp; omega
          have hi6 : n < 1152921504606846976 := by omega
          unfold authW hostP at hW
          rw [hn] at hW
          have htl2 : n ≤ 1048576 := by omega
          cases hH : hostL (s1.take n) with
          | none =>
            rw [hH] at hW
            have hA : authW sch s1 ho po = (false, ho, po) := by unfold authW hostP; rw [hn, hH]; rfl
            simp -implicitDefEqProofs [go_sem, t0, t1, rUpToC, rHostC, hn, hnl, hnl', htl, htl2, hH, hostV]
            exact fin _ _ _ _ hA (set_same hbl hg1).symm
          | some hh =>
            rw [hH] at hW
            by_cases c1 : n = s1.length
            · have hA : authW sch s1 ho po = (true, hh, -1) := by unfold authW hostP; rw [hn, hH]; simp [c1]
              have c1' : (n : Int) = s1.length := by omega
              simp -implicitDefEqProofs [go_sem, t0, t1, rUpToC, rHostC, hn, hnl, hnl', htl, htl2, hH, hostV, hg1, urlB, hbl, eq_true c1, eq_true c1']
              exact fin _ _ _ _ hA rfl
            · have c2 : n < s1.length := by omega
              have c2' : (n : Int) + 1 ≤ s1.length := by omega
              have c1' : ((n : Int) = s1.length) = False := eq_false (by omega)
              obtain ⟨w, hw⟩ : ∃ w, s1.drop (n + 1) = w := ⟨_, rfl⟩
              have hwl : w.length ≤ 65536 := by rw [← hw]; simp; omega
              have hV : authW sch s1 ho po = match portV sch w with | none => (false, hh, -1) | some m => (true, hh, m) := by
                unfold authW hostP; rw [hn, hH, hw]; simp only [Option.map_some, if_neg c1]; cases portV sch w <;> rfl
              by_cases d1 : w = []
              · have hA : authW sch s1 ho po = (true, hh, -1) := by rw [hV, d1]; rfl
                simp -implicitDefEqProofs [go_sem, t0, t1, rUpToC, rHostC, hn, hnl, hnl', htl, htl2, hH, hostV, hg1, urlB, hbl, c1, c1', c2, c2', i64_n hi6, hw, eq_true d1]
                exact fin _ _ _ _ hA rfl
              · have d1' : w.isEmpty = false := by cases w with | nil => exact absurd rfl d1 | cons _ _ => rfl
                cases d2 : digitsB 10 w with
                | false =>
                  have hA : authW sch s1 ho po = (false, hh, -1) := by rw [hV]; unfold portV; rw [if_neg d1, d2]; rfl
                  simp -implicitDefEqProofs [go_sem, t0, t1, rUpToC, rHostC, rDigitsC, hn, hnl, hnl', htl, htl2, hH, hostV, hg1, urlB, hbl, c1, c1', c2, c2', i64_n hi6, hw, d1, d1', d2]
                  exact fin _ _ _ _ hA rfl
                | true =>
                  have hV2 : portV sch w = (portA 0 w).map fun n => if n = (defaultL sch).1 then -1 else n := by unfold portV; rw [if_neg d1, d2]; rfl
                  rw [hV2] at hV
                  simp -implicitDefEqProofs [go_sem, t0, t1, rUpToC, rHostC, rDigitsC, hn, hnl, hnl', htl, htl2, hH, hostV, hg1, urlB, hbl, c1, c1', c2, c2', i64_n hi6, hw, d1, d1', d2]
                  refine auth2_ok (q := w) (b := b) hwl (digitsB10 d2) ?_ ?_ (by simp -implicitDefEqProofs [go_sem, t0]) (by simp -implicitDefEqProofs [go_sem]) (by simp -implicitDefEqProofs [go_sem]) (by simp -implicitDefEqProofs [go_sem])
                  · intro t m e m0 m1 t0 t13
                    rw [e] at hV
                    by_cases z : m = (defaultL sch).1
                    · have hA : authW sch s1 ho po = (true, hh, -1) := by rw [hV]; simp [z]
                      simp -implicitDefEqProofs [go_sem, t0, t13, hbl, rDefaultC, z, hget_set]
                      exact fin _ _ _ _ hA rfl
                    · have hA : authW sch s1 ho po = (true, hh, m) := by rw [hV]; simp [z]
                      simp -implicitDefEqProofs [go_sem, t0, t13, hbl, rDefaultC, z, hget_set]
                      exact fin _ _ _ _ hA rfl
                  · intro t e t4
                    rw [e] at hV
                    have hA : authW sch s1 ho po = (false, hh, -1) := by rw [hV]; rfl
                    simp -implicitDefEqProofs [go_sem, t4]
                    exact fin _ _ _ _ hA rfl
        simp -implicitDefEqProofs [go_sem]
        refine auth1_ok (s := l) (b := b) hl ?_ (by simp -implicitDefEqProofs [go_sem]) (by simp -implicitDefEqProofs [go_sem]) (by simp -implicitDefEqProofs [go_sem]) (by simp -implicitDefEqProofs [go_sem])
        intro t t0 t1 t5
        obtain ⟨a, ha⟩ : ∃ a, atL l = a := ⟨_, rfl⟩
        have hab : -1 ≤ a ∧ a < l.length := by
          have := lastG_le l (-1) 0 (by omega) (by omega) (by omega)
          rw [← ha]
          unfold atL
          omega
        unfold userL passL restL
        rw [ha] at t5 ⊢
        by_cases c1 : 0 ≤ a
        · obtain ⟨i, rfl⟩ : ∃ i : Nat, a = i := ⟨a.toNat, by omega⟩
          have hi6 : i < 1152921504606846976 := by omega
          have hil : (i : Int) ≤ l.length := by omega
          have hil' : i ≤ l.length := by omega
          have hil2 : (i : Int) + 1 ≤ l.length := by omega
          have hil3 : i < l.length := by omega
          simp only [if_pos c1, Int.toNat_natCast]
          obtain ⟨us, hus⟩ : ∃ us, l.take i = us := ⟨_, rfl⟩
          obtain ⟨n, hn⟩ : ∃ n, upL [58] us = n := ⟨_, rfl⟩
          have hul : us.length ≤ 65536 := by rw [← hus]; simp; omega
          have hnl : n ≤ us.length := by rw [← hn]; exact upL_le _ _
          have hnl' : (n : Int) ≤ us.length := by omega
          have hn6 : n < 1152921504606846976 := by omega
          have hn7 : n ≤ 1048576 := by omega
          have hrl : (l.drop (i + 1)).length ≤ 65536 := by simp; omega
          rw [hus, hn]
          by_cases c2 : n < us.length
          · have c2' : (n : Int) + 1 ≤ us.length := by omega
            have c3 : us.length ≤ 1048576 + (n + 1) := by omega
            have c4 : us.length - (n + 1) ≤ 1048576 := by omega
            simp only [if_pos c2]
            simp -implicitDefEqProofs [go_sem, t0, t1, t5, rUpToC, rEncodeC, hus, hn, hnl, hnl', hil, hil', hil2, hil3, hg, hb, c2, c2', c3, c4, hn7, i64_n hi6, i64_n hn6, hget_set]
            refine rest _ hrl _ _ _ _ ?_ ?_ ?_ <;> simp -implicitDefEqProofs [go_sem, t0, urlB]
          · simp only [if_neg c2]
            simp -implicitDefEqProofs [go_sem, t0, t1, t5, rUpToC, rEncodeC, hus, hn, hnl, hnl', hil, hil', hil2, hil3, hg, hb, c2, hn7, i64_n hi6, hget_set]
            refine rest _ hrl _ _ _ _ ?_ ?_ ?_ <;> simp -implicitDefEqProofs [go_sem, t0, urlB]
        · simp only [if_neg c1]
          simp -implicitDefEqProofs [go_sem, t0, t1, t5, c1]
          refine rest _ hl _ _ _ _ ?_ ?_ hsame.symm <;> simp -implicitDefEqProofs [go_sem, t0, t1]
      · cases hc
    · cases hc
  · cases hc
end GoD
