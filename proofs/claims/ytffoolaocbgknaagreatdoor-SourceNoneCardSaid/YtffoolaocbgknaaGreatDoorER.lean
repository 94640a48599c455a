import Derived.Test.YtffoolaocbgknaaGreatDoorEQ
/-! Paths as the document reads them. -/
namespace GoD
open Go Go.Proofs
set_option linter.unusedVariables false
set_option linter.unusedSimpArgs false
set_option maxHeartbeats 4000000
set_option maxRecDepth 100000
def pathStep (acc : List (List Int)) (p : List Int) (last : Bool) : List (List Int) :=
  if dotsN p = 0 then acc ++ [encL 3 p] else if last = true then (if dotsN p = 2 then acc.dropLast else acc) ++ [[]] else if dotsN p = 2 then acc.dropLast else acc
def pathG (acc : List (List Int)) (cur : List Int) : List Int → List (List Int)
  | [] => pathStep acc cur true
  | c :: t => if c = 47 ∨ c = 92 then pathG (pathStep acc cur false) [] t else pathG acc (cur ++ [c]) t
def slashL (l : List (List Int)) : List Int := l.flatMap (47 :: ·)
def pathL (s : List Int) : List Int := if s = [] then [47] else if pathG [] [] s.tail = [] then [47] else slashL (pathG [] [] s.tail)
theorem slashL_len {l : List (List Int)} {b : Nat} (h : ∀ p ∈ l, p.length ≤ b) : (slashL l).length ≤ l.length * (b + 1) := by
  unfold slashL
  induction l with
  | nil => simp
  | cons p l ih =>
    have h1 := ih fun q hq => h q (List.mem_cons_of_mem _ hq)
    have h2 := h p List.mem_cons_self
    rw [List.flatMap_cons, List.length_append, List.length_cons, List.length_cons, Nat.add_mul]
    omega
theorem slashL_snoc {l : List (List Int)} {i : Nat} (h : i < l.length) : slashL (l.take (i + 1)) = slashL (l.take i) ++ 47 :: l[i] := by
  unfold slashL
  rw [List.take_succ_eq_append_getElem h, List.flatMap_append]
  simp
theorem ldN_at {c : List V} {l : List (List Int)} {n i : Nat} (h : ldN c 0 n = some (sts l)) (hn : l.length = n) (hi : i < n) (hi' : i < l.length) : ldN c i 1 = some [.s l[i]] := by
  unfold ldN at h ⊢
  split at h
  · rename_i hb
    have h := Option.some.inj h
    have h1 : c[i]? = some (.s l[i]) := by
      have := congrArg (fun z : List V => z[i]?) h
      simp only [List.drop_zero, List.getElem?_take, if_pos hi, sts, List.getElem?_map, List.getElem?_eq_getElem hi', Option.map_some] at this
      exact this
    have h2 : i < c.length := by omega
    rw [if_pos (by omega), List.drop_eq_getElem_cons h2]
    rw [List.getElem?_eq_getElem h2] at h1
    rw [Option.some.inj h1]; rfl
  · cases h
theorem ldN_less {c : List V} {l : List (List Int)} {n : Nat} (h : ldN c 0 n = some (sts l)) (hn : l.length = n) (k : Nat) (hk : k ≤ n) : ldN c 0 k = some (sts (l.take k)) := by
  unfold ldN at h ⊢
  split at h
  · rename_i hb
    have h := Option.some.inj h
    rw [if_pos (by omega)]
    congr 1
    have := congrArg (List.take k) h
    rw [List.drop_zero, List.take_take, Nat.min_eq_left hk] at this
    rw [List.drop_zero, this]
    simp [sts]
  · cases h
noncomputable def path1 : Code := loopAt Tryz.f75 0
noncomputable def path2 : Code := loopAt Tryz.f75 1
noncomputable def pathE : Env := ctx Tryz.prog G0 [(95, rDotsC), (74, rEncodeC)]
theorem path2_ok {P : Ex → Tm → Heap → Prop} {k : List Todo} {l : List (List Int)} {m : Nat} {c : List V} {h : Heap} (hl : l.length ≤ 1048577) (hb : ∀ p ∈ l, p.length ≤ 3145728) (hg : hget h m = ⟨2, false, c⟩) (hm : m < h.length) (hc : ldN c 0 l.length = some (sts l))
    (hx : ∀ t, get t 9 = .s (slashL l) → RunX (ctx Tryz.prog G0 [(95, rDotsC), (74, rEncodeC)]) P k (.e 2) t h)
    {t : Tm} (t3 : get t 3 = .sl m 0 l.length 1) (t9 : get t 9 = .s []) (t10 : get t 10 = .i .i64 0) : Run (ctx Tryz.prog G0 [(95, rDotsC), (74, rEncodeC)]) P (.again path2 :: k) t h := by
  refine run_inv _ _ _ _ _ (fun (i : Nat) t h1 => i ≤ l.length ∧ get t 3 = .sl m 0 l.length 1 ∧ get t 9 = .s (slashL (l.take i)) ∧ get t 10 = .i .i64 i ∧ h1 = h) (fun i => l.length - i) _ (x := 0) ⟨by simp, t3, t9, t10, rfl⟩ ?_
  clear t3 t9 t10
  rintro i t h1 ⟨hi, t3, t9, t10, rfl⟩ ih
  have hi6 : i < 1152921504606846976 := by omega
  by_cases hlt : i < l.length
  · have hd := ldN_at hc rfl hlt hlt
    have b1 := slashL_len (l := l.take i) (b := 3145728) fun p hp => hb p (List.mem_of_mem_take hp)
    have b2 : (l.take i).length * (3145728 + 1) ≤ 1048577 * 3145729 := Nat.mul_le_mul (by simp; omega) (by omega)
    have b3 := hb l[i] (List.getElem_mem hlt)
    obtain ⟨q, hq⟩ : ∃ q, slashL (l.take i) = q := ⟨_, rfl⟩
    obtain ⟨p, hp⟩ : ∃ p, l[i] = p := ⟨_, rfl⟩
    have hs := slashL_snoc hlt
    rw [hq] at b1 hs t9
    rw [hp] at hd b3 hs
    have e1 : q.length + 1 ≤ 281474976710656 := by omega
    have e2 : q.length + 1 + p.length ≤ 281474976710656 := by omega
    have e3 : q.length + (p.length + 1) ≤ 281474976710656 := by omega
    simp -implicitDefEqProofs [go_sem, path2, loopAt, loopL, Tryz.f75, t3, t9, t10, hlt, hg, hm, hd, e1, e2, e3]
    refine ih (i + 1) _ _ (by omega) ⟨hlt, ?_⟩
    simp -implicitDefEqProofs [go_sem, t3, t9, t10, hs, i64_n hi6]
  · have e : i = l.length := by omega
    rw [e, List.take_length] at t9
    simp -implicitDefEqProofs [go_sem, path2, loopAt, loopL, Tryz.f75, t3, t9, t10, hlt]
    exact hx _ (by simp -implicitDefEqProofs [go_sem, t9])
theorem path1_ok {P : Ex → Tm → Heap → Prop} {k : List Todo} {l : List Int} {R : List (List Int)} {m0 : Nat} {h h0 : Heap} (hl : l.length ≤ 1048576) (hl0 : 1 ≤ l.length) (hs : Str l) (hR : pathG [] [] (l.drop 1) = R)
    (hx : ∀ t h1 m c, get t 3 = .sl m 0 R.length 1 → hget h1 m = ⟨2, false, c⟩ → ldN c 0 R.length = some (sts R) → m < h1.length → R.length ≤ 1048577 → (∀ p ∈ R, p.length ≤ 3145728) → Ext h h1 → RunX (ctx Tryz.prog G0 [(95, rDotsC), (74, rEncodeC)]) P k (.e 0) t h1)
    {t : Tm} (t0 : get t 0 = .s l) (t4 : get t 4 = .i .i64 1) (t5 : get t 5 = .i .i64 1) (t3 : get t 3 = .sl m0 0 0 1) (hg : hget h0 m0 = ⟨2, false, []⟩) (hm : h.length ≤ m0) (hm' : m0 < h0.length) (he : Ext h h0) : Run (ctx Tryz.prog G0 [(95, rDotsC), (74, rEncodeC)]) P (.again path1 :: k) t h0 := by
  refine run_inv _ _ _ _ _ (fun (x : Nat × Nat × Nat × List V × List (List Int)) t h1 => 1 ≤ x.2.1 ∧ x.2.1 ≤ x.1 ∧ x.1 ≤ l.length + 1 ∧ get t 0 = .s l ∧ get t 4 = .i .i64 x.2.1 ∧ get t 5 = .i .i64 x.1 ∧ get t 3 = .sl x.2.2.1 0 x.2.2.2.2.length 1 ∧ hget h1 x.2.2.1 = ⟨2, false, x.2.2.2.1⟩ ∧ ldN x.2.2.2.1 0 x.2.2.2.2.length = some (sts x.2.2.2.2) ∧ h.length ≤ x.2.2.1 ∧ x.2.2.1 < h1.length ∧ Ext h h1 ∧ x.2.2.2.2.length < x.1 ∧ (∀ p ∈ x.2.2.2.2, p.length ≤ 3145728) ∧ (if x.1 ≤ l.length then pathG x.2.2.2.2 ((l.drop x.2.1).take (x.1 - x.2.1)) (l.drop x.1) else x.2.2.2.2) = R) (fun x => l.length + 1 - x.1) _ (x := (1, 1, m0, [], [])) ⟨Nat.le_refl _, Nat.le_refl _, by omega, t0, t4, t5, t3, hg, by simp [ldN, sts], hm, hm', he, by simp, by simp, by simpa [hl0] using hR⟩ ?_
  clear t0 t4 t5 t3 hg hm hm' he hR
  rintro ⟨i, f, m, c, acc⟩ t h1 ⟨hf, hfi, hi, t0, t4, t5, t3, hg, hc, hm, hm', he, hal, hb, hR⟩ ih
  simp only at hf hfi hi t0 t4 t5 t3 hg hc hm hm' hal hb hR
  have hmn : m ≠ h1.length := by omega
  have hi6 : i < 1152921504606846976 := by omega
  have e1 : (acc.length + 1) * 16 ≤ 1099511627776 := by omega
  have e2 : (acc.dropLast.length + 1) * 16 ≤ 1099511627776 := by simp; omega
  have e3 : (acc.length - 1 + 1) * 16 ≤ 1099511627776 := by omega
  by_cases hil : i ≤ l.length
  · rw [if_pos hil] at hR
    have hil' : (i : Int) ≤ l.length := by omega
    have hfi' : (f : Int) ≤ i := by omega
    have hfl : (f : Int) ≤ l.length := by omega
    obtain ⟨p, hp⟩ : ∃ p, (l.drop f).take (i - f) = p := ⟨_, rfl⟩
    have hpl : p.length ≤ 1048576 := by rw [← hp]; simp; omega
    have hel : (encL 3 p).length ≤ 3145728 := by have := encL_len 3 p; omega
    rw [hp] at hR
    have go : ∀ (A : List (List Int)) (m' : Nat) (c' : List V) (t' : Tm) (h' : Heap), (if i + 1 ≤ l.length then pathG A [] (l.drop (i + 1)) else A) = R → get t' 0 = .s l → get t' 4 = .i .i64 ((i + 1 : Nat) : Int) → get t' 5 = .i .i64 ((i + 1 : Nat) : Int) → get t' 3 = .sl m' 0 A.length 1 → hget h' m' = ⟨2, false, c'⟩ → ldN c' 0 A.length = some (sts A) → h.length ≤ m' → m' < h'.length → Ext h h' → A.length ≤ i → (∀ p ∈ A, p.length ≤ 3145728) → Run (ctx Tryz.prog G0 [(95, rDotsC), (74, rEncodeC)]) P (.again path1 :: k) t' h' := by
      intro A m' c' t' h' a1 a2 a3 a4 a5 a6 a7 a8 a9 a10 a11 a12
      exact ih (i + 1, i + 1, m', c', A) _ _ (by simp; omega) ⟨by simp, Nat.le_refl _, by simp; omega, a2, a3, a4, a5, a6, a7, a8, a9, a10, by simp; omega, a12, by simpa using a1⟩
    have bd : ∀ q ∈ acc.dropLast, q.length ≤ 3145728 := fun q hq => hb q ((List.dropLast_sublist acc).subset hq)
    have be : ∀ (A : List (List Int)) (x : List Int), (∀ q ∈ A, q.length ≤ 3145728) → x.length ≤ 3145728 → ∀ q ∈ A ++ [x], q.length ≤ 3145728 := by
      intro A x h1 h2 q hq
      rcases List.mem_append.1 hq with h | h
      · exact h1 q h
      · rw [List.mem_singleton.1 h]; exact h2
    have hcd : ldN c 0 (acc.length - 1) = some (sts acc.dropLast) := by rw [List.dropLast_eq_take]; exact ldN_less hc rfl _ (by omega)
    have hdl : acc.dropLast.length = acc.length - 1 := List.length_dropLast
    by_cases hlt : i < l.length
    · obtain ⟨d, hc0⟩ : ∃ d, l[i] = d := ⟨_, rfl⟩
      have hdr : l.drop i = d :: l.drop (i + 1) := by rw [List.drop_eq_getElem_cons hlt, hc0]
      have hne : (i = l.length) = False := eq_false (by omega)
      have hne' : ((i : Int) = l.length) = False := eq_false (by omega)
      rw [hdr, pathG] at hR
      by_cases s1 : d = 47
      · rw [if_pos (.inl s1)] at hR
        by_cases d0 : dotsN p = 0
        · rw [pathStep, if_pos d0] at hR
          simp -implicitDefEqProofs [go_sem, path1, loopAt, loopL, Tryz.f75, t0, t3, t4, t5, hlt, hc0, hne, hne', eq_true s1, hil', hfi', hfl, hp, hpl, rDotsC, rEncodeC, hg, hm', hmn, hc, e1, e2, e3, i64_n hi6, d0]
          refine go (acc ++ [encL 3 p]) (h1.length + 1) (sts (acc ++ [encL 3 p])) _ _ (by rw [if_pos (by omega)]; exact hR) ?_ ?_ ?_ ?_ ?_ (ldN_s rfl) (by omega) (by simp) (by simp -implicitDefEqProofs [go_sem, he, hm]) (by simp; omega) (be _ _ hb hel) <;> simp -implicitDefEqProofs [go_sem, t0, t3, t4, t5, i64_n hi6]
        · rw [pathStep, if_neg d0] at hR
          by_cases d2 : dotsN p = 2
          · rw [if_neg (by simp), if_pos d2] at hR
            rcases hacc : acc with _ | ⟨a0, ar⟩
            · subst hacc
              simp -implicitDefEqProofs [go_sem, path1, loopAt, loopL, Tryz.f75, t0, t3, t4, t5, hlt, hc0, hne, hne', eq_true s1, hil', hfi', hfl, hp, hpl, rDotsC, rEncodeC, hg, hm', hmn, hc, e1, e2, e3, i64_n hi6, d2]
              refine go [] m c _ _ (by rw [if_pos (by omega)]; exact hR) ?_ ?_ ?_ ?_ hg hc hm hm' he (by simp) (by simp) <;> simp -implicitDefEqProofs [go_sem, t0, t3, t4, t5, i64_n hi6]
            · have a1 : 0 < acc.length := by rw [hacc]; simp
              have a2 : (0 : Int) < acc.length := by omega
              have a3 : (0 : Int) ≤ (acc.length : Int) - 1 := by omega
              have a4 : (acc.length : Int) - 1 ≤ acc.length := by omega
              have a5 : ((acc.length : Int) - 1).toNat = acc.length - 1 := by omega
              have a6 : (1 : Int) ≤ acc.length := by omega
              clear hacc
              simp -implicitDefEqProofs [go_sem, path1, loopAt, loopL, Tryz.f75, t0, t3, t4, t5, hlt, hc0, hne, hne', eq_true s1, hil', hfi', hfl, hp, hpl, rDotsC, rEncodeC, hg, hm', hmn, hc, e1, e2, e3, i64_n hi6, d2, a1, a2, a3, a4, a5, a6, hcd, w64 (x := (acc.length : Int) - 1) (by omega)]
              refine go acc.dropLast m c _ _ (by rw [if_pos (by omega)]; exact hR) ?_ ?_ ?_ ?_ hg (by rw [hdl]; exact hcd) hm hm' he (by simp; omega) bd <;> simp -implicitDefEqProofs [go_sem, t0, t3, t4, t5, i64_n hi6]
          · rw [if_neg (by simp), if_neg d2] at hR
            simp -implicitDefEqProofs [go_sem, path1, loopAt, loopL, Tryz.f75, t0, t3, t4, t5, hlt, hc0, hne, hne', eq_true s1, hil', hfi', hfl, hp, hpl, rDotsC, rEncodeC, hg, hm', hmn, hc, e1, e2, e3, i64_n hi6, d0, d2, show ((dotsN p : Int) = 0) = False from eq_false (by omega), show ((dotsN p : Int) = 2) = False from eq_false (by omega)]
            refine go acc m c _ _ (by rw [if_pos (by omega)]; exact hR) ?_ ?_ ?_ ?_ hg hc hm hm' he (by omega) hb <;> simp -implicitDefEqProofs [go_sem, t0, t3, t4, t5, i64_n hi6]
      · by_cases s2 : d = 92
        · rw [if_pos (.inr s2)] at hR
          by_cases d0 : dotsN p = 0
          · rw [pathStep, if_pos d0] at hR
            simp -implicitDefEqProofs [go_sem, path1, loopAt, loopL, Tryz.f75, t0, t3, t4, t5, hlt, hc0, hne, hne', s1, eq_true s2, hil', hfi', hfl, hp, hpl, rDotsC, rEncodeC, hg, hm', hmn, hc, e1, e2, e3, i64_n hi6, d0]
            refine go (acc ++ [encL 3 p]) (h1.length + 1) (sts (acc ++ [encL 3 p])) _ _ (by rw [if_pos (by omega)]; exact hR) ?_ ?_ ?_ ?_ ?_ (ldN_s rfl) (by omega) (by simp) (by simp -implicitDefEqProofs [go_sem, he, hm]) (by simp; omega) (be _ _ hb hel) <;> simp -implicitDefEqProofs [go_sem, t0, t3, t4, t5, i64_n hi6]
          · rw [pathStep, if_neg d0] at hR
            by_cases d2 : dotsN p = 2
            · rw [if_neg (by simp), if_pos d2] at hR
              rcases hacc : acc with _ | ⟨a0, ar⟩
              · subst hacc
                simp -implicitDefEqProofs [go_sem, path1, loopAt, loopL, Tryz.f75, t0, t3, t4, t5, hlt, hc0, hne, hne', s1, eq_true s2, hil', hfi', hfl, hp, hpl, rDotsC, rEncodeC, hg, hm', hmn, hc, e1, e2, e3, i64_n hi6, d2]
                refine go [] m c _ _ (by rw [if_pos (by omega)]; exact hR) ?_ ?_ ?_ ?_ hg hc hm hm' he (by simp) (by simp) <;> simp -implicitDefEqProofs [go_sem, t0, t3, t4, t5, i64_n hi6]
              · have a1 : 0 < acc.length := by rw [hacc]; simp
                have a2 : (0 : Int) < acc.length := by omega
                have a3 : (0 : Int) ≤ (acc.length : Int) - 1 := by omega
                have a4 : (acc.length : Int) - 1 ≤ acc.length := by omega
                have a5 : ((acc.length : Int) - 1).toNat = acc.length - 1 := by omega
                have a6 : (1 : Int) ≤ acc.length := by omega
                clear hacc
                simp -implicitDefEqProofs [go_sem, path1, loopAt, loopL, Tryz.f75, t0, t3, t4, t5, hlt, hc0, hne, hne', s1, eq_true s2, hil', hfi', hfl, hp, hpl, rDotsC, rEncodeC, hg, hm', hmn, hc, e1, e2, e3, i64_n hi6, d2, a1, a2, a3, a4, a5, a6, hcd, w64 (x := (acc.length : Int) - 1) (by omega)]
                refine go acc.dropLast m c _ _ (by rw [if_pos (by omega)]; exact hR) ?_ ?_ ?_ ?_ hg (by rw [hdl]; exact hcd) hm hm' he (by simp; omega) bd <;> simp -implicitDefEqProofs [go_sem, t0, t3, t4, t5, i64_n hi6]
            · rw [if_neg (by simp), if_neg d2] at hR
              simp -implicitDefEqProofs [go_sem, path1, loopAt, loopL, Tryz.f75, t0, t3, t4, t5, hlt, hc0, hne, hne', s1, eq_true s2, hil', hfi', hfl, hp, hpl, rDotsC, rEncodeC, hg, hm', hmn, hc, e1, e2, e3, i64_n hi6, d0, d2, show ((dotsN p : Int) = 0) = False from eq_false (by omega), show ((dotsN p : Int) = 2) = False from eq_false (by omega)]
              refine go acc m c _ _ (by rw [if_pos (by omega)]; exact hR) ?_ ?_ ?_ ?_ hg hc hm hm' he (by omega) hb <;> simp -implicitDefEqProofs [go_sem, t0, t3, t4, t5, i64_n hi6]
        · rw [if_neg (by omega)] at hR
          simp -implicitDefEqProofs [go_sem, path1, loopAt, loopL, Tryz.f75, t0, t3, t4, t5, hlt, hil', hc0, s1, s2]
          refine ih (i + 1, f, m, c, acc) _ _ (by simp; omega) ⟨hf, by simp; omega, by simp; omega, ?_⟩
          have hcur := cut_snoc (l := l) (f := f) (i := i) (by omega) hlt
          rw [hp, hc0] at hcur
          simp -implicitDefEqProofs [go_sem, t0, t3, t4, t5, i64_n hi6, hg, hc, hm, hm', he, hcur, show i + 1 ≤ l.length by omega]
          exact ⟨by omega, hb, hR⟩
    · have hie : i = l.length := by omega
      have hne : (i = l.length) = True := eq_true hie
      have hne' : ((i : Int) = l.length) = True := eq_true (by omega)
      rw [List.drop_eq_nil_of_le (show l.length ≤ i by omega), pathG] at hR
      by_cases d0 : dotsN p = 0
      · rw [pathStep, if_pos d0] at hR
        simp -implicitDefEqProofs [go_sem, path1, loopAt, loopL, Tryz.f75, t0, t3, t4, t5, hlt, hne, hne', hil', hfi', hfl, hp, hpl, rDotsC, rEncodeC, hg, hm', hmn, hc, e1, e2, e3, i64_n hi6, d0]
        refine go (acc ++ [encL 3 p]) (h1.length + 1) (sts (acc ++ [encL 3 p])) _ _ (by rw [if_neg (by omega)]; exact hR) ?_ ?_ ?_ ?_ ?_ (ldN_s rfl) (by omega) (by simp) (by simp -implicitDefEqProofs [go_sem, he, hm]) (by simp; omega) (be _ _ hb hel) <;> simp -implicitDefEqProofs [go_sem, t0, t3, t4, t5, i64_n hi6]
      · rw [pathStep, if_neg d0] at hR
        by_cases d2 : dotsN p = 2
        · rw [if_pos rfl, if_pos d2] at hR
          rcases hacc : acc with _ | ⟨a0, ar⟩
          · subst hacc
            simp -implicitDefEqProofs [go_sem, path1, loopAt, loopL, Tryz.f75, t0, t3, t4, t5, hlt, hne, hne', hil', hfi', hfl, hp, hpl, rDotsC, rEncodeC, hg, hm', hmn, hc, e1, e2, e3, i64_n hi6, d2]
            refine go [[]] (h1.length + 1) (sts [[]]) _ _ (by rw [if_neg (by omega)]; exact hR) ?_ ?_ ?_ ?_ ?_ (ldN_s rfl) (by omega) (by simp) (by simp -implicitDefEqProofs [go_sem, he, hm]) (by simp; omega) (by simp) <;> simp -implicitDefEqProofs [go_sem, t0, t3, t4, t5, i64_n hi6, sts]
          · have a1 : 0 < acc.length := by rw [hacc]; simp
            have a2 : (0 : Int) < acc.length := by omega
            have a3 : (0 : Int) ≤ (acc.length : Int) - 1 := by omega
            have a4 : (acc.length : Int) - 1 ≤ acc.length := by omega
            have a5 : ((acc.length : Int) - 1).toNat = acc.length - 1 := by omega
            have a6 : (1 : Int) ≤ acc.length := by omega
            clear hacc
            simp -implicitDefEqProofs [go_sem, path1, loopAt, loopL, Tryz.f75, t0, t3, t4, t5, hlt, hne, hne', hil', hfi', hfl, hp, hpl, rDotsC, rEncodeC, hg, hm', hmn, hc, e1, e2, e3, i64_n hi6, d2, a1, a2, a3, a4, a5, a6, hcd, w64 (x := (acc.length : Int) - 1) (by omega)]
            refine go (acc.dropLast ++ [[]]) (h1.length + 1) (sts (acc.dropLast ++ [[]])) _ _ (by rw [if_neg (by omega)]; exact hR) ?_ ?_ ?_ ?_ ?_ (ldN_s rfl) (by omega) (by simp) (by simp -implicitDefEqProofs [go_sem, he, hm]) (by simp; omega) (be _ _ bd (by simp)) <;> simp -implicitDefEqProofs [go_sem, t0, t3, t4, t5, i64_n hi6]
        · rw [if_pos rfl, if_neg d2] at hR
          simp -implicitDefEqProofs [go_sem, path1, loopAt, loopL, Tryz.f75, t0, t3, t4, t5, hlt, hne, hne', hil', hfi', hfl, hp, hpl, rDotsC, rEncodeC, hg, hm', hmn, hc, e1, e2, e3, i64_n hi6, d0, d2, show ((dotsN p : Int) = 0) = False from eq_false (by omega), show ((dotsN p : Int) = 2) = False from eq_false (by omega)]
          refine go (acc ++ [[]]) (h1.length + 1) (sts (acc ++ [[]])) _ _ (by rw [if_neg (by omega)]; exact hR) ?_ ?_ ?_ ?_ ?_ (ldN_s rfl) (by omega) (by simp) (by simp -implicitDefEqProofs [go_sem, he, hm]) (by simp; omega) (be _ _ hb (by simp)) <;> simp -implicitDefEqProofs [go_sem, t0, t3, t4, t5, i64_n hi6]
  · have hie : i = l.length + 1 := by omega
    have hil' : ¬ (i : Int) ≤ l.length := by omega
    rw [if_neg hil] at hR
    subst hR
    simp -implicitDefEqProofs [go_sem, path1, loopAt, loopL, Tryz.f75, t0, t3, t4, t5, hil, hil']
    exact hx _ _ m c (by simp -implicitDefEqProofs [go_sem, t3]) hg hc hm' (by omega) hb he
def rPathC : Ct := fun args h => match args with | [.s l] => if l.length ≤ 1048576 then some (.s (pathL l), h) else none | _ => none
theorem rPath_ok : CtOk Tryz.prog G0 75 rPathC := by
  refine ct_plain (n := 1) fol (sound_cons rDots_ok (sound_cons rEncode_ok sound_nil)) (by kernel_rfl) Tryz.func75 rfl fun args h v h' hc r xs H hr hx => ?_
  unfold rPathC at hc; split at hc <;> (try split at hc) <;> cases hc
  rename_i l hl
  obtain ⟨hs, _⟩ := str_of hx
  refine ⟨rfl, rfl, by simp [renV, bndV], ?_⟩
  rcases hl0 : l with _ | ⟨a, r⟩
  · simp -implicitDefEqProofs [go_sem, Tryz.f75, pathL]
  · obtain ⟨R, hR⟩ : ∃ R, pathG [] [] (l.drop 1) = R := ⟨_, rfl⟩
    have hpl : pathL l = if R = [] then [47] else slashL R := by rw [← hR, hl0]; rfl
    have hn : l ≠ [] := by rw [hl0]; simp
    have hlen : 1 ≤ l.length := by rw [hl0]; simp
    rw [← hl0, hpl]
    have hn0 : l.isEmpty = false := by rw [hl0]; rfl
    clear hl0
    simp -implicitDefEqProofs [go_sem, Tryz.f75, hn, hn0]
    refine path1_ok (h := h) hl hlen hs hR ?_ (by simp -implicitDefEqProofs [go_sem]) (by simp -implicitDefEqProofs [go_sem]) (by simp -implicitDefEqProofs [go_sem]) (by simp -implicitDefEqProofs [go_sem]) (by simp -implicitDefEqProofs [go_sem]) (Nat.le_refl _) (by simp) (by simp -implicitDefEqProofs [go_sem])
    intro t h1 m c t3 hg hc hm hRl hRb he
    rcases hR0 : R with _ | ⟨b, q⟩
    · rw [hR0] at t3
      simp -implicitDefEqProofs [go_sem, Tryz.f75, t3, he]
    · have z1 : ¬ R = [] := by rw [hR0]; simp
      have z2 : ((R.length : Int) = 0) = False := eq_false (by rw [hR0]; simp; omega)
      have z3 : (R.length = 0) = False := eq_false (by rw [hR0]; simp)
      rw [← hR0, if_neg z1]
      clear hR0
      simp -implicitDefEqProofs [go_sem, Tryz.f75, t3, z2, z3, z1]
      refine path2_ok hRl hRb hg hm hc ?_ (by simp -implicitDefEqProofs [go_sem, t3]) (by simp -implicitDefEqProofs [go_sem]) (by simp -implicitDefEqProofs [go_sem])
      intro t t9
      simp -implicitDefEqProofs [go_sem, t9, he]
end GoD
