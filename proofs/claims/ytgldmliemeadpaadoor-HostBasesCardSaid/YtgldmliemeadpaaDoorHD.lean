import Derived.Test.YtgldmliemeadpaaDoorHC
/-! HostBases. -/
namespace GoD
open Go Go.Proofs
set_option linter.unusedVariables false
set_option linter.unusedSimpArgs false
set_option maxHeartbeats 4000000
set_option maxRecDepth 100000
def roundK (k n : Int) : Int := if k.tmod n < 0 then k.tmod n + n else k.tmod n
def pRoundKC : Ct := fun args h => match args with | [.i .i64 k, .i .i64 n] => if 0 < n ∧ n ≤ 1000000 then some (.i .i64 (roundK k n), h) else none | _ => none
theorem pRoundK_ok : CtOk Tryd.prog G0 11 pRoundKC := by
  refine ct_plain (n := 2) fol sound_nil (by kernel_rfl) Tryd.func11 rfl fun args h v h' hc r xs H hr hx => ?_
  unfold pRoundKC at hc; split at hc <;> (try split at hc) <;> cases hc
  rename_i k n hn
  have hn0 : ¬ n = 0 := by omega
  have h1 := Int.tmod_lt_of_pos k hn.1
  have h2 : -n < k.tmod n := Int.neg_lt_of_neg_lt (by rw [← Int.neg_tmod]; exact Int.tmod_lt_of_pos _ hn.1)
  refine ⟨rfl, rfl, by simp [renV, bndV], ?_⟩
  by_cases c1 : k.tmod n < 0
  · simp -implicitDefEqProofs [go_sem, Tryd.f11, hn0, c1, roundK, w64 (x := k.tmod n + n) (by omega)]
  · simp -implicitDefEqProofs [go_sem, Tryd.f11, hn0, c1, roundK]
theorem aw10a : hostL [48, 120, 55, 102, 46, 49] = some [49, 50, 55, 46, 48, 46, 48, 46, 49] := by kernel_rfl
theorem aw10b : hostL [69, 88, 65, 77, 80, 76, 69, 46, 99, 111, 109] = some [101, 120, 97, 109, 112, 108, 101, 46, 99, 111, 109] := by kernel_rfl
theorem aw10c : hostL [50, 53, 54, 46, 48, 46, 48, 46, 49] = none := by kernel_rfl
def pAwake10C : Ct := fun args h => match args with | [] => some (.b true, h) | _ => none
theorem pAwake10_ok : CtOk Tryd.prog G0 15 pAwake10C := by
  refine ct_plain (n := 0) fol (sound_cons pHParse_ok sound_nil) (by kernel_rfl) Tryd.func15 rfl fun args h v h' hc r xs H hr hx => ?_
  unfold pAwake10C at hc; split at hc <;> (try split at hc) <;> cases hc
  refine ⟨rfl, rfl, by simp [renV, bndV], ?_⟩
  simp -implicitDefEqProofs [go_sem, Tryd.f15, pHParseC, aw10a, aw10b, aw10c, hostV]
def wrAt (h : Heap) (b q : Nat) : Option Int := match hget h b with
  | ⟨_ + 1, _, [.i .i64 k]⟩ => (match hget h q with
    | ⟨_ + 1, _, [.f (.func g) []]⟩ => if g = 9 then some k else none
    | _ => none)
  | _ => none
theorem wrAt_eq {h : Heap} {b q : Nat} {k : Int} (e : wrAt h b q = some k) : (∃ st x, hget h b = ⟨st + 1, x, [.i .i64 k]⟩) ∧ ∃ st x, hget h q = ⟨st + 1, x, [.f (.func 9) []]⟩ := by
  unfold wrAt at e
  split at e
  · rename_i st x k' hb
    split at e
    · rename_i st2 x2 g hq
      split at e
      · rename_i hg
        subst hg
        cases e
        exact ⟨⟨st, x, hb⟩, st2, x2, hq⟩
      · cases e
    · cases e
  · cases e
def pWrC : Ct := fun args h => match args with
  | [.i .u32 n, .p b 0, .p q 0] => (match wrAt h b q with | some k => some (.s (wrB (roundK k 3) 88 n.toNat), h) | none => none)
  | _ => none
theorem pWr_ok : CtOk Tryd.prog G0 10 pWrC := by
  refine ct_plain (n := 3) fol (sound_cons pRoundK_ok (sound_cons pDg_ok sound_nil)) (by kernel_rfl) Tryd.func10 rfl fun args h v h' hc r xs H hr hx => ?_
  unfold pWrC at hc; split at hc <;> (try split at hc) <;> (try split at hc) <;> cases hc
  rename_i n b q _ k hk
  obtain ⟨⟨st, x, hb⟩, st2, x2, hq⟩ := wrAt_eq hk
  obtain ⟨hn, hx2⟩ := int_of hx
  have hn : 0 ≤ n ∧ n < 4294967296 := by simpa [lo, hi, IntKind.signed, IntKind.bits] using hn
  refine ⟨rfl, rfl, by simp [renV, bndV], ?_⟩
  have hl := wr_len (k := roundK k 3) (x := 88) (n := n.toNat) (by omega)
  obtain ⟨R, hR⟩ : ∃ R, roundK k 3 = R := ⟨_, rfl⟩
  rw [hR] at hl ⊢
  unfold wrB at hl ⊢
  by_cases c1 : R = 0
  · subst c1
    simp -implicitDefEqProofs [go_sem, Tryd.f10, hb, hq, pRoundKC, hR, pDgC]
  · by_cases c2 : R = 1
    · subst c2
      rw [if_neg (by decide), if_pos rfl] at hl ⊢
      simp only [List.length_cons] at hl
      simp -implicitDefEqProofs [go_sem, Tryd.f10, hb, hq, pRoundKC, hR, pDgC, show 1 + (digsB 8 n.toNat).length ≤ 281474976710656 by omega, show (digsB 8 n.toNat).length + 1 ≤ 281474976710656 by omega]
    · rw [if_neg c1, if_neg c2] at hl ⊢
      simp only [List.length_cons] at hl
      simp -implicitDefEqProofs [go_sem, Tryd.f10, hb, hq, pRoundKC, hR, pDgC, c1, c2, show 2 + (digsB 16 n.toNat).length ≤ 281474976710656 by omega]
theorem run_gen {E : Env} {P : Ex → Tm → Heap → Prop} {c : List Todo} {h : Heap} {t : Tm} (Q : Tm → Prop) (hq : Q t) (hr : ∀ t, Q t → Run E P c t h) : Run E P c t h := hr t hq
theorem and24 {c : Int} (h : 0 ≤ c ∧ c < 4294967296) : Go.bits .and .u32 c 16777215 = c % 16777216 :=
  bits_mask .u32 32 (by decide) (fun n h₀ h₁ => by rw [wu32m]; omega) 24 (by decide) c h.1 (by omega)
def pLawBC : Ct := fun args h => match args with | [.i .u32 a, .i .i64 k] => some (.b true, h) | _ => none
theorem pLawB_ok : CtOk Tryd.prog G0 3 pLawBC := by
  refine ct_plain (n := 2) fol (sound_cons pWr_ok (sound_cons pNumber_ok (sound_cons pHParse_ok (sound_cons pText_ok (sound_cons pAwake10_ok sound_nil))))) (by kernel_rfl) Tryd.func3 rfl fun args h v h' hc r xs H hr hx => ?_
  unfold pLawBC at hc; split at hc <;> (try split at hc) <;> cases hc
  rename_i a k
  obtain ⟨ha, hx2⟩ := int_of hx
  have ha : 0 ≤ a ∧ a < 4294967296 := by simpa [lo, hi, IntKind.signed, IntKind.bits] using ha
  refine ⟨rfl, rfl, by simp [renV, bndV], ?_⟩
  have hW : wrAt (h ++ [⟨2, true, [.i .i64 k]⟩, ⟨2, true, [.f (.func 9) []]⟩]) h.length (h.length + 1) = some k := by
    unfold wrAt
    rw [hget_at0 rfl, hget_at rfl]
    rfl
  obtain ⟨A, hA⟩ : ∃ n : Nat, a.toNat = n := ⟨_, rfl⟩
  obtain ⟨a1, h1⟩ : ∃ n : Nat, (a / 16777216).toNat = n := ⟨_, rfl⟩
  obtain ⟨a2, h2⟩ : ∃ n : Nat, (a / 65536 % 256).toNat = n := ⟨_, rfl⟩
  obtain ⟨a3, h3⟩ : ∃ n : Nat, (a / 256 % 256).toNat = n := ⟨_, rfl⟩
  obtain ⟨a4, h4⟩ : ∃ n : Nat, (a % 256).toNat = n := ⟨_, rfl⟩
  obtain ⟨a5, h5⟩ : ∃ n : Nat, (a % 16777216).toNat = n := ⟨_, rfl⟩
  obtain ⟨R, hR⟩ : ∃ R, roundK k 3 = R := ⟨_, rfl⟩
  have n1 : numberL (wrB R 88 A) = some a := by rw [one_num (.inl rfl) (by omega)]; congr 1; omega
  have n4 : numberL (fourB R 88 a1 a2 a3 a4) = some a := by rw [four_num (.inl rfl) (by omega) (by omega) (by omega) (by omega)]; congr 1; omega
  have n2 : numberL (wrB R 88 a1 ++ 46 :: wrB R 88 a5) = some a := by rw [two_num (.inl rfl) (by omega) (by omega)]; congr 1; omega
  have e4 : hostL (fourB R 88 a1 a2 a3 a4) = some (textL a) := by rw [four_host (by omega) (by omega) (by omega) (by omega)]; congr 2; omega
  have l0 := wr_len (k := R) (x := 88) (n := A) (by omega)
  have l1 := wr_len (k := R) (x := 88) (n := a1) (by omega)
  have l2 := wr_len (k := R) (x := 88) (n := a2) (by omega)
  have l3 := wr_len (k := R) (x := 88) (n := a3) (by omega)
  have l4 := wr_len (k := R) (x := 88) (n := a4) (by omega)
  have l5 := wr_len (k := R) (x := 88) (n := a5) (by omega)
  unfold fourB at n4 e4
  obtain ⟨w0, g0⟩ : ∃ w, wrB R 88 A = w := ⟨_, rfl⟩
  obtain ⟨w1, g1⟩ : ∃ w, wrB R 88 a1 = w := ⟨_, rfl⟩
  obtain ⟨w2, g2⟩ : ∃ w, wrB R 88 a2 = w := ⟨_, rfl⟩
  obtain ⟨w3, g3⟩ : ∃ w, wrB R 88 a3 = w := ⟨_, rfl⟩
  obtain ⟨w4, g4⟩ : ∃ w, wrB R 88 a4 = w := ⟨_, rfl⟩
  obtain ⟨w5, g5⟩ : ∃ w, wrB R 88 a5 = w := ⟨_, rfl⟩
  rw [g0] at n1 l0; rw [g1] at n2 n4 e4 l1; rw [g2] at n4 e4 l2; rw [g3] at n4 e4 l3; rw [g4] at n4 e4 l4; rw [g5] at n2 l5
  simp only [Tryd.f3, run_seq]
  generalize hK : (Code.region 4 _ _).seq _ = K
  simp -implicitDefEqProofs [go_sem, pWrC, hW, hR, hA, g0]
  generalize hhp : h ++ [(⟨2, true, [.i .i64 k]⟩ : Blk), ⟨2, true, [.f (.func 9) []]⟩] = hp at hW ⊢
  have hE : Ext h hp := hhp ▸ (Ext.refl h).app _
  clear hhp
  refine run_gen (fun t => get t 0 = .i .u32 a ∧ get t 1 = .i .i64 k ∧ get t 6 = .f (.func 10) [.p h.length 0, .p (h.length + 1) 0] ∧ get t 7 = .s w0) (by simp -implicitDefEqProofs [go_sem]) ?_
  rintro t ⟨t0, t1, t6, t7⟩
  subst hK
  simp only [run_seq]
  generalize hK : (Code.region 5 _ _).seq _ = K
  have z1 : w1.length + 1 ≤ 281474976710656 := by omega
  have z0 : w1.length + 1 + w2.length ≤ 281474976710656 := by omega
  have z2 : w1.length + (1 + w2.length) ≤ 281474976710656 := by omega
  have z2' : w1.length + (w2.length + 1) ≤ 281474976710656 := by omega
  have z3 : w1.length + (w2.length + 1) + 1 ≤ 281474976710656 := by omega
  have z4 : w1.length + (w2.length + 1 + 1) + w3.length ≤ 281474976710656 := by omega
  have z5 : w1.length + (w2.length + (w3.length + 1) + 1) + 1 ≤ 281474976710656 := by omega
  have z6 : w1.length + (w2.length + (w3.length + 1 + 1) + 1) + w4.length ≤ 281474976710656 := by omega
  have z7 : w1.length + (w2.length + (w3.length + (w4.length + 1) + 1) + 1) + 1 ≤ 281474976710656 := by omega
  simp -implicitDefEqProofs [go_sem, t0, t1, t6, t7, pWrC, hW, hR, h1, h2, h3, h4, g1, g2, g3, g4, and255 (c := a / 65536) (by omega), and255 (c := a / 256) (by omega), and255 (c := a) (by omega), z0, z1, z2, z2', z3, z4, z5, z6, z7]
  obtain ⟨W, hWf⟩ : ∃ W, w1 ++ 46 :: (w2 ++ 46 :: (w3 ++ 46 :: (w4 ++ [46]))) = W := ⟨_, rfl⟩
  have hWl : W.length ≤ 1048576 := by rw [← hWf]; simp; omega
  rw [hWf] at n4 e4 ⊢
  refine run_gen (fun t => get t 0 = .i .u32 a ∧ get t 6 = .f (.func 10) [.p h.length 0, .p (h.length + 1) 0] ∧ get t 7 = .s w0 ∧ get t 8 = .s W) (by simp -implicitDefEqProofs [go_sem, t0, t6, t7]) ?_
  clear t0 t1 t6 t7
  clear t
  rintro t ⟨t0, t6, t7, t8⟩
  subst hK
  simp only [run_seq]
  generalize hK : (Code.region 6 _ _).seq _ = K
  have y0 : w1.length + 1 + w5.length ≤ 281474976710656 := by omega
  simp -implicitDefEqProofs [go_sem, t0, t6, t7, t8, pWrC, hW, hR, h1, h5, g1, g5, and24 (c := a) (by omega), z1, y0]
  obtain ⟨X, hXf⟩ : ∃ X, w1 ++ 46 :: w5 = X := ⟨_, rfl⟩
  have hXl : X.length ≤ 1048576 := by rw [← hXf]; simp; omega
  rw [hXf] at n2 ⊢
  refine run_gen (fun t => get t 0 = .i .u32 a ∧ get t 7 = .s w0 ∧ get t 8 = .s W ∧ get t 9 = .s X) (by simp -implicitDefEqProofs [go_sem, t0, t6, t7, t8]) ?_
  clear t0 t6 t7 t8
  clear t
  rintro t ⟨t0, t7, t8, t9⟩
  subst hK
  simp only [run_seq]
  generalize hK : (Code.region 10 _ _).seq _ = K
  have w0l : w0.length ≤ 1048576 := by omega
  simp -implicitDefEqProofs [go_sem, t0, t7, t8, t9, pNumberC, w0l, hWl, hXl, n1, n2, n4, e4, okV, pHParseC, hostV]
  refine run_gen (fun t => get t 0 = .i .u32 a ∧ get t 10 = .i .u32 a ∧ get t 11 = .b true ∧ get t 12 = .i .u32 a ∧ get t 13 = .b true ∧ get t 14 = .i .u32 a ∧ get t 15 = .b true ∧ get t 16 = .s (textL a) ∧ get t 17 = .i .i64 0) (by simp -implicitDefEqProofs [go_sem, t0]) ?_
  clear t0 t7 t8 t9
  clear t
  rintro t ⟨t0, t10, t11, t12, t13, t14, t15, t16, t17⟩
  subst hK
  simp -implicitDefEqProofs [go_sem, t0, t10, t11, t12, t13, t14, t15, t16, t17, pTextC, pAwake10C, hE]
end GoD
