import Derived.Test.YtkollnjnfdpolaaEA
/-! Chapter 6: sums. -/
namespace GoD
open Go Go.Proofs
set_option linter.unusedVariables false
set_option linter.unusedSimpArgs false
set_option maxHeartbeats 4000000
set_option maxRecDepth 100000
def crcS (c : Int) : Int := Go.bits .xor .u32 (c / 2) (Go.bits .and .u32 3988292384 (IntKind.u32.wrap (0 - Go.bits .and .u32 c 1)))
def crcI : Nat → Int → Int
  | 0, c => c
  | n + 1, c => crcI n (crcS c)
def crcB (c x : Int) : Int := crcI 8 (Go.bits .xor .u32 c (IntKind.u32.wrap x))
def crcL : Int → List Int → Int
  | c, [] => c
  | c, x :: l => crcL (crcB c x) l
def crcP : Int → List (List Int) → Int
  | c, [] => c
  | c, p :: l => crcP (crcL c p) l
def bytesAt (h : Heap) (v : V) : Option (List Int) := match v with
  | .sl b o n 1 => match hget h b with
    | ⟨_ + 1, _, c⟩ => match ldN c o n with | some l => bytesV l | none => none
    | _ => none
  | _ => none
def partsAt (h : Heap) : List V → Option (List (List Int))
  | [] => some []
  | v :: l => match bytesAt h v, partsAt h l with
    | some x, some y => some (x :: y)
    | _, _ => none
def pCRCC : Ct := fun args h => match args with
  | [.sl b o n 1] => match hget h b with
    | ⟨_ + 1, _, c⟩ => match ldN c o n with
      | some l => match partsAt h l with
        | some y => if (y.all fun p => decide (p.length ≤ 1048576)) = true then some (.i .u32 (Go.bits .xor .u32 4294967295 (crcP 4294967295 y)), h) else none
        | none => none
      | none => none
    | _ => none
  | _ => none
theorem partsAt_get {h : Heap} : ∀ {l : List V} {y : List (List Int)}, partsAt h l = some y → l.length = y.length ∧ ∀ i (hi : i < y.length), ∃ v, l[i]? = some v ∧ bytesAt h v = some y[i]
  | [], y, e => by simp [partsAt] at e; subst e; simp
  | v :: l, y, e => by
    unfold partsAt at e
    split at e
    · rename_i x z h1 h2
      obtain rfl := Option.some.inj e
      obtain ⟨a, b⟩ := partsAt_get h2
      refine ⟨by simp [a], fun i hi => ?_⟩
      cases i with
      | zero => exact ⟨v, rfl, h1⟩
      | succ i => simpa using b i (by simpa using hi)
    · cases e
theorem bytesAt_some {h : Heap} {v : V} {l : List Int} (e : bytesAt h v = some l) : ∃ b o st x c, v = .sl b o l.length 1 ∧ hget h b = ⟨st + 1, x, c⟩ ∧ ldN c o l.length = some (bts l) := by
  unfold bytesAt at e
  split at e
  · split at e
    · rename_i b o n _ st x c hg
      split at e
      · rename_i m hm
        have hb := bytesV_some e
        have hl := (ldN_some hm).2.2.1
        have hn : n = l.length := by rw [← hl, hb]; simp
        subst hn
        exact ⟨_, _, _, _, _, rfl, hg, by rw [hm, hb]; rfl⟩
      · cases e
    · cases e
  · cases e
theorem ldN_1 {c : List V} {o n : Nat} {l : List V} (h : ldN c o n = some l) {i : Nat} {v : V} (hv : l[i]? = some v) : ldN c (o + i) 1 = some [v] := by
  obtain ⟨h1, rfl, h2, h3⟩ := ldN_some h
  have hi := (List.getElem?_eq_some_iff.1 hv).1
  have := h3 i v hv
  have hlt : o + i < c.length := (List.getElem?_eq_some_iff.1 this).1
  unfold ldN
  rw [if_pos (by omega), List.drop_eq_getElem_cons hlt]
  rw [List.getElem?_eq_getElem hlt] at this
  rw [Option.some.inj this]; rfl
theorem pCRC_ok : CtOk Try.prog G0 54 pCRCC := by
  refine ct_plain (n := 1) fol sound_nil (by kernel_rfl) Try.func54 rfl fun args h v h' hc r xs H hr hx => ?_
  unfold pCRCC at hc
  split at hc
  case h_2 => cases hc
  rename_i b o n
  split at hc
  case h_2 => cases hc
  rename_i _ st xx c hg
  split at hc
  case h_2 => cases hc
  rename_i l hl
  split at hc
  case h_2 => cases hc
  rename_i y hy
  split at hc
  case isFalse => cases hc
  rename_i hyl
  cases hc
  obtain ⟨hly, hat⟩ := partsAt_get hy
  have hln := (ldN_some hl).2.2.1
  have hn6 := (sl_of hx).1
  refine ⟨rfl, rfl, by simp [renV, bndV], ?_⟩
  obtain ⟨R, hR⟩ : ∃ R, crcP 4294967295 y = R := ⟨_, rfl⟩
  rw [hR]
  simp -implicitDefEqProofs [go_sem, Try.f54]
  refine run_inv _ _ _ _ _ (fun (x : Nat × Int) t h1 => x.1 ≤ n ∧ get t 3 = .i .u32 x.2 ∧ get t 8 = .sl b o n 1 ∧ get t 9 = .i .i64 n ∧ get t 10 = .i .i64 x.1 ∧ crcP x.2 (y.drop x.1) = R ∧ h1 = h) (fun x => n - x.1) _ (x := (0, 4294967295)) ⟨by simp, by simp -implicitDefEqProofs [go_sem], by simp -implicitDefEqProofs [go_sem], by simp -implicitDefEqProofs [go_sem], by simp -implicitDefEqProofs [go_sem], hR, rfl⟩ ?_
  rintro ⟨i, cc⟩ t h1 ⟨hi, t3, t8, t9, t10, hd, rfl⟩ ih
  simp only at hi t3 t10 hd
  have hi6 : i < 1152921504606846976 := by omega
  by_cases hlt : i < n
  · have hiy : i < y.length := by omega
    obtain ⟨v, hv1, hv2⟩ := hat i hiy
    obtain ⟨p, hp⟩ : ∃ p, y[i] = p := ⟨_, rfl⟩
    rw [hp] at hv2
    obtain ⟨b2, o2, st2, x2, c2, rfl, hg2, hl2⟩ := bytesAt_some hv2
    have hl1 := ldN_1 hl hv1
    rw [List.drop_eq_getElem_cons hiy, hp, crcP] at hd
    have hp6 : p.length ≤ 1048576 := by simpa using List.all_eq_true.1 hyl p (hp ▸ List.getElem_mem hiy)
    simp -implicitDefEqProofs [go_sem, Try.f54, t3, t8, t9, t10, hlt, hg, hl1]
    refine run_inv _ _ _ _ _ (fun (x : Nat × Int) t h2 => x.1 ≤ p.length ∧ get t 3 = .i .u32 x.2 ∧ get t 8 = .sl b o n 1 ∧ get t 9 = .i .i64 n ∧ get t 10 = .i .i64 i ∧ get t 14 = .sl b2 o2 p.length 1 ∧ get t 15 = .i .i64 p.length ∧ get t 16 = .i .i64 x.1 ∧ crcP (crcL x.2 (p.drop x.1)) (y.drop (i + 1)) = R ∧ h2 = h1) (fun x => p.length - x.1) _ (x := (0, cc)) ⟨by simp, by simp -implicitDefEqProofs [go_sem, t3], by simp -implicitDefEqProofs [go_sem, t8], by simp -implicitDefEqProofs [go_sem, t9], by simp -implicitDefEqProofs [go_sem, t10], by simp -implicitDefEqProofs [go_sem], by simp -implicitDefEqProofs [go_sem], by simp -implicitDefEqProofs [go_sem], hd, rfl⟩ ?_
    clear t3 t8 t9 t10 hd
    rintro ⟨j, c3⟩ t h2 ⟨hj, t3, t8, t9, t10, t14, t15, t16, hd, rfl⟩ ih2
    simp only at hj t3 t16 hd
    have hj6 : j < 1152921504606846976 := by omega
    by_cases hlt2 : j < p.length
    · have hl3 := ldN_1 hl2 (i := j) (v := .i .u8 p[j]) (by simp [bts, hlt2])
      obtain ⟨d, hdd⟩ : ∃ d, p[j] = d := ⟨_, rfl⟩
      rw [hdd] at hl3
      rw [List.drop_eq_getElem_cons hlt2, hdd, crcL, crcB] at hd
      simp -implicitDefEqProofs [go_sem, Try.f54, t3, t8, t9, t10, t14, t15, t16, hlt2, hg2, hl3]
      refine run_inv _ _ _ _ _ (fun (x : Nat × Int) t h3 => x.1 ≤ 8 ∧ get t 3 = .i .u32 x.2 ∧ get t 8 = .sl b o n 1 ∧ get t 9 = .i .i64 n ∧ get t 10 = .i .i64 i ∧ get t 14 = .sl b2 o2 p.length 1 ∧ get t 15 = .i .i64 p.length ∧ get t 16 = .i .i64 j ∧ get t 24 = .i .i64 x.1 ∧ crcP (crcL (crcI (8 - x.1) x.2) (p.drop (j + 1))) (y.drop (i + 1)) = R ∧ h3 = h2) (fun x => 8 - x.1) _ (x := (0, Go.bits .xor .u32 c3 (IntKind.u32.wrap d))) ⟨by simp, by simp -implicitDefEqProofs [go_sem, t3], by simp -implicitDefEqProofs [go_sem, t8], by simp -implicitDefEqProofs [go_sem, t9], by simp -implicitDefEqProofs [go_sem, t10], by simp -implicitDefEqProofs [go_sem, t14], by simp -implicitDefEqProofs [go_sem, t15], by simp -implicitDefEqProofs [go_sem, t16], by simp -implicitDefEqProofs [go_sem], hd, rfl⟩ ?_
      clear t3 t8 t9 t10 t14 t15 t16 hd
      rintro ⟨k, c4⟩ t h3 ⟨hk, t3, t8, t9, t10, t14, t15, t16, t24, hd, rfl⟩ ih3
      simp only at hk t3 t24 hd
      by_cases hlt3 : k < 8
      · have hlt4 : (k : Int) < 8 := by omega
        have e : 8 - k = (8 - (k + 1)) + 1 := by omega
        rw [e, crcI, crcS] at hd
        simp -implicitDefEqProofs [go_sem, Try.f54, t3, t8, t9, t10, t14, t15, t16, t24, hlt4]
        refine ih3 (k + 1, Go.bits .xor .u32 (c4 / 2) (Go.bits .and .u32 3988292384 (IntKind.u32.wrap (0 - Go.bits .and .u32 c4 1)))) _ _ (by simp; omega) ⟨by simp; omega, ?_⟩
        simp -implicitDefEqProofs [go_sem, t3, t8, t9, t10, t14, t15, t16, t24, i64_n (show k < 1152921504606846976 by omega)]
        simpa using hd
      · have e : k = 8 := by omega
        subst e
        simp only [Nat.sub_self, crcI] at hd
        simp -implicitDefEqProofs [go_sem, Try.f54, t3, t8, t9, t10, t14, t15, t16, t24]
        refine ih2 (j + 1, c4) _ _ (by simp; omega) ⟨by simp; omega, ?_⟩
        simp -implicitDefEqProofs [go_sem, t3, t8, t9, t10, t14, t15, t16, i64_n hj6, hd]
    · have e : j = p.length := by omega
      rw [e, List.drop_length, crcL] at hd
      simp -implicitDefEqProofs [go_sem, Try.f54, t3, t8, t9, t10, t14, t15, t16, hlt2]
      refine ih (i + 1, c3) _ _ (by simp; omega) ⟨by simp; omega, ?_⟩
      simp -implicitDefEqProofs [go_sem, t3, t8, t9, t10, i64_n hi6, hd]
  · have e : i = y.length := by omega
    rw [e, List.drop_length, crcP] at hd
    subst hd
    simp -implicitDefEqProofs [go_sem, Try.f54, t3, t8, t9, t10, hlt]
    rfl
end GoD
