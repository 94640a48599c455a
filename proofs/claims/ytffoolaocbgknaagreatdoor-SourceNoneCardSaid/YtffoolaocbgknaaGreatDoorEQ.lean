import Derived.Test.YtffoolaocbgknaaGreatDoorEP
/-! Runes and points as the document reads them. -/
namespace GoD
open Go Go.Proofs
set_option linter.unusedVariables false
set_option linter.unusedSimpArgs false
set_option maxHeartbeats 4000000
set_option maxRecDepth 100000
def runeStep (u c : Int) : Int := Go.bits .or .i64 (IntKind.i64.wrap (u * 64)) (IntKind.i64.wrap (Go.bits .and .u8 c 63))
def runeG : Nat → Int → List Int → Option Int
  | 0, u, _ => some u
  | _ + 1, _, [] => none
  | k + 1, u, c :: t => if Go.bits .and .u8 c 192 = 128 then runeG k (runeStep u c) t else none
def runeF (n : Nat) (least u : Int) (t : List Int) : Nat := if t.length + 1 < n then 0 else match runeG (n - 1) u t with
  | none => 0
  | some v => if v < least ∨ 1114111 < v ∨ (55296 ≤ v ∧ v ≤ 57343) then 0 else n
def runeN (c : Int) (t : List Int) : Nat :=
  if c < 128 then 1 else if 194 ≤ c ∧ c < 224 then runeF 2 128 (Go.bits .and .i64 (IntKind.i64.wrap c) 31) t
  else if 224 ≤ c ∧ c < 240 then runeF 3 2048 (Go.bits .and .i64 (IntKind.i64.wrap c) 15) t
  else if 240 ≤ c ∧ c < 245 then runeF 4 65536 (Go.bits .and .i64 (IntKind.i64.wrap c) 7) t else 0
theorem runeF_le (n : Nat) (a u : Int) (t : List Int) : runeF n a u t ≤ t.length + 1 := by
  unfold runeF
  split
  · omega
  · split
    · omega
    · split <;> omega
theorem runeN_le (c : Int) (t : List Int) : runeN c t ≤ t.length + 1 := by
  unfold runeN
  split
  · omega
  · split
    · exact runeF_le _ _ _ _
    · split
      · exact runeF_le _ _ _ _
      · split
        · exact runeF_le _ _ _ _
        · omega
noncomputable def runeLoop : Code := loop1 Tryz.f107
theorem rune_loop {P : Ex → Tm → Heap → Prop} {k : List Todo} {l : List Int} {n : Nat} {u w : Int} {g : Option Int} {h : Heap} (hl : l.length ≤ 281474976710656) (hn : 1 ≤ n) (hn' : n ≤ 4) (hnl : n ≤ l.length) (hg : runeG (n - 1) u (l.drop 1) = g)
    (hx : ∀ t v, g = some v → get t 5 = .i .i64 v → get t 4 = .i .i64 n → get t 6 = .i .i64 w → RunX (ctx Tryz.prog G0 []) P k (.e 1) t h)
    (hr : ∀ t, g = none → get t 2 = .i .i64 0 → RunX (ctx Tryz.prog G0 []) P k .r t h)
    {t : Tm} (t0 : get t 0 = .s l) (t4 : get t 4 = .i .i64 n) (t5 : get t 5 = .i .i64 u) (t6 : get t 6 = .i .i64 w) (t7 : get t 7 = .i .i64 1) : Run (ctx Tryz.prog G0 []) P (.again runeLoop :: k) t h := by
  refine run_inv _ _ _ _ _ (fun (x : Nat × Int) t h1 => 1 ≤ x.1 ∧ x.1 ≤ n ∧ get t 0 = .s l ∧ get t 4 = .i .i64 n ∧ get t 5 = .i .i64 x.2 ∧ get t 6 = .i .i64 w ∧ get t 7 = .i .i64 x.1 ∧ runeG (n - x.1) x.2 (l.drop x.1) = g ∧ h1 = h) (fun x => n - x.1) _ (x := (1, u)) ⟨Nat.le_refl _, hn, t0, t4, t5, t6, t7, hg, rfl⟩ ?_
  clear t0 t4 t5 t6 t7 hg
  rintro ⟨i, u⟩ t h1 ⟨hi, hin, t0, t4, t5, t6, t7, hg, rfl⟩ ih
  simp only at hi hin t5 t7 hg
  have hi6 : i < 1152921504606846976 := by omega
  by_cases hlt : i < n
  · have hlt' : i < l.length := by omega
    obtain ⟨d, hc⟩ : ∃ d, l[i] = d := ⟨_, rfl⟩
    rw [List.drop_eq_getElem_cons hlt', hc, show n - i = (n - (i + 1)) + 1 by omega, runeG] at hg
    by_cases c1 : Go.bits .and .u8 d 192 = 128
    · rw [if_pos c1] at hg
      simp -implicitDefEqProofs [go_sem, runeLoop, loop1, loopC, Tryz.f107, t0, t4, t5, t7, hlt, hlt', hc, eq_true c1]
      refine ih (i + 1, runeStep u d) _ _ (by simp; omega) ⟨by omega, hlt, ?_⟩
      simp -implicitDefEqProofs [go_sem, t0, t4, t5, t6, t7, i64_n hi6]
      exact ⟨rfl, hg⟩
    · rw [if_neg c1] at hg
      simp -implicitDefEqProofs [go_sem, runeLoop, loop1, loopC, Tryz.f107, t0, t4, t5, t7, hlt, hlt', hc, c1]
      exact hr _ hg.symm (by simp -implicitDefEqProofs [go_sem])
  · rw [show n - i = 0 by omega, runeG] at hg
    simp -implicitDefEqProofs [go_sem, runeLoop, loop1, loopC, Tryz.f107, t0, t4, t5, t7, hlt]
    exact hx _ u hg.symm (by simp -implicitDefEqProofs [go_sem, t5]) (by simp -implicitDefEqProofs [go_sem, t4]) (by simp -implicitDefEqProofs [go_sem, t6])
def rRuneAtC : Ct := fun args h => match args with | [.s (c :: l)] => some (.i .i64 (runeN c l), h) | _ => none
theorem rRuneAt_ok : CtOk Tryz.prog G0 107 rRuneAtC := by
  refine ct_plain (n := 1) fol sound_nil (by kernel_rfl) Tryz.func107 rfl fun args h v h' hc r xs H hr hx => ?_
  unfold rRuneAtC at hc; split at hc <;> (try split at hc) <;> cases hc
  rename_i c l
  obtain ⟨⟨hs, hl⟩, _⟩ := str_of hx
  refine ⟨rfl, rfl, by simp [renV, bndV], ?_⟩
  have hb : 0 ≤ c ∧ c < 256 := hs c List.mem_cons_self
  obtain ⟨res, hE⟩ : ∃ x, runeN c l = x := ⟨_, rfl⟩
  rw [hE]
  unfold runeN at hE
  by_cases c1 : c < 128
  · rw [if_pos c1] at hE
    subst hE
    simp -implicitDefEqProofs [go_sem, Tryz.f107, c1]
  rw [if_neg c1] at hE
  by_cases c2 : 194 ≤ c ∧ c < 224
  · rw [if_pos c2] at hE
    obtain ⟨c2, c3⟩ := c2
    revert hE; intro hE
    rw [runeF] at hE
    by_cases k1 : l.length + 1 < 2
    · rw [if_pos k1] at hE
      subst hE
      have k1' : (l.length : Int) + 1 < 2 := by omega
      simp -implicitDefEqProofs [go_sem, Tryz.f107, c1, c2, c3, k1', k1]
    · rw [if_neg k1] at hE
      have k1' : ¬ (l.length : Int) + 1 < 2 := by omega
      simp -implicitDefEqProofs [go_sem, Tryz.f107, c1, c2, c3, k1', k1]
      refine rune_loop (l := c :: l) (n := 2) (u := Go.bits .and .i64 (IntKind.i64.wrap c) 31) (w := 128) (g := runeG (2 - 1) (Go.bits .and .i64 (IntKind.i64.wrap c) 31) l) hl (by omega) (by omega) (by simp at k1 ⊢; omega) rfl ?_ ?_ (by simp -implicitDefEqProofs [go_sem]) (by simp -implicitDefEqProofs [go_sem]) (by simp -implicitDefEqProofs [go_sem]) (by simp -implicitDefEqProofs [go_sem]) (by simp -implicitDefEqProofs [go_sem])
      · intro t v e t5 t4 t6
        rw [e] at hE
        simp only at hE
        by_cases v1 : v < 128
        · rw [if_pos (.inl v1)] at hE
          subst hE
          simp -implicitDefEqProofs [go_sem, t5, t4, t6, v1]
        · by_cases v2 : 1114111 < v
          · rw [if_pos (.inr (.inl v2))] at hE
            subst hE
            simp -implicitDefEqProofs [go_sem, t5, t4, t6, v1, v2]
          · by_cases v3 : 55296 ≤ v
            · by_cases v4 : v ≤ 57343
              · rw [if_pos (.inr (.inr ⟨v3, v4⟩))] at hE
                subst hE
                simp -implicitDefEqProofs [go_sem, t5, t4, t6, v1, v2, v3, v4]
              · rw [if_neg (by omega)] at hE
                subst hE
                simp -implicitDefEqProofs [go_sem, t5, t4, t6, v1, v2, v3, v4]
            · rw [if_neg (by omega)] at hE
              subst hE
              simp -implicitDefEqProofs [go_sem, t5, t4, t6, v1, v2, v3]
      · intro t e t2
        rw [e] at hE
        subst hE
        simp -implicitDefEqProofs [go_sem, t2]
  rw [if_neg c2] at hE
  by_cases c4 : 224 ≤ c ∧ c < 240
  · rw [if_pos c4] at hE
    obtain ⟨c4, c5⟩ := c4
    have d1 : 194 ≤ c := by omega
    have d2 : ¬ c < 224 := by omega
    rw [runeF] at hE
    by_cases k1 : l.length + 1 < 3
    · rw [if_pos k1] at hE
      subst hE
      have k1' : (l.length : Int) + 1 < 3 := by omega
      simp -implicitDefEqProofs [go_sem, Tryz.f107, c1, d1, d2, c4, c5, k1', k1]
    · rw [if_neg k1] at hE
      have k1' : ¬ (l.length : Int) + 1 < 3 := by omega
      simp -implicitDefEqProofs [go_sem, Tryz.f107, c1, d1, d2, c4, c5, k1', k1]
      refine rune_loop (l := c :: l) (n := 3) (u := Go.bits .and .i64 (IntKind.i64.wrap c) 15) (w := 2048) (g := runeG (3 - 1) (Go.bits .and .i64 (IntKind.i64.wrap c) 15) l) hl (by omega) (by omega) (by simp at k1 ⊢; omega) rfl ?_ ?_ (by simp -implicitDefEqProofs [go_sem]) (by simp -implicitDefEqProofs [go_sem]) (by simp -implicitDefEqProofs [go_sem]) (by simp -implicitDefEqProofs [go_sem]) (by simp -implicitDefEqProofs [go_sem])
      · intro t v e t5 t4 t6
        rw [e] at hE
        simp only at hE
        by_cases v1 : v < 2048
        · rw [if_pos (.inl v1)] at hE
          subst hE
          simp -implicitDefEqProofs [go_sem, t5, t4, t6, v1]
        · by_cases v2 : 1114111 < v
          · rw [if_pos (.inr (.inl v2))] at hE
            subst hE
            simp -implicitDefEqProofs [go_sem, t5, t4, t6, v1, v2]
          · by_cases v3 : 55296 ≤ v
            · by_cases v4 : v ≤ 57343
              · rw [if_pos (.inr (.inr ⟨v3, v4⟩))] at hE
                subst hE
                simp -implicitDefEqProofs [go_sem, t5, t4, t6, v1, v2, v3, v4]
              · rw [if_neg (by omega)] at hE
                subst hE
                simp -implicitDefEqProofs [go_sem, t5, t4, t6, v1, v2, v3, v4]
            · rw [if_neg (by omega)] at hE
              subst hE
              simp -implicitDefEqProofs [go_sem, t5, t4, t6, v1, v2, v3]
      · intro t e t2
        rw [e] at hE
        subst hE
        simp -implicitDefEqProofs [go_sem, t2]
  rw [if_neg c4] at hE
  by_cases c6 : 240 ≤ c ∧ c < 245
  · rw [if_pos c6] at hE
    obtain ⟨c6, c7⟩ := c6
    have d1 : 194 ≤ c := by omega
    have d2 : ¬ c < 224 := by omega
    have d3 : 224 ≤ c := by omega
    have d4 : ¬ c < 240 := by omega
    rw [runeF] at hE
    by_cases k1 : l.length + 1 < 4
    · rw [if_pos k1] at hE
      subst hE
      have k1' : (l.length : Int) + 1 < 4 := by omega
      simp -implicitDefEqProofs [go_sem, Tryz.f107, c1, d1, d2, d3, d4, c6, c7, k1', k1]
    · rw [if_neg k1] at hE
      have k1' : ¬ (l.length : Int) + 1 < 4 := by omega
      simp -implicitDefEqProofs [go_sem, Tryz.f107, c1, d1, d2, d3, d4, c6, c7, k1', k1]
      refine rune_loop (l := c :: l) (n := 4) (u := Go.bits .and .i64 (IntKind.i64.wrap c) 7) (w := 65536) (g := runeG (4 - 1) (Go.bits .and .i64 (IntKind.i64.wrap c) 7) l) hl (by omega) (by omega) (by simp at k1 ⊢; omega) rfl ?_ ?_ (by simp -implicitDefEqProofs [go_sem]) (by simp -implicitDefEqProofs [go_sem]) (by simp -implicitDefEqProofs [go_sem]) (by simp -implicitDefEqProofs [go_sem]) (by simp -implicitDefEqProofs [go_sem])
      · intro t v e t5 t4 t6
        rw [e] at hE
        simp only at hE
        by_cases v1 : v < 65536
        · rw [if_pos (.inl v1)] at hE
          subst hE
          simp -implicitDefEqProofs [go_sem, t5, t4, t6, v1]
        · by_cases v2 : 1114111 < v
          · rw [if_pos (.inr (.inl v2))] at hE
            subst hE
            simp -implicitDefEqProofs [go_sem, t5, t4, t6, v1, v2]
          · by_cases v3 : 55296 ≤ v
            · by_cases v4 : v ≤ 57343
              · rw [if_pos (.inr (.inr ⟨v3, v4⟩))] at hE
                subst hE
                simp -implicitDefEqProofs [go_sem, t5, t4, t6, v1, v2, v3, v4]
              · rw [if_neg (by omega)] at hE
                subst hE
                simp -implicitDefEqProofs [go_sem, t5, t4, t6, v1, v2, v3, v4]
            · rw [if_neg (by omega)] at hE
              subst hE
              simp -implicitDefEqProofs [go_sem, t5, t4, t6, v1, v2, v3]
      · intro t e t2
        rw [e] at hE
        subst hE
        simp -implicitDefEqProofs [go_sem, t2]
  rw [if_neg c6] at hE
  subst hE
  by_cases d1 : 194 ≤ c
  · have d2 : ¬ c < 224 := by omega
    have d3 : 224 ≤ c := by omega
    have d4 : ¬ c < 240 := by omega
    have d5 : 240 ≤ c := by omega
    have d6 : ¬ c < 245 := by omega
    simp -implicitDefEqProofs [go_sem, Tryz.f107, c1, d1, d2, d3, d4, d5, d6]
  · have d3 : ¬ 224 ≤ c := by omega
    have d5 : ¬ 240 ≤ c := by omega
    simp -implicitDefEqProofs [go_sem, Tryz.f107, c1, d1, d3, d5]
/-- where the first byte is that is no rune -/
def brokenG : Nat → List Int → Nat
  | 0, _ => 0
  | _, [] => 0
  | f + 1, c :: t => if runeN c t = 0 then 0 else runeN c t + brokenG f (t.drop (runeN c t - 1))
theorem brokenG_fuel : ∀ (f g : Nat) (l : List Int), l.length ≤ f → l.length ≤ g → brokenG f l = brokenG g l
  | 0, 0, l, _, _ => rfl
  | 0, g + 1, l, h, _ => by rw [List.length_eq_zero_iff.1 (show l.length = 0 by omega)]; simp [brokenG]
  | f + 1, 0, l, _, h => by rw [List.length_eq_zero_iff.1 (show l.length = 0 by omega)]; simp [brokenG]
  | f + 1, g + 1, l, h1, h2 => by
    match l with
    | [] => simp [brokenG]
    | c :: t =>
      simp at h1 h2
      rw [brokenG, brokenG]
      split
      · rfl
      · rw [brokenG_fuel f g _ (by simp; omega) (by simp; omega)]
def brokenN (l : List Int) : Nat := brokenG l.length l
theorem brokenN_nil : brokenN [] = 0 := rfl
theorem brokenN_cons (c : Int) (t : List Int) : brokenN (c :: t) = if runeN c t = 0 then 0 else runeN c t + brokenN (t.drop (runeN c t - 1)) := by
  unfold brokenN
  rw [show (c :: t).length = t.length + 1 from rfl, brokenG]
  split
  · rfl
  · rw [brokenG_fuel t.length (t.drop (runeN c t - 1)).length _ (by simp) (Nat.le_refl _)]
def rBrokenC : Ct := fun args h => match args with | [.s l] => some (.i .i64 (brokenN l), h) | _ => none
theorem rBroken_ok : CtOk Tryz.prog G0 91 rBrokenC := by
  refine ct_plain (n := 1) fol (sound_cons rRuneAt_ok sound_nil) (by kernel_rfl) Tryz.func91 rfl fun args h v h' hc r xs H hr hx => ?_
  unfold rBrokenC at hc; split at hc <;> (try split at hc) <;> cases hc
  rename_i l
  obtain ⟨⟨hs, hl⟩, _⟩ := str_of hx
  refine ⟨rfl, rfl, by simp [renV, bndV], ?_⟩
  simp -implicitDefEqProofs [go_sem, Tryz.f91]
  refine run_inv _ _ _ _ _ (fun (i : Nat) t h1 => i ≤ l.length ∧ get t 0 = .s l ∧ get t 3 = .i .i64 i ∧ i + brokenN (l.drop i) = brokenN l ∧ Ext h h1) (fun i => l.length - i) _ (x := 0) ⟨by simp, rfl, rfl, by simp, Ext.refl h⟩ ?_
  rintro i t h1 ⟨hi, t0, t3, hd, he⟩ ih
  by_cases hlt : i < l.length
  · obtain ⟨d, hc⟩ : ∃ d, l[i] = d := ⟨_, rfl⟩
    have hdr : l.drop i = d :: l.drop (i + 1) := by rw [List.drop_eq_getElem_cons hlt, hc]
    rw [hdr, brokenN_cons] at hd
    have hle := runeN_le d (l.drop (i + 1))
    rw [List.length_drop] at hle
    have hile : (i : Int) ≤ l.length := by omega
    by_cases c1 : runeN d (l.drop (i + 1)) = 0
    · rw [if_pos c1] at hd
      simp -implicitDefEqProofs [go_sem, Tryz.f91, t0, t3, hlt, hi, hile, hdr, rRuneAtC, c1, he]
      omega
    · rw [if_neg c1, List.drop_drop] at hd
      simp -implicitDefEqProofs [go_sem, Tryz.f91, t0, t3, hlt, hi, hile, hdr, rRuneAtC, c1]
      refine ih (i + runeN d (l.drop (i + 1))) _ _ (by omega) ⟨by omega, ?_⟩
      simp -implicitDefEqProofs [go_sem, t0, t3, he, w64 (x := (i : Int) + runeN d (l.drop (i + 1))) (by omega)]
      rw [← hd, show i + 1 + (runeN d (l.drop (i + 1)) - 1) = i + runeN d (l.drop (i + 1)) by omega]
      omega
  · have e0 : l.drop i = [] := List.drop_eq_nil_of_le (by omega)
    rw [e0, brokenN_nil] at hd
    simp -implicitDefEqProofs [go_sem, Tryz.f91, t0, t3, hlt, he]
    omega
def utf8B (l : List Int) : Bool := decide (brokenN l = l.length)
def rUTF8C : Ct := fun args h => match args with | [.s l] => some (.b (utf8B l), h) | _ => none
theorem rUTF8_ok : CtOk Tryz.prog G0 70 rUTF8C := by
  refine ct_plain (n := 1) fol (sound_cons rBroken_ok sound_nil) (by kernel_rfl) Tryz.func70 rfl fun args h v h' hc r xs H hr hx => ?_
  unfold rUTF8C at hc; split at hc <;> (try split at hc) <;> cases hc
  rename_i l
  refine ⟨rfl, rfl, by simp [renV, bndV], ?_⟩
  simp -implicitDefEqProofs [go_sem, Tryz.f70, rBrokenC, utf8B]
  exact ⟨fun h => by omega, fun h => by omega⟩
/-- points -/
def dotsL : List Int → Option Nat
  | [] => some 0
  | c :: t => if c = 46 then (dotsL t).map (· + 1) else if c = 37 then (match t with
    | a :: b :: r => if a = 50 ∧ b = 101 then (dotsL r).map (· + 1) else none
    | _ => none) else none
def dotsT : List Int → Option Nat
  | a :: b :: r => if a = 50 ∧ b = 101 then (dotsL r).map (· + 1) else none
  | _ => none
theorem dotsL_cons (c : Int) (t : List Int) : dotsL (c :: t) = if c = 46 then (dotsL t).map (· + 1) else if c = 37 then dotsT t else none := by
  match t with
  | [] => simp [dotsL, dotsT]
  | [a] => simp [dotsL, dotsT]
  | a :: b :: r => simp [dotsL, dotsT]
def dotsN (l : List Int) : Nat := match dotsL (lowerL l) with
  | some n => if 2 < n then 0 else n
  | none => 0
def rDotsC : Ct := fun args h => match args with | [.s l] => if l.length ≤ 1048576 then some (.i .i64 (dotsN l), h) else none | _ => none
theorem rDots_ok : CtOk Tryz.prog G0 95 rDotsC := by
  refine ct_plain (n := 1) fol (sound_cons rLower_ok sound_nil) (by kernel_rfl) Tryz.func95 rfl fun args h v h' hc r xs H hr hx => ?_
  unfold rDotsC at hc; split at hc <;> (try split at hc) <;> cases hc
  rename_i l hl
  obtain ⟨⟨hs, _⟩, _⟩ := str_of hx
  refine ⟨rfl, rfl, by simp [renV, bndV], ?_⟩
  obtain ⟨res, hE⟩ : ∃ x, dotsN l = x := ⟨_, rfl⟩
  rw [hE]
  unfold dotsN at hE
  have hl2 : (lowerL l).length ≤ 1048576 := by simpa [lowerL] using hl
  simp -implicitDefEqProofs [go_sem, Tryz.f95, rLowerC, hl]
  refine run_inv _ _ _ _ _ (fun (x : List Int × Nat) t h1 => x.1.length + x.2 ≤ 1048576 ∧ get t 0 = .s x.1 ∧ get t 3 = .i .i64 x.2 ∧ (dotsL x.1).map (x.2 + ·) = dotsL (lowerL l) ∧ Ext h h1) (fun x => x.1.length) _ (x := (lowerL l, 0)) ⟨by simp; omega, by simp -implicitDefEqProofs [go_sem], by simp -implicitDefEqProofs [go_sem], by simp, Ext.refl h⟩ ?_
  rintro ⟨s, n⟩ t h1 ⟨hsl, t0, t3, hd, he⟩ ih
  simp only at hsl t0 t3 hd
  have hn6 : n < 1152921504606846976 := by omega
  have pl : ∀ o : Option Nat, (o.map (· + 1)).map (n + ·) = o.map (n + 1 + ·) := fun o => by cases o <;> simp; omega
  match s, hsl, t0, hd with
  | [], _, t0, hd =>
    rw [dotsL] at hd
    rw [← hd] at hE
    simp at hE
    by_cases c1 : 2 < n
    · rw [if_pos c1] at hE
      subst hE
      have c1' : (2 : Int) < n := by omega
      simp -implicitDefEqProofs [go_sem, Tryz.f95, t0, t3, c1, c1', he]
    · rw [if_neg c1] at hE
      subst hE
      have c1' : ¬ (2 : Int) < n := by omega
      simp -implicitDefEqProofs [go_sem, Tryz.f95, t0, t3, c1, c1', he]
  | c :: q, hsl, t0, hd =>
    have k1 : (1 : Int) ≤ (q.length : Int) + 1 := by omega
    have k2 : (0 : Int) < (q.length : Int) + 1 := by omega
    simp at hsl
    rw [dotsL_cons] at hd
    by_cases c1 : c = 46
    · rw [if_pos c1, pl] at hd
      simp -implicitDefEqProofs [go_sem, Tryz.f95, t0, t3, eq_true c1, k1, k2]
      refine ih (q, n + 1) _ _ (by simp) ⟨by simp; omega, ?_⟩
      simp -implicitDefEqProofs [go_sem, t3, i64_n hn6, he, hd]
    · rw [if_neg c1] at hd
      match q, k1, k2, hsl, t0, hd with
      | [], _, _, _, t0, hd =>
        have : dotsL (lowerL l) = none := by rw [← hd, show dotsT [] = none from rfl]; split <;> rfl
        rw [this] at hE
        subst hE
        simp -implicitDefEqProofs [go_sem, Tryz.f95, t0, t3, c1, he]
      | [a], _, _, _, t0, hd =>
        have : dotsL (lowerL l) = none := by rw [← hd, show dotsT [a] = none from rfl]; split <;> rfl
        rw [this] at hE
        subst hE
        simp -implicitDefEqProofs [go_sem, Tryz.f95, t0, t3, c1, he]
      | a :: b :: r, _, _, hsl, t0, hd =>
        have k3 : (3 : Int) ≤ (r.length : Int) + 1 + 1 + 1 := by omega
        have k4 : (0 : Int) < (r.length : Int) + 1 + 1 + 1 := by omega
        simp at hsl
        by_cases c2 : c = 37 ∧ a = 50 ∧ b = 101
        · obtain ⟨rfl, rfl, rfl⟩ := c2
          rw [if_pos rfl, dotsT, if_pos ⟨rfl, rfl⟩, pl] at hd
          simp -implicitDefEqProofs [go_sem, Tryz.f95, t0, t3, k3, k4]
          refine ih (r, n + 1) _ _ (by simp; omega) ⟨by simp; omega, ?_⟩
          simp -implicitDefEqProofs [go_sem, t3, i64_n hn6, he, hd]
        · have : dotsL (lowerL l) = none := by
            rw [← hd, dotsT]
            split
            · rename_i e1
              rw [if_neg fun e => c2 ⟨e1, e.1, e.2⟩]; rfl
            · rfl
          rw [this] at hE
          subst hE
          have c3 : ([c, a, b] = [37, 50, 101]) = False := eq_false fun e => by simp at e; exact c2 ⟨e.1, e.2.1, e.2.2⟩
          have c4 : c = 37 → a = 50 → ¬ b = 101 := fun e1 e2 e3 => c2 ⟨e1, e2, e3⟩
          by_cases d1 : c = 37
          · by_cases d2 : a = 50
            · have d3 : ¬ b = 101 := c4 d1 d2
              simp -implicitDefEqProofs [go_sem, Tryz.f95, t0, t3, c1, eq_true d1, eq_true d2, d3, k3, k4, he]
            · simp -implicitDefEqProofs [go_sem, Tryz.f95, t0, t3, c1, eq_true d1, d2, k3, k4, he]
          · simp -implicitDefEqProofs [go_sem, Tryz.f95, t0, t3, c1, d1, k3, k4, he]
end GoD
