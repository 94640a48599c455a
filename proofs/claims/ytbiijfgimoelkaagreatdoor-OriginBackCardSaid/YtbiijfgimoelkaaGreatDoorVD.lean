import Derived.Test.YtbiijfgimoelkaaGreatDoorOH
import Derived.Test.YtbiijfgimoelkaaGreatDoorSI
import Derived.Test.YtbiijfgimoelkaaGreatDoorZC
import Derived.Test.YtbiijfgimoelkaaGreatDoorVB
import Derived.Lib.IndexMore
/-! Texts cut at others; numbers read; what an Origin's text is read as. -/
namespace GoD
open Go Go.Proofs Go.RowKit
set_option linter.unusedVariables false
set_option linter.unusedSimpArgs false
set_option maxHeartbeats 8000000
set_option maxRecDepth 100000
def cutB (l sep : List Int) : List UInt8 × List UInt8 × Bool := Lib.cut (toBA l).data.toList (toBA sep).data.toList
def cutG (l sep : List Int) : List Int × List Int × Bool := (ofBA ⟨(cutB l sep).1.toArray⟩, ofBA ⟨(cutB l sep).2.1.toArray⟩, (cutB l sep).2.2)
def pCutGC : Ct := fun args h => match args with | [.s l, .s sep] => if l.length ≤ 1048576 then some (.tup [.s (cutG l sep).1, .s (cutG l sep).2.1, .b (cutG l sep).2.2], h) else none | _ => none
theorem cut_len (s sep : List UInt8) : (Lib.cut s sep).1.length ≤ s.length ∧ (Lib.cut s sep).2.1.length ≤ s.length := by
  unfold Lib.cut
  split
  · simp; omega
  · simp
theorem cutB_len (l sep : List Int) : (cutB l sep).1.length ≤ l.length ∧ (cutB l sep).2.1.length ≤ l.length := by
  have := cut_len (toBA l).data.toList (toBA sep).data.toList
  have e : (toBA l).data.toList.length = l.length := by simp [toBA]
  rw [e] at this
  exact this
theorem cutG_len (l sep : List Int) : (cutG l sep).1.length ≤ l.length ∧ (cutG l sep).2.1.length ≤ l.length := by
  have := cutB_len l sep
  unfold cutG
  simp only [ofBA_mk, List.length_map]
  exact this
theorem pCutG_ok : CtOk Tryz.prog G0 59 pCutGC := by
  intro args h v h' hc
  unfold pCutGC at hc
  split at hc
  · rename_i l sep
    split at hc
    · rename_i hl
      cases hc
      refine known_flat (by kernel_rfl) fun r w xs hr hx => ?_
      cases hx with | cons h1 h2 =>
      cases h1
      cases h2 with | cons h3 h4 =>
      cases h3
      cases h4
      obtain ⟨m, hm⟩ := maxlen_of hr
      have hcl := cutB_len l sep
      refine (Tryz.strings_Cut (toBA l) (toBA sep) m w (by rw [toBA_size]; omega) hm).mono ?_
      rintro e w' ⟨rfl, n, rfl⟩
      refine ⟨⟨_, rfl, ?_⟩, ⟨rfl, rfl, rfl, Nat.le_refl _, fun _ _ => rfl⟩⟩
      refine .tup _ [_, _, _] (.cons (R_strB ?_) (.cons (R_strB ?_) (.cons (.b _) .nil)))
      · show (cutB l sep).1.toArray.size ≤ _
        rw [List.size_toArray]; omega
      · show (cutB l sep).2.1.toArray.size ≤ _
        rw [List.size_toArray]; omega
    · cases hc
  · cases hc
theorem index_at {c : UInt8} {m r : List UInt8} : ∀ {a : List UInt8}, c ∉ a → Lib.index (a ++ (c :: m) ++ r) (c :: m) = a.length
  | [], _ => by
    rw [List.nil_append, List.cons_append, Lib.index, if_pos (by simp [List.isPrefixOf])]
    rfl
  | x :: a, h => by
    rw [List.mem_cons, not_or] at h
    have ih := index_at (m := m) (r := r) h.2
    have hp : (c :: m).isPrefixOf (x :: (a ++ (c :: m) ++ r)) = false := by
      simp [List.isPrefixOf, h.1]
    rw [List.cons_append, List.cons_append, Lib.index, hp, if_neg (by simp), ih, if_neg (by simp)]
    simp
theorem index_no {c : UInt8} {m : List UInt8} : ∀ {a : List UInt8}, c ∉ a → Lib.index a (c :: m) = -1
  | [], _ => rfl
  | x :: a, h => by
    rw [List.mem_cons, not_or] at h
    have hp : (c :: m).isPrefixOf (x :: a) = false := by simp [List.isPrefixOf, h.1]
    rw [Lib.index, hp, if_neg (by simp), index_no h.2]; rfl
theorem toBA_l (l : List Int) : (toBA l).data.toList = l.map fun x => UInt8.ofNat x.toNat := rfl
theorem ofBA_l {l : List Int} (h : Byt l) : ofBA ⟨(l.map fun x => UInt8.ofNat x.toNat).toArray⟩ = l := by
  rw [ofBA_mk, List.map_map]
  conv => rhs; rw [← List.map_id l]
  refine List.map_congr_left fun c hc => ?_
  have := h c hc
  show ((UInt8.ofNat c.toNat).toNat : Int) = c
  simp
  omega
theorem not_u8 {c : Int} {a : List Int} (hc : 0 ≤ c ∧ c < 256) (ha : Byt a) (h : c ∉ a) : UInt8.ofNat c.toNat ∉ a.map fun x => UInt8.ofNat x.toNat := fun hm => by
  obtain ⟨x, hx, e⟩ := List.mem_map.1 hm
  have hxb := ha x hx
  have := congrArg UInt8.toNat e
  simp at this
  exact h (by rw [show c = x by omega]; exact hx)
theorem cutG_at {c : Int} {a m r : List Int} (ha : Byt a) (hr : Byt r) (hc : 0 ≤ c ∧ c < 256) (h : c ∉ a) : cutG (a ++ (c :: m) ++ r) (c :: m) = (a, r, true) := by
  have hi : Lib.index (toBA (a ++ (c :: m) ++ r)).data.toList (toBA (c :: m)).data.toList = a.length := by
    rw [toBA_l, toBA_l, List.map_append, List.map_append, List.map_cons, index_at (not_u8 hc ha h), List.length_map]
  have hB : cutB (a ++ (c :: m) ++ r) (c :: m) = (a.map (fun x => UInt8.ofNat x.toNat), r.map (fun x => UInt8.ofNat x.toNat), true) := by
    unfold cutB Lib.cut
    rw [hi, if_pos (by omega), toBA_l, toBA_l, Int.toNat_natCast, List.map_append, List.map_append]
    have hA : (a.map fun x => UInt8.ofNat x.toNat).length = a.length := List.length_map _
    generalize a.map (fun x => UInt8.ofNat x.toNat) = A at hA
    generalize (c :: m).map (fun x => UInt8.ofNat x.toNat) = M
    rw [← hA, ← List.length_append, List.drop_left, List.append_assoc, List.take_left]
  unfold cutG
  rw [hB]
  simp only
  rw [ofBA_l ha, ofBA_l hr]
theorem cutG_no {c : Int} {a m : List Int} (ha : Byt a) (hc : 0 ≤ c ∧ c < 256) (h : c ∉ a) : cutG a (c :: m) = (a, [], false) := by
  have hB : cutB a (c :: m) = (a.map (fun x => UInt8.ofNat x.toNat), [], false) := by
    unfold cutB Lib.cut
    rw [toBA_l, toBA_l, List.map_cons, index_no (not_u8 hc ha h), if_neg (by decide)]
  unfold cutG
  rw [hB]
  simp only
  rw [ofBA_l ha]; rfl
/-! numbers -/
def numF : Int → List Int → Option Int
  | n, [] => some n
  | n, c :: t => if c < 48 ∨ 57 < c then none else numF (10 * n + (c - 48)) t
def numU (l : List Int) : Option Int := if l = [] ∨ 5 < l.length ∨ (l.head? = some 48 ∧ 1 < l.length) then none else numF 0 l
theorem numF_snoc : ∀ (xs : List Int) (n c : Int), numF n (xs ++ [c]) = (numF n xs).bind fun m => if c < 48 ∨ 57 < c then none else some (10 * m + (c - 48))
  | [], n, c => by simp [numF]
  | x :: xs, n, c => by
    rw [List.cons_append, numF, numF]
    split
    · rfl
    · exact numF_snoc xs _ c
theorem numF_dec : ∀ n : Nat, numF 0 (decD n) = some (n : Int) := by
  intro n
  induction n using Nat.strongRecOn with
  | ind n ih =>
    by_cases h : n < 10
    · rw [decD, dif_pos h, numF, numF, if_neg (by omega)]
      congr 1; omega
    · rw [decD, dif_neg h, numF_snoc, ih _ (by omega), Option.bind_some, if_neg (by omega)]
      congr 1; omega
theorem dec_head {n : Nat} (h : 1 < (decD n).length) : (decD n).head? ≠ some 48 := by
  by_cases h0 : n = 0
  · rw [h0, decD, dif_pos (by omega)] at h; simp at h
  · rw [decD_wr]
    show (digsB 10 n).head? ≠ _
    obtain ⟨d, t, e, hd, hd2⟩ := digs_head (b := 10) (by omega) n (by omega)
    rw [e]
    have : d = 1 ∨ d = 2 ∨ d = 3 ∨ d = 4 ∨ d = 5 ∨ d = 6 ∨ d = 7 ∨ d = 8 ∨ d = 9 := by omega
    rcases this with rfl | rfl | rfl | rfl | rfl | rfl | rfl | rfl | rfl <;> simp [dgB]
theorem numU_dec {n : Nat} (h : n ≤ 65535) : numU (decD n) = some (n : Int) := by
  have hl : (decD n).length ≤ 5 := by
    by_cases h0 : n = 0
    · rw [h0, decD]; decide
    · rw [decD_rev (by omega), List.length_reverse]; exact revD_len 5 n (by omega)
  unfold numU
  rw [if_neg, numF_dec]
  rintro (h1 | h1 | h1)
  · exact dec_nil n h1
  · omega
  · exact dec_head h1.2 h1.1
theorem numF_le : ∀ {l : List Int} {n m : Int}, 0 ≤ n → numF n l = some m → 0 ≤ m
  | [], n, m, h0, h => by rw [numF] at h; obtain rfl := Option.some.inj h; exact h0
  | c :: t, n, m, h0, h => by
    rw [numF] at h
    split at h
    · cases h
    · exact numF_le (by omega) h
theorem numU_ge (l : List Int) : 0 ≤ (numU l).getD 0 := by
  unfold numU
  split
  · simp
  · cases h : numF 0 l with
    | none => simp
    | some m => exact numF_le (by omega) h
def pNumberAC : Ct := fun args h => match args with | [.s l, .i .i64 5] => some (.tup [.i .i64 ((numU l).getD 0), .b (numU l).isSome], h) | _ => none
theorem pNumberA_ok : CtOk Tryz.prog G0 60 pNumberAC := by
  refine ct_plain (n := 2) fol sound_nil (by kernel_rfl) Tryz.func60 rfl fun args h v h' hc r xs H hr hx => ?_
  unfold pNumberAC at hc; split at hc <;> (try split at hc) <;> cases hc
  rename_i l
  obtain ⟨⟨hs, hl⟩, _⟩ := str_of hx
  refine ⟨rfl, rfl, by simp [renV, bndV, renL, bndL], ?_⟩
  obtain ⟨R, hR⟩ : ∃ R, numU l = R := ⟨_, rfl⟩
  rw [hR]
  unfold numU at hR
  by_cases c0 : l = []
  · rw [if_pos (.inl c0)] at hR
    subst hR
    subst c0
    simp -implicitDefEqProofs [go_sem, Tryz.f60]
  · have c0' : l.isEmpty = false := by cases l <;> simp at c0 ⊢
    have hpos : 0 < l.length := List.length_pos_iff.2 c0
    obtain ⟨a, ha⟩ : ∃ a, l.getD 0 0 = a := ⟨_, rfl⟩
    have hh : l.head? = some a := by cases l with | nil => exact absurd rfl c0 | cons x t => simpa using ha
    by_cases c1 : 5 < l.length
    · rw [if_pos (.inr (.inl c1))] at hR
      subst hR
      have c1' : (5 : Int) < l.length := by omega
      simp -implicitDefEqProofs [go_sem, Tryz.f60, c0, c0', c1']
    · have c1' : ¬ (5 : Int) < l.length := by omega
      have hl6 : l.length < 1152921504606846976 := by omega
      by_cases c2 : a = 48 ∧ 1 < l.length
      · rw [if_pos (.inr (.inr ⟨by rw [hh, c2.1], c2.2⟩))] at hR
        subst hR
        have c3 : (1 : Int) < l.length := by have := c2.2; omega
        rw [c2.1] at ha
        have ha2 := ha
        rw [List.getD_eq_getElem?_getD, List.getElem?_eq_getElem hpos, Option.getD_some] at ha2
        simp -implicitDefEqProofs [go_sem, Tryz.f60, c0, c0', c1', ha, ha2, hpos, c3]
      · rw [if_neg (by simp only [not_or]; exact ⟨c0, c1, fun e => c2 ⟨by have := e.1; rw [hh] at this; exact Option.some.inj this, e.2⟩⟩)] at hR
        have ha2 := ha
        rw [List.getD_eq_getElem?_getD, List.getElem?_eq_getElem hpos, Option.getD_some] at ha2
        simp only [Tryz.f60, run_seq]
        generalize hK3 : ((Code.region 3 _ _).seq _).seq _ = K3
        have rest : ∀ t1 : Tm, get t1 0 = .s l → get t1 4 = .i .i64 0 → get t1 5 = .b false → Run (ctx Tryz.prog G0 []) (Fini (ctx Tryz.prog G0 []) Tryz.f60.results.toList fun v' h1 => v' = V.tup [.i .i64 (R.getD 0), .b R.isSome] ∧ Ext h h1) [.c K3] t1 h := by
          intro t1 t0 t4 t5
          subst hK3
          simp -implicitDefEqProofs [go_sem, t0]
          refine run_inv _ _ _ _ _ (fun (x : Nat × Int) t h1 => x.1 ≤ l.length ∧ get t 0 = .s l ∧ get t 4 = .i .i64 x.2 ∧ get t 5 = .b false ∧ get t 27 = .i .i64 l.length ∧ get t 28 = .i .i64 x.1 ∧ 0 ≤ x.2 ∧ x.2 < 10 ^ x.1 ∧ numF x.2 (l.drop x.1) = R ∧ h1 = h) (fun x => l.length - x.1) _ (x := (0, 0)) ⟨by simp, by simp -implicitDefEqProofs [go_sem, t0], by simp -implicitDefEqProofs [go_sem, t4], by simp -implicitDefEqProofs [go_sem, t5], by simp -implicitDefEqProofs [go_sem], by simp -implicitDefEqProofs [go_sem], by simp, by simp, hR, rfl⟩ ?_
          clear t0 t4 t5 t1
          rintro ⟨i, n⟩ t h1 ⟨hi, t0, t4, t5, t27, t28, hn0, hn1, hd, rfl⟩ ih
          simp only at hi t4 t28 hn0 hn1 hd
          have hi6 : i < 1152921504606846976 := by omega
          by_cases hlt : i < l.length
          · obtain ⟨d, hc⟩ : ∃ d, l[i] = d := ⟨_, rfl⟩
            have hdb := hs d (hc ▸ List.getElem_mem hlt)
            rw [List.drop_eq_getElem_cons hlt, hc, numF] at hd
            have hn5 : n < 100000 := by
              have : (10 : Int) ^ i ≤ 10 ^ 5 := by
                have : i = 0 ∨ i = 1 ∨ i = 2 ∨ i = 3 ∨ i = 4 ∨ i = 5 := by omega
                rcases this with rfl | rfl | rfl | rfl | rfl | rfl <;> decide
              omega
            by_cases d1 : d < 48
            · rw [if_pos (.inl d1)] at hd
              subst hd
              simp -implicitDefEqProofs [go_sem, t0, t4, t5, t27, t28, hlt, hc, d1]
            · by_cases d2 : 57 < d
              · rw [if_pos (.inr d2)] at hd
                subst hd
                simp -implicitDefEqProofs [go_sem, t0, t4, t5, t27, t28, hlt, hc, d1, d2]
              · rw [if_neg (by omega)] at hd
                have q1 : (d - 48) % 256 = d - 48 := by omega
                have q2 := w64 (x := 10 * n) (by omega)
                have q3 := w64 (x := d - 48) (by omega)
                have q4 := w64 (x := 10 * n + (d - 48)) (by omega)
                simp -implicitDefEqProofs [go_sem, t0, t4, t5, t27, t28, hlt, hc, d1, d2]
                refine ih (i + 1, 10 * n + (d - 48)) _ _ (by simp; omega) ⟨by simp; omega, ?_⟩
                simp -implicitDefEqProofs [go_sem, t0, t4, t5, t27, t28, i64_n hi6, q1, q2, q3, q4, hd]
                clear q2 q3 q4
                refine ⟨by omega, ?_⟩
                rw [Int.pow_succ]
                omega
          · have e : i = l.length := by omega
            rw [e, List.drop_length, numF] at hd
            subst hd
            simp -implicitDefEqProofs [go_sem, t0, t4, t5, t27, t28, hlt]
        by_cases c3 : a = 48
        · have c4 : ¬ (1 : Int) < l.length := fun e => c2 ⟨c3, by omega⟩
          rw [c3] at ha ha2
          simp -implicitDefEqProofs [go_sem, Tryz.f60, c0, c0', c1', ha, ha2, hpos, c4]
          refine rest _ ?_ ?_ ?_ <;> simp -implicitDefEqProofs [go_sem]
        · simp -implicitDefEqProofs [go_sem, Tryz.f60, c0, c0', c1', ha, ha2, hpos, c3]
          refine rest _ ?_ ?_ ?_ <;> simp -implicitDefEqProofs [go_sem]
end GoD
