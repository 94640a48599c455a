import Derived.Test.YtcaaebjjgbcjpaaGreatDoorPF
import Derived.Test.YtcaaebjjgbcjpaaGreatDoorSH
import Derived.Test.YtcaaebjjgbcjpaaGreatDoorET
import Derived.Test.YtcaaebjjgbcjpaaGreatDoorEN
import Derived.Test.YtcaaebjjgbcjpaaGreatDoorEX
import Derived.Test.YtcaaebjjgbcjpaaGreatDoorHC
/-! The library's functions that the kit's shelf knows: UTF-8, trimming, joining, replacing. -/
namespace GoD
open Go Go.Proofs Go.RowKit Go.Lib
set_option linter.unusedVariables false
set_option linter.unusedSimpArgs false
set_option maxHeartbeats 4000000
set_option maxRecDepth 100000
theorem tabs_of {r : List (Option Loc)} {h : Heap} {w : World} (hr : HR G0 r h w.heap) : Lib.Utf8Tabs 0 1 w := by
  constructor
  · intro c hc
    obtain ⟨C, e, fz, h1, h2⟩ := hr.glob 0 (by simp [G0])
    have h3 : (G0 0)[c]? = some (.i .u8 (Lib.firstT c)) := by simp [G0, hc]
    obtain ⟨x, h4, h5⟩ := h2 c _ h3
    cases h5
    rw [cell_of h1]; exact h4
  · intro i hi
    obtain ⟨C, e, fz, h1, h2⟩ := hr.glob 1 (by intro e; have := congrArg List.length e; revert this; decide)
    have h3 : (G0 1)[2 * i]? = some (.i .u8 (Lib.accLo i)) ∧ (G0 1)[2 * i + 1]? = some (.i .u8 (Lib.accHi i)) := by
      rcases (show i = 0 ∨ i = 1 ∨ i = 2 ∨ i = 3 ∨ i = 4 ∨ i = 5 ∨ i = 6 ∨ i = 7 ∨ i = 8 ∨ i = 9 ∨ i = 10 ∨ i = 11 ∨ i = 12 ∨ i = 13 ∨ i = 14 ∨ i = 15 by omega) with rfl | rfl | rfl | rfl | rfl | rfl | rfl | rfl | rfl | rfl | rfl | rfl | rfl | rfl | rfl | rfl <;> exact ⟨rfl, rfl⟩
    obtain ⟨x, h4, h5⟩ := h2 _ _ h3.1
    obtain ⟨y, h6, h7⟩ := h2 _ _ h3.2
    cases h5
    cases h7
    exact ⟨by rw [cell_of h1]; exact h4, by rw [cell_of h1]; exact h6⟩
theorem maxlen_of {r : List (Option Loc)} {h : Heap} {w : World} (hr : HR G0 r h w.heap) : ∃ m : Int, w.cell? ⟨2, 0, none⟩ = some (.int .i64 m) := by
  obtain ⟨C, e, fz, h1, h2⟩ := hr.glob 2 (by simp [G0])
  obtain ⟨x, h4, h5⟩ := h2 0 (.ai .i64) rfl
  cases h5 with | ai _ n _ =>
  exact ⟨n, by rw [cell_of h1]; exact h4⟩
theorem known_flat {P : Program} {G : Nat → List V} {f : FuncId} {args : List V} {h : Heap} {v : V} (hc : callableB P f = true) (hcall : ∀ (r : List (Option Loc)) (w : World) (xs : List Value), HR G r h w.heap → RL r args xs → Calls P f xs.toArray w fun e w' => (∃ x, e = .returned x ∧ R [] v x) ∧ Below w.heap.size w w') : Known P G f args h v h := by
  refine .inl ⟨callable_of hc, fun r w xs hr hx => (hcall r w xs hr hx).mono ?_⟩
  rintro e w' ⟨⟨x, rfl, h1⟩, hb⟩
  exact ⟨x, r, rfl, h1.mono (List.nil_prefix), hr.heap (fun i b L a1 a2 a3 => hb.block _ (hr.lt a1 a2 a3)) fun g hg => hb.block _ (hr.glt hg), List.prefix_refl _, hb.size, hb.os, hb.tape, hb.output, fun k hk _ => hb.block k hk, fun i b L h1 h2 h3 _ => ⟨i, b, L, h1, h2, h3, rfl⟩⟩
def validR (l : List Int) : Bool := Lib.validD (toBA l).data.toList
def pValidC : Ct := fun args h => match args with | [.s l] => some (.b (validR l), h) | _ => none
theorem pValid_ok : CtOk Tryz.prog G0 166 pValidC := by
  intro args h v h' hc
  unfold pValidC at hc
  split at hc
  · rename_i l
    cases hc
    refine known_flat (by kernel_rfl) fun r w xs hr hx => ?_
    obtain ⟨⟨_, hl⟩, _⟩ := str_of hx
    cases hx with | cons h1 h2 =>
    cases h1
    cases h2
    refine (Tryz.utf8_ValidString (toBA l) w (by rw [toBA_size]; omega) (tabs_of hr)).mono ?_
    rintro e w' ⟨rfl, hb⟩
    exact ⟨⟨_, rfl, .b _⟩, hb⟩
  · cases hc
def blankR (x : Nat) : Bool := decide (x ≤ 32)
def trimGo (l : List Int) : List Int := ofBA (Lib.trimF blankR (toBA l))
def pTrimFC : Ct := fun args h => match args with | [.s l, .f (.func g) []] => if g = 98 ∧ l.length ≤ 1048576 then some (.s (trimGo l), h) else none | _ => none
theorem blank_gives (x : Nat) (W : World) : FnGives Tryz.prog 98 #[] #[encR x] (.bool (blankR x)) W := by
  unfold FnGives
  go_enter Tryz.func98, Tryz.ntmps98
  go_wp2
  go_ret
  refine ⟨?_, 0, rfl⟩
  have e : decide ((x : Int) ≤ 32) = blankR x := decide_eq_decide.2 (by omega)
  rw [e]; rfl
theorem trimF_size (p : Nat → Bool) (s : ByteArray) : (Lib.trimF p s).size ≤ s.size := by
  have h1 : ∀ (a : ByteArray) (i j : Nat), (a.extract i j).size ≤ a.size := fun a i j => by rw [ByteArray.size_extract]; omega
  unfold Lib.trimF Lib.trimRightF
  refine Nat.le_trans (h1 _ _ _) ?_
  unfold Lib.trimLeftF
  split
  · exact Nat.zero_le _
  · exact h1 _ _ _
theorem R_strB {r : List (Option Loc)} {s : ByteArray} (h : s.size ≤ 281474976710656) : R r (.s (ofBA s)) (.string s) := by
  have := R.s (r := r) (ofBA s) (str_ofBA h)
  rwa [toBA_ofBA] at this
theorem pTrimF_ok : CtOk Tryz.prog G0 97 pTrimFC := by
  intro args h v h' hc
  unfold pTrimFC at hc
  split at hc
  · rename_i l g
    split at hc
    · rename_i hg
      obtain ⟨rfl, hlen⟩ := hg
      cases hc
      refine known_flat (by kernel_rfl) fun r w xs hr hx => ?_
      obtain ⟨⟨_, hl⟩, _⟩ := str_of hx
      cases hx with | cons h1 h2 =>
      cases h1
      cases h2 with | cons h3 h4 =>
      cases h4
      cases h3 with | f _ _ ys hys =>
      cases hys
      refine (Tryz.strings_TrimFunc 98 #[] (enters_of Tryz.func98 (by kernel_rfl) rfl) blankR (toBA l) w (by rw [toBA_size]; omega) (tabs_of hr) (fun W x _ => blank_gives x W)).mono ?_
      rintro e w' ⟨rfl, hb⟩
      exact ⟨⟨_, rfl, R_strB (by have := trimF_size blankR (toBA l); rw [toBA_size] at this; omega)⟩, hb⟩
    · cases hc
  · cases hc
theorem countFrom_le (sub : List UInt8) : ∀ (n : Nat) (s : List UInt8), Lib.countFrom sub n s ≤ n
  | 0, s => by simp [Lib.countFrom]
  | n + 1, s => by
    unfold Lib.countFrom
    split
    · omega
    · have := countFrom_le sub n (s.drop ((Lib.index s sub).toNat + sub.length))
      omega
theorem countB_le (s old : ByteArray) : Lib.countB s old ≤ s.size + 1 := by
  have := countFrom_le old.data.toList (s.data.toList.length + 1) s.data.toList
  have e : s.data.toList.length = s.size := Array.length_toList
  rw [e] at this
  exact (by unfold Lib.count; rw [e]; exact this : Lib.count s.data.toList old.data.toList ≤ s.size + 1)
def replGo (l old new : List Int) : List Int := ofBA ⟨(Lib.replaceAll (toBA l).data.toList (toBA old).data.toList (toBA new).data.toList).toArray⟩
def pReplAC : Ct := fun args h => match args with | [.s l, .s old, .s new] => if l.length ≤ 1048576 ∧ 1 ≤ old.length ∧ new.length ≤ 1 ∧ (replGo l old new).length ≤ 281474976710656 then some (.s (replGo l old new), h) else none | _ => none
theorem ofBA_size (s : ByteArray) : (ofBA s).length = s.size := by unfold ofBA; rw [List.length_map]; exact Array.length_toList
theorem pReplA_ok : CtOk Tryz.prog G0 243 pReplAC := by
  intro args h v h' hc
  unfold pReplAC at hc
  split at hc
  · rename_i l old new
    split at hc
    · rename_i hg
      obtain ⟨c1, c2, c3, c4⟩ := hg
      cases hc
      refine known_flat (by kernel_rfl) fun r w xs hr hx => ?_
      cases hx with | cons h1 h2 =>
      cases h1
      cases h2 with | cons h3 h4 =>
      cases h3
      cases h4 with | cons h5 h6 =>
      cases h5
      cases h6
      obtain ⟨m, hm⟩ := maxlen_of hr
      have hcb := countB_le (toBA l) (toBA old)
      rw [toBA_size] at hcb
      refine (Tryz.strings_ReplaceAll (toBA l) (toBA old) (toBA new) m w (by rw [toBA_size]; omega) hm (by rw [toBA_size]; omega) ?_).mono ?_
      · rw [toBA_size, toBA_size]
        have : Lib.countB (toBA l) (toBA old) * new.length ≤ Lib.countB (toBA l) (toBA old) * 1 := Nat.mul_le_mul_left _ c3
        omega
      · rintro e w' ⟨rfl, hb⟩
        refine ⟨⟨_, rfl, R_strB ?_⟩, hb⟩
        unfold replGo at c4
        rwa [ofBA_size] at c4
    · cases hc
  · cases hc
theorem strs_cells {r : List (Option Loc)} {h : Heap} {w : World} {b o n : Nat} {y : List (List Int)} {L : Loc} (hr : HR G0 r h w.heap) (hs : strsAt h b o n = some y) (hL : r[b]? = some (some L)) : ∀ (j : Nat) x, (y.map toBA)[j]? = some x → w.cell? ⟨L.block, L.off + o + j, none⟩ = some (.string x) := by
  obtain ⟨st, xx, c, hg, hld, hn, hc⟩ := strsAt_eq hs
  intro j x hj
  rw [List.getElem?_map] at hj
  obtain ⟨p, hp, rfl⟩ := Option.map_eq_some_iff.1 hj
  have hjl : j < y.length := (List.getElem?_eq_some_iff.1 hp).1
  have hc1 := hc j hjl
  rw [(List.getElem?_eq_some_iff.1 hp).2] at hc1
  have hb' := hget_some hg (by simp)
  rcases hr.blk b _ _ hb' hL with h0 | ⟨C, e, fz, d1, d2, _⟩
  · simp at h0
  · obtain ⟨_, _, _, h4⟩ := ldN_some hc1
    obtain ⟨z, h5, h6⟩ := d2 (o + j) _ (h4 0 _ rfl)
    cases h6
    rw [cell_of d1, Nat.add_assoc]; exact h5
def joinGo (y : List (List Int)) (sep : List Int) : List Int := ofBA ⟨(Lib.join ((y.map toBA).map (·.data.toList)) (toBA sep).data.toList).toArray⟩
def pJoinC : Ct := fun args h => match args with
  | [.sl b o n 1, .s sep] => if n = 0 then some (.s [], h) else (match strsAt h b o n with | some y => if (joinGo y sep).length ≤ 140737488355328 ∧ n ≤ 1099511627776 ∧ 0 < n then some (.s (joinGo y sep), h) else none | none => none)
  | _ => none
theorem pJoin_ok : CtOk Tryz.prog G0 180 pJoinC := by
  intro args h v h' hc
  unfold pJoinC at hc
  split at hc
  · rename_i b o n sep
    split at hc
    · rename_i hn0
      subst hn0
      cases hc
      refine known_flat (by kernel_rfl) fun r w xs hr hx => ?_
      cases hx with | cons h1 h2 =>
      cases h2 with | cons h3 h4 =>
      cases h3
      cases h4
      have hnil : ∀ (a : Option Addr) (c : Nat), Calls Tryz.prog 180 #[.slice a 0 c, .string (toBA sep)] w fun e w' => (∃ x, e = .returned x ∧ R [] (.s []) x) ∧ Below w.heap.size w w' := fun a c => by
        refine (Tryz.strings_Join_none a c (toBA sep) w).mono ?_
        rintro e w' ⟨rfl, rfl⟩
        exact ⟨⟨_, rfl, .s [] ⟨by simp, by simp⟩⟩, Below.refl _ _⟩
      cases h1 with
      | sl _ _ _ _ c L hL hc hnc hb => exact hnil _ _
      | s0 => exact hnil _ _
      | sn => exact hnil _ _
    split at hc
    · rename_i y hy
      split at hc
      · rename_i hg
        obtain ⟨c1, c2, c3⟩ := hg
        cases hc
        refine known_flat (by kernel_rfl) fun r w xs hr hx => ?_
        have hn : y.length = n := by obtain ⟨_, _, _, _, _, hn, _⟩ := strsAt_eq hy; exact hn
        cases hx with | cons h1 h2 =>
        cases h2 with | cons h3 h4 =>
        cases h3
        cases h4
        cases h1 with
        | sl _ _ _ _ c L hL hc hnc hb =>
          have hcells := strs_cells hr hy hL
          have hl : (y.map toBA).length = n := by rw [List.length_map, hn]
          have hbk : L.block < w.heap.size := by
            obtain ⟨st, xx, cc, hg, _⟩ := strsAt_eq hy
            exact hr.lt (hget_some hg (by simp)) (.inl (by simp)) hL
          have := Tryz.strings_Join L.block (L.off + o) c (y.map toBA) (toBA sep) w hcells hbk (by omega) (by omega) (by
            unfold joinGo at c1
            rw [ofBA_size] at c1
            have c1' : ((Lib.join ((y.map toBA).map (·.data.toList)) (toBA sep).data.toList).toArray).size ≤ 140737488355328 := c1
            rwa [List.size_toArray] at c1')
          rw [hl] at this
          refine this.mono ?_
          rintro e w' ⟨rfl, hb⟩
          refine ⟨⟨_, rfl, R_strB ?_⟩, hb⟩
          unfold joinGo at c1
          rw [ofBA_size] at c1
          omega
        | s0 => omega
        | sn => omega
      · cases hc
    · cases hc
  · cases hc
end GoD

/-! What url.Parse reads with: sets of bytes, percents, the scanner. -/
namespace GoD
open Go Go.Proofs
set_option linter.unusedVariables false
set_option linter.unusedSimpArgs false
set_option maxHeartbeats 4000000
set_option maxRecDepth 100000
theorem idxU_mem (c : Int) : ∀ l : List Int, 0 ≤ idxL c l ↔ c ∈ l
  | [] => by simp [idxL]
  | b :: l => by
    have ih := idxU_mem c l
    have hg := idxL_ge c l
    rw [idxL, List.mem_cons]
    by_cases h1 : b = c
    · simp [h1]
    · rw [if_neg h1]
      by_cases h2 : idxL c l = -1
      · rw [if_pos h2]
        constructor
        · intro h; omega
        · rintro (h | h)
          · exact absurd h.symm h1
          · have := ih.2 h; omega
      · rw [if_neg h2]
        constructor
        · intro h; exact .inr (ih.1 (by omega))
        · rintro (h | h)
          · exact absurd h.symm h1
          · have := ih.2 h; omega
def extraV (s : Int) : V := match moreL s with
  | none => .tup [.s [], .b false]
  | some m => .tup [.s m, .b true]
def pExtraC : Ct := fun args h => match args with | [.i .i64 s] => some (extraV s, h) | _ => none
theorem pExtra_ok : CtOk Tryz.prog G0 247 pExtraC := by
  refine ct_plain (n := 1) fol sound_nil (by kernel_rfl) Tryz.func247 rfl fun args h v h' hc r xs H hr hx => ?_
  unfold pExtraC at hc; split at hc <;> (try split at hc) <;> cases hc
  rename_i s
  have hfl : renV id (extraV s) = extraV s ∧ bndV h.length (extraV s) := by unfold extraV; split <;> simp [renV, renL, bndV, bndL]
  refine ⟨rfl, rfl, hfl, ?_⟩
  by_cases c1 : s = 1
  · subst c1; simp -implicitDefEqProofs [go_sem, Tryz.f247, extraV, moreL]
  · by_cases c2 : s = 2
    · subst c2; simp -implicitDefEqProofs [go_sem, Tryz.f247, extraV, moreL]
    · by_cases c3 : s = 3
      · subst c3; simp -implicitDefEqProofs [go_sem, Tryz.f247, extraV, moreL]
      · by_cases c4 : s = 4
        · subst c4; simp -implicitDefEqProofs [go_sem, Tryz.f247, extraV, moreL]
        · simp -implicitDefEqProofs [go_sem, Tryz.f247, extraV, moreL, c1, c2, c3, c4]
def pInC : Ct := fun args h => match args with | [.i .u8 c, .i .i64 s] => some (.b (inB c s), h) | _ => none
theorem pIn_ok : CtOk Tryz.prog G0 181 pInC := by
  refine ct_plain (n := 2) fol (sound_cons pExtra_ok (sound_cons pIdx2_ok sound_nil)) (by kernel_rfl) Tryz.func181 rfl fun args h v h' hc r xs H hr hx => ?_
  unfold pInC at hc; split at hc <;> (try split at hc) <;> cases hc
  rename_i c s
  refine ⟨rfl, rfl, by simp [renV, bndV], ?_⟩
  unfold inB
  cases hm : moreL s with
  | none => simp -implicitDefEqProofs [go_sem, Tryz.f181, pExtraC, extraV, hm]
  | some m =>
    have hi := idxU_mem c m
    by_cases c1 : c < 33
    · simp -implicitDefEqProofs [go_sem, Tryz.f181, pExtraC, extraV, hm, c1]
    · by_cases c2 : 126 < c
      · simp -implicitDefEqProofs [go_sem, Tryz.f181, pExtraC, extraV, hm, c1, c2]
      · by_cases c3 : c ∈ m
        · simp -implicitDefEqProofs [go_sem, Tryz.f181, pExtraC, extraV, hm, c1, c2, pIdx2C, c3, hi.2 c3]
        · have hi' : ¬ 0 ≤ idxL c m := fun e => c3 (hi.1 e)
          simp -implicitDefEqProofs [go_sem, Tryz.f181, pExtraC, extraV, hm, c1, c2, pIdx2C, c3, hi']
def pEncodeC : Ct := fun args h => match args with | [.s l, .i .i64 s] => if l.length ≤ 1048576 then some (.s (encL s l), h) else none | _ => none
theorem pEncode_ok : CtOk Tryz.prog G0 105 pEncodeC := by
  refine ct_plain (n := 2) fol (sound_cons pIn_ok sound_nil) (by kernel_rfl) Tryz.func105 rfl fun args h v h' hc r xs H hr hx => ?_
  unfold pEncodeC at hc; split at hc <;> (try split at hc) <;> cases hc
  rename_i l s hl
  obtain ⟨⟨hs, _⟩, _⟩ := str_of hx
  refine ⟨rfl, rfl, by simp [renV, bndV], ?_⟩
  simp -implicitDefEqProofs [go_sem, Tryz.f105]
  refine run_inv _ _ _ _ _ (fun (x : Nat × Nat × List Int) t h1 => x.1 ≤ l.length ∧ get t 0 = .s l ∧ get t 1 = .i .i64 s ∧ get t 9 = .i .i64 l.length ∧ get t 10 = .i .i64 x.1 ∧ get t 5 = .sl x.2.1 0 x.2.2.length 1 ∧ hget h1 x.2.1 = ⟨2, false, bts x.2.2⟩ ∧ h.length ≤ x.2.1 ∧ x.2.1 < h1.length ∧ Ext h h1 ∧ x.2.2.length ≤ 3 * x.1 ∧ x.2.2 ++ encL s (l.drop x.1) = encL s l) (fun x => l.length - x.1) _ (x := (0, h.length, [])) ⟨by simp, by simp -implicitDefEqProofs [go_sem], by simp -implicitDefEqProofs [go_sem], by simp -implicitDefEqProofs [go_sem], by simp -implicitDefEqProofs [go_sem], by simp -implicitDefEqProofs [go_sem], by simp -implicitDefEqProofs [go_sem, bts], by simp, by simp, by simp -implicitDefEqProofs [go_sem], by simp, by simp⟩ ?_
  rintro ⟨i, m, acc⟩ t h1 ⟨hi, t0, t1, t9, t10, t5, hg, hm, hm', he, hal, ha⟩ ih
  simp only at hi t10 t5 hg hm hm' hal ha
  have hmn : m ≠ h1.length := by omega
  have hi6 : i < 1152921504606846976 := by omega
  have e1 : (acc.length + 1) ≤ 1099511627776 := by omega
  have e3 : (acc.length + 3) ≤ 1099511627776 := by omega
  by_cases hlt : i < l.length
  · obtain ⟨d, hc⟩ : ∃ d, l[i] = d := ⟨_, rfl⟩
    have hd := hs d (hc ▸ List.getElem_mem hlt)
    have hdr : l.drop i = d :: l.drop (i + 1) := by rw [List.drop_eq_getElem_cons hlt, hc]
    rw [hdr, encL] at ha
    cases c1 : inB d s with
    | true =>
      rw [if_pos c1] at ha
      have k1 : 0 ≤ d / 16 := by omega
      have k2 : d / 16 < 16 := by omega
      have k3 : 0 ≤ d % 16 := by omega
      have k4 : d % 16 < 16 := by omega
      simp -implicitDefEqProofs [go_sem, Tryz.f105, t0, t1, t9, t10, t5, hlt, hc, c1, pInC, hg, hm', ldN_b rfl, e1, e3, hmn, and15 hd, k1, k2, k3, k4]
      refine ih (i + 1, h1.length + 1, acc ++ [37, hexD (d / 16), hexD (d % 16)]) _ _ (by simp; omega) ⟨hlt, ?_⟩
      have hh : ∀ v : Int, 0 ≤ v → v < 16 → ∀ (hv : v.toNat < 16), [48, 49, 50, 51, 52, 53, 54, 55, 56, 57, 65, 66, 67, 68, 69, 70][v.toNat]'hv = hexD v := fun v _ _ hv => (getD_of hv rfl).symm
      simp -implicitDefEqProofs [go_sem, t0, t1, t9, t10, t5, i64_n hi6, he, hm]
      rw [hh _ k1 k2, hh _ k3 k4]
      exact ⟨by simp [bts], by omega, by omega, ha⟩
    | false =>
      rw [if_neg (by rw [c1]; simp)] at ha
      simp -implicitDefEqProofs [go_sem, Tryz.f105, t0, t1, t9, t10, t5, hlt, hc, c1, pInC, hg, hm', ldN_b rfl, e1, hmn]
      refine ih (i + 1, h1.length + 1, acc ++ [d]) _ _ (by simp; omega) ⟨hlt, ?_⟩
      simp -implicitDefEqProofs [go_sem, t0, t1, t9, t10, t5, i64_n hi6, he, hm]
      exact ⟨by omega, by omega, ha⟩
  · have e : i = l.length := by omega
    rw [e, List.drop_length, show encL s [] = [] from rfl, List.append_nil] at ha
    simp -implicitDefEqProofs [go_sem, Tryz.f105, t0, t1, t9, t10, t5, hlt, hg, hm', ldN_b rfl, e, he]
    exact ha
def passK (m : List Int) : List Int → Nat
  | [] => 0
  | d :: _ => if d ∈ m then 1 else 0
def pPassUC : Ct := fun args h => match args with
  | [.p b 0, .s m] => match hget h b with
    | ⟨2, true, .s l :: c⟩ => if b < h.length ∧ c.all GoD.flat = true ∧ l.length ≤ 1048576 then some (.b (decide (passK m l = 1)), h.set b ⟨2, true, .s (l.drop (passK m l)) :: c⟩) else none
    | _ => none
  | _ => none
theorem pPassU_ok : CtOk Tryz.prog G0 102 pPassUC := by
  refine ct_run (n := 2) fol (sound_cons pIdx2_ok sound_nil) (by kernel_rfl) Tryz.func102 rfl fun args h v h' hc r xs H hr hx => ?_
  unfold pPassUC at hc; split at hc <;> (try split at hc) <;> (try split at hc) <;> cases hc
  rename_i b m _ l c hg hb
  obtain ⟨hb, hfl, hl⟩ := hb
  refine ⟨rfl, ?_⟩
  have fin : ∀ (v : V) (l' : List Int), renV id v = v ∧ bndV h.length v → ∃ σ, Trim h v (h.set b ⟨2, true, .s l' :: c⟩) v (h.set b ⟨2, true, .s l' :: c⟩) σ := fun v l' hv => Trim.own hv (by simpa [GoD.flat] using hfl) (Ext.refl _)
  have e : h.set b ⟨2, true, V.s l :: c⟩ = h := set_same hb hg
  have hf := fin (.b false) l (by simp [renV, bndV])
  rw [e] at hf
  match l with
  | [] =>
    simp -implicitDefEqProofs [go_sem, Tryz.f102, hg, passK]
    simp only [e]
    exact hf
  | d :: r =>
    have hi := idxU_mem d m
    by_cases c1 : d ∈ m
    · have h1 := hi.2 c1
      have h1' : ¬ idxL d m < 0 := by omega
      simp -implicitDefEqProofs [go_sem, Tryz.f102, hg, passK, pIdx2C, c1, h1', hb, show (1 : Int) ≤ (r.length : Int) + 1 by omega]
      exact fin (.b true) r ⟨rfl, trivial⟩
    · have h1' : idxL d m < 0 := by have : ¬ 0 ≤ idxL d m := fun e => c1 (hi.1 e); omega
      simp -implicitDefEqProofs [go_sem, Tryz.f102, hg, passK, pIdx2C, c1, h1', hb]
      simp only [e]
      exact hf
def pUpToC : Ct := fun args h => match args with
  | [.p b 0, .s m] => match hget h b with
    | ⟨2, true, .s l :: c⟩ => if b < h.length ∧ c.all GoD.flat = true ∧ l.length ≤ 1048576 then some (.s (l.take (upL m l)), h.set b ⟨2, true, .s (l.drop (upL m l)) :: c⟩) else none
    | _ => none
  | _ => none
theorem upL_of {m : List Int} : ∀ {l : List Int} {i : Nat}, (∀ j (hj : j < i) (hl : j < l.length), l[j] ∉ m) → (hl : i < l.length) → l[i] ∈ m → upL m l = i
  | [], i, _, hl, _ => by simp at hl
  | d :: t, 0, _, _, h => by simp at h; simp [upL, h]
  | d :: t, i + 1, hj, hl, h => by
    have h0 := hj 0 (by omega) (by simp)
    simp at h0
    have := upL_of (m := m) (l := t) (i := i) (fun j h1 h2 => by have := hj (j + 1) (by omega) (by simpa using h2); simpa using this) (by simpa using hl) (by simpa using h)
    simp [upL, h0, this]
theorem upL_none {m : List Int} : ∀ {l : List Int}, (∀ j (hl : j < l.length), l[j] ∉ m) → upL m l = l.length
  | [], _ => rfl
  | d :: t, hj => by
    have h0 := hj 0 (by simp)
    simp at h0
    have := upL_none (m := m) (l := t) (fun j h2 => by have := hj (j + 1) (by simpa using h2); simpa using this)
    simp [upL, h0, this]
theorem pUpTo_ok : CtOk Tryz.prog G0 106 pUpToC := by
  refine ct_run (n := 2) fol (sound_cons pIdx2_ok sound_nil) (by kernel_rfl) Tryz.func106 rfl fun args h v h' hc r xs H hr hx => ?_
  unfold pUpToC at hc; split at hc <;> (try split at hc) <;> (try split at hc) <;> cases hc
  rename_i b m _ l c hg hb
  obtain ⟨hb, hfl, hl⟩ := hb
  refine ⟨rfl, ?_⟩
  have fin : ∀ (v : V) (l' : List Int), renV id v = v ∧ bndV h.length v → ∃ σ, Trim h v (h.set b ⟨2, true, .s l' :: c⟩) v (h.set b ⟨2, true, .s l' :: c⟩) σ := fun v l' hv => Trim.own hv (by simpa [GoD.flat] using hfl) (Ext.refl _)
  have hl6 : l.length ≤ 281474976710656 := by omega
  simp -implicitDefEqProofs [go_sem, Tryz.f106, hg]
  refine run_inv _ _ _ _ _ (fun (i : Nat) t h1 => i ≤ l.length ∧ get t 0 = .p b 0 ∧ get t 1 = .s m ∧ get t 12 = .i .i64 l.length ∧ get t 13 = .i .i64 i ∧ (∀ j (hj : j < i) (hl : j < l.length), l[j] ∉ m) ∧ h1 = h) (fun i => l.length - i) _ (x := 0) ⟨by omega, by simp -implicitDefEqProofs [go_sem], by simp -implicitDefEqProofs [go_sem], by simp -implicitDefEqProofs [go_sem], by simp -implicitDefEqProofs [go_sem], fun j hj => by omega, rfl⟩ ?_
  rintro i t h1 ⟨hi, t0, t1, t12, t13, hj, rfl⟩ ih
  by_cases hlt : i < l.length
  · obtain ⟨d, hd⟩ : ∃ d, l[i] = d := ⟨_, rfl⟩
    have hx := idxU_mem d m
    by_cases c1 : d ∈ m
    · have h2 := hx.2 c1
      have hu := upL_of hj hlt (by rw [hd]; exact c1)
      have hi' : (i : Int) ≤ l.length := by omega
      simp -implicitDefEqProofs [go_sem, Tryz.f106, t0, t1, t12, t13, hlt, hd, hg, pIdx2C, h2, hb, hi, hi', hu]
      exact fin _ _ (by simp [renV, bndV])
    · have h2 : ¬ 0 ≤ idxL d m := fun e => c1 (hx.1 e)
      simp -implicitDefEqProofs [go_sem, Tryz.f106, t0, t1, t12, t13, hlt, hd, hg, pIdx2C, h2, hb]
      refine ih (i + 1) _ _ (by omega) ⟨by omega, ?_⟩
      simp -implicitDefEqProofs [go_sem, t0, t1, t12, i64_1 hl6 hlt]
      intro j h3 h4
      by_cases e : j = i
      · subst e; rw [hd]; exact c1
      · exact hj j (by omega) h4
  · have hu := upL_none (m := m) (l := l) fun j h4 => hj j (by omega) h4
    simp -implicitDefEqProofs [go_sem, Tryz.f106, t0, t1, t12, t13, hlt, hg, hb, hu]
    exact fin _ _ (by simp [renV, bndV])
def lastU (c : Int) : List Int → Int
  | [] => -1
  | d :: t => if 0 ≤ lastU c t then lastU c t + 1 else if d = c then 0 else -1
theorem lastU_ge (c : Int) : ∀ l, -1 ≤ lastU c l ∧ lastU c l < l.length
  | [] => by simp [lastU]
  | d :: t => by
    have := lastU_ge c t
    unfold lastU
    simp only [List.length_cons]
    split
    · omega
    · split <;> omega
theorem lastU_snoc (c : Int) : ∀ (l : List Int) (d : Int), lastU c (l ++ [d]) = if d = c then (l.length : Int) else lastU c l
  | [], d => by simp [lastU]
  | e :: t, d => by
    have ih := lastU_snoc c t d
    have hg := lastU_ge c t
    rw [List.cons_append, lastU, ih, lastU]
    by_cases h1 : d = c
    · simp [h1]
    · simp [h1]
def pLastC : Ct := fun args h => match args with | [.s l, .i .u8 c] => some (.i .i64 (lastU c l), h) | _ => none
theorem pLast_ok : CtOk Tryz.prog G0 237 pLastC := by
  refine ct_plain (n := 2) fol sound_nil (by kernel_rfl) Tryz.func237 rfl fun args h v h' hc r xs H hr hx => ?_
  unfold pLastC at hc; split at hc <;> (try split at hc) <;> cases hc
  rename_i l c
  obtain ⟨⟨hs, hl6⟩, _⟩ := str_of hx
  refine ⟨rfl, rfl, by simp [renV, bndV], ?_⟩
  simp -implicitDefEqProofs [go_sem, Tryz.f237, w64 (x := (l.length : Int) - 1) (by omega)]
  refine run_inv _ _ _ _ _ (fun (k : Nat) t h1 => k ≤ l.length ∧ get t 0 = .s l ∧ get t 1 = .i .u8 c ∧ get t 5 = .i .i64 ((k : Int) - 1) ∧ lastU c (l.take k) = lastU c l ∧ Ext h h1) (fun k => k) _ (x := l.length) ⟨Nat.le_refl _, by simp -implicitDefEqProofs [go_sem], by simp -implicitDefEqProofs [go_sem], by simp -implicitDefEqProofs [go_sem], by simp, Ext.refl h⟩ ?_
  rintro k t h1 ⟨hk, t0, t1, t5, hla, hE⟩ ih
  match k with
  | 0 =>
    have e : lastU c l = -1 := by rw [← hla]; rfl
    simp -implicitDefEqProofs [go_sem, Tryz.f237, t0, t1, t5, e, hE]
  | k + 1 =>
    have t5 : get t 5 = .i .i64 k := by rw [t5]; congr 1; omega
    have hlt : k < l.length := by omega
    obtain ⟨d, hd⟩ : ∃ d, l[k] = d := ⟨_, rfl⟩
    rw [List.take_succ_eq_append_getElem hlt, hd, lastU_snoc] at hla
    by_cases c1 : d = c
    · rw [if_pos c1, List.length_take, Nat.min_eq_left (by omega)] at hla
      simp -implicitDefEqProofs [go_sem, Tryz.f237, t0, t1, t5, hlt, hd, c1, hE]
      exact hla
    · rw [if_neg c1] at hla
      simp -implicitDefEqProofs [go_sem, Tryz.f237, t0, t1, t5, hlt, hd, c1]
      refine ih k _ _ (by omega) ⟨by omega, ?_⟩
      simp -implicitDefEqProofs [go_sem, t0, t1, w64 (x := (k : Int) - 1) (by omega), hla, hE]
def pLast2C : Ct := fun args h => match args with | [.s l, .i .u8 c] => some (.i .i64 (lastU c l), h) | _ => none
theorem pLast2_ok : CtOk Tryz.prog G0 175 pLast2C := by
  refine ct_plain (n := 2) fol (sound_cons pLast_ok sound_nil) (by kernel_rfl) Tryz.func175 rfl fun args h v h' hc r xs H hr hx => ?_
  unfold pLast2C at hc; split at hc <;> (try split at hc) <;> cases hc
  rename_i l c
  refine ⟨rfl, rfl, by simp [renV, bndV], ?_⟩
  simp -implicitDefEqProofs [go_sem, Tryz.f175, pLastC]
def cutV1 (c : Int) (l : List Int) : V := if 0 ≤ idxL c l then .tup [.s (l.take (idxL c l).toNat), .s (l.drop ((idxL c l).toNat + 1)), .b true] else .tup [.s l, .s [], .b false]
theorem cutV1_flat (c : Int) (l : List Int) (m : Nat) : renV id (cutV1 c l) = cutV1 c l ∧ bndV m (cutV1 c l) := by unfold cutV1; split <;> simp [renV, renL, bndV, bndL]
def pCutSC : Ct := fun args h => match args with | [.s l, .s [c]] => some (cutV1 c l, h) | _ => none
theorem pCutS_ok : CtOk Tryz.prog G0 238 pCutSC := by
  refine ct_plain (n := 2) fol (sound_cons pInd1_ok sound_nil) (by kernel_rfl) Tryz.func238 rfl fun args h v h' hc r xs H hr hx => ?_
  unfold pCutSC at hc; split at hc <;> (try split at hc) <;> cases hc
  rename_i l c
  obtain ⟨⟨hs, hl6⟩, _⟩ := str_of hx
  refine ⟨rfl, rfl, cutV1_flat _ _ _, ?_⟩
  have hg := idxL_ge c l
  unfold cutV1
  by_cases c1 : 0 ≤ idxL c l
  · obtain ⟨n, hn⟩ : ∃ n : Nat, idxL c l = n := ⟨(idxL c l).toNat, by omega⟩
    rw [hn] at hg
    have a1 : n ≤ l.length := by omega
    have a2 : (n : Int) ≤ l.length := by omega
    have a3 : (n : Int) + 1 ≤ l.length := by omega
    have a4 : 0 ≤ (n : Int) + 1 := by omega
    have a5 : ((n : Int) + 1).toNat = n + 1 := by omega
    simp -implicitDefEqProofs [go_sem, Tryz.f238, pInd1C, hn, a1, a2, a3, a4, a5, w64 (x := (n : Int) + 1) (by omega)]
  · simp -implicitDefEqProofs [go_sem, Tryz.f238, pInd1C, c1]
def pCutC : Ct := fun args h => match args with | [.s l, .s [c]] => some (cutV1 c l, h) | _ => none
theorem pCut_ok : CtOk Tryz.prog G0 176 pCutC := by
  refine ct_plain (n := 2) fol (sound_cons pCutS_ok sound_nil) (by kernel_rfl) Tryz.func176 rfl fun args h v h' hc r xs H hr hx => ?_
  unfold pCutC at hc; split at hc <;> (try split at hc) <;> cases hc
  rename_i l c
  refine ⟨rfl, rfl, cutV1_flat _ _ _, ?_⟩
  unfold cutV1
  by_cases c1 : 0 ≤ idxL c l
  · simp -implicitDefEqProofs [go_sem, Tryz.f176, pCutSC, cutV1, c1]
  · simp -implicitDefEqProofs [go_sem, Tryz.f176, pCutSC, cutV1, c1]
end GoD

/-! What url.Parse's reader reads: scheme, port, authority. -/
namespace GoD
open Go Go.Proofs
set_option linter.unusedVariables false
set_option linter.unusedSimpArgs false
set_option maxHeartbeats 4000000
set_option maxRecDepth 100000
def rdU (l : List Int) (u : Url) : Blk := ⟨2, true, .s l :: u.cells⟩
def rdAt (h : Heap) (b : Nat) : Option (List Int × Url) := match hget h b with
  | ⟨2, true, [.s l, .s sch, .s us, .s pa, .s ho, .i .i64 po, .s path, .b q, .s qu, .b f, .s fr]⟩ => some (l, ⟨sch, us, pa, ho, po, path, q, qu, f, fr⟩)
  | _ => none
theorem rdAt_eq {h : Heap} {b : Nat} {l : List Int} {u : Url} (e : rdAt h b = some (l, u)) : hget h b = rdU l u := by
  unfold rdAt at e
  split at e
  · rename_i l' sch us pa ho po path q qu f fr hb
    cases e
    exact hb
  · cases e
theorem rdAt_of {h : Heap} {b : Nat} {l : List Int} {u : Url} (e : hget h b = rdU l u) : rdAt h b = some (l, u) := by
  unfold rdAt
  rw [e]
  rfl
theorem rdU_flat (l : List Int) (u : Url) : (rdU l u).cells.all GoD.flat = true := rfl
theorem pPassU_at {h : Heap} {b : Nat} {m l : List Int} {c : List V} (hg : hget h b = ⟨2, true, .s l :: c⟩) (hb : b < h.length) (hf : c.all GoD.flat = true) (hl : l.length ≤ 1048576) : pPassUC [.p b 0, .s m] h = some (.b (decide (passK m l = 1)), h.set b ⟨2, true, .s (l.drop (passK m l)) :: c⟩) := by
  unfold pPassUC
  simp only [hg]
  rw [if_pos ⟨hb, hf, hl⟩]
theorem pUpTo_at {h : Heap} {b : Nat} {m l : List Int} {c : List V} (hg : hget h b = ⟨2, true, .s l :: c⟩) (hb : b < h.length) (hf : c.all GoD.flat = true) (hl : l.length ≤ 1048576) : pUpToC [.p b 0, .s m] h = some (.s (l.take (upL m l)), h.set b ⟨2, true, .s (l.drop (upL m l)) :: c⟩) := by
  unfold pUpToC
  simp only [hg]
  rw [if_pos ⟨hb, hf, hl⟩]
def pLetterUC : Ct := fun args h => match args with | [.i .u8 c] => some (.b (letterB c), h) | _ => none
theorem pLetterU_ok : CtOk Tryz.prog G0 171 pLetterUC := by
  refine ct_plain (n := 1) fol sound_nil (by kernel_rfl) Tryz.func171 rfl fun args h v h' hc r xs H hr hx => ?_
  unfold pLetterUC at hc; split at hc <;> (try split at hc) <;> cases hc
  rename_i c
  refine ⟨rfl, rfl, by simp [renV, bndV], ?_⟩
  unfold letterB
  by_cases c1 : 97 ≤ c <;> by_cases c2 : c ≤ 122 <;> by_cases c3 : 65 ≤ c <;> by_cases c4 : c ≤ 90 <;> simp -implicitDefEqProofs [go_sem, Tryz.f171, c1, c2, c3, c4]
def schOk : List Int → Bool
  | [] => true
  | c :: t => letterB c && t.all schB
def schUR (l : List Int) (u : Url) : Bool × List Int × Url :=
  if schOk (l.take (upL [58] l)) = true then
    (if (defaultL (lowerL (l.take (upL [58] l)))).2 = true then (decide (passK [58] (l.drop (upL [58] l)) = 1), (l.drop (upL [58] l)).drop (passK [58] (l.drop (upL [58] l))), { u with sch := lowerL (l.take (upL [58] l)) })
     else (false, l.drop (upL [58] l), { u with sch := lowerL (l.take (upL [58] l)) }))
  else (false, l.drop (upL [58] l), u)
def pSchUC : Ct := fun args h => match args with
  | [.p b 0] => (match rdAt h b with
    | some (l, u) => if b < h.length ∧ l.length ≤ 1048576 then some (.b (schUR l u).1, h.set b (rdU (schUR l u).2.1 (schUR l u).2.2)) else none
    | none => none)
  | _ => none
theorem pSchU_ok : CtOk Tryz.prog G0 101 pSchUC := by
  refine ct_run (n := 1) fol (sound_cons pUpTo_ok (sound_cons pLetterU_ok (sound_cons pIdx2_ok (sound_cons pLower_ok (sound_cons pDefault_ok (sound_cons pPassU_ok sound_nil)))))) (by kernel_rfl) Tryz.func101 rfl fun args h v h' hc r xs H hr hx => ?_
  unfold pSchUC at hc; split at hc <;> (try split at hc) <;> (try split at hc) <;> cases hc
  rename_i b _ l u hrd hb
  obtain ⟨hb, hl⟩ := hb
  have hg := rdAt_eq hrd
  refine ⟨rfl, ?_⟩
  have fin : ∀ (v : V) (l' : List Int) (u' : Url), renV id v = v ∧ bndV h.length v → ∃ σ, Trim h v (h.set b (rdU l' u')) v (h.set b (rdU l' u')) σ := fun v l' u' hv => Trim.own hv (rdU_flat _ _) (Ext.refl _)
  obtain ⟨s0, hs0⟩ : ∃ s, l.take (upL [58] l) = s := ⟨_, rfl⟩
  obtain ⟨r0, hr0⟩ : ∃ s, l.drop (upL [58] l) = s := ⟨_, rfl⟩
  have hs0l : s0.length ≤ 1048576 := by rw [← hs0, List.length_take]; omega
  have hr0l : r0.length ≤ 1048576 := by rw [← hr0, List.length_drop]; omega
  unfold schUR
  rw [hs0, hr0]
  have hfl : u.cells.all GoD.flat = true := rfl
  have hg' : hget h b = ⟨2, true, .s l :: u.cells⟩ := hg
  have hU : pUpToC [.p b 0, .s [58]] h = some (.s s0, h.set b ⟨2, true, .s r0 :: u.cells⟩) := by
    unfold pUpToC
    simp only [hg']
    rw [if_pos ⟨hb, hfl, hl⟩, hs0, hr0]
  obtain ⟨h1, hh1⟩ : ∃ h1, h.set b ⟨2, true, .s r0 :: u.cells⟩ = h1 := ⟨_, rfl⟩
  rw [hh1] at hU
  have hg1 : hget h1 b = ⟨2, true, .s r0 :: u.cells⟩ := by rw [← hh1, hget_set, if_pos ⟨rfl, hb⟩]
  have hb1 : b < h1.length := by rw [← hh1, List.length_set]; exact hb
  obtain ⟨ok, hok⟩ : ∃ ok, schOk s0 = ok := ⟨_, rfl⟩
  obtain ⟨D, hD⟩ : ∃ D, defaultL (lowerL s0) = D := ⟨_, rfl⟩
  rw [hok, hD]
  have hs06 : s0.length ≤ 281474976710656 := by omega
  have fail : ok = false → ∃ σ, Trim h (V.b false) h1 (.b (if ok = true then (if D.2 = true then (decide (passK [58] r0 = 1), r0.drop (passK [58] r0), { u with sch := lowerL s0 }) else (false, r0, { u with sch := lowerL s0 })) else (false, r0, u)).1) (h.set b (rdU (if ok = true then (if D.2 = true then (decide (passK [58] r0 = 1), r0.drop (passK [58] r0), { u with sch := lowerL s0 }) else (false, r0, { u with sch := lowerL s0 })) else (false, r0, u)).2.1 (if ok = true then (if D.2 = true then (decide (passK [58] r0 = 1), r0.drop (passK [58] r0), { u with sch := lowerL s0 }) else (false, r0, { u with sch := lowerL s0 })) else (false, r0, u)).2.2)) σ := fun e => by
    subst e
    rw [← hh1]
    exact fin (.b false) r0 u ⟨rfl, trivial⟩
  generalize hF : (if ok = true then (if D.2 = true then (decide (passK [58] r0 = 1), r0.drop (passK [58] r0), { u with sch := lowerL s0 }) else (false, r0, { u with sch := lowerL s0 })) else (false, r0, u)) = F at fail ⊢
  simp -implicitDefEqProofs [go_sem, Tryz.f101, hU]
  refine run_inv _ _ _ _ _ (fun (i : Nat) t hx => i ≤ s0.length ∧ get t 0 = .p b 0 ∧ get t 3 = .s s0 ∧ get t 13 = .i .i64 s0.length ∧ get t 14 = .i .i64 i ∧ (if i = 0 then schOk s0 else (s0.drop i).all schB) = ok ∧ hx = h1) (fun i => s0.length - i) _ (x := 0) ⟨by omega, by simp -implicitDefEqProofs [go_sem], by simp -implicitDefEqProofs [go_sem], by simp -implicitDefEqProofs [go_sem], by simp -implicitDefEqProofs [go_sem], hok, rfl⟩ ?_
  rintro i t hx ⟨hi, t0, t3, t13, t14, ha, rfl⟩ ih
  by_cases hlt : i < s0.length
  · obtain ⟨d, hd⟩ : ∃ d, s0[i] = d := ⟨_, rfl⟩
    have hdr : s0.drop i = d :: s0.drop (i + 1) := by rw [List.drop_eq_getElem_cons hlt, hd]
    by_cases c1 : letterB d = true
    · have ha2 : (s0.drop (i + 1)).all schB = ok := by
        rw [← ha]
        by_cases e : i = 0
        · subst e
          rw [if_pos rfl]
          have : s0 = d :: s0.drop 1 := by simpa using hdr
          conv => rhs; rw [this]
          simp [schOk, c1]
        · rw [if_neg e, hdr, List.all_cons, show schB d = true by simp [schB, c1], Bool.true_and]
      simp -implicitDefEqProofs [go_sem, Tryz.f101, t0, t3, t13, t14, hlt, hd, pLetterUC, c1]
      refine ih (i + 1) _ _ (by omega) ⟨by omega, ?_⟩
      simp -implicitDefEqProofs [go_sem, t0, t3, t13, i64_1 hs06 hlt]
      simpa using ha2
    · by_cases e : i = 0
      · subst e
        have : s0 = d :: s0.drop 1 := by simpa using hdr
        rw [if_pos rfl, this] at ha
        simp [schOk, c1] at ha
        have hf := fail ha
        simp -implicitDefEqProofs [go_sem, Tryz.f101, t0, t3, t13, t14, hlt, hd, pLetterUC, c1]
        exact hf
      · have ei : ¬ (i : Int) = 0 := by omega
        rw [if_neg e, hdr, List.all_cons] at ha
        have hx := idxU_mem d [43, 45, 46]
        by_cases c2 : schB d = true
        · rw [c2, Bool.true_and] at ha
          by_cases c3 : 48 ≤ d ∧ d ≤ 57
          · simp -implicitDefEqProofs [go_sem, Tryz.f101, t0, t3, t13, t14, hlt, hd, pLetterUC, c1, ei, e, c3.1, c3.2]
            refine ih (i + 1) _ _ (by omega) ⟨by omega, ?_⟩
            simp -implicitDefEqProofs [go_sem, t0, t3, t13, i64_1 hs06 hlt]
            simpa using ha
          · have hm : d ∈ ([43, 45, 46] : List Int) := by
              simp [schB, c1, digitB, c3] at c2
              simp; omega
            have h2 := hx.2 hm
            by_cases c4 : 48 ≤ d
            · have c5 : ¬ d ≤ 57 := by omega
              simp -implicitDefEqProofs [go_sem, Tryz.f101, t0, t3, t13, t14, hlt, hd, pLetterUC, pIdx2C, c1, ei, e, c4, c5, h2]
              refine ih (i + 1) _ _ (by omega) ⟨by omega, ?_⟩
              simp -implicitDefEqProofs [go_sem, t0, t3, t13, i64_1 hs06 hlt]
              simpa using ha
            · simp -implicitDefEqProofs [go_sem, Tryz.f101, t0, t3, t13, t14, hlt, hd, pLetterUC, pIdx2C, c1, ei, e, c4, h2]
              refine ih (i + 1) _ _ (by omega) ⟨by omega, ?_⟩
              simp -implicitDefEqProofs [go_sem, t0, t3, t13, i64_1 hs06 hlt]
              simpa using ha
        · have c2' : schB d = false := by simpa using c2
          rw [c2', Bool.false_and] at ha
          have hf := fail ha.symm
          have hm : d ∉ ([43, 45, 46] : List Int) := by
            simp [schB, c1] at c2
            simp; omega
          have c3 : ¬ (48 ≤ d ∧ d ≤ 57) := by
            simp [schB, c1, digitB] at c2
            omega
          have h2 : ¬ 0 ≤ idxL d [43, 45, 46] := fun e => hm (hx.1 e)
          by_cases c4 : 48 ≤ d
          · have c5 : ¬ d ≤ 57 := by omega
            simp -implicitDefEqProofs [go_sem, Tryz.f101, t0, t3, t13, t14, hlt, hd, pLetterUC, pIdx2C, c1, ei, e, c4, c5, h2]
            exact hf
          · simp -implicitDefEqProofs [go_sem, Tryz.f101, t0, t3, t13, t14, hlt, hd, pLetterUC, pIdx2C, c1, ei, e, c4, h2]
            exact hf
  · have eo : ok = true := by
      rw [← ha]
      by_cases e : i = 0
      · have : s0 = [] := List.eq_nil_of_length_eq_zero (by omega)
        rw [if_pos e, this]; rfl
      · rw [if_neg e, List.drop_eq_nil_of_le (by omega)]; rfl
    subst eo
    simp only [if_true] at hF
    have hgx : hget hx b = ⟨2, true, [.s r0, .s u.sch, .s u.us, .s u.pa, .s u.ho, .i .i64 u.po, .s u.path, .b u.q, .s u.qu, .b u.f, .s u.fr]⟩ := hg1
    have hset : ∀ B : Blk, hx.set b B = h.set b B := fun B => by rw [← hh1, List.set_set]
    by_cases c1 : D.2 = true
    · rw [if_pos c1] at hF
      subst hF
      have hP : pPassUC [.p b 0, .s [58]] (h.set b ⟨2, true, [.s r0, .s (lowerL s0), .s u.us, .s u.pa, .s u.ho, .i .i64 u.po, .s u.path, .b u.q, .s u.qu, .b u.f, .s u.fr]⟩) = some (.b (decide (passK [58] r0 = 1)), h.set b (rdU (r0.drop (passK [58] r0)) { u with sch := lowerL s0 })) := by
        have := pPassU_at (m := [58]) (h := h.set b ⟨2, true, [.s r0, .s (lowerL s0), .s u.us, .s u.pa, .s u.ho, .i .i64 u.po, .s u.path, .b u.q, .s u.qu, .b u.f, .s u.fr]⟩) (b := b) (by rw [hget_set, if_pos ⟨rfl, hb⟩]) (by rw [List.length_set]; exact hb) rfl hr0l
        rw [this, List.set_set]
        rfl
      simp -implicitDefEqProofs [go_sem, Tryz.f101, t0, t3, t13, t14, hlt, pLowerC, hs0l, hgx, hb1, hset, hget_set, hb, pDefaultC, hD, c1, hP]
      exact fin (.b (decide (passK [58] r0 = 1))) _ _ ⟨rfl, trivial⟩
    · have c1' : D.2 = false := by simpa using c1
      rw [if_neg c1] at hF
      subst hF
      simp -implicitDefEqProofs [go_sem, Tryz.f101, t0, t3, t13, t14, hlt, pLowerC, hs0l, hgx, hb1, hset, hget_set, hb, pDefaultC, hD, c1']
      exact fin (.b false) r0 { u with sch := lowerL s0 } ⟨rfl, trivial⟩
end GoD
