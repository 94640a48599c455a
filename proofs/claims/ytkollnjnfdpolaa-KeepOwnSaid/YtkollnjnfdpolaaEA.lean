import Derived.Test.YtkollnjnfdpolaaDC
import Derived.Test.YtkollnjnfdpolaaTY
import Derived.Test.YtkollnjnfdpolaaES
import Derived.Test.YtkollnjnfdpolaaProg
import Derived.Lib.Bytealg
/-! Texts of ASCII as the document answers them. -/
namespace GoD
open Go Go.Proofs
set_option linter.unusedVariables false
set_option linter.unusedSimpArgs false
abbrev G0 : Nat → List V := fun _ => []
theorem fol : Try.prog.follows .mixedOrders = true := by kernel_rfl
theorem ofBA_nil : ofBA { data := #[] } = [] := rfl
theorem ofBA_mk (l : List UInt8) : ofBA { data := l.toArray } = l.map fun c => (c.toNat : Int) := rfl
attribute [go_sem] ofBA_nil ofBA_mk Ext.refl Ext.new
theorem beq_i (a b : Int) : (a == b) = decide (a = b) := by by_cases h : a = b <;> simp [h]
theorem bne_i (a b : Int) : (a != b) = !decide (a = b) := by by_cases h : a = b <;> simp [h]
theorem beq_l (a b : List Int) : (a == b) = decide (a = b) := by by_cases h : a = b <;> simp [h]
attribute [go_sem] beq_i bne_i beq_l
theorem cl1 (i n : Nat) : ((i : Int) + 1 < (n : Int)) = (i + 1 < n) := propext (by omega)
theorem cm1 (i n : Nat) : ((i : Int) + 1 ≤ (n : Int)) = (i + 1 ≤ n) := propext (by omega)
theorem cn1 (i : Nat) : (0 ≤ (i : Int) + 1) = True := propext ⟨fun _ => trivial, fun _ => by omega⟩
theorem ct1 (i : Nat) : ((i : Int) + 1).toNat = i + 1 := by omega
theorem cl2 (i n : Nat) : ((i : Int) + 2 < (n : Int)) = (i + 2 < n) := propext (by omega)
theorem cm2 (i n : Nat) : ((i : Int) + 2 ≤ (n : Int)) = (i + 2 ≤ n) := propext (by omega)
theorem cn2 (i : Nat) : (0 ≤ (i : Int) + 2) = True := propext ⟨fun _ => trivial, fun _ => by omega⟩
theorem ct2 (i : Nat) : ((i : Int) + 2).toNat = i + 2 := by omega
theorem cl3 (i n : Nat) : ((i : Int) + 3 < (n : Int)) = (i + 3 < n) := propext (by omega)
theorem cm3 (i n : Nat) : ((i : Int) + 3 ≤ (n : Int)) = (i + 3 ≤ n) := propext (by omega)
theorem cn3 (i : Nat) : (0 ≤ (i : Int) + 3) = True := propext ⟨fun _ => trivial, fun _ => by omega⟩
theorem ct3 (i : Nat) : ((i : Int) + 3).toNat = i + 3 := by omega
attribute [go_sem] cl1 cm1 cn1 ct1 cl2 cm2 cn2 ct2 cl3 cm3 cn3 ct3
theorem i64_1 {i : Nat} {l : List Int} (h : l.length ≤ 281474976710656) (hi : i < l.length) : IntKind.i64.wrap ((i : Int) + 1) = ((i + 1 : Nat) : Int) := by rw [w64 (by omega)]; rfl
theorem i64_2 {i : Nat} (hi : i < 1152921504606846976) : IntKind.i64.wrap ((i : Int) + 2) = ((i + 2 : Nat) : Int) := by rw [w64 (by omega)]; rfl
theorem i64_3 {i : Nat} (hi : i < 1152921504606846976) : IntKind.i64.wrap ((i : Int) + 2 + 1) = ((i + 3 : Nat) : Int) := by rw [w64 (by omega)]; omega
theorem i64_n {i : Nat} (hi : i < 1152921504606846976) : IntKind.i64.wrap ((i : Int) + 1) = ((i + 1 : Nat) : Int) := by rw [w64 (by omega)]; rfl
theorem sl_of {r : List (Option Loc)} {b o n z : Nat} {a : List V} {xs : List Value} (h : RL r (.sl b o n z :: a) xs) : n ≤ 281474976710656 ∧ ∃ ys, RL r a ys := by
  cases h with | cons h1 h2 =>
  refine ⟨?_, _, h2⟩
  cases h1 with
  | sl _ _ _ _ _ _ _ _ _ hb => exact hb
  | s0 => omega
  | sn => omega
/-- bytes, strings, as cells -/
def bts (l : List Int) : List V := l.map (.i .u8)
def sts (l : List (List Int)) : List V := l.map .s
theorem bts_nil : bts [] = [] := rfl
theorem sts_nil : sts [] = [] := rfl
theorem bts_len (l : List Int) : (bts l).length = l.length := by simp [bts]
theorem sts_len (l : List (List Int)) : (sts l).length = l.length := by simp [sts]
theorem bts_snoc (l : List Int) (c : Int) : bts l ++ [.i .u8 c] = bts (l ++ [c]) := by simp [bts]
theorem sts_snoc (l : List (List Int)) (c : List Int) : sts l ++ [.s c] = sts (l ++ [c]) := by simp [sts]
theorem bts_V (l : List Int) : bytesV (bts l) = some l := by
  induction l with
  | nil => rfl
  | cons c l ih =>
    have : bts (c :: l) = .i .u8 c :: bts l := rfl
    rw [this, bytesV, ih]; rfl
theorem ldN_all (c : List V) : ldN c 0 c.length = some c := by simp [ldN]
theorem ldN_n {c : List V} {n : Nat} (h : n = c.length) : ldN c 0 n = some c := by subst h; exact ldN_all c
theorem ldN_b {l : List Int} {n : Nat} (h : l.length = n) : ldN (bts l) 0 n = some (bts l) := ldN_n (by rw [bts_len, h])
theorem ldN_s {l : List (List Int)} {n : Nat} (h : l.length = n) : ldN (sts l) 0 n = some (sts l) := ldN_n (by rw [sts_len, h])
theorem bts_one (l : List Int) : (bts l).all isOne = true := by simp [bts, isOne]
theorem sts_one (l : List (List Int)) : (sts l).all isOne = true := by simp [sts, isOne]
theorem bts_flat (l : List Int) : (bts l).all flat = true := by simp [bts, flat]
theorem sts_flat (l : List (List Int)) : (sts l).all flat = true := by simp [sts, flat]
attribute [go_sem] bts_len sts_len bts_snoc sts_snoc bts_V bts_one sts_one bts_flat sts_flat
theorem Trim.sl {h h' : Heap} {m o n z : Nat} {b : Blk} (he : Ext h h') (hm : h.length ≤ m) (hml : m < h'.length) (hg : hget h' m = b) (hf : b.cells.all GoD.flat = true) : ∃ σ, Trim h (.sl m o n z) h' (.sl h.length o n z) (h ++ [b]) σ :=
  ⟨GoD.one h.length m, Trim.one (by simp [renV, GoD.one]) (by simp [bndV]) he hm hml hg hf⟩
theorem hget_at {h l : Heap} {n k : Nat} (e : h.length = n) : hget (h ++ l) (n + k) = l.getD k dead := by
  unfold hget
  rw [List.getD_eq_getElem?_getD, List.getD_eq_getElem?_getD, List.getElem?_append_right (by omega), show n + k - h.length = k by omega]
theorem hget_at0 {h l : Heap} {n : Nat} (e : h.length = n) : hget (h ++ l) n = l.getD 0 dead := hget_at (k := 0) e
theorem hget_lt {h l : Heap} {n : Nat} (e : n < h.length) : hget (h ++ l) n = hget h n := by
  unfold hget
  rw [List.getD_eq_getElem?_getD, List.getD_eq_getElem?_getD, List.getElem?_append_left e]
theorem Ext.app {h h1 : Heap} (e : Ext h h1) (l : Heap) : Ext h (h1 ++ l) := ⟨by have := e.1; simp; omega, fun i hi => by rw [hget_lt (by have := e.1; omega)]; exact e.2 i hi⟩
theorem Ext.dead {h h1 : Heap} {m : Nat} (e : Ext h h1) (hm : h.length ≤ m) : Ext h (h1.set m GoD.dead) := Ext.set e hm _
theorem getD0 (a : Blk) (l : Heap) : (a :: l).getD 0 dead = a := rfl
theorem getDS (a : Blk) (l : Heap) (k : Nat) : (a :: l).getD (k + 1) dead = l.getD k dead := rfl
theorem getD1 (a b : Blk) (l : Heap) : (a :: b :: l).getD 1 dead = b := rfl
theorem getD2 (a b c : Blk) (l : Heap) : (a :: b :: c :: l).getD 2 dead = c := rfl
attribute [go_sem] hget_at hget_at0 hget_lt Ext.app Ext.dead getD0 getD1 getD2 List.length_set
theorem snoc_take (l : List Int) {i : Nat} (h : i < l.length) : l.take (i + 1) = l.take i ++ [l[i]] := List.take_succ_eq_append_getElem h
theorem snoc_map (l : List Int) (f : Int → Int) {i : Nat} (h : i < l.length) : (l.take (i + 1)).map f = (l.take i).map f ++ [f l[i]] := by
  rw [List.take_succ_eq_append_getElem h, List.map_append]; rfl
theorem getD_of {l : List Int} {i : Nat} {c : Int} (h : i < l.length) (hc : l[i] = c) : l.getD i 0 = c := by rw [List.getD_eq_getElem?_getD, List.getElem?_eq_getElem h]; exact hc
/-- the strings in a block -/
def strsV : List V → Option (List (List Int))
  | [] => some []
  | .s l :: r => (strsV r).map (l :: ·)
  | _ => none
def strsAt (h : Heap) (b o n : Nat) : Option (List (List Int)) := match hget h b with
  | ⟨0, _, _⟩ => none
  | ⟨_ + 1, _, c⟩ => match ldN c o n with | some l => strsV l | none => none
theorem strsV_eq : ∀ {c : List V} {l : List (List Int)}, strsV c = some l → c = sts l
  | [], l, h => by simp [strsV] at h; subst h; rfl
  | v :: c, l, h => by
    cases v <;> simp [strsV] at h
    obtain ⟨a, h1, rfl⟩ := h
    rw [strsV_eq h1]; rfl
theorem strsV_map (l : List (List Int)) : strsV (sts l) = some l := by
  induction l with
  | nil => rfl
  | cons c l ih =>
    have : sts (c :: l) = .s c :: sts l := rfl
    rw [this, strsV, ih]; rfl
theorem strsAt_eq {h : Heap} {b o n : Nat} {l : List (List Int)} (hs : strsAt h b o n = some l) : ∃ st x c, hget h b = ⟨st + 1, x, c⟩ ∧ ldN c o n = some (sts l) ∧ l.length = n ∧ ∀ i (hi : i < l.length), ldN c (o + i) 1 = some [.s l[i]] := by
  unfold strsAt at hs
  split at hs
  · cases hs
  · rename_i st x c hg
    split at hs
    · rename_i l' hl
      have e := strsV_eq hs
      subst e
      refine ⟨st, x, c, hg, hl, ?_⟩
      unfold ldN at hl
      split at hl
      · rename_i hb
        have hl := Option.some.inj hl
        have hn : l.length = n := by have := congrArg List.length hl; simp [sts_len] at this; omega
        refine ⟨hn, fun i hi => ?_⟩
        have h1 : c[o + i]? = some (.s l[i]) := by
          have := congrArg (fun z : List V => z[i]?) hl
          simp only [List.getElem?_take, List.getElem?_drop, if_pos (show i < n by omega), sts, List.getElem?_map, List.getElem?_eq_getElem hi, Option.map_some] at this
          exact this
        have h2 : o + i < c.length := by omega
        rw [ldN, if_pos (by omega), List.drop_eq_getElem_cons h2]
        rw [List.getElem?_eq_getElem h2] at h1
        rw [Option.some.inj h1]; rfl
      · cases hl
    · cases hs
def rLetterC : Ct := fun args h => match args with | [.i .u8 c] => some (.b (letterB c), h) | _ => none
set_option maxHeartbeats 1000000
set_option maxRecDepth 100000
def rDigitC : Ct := fun args h => match args with | [.i .u8 c] => some (.b (digitB c), h) | _ => none
def rHasC : Ct := fun args h => match args with | [.s l, .i .u8 c] => some (.b (decide (c ∈ l)), h) | _ => none
theorem mem_drop {l : List Int} {i : Nat} {c d : Int} (hlt : i < l.length) (hc : l[i] = d) : c ∈ l.drop i ↔ c = d ∨ c ∈ l.drop (i + 1) := by rw [List.drop_eq_getElem_cons hlt, hc, List.mem_cons]
def rLowerC : Ct := fun args h => match args with | [.s l] => if l.length ≤ 1048576 then some (.s (lowerL l), h) else none | _ => none
end GoD
