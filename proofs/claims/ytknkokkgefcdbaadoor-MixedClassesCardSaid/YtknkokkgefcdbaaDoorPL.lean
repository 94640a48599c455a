import Derived.Test.YtknkokkgefcdbaaDoorV0
import Derived.Lib.Bytealg
namespace Go.Proofs.YtknkokkgefcdbaaDoorPL
open Go.RowKit Go.Proofs.YtknkokkgefcdbaaDoorW.PrintWords Go.Proofs.YtknkokkgefcdbaaDoorW.PrintLast Go.Proofs.YtknkokkgefcdbaaDoorW.PrintMore
/-! Numbers and lists -/
theorem w64 {x : Int} (h0 : -9223372036854775808 ≤ x) (h1 : x < 9223372036854775808) : wrap64 x = x := by unfold wrap64; omega
theorem w32 {x : Int} (h0 : -2147483648 ≤ x) (h1 : x < 2147483648) : wrap32 x = x := by unfold wrap32; omega
theorem wu64 {x : Int} (h0 : 0 ≤ x) (h1 : x < 18446744073709551616) : IntKind.u64.wrap x = x := by simp [IntKind.wrap, IntKind.bits, IntKind.signed]; omega
theorem rd_nat (xs : List Int) (n : Nat) : rd xs (n : Int) = xs.getD n 0 := by simp [rd]
theorem drop_rd {xs : List Int} {n : Nat} (h : n < xs.length) : xs.drop n = rd xs (n : Int) :: xs.drop (n + 1) := by
  rw [rd_nat, List.drop_eq_getElem_cons h]; simp [List.getD_eq_getElem?_getD, h]
theorem drop_rdOf {α : Type} {d : α} {xs : List α} {n : Nat} (h : n < xs.length) : xs.drop n = rdOf d xs (n : Int) :: xs.drop (n + 1) := by
  rw [List.drop_eq_getElem_cons h]; simp [rdOf, List.getD_eq_getElem?_getD, h]
theorem rd_drop (l : List Int) (n i : Nat) : rd (l.drop n) (i : Int) = rd l ((n + i : Nat) : Int) := by
  simp only [rd, Int.toNat_natCast, List.getD_eq_getElem?_getD, List.getElem?_drop]
theorem rd_cons_zero (x : Int) (l : List Int) : rd (x :: l) 0 = x := rfl
theorem rd_cons_succ (x : Int) (l : List Int) (n : Nat) : rd (x :: l) ((n + 1 : Nat) : Int) = rd l (n : Int) := by
  rw [rd_nat, rd_nat, List.getD_cons_succ]
def Bytes (l : List Int) : Prop := ∀ x ∈ l, 0 ≤ x ∧ x < 256
theorem Bytes.nil : Bytes [] := fun x hx => by cases hx
theorem Bytes.cons {x : Int} {l : List Int} (h0 : 0 ≤ x ∧ x < 256) (h : Bytes l) : Bytes (x :: l) := fun y hy => by
  rcases List.mem_cons.1 hy with rfl | hy
  · exact h0
  · exact h y hy
theorem Bytes.tail {x : Int} {l : List Int} (h : Bytes (x :: l)) : Bytes l := fun y hy => h y (List.mem_cons_of_mem _ hy)
theorem Bytes.head {x : Int} {l : List Int} (h : Bytes (x :: l)) : 0 ≤ x ∧ x < 256 := h x List.mem_cons_self
theorem Bytes.rd {l : List Int} (h : Bytes l) (i : Int) : 0 ≤ rd l i ∧ rd l i < 256 := by
  unfold Go.Proofs.YtknkokkgefcdbaaDoorW.PrintWords.rd
  rw [List.getD_eq_getElem?_getD]
  rcases Nat.lt_or_ge i.toNat l.length with hl | hl
  · rw [List.getElem?_eq_getElem hl]; exact h _ (List.getElem_mem hl)
  · rw [List.getElem?_eq_none hl]; exact ⟨by simp, by simp⟩
theorem Bytes.drop {l : List Int} (h : Bytes l) (n : Nat) : Bytes (l.drop n) := fun x hx => h x (List.mem_of_mem_drop hx)
theorem Bytes.take {l : List Int} (h : Bytes l) (n : Nat) : Bytes (l.take n) := fun x hx => h x (List.mem_of_mem_take hx)
theorem Bytes.append {l m : List Int} (h : Bytes l) (h' : Bytes m) : Bytes (l ++ m) := fun x hx => (List.mem_append.1 hx).elim (h x) (h' x)
theorem Bytes.map {l : List Int} {f : Int → Int} (h : ∀ x ∈ l, 0 ≤ f x ∧ f x < 256) : Bytes (l.map f) := fun x hx => by
  obtain ⟨y, hy, rfl⟩ := List.mem_map.1 hx
  exact h y hy
theorem shl_u32 {x : Int} {j : Nat} (hj : j ≤ 32) : shl .u32 x (j : Int) = (x * 2 ^ j) % 4294967296 := by
  unfold shl
  rw [Nat.min_eq_left (show (j : Int).toNat ≤ IntKind.u32.bits by rw [Int.toNat_natCast]; exact hj), Int.toNat_natCast]
  simp [IntKind.wrap, IntKind.bits, IntKind.signed]
theorem shl_u64 {x : Int} {j : Nat} (hj : j ≤ 64) : shl .u64 x (j : Int) = (x * 2 ^ j) % 18446744073709551616 := by
  unfold shl
  rw [Nat.min_eq_left (show (j : Int).toNat ≤ IntKind.u64.bits by rw [Int.toNat_natCast]; exact hj), Int.toNat_natCast]
  simp [IntKind.wrap, IntKind.bits, IntKind.signed]
theorem shl_i64 {x : Int} {j : Nat} (hj : j ≤ 64) : shl .i64 x (j : Int) = wrap64 (x * 2 ^ j) := by
  unfold shl
  rw [Nat.min_eq_left (show (j : Int).toNat ≤ IntKind.i64.bits by rw [Int.toNat_natCast]; exact hj), Int.toNat_natCast]
  exact i64_w _
theorem shr_u32 {x : Int} {j : Nat} (hj : j ≤ 32) : shr .u32 x (j : Int) = x / 2 ^ j := by
  unfold shr
  rw [Nat.min_eq_left (show (j : Int).toNat ≤ IntKind.u32.bits by rw [Int.toNat_natCast]; exact hj), Int.toNat_natCast]
/-! Strings as lists of bytes -/
abbrev st (xs : List Int) : ByteArray := strOfNums xs
theorem st_size (xs : List Int) : (st xs).size = xs.length := strOfNums_size xs
theorem u8_toNat {x : Int} (h : 0 ≤ x ∧ x < 256) : ((UInt8.ofNat x.toNat).toNat : Int) = x := by
  rw [UInt8.toNat_ofNat']
  omega
theorem bytesOf_st {xs : List Int} (h : Bytes xs) : bytesOf (st xs) = xs := by
  unfold bytesOf
  rw [strOfNums_data, List.map_map]
  conv => rhs; rw [← List.map_id xs]
  exact List.map_congr_left fun x hx => u8_toNat (h x hx)
theorem st_bytesOf (s : ByteArray) : st (bytesOf s) = s := by
  have : (st (bytesOf s)).data = s.data := by
    apply Array.ext'
    rw [strOfNums_data]
    unfold bytesOf
    rw [List.map_map]
    conv => rhs; rw [← List.map_id s.data.toList]
    exact List.map_congr_left fun x hx => by simp
  cases h : st (bytesOf s) with | mk d => cases s with | mk e => rw [h] at this; cases this; rfl
theorem bytes_bytesOf (s : ByteArray) : Bytes (bytesOf s) := fun x hx => by
  unfold bytesOf at hx
  obtain ⟨y, _, rfl⟩ := List.mem_map.1 hx
  have := y.toNat_lt
  omega
theorem bytesOf_length' (s : ByteArray) : (bytesOf s).length = s.size := by unfold bytesOf; rw [List.length_map, Array.length_toList]; rfl
/-- every string is one of a list of bytes -/
theorem st_of (s : ByteArray) : ∃ xs, s = st xs ∧ Bytes xs ∧ xs.length = s.size := ⟨bytesOf s, (st_bytesOf s).symm, bytes_bytesOf s, bytesOf_length' s⟩
theorem st_inj {xs ys : List Int} (hx : Bytes xs) (hy : Bytes ys) (h : st xs = st ys) : xs = ys := by
  rw [← bytesOf_st hx, ← bytesOf_st hy, h]
theorem bt_st {xs : List Int} (h : Bytes xs) (i : Int) : bt (st xs) i = rd xs i := by
  unfold bt rd
  rcases Nat.lt_or_ge i.toNat xs.length with hl | hl
  · rw [dif_pos (by rw [st_size]; exact hl)]
    have e1 : (st xs).data.toList[i.toNat]'(by rw [strOfNums_data, List.length_map]; exact hl) = UInt8.ofNat (xs[i.toNat]).toNat := by
      have e2 : ∀ (l m : List UInt8) (e : l = m) (n : Nat) (h1 : n < l.length) (h2 : n < m.length), l[n]'h1 = m[n]'h2 := by
        intro l m e; cases e; intros; rfl
      rw [e2 _ _ (strOfNums_data xs) _ _ (by rw [List.length_map]; exact hl), List.getElem_map]
    have this : (st xs)[i.toNat]'(by rw [st_size]; exact hl) = UInt8.ofNat (xs[i.toNat]).toNat := by rw [← e1]; rfl
    rw [this, u8_toNat (h _ (List.getElem_mem hl)), List.getD_eq_getElem?_getD, List.getElem?_eq_getElem hl]; rfl
  · rw [dif_neg (by rw [st_size]; omega), List.getD_eq_getElem?_getD, List.getElem?_eq_none hl]; rfl
theorem st_ext (xs : List Int) (a b : Nat) : (st xs).extract a b = st ((xs.take b).drop a) := by
  have : ((st xs).extract a b).data = (st ((xs.take b).drop a)).data := by
    apply Array.ext'
    rw [strOfNums_data]
    simp [st, strOfNums, ByteArray.data_extract, List.extract, List.drop_take]
  cases h : (st xs).extract a b with | mk d => cases h2 : st ((xs.take b).drop a) with | mk e => rw [h, h2] at this; cases this; rfl
theorem st_app (xs ys : List Int) : st xs ++ st ys = st (xs ++ ys) := by
  have : (st xs ++ st ys).data = (st (xs ++ ys)).data := by
    apply Array.ext'
    rw [strOfNums_data]
    simp [st, strOfNums, ByteArray.data_append]
  cases h : st xs ++ st ys with | mk d => cases h2 : st (xs ++ ys) with | mk e => rw [h, h2] at this; cases this; rfl
theorem toList_inj {s t : ByteArray} : s.toList = t.toList ↔ s = t := by
  rw [Lib.toList_data, Lib.toList_data]
  constructor
  · intro h
    cases s with | mk d => cases t with | mk e => rw [show d = e from Array.ext' h]
  · rintro rfl; rfl
theorem toList_nil {xs : List Int} : (st xs).toList = ([] : List UInt8) ↔ xs = [] := by
  rw [Lib.toList_data, strOfNums_data, List.map_eq_nil_iff]
theorem toList_eq {xs ys : List Int} (hx : Bytes xs) (hy : Bytes ys) : (st xs).toList = (st ys).toList ↔ xs = ys := by
  rw [toList_inj]
  exact ⟨fun h => st_inj hx hy h, fun h => by rw [h]⟩
theorem st_eq_iff {xs ys : List Int} (hx : Bytes xs) (hy : Bytes ys) : st xs = st ys ↔ xs = ys := ⟨fun h => st_inj hx hy h, fun h => by rw [h]⟩
theorem st_nil : (⟨#[]⟩ : ByteArray) = st [] := rfl
theorem st_empty : ByteArray.empty = st [] := rfl
theorem st_rdOf {l : List (List Int)} (i : Int) : rdOf ByteArray.empty (l.map st) i = st (l.getD i.toNat []) := by
  unfold rdOf
  rw [List.getD_eq_getElem?_getD, List.getElem?_map, List.getD_eq_getElem?_getD]
  cases l[i.toNat]? <;> rfl
theorem getD_bytes {l : List (List Int)} (h : ∀ x ∈ l, Bytes x) (n : Nat) : Bytes (l.getD n []) := by
  rw [List.getD_eq_getElem?_getD]
  cases e : l[n]? with
  | none => exact Bytes.nil
  | some x => exact h x (List.mem_of_getElem? e)
/-! Ways through a function's body -/
theorem ev_pos {α : Type} {c : Prop} [Decidable c] {A B : Nat → Option α} {r : α} (h : c) (H : Ev A r) : Ev (fun k => if c then A k else B k) r := by
  simpa only [if_pos h] using H
theorem ev_neg {α : Type} {c : Prop} [Decidable c] {A B : Nat → Option α} {r : α} (h : ¬ c) (H : Ev B r) : Ev (fun k => if c then A k else B k) r := by
  simpa only [if_neg h] using H
theorem ev_ite {α : Type} {c : Prop} [Decidable c] {A B : Nat → Option α} {r : α} (h1 : c → Ev A r) (h2 : ¬ c → Ev B r) : Ev (fun k => if c then A k else B k) r := by
  by_cases h : c
  · exact ev_pos h (h1 h)
  · exact ev_neg h (h2 h)
theorem ev_ite2 {α : Type} {c d : Prop} [Decidable c] [Decidable d] {A B : Nat → Option α} {r s : α} (h : c ↔ d) (h1 : d → Ev A r) (h2 : ¬ d → Ev B s) : Ev (fun k => if c then A k else B k) (if d then r else s) := by
  by_cases e : d
  · rw [if_pos e]; exact ev_pos (h.2 e) (h1 e)
  · rw [if_neg e]; exact ev_neg (fun x => e (h.1 x)) (h2 e)
theorem ev_some {α β : Type} {x : α} {f : Nat → α → Option β} {r : β} (H : Ev (fun k => f k x) r) : Ev (fun k => (some x : Option α).bind (f k)) r := H
/-- a function without rounds, met on the way -/
theorem ev_const {α β : Type} {g : Option α} {x : α} {f : Nat → α → Option β} {r : β} (h : g = some x) (H : Ev (fun k => f k x) r) : Ev (fun k => g.bind (f k)) r := by
  subst h; exact H
theorem toList_bne (xs : List Int) : ((st xs).toList != ([] : List UInt8)) = (xs != []) := by
  rw [Lib.toList_data, strOfNums_data]; cases xs <;> rfl
theorem toList_beq (xs : List Int) : ((st xs).toList == ([] : List UInt8)) = (xs == []) := by
  rw [Lib.toList_data, strOfNums_data]; cases xs <;> rfl
/-- a law of one byte, looked at for each of the 256 -/
theorem byteAll {P : Int → Prop} [DecidablePred P] (h : ∀ n : Fin 256, P (n.val : Int)) {c : Int} (h0 : 0 ≤ c) (h1 : c < 256) : P c := by
  have := h ⟨c.toNat, by omega⟩
  rwa [show ((c.toNat : Nat) : Int) = c by omega] at this
/-! Places in a row -/
theorem mid {α : Type} {xs pre suf : List α} {x : α} (e : xs = pre ++ x :: suf) : (pre.length : Int) < (xs.length : Int) ∧ ((pre.length : Int) + 1 = ((pre ++ [x]).length : Int)) ∧ xs = (pre ++ [x]) ++ suf := by
  subst e
  simp
  omega
theorem mid_rd {xs pre suf : List Int} {x : Int} (e : xs = pre ++ x :: suf) : rd xs (pre.length : Int) = x := by
  subst e; rw [rd_nat]; simp
theorem mid_bt {xs pre suf : List Int} {x : Int} (h : Bytes xs) (e : xs = pre ++ x :: suf) : bt (st xs) (pre.length : Int) = x := by rw [bt_st h, mid_rd e]
theorem mid_end {α : Type} {xs pre : List α} (e : xs = pre ++ []) : (pre.length : Int) = (xs.length : Int) := by subst e; simp
theorem mid_byte {xs pre suf : List Int} {x : Int} (h : Bytes xs) (e : xs = pre ++ x :: suf) : 0 ≤ x ∧ x < 256 := h x (by subst e; simp)
end Go.Proofs.YtknkokkgefcdbaaDoorPL
