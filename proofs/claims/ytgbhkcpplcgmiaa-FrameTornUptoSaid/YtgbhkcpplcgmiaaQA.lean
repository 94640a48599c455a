/- The plain laws of frames: what the printed functions compute, and what four of the statements ask of it. No program and no memory in sight. -/
import Derived.Test.YtgbhkcpplcgmiaaG
import Derived.Test.YtgbhkcpplcgmiaaPAx10
import Derived.Test.YtgbhkcpplcgmiaaPAx12
import Derived.Test.YtgbhkcpplcgmiaaPAx5
import Derived.Test.YtgbhkcpplcgmiaaPAx8
namespace Go.Proofs.Ytgbhkcpplcgmiaa.PA
open Go.RowKit Go.Proofs.YtgbhkcpplcgmiaaW.PrintWords Go.Proofs.YtgbhkcpplcgmiaaW.PrintLast Go.Proofs.YtgbhkcpplcgmiaaW.PrintMore
set_option linter.unusedVariables false
set_option linter.unusedSimpArgs false
set_option linter.unusedSectionVars false
/-! general -/
theorem w64 {x : Int} (h0 : -9223372036854775808 ≤ x) (h1 : x < 9223372036854775808) : wrap64 x = x := by unfold wrap64; omega
theorem rd_nat (xs : List Int) (n : Nat) : rd xs (n : Int) = xs.getD n 0 := by simp [rd]
theorem drop_rd {xs : List Int} {n : Nat} (h : n < xs.length) : xs.drop n = rd xs (n : Int) :: xs.drop (n + 1) := by
  rw [rd_nat, List.drop_eq_getElem_cons h]; simp [List.getD_eq_getElem?_getD, h]
theorem drop_rd_L1 {xs : List (List Int)} {n : Nat} (h : n < xs.length) : xs.drop n = rd_L1 xs (n : Int) :: xs.drop (n + 1) := by
  rw [List.drop_eq_getElem_cons h]; simp [rd_L1, List.getD_eq_getElem?_getD, h]
theorem bits32 (op : BinOp) (x y : Int) : 0 ≤ Go.bits op .u32 x y ∧ Go.bits op .u32 x y < 4294967296 := by
  unfold Go.bits; rw [IntKind.wrap_u32]; omega
/-! CRC -/
def cst (c : Int) : Int := if Go.bits .and .u32 c 1 = 1 then Go.bits .xor .u32 (c / 2) 3988292384 else c / 2
theorem and1 {c : Int} (h0 : 0 ≤ c) (h1 : c < 4294967296) : Go.bits .and .u32 c 1 = c % 2 := by
  have := bits_mask .u32 32 (by decide) (fun n h₀ h₁ => by rw [IntKind.wrap_u32]; omega) 1 (by decide) c h0 (by omega)
  simpa using this
theorem xor0 {c : Int} (h0 : 0 ≤ c) (h1 : c < 4294967296) : Go.bits .xor .u32 c 0 = c := by
  obtain ⟨a, rfl⟩ := Int.eq_ofNat_of_zero_le h0
  have ha : a < 2 ^ 32 := by omega
  have e : (BitVec.ofInt IntKind.u32.bits (a : Int) ^^^ BitVec.ofInt IntKind.u32.bits 0).toNat = a := by
    rw [BitVec.ofInt_natCast, BitVec.toNat_xor, BitVec.toNat_ofNat]
    have : a % 2 ^ IntKind.u32.bits = a := Nat.mod_eq_of_lt ha
    rw [this]
    simp
  unfold Go.bits
  simp only [e]
  rw [IntKind.wrap_u32]
  omega
theorem cst_eq {c : Int} (h0 : 0 ≤ c) (h1 : c < 4294967296) : Go.bits .xor .u32 (c / 2) (Go.bits .and .u32 3988292384 ((-(Go.bits .and .u32 c 1)) % 4294967296)) = cst c := by
  unfold cst
  rw [and1 h0 h1]
  rcases (by omega : c % 2 = 0 ∨ c % 2 = 1) with h | h
  · rw [h, if_neg (by decide)]
    rw [show Go.bits .and .u32 3988292384 ((-(0 : Int)) % 4294967296) = 0 by decide]
    exact xor0 (by omega) (by omega)
  · rw [h, if_pos rfl]
    rw [show Go.bits .and .u32 3988292384 ((-(1 : Int)) % 4294967296) = 3988292384 by decide]
theorem cst_range {c : Int} (h0 : 0 ≤ c) (h1 : c < 4294967296) : 0 ≤ cst c ∧ cst c < 4294967296 := by
  unfold cst
  split
  · exact bits32 _ _ _
  · omega
def itr : Nat → Int → Int
  | 0, c => c
  | n + 1, c => itr n (cst c)
theorem itr_range : ∀ (n : Nat) {c : Int}, 0 ≤ c → c < 4294967296 → 0 ≤ itr n c ∧ itr n c < 4294967296
  | 0, _, h0, h1 => ⟨h0, h1⟩
  | n + 1, _, h0, h1 => itr_range n (cst_range h0 h1).1 (cst_range h0 h1).2
def upd (c x : Int) : Int := itr 8 (Go.bits .xor .u32 c (x % 4294967296))
theorem upd_range (c x : Int) : 0 ≤ upd c x ∧ upd c x < 4294967296 := itr_range 8 (bits32 _ _ _).1 (bits32 _ _ _).2
def crcL (c : Int) (l : List Int) : Int := l.foldl upd c
theorem crcL_cons (c x : Int) (l : List Int) : crcL c (x :: l) = crcL (upd c x) l := rfl
theorem crcL_append (c : Int) (l m : List Int) : crcL c (l ++ m) = crcL (crcL c l) m := List.foldl_append
def crc (l : List Int) : Int := Go.bits .xor .u32 4294967295 (crcL 4294967295 l)
theorem crc_l2 (x8 : List (List Int)) (x9 x10 : Int) (x14 : List Int) (x15 x16 : Int) (r : Int) : ∀ (d : Nat) (c i : Int), 0 ≤ c → c < 4294967296 → 0 ≤ i → i + d = 8 → 
    Ev (fun k => frame_CRC.l1 k (itr d c) x8 x9 x10 x14 x15 (wrap64 (x16 + 1))) r → Ev (fun k => frame_CRC.l2 k c x8 x9 x10 x14 x15 x16 i) r
  | 0, c, i, h0, h1, h2, hi, h => Ev.step (f := fun k => frame_CRC.l1 k c x8 x9 x10 x14 x15 (wrap64 (x16 + 1))) (fun k => by rw [frame_CRC.l2, if_neg (by omega)]) h
  | d + 1, c, i, h0, h1, h2, hi, h => Ev.step (fun k => by rw [frame_CRC.l2, if_pos (by omega), cst_eq h0 h1, w64 (by omega) (by omega)])
      (crc_l2 x8 x9 x10 x14 x15 x16 r d (cst c) (i + 1) (cst_range h0 h1).1 (cst_range h0 h1).2 (by omega) (by omega) h)
theorem crc_l1 (x8 : List (List Int)) (x9 x10 : Int) (x14 : List Int) (hl : x14.length < 4611686018427387904) (r : Int) : ∀ (d n : Nat) (c : Int), n + d = x14.length → 
    Ev (fun k => frame_CRC.l0 k (crcL c (x14.drop n)) x8 x9 (wrap64 (x10 + 1))) r → Ev (fun k => frame_CRC.l1 k c x8 x9 x10 x14 (x14.length : Int) (n : Int)) r
  | 0, n, c, hn, h => Ev.step (fun k => by rw [frame_CRC.l1, if_neg (by omega)]) (by rwa [List.drop_eq_nil_of_le (by omega)] at h)
  | d + 1, n, c, hn, h => Ev.step (fun k => by rw [frame_CRC.l1, if_pos (by omega), if_pos (by omega), if_pos (by omega)])
      (crc_l2 x8 x9 x10 x14 _ _ r 8 _ 0 (bits32 _ _ _).1 (bits32 _ _ _).2 (by omega) rfl (by
        rw [w64 (by omega) (by omega), show (n : Int) + 1 = ((n + 1 : Nat) : Int) by omega]
        refine crc_l1 x8 x9 x10 x14 hl r d (n + 1) _ (by omega) ?_
        rw [drop_rd (by omega), crcL_cons] at h
        exact h))
theorem crc_l0 (x8 : List (List Int)) (hl : x8.length < 4611686018427387904) (hi : ∀ l ∈ x8, l.length < 4611686018427387904) : ∀ (d n : Nat) (c : Int), n + d = x8.length →
    Ev (fun k => frame_CRC.l0 k c x8 (x8.length : Int) (n : Int)) (Go.bits .xor .u32 4294967295 (crcL c (x8.drop n).flatten))
  | 0, n, c, hn => Ev.step (fun k => by rw [frame_CRC.l0, if_neg (by omega)]) (by rw [List.drop_eq_nil_of_le (by omega)]; exact Ev.now _)
  | d + 1, n, c, hn => Ev.step (fun k => by rw [frame_CRC.l0, if_pos (by omega), if_pos (by omega), if_pos (by omega)]) (by
      have hd : x8.drop n = rd_L1 x8 n :: x8.drop (n + 1) := drop_rd_L1 (by omega)
      have hm : rd_L1 x8 n ∈ x8 := List.mem_of_mem_drop (i := n) (by rw [hd]; exact List.mem_cons_self)
      refine crc_l1 x8 _ n (rd_L1 x8 n) (hi _ hm) _ (rd_L1 x8 n).length 0 c (by omega) ?_
      rw [w64 (by omega) (by omega), show (n : Int) + 1 = ((n + 1 : Nat) : Int) by omega, hd, List.flatten_cons, crcL_append, List.drop_zero]
      exact crc_l0 x8 hl hi d (n + 1) _ (by omega))
theorem crc_f (l : List (List Int)) (hl : l.length < 4611686018427387904) (hi : ∀ x ∈ l, x.length < 4611686018427387904) : Ev (fun k => frame_CRC.f k l) (crc l.flatten) :=
  crc_l0 l hl hi l.length 0 4294967295 (by omega)
/-! the reference's -/
theorem rcrc_l1 (x0 : List Int) (x4 : Int) (r : Int) : ∀ (d : Nat) (c i : Int), 0 ≤ i → i + d = 8 →
    Ev (fun k => parapetref1_CRC.l0 k x0 (itr d c) (wrap64 (x4 + 1))) r → Ev (fun k => parapetref1_CRC.l1 k x0 c x4 i) r
  | 0, c, i, h2, hi, h => Ev.step (f := fun k => parapetref1_CRC.l0 k x0 c (wrap64 (x4 + 1))) (fun k => by rw [parapetref1_CRC.l1, if_neg (by omega)]) h
  | d + 1, c, i, h2, hi, h => Ev.step (f := fun k => parapetref1_CRC.l1 k x0 (cst c) x4 (i + 1)) (fun k => by
      rw [parapetref1_CRC.l1, if_pos (by omega), w64 (by omega) (by omega)]; unfold cst; split <;> rfl) (rcrc_l1 x0 x4 r d (cst c) (i + 1) (by omega) (by omega) h)
theorem rcrc_l0 (x0 : List Int) (hl : x0.length < 4611686018427387904) : ∀ (d n : Nat) (c : Int), n + d = x0.length →
    Ev (fun k => parapetref1_CRC.l0 k x0 c (n : Int)) (Go.bits .xor .u32 4294967295 (crcL c (x0.drop n)))
  | 0, n, c, hn => Ev.step (fun k => by rw [parapetref1_CRC.l0, if_neg (by omega)]) (by rw [List.drop_eq_nil_of_le (by omega)]; exact Ev.now _)
  | d + 1, n, c, hn => Ev.step (fun k => by rw [parapetref1_CRC.l0, if_pos (by omega), if_pos (by omega)]) (by
      refine rcrc_l1 x0 n _ 8 _ 0 (by omega) rfl ?_
      rw [w64 (by omega) (by omega), show (n : Int) + 1 = ((n + 1 : Nat) : Int) by omega, drop_rd (by omega), crcL_cons]
      exact rcrc_l0 x0 hl d (n + 1) _ (by omega))
theorem rcrc_f (l : List Int) (hl : l.length < 4611686018427387904) : Ev (fun k => parapetref1_CRC.f k l) (crc l) := rcrc_l0 l hl l.length 0 4294967295 (by omega)
example : crc [49, 50, 51, 52, 53, 54, 55, 56, 57] = 3421780262 := by decide +kernel
def Bytes (l : List Int) : Prop := ∀ x ∈ l, 0 ≤ x ∧ x < 256
theorem Bytes.rd {l : List Int} (h : Bytes l) (i : Int) : 0 ≤ rd l i ∧ rd l i < 256 := by
  unfold Go.Proofs.YtgbhkcpplcgmiaaW.PrintWords.rd
  rw [List.getD_eq_getElem?_getD]
  rcases Nat.lt_or_ge i.toNat l.length with hl | hl
  · rw [List.getElem?_eq_getElem hl]; exact h _ (List.getElem_mem hl)
  · rw [List.getElem?_eq_none hl]; exact ⟨by simp, by simp⟩
theorem Bytes.drop {l : List Int} (h : Bytes l) (n : Nat) : Bytes (l.drop n) := fun x hx => h x (List.mem_of_mem_drop hx)
theorem Bytes.take {l : List Int} (h : Bytes l) (n : Nat) : Bytes (l.take n) := fun x hx => h x (List.mem_of_mem_take hx)
theorem Bytes.append {l m : List Int} (h : Bytes l) (h' : Bytes m) : Bytes (l ++ m) := fun x hx => (List.mem_append.1 hx).elim (h x) (h' x)
def lay4 (v : Int) : List Int := [v / 16777216 % 256, v / 65536 % 256, v / 256 % 256, v % 256]
theorem lay4_bytes (v : Int) : Bytes (lay4 v) := by
  intro x hx
  simp only [lay4, List.mem_cons, List.not_mem_nil, or_false] at hx
  rcases hx with rfl | rfl | rfl | rfl <;> omega
theorem lay4_length (v : Int) : (lay4 v).length = 4 := rfl
def be4 (l : List Int) : Int := rd l 0 * 16777216 + rd l 1 * 65536 + rd l 2 * 256 + rd l 3
theorem be4_range {l : List Int} (h : Bytes l) : 0 ≤ be4 l ∧ be4 l < 4294967296 := by
  have := h.rd 0; have := h.rd 1; have := h.rd 2; have := h.rd 3
  unfold be4; omega
theorem be4_lay4 (v : Int) (m : List Int) (h0 : 0 ≤ v) (h1 : v < 4294967296) : be4 (lay4 v ++ m) = v := by
  show v / 16777216 % 256 * 16777216 + v / 65536 % 256 * 65536 + v / 256 % 256 * 256 + v % 256 = v
  omega
theorem or32 (i : Nat) {x y : Int} (hx0 : 0 ≤ x) (hx : x % 2 ^ i = 0) (hx1 : x < 4294967296) (hy0 : 0 ≤ y) (hy : y < 2 ^ i) (hy1 : y < 4294967296) : Go.bits .or .u32 x y = x + y :=
  bits_join .u32 32 (by decide) (fun n h₀ h₁ => by rw [IntKind.wrap_u32]; omega) i x y hx0 hx (by omega) hy0 hy (by omega)
theorem or64 (i : Nat) {x y : Int} (hx0 : 0 ≤ x) (hx : x % 2 ^ i = 0) (hx1 : x < 18446744073709551616) (hy0 : 0 ≤ y) (hy : y < 2 ^ i) (hy1 : y < 18446744073709551616) : Go.bits .or .u64 x y = x + y :=
  bits_join .u64 64 (by decide) (fun n h₀ h₁ => by simp [IntKind.wrap, IntKind.bits, IntKind.signed]; omega) i x y hx0 hx (by omega) hy0 hy (by omega)
theorem wu64 {x : Int} (h0 : 0 ≤ x) (h1 : x < 18446744073709551616) : IntKind.u64.wrap x = x := by simp [IntKind.wrap, IntKind.bits, IntKind.signed]; omega
theorem laid_f (v : Int) : frame_laid.f v = some (lay4 v) := rfl
theorem get_f {l : List Int} (h : Bytes l) (hl : 4 ≤ l.length) : frame_get.f l = some (be4 l) := by
  unfold frame_get.f
  rw [if_pos (by omega), if_pos (by omega), if_pos (by omega), if_pos (by omega)]
  have h0 := h.rd 0; have h1 := h.rd 1; have h2 := h.rd 2; have h3 := h.rd 3
  congr 1
  have m0 : rd l 0 % 4294967296 * 16777216 % 4294967296 = rd l 0 * 16777216 := by omega
  have m1 : rd l 1 % 4294967296 * 65536 % 4294967296 = rd l 1 * 65536 := by omega
  have m2 : rd l 2 % 4294967296 * 256 % 4294967296 = rd l 2 * 256 := by omega
  have m3 : rd l 3 % 4294967296 = rd l 3 := by omega
  rw [m0, m1, m2, m3, or32 24 (x := rd l 0 * 16777216) (by omega) (by omega) (by omega) (by omega) (by omega) (by omega),
    or32 16 (x := rd l 0 * 16777216 + rd l 1 * 65536) (by omega) (by omega) (by omega) (by omega) (by omega) (by omega),
    or32 8 (x := rd l 0 * 16777216 + rd l 1 * 65536 + rd l 2 * 256) (by omega) (by omega) (by omega) (by omega) (by omega) (by omega)]
  rfl
theorem rget_f {l : List Int} (h : Bytes l) (hl : 4 ≤ l.length) : Ev (fun k => parapetref1_Get.f k l 4) (be4 l) := by
  have h0 := h.rd 0; have h1 := h.rd 1; have h2 := h.rd 2; have h3 := h.rd 3
  have st : ∀ (x i j : Int) (r : Int), 0 ≤ x → x < 72057594037927936 → 0 ≤ i → i < 4 → j = i + 1 → Ev (fun k => parapetref1_Get.l0 k l 4 (x * 256 + rd l i) j) r → Ev (fun k => parapetref1_Get.l0 k l 4 x i) r := by
    intro x i j r hx0 hx1 hi0 hi1 hj hr
    have := h.rd i
    subst hj
    exact Ev.step (fun k => by rw [parapetref1_Get.l0, if_pos hi1, if_pos hi0, if_pos (by omega), w64 (by omega) (by omega), wu64 (x := x * 256) (by omega) (by omega), wu64 (by omega) (by omega), or64 8 (by omega) (by omega) (by omega) (by omega) (by omega) (by omega)]) hr
  have e : be4 l = (((0 * 256 + rd l 0) * 256 + rd l 1) * 256 + rd l 2) * 256 + rd l 3 := by unfold be4; omega
  refine st 0 0 1 _ (by omega) (by omega) (by omega) (by omega) rfl ?_
  refine st _ 1 2 _ (by omega) (by omega) (by omega) (by omega) rfl ?_
  refine st _ 2 3 _ (by omega) (by omega) (by omega) (by omega) rfl ?_
  refine st _ 3 4 _ (by omega) (by omega) (by omega) (by omega) rfl ?_
  rw [e]
  exact Ev.step (fun k => by rw [parapetref1_Get.l0, if_neg (by decide)]) (Ev.now _)
theorem shr64 (v : Int) (n : Nat) (hn : n ≤ 64) : shr .u64 v (n : Int) = v / 2 ^ n := by
  unfold shr; rw [Int.toNat_natCast, Nat.min_eq_left (by simpa [IntKind.bits] using hn)]
theorem rlay_f (l : List Int) (hl : l.length < 1000000) (v : Int) : Ev (fun k => parapetref1_Lay.f k l 4 v) (l ++ lay4 v) := by
  have st : ∀ (x : List Int) (i : Nat) (r : List Int), x.length < 1000010 → i < 4 → Ev (fun k => parapetref1_Lay.l0 k (x ++ [v / 2 ^ (8 * i) % 256]) v ((i : Int) - 1)) r → Ev (fun k => parapetref1_Lay.l0 k x v (i : Int)) r := by
    intro x i r hx hi hr
    exact Ev.step (fun k => by rw [parapetref1_Lay.l0, if_pos (by omega), w64 (x := 8 * (i : Int)) (by omega) (by omega), if_pos (by omega), if_pos (by omega), w64 (by omega) (by omega), show (8 * (i : Int)) = ((8 * i : Nat) : Int) by omega, shr64 _ _ (by omega)]) hr
  unfold parapetref1_Lay.f
  rw [show wrap64 (4 - 1) = ((3 : Nat) : Int) from w64 (by decide) (by decide)]
  refine st l 3 _ (by omega) (by omega) ?_
  refine st _ 2 _ (by simp; omega) (by omega) ?_
  refine st _ 1 _ (by simp; omega) (by omega) ?_
  refine st _ 0 _ (by simp; omega) (by omega) ?_
  refine Ev.step (f := fun k => some (l ++ lay4 v)) (fun k => ?_) (Ev.now _)
  rw [parapetref1_Lay.l0, if_neg (by decide)]
  simp [lay4]
/-! one frame -/
def nextS (l : List Int) : List Int × Int × Int :=
  if l.length < 4 then ([], 0, 2) else if be4 l > 131072 then ([], 0, 3) else if (l.length : Int) < 8 + be4 l then ([], 0, 2)
  else if crc (l.take 4 ++ (l.take (8 + be4 l).toNat).drop 8) = be4 (l.drop 4) then ((l.take (8 + be4 l).toNat).drop 8, 8 + be4 l, 1) else ([], 0, 3)
def putS (l : List Int) : List Int × Bool := if l.length > 131072 then ([], false) else (lay4 l.length ++ lay4 (crc (lay4 l.length ++ l)) ++ l, true)
theorem crc_range (l : List Int) : 0 ≤ crc l ∧ crc l < 4294967296 := bits32 _ _ _
theorem next_f {l : List Int} (h : Bytes l) : Ev (fun k => frame_Next.f k l) (nextS l) := by
  unfold frame_Next.f nextS
  have hr := be4_range h
  by_cases h4 : l.length < 4
  · rw [if_pos h4]; simp only [if_pos (show (l.length : Int) < 4 by omega)]; exact Ev.now _
  rw [if_neg h4]; simp only [if_neg (show ¬ (l.length : Int) < 4 by omega), get_f h (by omega), Option.bind_some]
  by_cases hb : be4 l > 131072
  · simp only [if_pos hb]; exact Ev.now _
  simp only [if_neg hb]
  have e1 : wrap64 (be4 l) = be4 l := w64 (by omega) (by omega)
  have e2 : wrap64 (8 + be4 l) = 8 + be4 l := w64 (by omega) (by omega)
  simp only [e1, e2]
  by_cases ht : (l.length : Int) < 8 + be4 l
  · simp only [if_pos ht]; exact Ev.now _
  simp only [if_neg ht, if_pos (show 4 ≤ (l.length : Int) by omega), if_pos (show 8 ≤ 8 + be4 l by omega), if_pos (show 8 + be4 l ≤ (l.length : Int) by omega)]
  have hlen : ((l.take (8 + be4 l).toNat).drop 8).length ≤ 131072 := by simp; omega
  refine Ev.bind (crc_f _ (by simp) (by
    intro x hx
    simp only [List.mem_cons, List.not_mem_nil, or_false] at hx
    rcases hx with rfl | rfl
    · simp; omega
    · omega)) ?_
  simp only [List.flatten_cons, List.flatten_nil, List.append_nil, get_f (h.drop 4) (show 4 ≤ (l.drop 4).length by simp; omega), Option.bind_some]
  by_cases hc : crc (l.take 4 ++ (l.take (8 + be4 l).toNat).drop 8) = be4 (l.drop 4)
  · simp only [if_pos hc, slices_Clone_byte_byte.f, if_pos (show ((l.take (8 + be4 l).toNat).drop 8).length < 140737488355328 by omega), Option.bind_some]; exact Ev.now _
  · simp only [if_neg hc]; exact Ev.now _
theorem rnext_f {l : List Int} (h : Bytes l) (hl : l.length < 4611686018427387904) : Ev (fun k => parapetref1_Next.f k l) (nextS l) := by
  unfold parapetref1_Next.f nextS
  have hr := be4_range h
  by_cases h4 : l.length < 4
  · rw [if_pos h4]; simp only [if_pos (show (l.length : Int) < 4 by omega)]; exact Ev.now _
  rw [if_neg h4]; simp only [if_neg (show ¬ (l.length : Int) < 4 by omega)]
  refine Ev.bind (rget_f h (by omega)) ?_
  by_cases hb : be4 l > 131072
  · simp only [if_pos hb]; exact Ev.now _
  simp only [if_neg hb]
  have e1 : wrap64 (be4 l) = be4 l := w64 (by omega) (by omega)
  have e2 : wrap64 (8 + be4 l) = 8 + be4 l := w64 (by omega) (by omega)
  have e3 : IntKind.u64.wrap (8 + be4 l) = 8 + be4 l := wu64 (by omega) (by omega)
  have e4 : wrap64 ((l.length : Int) - 8) = (l.length : Int) - 8 := w64 (by omega) (by omega)
  have torn : Ev (fun k => parapetref1_Next.j0 k l (be4 l) true) ([], 0, 2) := Ev.step (fun k => by rw [parapetref1_Next.j0, if_pos rfl]) (Ev.now _)
  by_cases ht : (l.length : Int) < 8 + be4 l
  · rw [if_pos ht]
    by_cases h8 : (l.length : Int) < 8
    · simp only [if_pos h8]; exact torn
    · simp only [if_neg h8, e1, e4, show decide (be4 l > (l.length : Int) - 8) = true from decide_eq_true (by omega)]; exact torn
  rw [if_neg ht]
  simp only [if_neg (show ¬ (l.length : Int) < 8 by omega), e1, e4, show decide (be4 l > (l.length : Int) - 8) = false from decide_eq_false (by omega)]
  have hlen : ((l.take (8 + be4 l).toNat).drop 8).length ≤ 131072 := by simp; omega
  have hl4 : (l.take 4).length = 4 := by simp; omega
  refine Ev.step (fun k => by rw [parapetref1_Next.j0, if_neg (by decide)]) ?_
  simp only [e1, e2, e3, Option.bind_some, List.nil_append, List.length_nil, Nat.zero_add]
  simp only [if_pos (show 8 ≤ 8 + be4 l by omega), if_pos (show 8 + be4 l ≤ (l.length : Int) by omega), if_pos (show ((l.take (8 + be4 l).toNat).drop 8).length < 140737488355328 by omega), if_pos (show 4 ≤ (l.length : Int) by omega), if_pos (show (l.take 4).length < 140737488355328 by omega), if_pos (show (l.take 4).length + ((l.take (8 + be4 l).toNat).drop 8).length < 140737488355328 by omega)]
  refine Ev.bind (rcrc_f _ (by rw [List.length_append]; omega)) ?_
  refine Ev.bind (rget_f (h.drop 4) (by simp; omega)) ?_
  rw [wu64 (crc_range _).1 (by have := (crc_range (l.take 4 ++ (l.take (8 + be4 l).toNat).drop 8)).2; omega)]
  by_cases hc : crc (l.take 4 ++ (l.take (8 + be4 l).toNat).drop 8) = be4 (l.drop 4)
  · simp only [if_pos hc]; exact Ev.now _
  · simp only [if_neg hc]; exact Ev.now _
theorem concat_l1 (x25 : List (List Int)) (hc : x25.length < 4611686018427387904) : ∀ (d n : Nat) (x6 : List Int), n + d = x25.length → x6.length + (x25.drop n).flatten.length < 140737488355328 →
    Ev (fun k => slices_Concat_byte_byte.l1 k x6 x25 (x25.length : Int) (n : Int)) (x6 ++ (x25.drop n).flatten)
  | 0, n, x6, hn, hl => Ev.step (fun k => by rw [slices_Concat_byte_byte.l1, if_neg (by omega)]) (by rw [List.drop_eq_nil_of_le (by omega), List.flatten_nil, List.append_nil]; exact Ev.now _)
  | d + 1, n, x6, hn, hl => by
    have hd : x25.drop n = rd_L1 x25 n :: x25.drop (n + 1) := drop_rd_L1 (by omega)
    rw [hd, List.flatten_cons, List.length_append] at hl
    refine Ev.step (fun k => by rw [slices_Concat_byte_byte.l1, if_pos (by omega), if_pos (by omega), if_pos (by omega), if_pos (by omega), w64 (by omega) (by omega), show (n : Int) + 1 = ((n + 1 : Nat) : Int) by omega]) ?_
    rw [hd, List.flatten_cons, ← List.append_assoc]
    exact concat_l1 x25 hc d (n + 1) _ (by omega) (by rw [List.length_append]; omega)
theorem concat_l0 (x9 : List (List Int)) (hc : x9.length < 4611686018427387904) (hl : x9.flatten.length < 140737488355328) : ∀ (d n m : Nat), n + d = x9.length → m + (x9.drop n).flatten.length = x9.flatten.length →
    Ev (fun k => slices_Concat_byte_byte.l0 k x9 (m : Int) x9 (x9.length : Int) (n : Int)) x9.flatten
  | 0, n, m, hn, hm => by
    rw [List.drop_eq_nil_of_le (by omega), List.flatten_nil, List.length_nil] at hm
    refine Ev.step (fun k => by rw [slices_Concat_byte_byte.l0, if_neg (by omega), slices_Grow_byte_byte.f, if_pos (by omega), if_pos (by omega), if_pos (by simp), Option.bind_some]) ?_
    have := concat_l1 x9 hc x9.length 0 [] (by omega) (by simpa using hl)
    simpa using this
  | d + 1, n, m, hn, hm => by
    have hd : x9.drop n = rd_L1 x9 n :: x9.drop (n + 1) := drop_rd_L1 (by omega)
    rw [hd, List.flatten_cons, List.length_append] at hm
    refine Ev.step (fun k => by rw [slices_Concat_byte_byte.l0, if_pos (by omega), if_pos (by omega), if_pos (by omega), w64 (x := (m : Int) + ((rd_L1 x9 n).length : Int)) (by omega) (by omega), if_neg (by omega), w64 (by omega) (by omega), show (n : Int) + 1 = ((n + 1 : Nat) : Int) by omega, show (m : Int) + ((rd_L1 x9 n).length : Int) = ((m + (rd_L1 x9 n).length : Nat) : Int) by omega]) ?_
    exact concat_l0 x9 hc hl d (n + 1) _ (by omega) (by omega)
theorem concat_f (ls : List (List Int)) (hc : ls.length < 4611686018427387904) (hl : ls.flatten.length < 140737488355328) : Ev (fun k => slices_Concat_byte_byte.f k ls) ls.flatten := by
  have := concat_l0 ls hc hl ls.length 0 0 (by omega) (by simp)
  exact this
theorem put_f {ls : List (List Int)} (hc : ls.length < 4611686018427387904) (hl : ls.flatten.length < 140737488355328) : Ev (fun k => frame_Put.f k ls) (putS ls.flatten) := by
  unfold frame_Put.f putS
  refine Ev.bind (concat_f ls hc hl) ?_
  by_cases h : ls.flatten.length > 131072
  · simp only [if_pos h, if_pos (show (ls.flatten.length : Int) > 131072 by omega)]; exact Ev.now _
  simp only [if_neg h, if_neg (show ¬ (ls.flatten.length : Int) > 131072 by omega), laid_f, Option.bind_some, show (ls.flatten.length : Int) % 4294967296 = ls.flatten.length by omega]
  refine Ev.bind (crc_f _ (by simp) (by
    intro x hx
    simp only [List.mem_cons, List.not_mem_nil, or_false] at hx
    rcases hx with rfl | rfl
    · rw [lay4_length]; omega
    · omega)) ?_
  simp only [List.flatten_cons, List.flatten_nil, List.append_nil]
  refine Ev.bind (concat_f _ (by simp) (by simp only [List.flatten_cons, List.flatten_nil, List.append_nil, List.length_append, lay4_length]; omega)) ?_
  simp only [List.flatten_cons, List.flatten_nil, List.append_nil, List.append_assoc]
  exact Ev.now _
theorem rput_f {l : List Int} (hl : l.length < 4611686018427387904) : Ev (fun k => parapetref1_Put.f k l) (putS l) := by
  unfold parapetref1_Put.f putS
  by_cases h : l.length > 131072
  · simp only [if_pos h, if_pos (show (l.length : Int) > 131072 by omega)]; exact Ev.now _
  simp only [if_neg h, if_neg (show ¬ (l.length : Int) > 131072 by omega), wu64 (x := (l.length : Int)) (by omega) (by omega)]
  refine Ev.bind (rlay_f [] (by simp) _) ?_
  refine Ev.congr (fun k => by rw [Option.bind_some, if_pos (by simp [lay4_length]), if_pos (by simp [lay4_length]; omega)]) ?_
  simp only [List.nil_append]
  refine Ev.bind (rcrc_f _ (by rw [List.length_append, lay4_length]; omega)) ?_
  rw [wu64 (crc_range _).1 (by have := (crc_range (lay4 l.length ++ l)).2; omega)]
  refine Ev.bind (rlay_f _ (by rw [lay4_length]; omega) _) ?_
  refine Ev.congr (fun k => by rw [if_pos (by simp [lay4_length]; omega)]) ?_
  exact Ev.now _
theorem alike_l0 (a : List Int) (ha : a.length < 4611686018427387904) : ∀ (d n : Nat), n + d = a.length → Ev (fun k => parapetalike_Bytes.l0 k a a (n : Int)) true
  | 0, n, hn => Ev.step (fun k => by rw [parapetalike_Bytes.l0, if_neg (by omega)]) (Ev.now _)
  | d + 1, n, hn => Ev.step (fun k => by rw [parapetalike_Bytes.l0, if_pos (by omega), if_pos (by omega), if_pos (by omega), if_pos rfl, w64 (by omega) (by omega), show (n : Int) + 1 = ((n + 1 : Nat) : Int) by omega]) (alike_l0 a ha d (n + 1) (by omega))
theorem alike_f (a : List Int) (ha : a.length < 4611686018427387904) : Ev (fun k => parapetalike_Bytes.f k a a) true := by
  unfold parapetalike_Bytes.f; simp only [if_true]; exact alike_l0 a ha a.length 0 (by omega)
theorem awake_f : Ev (fun k => parapetlaw3_awake.f k) true := by
  unfold parapetlaw3_awake.f
  refine Ev.bind (put_f (by decide) (by decide)) ?_
  refine Ev.bind (next_f (fun x hx => by simp at hx; omega)) ?_
  refine Ev.bind (next_f (fun x hx => by simp at hx; omega)) ?_
  have e1 : putS ([([97] : List Int)] : List (List Int)).flatten = (lay4 1 ++ lay4 (crc (lay4 1 ++ [97])) ++ [97], true) := rfl
  rw [e1, show nextS [0, 0] = ([], 0, 2) from rfl, show nextS [255, 0, 0, 0] = ([], 0, 3) by decide +kernel]
  refine Ev.bind (crc_f [[49, 50, 51, 52, 53, 54, 55, 56, 57]] (by decide) (by decide)) ?_
  rw [show crc ([([49, 50, 51, 52, 53, 54, 55, 56, 57] : List Int)] : List (List Int)).flatten = 3421780262 by decide +kernel]
  exact Ev.congr (fun k => by rw [if_pos ⟨rfl, rfl, rfl, rfl, rfl, rfl⟩]) (Ev.now _)
theorem bytes_wf {l : List Int} (h : ∀ x ∈ l, (Lit.int .u8 x).wf = true) : Bytes l := by
  intro x hx
  have := h x hx
  simp [Lit.wf, IntKind.min, IntKind.max, IntKind.signed, IntKind.bits] at this
  omega
theorem awake_then : Ev (fun k => (parapetlaw3_awake.f k).bind fun t => some t) true := Ev.bind awake_f (Ev.now _)
theorem nextS_len (l : List Int) : (nextS l).1.length ≤ l.length := by
  unfold nextS
  repeat' split
  all_goals simp
  omega
theorem FrameNexts : parapetlaw3_FrameNexts.Pure := by
  intro l hm hs hw
  refine Ev.rounds (g := fun k => parapetlaw3_FrameNexts.f k l) ?_
  have hb := bytes_wf hw
  unfold parapetlaw3_FrameNexts.f
  by_cases h : (l.length : Int) > 4000
  · simp only [if_pos h]; exact awake_then
  simp only [if_neg h]
  refine Ev.bind (next_f hb) (Ev.bind (rnext_f hb (by omega)) (Ev.bind (alike_f _ (by have := nextS_len l; omega)) ?_))
  simp only [if_true]
  exact awake_then
/-! frames, one behind the other -/
def fr (x : List Int) : List Int := lay4 x.length ++ lay4 (crc (lay4 x.length ++ x)) ++ x
theorem fr_length (x : List Int) : (fr x).length = 8 + x.length := by simp [fr, lay4_length]; omega
theorem putS_fr {x : List Int} (h : x.length ≤ 131072) : putS x = (fr x, true) := by unfold putS; rw [if_neg (by omega)]; rfl
theorem be4_take4 {l m : List Int} (h : l.length = 4) : be4 (l ++ m) = be4 l := by
  match l, h with
  | [a, b, c, d], _ => rfl
theorem rd_take (l : List Int) (n : Nat) (i : Nat) (h : i < n) : rd (l.take n) (i : Int) = rd l i := by
  simp [rd, List.getD_eq_getElem?_getD, h]
theorem be4_take (l : List Int) (n : Nat) (h : 4 ≤ n) : be4 (l.take n) = be4 l := by
  unfold be4
  rw [show (0 : Int) = ((0 : Nat) : Int) from rfl, show (1 : Int) = ((1 : Nat) : Int) from rfl, show (2 : Int) = ((2 : Nat) : Int) from rfl, show (3 : Int) = ((3 : Nat) : Int) from rfl,
    rd_take l n 0 (by omega), rd_take l n 1 (by omega), rd_take l n 2 (by omega), rd_take l n 3 (by omega)]
theorem fr_be4 {x : List Int} (rest : List Int) (h : x.length ≤ 131072) : be4 (fr x ++ rest) = x.length := by
  unfold fr
  rw [List.append_assoc, List.append_assoc]
  exact be4_lay4 _ _ (by omega) (by omega)
theorem nextS_fr {x : List Int} (rest : List Int) (h : x.length ≤ 131072) : nextS (fr x ++ rest) = (x, 8 + (x.length : Int), 1) := by
  have hl : (fr x ++ rest).length = 8 + x.length + rest.length := by rw [List.length_append, fr_length]
  have e1 : (8 + (x.length : Int)).toNat = (fr x).length := by rw [fr_length]; omega
  have e2 : (fr x ++ rest).take (8 + (x.length : Int)).toNat = fr x := by rw [e1, List.take_left]
  have e3 : (fr x).drop 8 = x := by
    rw [show fr x = (lay4 x.length ++ lay4 (crc (lay4 x.length ++ x))) ++ x from rfl, show (8 : Nat) = (lay4 x.length ++ lay4 (crc (lay4 x.length ++ x))).length from rfl, List.drop_left]
  have e4 : (fr x ++ rest).take 4 = lay4 x.length := by
    rw [show fr x ++ rest = lay4 x.length ++ (lay4 (crc (lay4 x.length ++ x)) ++ x ++ rest) by simp [fr], show (4 : Nat) = (lay4 (x.length : Int)).length from rfl, List.take_left]
  have e5 : be4 ((fr x ++ rest).drop 4) = crc (lay4 x.length ++ x) := by
    rw [show fr x ++ rest = lay4 x.length ++ (lay4 (crc (lay4 x.length ++ x)) ++ (x ++ rest)) by simp [fr], show (4 : Nat) = (lay4 (x.length : Int)).length from rfl, List.drop_left]
    exact be4_lay4 _ _ (crc_range _).1 (crc_range _).2
  unfold nextS
  rw [fr_be4 rest h, hl, if_neg (by omega), if_neg (by omega), if_neg (by omega), e2, e3, e4, e5, if_pos rfl]
theorem nextS_torn {x : List Int} (rest : List Int) (h : x.length ≤ 131072) {c : Nat} (hc : c < 8 + x.length) : nextS ((fr x ++ rest).take c) = ([], 0, 2) := by
  have hl : ((fr x ++ rest).take c).length = c := by rw [List.length_take, List.length_append, fr_length]; omega
  unfold nextS
  by_cases h4 : c < 4
  · rw [hl, if_pos h4]
  · rw [hl, if_neg h4, be4_take _ _ (by omega), fr_be4 rest h, if_neg (by omega), if_pos (by omega)]
theorem lay4_crc_bytes {x : List Int} (h : Bytes x) : Bytes (fr x) := ((lay4_bytes _).append (lay4_bytes _)).append h
theorem FrameLimit : parapetlaw3_FrameLimit.Pure := by
  intro n hn
  refine Ev.rounds (g := fun k => parapetlaw3_FrameLimit.f k n) ?_
  unfold parapetlaw3_FrameLimit.f
  have out : Ev (fun k => parapetlaw3_FrameLimit.j0 k n true) true := Ev.step (fun k => by rw [parapetlaw3_FrameLimit.j0, if_pos rfl]) awake_then
  by_cases h0 : n < 0
  · simp only [if_pos h0]; exact out
  simp only [if_neg h0]
  by_cases h1 : n > 131082
  · simp only [decide_eq_true h1]; exact out
  simp only [decide_eq_false h1]
  refine Ev.step (fun k => by rw [parapetlaw3_FrameLimit.j0, if_neg (by decide), if_pos (by omega), if_pos (by omega)]) ?_
  have hlen : (List.replicate n.toNat (0 : Int)).length = n.toNat := List.length_replicate
  have hz : Bytes (List.replicate n.toNat (0 : Int)) := fun x hx => by
    rw [List.mem_replicate] at hx; omega
  refine Ev.bind (put_f (by simp) (by simp; omega)) ?_
  simp only [List.flatten_cons, List.flatten_nil, List.append_nil]
  by_cases h2 : n > 131072
  · simp only [if_pos h2]
    have hb : be4 [n / 16777216 % 256, n / 65536 % 256, n / 256 % 256, n % 256, 0, 0, 0, 0] = n := be4_lay4 n [0, 0, 0, 0] (by omega) (by omega)
    refine Ev.bind (next_f (fun x hx => by
      simp only [List.mem_cons, List.not_mem_nil, or_false] at hx
      omega)) ?_
    have e : nextS [n / 16777216 % 256, n / 65536 % 256, n / 256 % 256, n % 256, 0, 0, 0, 0] = ([], 0, 3) := by
      unfold nextS
      rw [hb, if_neg (by simp), if_pos h2]
    have ep : putS (List.replicate n.toNat 0) = ([], false) := by unfold putS; rw [hlen, if_pos (by omega)]
    rw [e, ep]
    refine Ev.congr (fun k => by rw [if_neg (by decide), if_pos (by rfl), if_pos (by rfl), if_pos (by rfl)]) awake_then
  · simp only [if_neg h2]
    have ep : putS (List.replicate n.toNat 0) = (fr (List.replicate n.toNat 0), true) := putS_fr (by omega)
    rw [ep]
    refine Ev.bind (next_f (lay4_crc_bytes hz)) ?_
    have e := nextS_fr (x := List.replicate n.toNat 0) [] (by omega)
    rw [List.append_nil] at e
    rw [e]
    exact Ev.congr (fun k => by rw [if_pos rfl, if_pos (by simp only [hlen]; omega), if_pos (by simp only [hlen]; rw [w64 (by omega) (by omega)]; omega), if_pos rfl]) awake_then
theorem rows_l0 (a : List (List Int)) (ha : a.length < 4611686018427387904) (hi : ∀ x ∈ a, x.length < 4611686018427387904) : ∀ (d n : Nat), n + d = a.length → Ev (fun k => parapetalike_Rows.l0 k a a (n : Int)) true
  | 0, n, hn => Ev.step (fun k => by rw [parapetalike_Rows.l0, if_neg (by omega)]) (Ev.now _)
  | d + 1, n, hn => Ev.step (fun k => by rw [parapetalike_Rows.l0, if_pos (by omega), if_pos (by omega), if_pos (by omega)]) (by
      have hd : a.drop n = rd_L1 a n :: a.drop (n + 1) := drop_rd_L1 (by omega)
      have hm : rd_L1 a n ∈ a := List.mem_of_mem_drop (i := n) (by rw [hd]; exact List.mem_cons_self)
      refine Ev.bind (alike_f _ (hi _ hm)) ?_
      simp only [if_true]
      rw [w64 (by omega) (by omega), show (n : Int) + 1 = ((n + 1 : Nat) : Int) by omega]
      exact rows_l0 a ha hi d (n + 1) (by omega))
theorem rows_f (a : List (List Int)) (ha : a.length < 4611686018427387904) (hi : ∀ x ∈ a, x.length < 4611686018427387904) : Ev (fun k => parapetalike_Rows.f k a a) true := by
  unfold parapetalike_Rows.f; simp only [if_true]; exact rows_l0 a ha hi a.length 0 (by omega)
theorem nextS_whole {l : List Int} (h : Bytes l) (hk : (nextS l).2.2 = 1) : 8 ≤ (nextS l).2.1 ∧ (nextS l).2.1 ≤ l.length := by
  have hr := be4_range h
  revert hk
  unfold nextS
  repeat' split
  all_goals simp
  omega
theorem scan_both (l : List Int) (hb : Bytes l) (hl : l.length ≤ 4000) : ∀ (d n : Nat) (acc : List (List Int)), n + d = l.length → acc.length ≤ n → (∀ x ∈ acc, x.length ≤ 4000) →
    ∃ r : List (List Int) × Int × Int, Ev (fun k => frame_Scan.l0 k l acc (n : Int)) r ∧ Ev (fun k => parapetref1_Scan.l0 k l acc (n : Int)) r ∧ r.1.length ≤ 4000 ∧ ∀ x ∈ r.1, x.length ≤ 4000 := by
  intro d
  induction d using Nat.strongRecOn with
  | _ d ih =>
  intro n acc hn ha hx
  by_cases hd : d = 0
  · refine ⟨(acc, (n : Int), 1), Ev.step (fun k => by rw [frame_Scan.l0, if_neg (by omega)]) (Ev.now _), Ev.step (fun k => by rw [parapetref1_Scan.l0, if_neg (by omega)]) (Ev.now _), by show acc.length ≤ 4000; omega, hx⟩
  have hbd := hb.drop n
  have hlen : (l.drop n).length = l.length - n := List.length_drop
  by_cases hk : (nextS (l.drop n)).2.2 = 1
  · obtain ⟨h8, hle⟩ := nextS_whole hbd hk
    obtain ⟨m, hm⟩ : ∃ m : Nat, (nextS (l.drop n)).2.1 = (m : Int) := ⟨(nextS (l.drop n)).2.1.toNat, by omega⟩
    rw [hm] at h8 hle
    have hp := nextS_len (l.drop n)
    obtain ⟨r, h1, h2, h3⟩ := ih (d - m) (by omega) (n + m) (acc ++ [(nextS (l.drop n)).1]) (by omega) (by rw [List.length_append, List.length_singleton]; omega) (by
      intro x hx'
      rcases List.mem_append.1 hx' with h | h
      · exact hx x h
      · rw [List.mem_singleton] at h; subst h; omega)
    refine ⟨r, ?_, ?_, h3⟩
    · refine Ev.step (fun k => by rw [frame_Scan.l0, if_pos (by omega), if_pos (by omega), if_pos (by omega), Int.toNat_natCast]) ?_
      refine Ev.bind (next_f hbd) ?_
      refine Ev.congr (fun k => by rw [if_pos hk, if_pos (by omega), hm, w64 (by omega) (by omega), show (n : Int) + (m : Int) = ((n + m : Nat) : Int) by omega]) h1
    · refine Ev.step (fun k => by rw [parapetref1_Scan.l0, if_pos (by omega), if_pos (by omega), if_pos (by omega), Int.toNat_natCast]) ?_
      refine Ev.bind (rnext_f hbd (by omega)) ?_
      refine Ev.congr (fun k => by rw [if_pos hk, if_pos (by omega), hm, w64 (by omega) (by omega), show (n : Int) + (m : Int) = ((n + m : Nat) : Int) by omega]) h2
  · refine ⟨(acc, (n : Int), (nextS (l.drop n)).2.2), ?_, ?_, by show acc.length ≤ 4000; omega, hx⟩
    · refine Ev.step (fun k => by rw [frame_Scan.l0, if_pos (by omega), if_pos (by omega), if_pos (by omega), Int.toNat_natCast]) ?_
      refine Ev.bind (next_f hbd) ?_
      exact Ev.congr (fun k => by rw [if_neg hk]) (Ev.now _)
    · refine Ev.step (fun k => by rw [parapetref1_Scan.l0, if_pos (by omega), if_pos (by omega), if_pos (by omega), Int.toNat_natCast]) ?_
      refine Ev.bind (rnext_f hbd (by omega)) ?_
      exact Ev.congr (fun k => by rw [if_neg hk]) (Ev.now _)
theorem FrameScans : parapetlaw3_FrameScans.Pure := by
  intro l hm hs hw
  refine Ev.rounds (g := fun k => parapetlaw3_FrameScans.f k l) ?_
  have hb := bytes_wf hw
  unfold parapetlaw3_FrameScans.f
  by_cases h : (l.length : Int) > 4000
  · simp only [if_pos h]; exact awake_then
  simp only [if_neg h]
  obtain ⟨r, h1, h2, h3, h4⟩ := scan_both l hb (by omega) l.length 0 [] (by omega) (by simp) (by simp)
  refine Ev.bind (a := r) h1 (Ev.bind (a := r) h2 (Ev.bind (rows_f _ (by omega) (fun x hx => by have := h4 x hx; omega)) ?_))
  simp only [if_true]
  exact awake_then
theorem len_mem {x : List Int} {l : List (List Int)} (h : x ∈ l) : x.length ≤ l.flatten.length := by
  induction l with
  | nil => cases h
  | cons a t ih =>
    rw [List.flatten_cons, List.length_append]
    rcases List.mem_cons.1 h with rfl | h
    · omega
    · have := ih h; omega
theorem joined_l0 (l : List (List Int)) (hc : l.length < 4611686018427387904) : ∀ (d n : Nat) (x : List Int), n + d = l.length → x.length + (l.drop n).flatten.length < 140737488355328 →
    Ev (fun k => parapetalike_Joined.l0 k l x (n : Int)) (x ++ (l.drop n).flatten)
  | 0, n, x, hn, hl => Ev.step (fun k => by rw [parapetalike_Joined.l0, if_neg (by omega)]) (by rw [List.drop_eq_nil_of_le (by omega), List.flatten_nil, List.append_nil]; exact Ev.now _)
  | d + 1, n, x, hn, hl => by
    have hd : l.drop n = rd_L1 l n :: l.drop (n + 1) := drop_rd_L1 (by omega)
    rw [hd, List.flatten_cons, List.length_append] at hl
    refine Ev.step (fun k => by rw [parapetalike_Joined.l0, if_pos (by omega), if_pos (by omega), if_pos (by omega), w64 (by omega) (by omega), show (n : Int) + 1 = ((n + 1 : Nat) : Int) by omega]) ?_
    rw [hd, List.flatten_cons, ← List.append_assoc]
    exact joined_l0 l hc d (n + 1) _ (by omega) (by rw [List.length_append]; omega)
theorem joined_f (l : List (List Int)) (hc : l.length < 4611686018427387904) (hl : l.flatten.length < 140737488355328) : Ev (fun k => parapetalike_Joined.f k l) l.flatten := by
  have := joined_l0 l hc l.length 0 [] (by omega) (by simpa using hl)
  unfold parapetalike_Joined.f
  simpa using this
theorem putS_len (l : List Int) (h : l.length ≤ 4000) : (putS l).1.length ≤ 5000 := by
  rw [putS_fr (by omega)]; show (fr l).length ≤ 5000; rw [fr_length]; omega
theorem FramePuts (l : List (List Int)) (hc : l.length < 4611686018427387904) (hl : l.flatten.length < 140737488355328) : ∃ k, parapetlaw3_FramePuts.f k l = some true := by
  refine Ev.rounds (g := fun k => parapetlaw3_FramePuts.f k l) ?_
  unfold parapetlaw3_FramePuts.f
  refine Ev.bind (joined_f l hc hl) ?_
  have out : Ev (fun k => parapetlaw3_FramePuts.j0 k l l.flatten true) true := Ev.step (fun k => by rw [parapetlaw3_FramePuts.j0, if_pos rfl]) awake_then
  by_cases h : (l.flatten.length : Int) > 4000
  · simp only [if_pos h]; exact out
  simp only [if_neg h]
  by_cases h2 : (l.length : Int) > 50
  · simp only [decide_eq_true h2]; exact out
  simp only [decide_eq_false h2]
  refine Ev.step (fun k => by rw [parapetlaw3_FramePuts.j0, if_neg (by decide)]) ?_
  refine Ev.bind (put_f hc hl) (Ev.bind (rput_f (by omega)) (Ev.bind (alike_f _ (by have := putS_len l.flatten (by omega); omega)) ?_))
  refine Ev.congr (fun k => by rw [if_pos rfl, if_pos (by simp)]) ?_
  refine Ev.bind (crc_f l hc (fun x hx => by have := len_mem hx; omega)) (Ev.bind (rcrc_f _ (by omega)) ?_)
  simp only [if_true]
  exact awake_then
theorem round_f (a n : Int) (h0 : 0 < n) (h1 : n < 4611686018427387904) : ∃ r, parapetalike_Round.f a n = some r ∧ 0 ≤ r ∧ r < n := by
  unfold parapetalike_Round.f
  rw [if_neg (by omega)]
  have hm : (Int.tmod a n).natAbs < n.natAbs := by rw [Int.natAbs_tmod]; exact Nat.mod_lt _ (by omega)
  by_cases h : Int.tmod a n < 0
  · rw [if_pos h, w64 (by omega) (by omega)]; exact ⟨_, rfl, by omega, by omega⟩
  · rw [if_neg h]; exact ⟨_, rfl, by omega, by omega⟩
end Go.Proofs.Ytgbhkcpplcgmiaa.PA
