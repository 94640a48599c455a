import Derived.Test.YtknkokkgefcdbaaDoorPAx13
import Derived.Test.YtknkokkgefcdbaaDoorU
namespace Go.Proofs.YtknkokkgefcdbaaDoor.PA
open Go.RowKit Go.Proofs.YtknkokkgefcdbaaDoorW.PrintWords Go.Proofs.YtknkokkgefcdbaaDoorW.PrintLast Go.Proofs.YtknkokkgefcdbaaDoorW.PrintMore Go.Proofs.YtknkokkgefcdbaaDoorPL
open Go.Proofs.YtknkokkgefcdbaaDoorWS
set_option linter.unusedVariables false
set_option linter.unusedSimpArgs false
theorem nib_and {c : Int} (h : 0 ≤ c ∧ c < 256) : 0 ≤ Go.bits .and .u8 c 15 ∧ Go.bits .and .u8 c 15 < 16 := byteAll (P := fun c => 0 ≤ Go.bits .and .u8 c 15 ∧ Go.bits .and .u8 c 15 < 16) (by decide +kernel) h.1 h.2
theorem Encode_l0 {xs : List Int} (hx : Bytes xs) (hl : xs.length < 1048576) (s : Int) : ∀ (suf pre acc : List Int), xs = pre ++ suf → acc.length ≤ 3 * pre.length → Bytes acc → ∃ ys, Ev (fun k => parapetref9_Encode.l0 k (st xs) s (⟨#[48, 49, 50, 51, 52, 53, 54, 55, 56, 57, 65, 66, 67, 68, 69, 70]⟩ : ByteArray) acc (pre.length : Int)) (st ys) ∧ Bytes ys ∧ ys.length ≤ 3 * xs.length
  | [], pre, acc, e, ha, hb => by
    have e1 := mid_end e
    refine ⟨acc, ?_, hb, by omega⟩
    refine Ev.step (fun k => by rw [parapetref9_Encode.l0]) ?_
    exact ev_neg (by rw [st_size]; omega) (Ev.now _)
  | x :: suf, pre, acc, e, ha, hb => by
    obtain ⟨e1, e2, e3⟩ := mid e
    have hbx := mid_byte hx e
    have hn := nib_and hbx
    obtain ⟨b, hin⟩ := In_any x s
    cases b with
    | true =>
      have hr1 := bt_range (⟨#[48, 49, 50, 51, 52, 53, 54, 55, 56, 57, 65, 66, 67, 68, 69, 70]⟩ : ByteArray) (x / 16)
      have hr2 := bt_range (⟨#[48, 49, 50, 51, 52, 53, 54, 55, 56, 57, 65, 66, 67, 68, 69, 70]⟩ : ByteArray) (Go.bits .and .u8 x 15)
      obtain ⟨ys, hr, h1, h2⟩ := Encode_l0 hx hl s suf (pre ++ [x]) (acc ++ [37, bt (⟨#[48, 49, 50, 51, 52, 53, 54, 55, 56, 57, 65, 66, 67, 68, 69, 70]⟩ : ByteArray) (x / 16), bt (⟨#[48, 49, 50, 51, 52, 53, 54, 55, 56, 57, 65, 66, 67, 68, 69, 70]⟩ : ByteArray) (Go.bits .and .u8 x 15)]) e3 (by simp only [List.length_append, List.length_cons, List.length_nil]; omega) (hb.append (Bytes.cons (by omega) (Bytes.cons (by omega) (Bytes.cons (by omega) Bytes.nil))))
      rw [← e2] at hr
      refine ⟨ys, ?_, h1, h2⟩
      refine Ev.step (fun k => by rw [parapetref9_Encode.l0]) ?_
      refine ev_pos (by rw [st_size]; omega) (ev_pos (by omega) ?_)
      rw [mid_bt hx e, w64 (by omega) (by omega)]
      refine Ev.bind hin (ev_pos rfl (ev_pos (by omega) (ev_pos (by show x / 16 < ((16 : Nat) : Int); omega) (ev_pos hn.1 (ev_pos hn.2 (ev_some (ev_pos (by simp only [List.length_cons, List.length_nil]; omega) ?_)))))))
      exact hr
    | false =>
      obtain ⟨ys, hr, h1, h2⟩ := Encode_l0 hx hl s suf (pre ++ [x]) (acc ++ [x]) e3 (by simp only [List.length_append, List.length_cons, List.length_nil]; omega) (hb.append (Bytes.cons hbx Bytes.nil))
      rw [← e2] at hr
      refine ⟨ys, ?_, h1, h2⟩
      refine Ev.step (fun k => by rw [parapetref9_Encode.l0]) ?_
      refine ev_pos (by rw [st_size]; omega) (ev_pos (by omega) ?_)
      rw [mid_bt hx e, w64 (by omega) (by omega)]
      exact Ev.bind hin (ev_neg (by simp) (ev_pos (by omega) hr))
theorem Encode_any {xs : List Int} (hx : Bytes xs) (hl : xs.length < 1048576) (s : Int) : ∃ ys, Ev (fun k => parapetref9_Encode.f k (st xs) s) (st ys) ∧ Bytes ys ∧ ys.length ≤ 3 * xs.length := by
  unfold parapetref9_Encode.f
  exact Encode_l0 hx hl s xs [] [] rfl (by simp) Bytes.nil
theorem dots_l0 : ∀ (m : Nat) {xs : List Int} (n : Int), xs.length ≤ m → Bytes xs → xs.length < 1048576 → 0 ≤ n → n + xs.length < 4611686018427387904 → ∃ r, Ev (fun k => parapetref9_dots.l0 k (st xs) n) r
  | m, [], n, hm, hx, hl, h0, h1 => by
    by_cases h : n > 2
    · refine ⟨0, ?_⟩
      refine Ev.step (fun k => by rw [parapetref9_dots.l0]) ?_
      exact ev_pos (toList_nil.2 rfl) (ev_pos h (Ev.now _))
    · refine ⟨n, ?_⟩
      refine Ev.step (fun k => by rw [parapetref9_dots.l0]) ?_
      exact ev_pos (toList_nil.2 rfl) (ev_neg h (Ev.now _))
  | 0, x :: xs, n, hm, hx, hl, h0, h1 => by simp at hm
  | m + 1, x :: xs, n, hm, hx, hl, h0, h1 => by
    have hne : ¬ (st (x :: xs)).toList = ([] : List UInt8) := fun h => by have := toList_nil.1 h; cases this
    have hlen : ((x :: xs).length : Int) = xs.length + 1 := by simp
    simp only [List.length_cons] at hm hl h1
    by_cases c1 : bt (st (x :: xs)) 0 = 46
    · obtain ⟨r, hr⟩ := dots_l0 m (xs := (x :: xs).drop 1) (n + 1) (by simp; omega) (hx.drop 1) (by simp; omega) (by omega) (by simp; omega)
      rw [← st_extr] at hr
      refine ⟨r, ?_⟩
      refine Ev.step (fun k => by rw [parapetref9_dots.l0]) ?_
      refine ev_neg hne (ev_pos (by rw [st_size]; omega) (ev_pos c1 (ev_pos (by rw [st_size]; omega) ?_)))
      rw [w64 (by omega) (by omega)]
      exact hr
    by_cases c2 : (3 : Int) ≤ ((x :: xs).length : Int)
    · by_cases c3 : ((st (x :: xs)).extract 0 3).toList = ([37, 50, 101] : List UInt8)
      · obtain ⟨r, hr⟩ := dots_l0 m (xs := (x :: xs).drop 3) (n + 1) (by simp only [List.length_drop, List.length_cons]; omega) (hx.drop 3) (by simp only [List.length_drop, List.length_cons]; omega) (by omega) (by simp only [List.length_drop, List.length_cons]; omega)
        rw [← st_extr] at hr
        refine ⟨r, ?_⟩
        refine Ev.step (fun k => by rw [parapetref9_dots.l0]) ?_
        refine ev_neg hne (ev_pos (by rw [st_size]; omega) (ev_neg c1 (ev_pos (by rw [st_size]; exact c2) (ev_pos (by omega) (ev_pos (by rw [st_size]; exact c2) (ev_pos c3 ?_))))))
        rw [w64 (by omega) (by omega)]
        exact hr
      · refine ⟨0, ?_⟩
        refine Ev.step (fun k => by rw [parapetref9_dots.l0]) ?_
        exact ev_neg hne (ev_pos (by rw [st_size]; omega) (ev_neg c1 (ev_pos (by rw [st_size]; exact c2) (ev_pos (by omega) (ev_pos (by rw [st_size]; exact c2) (ev_neg c3 (Ev.now _)))))))
    · refine ⟨0, ?_⟩
      refine Ev.step (fun k => by rw [parapetref9_dots.l0]) ?_
      exact ev_neg hne (ev_pos (by rw [st_size]; omega) (ev_neg c1 (ev_neg (by rw [st_size]; exact c2) (Ev.now _))))
theorem dots_any {xs : List Int} (hx : Bytes xs) (hl : xs.length < 1048576) : ∃ r, Ev (fun k => parapetref9_dots.f k (st xs)) r := by
  obtain ⟨r, hr⟩ := dots_l0 _ 0 (Nat.le_refl _) (lowerL_bytes hx) (by rw [lowerL_length]; exact hl) (by omega) (by rw [lowerL_length]; omega)
  refine ⟨r, ?_⟩
  unfold parapetref9_dots.f
  exact Ev.bind (rLower_f hx (by omega)) hr
/-- rows of segments, few and short -/
def Segs (N : Nat) (ls : List (List Int)) (c : Nat) : Prop := (∀ b ∈ ls, Bytes b ∧ b.length ≤ 3 * N) ∧ ls.length ≤ c
theorem path_l1 {N : Nat} (hN : N < 1048576) {ls : List (List Int)} (hs : Segs N ls (N + 2)) : ∀ (d i : Nat) (acc : List Int), ls.length - i = d → i ≤ ls.length → Bytes acc → acc.length ≤ i * (3 * N + 1) → ∃ ys, Ev (fun k => parapetref9_path.l1 k (ls.map st) (st acc) (i : Int)) (st ys) ∧ Bytes ys ∧ ys.length ≤ ls.length * (3 * N + 1)
  | 0, i, acc, hd, hi, hb, ha => by
    have : i = ls.length := by omega
    subst this
    refine ⟨acc, ?_, hb, ha⟩
    refine Ev.step (fun k => by rw [parapetref9_path.l1]) ?_
    exact ev_neg (by rw [List.length_map]; omega) (Ev.now _)
  | d + 1, i, acc, hd, hi, hb, ha => by
    have hil : i < ls.length := by omega
    have hm : ls.getD i [] ∈ ls := by rw [List.getD_eq_getElem?_getD, List.getElem?_eq_getElem hil]; exact List.getElem_mem _
    have hg := hs.1 _ hm
    have hc := hs.2
    have hmul : i * (3 * N + 1) ≤ (N + 2) * (3 * N + 1) := Nat.mul_le_mul_right _ (by omega)
    have hmul2 : (N + 2) * (3 * N + 1) ≤ 1048578 * 3145729 := Nat.mul_le_mul (by omega) (by omega)
    obtain ⟨ys, hr, h1, h2⟩ := path_l1 hN hs d (i + 1) (acc ++ [47] ++ ls.getD i []) (by omega) (by omega) ((hb.append (Bytes.cons (by omega) Bytes.nil)).append hg.1) (by simp only [List.length_append, List.length_cons, List.length_nil]; rw [Nat.succ_mul]; omega)
    refine ⟨ys, ?_, h1, h2⟩
    rw [show ((i + 1 : Nat) : Int) = (i : Int) + 1 by omega] at hr
    refine Ev.step (fun k => by rw [parapetref9_path.l1]) ?_
    refine ev_pos (by rw [List.length_map]; omega) (ev_pos (by rw [st_size]; omega) (ev_pos (by omega) ?_))
    rw [st_rdOf, Int.toNat_natCast, show (⟨#[47]⟩ : ByteArray) = st [47] from rfl, st_app, st_app, st_size, st_size, w64 (by omega) (by omega)]
    refine ev_pos (by simp only [List.length_append, List.length_cons, List.length_nil]; omega) ?_
    exact hr
theorem path_j4 {N : Nat} (hN : N < 1048576) {ls : List (List Int)} (hs : Segs N ls (N + 2)) : ∃ ys, Ev (fun k => parapetref9_path.j4 k (ls.map st)) (st ys) ∧ Bytes ys ∧ ys.length ≤ (N + 2) * (3 * N + 1) := by
  by_cases h : ls.length = 0
  · refine ⟨[47], ?_, Bytes.cons (by omega) Bytes.nil, ?_⟩
    · refine Ev.step (fun k => by rw [parapetref9_path.j4]) ?_
      exact ev_pos (by rw [List.length_map]; omega) (Ev.now _)
    · have : 1 * 1 ≤ (N + 2) * (3 * N + 1) := Nat.mul_le_mul (by omega) (by omega)
      simpa using this
  · obtain ⟨ys, hr, h1, h2⟩ := path_l1 hN hs _ 0 [] rfl (by omega) Bytes.nil (by simp)
    refine ⟨ys, ?_, h1, Nat.le_trans h2 (Nat.mul_le_mul_right _ hs.2)⟩
    refine Ev.step (fun k => by rw [parapetref9_path.j4]) ?_
    exact ev_neg (by rw [List.length_map]; omega) hr
theorem path_l0 {xs : List Int} (hx : Bytes xs) (hl : xs.length < 1048576) : ∀ (d i : Nat) (from_ : Nat) (ls : List (List Int)), xs.length + 1 - i = d → i ≤ xs.length + 1 → from_ ≤ i → Segs xs.length ls i → ∃ ys, Ev (fun k => parapetref9_path.l0 k (st xs) (ls.map st) (from_ : Int) (i : Int)) (st ys) ∧ Bytes ys ∧ ys.length ≤ (xs.length + 2) * (3 * xs.length + 1)
  | 0, i, from_, ls, hd, hi, hf, hs => by
    obtain ⟨ys, hr, h1⟩ := path_j4 hl (ls := ls) ⟨hs.1, by have := hs.2; omega⟩
    refine ⟨ys, ?_, h1⟩
    refine Ev.step (fun k => by rw [parapetref9_path.l0]) ?_
    exact ev_neg (by rw [st_size]; omega) hr
  | d + 1, i, from_, ls, hd, hi, hf, hs => by
    have hil : i ≤ xs.length := by omega
    have next : ∀ (fr : Nat) (l2 : List (List Int)), fr ≤ i + 1 → Segs xs.length l2 (i + 1) → ∃ ys, Ev (fun k => parapetref9_path.l0 k (st xs) (l2.map st) (fr : Int) ((i : Int) + 1)) (st ys) ∧ Bytes ys ∧ ys.length ≤ (xs.length + 2) * (3 * xs.length + 1) := by
      intro fr l2 h1 h2
      have := path_l0 hx hl d (i + 1) fr l2 (by omega) (by omega) h1 h2
      rwa [show ((i + 1 : Nat) : Int) = (i : Int) + 1 by omega] at this
    have hmono : ∀ l2, Segs xs.length l2 i → Segs xs.length l2 (i + 1) := fun l2 h => ⟨h.1, by have := h.2; omega⟩
    have j3 : ∀ (l2 : List (List Int)) (seg : List Int) (b : Bool) (t : Int), Segs xs.length l2 i → Bytes seg → seg.length ≤ xs.length → ∃ ys, Ev (fun k => parapetref9_path.j3 k (st xs) (l2.map st) ((i : Int) + 1) (i : Int) (st seg) b t) (st ys) ∧ Bytes ys ∧ ys.length ≤ (xs.length + 2) * (3 * xs.length + 1) := by
      intro l2 seg b t h2 hb hsl
      have hc := h2.2
      by_cases h0 : t = 0
      · obtain ⟨es, he, hb2, hl2⟩ := Encode_any hb (by omega) 3
        obtain ⟨ys, hr, h3⟩ := next (i + 1) (l2 ++ [es]) (Nat.le_refl _) ⟨fun q hq => by
          rcases List.mem_append.1 hq with hq | hq
          · exact h2.1 q hq
          · rw [List.mem_singleton.1 hq]; exact ⟨hb2, by omega⟩, by simp only [List.length_append, List.length_cons, List.length_nil]; omega⟩
        rw [List.map_append] at hr
        refine ⟨ys, ?_, h3⟩
        refine Ev.step (fun k => by rw [parapetref9_path.j3]) ?_
        refine ev_pos h0 (Ev.bind he (ev_pos (by rw [List.length_map]; omega) ?_))
        rw [w64 (by omega) (by omega)]
        exact hr
      · cases b with
        | true =>
          obtain ⟨ys, hr, h3⟩ := next (i + 1) (l2 ++ [[]]) (Nat.le_refl _) ⟨fun q hq => by
            rcases List.mem_append.1 hq with hq | hq
            · exact h2.1 q hq
            · rw [List.mem_singleton.1 hq]; exact ⟨Bytes.nil, by simp⟩, by simp only [List.length_append, List.length_cons, List.length_nil]; omega⟩
          rw [List.map_append] at hr
          refine ⟨ys, ?_, h3⟩
          refine Ev.step (fun k => by rw [parapetref9_path.j3]) ?_
          refine ev_neg h0 (ev_pos rfl (ev_pos (by rw [List.length_map]; omega) ?_))
          rw [w64 (by omega) (by omega)]
          exact hr
        | false =>
          obtain ⟨ys, hr, h3⟩ := next (i + 1) l2 (Nat.le_refl _) (hmono l2 h2)
          refine ⟨ys, ?_, h3⟩
          refine Ev.step (fun k => by rw [parapetref9_path.j3]) ?_
          refine ev_neg h0 (ev_neg (by simp) ?_)
          rw [w64 (by omega) (by omega)]
          exact hr
    have j2 : ∀ (seg : List Int) (b : Bool) (t : Int) (c : Bool), (c = true → 0 < ls.length) → Bytes seg → seg.length ≤ xs.length → ∃ ys, Ev (fun k => parapetref9_path.j2 k (st xs) (ls.map st) ((i : Int) + 1) (i : Int) (st seg) b t c) (st ys) ∧ Bytes ys ∧ ys.length ≤ (xs.length + 2) * (3 * xs.length + 1) := by
      intro seg b t c hc hb hsl
      have hcn := hs.2
      cases c with
      | true =>
        have hpos := hc rfl
        obtain ⟨ys, hr, h3⟩ := j3 (ls.take (ls.length - 1)) seg b t ⟨fun q hq => hs.1 q (List.mem_of_mem_take hq), by rw [List.length_take]; omega⟩ hb hsl
        rw [List.map_take] at hr
        refine ⟨ys, ?_, h3⟩
        refine Ev.step (fun k => by rw [parapetref9_path.j2]) ?_
        rw [List.length_map, w64 (by omega) (by omega), show ((ls.length : Int) - 1).toNat = ls.length - 1 by omega]
        exact ev_pos rfl (ev_pos (by omega) (ev_pos (by omega) hr))
      | false =>
        obtain ⟨ys, hr, h3⟩ := j3 ls seg b t hs hb hsl
        refine ⟨ys, ?_, h3⟩
        refine Ev.step (fun k => by rw [parapetref9_path.j2]) ?_
        exact ev_neg (by simp) hr
    have j1 : ∀ c : Bool, ∃ ys, Ev (fun k => parapetref9_path.j1 k (st xs) (ls.map st) (from_ : Int) (i : Int) c) (st ys) ∧ Bytes ys ∧ ys.length ≤ (xs.length + 2) * (3 * xs.length + 1) := by
      intro c
      cases c with
      | true =>
        obtain ⟨ys, hr, h3⟩ := next from_ ls (by omega) (hmono ls hs)
        refine ⟨ys, ?_, h3⟩
        refine Ev.step (fun k => by rw [parapetref9_path.j1]) ?_
        refine ev_pos rfl ?_
        rw [w64 (by omega) (by omega)]
        exact hr
      | false =>
        have hseg : Bytes ((xs.take i).drop from_) := (hx.take i).drop from_
        have hsl : ((xs.take i).drop from_).length ≤ xs.length := by rw [List.length_drop, List.length_take]; omega
        obtain ⟨t, ht⟩ := dots_any hseg (by omega)
        by_cases h2 : t = 2
        · obtain ⟨ys, hr, h3⟩ := j2 ((xs.take i).drop from_) ((i : Int) == (xs.length : Int)) t (decide ((ls.length : Int) > 0)) (fun h => by have := of_decide_eq_true h; omega) hseg hsl
          refine ⟨ys, ?_, h3⟩
          refine Ev.step (fun k => by rw [parapetref9_path.j1]) ?_
          refine ev_neg (by simp) (ev_pos (by omega) (ev_pos (by omega) (ev_pos (by rw [st_size]; omega) ?_)))
          rw [Int.toNat_natCast, Int.toNat_natCast, st_ext, w64 (by omega) (by omega), List.length_map, st_size]
          exact Ev.bind ht (ev_pos h2 hr)
        · obtain ⟨ys, hr, h3⟩ := j2 ((xs.take i).drop from_) ((i : Int) == (xs.length : Int)) t false (fun h => by cases h) hseg hsl
          refine ⟨ys, ?_, h3⟩
          refine Ev.step (fun k => by rw [parapetref9_path.j1]) ?_
          refine ev_neg (by simp) (ev_pos (by omega) (ev_pos (by omega) (ev_pos (by rw [st_size]; omega) ?_)))
          rw [Int.toNat_natCast, Int.toNat_natCast, st_ext, w64 (by omega) (by omega), List.length_map, st_size]
          exact Ev.bind ht (ev_neg h2 hr)
    by_cases c1 : i < xs.length
    · by_cases c2 : bt (st xs) (i : Int) = 47
      · obtain ⟨ys, hr, h3⟩ := j1 false
        refine ⟨ys, ?_, h3⟩
        refine Ev.step (fun k => by rw [parapetref9_path.l0]) ?_
        exact ev_pos (by rw [st_size]; omega) (ev_pos (by rw [st_size]; omega) (ev_pos (by omega) (ev_pos c2 hr)))
      · obtain ⟨ys, hr, h3⟩ := j1 (bt (st xs) (i : Int) != 92)
        refine ⟨ys, ?_, h3⟩
        refine Ev.step (fun k => by rw [parapetref9_path.l0]) ?_
        exact ev_pos (by rw [st_size]; omega) (ev_pos (by rw [st_size]; omega) (ev_pos (by omega) (ev_neg c2 hr)))
    · obtain ⟨ys, hr, h3⟩ := j1 false
      refine ⟨ys, ?_, h3⟩
      refine Ev.step (fun k => by rw [parapetref9_path.l0]) ?_
      exact ev_pos (by rw [st_size]; omega) (ev_neg (by rw [st_size]; omega) hr)
theorem path_any {xs : List Int} (hx : Bytes xs) (hl : xs.length < 1048576) : ∃ ys, Ev (fun k => parapetref9_path.f k (st xs)) (st ys) ∧ Bytes ys ∧ ys.length ≤ (xs.length + 2) * (3 * xs.length + 1) := by
  unfold parapetref9_path.f
  cases xs with
  | nil =>
    obtain ⟨ys, hr, h⟩ := path_j4 (N := 0) (by omega) (ls := []) ⟨fun b hb => (by cases hb), by simp⟩
    exact ⟨ys, ev_pos (toList_nil.2 rfl) hr, h⟩
  | cons x xs =>
    obtain ⟨ys, hr, h⟩ := path_l0 hx hl _ 1 1 [] rfl (by simp) (Nat.le_refl _) ⟨fun b hb => (by cases hb), by simp⟩
    exact ⟨ys, ev_neg (fun h => by have := toList_nil.1 h; cases this) hr, h⟩
end Go.Proofs.YtknkokkgefcdbaaDoor.PA
