/- The plain law of a row of frames that is cut off anywhere. -/
import Derived.Test.YtgbhkcpplcgmiaaPAx13
import Derived.Test.YtgbhkcpplcgmiaaQA
namespace Go.Proofs.Ytgbhkcpplcgmiaa.PA
open Go.RowKit Go.Proofs.YtgbhkcpplcgmiaaW.PrintWords Go.Proofs.YtgbhkcpplcgmiaaW.PrintLast Go.Proofs.YtgbhkcpplcgmiaaW.PrintMore
set_option linter.unusedVariables false
set_option linter.unusedSimpArgs false
set_option linter.unusedSectionVars false
/-- The frames of the first n payloads, one behind the other. -/
def fs (l : List (List Int)) (n : Nat) : List Int := ((l.take n).map fr).flatten
theorem fs_zero (l : List (List Int)) : fs l 0 = [] := by simp [fs]
theorem fs_succ {l : List (List Int)} {n : Nat} (h : n < l.length) : fs l (n + 1) = fs l n ++ fr (rd_L1 l n) := by
  unfold fs
  rw [List.take_succ_eq_append_getElem h, List.map_append, List.flatten_append]
  simp [rd_L1, List.getD_eq_getElem?_getD, h]
theorem fs_split (l : List (List Int)) : ∀ (d n : Nat), n + d = l.length → fs l l.length = fs l n ++ ((l.drop n).map fr).flatten
  | 0, n, h => by rw [List.drop_eq_nil_of_le (by omega), show n = l.length by omega]; simp
  | d + 1, n, h => by
    rw [fs_split l d (n + 1) (by omega), fs_succ (show n < l.length by omega), drop_rd_L1 (show n < l.length by omega), List.map_cons, List.flatten_cons, List.append_assoc]
theorem fs_mono {l : List (List Int)} : ∀ (d n : Nat), n + d ≤ l.length → (fs l n).length ≤ (fs l (n + d)).length
  | 0, n, h => Nat.le_refl _
  | d + 1, n, h => by
    have h1 := fs_mono (l := l) d n (by omega)
    have h2 : fs l (n + d + 1) = fs l (n + d) ++ fr (rd_L1 l ((n + d : Nat) : Int)) := fs_succ (by omega)
    rw [← Nat.add_assoc, h2, List.length_append]
    omega
def ends (l : List (List Int)) (n : Nat) : List Int := (List.range (n + 1)).map fun j => ((fs l j).length : Int)
theorem ends_length (l : List (List Int)) (n : Nat) : (ends l n).length = n + 1 := by simp [ends]
theorem ends_rd (l : List (List Int)) (n j : Nat) (h : j ≤ n) : rd (ends l n) (j : Int) = ((fs l j).length : Int) := by
  simp [rd, ends, List.getD_eq_getElem?_getD, show j < n + 1 by omega]
theorem ends_succ (l : List (List Int)) (n : Nat) : ends l (n + 1) = ends l n ++ [((fs l (n + 1)).length : Int)] := by
  unfold ends
  rw [List.range_succ, List.map_append]
  rfl
section
variable (l : List (List Int)) (hb : ∀ x ∈ l, Bytes x) (hx : ∀ x ∈ l, x.length ≤ 4000) (hl : l.length ≤ 20)
include hb hx hl
theorem fs_small (n : Nat) (h : n ≤ l.length) : (fs l n).length ≤ n * 4008 := by
  induction n with
  | zero => rw [fs_zero]; simp
  | succ n ih =>
    have := ih (by omega)
    have hd : l.drop n = rd_L1 l n :: l.drop (n + 1) := drop_rd_L1 (by omega)
    have hm : rd_L1 l n ∈ l := List.mem_of_mem_drop (i := n) (by rw [hd]; exact List.mem_cons_self)
    have hx' := hx _ hm
    rw [fs_succ (by omega), List.length_append, fr_length]
    omega
theorem fs_bytes (n : Nat) : Bytes (fs l n) := by
  intro z hz
  unfold fs at hz
  obtain ⟨y, hy, hzy⟩ := List.mem_flatten.1 hz
  obtain ⟨x, hx', rfl⟩ := List.mem_map.1 hy
  exact lay4_crc_bytes (hb x (List.mem_of_mem_take hx')) z hzy
/-- The scan of a row of frames that is cut off at c, between the n-th and the next. -/
theorem scan_torn (n c : Nat) (hn : n ≤ l.length) (h1 : (fs l n).length ≤ c) (h2 : n < l.length → c < (fs l (n + 1)).length) (h3 : c ≤ (fs l l.length).length) : ∀ (d j : Nat), j + d = n →
    Ev (fun k => frame_Scan.l0 k ((fs l l.length).take c) (l.take j) ((fs l j).length : Int)) (l.take n, ((fs l n).length : Int), if ((fs l n).length : Int) = (c : Int) then 1 else 2) := by
  have hlen : ((fs l l.length).take c).length = c := by rw [List.length_take]; omega
  have hsm := fs_small l hb hx hl l.length (by omega)
  have hby : Bytes ((fs l l.length).take c) := (fs_bytes l hb hx hl l.length).take c
  intro d
  induction d with
  | zero =>
    intro j hj
    obtain rfl : j = n := by omega
    by_cases he : (fs l j).length = c
    · rw [if_pos (by omega)]
      exact Ev.step (fun k => by rw [frame_Scan.l0, if_neg (by omega)]) (Ev.now _)
    · have hjl : j < l.length := by
        rcases Nat.lt_or_ge j l.length with h | h
        · exact h
        · exfalso
          have : j = l.length := by omega
          subst this
          omega
      have hc2 := h2 hjl
      have hd : l.drop j = rd_L1 l j :: l.drop (j + 1) := drop_rd_L1 hjl
      have hm : rd_L1 l j ∈ l := List.mem_of_mem_drop (i := j) (by rw [hd]; exact List.mem_cons_self)
      have hx' := hx _ hm
      rw [fs_succ hjl, List.length_append, fr_length] at hc2
      rw [if_neg (by omega)]
      refine Ev.step (fun k => by rw [frame_Scan.l0, if_pos (by omega), if_pos (by omega), if_pos (by omega), Int.toNat_natCast]) ?_
      refine Ev.bind (next_f (hby.drop _)) ?_
      have e : ((fs l l.length).take c).drop (fs l j).length = (fr (rd_L1 l j) ++ ((l.drop (j + 1)).map fr).flatten).take (c - (fs l j).length) := by
        rw [List.drop_take, fs_split l (l.length - j) j (by omega), List.drop_left, hd, List.map_cons, List.flatten_cons]
      rw [e, nextS_torn _ (by omega) (by omega)]
      exact Ev.congr (fun k => by rw [if_neg (by decide)]) (Ev.now _)
  | succ d ih =>
    intro j hj
    have hjl : j < l.length := by omega
    have hd : l.drop j = rd_L1 l j :: l.drop (j + 1) := drop_rd_L1 hjl
    have hm : rd_L1 l j ∈ l := List.mem_of_mem_drop (i := j) (by rw [hd]; exact List.mem_cons_self)
    have hx' := hx _ hm
    have hs : fs l (j + 1) = fs l j ++ fr (rd_L1 l j) := fs_succ hjl
    have hsl : (fs l (j + 1)).length = (fs l j).length + (8 + (rd_L1 l j).length) := by rw [hs, List.length_append, fr_length]
    have hmo : (fs l (j + 1)).length ≤ (fs l n).length := by
      have := fs_mono (l := l) d (j + 1) (by omega)
      rwa [show j + 1 + d = n by omega] at this
    refine Ev.step (fun k => by rw [frame_Scan.l0, if_pos (by omega), if_pos (by omega), if_pos (by omega), Int.toNat_natCast]) ?_
    refine Ev.bind (next_f (hby.drop _)) ?_
    have e : ((fs l l.length).take c).drop (fs l j).length = fr (rd_L1 l j) ++ (((l.drop (j + 1)).map fr).flatten).take (c - (fs l (j + 1)).length) := by
      rw [List.drop_take, fs_split l (l.length - j) j (by omega), List.drop_left, hd, List.map_cons, List.flatten_cons, List.take_append, List.take_of_length_le (by rw [fr_length]; omega), fr_length]
      congr 2
      omega
    rw [e, nextS_fr _ (by omega)]
    have ht : l.take j ++ [rd_L1 l j] = l.take (j + 1) := by
      rw [List.take_succ_eq_append_getElem hjl]
      simp [rd_L1, List.getD_eq_getElem?_getD, hjl]
    refine Ev.congr (fun k => by rw [if_pos rfl, if_pos (by rw [List.length_take]; omega), w64 (x := ((fs l j).length : Int) + (8 + ((rd_L1 l j).length : Int))) (by omega) (by omega), ht, show ((fs l j).length : Int) + (8 + ((rd_L1 l j).length : Int)) = ((fs l (j + 1)).length : Int) by omega]) (ih (j + 1) (by omega))
theorem torn_l0 (cut : Int) (r : Bool) (H : Ev (fun k => parapetlaw3_FrameTorn.l0 k l cut (fs l l.length) (ends l l.length) (l.length : Int)) r) : ∀ (d n : Nat), n + d = l.length →
    Ev (fun k => parapetlaw3_FrameTorn.l0 k l cut (fs l n) (ends l n) (n : Int)) r
  | 0, n, h => by rw [show n = l.length by omega]; exact H
  | d + 1, n, h => by
    have hnl : n < l.length := by omega
    have hd : l.drop n = rd_L1 l n :: l.drop (n + 1) := drop_rd_L1 hnl
    have hm : rd_L1 l n ∈ l := List.mem_of_mem_drop (i := n) (by rw [hd]; exact List.mem_cons_self)
    have hx' := hx _ hm
    have hsm := fs_small l hb hx hl n (by omega)
    have hs : fs l n ++ fr (rd_L1 l n) = fs l (n + 1) := (fs_succ hnl).symm
    refine Ev.step (fun k => by rw [parapetlaw3_FrameTorn.l0, if_pos (by omega), if_pos (by omega)]) ?_
    refine Ev.bind (put_f (by simp) (by simp; omega)) ?_
    simp only [List.flatten_cons, List.flatten_nil, List.append_nil]
    rw [putS_fr (by omega)]
    refine Ev.congr (fun k => by rw [if_pos rfl, if_pos (by dsimp only; rw [fr_length]; omega), Option.bind_some, if_pos (by rw [ends_length]; omega)]) ?_
    dsimp only
    rw [hs, ← ends_succ, w64 (by omega) (by omega), show (n : Int) + 1 = ((n + 1 : Nat) : Int) by omega]
    exact torn_l0 cut r H d (n + 1) (by omega)
theorem torn_j3 (n c : Nat) (hn : n ≤ l.length) (h1 : (fs l n).length ≤ c) (h2 : n < l.length → c < (fs l (n + 1)).length) (h3 : c ≤ (fs l l.length).length) :
    Ev (fun k => parapetlaw3_FrameTorn.j3 k l (c : Int) (fs l l.length) (ends l l.length) (n : Int)) true := by
  have hel := ends_length l l.length
  refine Ev.step (fun k => by rw [parapetlaw3_FrameTorn.j3, if_pos (by omega), if_pos (by omega), Int.toNat_natCast]) ?_
  have hsc : Ev (fun k => frame_Scan.f k ((fs l l.length).take c)) (l.take n, ((fs l n).length : Int), if ((fs l n).length : Int) = (c : Int) then 1 else 2) := by
    have := scan_torn l hb hx hl n c hn h1 h2 h3 n 0 (by omega)
    rw [fs_zero, List.take_zero] at this
    exact this
  refine Ev.bind hsc ?_
  refine Ev.congr (fun k => by rw [if_pos (by omega), if_pos (by omega)]) ?_
  rw [ends_rd l _ n hn]
  have hrows : Ev (fun k => parapetalike_Rows.f k (l.take n) (l.take n)) true := rows_f _ (by rw [List.length_take]; omega) (fun x hx'' => by have := hx x (List.mem_of_mem_take hx''); omega)
  by_cases he : ((fs l n).length : Int) = (c : Int)
  · simp only [if_pos he, Int.toNat_natCast]
    refine Ev.congr (fun k => by rw [if_pos (by omega)]) (Ev.bind hrows ?_)
    simp only [if_true]
    exact awake_then
  · simp only [if_neg he, Int.toNat_natCast]
    refine Ev.congr (fun k => by rw [if_pos (by omega)]) (Ev.bind hrows ?_)
    simp only [if_true]
    exact awake_then
theorem torn_l1 (c : Nat) (h3 : c ≤ (fs l l.length).length) : ∀ (d n : Nat), n + d = l.length → (fs l n).length ≤ c →
    Ev (fun k => parapetlaw3_FrameTorn.l1 k l (c : Int) (fs l l.length) (ends l l.length) (n : Int)) true := by
  have hel := ends_length l l.length
  intro d
  induction d with
  | zero =>
    intro n hn h1
    refine Ev.step (fun k => by rw [parapetlaw3_FrameTorn.l1, w64 (by omega) (by omega), if_neg (by omega)]) ?_
    exact torn_j3 l hb hx hl n c (by omega) h1 (fun h => by omega) h3
  | succ d ih =>
    intro n hn h1
    have er : rd (ends l l.length) ((n : Int) + 1) = ((fs l (n + 1)).length : Int) := ends_rd l _ (n + 1) (by omega)
    by_cases h2 : (fs l (n + 1)).length ≤ c
    · refine Ev.step (fun k => by rw [parapetlaw3_FrameTorn.l1, w64 (by omega) (by omega), if_pos (by omega), if_pos (by omega), er, if_pos (by omega), show (n : Int) + 1 = ((n + 1 : Nat) : Int) by omega]) ?_
      exact ih (n + 1) (by omega) h2
    · refine Ev.step (fun k => by rw [parapetlaw3_FrameTorn.l1, w64 (by omega) (by omega), if_pos (by omega), if_pos (by omega), er, if_neg (by omega)]) ?_
      exact torn_j3 l hb hx hl n c (by omega) h1 (fun h => by omega) h3
end
theorem FrameTorn (l : List (List Int)) (cut : Int) (hb : ∀ x ∈ l, Bytes x) (hc : l.length < 4611686018427387904) (hl : l.flatten.length < 140737488355328) : ∃ k, parapetlaw3_FrameTorn.f k l cut = some true := by
  refine Ev.rounds (g := fun k => parapetlaw3_FrameTorn.f k l cut) ?_
  unfold parapetlaw3_FrameTorn.f
  refine Ev.bind (joined_f l hc hl) ?_
  have out : Ev (fun k => parapetlaw3_FrameTorn.j0 k l cut true) true := Ev.step (fun k => by rw [parapetlaw3_FrameTorn.j0, if_pos rfl]) awake_then
  by_cases h : (l.flatten.length : Int) > 4000
  · simp only [if_pos h]; exact out
  simp only [if_neg h]
  by_cases h2 : (l.length : Int) > 20
  · simp only [decide_eq_true h2]; exact out
  simp only [decide_eq_false h2]
  have hx : ∀ x ∈ l, x.length ≤ 4000 := fun x hx => by have := len_mem hx; omega
  have hsm := fs_small l hb hx (by omega) l.length (by omega)
  refine Ev.step (fun k => by rw [parapetlaw3_FrameTorn.j0, if_neg (by decide)]) ?_
  obtain ⟨c, hcut, hc0, hc1⟩ := round_f cut ((fs l l.length).length + 1) (by omega) (by omega)
  obtain ⟨c, rfl⟩ := Int.eq_ofNat_of_zero_le hc0
  have := torn_l0 l hb hx (by omega) cut true (by
    refine Ev.step (fun k => by rw [parapetlaw3_FrameTorn.l0, if_neg (by omega), w64 (by omega) (by omega), hcut, Option.bind_some]) ?_
    have := torn_l1 l hb hx (by omega) c (by omega) l.length 0 (by omega) (by rw [fs_zero]; simp)
    exact this) l.length 0 (by omega)
  rw [fs_zero] at this
  exact this
end Go.Proofs.Ytgbhkcpplcgmiaa.PA
