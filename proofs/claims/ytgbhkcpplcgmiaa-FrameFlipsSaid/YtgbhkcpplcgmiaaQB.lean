/- The plain law of a frame of which one byte is changed. -/
import Derived.Test.YtgbhkcpplcgmiaaPAx9
import Derived.Test.YtgbhkcpplcgmiaaQA
namespace Go.Proofs.Ytgbhkcpplcgmiaa.PA
open Go.RowKit Go.Proofs.YtgbhkcpplcgmiaaW.PrintWords Go.Proofs.YtgbhkcpplcgmiaaW.PrintLast Go.Proofs.YtgbhkcpplcgmiaaW.PrintMore
set_option linter.unusedVariables false
set_option linter.unusedSimpArgs false
set_option linter.unusedSectionVars false
/-! flips -/
theorem bytes_l0 (a b : List Int) (he : a.length = b.length) (ha : a.length < 4611686018427387904) : ∀ (d n : Nat), n + d = a.length → Ev (fun k => parapetalike_Bytes.l0 k a b (n : Int)) (decide (a.drop n = b.drop n))
  | 0, n, hn => Ev.step (fun k => by rw [parapetalike_Bytes.l0, if_neg (by omega)]) (by
      rw [List.drop_eq_nil_of_le (by omega), List.drop_eq_nil_of_le (by omega)]; exact Ev.now _)
  | d + 1, n, hn => by
    have h1 : a.drop n = rd a n :: a.drop (n + 1) := drop_rd (by omega)
    have h2 : b.drop n = rd b n :: b.drop (n + 1) := drop_rd (by omega)
    refine Ev.step (fun k => by rw [parapetalike_Bytes.l0, if_pos (by omega), if_pos (by omega), if_pos (by omega)]) ?_
    by_cases h : rd a n = rd b n
    · refine Ev.congr (fun k => by rw [if_pos h, w64 (by omega) (by omega), show (n : Int) + 1 = ((n + 1 : Nat) : Int) by omega]) ?_
      have := bytes_l0 a b he ha d (n + 1) (by omega)
      have e : decide (a.drop n = b.drop n) = decide (a.drop (n + 1) = b.drop (n + 1)) := by
        rw [h1, h2, h]; simp
      rw [e]; exact this
    · refine Ev.congr (fun k => by rw [if_neg h]) ?_
      have e : decide (a.drop n = b.drop n) = false := by
        rw [h1, h2]; simp [h]
      rw [e]; exact Ev.now _
theorem bytes_f (a b : List Int) (ha : a.length < 4611686018427387904) : Ev (fun k => parapetalike_Bytes.f k a b) (decide (a = b)) := by
  unfold parapetalike_Bytes.f
  by_cases h : (a.length : Int) = (b.length : Int)
  · simp only [if_pos h]
    have := bytes_l0 a b (by omega) ha a.length 0 (by omega)
    simpa using this
  · simp only [if_neg h]
    have e : decide (a = b) = false := decide_eq_false (fun e => h (by rw [e]))
    rw [e]; exact Ev.now _
theorem xor8 (x y : Int) (hx : 0 ≤ x ∧ x < 256) (hy : 0 < y ∧ y < 256) : (0 ≤ Go.bits .xor .u8 x y ∧ Go.bits .xor .u8 x y < 256) ∧ Go.bits .xor .u8 x y ≠ x := by
  obtain ⟨a, rfl⟩ := Int.eq_ofNat_of_zero_le hx.1
  obtain ⟨b, rfl⟩ := Int.eq_ofNat_of_zero_le (by omega : 0 ≤ y)
  have ha : a < 256 := by omega
  have hb : b < 256 := by omega
  have e : Go.bits .xor .u8 (a : Int) (b : Int) = ((a ^^^ b : Nat) : Int) := by
    have e1 : (BitVec.ofInt IntKind.u8.bits (a : Int) ^^^ BitVec.ofInt IntKind.u8.bits (b : Int)).toNat = a ^^^ b := by
      rw [BitVec.ofInt_natCast, BitVec.ofInt_natCast, BitVec.toNat_xor, BitVec.toNat_ofNat, BitVec.toNat_ofNat]
      have h1 : a % 2 ^ IntKind.u8.bits = a := Nat.mod_eq_of_lt (by simp [IntKind.bits]; omega)
      have h2 : b % 2 ^ IntKind.u8.bits = b := Nat.mod_eq_of_lt (by simp [IntKind.bits]; omega)
      rw [h1, h2]
    unfold Go.bits
    simp only [e1]
    rw [IntKind.wrap_u8]
    have : a ^^^ b < 2 ^ 8 := Nat.xor_lt_two_pow (by omega) (by omega)
    omega
  have hlt : a ^^^ b < 2 ^ 8 := Nat.xor_lt_two_pow (by omega) (by omega)
  refine ⟨by rw [e]; omega, fun h => ?_⟩
  rw [e] at h
  have h' : a ^^^ b = a := by omega
  have : a ^^^ (a ^^^ b) = b := by rw [← Nat.xor_assoc, Nat.xor_self, Nat.zero_xor]
  rw [h', Nat.xor_self] at this
  omega
theorem rd_set (l : List Int) (t : Nat) (v : Int) (i : Nat) (h : t < l.length) : rd (l.set t v) (i : Int) = if i = t then v else rd l i := by
  simp only [rd, Int.toNat_natCast, List.getD_eq_getElem?_getD, List.getElem?_set]
  by_cases e : t = i
  · subst e; simp [h]
  · rw [if_neg e, if_neg (fun h => e h.symm)]
theorem rd_drop (l : List Int) (n i : Nat) : rd (l.drop n) (i : Int) = rd l ((n + i : Nat) : Int) := by
  simp only [rd, Int.toNat_natCast, List.getD_eq_getElem?_getD, List.getElem?_drop]
theorem be4_at (l : List Int) (n : Nat) : be4 (l.drop n) = rd l ((n + 0 : Nat) : Int) * 16777216 + rd l ((n + 1 : Nat) : Int) * 65536 + rd l ((n + 2 : Nat) : Int) * 256 + rd l ((n + 3 : Nat) : Int) := by
  unfold be4
  rw [show (0 : Int) = ((0 : Nat) : Int) from rfl, show (1 : Int) = ((1 : Nat) : Int) from rfl, show (2 : Int) = ((2 : Nat) : Int) from rfl, show (3 : Int) = ((3 : Nat) : Int) from rfl, rd_drop, rd_drop, rd_drop, rd_drop]
/-- A number whose one byte is another is another. -/
theorem be4_set {l : List Int} (h : Bytes l) (n t : Nat) (v : Int) (hv : 0 ≤ v ∧ v < 256) (hne : v ≠ rd l (t : Int)) (h1 : n ≤ t) (h2 : t < n + 4) (h3 : t < l.length) : be4 ((l.set t v).drop n) ≠ be4 (l.drop n) := by
  rw [be4_at, be4_at, rd_set _ _ _ _ h3, rd_set _ _ _ _ h3, rd_set _ _ _ _ h3, rd_set _ _ _ _ h3]
  have b0 := h.rd ((n + 0 : Nat) : Int); have b1 := h.rd ((n + 1 : Nat) : Int); have b2 := h.rd ((n + 2 : Nat) : Int); have b3 := h.rd ((n + 3 : Nat) : Int)
  rcases (by omega : t = n + 0 ∨ t = n + 1 ∨ t = n + 2 ∨ t = n + 3) with rfl | rfl | rfl | rfl
  · rw [if_pos (by omega), if_neg (by omega), if_neg (by omega), if_neg (by omega)]; have e : rd l ((t + 0 : Nat) : Int) = rd l (t : Int) := rfl; omega
  · rw [if_neg (by omega), if_pos (by omega), if_neg (by omega), if_neg (by omega)]; omega
  · rw [if_neg (by omega), if_neg (by omega), if_pos (by omega), if_neg (by omega)]; omega
  · rw [if_neg (by omega), if_neg (by omega), if_neg (by omega), if_pos (by omega)]; omega
/-- One byte of a frame is another: no whole frame of that payload. -/
theorem flip {p : List Int} (hp : Bytes p) (hl : p.length ≤ 4000) (t : Nat) (ht : t < (fr p).length) (v : Int) (hv : 0 ≤ v ∧ v < 256) (hne : v ≠ rd (fr p) (t : Int)) :
    (nextS ((fr p).set t v)).2.2 = 1 → (nextS ((fr p).set t v)).2.1 = ((fr p).length : Int) → (nextS ((fr p).set t v)).1 ≠ p := by
  have hb : Bytes (fr p) := lay4_crc_bytes hp
  have hlen : ((fr p).set t v).length = 8 + p.length := by rw [List.length_set, fr_length]
  have hf : be4 (fr p) = p.length := by have := fr_be4 (x := p) [] (by omega); rwa [List.append_nil] at this
  rw [fr_length] at ht
  intro hk hn
  by_cases h4 : t < 4
  · exfalso
    have hx := be4_set hb 0 t v hv hne (by omega) (by omega) (by rw [fr_length]; omega)
    rw [List.drop_zero, List.drop_zero, hf] at hx
    revert hk hn
    unfold nextS
    repeat' split
    all_goals simp
    rw [fr_length]
    omega
  have e0 : be4 ((fr p).set t v) = p.length := by
    rw [← hf]
    unfold be4
    rw [show (0 : Int) = ((0 : Nat) : Int) from rfl, show (1 : Int) = ((1 : Nat) : Int) from rfl, show (2 : Int) = ((2 : Nat) : Int) from rfl, show (3 : Int) = ((3 : Nat) : Int) from rfl,
      rd_set _ _ _ _ (by rw [fr_length]; omega), rd_set _ _ _ _ (by rw [fr_length]; omega), rd_set _ _ _ _ (by rw [fr_length]; omega), rd_set _ _ _ _ (by rw [fr_length]; omega),
      if_neg (by omega), if_neg (by omega), if_neg (by omega), if_neg (by omega)]
  have e1 : ((fr p).set t v).take (8 + (p.length : Int)).toNat = (fr p).set t v := List.take_of_length_le (by rw [hlen]; omega)
  have hfd : (fr p).drop 8 = p := by
    rw [show fr p = (lay4 p.length ++ lay4 (crc (lay4 p.length ++ p))) ++ p from rfl, show (8 : Nat) = (lay4 p.length ++ lay4 (crc (lay4 p.length ++ p))).length from rfl, List.drop_left]
  have e5 : be4 ((fr p).drop 4) = crc (lay4 p.length ++ p) := by
    rw [show fr p = lay4 p.length ++ (lay4 (crc (lay4 p.length ++ p)) ++ p) by simp [fr], show (4 : Nat) = (lay4 (p.length : Int)).length from rfl, List.drop_left]
    exact be4_lay4 _ _ (crc_range _).1 (crc_range _).2
  have e6 : (fr p).take 4 = lay4 p.length := by
    rw [show fr p = lay4 p.length ++ (lay4 (crc (lay4 p.length ++ p)) ++ p) by simp [fr], show (4 : Nat) = (lay4 (p.length : Int)).length from rfl, List.take_left]
  have h7 : ((fr p).set t v).take 4 = (fr p).take 4 := by rw [List.take_set, List.set_eq_of_length_le (by rw [List.length_take]; omega)]
  by_cases h8 : t < 8
  · exfalso
    have hx := be4_set hb 4 t v hv hne (by omega) (by omega) (by rw [fr_length]; omega)
    have h9 : ((fr p).set t v).drop 8 = p := by rw [List.drop_set, if_pos h8, hfd]
    revert hk
    unfold nextS
    rw [e0, e1, h7, h9, e6, hlen, if_neg (by omega), if_neg (by omega), if_neg (by omega), if_neg (fun h => hx (by rw [← h, e5]))]
    decide
  · have h9 : ((fr p).set t v).drop 8 = p.set (t - 8) v := by rw [List.drop_set, if_neg h8, hfd]
    have h10 : (nextS ((fr p).set t v)).1 = p.set (t - 8) v := by
      revert hk
      unfold nextS
      rw [e0, e1, h9, hlen, if_neg (by omega), if_neg (by omega), if_neg (by omega)]
      split <;> simp
    rw [h10]
    intro h11
    have h12 : rd (p.set (t - 8) v) ((t - 8 : Nat) : Int) = rd p ((t - 8 : Nat) : Int) := by rw [h11]
    rw [rd_set _ _ _ _ (by omega), if_pos rfl] at h12
    have h13 : rd (fr p) (t : Int) = rd p ((t - 8 : Nat) : Int) := by
      rw [← hfd, rd_drop, show 8 + (t - 8) = t by omega]
      rw [hfd]
    exact hne (by rw [h12, h13])
theorem FrameFlips : parapetlaw3_FrameFlips.Pure := by
  intro p at_ x hm hs hw ha hx
  refine Ev.rounds (g := fun k => parapetlaw3_FrameFlips.f k p at_ x) ?_
  have hp := bytes_wf hw
  unfold parapetlaw3_FrameFlips.f
  by_cases h : (p.length : Int) > 4000
  · simp only [if_pos h]; exact awake_then
  simp only [if_neg h]
  refine Ev.bind (put_f (by simp) (by simp; omega)) ?_
  simp only [List.flatten_cons, List.flatten_nil, List.append_nil]
  rw [putS_fr (by omega)]
  have hfl := fr_length p
  refine Ev.congr (fun k => by rw [if_pos rfl, show (((fr p, true).1.length : Int) != wrap64 ((p.length : Int) + 8)) = false by rw [w64 (by omega) (by omega)]; simp only [hfl, bne_eq_false_iff_eq]; omega]) ?_
  refine Ev.step (fun k => by rw [parapetlaw3_FrameFlips.j0, if_neg (by decide)]) ?_
  obtain ⟨t, ht, ht0, ht1⟩ := round_f at_ ((fr p).length : Int) (by omega) (by omega)
  obtain ⟨y, hy, hy0, hy1⟩ := round_f x 255 (by omega) (by omega)
  obtain ⟨t, rfl⟩ := Int.eq_ofNat_of_zero_le ht0
  have hvr := xor8 (rd (fr p) (t : Int)) (y + 1) ((lay4_crc_bytes hp).rd _) (by omega)
  refine Ev.congr (fun k => by rw [ht, Option.bind_some, if_pos ht0, if_pos ht1, hy, Option.bind_some, w64 (by omega) (by omega), show (y + 1) % 256 = y + 1 by omega, show ((t : Int)).toNat = t from rfl]) ?_
  have hb' : Bytes ((fr p).set t (Go.bits .xor .u8 (rd (fr p) (t : Int)) (y + 1))) := by
    intro z hz
    rcases List.mem_or_eq_of_mem_set hz with h | rfl
    · exact lay4_crc_bytes hp z h
    · exact hvr.1
  refine Ev.bind (next_f hb') ?_
  have hflip := flip hp (by omega) t (by omega) _ hvr.1 hvr.2
  by_cases h1 : (nextS ((fr p).set t (Go.bits .xor .u8 (rd (fr p) (t : Int)) (y + 1)))).2.2 = 1
  · by_cases h2 : (nextS ((fr p).set t (Go.bits .xor .u8 (rd (fr p) (t : Int)) (y + 1)))).2.1 = ((fr p).length : Int)
    · refine Ev.congr (fun k => by rw [if_pos h1, if_pos h2]) ?_
      refine Ev.bind (bytes_f (nextS ((fr p).set t (Go.bits .xor .u8 (rd (fr p) (t : Int)) (y + 1)))).1 p (by have := nextS_len ((fr p).set t (Go.bits .xor .u8 (rd (fr p) (t : Int)) (y + 1))); rw [List.length_set] at this; omega)) ?_
      rw [decide_eq_false (hflip h1 h2)]
      exact Ev.congr (fun k => by rw [if_neg (by decide)]) awake_then
    · exact Ev.congr (fun k => by rw [if_pos h1, if_neg h2]) awake_then
  · exact Ev.congr (fun k => by rw [if_neg h1]) awake_then
end Go.Proofs.Ytgbhkcpplcgmiaa.PA
