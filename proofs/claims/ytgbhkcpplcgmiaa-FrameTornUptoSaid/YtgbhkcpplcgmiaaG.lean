/- parapetlaw3.awake: its contract by hand: '[]byte("a")' of a constant keeps it out of the print. Only the way on which it answers true is told. -/
import Derived.Test.YtgbhkcpplcgmiaaF
import Derived.Test.YtgbhkcpplcgmiaaPAx3
import Derived.Lib.SlBytesConst
namespace Go.Proofs.Ytgbhkcpplcgmiaa.PA
open Go.RowKit Go.Proofs.YtgbhkcpplcgmiaaW.PrintWords Go.Proofs.YtgbhkcpplcgmiaaW.PrintLast Go.Proofs.YtgbhkcpplcgmiaaW.PrintMore
set_option linter.unusedVariables false
set_option linter.unusedSimpArgs false
def parapetlaw3_awake.f (k : Nat) : Option (Bool) := (frame_Put.f k ([[97]] : List (List Int))).bind fun b => (frame_Next.f k ([0, 0] : List Int)).bind fun x => (frame_Next.f k ([255, 0, 0, 0] : List Int)).bind fun y => (frame_CRC.f k ([[49, 50, 51, 52, 53, 54, 55, 56, 57]] : List (List Int))).bind fun c =>
  if b.2 = true ∧ b.1.length = 9 ∧ rd b.1 3 = 1 ∧ x.2.2 = 2 ∧ y.2.2 = 3 ∧ c = 3421780262 then some true else none
theorem parapetlaw3_awake.mono : ∀ k, LeO (parapetlaw3_awake.f k) (parapetlaw3_awake.f (k + 1)) := by
  intro k
  unfold parapetlaw3_awake.f
  exact LeO.bind (frame_Put.mono _ _) fun b => LeO.bind (frame_Next.mono _ _) fun x => LeO.bind (frame_Next.mono _ _) fun y => LeO.bind (frame_CRC.mono _ _) fun c => LeO.refl _
/-- A new row, marked or not, as it is read. -/
theorem C_lit1 {α : Type} {d : Kd α} (h1 : d.sz = 1) {W : World} {T : Nat} {fz : Nat × Nat} : ∀ (vs : List Value) (xs : List α), vs.length = xs.length → xs.length ≤ 9223372036854775807 → (∀ (j : Nat) (v : Value) (x : α), vs[j]? = some v → xs[j]? = some x → d.K (W.alloc (.cells vs.toArray T fz)) x [v]) →
    Kd.C d (W.alloc (.cells vs.toArray T fz)) (some ⟨W.heap.size, 0, none⟩) xs.length xs := by
  intro vs xs hlen hmax h
  refine ⟨rfl, hmax, fun _ => ⟨_, rfl, fun j p hj => ?_⟩⟩
  have hjl : j < vs.length := by
    have := (List.getElem?_eq_some_iff.1 hj).1
    omega
  refine ⟨[vs[j]], by rw [h1]; rfl, h j _ p (List.getElem?_eq_getElem hjl) hj, fun i u hu => ?_⟩
  obtain ⟨rfl, rfl⟩ : i = 0 ∧ u = vs[j] := by
    cases i with
    | zero => exact ⟨rfl, by simpa using hu.symm⟩
    | succ i => simp at hu
  have hh := heap_alloc_new W (.cells vs.toArray T fz)
  rw [h1, Nat.mul_one, Nat.add_zero, add_plain]
  unfold World.cell?
  simp only [hh]
  simp [hjl]
theorem C_u8 {W : World} {fz : Nat × Nat} (xs : List Int) (h : xs.length ≤ 9223372036854775807) : Kd.C (Kd.int .u8) (W.alloc (.cells (xs.map (Value.int .u8)).toArray 5 fz)) (some ⟨W.heap.size, 0, none⟩) xs.length xs :=
  C_lit1 (d := Kd.int .u8) rfl _ xs (by simp) h (fun j v x hv hx => by
    rw [List.getElem?_map, hx] at hv
    obtain rfl := Option.some.inj hv
    rfl)
theorem V_of_C {W : World} {A : Option Addr} {c : Nat} {xs : List Int} (h : Kd.C (Kd.int .u8) W A xs.length xs) (hc : xs.length ≤ c) : Kd.V (Kd.int .u8) 5 W W.heap.size (fun _ => True) (.slice A xs.length c) xs :=
  Kd.V_mk hc (fun W' hW => (Kd.heap_int .u8).C (fun k hk => hW k trivial hk) h)
theorem K_one {W : World} {A : Option Addr} {c : Nat} {x : List Int} (h : Kd.C (Kd.int .u8) W A x.length x) (hc : x.length ≤ c) :
    Kd.C (Kd.slice 5 (Kd.int .u8)) (W.alloc (.cells #[.slice A x.length c] 23)) (some ⟨W.heap.size, 0, none⟩) 1 [x] :=
  C_lits (d := Kd.slice 5 (Kd.int .u8)) rfl [.slice A x.length c] [x] rfl (by simp) (fun j v y hv hx => by
    match j, hv, hx with
    | 0, hv, hx => obtain rfl : Value.slice A x.length c = v := by simpa using hv
                   obtain rfl : x = y := by simpa using hx
                   exact ⟨A, c, rfl, hc, h⟩
    | j + 1, hv, hx => simp at hv)
theorem K_one' {W : World} {fz : Nat × Nat} (xs : List Int) (h : xs.length ≤ 9223372036854775807) :
    Kd.C (Kd.slice 5 (Kd.int .u8)) ((W.alloc (.cells (xs.map (Value.int .u8)).toArray 5 fz)).alloc (.cells #[.slice (some ⟨W.heap.size, 0, none⟩) xs.length xs.length] 23)) (some ⟨W.heap.size + 1, 0, none⟩) 1 [xs] := by
  have := K_one (C_u8 (W := W) (fz := fz) xs h) (Nat.le_refl _)
  rwa [show (W.alloc (.cells (xs.map (Value.int .u8)).toArray 5 fz)).heap.size = W.heap.size + 1 by simp] at this
theorem next_at (k : Nat) (n : Nat) (A0 : Option Addr) (c0 : Nat) (l0 : List Int) (hn : l0.length = n) (r1 : List Int) (r2 r3 : Int) (w : World) (hr : Kd.C (Kd.int .u8) w A0 l0.length l0) (hc : l0.length ≤ c0) (h : frame_Next.f k l0 = some (r1, r2, r3)) :
    Calls Try.prog 16 #[.slice A0 n c0] w fun e w' => ∃ v0_ : Value, e = .returned (.tuple #[v0_, .int .i64 r2, .int .i64 r3]) ∧ Below w.heap.size w w' := by
  subst hn
  refine (frame_Next.calls k (fun _ => True) A0 c0 l0 r1 r2 r3 w (V_of_C hr hc) h).mono ?_
  rintro e w' ⟨v, he, _, hb⟩
  exact ⟨v, he, hb⟩
theorem crc_at (k : Nat) (n : Nat) (A0 : Option Addr) (c0 : Nat) (l0 : List (List Int)) (hn : l0.length = n) (r : Int) (w : World) (hr : Kd.C (Kd.slice 5 (Kd.int .u8)) w A0 n l0) (hc : n ≤ c0) (h : frame_CRC.f k l0 = some r) :
    Calls Try.prog 14 #[.slice A0 n c0] w fun e w' => e = .returned (.int .u32 r) ∧ Drawn0 w w' := by
  subst hn
  exact frame_CRC.calls k A0 c0 l0 r w hr hc h
set_option maxHeartbeats 8000000 in
set_option maxRecDepth 100000 in
theorem parapetlaw3_awake.calls (k : Nat) (r : Bool) (w : World) (h : parapetlaw3_awake.f k = some r) :
    Calls Try.prog 10 #[] w fun e w' => e = .returned (.bool r) ∧ Below w.heap.size w w' := by
  unfold parapetlaw3_awake.f at h
  obtain ⟨⟨b1, b2⟩, hb, h⟩ := Option.bind_eq_some_iff.mp h
  obtain ⟨⟨x1, x2, x3⟩, hx, h⟩ := Option.bind_eq_some_iff.mp h
  obtain ⟨⟨y1, y2, y3⟩, hy, h⟩ := Option.bind_eq_some_iff.mp h
  obtain ⟨c, hc, h⟩ := Option.bind_eq_some_iff.mp h
  by_cases hh : b2 = true ∧ b1.length = 9 ∧ rd b1 3 = 1 ∧ x3 = 2 ∧ y3 = 3 ∧ c = 3421780262
  case neg => rw [if_neg hh] at h; cases h
  rw [if_pos hh] at h
  obtain rfl := Option.some.inj h
  obtain ⟨rfl, hl, hr, rfl, rfl, rfl⟩ := hh
  clear h
  have A1 := Aside0.mk hb
  have A2 := Aside0.mk hx
  have A3 := Aside0.mk hy
  have A4 := Aside0.mk hc
  have HL := Aside0.mk hl
  have HR := Aside0.mk hr
  clear hb hx hy hc hl hr
  have kc := fun (w : World) (C : Array Value) (n c : Nat) => Lib.run_convert_bytes_const (P := Try.prog) w 23 5 C n c Try.underlying23 Try.underlying5
  have HC1 := Aside0.mk (K_one' (W := w) (fz := (1, 2)) [97] (by decide))
  go_enter Try.func10, Try.ntmps10
  go_wp2_with (go_at_call 11; refine (frame_Put.calls k _ _ ([[97]] : List (List Int)) b1 true _ ?s1 ?s2 A1.out).mono ?_; (case s1 => exact HC1.out); (case s2 => exact (Nat.le_refl 1)); rintro e w1 ⟨v1, rfl, ho, hb⟩; obtain ⟨B1, d1, rfl⟩ := Kd.R_slice ho; have HB := Aside0.mk hb; have HO1 := Aside0.mk ho; clear ho hb)
  have HN2 := Aside0.mk (C_u8 (W := w1) (fz := (0, 0)) [0, 0] (by decide))
  go_wp2_with (go_at_call 16; (with_reducible refine (next_at k 2 _ _ ([0, 0] : List Int) rfl x1 x2 2 _ ?s1 ?s2 A2.out).mono ?_); (case s1 => exact HN2.out); (case s2 => exact Nat.le_refl 2); rintro e w2 ⟨v2, rfl, hb⟩; have HB2 := Aside0.mk hb; clear hb)
  have HN3 := Aside0.mk (C_u8 (W := w2) (fz := (0, 0)) [255, 0, 0, 0] (by decide))
  have e1 := below_step (below_alloc (below_alloc (Below.refl w.heap.size w) (.cells #[.int .u8 97] 5 (1, 2))) (.cells #[.slice (some ⟨w.heap.size, 0, none⟩) 1 1] 23)) HB.out
  have e2 := below_step (below_alloc e1 (.cells #[.int .u8 0, .int .u8 0] 5)) HB2.out
  have HE2 := Aside0.mk e2
  have HO2 := Aside0.mk (Kd.R_below (Kd.R_alloc HO1.out (.cells #[.int .u8 0, .int .u8 0] 5)) HB2.out)
  clear e1 e2 HO1 HB HB2 HN2
  go_wp2_with (go_at_call 16; (with_reducible refine (next_at k 4 _ _ ([255, 0, 0, 0] : List Int) rfl y1 y2 3 _ ?s1 ?s2 A3.out).mono ?_); (case s1 => exact HN3.out); (case s2 => exact Nat.le_refl 4); rintro e w3 ⟨v3, rfl, hb⟩; have HE3 := Aside0.mk (below_step (below_alloc HE2.out (.cells #[.int .u8 255, .int .u8 0, .int .u8 0, .int .u8 0] 5)) hb); obtain ⟨ad, ed, hx⟩ := Kd.at_int (Kd.R_reads' (Kd.R_below (Kd.R_alloc HO2.out (.cells #[.int .u8 255, .int .u8 0, .int .u8 0, .int .u8 0] 5)) hb)).2.2 3 (by decide) (by have := HL.out; omega); clear hb; cases ed; rw [HR.out] at hx; have hx3 : w3.cell? (ad.add 3) = some (.int .u8 1) := hx; (try simp only [Go.Addr.add, Nat.reduceEqDiff, ↓reduceIte] at hx3); clear hx; have hl9 := HL.out)
  have HC4 := Aside0.mk (K_one' (W := w3) (fz := (9, 10)) [49, 50, 51, 52, 53, 54, 55, 56, 57] (by decide))
  go_wp2_with (go_at_call 14; (with_reducible refine (crc_at k 1 _ _ ([[49, 50, 51, 52, 53, 54, 55, 56, 57]] : List (List Int)) rfl 3421780262 _ ?s1 ?s2 A4.out).mono ?_); (case s1 => exact HC4.out); (case s2 => exact Nat.le_refl 1); rintro e w4 ⟨rfl, ⟨nd, rfl⟩⟩)
  go_ret
  exact ⟨rfl, pw_below_drewN (below_alloc (below_alloc HE3.out _) _) nd⟩
end Go.Proofs.Ytgbhkcpplcgmiaa.PA
