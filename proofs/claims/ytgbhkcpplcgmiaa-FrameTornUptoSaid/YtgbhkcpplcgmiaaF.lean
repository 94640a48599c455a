/- frame.Put: its contract by hand, in the form of the print: the two rows that stand in two literals keep it out of the print. -/
import Derived.Test.YtgbhkcpplcgmiaaPAx1
import Derived.Test.YtgbhkcpplcgmiaaPAx2
namespace Go.Proofs.Ytgbhkcpplcgmiaa.PA
open Go.RowKit Go.Proofs.YtgbhkcpplcgmiaaW.PrintWords Go.Proofs.YtgbhkcpplcgmiaaW.PrintLast Go.Proofs.YtgbhkcpplcgmiaaW.PrintMore
set_option linter.unusedVariables false
set_option linter.unusedSimpArgs false
def frame_Put.f (k : Nat) (l0 : List (List Int)) : Option (List Int × Bool) := (slices_Concat_byte_byte.f k l0).bind fun body => (if (body.length : Int) > 131072 then (some (([] : List Int), false)) else ((frame_laid.f ((body.length : Int) % 4294967296)).bind fun n => ((frame_CRC.f k ([n, body] : List (List Int))).bind fun c => ((frame_laid.f c).bind fun m => ((slices_Concat_byte_byte.f k ([n, m, body] : List (List Int))).bind fun b => (some (b, true)))))))
theorem frame_Put.mono : ∀ a0 k, LeO (frame_Put.f k a0) (frame_Put.f (k + 1) a0) := by
  intro a0 k
  unfold frame_Put.f
  refine LeO.bind (slices_Concat_byte_byte.mono _ _) fun body => LeO.ite (LeO.refl _) (LeO.bind (LeO.refl _) fun n => LeO.bind (frame_CRC.mono _ _) fun c => LeO.bind (LeO.refl _) fun m => LeO.bind (slices_Concat_byte_byte.mono _ _) fun b => LeO.refl _)
/-- A new row of rows that are there, as they are read. -/
theorem C_lits {α : Type} {d : Kd α} (h1 : d.sz = 1) {W : World} {T : Nat} : ∀ (vs : List Value) (xs : List α), vs.length = xs.length → xs.length ≤ 9223372036854775807 → (∀ (j : Nat) (v : Value) (x : α), vs[j]? = some v → xs[j]? = some x → d.K W x [v]) →
    Kd.C d (W.alloc (.cells vs.toArray T)) (some ⟨W.heap.size, 0, none⟩) xs.length xs := by
  intro vs xs hlen hmax h
  refine ⟨rfl, hmax, fun _ => ⟨_, rfl, fun j p hj => ?_⟩⟩
  have hjl : j < vs.length := by
    have := (List.getElem?_eq_some_iff.1 hj).1
    omega
  refine ⟨[vs[j]], by rw [h1]; rfl, d.K_below (below_alloc (Below.refl _ _) _) (h j _ p (List.getElem?_eq_getElem hjl) hj), fun i u hu => ?_⟩
  obtain ⟨rfl, rfl⟩ : i = 0 ∧ u = vs[j] := by
    cases i with
    | zero => exact ⟨rfl, by simpa using hu.symm⟩
    | succ i => simp at hu
  have hh := heap_alloc_new W (.cells vs.toArray T)
  rw [h1, Nat.mul_one, Nat.add_zero, add_plain]
  unfold World.cell?
  simp only [hh]
  simp [hjl]
theorem K_own {W : World} {v : Value} {x : List Int} {base : Nat} {ok : Nat → Prop} (h : Kd.R (Kd.int .u8) 5 W base ok v x) : (Kd.slice 5 (Kd.int .u8)).K W x [v] := by
  obtain ⟨A, c, rfl⟩ := Kd.R_slice h
  exact ⟨A, c, rfl, (Kd.R_reads' h).2.1, (Kd.R_reads' h).2.2⟩
theorem K_two {W : World} {v0 v1 : Value} {x0 x1 : List Int} (h0 : (Kd.slice 5 (Kd.int .u8)).K W x0 [v0]) (h1 : (Kd.slice 5 (Kd.int .u8)).K W x1 [v1]) :
    Kd.C (Kd.slice 5 (Kd.int .u8)) (W.alloc (.cells #[v0, v1] 23)) (some ⟨W.heap.size, 0, none⟩) 2 [x0, x1] :=
  C_lits (d := Kd.slice 5 (Kd.int .u8)) rfl [v0, v1] [x0, x1] rfl (by simp) (fun j v x hv hx => by
    match j, hv, hx with
    | 0, hv, hx => obtain rfl : v0 = v := by simpa using hv
                   obtain rfl : x0 = x := by simpa using hx
                   exact h0
    | 1, hv, hx => obtain rfl : v1 = v := by simpa using hv
                   obtain rfl : x1 = x := by simpa using hx
                   exact h1
    | j + 2, hv, hx => simp at hv)
theorem K_three {W : World} {v0 v1 v2 : Value} {x0 x1 x2 : List Int} (h0 : (Kd.slice 5 (Kd.int .u8)).K W x0 [v0]) (h1 : (Kd.slice 5 (Kd.int .u8)).K W x1 [v1]) (h2 : (Kd.slice 5 (Kd.int .u8)).K W x2 [v2]) :
    Kd.C (Kd.slice 5 (Kd.int .u8)) (W.alloc (.cells #[v0, v1, v2] 23)) (some ⟨W.heap.size, 0, none⟩) 3 [x0, x1, x2] :=
  C_lits (d := Kd.slice 5 (Kd.int .u8)) rfl [v0, v1, v2] [x0, x1, x2] rfl (by simp) (fun j v x hv hx => by
    match j, hv, hx with
    | 0, hv, hx => obtain rfl : v0 = v := by simpa using hv
                   obtain rfl : x0 = x := by simpa using hx
                   exact h0
    | 1, hv, hx => obtain rfl : v1 = v := by simpa using hv
                   obtain rfl : x1 = x := by simpa using hx
                   exact h1
    | 2, hv, hx => obtain rfl : v2 = v := by simpa using hv
                   obtain rfl : x2 = x := by simpa using hx
                   exact h2
    | j + 3, hv, hx => simp at hv)
theorem frame_laid.small {a : Int} {r : List Int} (h : frame_laid.f a = some r) : r.length = 4 := by
  unfold frame_laid.f at h
  obtain rfl := Option.some.inj h
  rfl
set_option maxHeartbeats 8000000 in
set_option maxRecDepth 100000 in
theorem frame_Put.calls (k : Nat) (A0 : Option Addr) (c0 : Nat) (l0 : List (List Int)) (r1 : List Int) (r2 : Bool) (w : World) (hr0 : Kd.C (Kd.slice 5 (Kd.int .u8)) w A0 l0.length l0) (hc0 : l0.length ≤ c0) (h : frame_Put.f k l0 = some (r1, r2)) :
    Calls Try.prog 11 #[.slice A0 l0.length c0] w fun e w' => ∃ v0_ : Value, e = .returned (.tuple #[v0_, .bool r2]) ∧ Kd.R (Kd.int .u8) 5 w' w.heap.size (fun _ => True) v0_ r1 ∧ Below w.heap.size w w' := by
  have HR0 := Aside0.mk hr0
  have HC0 := Aside0.mk hc0
  clear hr0 hc0
  unfold frame_Put.f at h
  obtain ⟨body, hb, h⟩ := Option.bind_eq_some_iff.mp h
  have A1 := Aside0.mk hb
  clear hb
  by_cases hl : (body.length : Int) > 131072
  · rw [if_pos hl] at h
    obtain ⟨rfl, rfl⟩ := Prod.mk.inj (Option.some.inj h)
    clear h
    have c1 : decide (131072 < (body.length : Int)) = true := decide_eq_true hl
    have c2 : decide (131072 < body.length) = true := decide_eq_true (by omega)
    clear hl
    go_enter Try.func11, Try.ntmps11
    go_wp2_with (go_at_call 22; refine (slices_Concat_byte_byte.calls k _ _ l0 body _ ?side1 ?side2 A1.out).mono ?_; (case side1 => exact HR0.out); (case side2 => exact HC0.out); rintro e w1 ⟨v1, rfl, ho, hb⟩; obtain ⟨B1, d1, rfl⟩ := Kd.R_slice ho; have HB := Aside0.mk hb; clear ho hb)
    go_ret2
    exact ⟨_, rfl, Kd.R_nil _ _ _ _ _, HB.out⟩
  · rw [if_neg hl] at h
    obtain ⟨n, hn, h⟩ := Option.bind_eq_some_iff.mp h
    obtain ⟨c, hc, h⟩ := Option.bind_eq_some_iff.mp h
    obtain ⟨m, hm, h⟩ := Option.bind_eq_some_iff.mp h
    obtain ⟨b, hb, h⟩ := Option.bind_eq_some_iff.mp h
    obtain ⟨rfl, rfl⟩ := Prod.mk.inj (Option.some.inj h)
    clear h
    have A2 := Aside0.mk hn
    have A3 := Aside0.mk hc
    have A4 := Aside0.mk hm
    have A5 := Aside0.mk hb
    have c1 : decide (131072 < (body.length : Int)) = false := decide_eq_false hl
    have c2 : decide (131072 < body.length) = false := decide_eq_false (by omega)
    clear hl hn hc hm hb
    go_enter Try.func11, Try.ntmps11
    go_wp2_with (go_at_call 22; refine (slices_Concat_byte_byte.calls k _ _ l0 body _ ?side1 ?side2 A1.out).mono ?_; (case side1 => exact HR0.out); (case side2 => exact HC0.out); rintro e w1 ⟨v1, rfl, ho, hb⟩; obtain ⟨B1, d1, rfl⟩ := Kd.R_slice ho; have HB := Aside0.mk hb; have HO1 := Aside0.mk ho; clear ho hb)
    go_wp2_with (go_at_call 23; refine (frame_laid.calls _ n _ A2.out).mono ?_; rintro e w2 ⟨v2, rfl, ho, hb⟩; obtain ⟨B2, d2, rfl⟩ := Kd.R_slice ho; have HB2 := Aside0.mk hb; have HO2 := Aside0.mk ho; clear ho hb)
    have HO1b := Aside0.mk (Kd.R_below HO1.out HB2.out)
    have HC1 := Aside0.mk (K_two (K_own HO2.out) (K_own HO1b.out))
    clear HO1
    go_wp2_with (go_at_call 14; refine (frame_CRC.calls k _ _ ([n, body] : List (List Int)) c _ ?side1 ?side2 A3.out).mono ?_; (case side1 => exact HC1.out); (case side2 => exact (Nat.le_refl 2)); rintro e w3 ⟨rfl, ⟨nd, rfl⟩⟩)
    have HB3 := Aside0.mk (pw_below_drewN (below_alloc HB2.out (.cells #[.slice B2 n.length d2, .slice B1 body.length d1] 23)) nd)
    have HO1c := Aside0.mk (Kd.R_drewN (Kd.R_alloc HO1b.out (.cells #[.slice B2 n.length d2, .slice B1 body.length d1] 23)) nd)
    have HO2c := Aside0.mk (Kd.R_drewN (Kd.R_alloc HO2.out (.cells #[.slice B2 n.length d2, .slice B1 body.length d1] 23)) nd)
    clear HC1
    go_wp2_with (go_at_call 23; refine (frame_laid.calls _ m _ A4.out).mono ?_; rintro e w4 ⟨v4, rfl, ho, hb⟩; obtain ⟨B4, d4, rfl⟩ := Kd.R_slice ho; have HB4 := Aside0.mk hb; have HO4 := Aside0.mk ho; clear ho hb)
    have HO1d := Aside0.mk (Kd.R_below HO1c.out HB4.out)
    have HO2d := Aside0.mk (Kd.R_below HO2c.out HB4.out)
    have HC3 := Aside0.mk (K_three (K_own HO2d.out) (K_own HO4.out) (K_own HO1d.out))
    clear HO1c HO2c HO1b HO2
    go_wp2_with (go_at_call 22; refine (slices_Concat_byte_byte.calls k _ _ ([n, m, body] : List (List Int)) b _ ?side1 ?side2 A5.out).mono ?_; (case side1 => exact HC3.out); (case side2 => exact (Nat.le_refl 3)); rintro e w5 ⟨v5, rfl, ho, hb⟩; have HB5 := Aside0.mk hb; have HO5 := Aside0.mk ho; clear ho hb)
    go_ret2
    have e1 := below_step HB.out HB3.out
    have e2 := below_step e1 HB4.out
    have e3 := below_alloc e2 (.cells #[.slice B2 n.length d2, .slice B4 m.length d4, .slice B1 body.length d1] 23)
    exact ⟨_, rfl, Kd.R_lower HO5.out (below_size e3), below_step e3 HB5.out⟩
end Go.Proofs.Ytgbhkcpplcgmiaa.PA
