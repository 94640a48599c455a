/- The authority of a URL, as the document reads it (parapetref9.authority): its contract by hand. -/
import Derived.Test.YtknkokkgefcdbaaDoorPAx0
import Derived.Test.YtknkokkgefcdbaaDoorPAx13
import Derived.Test.YtknkokkgefcdbaaDoorPAx6
import Derived.Test.YtknkokkgefcdbaaDoorPAx7
import Derived.Test.YtknkokkgefcdbaaDoorPAx8
namespace Go.Proofs.YtknkokkgefcdbaaDoor.PA
open Go.RowKit Go.Proofs.YtknkokkgefcdbaaDoorW.PrintWords Go.Proofs.YtknkokkgefcdbaaDoorW.PrintLast Go.Proofs.YtknkokkgefcdbaaDoorW.PrintMore
set_option linter.unusedVariables false
set_option linter.unusedSimpArgs false
def cutTo (s : ByteArray) (n : Int) : Option ByteArray := if 0 ≤ n then (if n ≤ (s.size : Int) then some (s.extract 0 n.toNat) else none) else none
def cutFrom (s : ByteArray) (n : Int) : Option ByteArray := if 0 ≤ n then (if n ≤ (s.size : Int) then some (s.extract n.toNat s.size) else none) else none
theorem cutTo_some {s : ByteArray} {n : Int} {x : ByteArray} (h : cutTo s n = some x) : 0 ≤ n ∧ n ≤ (s.size : Int) ∧ s.extract 0 n.toNat = x := by
  unfold cutTo at h
  by_cases h1 : 0 ≤ n
  · rw [if_pos h1] at h
    by_cases h2 : n ≤ (s.size : Int)
    · rw [if_pos h2] at h; exact ⟨h1, h2, Option.some.inj h⟩
    · rw [if_neg h2] at h; cases h
  · rw [if_neg h1] at h; cases h
theorem cutFrom_some {s : ByteArray} {n : Int} {x : ByteArray} (h : cutFrom s n = some x) : 0 ≤ n ∧ n ≤ (s.size : Int) ∧ s.extract n.toNat s.size = x := by
  unfold cutFrom at h
  by_cases h1 : 0 ≤ n
  · rw [if_pos h1] at h
    by_cases h2 : n ≤ (s.size : Int)
    · rw [if_pos h2] at h; exact ⟨h1, h2, Option.some.inj h⟩
    · rw [if_neg h2] at h; cases h
  · rw [if_neg h1] at h; cases h
def atL : Nat → ByteArray → Int → Int → Option Int
  | 0, _, _, _ => none
  | k + 1, s, a, i => if i < (s.size : Int) then (if 0 ≤ i then (if bt s i = 64 then atL k s i (wrap64 (i + 1)) else atL k s a (wrap64 (i + 1))) else none) else some a
def portL : Nat → ByteArray → Int → Int → Option (Option Int)
  | 0, _, _, _ => none
  | k + 1, p, n, i => if i < (p.size : Int) then (if 0 ≤ i then (if wrap64 (wrap64 (10 * n) + (bt p i - 48) % 256) > 65535 then some none else portL k p (wrap64 (wrap64 (10 * n) + (bt p i - 48) % 256)) (wrap64 (i + 1))) else none) else some (some n)
def userU (k : Nat) (s : ByteArray) (a : Int) : Option (ByteArray × ByteArray × ByteArray) :=
  if 0 ≤ a then (cutTo s a).bind fun us => (cutFrom s (wrap64 (a + 1))).bind fun rest => (parapetref9_upTo.f k us ⟨#[58]⟩).bind fun n => (cutTo us n).bind fun x => (parapetref9_Encode.f k x 4).bind fun u =>
    if n < (us.size : Int) then (cutFrom us (wrap64 (n + 1))).bind fun y => (parapetref9_Encode.f k y 4).bind fun p => some (rest, u, p) else some (rest, u, ⟨#[]⟩)
  else some (s, ⟨#[]⟩, ⟨#[]⟩)
def hostU (k : Nat) (sch s : ByteArray) : Option (Bool × ByteArray × Int) :=
  (parapetref9_upTo.f k s ⟨#[58]⟩).bind fun n => (cutTo s n).bind fun x => (parapetref9_Host.f k x).bind fun h =>
  if h.2 = 0 then (if n = (s.size : Int) then some (true, h.1, -1) else (cutFrom s (wrap64 (n + 1))).bind fun p => if p.toList = ([] : List UInt8) then some (true, h.1, -1) else
    (parapetref9_digits.f k p 10).bind fun d => if d = true then (portL k p 0 0).bind fun m => (match m with
      | none => some (false, h.1, -1)
      | some v => (parapetref9_Default.f k sch).bind fun df => if v = df.1 then some (true, h.1, -1) else some (true, h.1, v)) else some (false, h.1, -1))
  else some (false, ⟨#[]⟩, 0)
def authU (k : Nat) (sch s : ByteArray) : Option (Bool × ByteArray × ByteArray × ByteArray × Int) :=
  (atL k s (-1) 0).bind fun a => (userU k s a).bind fun u => (hostU k sch u.1).bind fun h => some (h.1, u.2.1, u.2.2, h.2.1, h.2.2)
/-- a URL's block, as it lies -/
abbrev rowU (a b c d : ByteArray) (n : Int) (e : ByteArray) (q : Bool) (f : ByteArray) (p : Bool) (g : ByteArray) : Obj := .cells #[.string a, .string b, .string c, .string d, .int .i64 n, .string e, .bool q, .string f, .bool p, .string g] 23 (0, 0)
set_option maxHeartbeats 8000000 in
set_option maxRecDepth 100000 in
theorem authority_calls (k g B : Nat) (sch s : ByteArray) (r : Bool) (a b c : ByteArray) (n : Int) (w : World) (hI : w.heap[g]? = some (rowU sch ⟨#[]⟩ ⟨#[]⟩ ⟨#[]⟩ 0 ⟨#[]⟩ false ⟨#[]⟩ false ⟨#[]⟩)) (hB : B ≤ g) (h : authU k sch s = some (r, a, b, c, n)) :
    Calls Tryd.prog 34 #[.pointer (some ⟨g, 0, none⟩), .string s] w fun e w' => e = .returned (.bool r) ∧ w'.heap[g]? = some (rowU sch a b c n ⟨#[]⟩ false ⟨#[]⟩ false ⟨#[]⟩) ∧ Below B w w' := by
  unfold authU at h
  obtain ⟨at_, h1, h0⟩ := Option.bind_eq_some_iff.mp h
  obtain ⟨⟨rest, us, ps⟩, h2, h00⟩ := Option.bind_eq_some_iff.mp h0
  obtain ⟨⟨rb, ho, po⟩, h3, h000⟩ := Option.bind_eq_some_iff.mp h00
  obtain ⟨rfl, rfl, rfl, rfl, rfl⟩ : rb = r ∧ us = a ∧ ps = b ∧ ho = c ∧ po = n := by simpa using h000
  have HI := Aside0.mk hI
  have H1 := Aside0.mk h1
  have H2 := Aside0.mk h2
  have H3 := Aside0.mk h3
  have HBg := Aside0.mk hB
  clear hI h h0 h00 h000 h1 h2 h3 hB
  go_enter Tryd.func34, Tryd.ntmps34
  go_wp2
  go_loopg [5, 6] k (fun kq v5 v6 w' => ∃ (x5 : Int) (x6 : Int), v5 = .int .i64 x5 ∧ v6 = .int .i64 x6 ∧ Aside0 (atL kq s x5 x6 = some at_) ∧ Aside0 (kq ≤ k) ∧ w' = w)
  case atStart => exact ⟨-1, 0, by first | rfl | simp, rfl, H1, ⟨Nat.le_refl _⟩, rfl⟩
  case round =>
    clear H1
    obtain ⟨x5, x6, rfl, rfl, HA, HK1, rfl⟩ := hrel
    cases gk with
    | zero => exact absurd HA.out (by simp [atL])
    | succ k1 =>
      have H := HA.out
      clear HA
      simp only [atL] at H
      by_cases c1 : x6 < (s.size : Int)
      · rw [if_pos c1] at H
        by_cases c2 : 0 ≤ x6
        case neg => rw [if_neg c2] at H; cases H
        rw [if_pos c2] at H
        have b1 : decide (x6 < (s.size : Int)) = true := decide_eq_true c1
        have p2 := eq_true c2
        have p1 := eq_true c1
        have hx := bt_at s x6
        by_cases c3 : bt s x6 = 64
        · rw [if_pos c3] at H
          have b3 : (bt s x6 == 64) = true := beq_iff_eq.mpr c3
          have H' := Aside0.mk H
          clear H c1 c2 c3
          go_wp2
          go_roundg k1
          case measure => have := HK1.out; omega
          case rel => exact ⟨x6, wrap64 (x6 + 1), rfl, by first | rfl | simp, H', ⟨by have := HK1.out; omega⟩, rfl⟩
        · rw [if_neg c3] at H
          have b3 : (bt s x6 == 64) = false := beq_eq_false_iff_ne.mpr c3
          have H' := Aside0.mk H
          clear H c1 c2 c3
          go_wp2
          go_roundg k1
          case measure => have := HK1.out; omega
          case rel => exact ⟨x5, wrap64 (x6 + 1), rfl, by first | rfl | simp, H', ⟨by have := HK1.out; omega⟩, rfl⟩
      · rw [if_neg c1] at H
        obtain rfl := Option.some.inj H
        have b1 : decide (x6 < (s.size : Int)) = false := decide_eq_false c1
        clear H c1
        go_upto_if 29 with (fail)
        go_cut [1] (fun v1 wc => v1 = .string rest ∧ Aside0 (wc.heap[g]? = some (rowU sch us ps ⟨#[]⟩ 0 ⟨#[]⟩ false ⟨#[]⟩ false ⟨#[]⟩)) ∧ Aside0 (Below B wr wc))
        case first =>
          have h2 := H2.out
          clear H2
          unfold userU at h2
          by_cases c4 : 0 ≤ x5
          · rw [if_pos c4] at h2
            have b4 : decide (0 ≤ x5) = true := decide_eq_true c4
            (try rw [b4])
            obtain ⟨z, e1, h3⟩ := Option.bind_eq_some_iff.mp h2
            obtain ⟨y, e2, h4⟩ := Option.bind_eq_some_iff.mp h3
            obtain ⟨q, e3, h5⟩ := Option.bind_eq_some_iff.mp h4
            obtain ⟨x, e4, h6⟩ := Option.bind_eq_some_iff.mp h5
            obtain ⟨u, e5, h7⟩ := Option.bind_eq_some_iff.mp h6
            clear h2 h3 h4 h5 h6
            obtain ⟨f1, f2, f3⟩ := cutTo_some e1
            obtain ⟨f4, f5, f6⟩ := cutFrom_some e2
            obtain ⟨f7, f8, f9⟩ := cutTo_some e4
            have E3 := Aside0.mk e3
            have E5 := Aside0.mk e5
            have H7 := Aside0.mk h7
            have F3 := Aside0.mk f3
            have F6 := Aside0.mk f6
            have F9 := Aside0.mk f9
            clear e1 e2 e3 e4 e5 h7 f3 f6 f9
            have g1 := eq_true f1
            have g2 := eq_true f2
            have g4 := eq_true f4
            have g5 := eq_true f5
            clear f1 f2 f4 f5
            go_wp2_with fail
            rw [F3.out, F6.out]
            refine (parapetref9_upTo.calls k z ⟨#[58]⟩ q _ E3.out).mono ?_
            rintro e w1 ⟨rfl, ⟨nd, rfl⟩⟩
            have g7 := eq_true f7
            have g8 := eq_true f8
            clear f7 f8 g1 g2 g4 g5
            go_wp2_with fail
            rw [F9.out]
            refine (parapetref9_Encode.calls k x 4 u _ E5.out).mono ?_
            rintro e w2 ⟨rfl, hb⟩
            have HI2 := Aside0.mk (blk_below (blk_drewN HI.out nd) hb)
            have HB2 : Aside0 (Below B wr w2) := ⟨(pw_below_drewN (Below.refl _ _) nd).trans (hb.mono (by have := blk_lt HI.out; have := HBg.out; show B ≤ wr.heap.size; omega))⟩
            clear hb
            have hc1 := (blk_cell HI2.out 1).trans rfl
            have hf1 := blk_frozen HI2.out 1
            clear g7 g8
            by_cases c5 : q < (z.size : Int)
            · have h7 := H7.out
              rw [if_pos c5] at h7
              clear H7
              have b5 : decide (q < (z.size : Int)) = true := decide_eq_true c5
              obtain ⟨y2, e6, h8⟩ := Option.bind_eq_some_iff.mp h7
              obtain ⟨p2, e7, h9⟩ := Option.bind_eq_some_iff.mp h8
              obtain ⟨rfl, rfl, rfl⟩ : y = rest ∧ u = us ∧ p2 = ps := by simpa using h9
              obtain ⟨k4, k5, k6⟩ := cutFrom_some e6
              have E7 := Aside0.mk e7
              have K6 := Aside0.mk k6
              have g4 := eq_true k4
              have g5 := eq_true k5
              clear e6 e7 h7 h8 h9 k4 k5 k6 c5
              go_wp2_with fail
              rw [K6.out]
              refine (parapetref9_Encode.calls k y2 4 p2 _ E7.out).mono ?_
              rintro e w3 ⟨rfl, hb⟩
              have HI3 := Aside0.mk (blk_below (blk_put HI2.out 1 (.string u) rfl) hb)
              have HB3 : Aside0 (Below B wr w3) := ⟨(HB2.out.setCell HBg.out _).trans (hb.mono (by have := blk_lt HI2.out; have := HBg.out; show B ≤ (World.setCell _ _ _).heap.size; simp; omega))⟩
              clear hb hc1 hf1
              have hc2 := (blk_cell HI3.out 2).trans rfl
              have hf2 := blk_frozen HI3.out 2
              go_wp2
              go_meet
              case rel => exact ⟨rfl, ⟨blk_put HI3.out 2 _ rfl⟩, ⟨HB3.out.setCell HBg.out _⟩⟩
            · have h7 := H7.out
              rw [if_neg c5] at h7
              clear H7
              have b5 : decide (q < (z.size : Int)) = false := decide_eq_false c5
              obtain ⟨rfl, rfl, rfl⟩ : y = rest ∧ u = us ∧ (⟨#[]⟩ : ByteArray) = ps := by simpa using h7
              clear h7 c5
              go_wp2
              go_meet
              case rel => exact ⟨rfl, ⟨blk_put HI2.out 1 _ rfl⟩, ⟨HB2.out.setCell HBg.out _⟩⟩
          · rw [if_neg c4] at h2
            have b4 : decide (0 ≤ x5) = false := decide_eq_false c4
            (try rw [b4])
            obtain ⟨rfl, rfl, rfl⟩ : s = rest ∧ (⟨#[]⟩ : ByteArray) = us ∧ (⟨#[]⟩ : ByteArray) = ps := by simpa using h2
            clear h2 c4
            go_wp2
            go_meet
            case rel => exact ⟨rfl, ⟨HI.out⟩, ⟨Below.refl _ _⟩⟩
        case rest =>
          clear H2 b1
          obtain ⟨rfl, HI2, HB2⟩ := hcut
          have h3 := H3.out
          clear H3
          unfold hostU at h3
          obtain ⟨q, e1, h4⟩ := Option.bind_eq_some_iff.mp h3
          obtain ⟨x, e2, h5⟩ := Option.bind_eq_some_iff.mp h4
          obtain ⟨⟨hh, he⟩, e3, h6⟩ := Option.bind_eq_some_iff.mp h5
          obtain ⟨f1, f2, f3⟩ := cutTo_some e2
          have E1 := Aside0.mk e1
          have E3 := Aside0.mk e3
          have H6 := Aside0.mk h6
          have F3 := Aside0.mk f3
          have g1 := eq_true f1
          have g2 := eq_true f2
          clear e1 e2 e3 h3 h4 h5 h6 f1 f2 f3
          go_wp2_with fail
          refine (parapetref9_upTo.calls k rest ⟨#[58]⟩ q _ E1.out).mono ?_
          rintro e w1 ⟨rfl, ⟨nd, rfl⟩⟩
          go_wp2_with fail
          rw [F3.out]
          refine (parapetref9_Host.calls k x hh he _ E3.out).mono ?_
          rintro e w2 ⟨rfl, hb⟩
          have HI3 := Aside0.mk (blk_below (blk_drewN HI2.out nd) hb)
          have HB3 : Aside0 (Below B wr w2) := ⟨(pw_below_drewN HB2.out nd).trans (hb.mono (by have := blk_lt HI2.out; have := HBg.out; show B ≤ wc.heap.size; omega))⟩
          clear hb HI2 HB2 g1 g2
          have hc3 := (blk_cell HI3.out 3).trans rfl
          have hf3 := blk_frozen HI3.out 3
          have HI4 := Aside0.mk (blk_put HI3.out 3 (.string hh) rfl)
          have hc4 := (blk_cell HI4.out 4).trans rfl
          have hf4 := blk_frozen HI4.out 4
          have HI5 := Aside0.mk (blk_put HI4.out 4 (.int .i64 (-1)) rfl)
          have HB5 : Aside0 (Below B wr _) := ⟨(HB3.out.setCell HBg.out (p := ⟨g, 3, none⟩) (.string hh)).setCell HBg.out (p := ⟨g, 4, none⟩) (.int .i64 (-1))⟩
          clear HI4
          have h6 := H6.out
          clear H6
          by_cases c1 : he = 0
          case neg =>
            rw [if_neg c1] at h6
            obtain ⟨rfl, rfl, rfl⟩ : false = rb ∧ (⟨#[]⟩ : ByteArray) = ho ∧ 0 = po := by simpa using h6
            have b1 : (he != 0) = true := bne_iff_ne.mpr c1
            have b2 : (he == 0) = false := beq_eq_false_iff_ne.mpr c1
            clear h6 c1 HI5 HB5 hc4 hf4 hc3 hf3
            go_wp2
            go_ret
            exact ⟨rfl, HI3.out, HB3.out⟩
          rw [if_pos c1] at h6
          subst c1
          by_cases c2 : q = (rest.size : Int)
          · rw [if_pos c2] at h6
            obtain ⟨rfl, rfl, rfl⟩ : true = rb ∧ hh = ho ∧ -1 = po := by simpa using h6
            have b2 : (q == (rest.size : Int)) = true := beq_iff_eq.mpr c2
            clear h6 c2 F3
            go_wp2
            go_ret
            exact ⟨rfl, HI5.out, HB5.out⟩
          · rw [if_neg c2] at h6
            have b2 : (q == (rest.size : Int)) = false := beq_eq_false_iff_ne.mpr c2
            clear c2
            obtain ⟨p, e1, h7⟩ := Option.bind_eq_some_iff.mp h6
            obtain ⟨f1, f2, f3⟩ := cutFrom_some e1
            have F4 := Aside0.mk f3
            have H7 := Aside0.mk h7
            have g1 := eq_true f1
            have g2 := eq_true f2
            clear e1 h6 h7 f1 f2 f3
            go_upto_region 23 with (fail)
            rw [F4.out]
            have h7 := H7.out
            clear H7 F4 g1 g2 b2 hc3 hf3 hc4 hf4 HI3 HB3 F3
            by_cases c3 : p.toList = ([] : List UInt8)
            · rw [if_pos c3] at h7
              obtain ⟨rfl, rfl, rfl⟩ : true = rb ∧ hh = ho ∧ -1 = po := by simpa using h7
              have b3 : (p.toList == ([] : List UInt8)) = true := beq_iff_eq.mpr c3
              have b4 : p.toList.isEmpty = true := by rw [c3]; rfl
              clear h7 c3
              go_wp2
              go_ret
              exact ⟨rfl, HI5.out, HB5.out⟩
            · rw [if_neg c3] at h7
              have b3 : (p.toList == ([] : List UInt8)) = false := beq_eq_false_iff_ne.mpr c3
              have b4 : p.toList.isEmpty = false := by simpa using c3
              clear c3
              obtain ⟨d, e1, h8⟩ := Option.bind_eq_some_iff.mp h7
              have E1 := Aside0.mk e1
              clear e1 h7
              go_wp2_with fail
              refine (parapetref9_digits.calls k p 10 d _ E1.out).mono ?_
              rintro e w4 ⟨rfl, ⟨nd2, rfl⟩⟩
              have HI6 := Aside0.mk (blk_drewN HI5.out nd2)
              have HB6 := Aside0.mk (pw_below_drewN HB5.out nd2)
              generalize (World.drewN _ nd2) = w5 at HI6 HB6 ⊢
              clear HI5 HB5 b3 b4
              cases d with
              | false =>
                rw [if_neg (by simp)] at h8
                obtain ⟨rfl, rfl, rfl⟩ : false = rb ∧ hh = ho ∧ -1 = po := by simpa using h8
                clear h8
                go_wp2
                go_ret
                exact ⟨rfl, HI6.out, HB6.out⟩
              | true =>
                rw [if_pos rfl] at h8
                obtain ⟨m, e2, h9⟩ := Option.bind_eq_some_iff.mp h8
                have E2 := Aside0.mk e2
                have H9 := Aside0.mk h9
                clear e2 h8 h9
                go_wp2
                go_loopg [13, 14] k (fun kq v13 v14 w' => ∃ (n : Int) (i : Int), v13 = .int .i64 n ∧ v14 = .int .i64 i ∧ Aside0 (portL kq p n i = some m) ∧ Aside0 (kq ≤ k) ∧ Aside0 (w'.heap[g]? = some (rowU sch us ps hh (-1) ⟨#[]⟩ false ⟨#[]⟩ false ⟨#[]⟩)) ∧ Aside0 (Below B wr w'))
                case atStart => exact ⟨0, 0, rfl, rfl, E2, ⟨Nat.le_refl _⟩, HI6, HB6⟩
                case round =>
                  clear E2 HI6 HB6
                  obtain ⟨n, i, rfl, rfl, HA, HK2, HI6, HB6⟩ := hrel
                  cases gk with
                  | zero => exact absurd HA.out (by simp [portL])
                  | succ k2 =>
                    have H := HA.out
                    clear HA
                    simp only [portL] at H
                    by_cases c1 : i < (p.size : Int)
                    · rw [if_pos c1] at H
                      by_cases c2 : 0 ≤ i
                      case neg => rw [if_neg c2] at H; cases H
                      rw [if_pos c2] at H
                      have d1 : decide (i < (p.size : Int)) = true := decide_eq_true c1
                      have p2 := eq_true c2
                      have p1 := eq_true c1
                      have hx := bt_at p i
                      by_cases c4 : wrap64 (wrap64 (10 * n) + (bt p i - 48) % 256) > 65535
                      · rw [if_pos c4] at H
                        obtain rfl := Option.some.inj H
                        have h9 := H9.out
                        obtain ⟨rfl, rfl, rfl⟩ : false = rb ∧ hh = ho ∧ -1 = po := by simpa using h9
                        have d4 : decide ((65535 : Int) < wrap64 (wrap64 (10 * n) + (bt p i - 48) % 256)) = true := decide_eq_true c4
                        clear H c1 c2 c4 h9 H9
                        go_wp2
                        go_ret
                        exact ⟨rfl, HI6.out, HB6.out⟩
                      · rw [if_neg c4] at H
                        have d4 : decide ((65535 : Int) < wrap64 (wrap64 (10 * n) + (bt p i - 48) % 256)) = false := decide_eq_false c4
                        have H' := Aside0.mk H
                        clear H c1 c2 c4
                        go_wp2
                        go_roundg k2
                        case measure => have := HK2.out; omega
                        case rel => exact ⟨_, wrap64 (i + 1), rfl, by first | rfl | simp, H', ⟨by have := HK2.out; omega⟩, HI6, HB6⟩
                    · rw [if_neg c1] at H
                      obtain rfl := Option.some.inj H
                      have d1 : decide (i < (p.size : Int)) = false := decide_eq_false c1
                      have h9 := H9.out
                      obtain ⟨⟨dn, db⟩, e3, h10⟩ := Option.bind_eq_some_iff.mp h9
                      have E3 := Aside0.mk e3
                      clear H c1 H9 h9 e3
                      have hc0 := (blk_cell HI6.out 0).trans rfl
                      go_wp2_with fail
                      refine (parapetref9_Default.calls k sch dn db _ E3.out).mono ?_
                      rintro e w6 ⟨rfl, ⟨nd3, rfl⟩⟩
                      have HI7 := Aside0.mk (blk_drewN HI6.out nd3)
                      have HB7 := Aside0.mk (pw_below_drewN HB6.out nd3)
                      clear hc0
                      generalize (World.drewN _ nd3) = w7 at HI7 HB7 ⊢
                      by_cases c5 : n = dn
                      · rw [if_pos c5] at h10
                        obtain ⟨rfl, rfl, rfl⟩ : true = rb ∧ hh = ho ∧ -1 = po := by simpa using h10
                        have d5 : (n == dn) = true := beq_iff_eq.mpr c5
                        have d6 : (n != dn) = false := bne_eq_false_iff_eq.mpr c5
                        clear h10 c5
                        go_wp2
                        go_ret
                        exact ⟨rfl, HI7.out, HB7.out⟩
                      · rw [if_neg c5] at h10
                        obtain ⟨rfl, rfl, rfl⟩ : true = rb ∧ hh = ho ∧ n = po := by simpa using h10
                        have d5 : (n == dn) = false := beq_eq_false_iff_ne.mpr c5
                        have d6 : (n != dn) = true := bne_iff_ne.mpr c5
                        have hc4 := (blk_cell HI7.out 4).trans rfl
                        have hf4 := blk_frozen HI7.out 4
                        clear h10 c5
                        go_wp2
                        go_ret
                        exact ⟨rfl, blk_put HI7.out 4 _ rfl, HB7.out.setCell HBg.out _⟩
end Go.Proofs.YtknkokkgefcdbaaDoor.PA
