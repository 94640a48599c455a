import Derived.Test.YtcaaebjjgbcjpaaGreatDoorProg
import Derived.WalkKit
import Derived.Defers
import Derived.Laws.LoneSync
import Derived.Test.YtcaaebjjgbcjpaaGreatDoorPF
/-! What is done once: sync.Once in one goroutine, at its first call. (After the kit's worked example of a lazy value.) -/
namespace GoD.Once
open Go Go.Proofs Go.RowKit
set_option linter.unusedVariables false
theorem disable (w : World) : (callFunc 345 #[]).run Tryz.prog w = .ok (.value (.tuple #[])) w := run_call_mark0 Tryz.func345 (by kernel_rfl) (by kernel_rfl) (by kernel_rfl) .disable (by kernel_rfl) w
theorem enable (w : World) : (callFunc 347 #[]).run Tryz.prog w = .ok (.value (.tuple #[])) w := run_call_mark0 Tryz.func347 (by kernel_rfl) (by kernel_rfl) (by kernel_rfl) .enable (by kernel_rfl) w
theorem acquire (a : Addr) (w : World) : (callFunc 348 #[.pointer (some a)]).run Tryz.prog w = .ok (.value (.tuple #[])) w := run_call_marked Tryz.func348 (by kernel_rfl) (by kernel_rfl) (by kernel_rfl) .acquire (by kernel_rfl) a w
theorem releaseMerge (a : Addr) (w : World) : (callFunc 350 #[.pointer (some a)]).run Tryz.prog w = .ok (.value (.tuple #[])) w := run_call_marked Tryz.func350 (by kernel_rfl) (by kernel_rfl) (by kernel_rfl) .releaseMerge (by kernel_rfl) a w
theorem store_deferred (a : Addr) (x : Value) (u : FrameMode) (w : World) (hc : w.cell? a = some x) (hz : w.frozen? a = false) :
    CallsD Tryz.prog 271 #[.pointer (some a), .bool true] u w fun e u' w' => u' = u ∧ (e = .returned (.tuple #[]) ∧ w' = w.drew.setCell a (.int .u32 1)) := by
  have hc' : w.drew.cell? a = some x := by go_simp
  have hz' : w.drew.frozen? a = false := by go_simp
  have hst := run_call_store (P := Tryz.prog) Tryz.func309 (by kernel_rfl) (by kernel_rfl) (by kernel_rfl) (by kernel_rfl) (k := .u32) (y := 1) hc' hz'
  go_enter_d Tryz.func271, Tryz.ntmps271
  go_wp2
  go_region_calls
  all_goals (go_end0; exact ⟨rfl, rfl⟩)
set_option maxRecDepth 100000 in
set_option maxHeartbeats 1600000 in
theorem unlock_deferred (a : Addr) (u : FrameMode) (w : World) (hc : w.cell? a = some (.int .i32 1)) (hz : w.frozen? a = false) :
    CallsD Tryz.prog 270 #[.pointer (some a)] u w fun e u' w' => u' = u ∧ (e = .returned (.tuple #[]) ∧ w' = w.setCell a (.int .i32 0)) := by
  have hd := disable
  have he := enable
  have hr := releaseMerge
  have hadd := run_call_add (P := Tryz.prog) Tryz.func351 (by kernel_rfl) (by kernel_rfl) (by kernel_rfl) .i32 (by kernel_rfl) (y := -1) (s := 0) hc hz (by simp -implicitDefEqProofs [go_sem]; rfl)
  have hcv := run_convert_to_unsafe (P := Tryz.prog) (src := 368) (dst := 355) Tryz.underlying368 Tryz.underlying355 (by kernel_rfl) hc
  go_enter_d Tryz.func270, Tryz.ntmps270
  go_wp2
  go_end0
  go_wp2
  go_end0
  exact ⟨rfl, rfl⟩
set_option maxRecDepth 100000 in
set_option maxHeartbeats 1600000 in
theorem lock_free (a : Addr) (w : World) (hc : w.cell? a = some (.int .i32 0)) (hz : w.frozen? a = false) :
    Calls Tryz.prog 269 #[.pointer (some a)] w fun e w' => e = .returned (.tuple #[]) ∧ w' = w.setCell a (.int .i32 1) := by
  have hd := disable
  have he := enable
  have ha := acquire
  have hcas := run_call_cas_hit (P := Tryz.prog) Tryz.func346 (by kernel_rfl) (by kernel_rfl) (by kernel_rfl) .i32 (by kernel_rfl) (y := 1) hc hz
  have hc' : (w.setCell a (.int .i32 1)).cell? a = some (.int .i32 1) := World.cell?_setCell_same w a _ hc
  have hcv := run_convert_to_unsafe (P := Tryz.prog) (src := 368) (dst := 355) Tryz.underlying368 Tryz.underlying355 (by kernel_rfl) hc'
  go_enter Tryz.func269, Tryz.ntmps269
  go_wp2
  first | go_end0 | (simp only [Exit.inBlock, Exit.then]; refine bodyPost_ret (results_none rfl _ _ _) rfl ?_) | refine bodyPost_ret (results_none rfl _ _ _) rfl ?_
  go_wp2
  go_end0
  exact ⟨rfl, rfl⟩
set_option maxRecDepth 100000 in
set_option maxHeartbeats 1600000 in
theorem slow (b off : Nat) (pb : Addr) (Φ : World → Prop) (w : World)
    (h0 : w.cell? ⟨b, off, none⟩ = some (.int .u32 0)) (h1 : w.cell? ⟨b, off + 1, none⟩ = some (.int .i32 0)) (f0 : w.frozen? ⟨b, off, none⟩ = false) (f1 : w.frozen? ⟨b, off + 1, none⟩ = false)
    (hcall : Calls Tryz.prog 170 #[.pointer (some pb)] (w.setCell ⟨b, off + 1, none⟩ (.int .i32 1)) fun e w' => e = .returned (.tuple #[]) ∧ Φ w')
    (hΦ : ∀ w', Φ w' → w'.cell? ⟨b, off, none⟩ = some (.int .u32 0) ∧ w'.cell? ⟨b, off + 1, none⟩ = some (.int .i32 1) ∧ w'.frozen? ⟨b, off, none⟩ = false ∧ w'.frozen? ⟨b, off + 1, none⟩ = false) :
    Calls Tryz.prog 234 #[.pointer (some ⟨b, off, none⟩), .func (.func 170) #[.pointer (some pb)] #[]] w fun e w' => e = .returned (.tuple #[]) ∧
      ∃ w2, Φ w2 ∧ w' = (w2.drew.setCell ⟨b, off, none⟩ (.int .u32 1)).setCell ⟨b, off + 1, none⟩ (.int .i32 0) := by
  have hl := run_call_load (P := Tryz.prog) Tryz.func268 (by kernel_rfl) (by kernel_rfl) (by kernel_rfl) .u32 (by kernel_rfl) (w := w.setCell ⟨b, off + 1, none⟩ (.int .i32 1)) (a := ⟨b, off, none⟩) (x := 0) ((World.cell?_setCell_other _ ⟨b, off + 1, none⟩ ⟨b, off, none⟩ _ (by simp)).trans h0)
  have hnot : ∀ (x : Bool) (w : World), (Op.unary .not (.bool x)).run Tryz.prog w = .ok (.bool (!x)) w := fun _ _ => rfl
  go_enter_defers Tryz.func234, Tryz.ntmps234
  go_wp2_with (first | (go_at_call 269; refine (lock_free ⟨b, off + 1, none⟩ _ (by go_simp) (by go_simp)).mono ?_; rintro e w' ⟨rfl, rfl⟩) | (go_at_call 233; go_in) | (go_at_call 170; refine hcall.mono ?_; rintro e w2 ⟨rfl, hp⟩))
  obtain ⟨p0, p1, p2, p3⟩ := hΦ _ hp
  refine leaves_cons (f := 271) (args := #[.pointer (some ⟨b, off, none⟩), .bool true]) (by simp) (by simp -implicitDefEqProofs [go_sem]) ?_
  refine (store_deferred ⟨b, off, none⟩ (.int .u32 0) .returning _ p0 p2).mono ?_
  rintro e u' w'' ⟨rfl, rfl, rfl⟩
  refine leaves_cons (f := 270) (args := #[.pointer (some ⟨b, off + 1, none⟩)]) (by simp [settle]) (by simp -implicitDefEqProofs [go_sem]) ?_
  refine (unlock_deferred ⟨b, off + 1, none⟩ _ _ ?_ (by simp [p3])).mono ?_
  · refine (World.cell?_setCell_other _ ⟨b, off, none⟩ ⟨b, off + 1, none⟩ _ (by simp)).trans ?_
    rw [World.cell?_drew]; exact p1
  rintro e u' w'' ⟨rfl, rfl, rfl⟩
  simp [Leaves, settle, results, Tryz.results234]
  exact ⟨w2, hp, rfl⟩
set_option maxRecDepth 100000 in
set_option maxHeartbeats 1600000 in
theorem first (b off : Nat) (pb : Addr) (Φ : World → Prop) (w : World)
    (h0 : w.cell? ⟨b, off, none⟩ = some (.int .u32 0)) (h1 : w.cell? ⟨b, off + 1, none⟩ = some (.int .i32 0)) (f0 : w.frozen? ⟨b, off, none⟩ = false) (f1 : w.frozen? ⟨b, off + 1, none⟩ = false)
    (hcall : Calls Tryz.prog 170 #[.pointer (some pb)] (w.setCell ⟨b, off + 1, none⟩ (.int .i32 1)) fun e w' => e = .returned (.tuple #[]) ∧ Φ w')
    (hΦ : ∀ w', Φ w' → w'.cell? ⟨b, off, none⟩ = some (.int .u32 0) ∧ w'.cell? ⟨b, off + 1, none⟩ = some (.int .i32 1) ∧ w'.frozen? ⟨b, off, none⟩ = false ∧ w'.frozen? ⟨b, off + 1, none⟩ = false) :
    Calls Tryz.prog 169 #[.pointer (some ⟨b, off, none⟩), .func (.func 170) #[.pointer (some pb)] #[]] w fun e w' => e = .returned (.tuple #[]) ∧
      ∃ w2, Φ w2 ∧ w' = (w2.drew.setCell ⟨b, off, none⟩ (.int .u32 1)).setCell ⟨b, off + 1, none⟩ (.int .i32 0) := by
  have hl := run_call_load (P := Tryz.prog) Tryz.func268 (by kernel_rfl) (by kernel_rfl) (by kernel_rfl) .u32 (by kernel_rfl) h0
  have hnot : ∀ (x : Bool) (w : World), (Op.unary .not (.bool x)).run Tryz.prog w = .ok (.bool (!x)) w := fun _ _ => rfl
  go_enter Tryz.func169, Tryz.ntmps169
  go_wp2_with (first | (go_at_call 234; refine (slow b off pb Φ w h0 h1 f0 f1 hcall hΦ).mono ?_; rintro e w' ⟨rfl, hw⟩) | (go_at_call 233; go_in))
  go_end0
  exact ⟨rfl, hw⟩
end GoD.Once

/-! A replacer of single bytes by nothing: it is made. -/
namespace GoD
open Go Go.Proofs
set_option linter.unusedVariables false
set_option linter.unusedSimpArgs false
set_option maxHeartbeats 4000000
set_option maxRecDepth 100000
theorem aliveO {h : Heap} {b st : Nat} {x : Bool} {c : List V} (hg : hget h b = ⟨st + 1, x, c⟩) : b < h.length := by
  by_cases hb : b < h.length
  · exact hb
  · unfold hget at hg
    rw [List.getD_eq_getElem?_getD, List.getElem?_eq_none (by omega)] at hg
    cases hg
noncomputable def pNewRC : Ct := rct (ctm [] Tryz.prog G0 []) 99 1
theorem pNewR_ok : CtOk Tryz.prog G0 99 pNewRC := rct_ok (l := []) fol sound_nil [] (by kernel_rfl)
theorem pNewR_rc {args : List V} {h : Heap} {Q : V → Heap → Prop} {c : Code} (hb : Tryz.f99.body = some c) (hn : args.length = 1) (hr : Run (ctm [] Tryz.prog G0 []) (Fini (ctm [] Tryz.prog G0 []) Tryz.f99.results.toList Q) [.c c] args h) : ∃ v h', pNewRC args h = some (v, h') ∧ Q v h' := rct_run [] Tryz.func99 hb hn hr
def repB (q : Nat) : Blk := ⟨2, true, [.i .u32 0, .i .i32 0, .i .u32 0, .c .nilIface, .sl q 0 6 1]⟩
def old6 : List (List Int) := [[9], [], [10], [], [13], []]
theorem pNewR_go {h : Heap} {b o : Nat} (hs : strsAt h b o 6 = some old6) : ∃ v h1, pNewRC [.sl b o 6 1] h = some (v, h1) ∧ v = .p (h.length + 1) 0 ∧ h1 = h ++ [⟨2, false, sts old6⟩, repB h.length] := by
  obtain ⟨st, x, c, hg, hld, _⟩ := strsAt_eq hs
  have hld : ldN c o 6 = some (sts old6) := hld
  refine pNewR_rc rfl rfl ?_
  have o1 : (sts old6).length = 6 := rfl
  have o2 : (sts old6).all isOne = true := rfl
  have hv0 : Value.nilIface.oneCell' = true := rfl
  simp -implicitDefEqProofs [go_sem, Tryz.f99, hg, hld, o1, o2, hv0, repB]
theorem run_gen {E : Env} {P : Ex → Tm → Heap → Prop} {c : List Todo} {h : Heap} {t : Tm} (Q : Tm → Prop) (hq : Q t) (hr : ∀ t, Q t → Run E P c t h) : Run E P c t h := hr t hq
def tabK (k : Nat) : List V := (List.range 256).map fun c => if (c = 13 ∧ 1 ≤ k) ∨ (c = 10 ∧ 2 ≤ k) ∨ (c = 9 ∧ 3 ≤ k) then .e0 else .c (.slice none 0 0)
theorem tab_c : Tryz.prog.cellsOf 321 = 257 := by kernel_rfl
theorem tab_z : zeroT Tryz.prog 321 = some (tabK 0 ++ [.c (.slice none 0 0)]) := by kernel_rfl
theorem tab_f : fieldsT Tryz.prog 321 = some [(0, 256, 319), (256, 1, 30)] := by kernel_rfl
theorem tab_len (k : Nat) : (tabK k).length = 256 := by simp [tabK]
theorem tab_one (k : Nat) : (tabK k).all isOne = true := by
  rw [List.all_eq_true]
  intro v hv
  obtain ⟨c, _, rfl⟩ := List.mem_map.1 hv
  split <;> rfl
theorem tab_ld {k c : Nat} (hc : c < 256) (s : V) : ldN (tabK k ++ [s]) c 1 = some [if (c = 13 ∧ 1 ≤ k) ∨ (c = 10 ∧ 2 ≤ k) ∨ (c = 9 ∧ 3 ≤ k) then .e0 else .c (.slice none 0 0)] := by
  have hl := tab_len k
  unfold ldN
  rw [if_pos (by simp [hl]; omega), List.drop_append_of_le_length (by omega), List.drop_eq_getElem_cons (by omega)]
  simp [tabK]
theorem spl_all {p : List V} : ∀ (c l : List V), c.length = l.length → spl (p ++ c) p.length l = p ++ l
  | [], [], _ => by simp [spl]
  | x :: c, y :: l, h => by
    have ih := spl_all (p := p ++ [y]) c l (by simpa using h)
    simp only [spl]
    have e : (p ++ x :: c).set p.length y = (p ++ [y]) ++ c := by rw [List.set_append_right _ _ (by omega)]; simp
    rw [e]
    simpa using ih
theorem tab_ls (k : Nat) (s : V) : ldN (tabK k ++ [s]) 256 1 = some [s] := by
  have hl := tab_len k
  unfold ldN
  rw [if_pos (by simp [hl])]
  have e : (tabK k ++ [s]).drop 256 = [s] := by rw [← hl, List.drop_left]
  rw [e]; rfl
theorem tab_ss (k : Nat) (s v : V) : spl (tabK k ++ [s]) 256 [v] = tabK k ++ [v] := by
  have hl := tab_len k
  simp only [spl]
  rw [List.set_append_right _ _ (by omega), hl]; rfl
theorem tab_sc (k c : Nat) (hc : c < 256) (s v : V) : spl (tabK k ++ [s]) c [v] = (tabK k).set c v ++ [s] := by
  have hl := tab_len k
  simp only [spl]
  rw [List.set_append_left _ _ (by omega)]
theorem tab_1 : (tabK 0).set 13 .e0 = tabK 1 := by rfl
theorem tab_2 : (tabK 1).set 10 .e0 = tabK 2 := by rfl
theorem tab_3 : (tabK 2).set 9 .e0 = tabK 3 := by rfl
theorem tab_b (v : V) (h1 : cellsV v = [v]) (h2 : isOne v = true) : buildV Tryz.prog 321 [(1, v)] = some (.agg (tabK 0 ++ [v])) := by
  unfold buildV
  rw [tab_z]
  simp only [tab_f]
  simp [fillV, h1, h2, tab_len, tab_ss]
def nmK : Nat → List (List Int)
  | 0 => []
  | 1 => [[13]]
  | 2 => [[13], [10]]
  | _ => [[13], [10], [9]]
def cellK : Nat → Blk
  | 0 => ⟨2, true, sts [[], [], []]⟩
  | k + 1 => ⟨2, false, sts (nmK (k + 1))⟩
noncomputable def pBuildC : Ct := rct (ctm [] Tryz.prog G0 []) 235 1
theorem pBuild_ok : CtOk Tryz.prog G0 235 pBuildC := rct_ok (l := []) fol sound_nil [] (by kernel_rfl)
theorem pBuild_rc {args : List V} {h : Heap} {Q : V → Heap → Prop} {c : Code} (hb : Tryz.f235.body = some c) (hn : args.length = 1) (hr : Run (ctm [] Tryz.prog G0 []) (Fini (ctm [] Tryz.prog G0 []) Tryz.f235.results.toList Q) [.c c] args h) : ∃ v h', pBuildC args h = some (v, h') ∧ Q v h' := rct_run [] Tryz.func235 hb hn hr
theorem pBuild_go {h : Heap} {b q0 : Nat} {x : Bool} {d1 d2 d3 d4 : V} (hb : hget h b = ⟨2, x, [d1, d2, d3, d4, .sl q0 0 6 1]⟩) (hs : strsAt h q0 0 6 = some old6) : ∃ v h1, pBuildC [.p b 0] h = some (v, h1) ∧ Ext h h1 ∧
    ∃ m q, v = .ifc 322 (.p m 0) ∧ h.length ≤ m ∧ h.length ≤ q ∧ hget h1 m = ⟨2, true, tabK 3 ++ [.sl q 0 3 1]⟩ ∧ hget h1 q = cellK 3 := by
  obtain ⟨st, xx, c, hg, hld, hn, hc⟩ := strsAt_eq hs
  have c0 : ldN c 0 1 = some [.s [9]] := hc 0 (by decide)
  have c1 : ldN c 1 1 = some [.s []] := hc 1 (by decide)
  have c2 : ldN c 2 1 = some [.s [10]] := hc 2 (by decide)
  have c3 : ldN c 3 1 = some [.s []] := hc 3 (by decide)
  have c4 : ldN c 4 1 = some [.s [13]] := hc 4 (by decide)
  have c5 : ldN c 5 1 = some [.s []] := hc 5 (by decide)
  have hbl := aliveO hb
  have hql := aliveO hg
  have w1 : IntKind.i64.wrap 1 = 1 := w64 (by omega)
  have w2 : IntKind.i64.wrap 2 = 2 := w64 (by omega)
  have w3 : IntKind.i64.wrap 3 = 3 := w64 (by omega)
  have w4 : IntKind.i64.wrap 4 = 4 := w64 (by omega)
  have w5 : IntKind.i64.wrap 5 = 5 := w64 (by omega)
  have w6 : IntKind.i64.wrap 6 = 6 := w64 (by omega)
  have w7 : IntKind.i64.wrap 0 = 0 := w64 (by omega)
  have w8 : IntKind.i64.wrap (-2) = -2 := w64 (by omega)
  refine pBuild_rc rfl rfl ?_
  simp only [Tryz.f235, run_seq]
  generalize hK : (Code.region 12 _ _).seq _ = K
  simp -implicitDefEqProofs [go_sem, hb]
  refine run_inv _ _ _ _ _ (fun (k : Nat) t h1 => k ≤ 3 ∧ get t 3 = .sl q0 0 6 1 ∧ get t 5 = .i .i64 (2 * k) ∧ get t 4 = .b (decide (k = 0)) ∧ h1 = h) (fun k => 3 - k) _ (x := 0) ⟨by omega, by simp -implicitDefEqProofs [go_sem], by simp -implicitDefEqProofs [go_sem], by simp -implicitDefEqProofs [go_sem], rfl⟩ ?_
  rintro k t h1 ⟨hk, t3, t5, t4, rfl⟩ ih
  rcases (show k = 0 ∨ k = 1 ∨ k = 2 ∨ k = 3 by omega) with rfl | rfl | rfl | rfl
  · simp -implicitDefEqProofs [go_sem, Tryz.f235, t3, t5, t4, hg, c0, c1, w1, w2]
    refine ih 1 _ _ (by omega) ⟨by omega, ?_⟩
    simp -implicitDefEqProofs [go_sem, t3, w2, w4, w6]
  · simp -implicitDefEqProofs [go_sem, Tryz.f235, t3, t5, t4, hg, c2, c3, w3, w4]
    refine ih 2 _ _ (by omega) ⟨by omega, ?_⟩
    simp -implicitDefEqProofs [go_sem, t3, w2, w4, w6]
  · simp -implicitDefEqProofs [go_sem, Tryz.f235, t3, t5, t4, hg, c4, c5, w5, w6]
    refine ih 3 _ _ (by omega) ⟨by omega, ?_⟩
    simp -implicitDefEqProofs [go_sem, t3, w2, w4, w6]
  · simp -implicitDefEqProofs [go_sem, Tryz.f235, t3, t5, t4]
    refine run_gen (fun t => get t 3 = .sl q0 0 6 1 ∧ get t 4 = .b false) (by simp -implicitDefEqProofs [go_sem, t3, t4]) ?_
    clear ih t3 t4 t5
    clear t
    rintro t ⟨t3, t4⟩
    subst hK
    have hv1 : (Value.slice none 0 0).oneCell' = true := rfl
    have ws : spl (tabK 0 ++ [V.c (.slice none 0 0)]) 0 (tabK 0 ++ [V.sl h1.length 0 0 1]) = tabK 0 ++ [V.sl h1.length 0 0 1] := spl_all (p := []) _ _ (by simp [tab_len])
    simp -implicitDefEqProofs [go_sem, Tryz.f235, t3, t4, tab_c, tab_z, tab_f, tab_ss, tab_len, tab_one, hv1, w3, w4, ws]
    refine run_inv _ _ _ _ _ (fun (x : Nat × Nat) t h2 => x.1 ≤ 3 ∧ get t 3 = .sl q0 0 6 1 ∧ get t 11 = .p (h1.length + 1) 0 ∧ get t 12 = .i .i64 (4 - 2 * x.1) ∧ hget h2 (h1.length + 1) = ⟨2, true, tabK x.1 ++ [.sl x.2 0 x.1 1]⟩ ∧ hget h2 x.2 = cellK x.1 ∧ ¬ x.2 = h1.length + 1 ∧ h1.length ≤ x.2 ∧ x.2 < h2.length ∧ h1.length + 1 < h2.length ∧ Ext h1 h2) (fun x => 3 - x.1) _ (x := (0, h1.length)) ⟨by simp, by simp -implicitDefEqProofs [go_sem, t3], by simp -implicitDefEqProofs [go_sem], by simp -implicitDefEqProofs [go_sem, w4], by rw [hget_at rfl]; rfl, by rw [hget_at0 rfl]; rfl, by simp, by simp, by simp, by simp, (Ext.refl h1).app _⟩ ?_
    rintro ⟨k, q⟩ t h2 ⟨hk, t3, t11, t12, hm, hq, hqm, hq1, hq2, hm2, hE⟩ ih
    simp only at hk t12 hm hq hqm hq1 hq2
    have hE1 := hE.1
    have hg2 : hget h2 q0 = ⟨st + 1, xx, c⟩ := by rw [hE.2 _ hql]; exact hg
    have ld : ∀ (j cc : Nat) (s : V), cc < 256 → ldN (tabK j ++ [s]) cc 1 = some [if (cc = 13 ∧ 1 ≤ j) ∨ (cc = 10 ∧ 2 ≤ j) ∨ (cc = 9 ∧ 3 ≤ j) then .e0 else .c (.slice none 0 0)] := fun j cc s h => tab_ld h s
    rcases (show k = 0 ∨ k = 1 ∨ k = 2 ∨ k = 3 by omega) with rfl | rfl | rfl | rfl
    · simp [cellK, nmK, sts] at hq
      have t12 : get t 12 = .i .i64 4 := by rw [t12]; rfl
      simp -implicitDefEqProofs [go_sem, Tryz.f235, t3, t11, t12, hg2, c4, c5, w1, w2, w3, w4, w5, hm, hq, tab_c, tab_f, tab_ls, tab_ss, tab_len, hv1, ld, hqm, hq2, hm2, sts]
      refine ih (0+1, h2.length + 2) _ _ (by simp) ⟨by simp, by simp -implicitDefEqProofs [go_sem, t3], by simp -implicitDefEqProofs [go_sem, t11], by simp -implicitDefEqProofs [go_sem, w2, w7, w8], ?_, ?_, by simp only; omega, by simp only; omega, by simp, by simp; omega, ((hE.set hq1 _).set (by omega) _).app _⟩
      · rw [hget_lt (by simp; omega), hget_set, if_pos ⟨rfl, by simp; omega⟩]; simp only [tab_1]
      · simp only; rw [hget_at (n := h2.length) (k := 2) (by simp)]; rfl
    · simp [cellK, nmK, sts] at hq
      have t12 : get t 12 = .i .i64 2 := by rw [t12]; rfl
      simp -implicitDefEqProofs [go_sem, Tryz.f235, t3, t11, t12, hg2, c2, c3, w1, w2, w3, w4, w5, hm, hq, tab_c, tab_f, tab_ls, tab_ss, tab_len, hv1, ld, hqm, hq2, hm2, sts]
      refine ih (1+1, h2.length + 2) _ _ (by simp) ⟨by simp, by simp -implicitDefEqProofs [go_sem, t3], by simp -implicitDefEqProofs [go_sem, t11], by simp -implicitDefEqProofs [go_sem, w2, w7, w8], ?_, ?_, by simp only; omega, by simp only; omega, by simp, by simp; omega, ((hE.set hq1 _).set (by omega) _).app _⟩
      · rw [hget_lt (by simp; omega), hget_set, if_pos ⟨rfl, by simp; omega⟩]; simp only [tab_2]
      · simp only; rw [hget_at (n := h2.length) (k := 2) (by simp)]; rfl
    · simp [cellK, nmK, sts] at hq
      have t12 : get t 12 = .i .i64 0 := by rw [t12]; rfl
      simp -implicitDefEqProofs [go_sem, Tryz.f235, t3, t11, t12, hg2, c0, c1, w1, w2, w3, w4, w5, hm, hq, tab_c, tab_f, tab_ls, tab_ss, tab_len, hv1, ld, hqm, hq2, hm2, sts]
      refine ih (2+1, h2.length + 2) _ _ (by simp) ⟨by simp, by simp -implicitDefEqProofs [go_sem, t3], by simp -implicitDefEqProofs [go_sem, t11], by simp -implicitDefEqProofs [go_sem, w2, w7, w8], ?_, ?_, by simp only; omega, by simp only; omega, by simp, by simp; omega, ((hE.set hq1 _).set (by omega) _).app _⟩
      · rw [hget_lt (by simp; omega), hget_set, if_pos ⟨rfl, by simp; omega⟩]; simp only [tab_3]
      · simp only; rw [hget_at (n := h2.length) (k := 2) (by simp)]; rfl
    · have t12 : get t 12 = .i .i64 (-2) := by rw [t12]; rfl
      simp -implicitDefEqProofs [go_sem, Tryz.f235, t3, t11, t12]
      exact ⟨hE, q, hq1, hm, hq⟩
end GoD

/-! A replacer is made once. -/
namespace GoD
open Go Go.Proofs
set_option linter.unusedVariables false
set_option linter.unusedSimpArgs false
set_option maxHeartbeats 4000000
set_option maxRecDepth 100000
/-- all is as it was but one block -/
def ExtB (b : Nat) (h h1 : Heap) : Prop := h.length ≤ h1.length ∧ ∀ i, i < h.length → i ≠ b → hget h1 i = hget h i
noncomputable def pBuildOnceC : Ct := rct (ctm [] Tryz.prog G0 [(235, pBuildC)]) 170 1
theorem pBuildOnce_ok : CtOk Tryz.prog G0 170 pBuildOnceC := rct_ok (l := [(235, pBuildC)]) fol (sound_cons pBuild_ok sound_nil) [] (by kernel_rfl)
theorem pBuildOnce_rc {args : List V} {h : Heap} {Q : V → Heap → Prop} {c : Code} (hb : Tryz.f170.body = some c) (hn : args.length = 1) (hr : Run (ctm [] Tryz.prog G0 [(235, pBuildC)]) (Fini (ctm [] Tryz.prog G0 [(235, pBuildC)]) Tryz.f170.results.toList Q) [.c c] args h) : ∃ v h', pBuildOnceC args h = some (v, h') ∧ Q v h' := rct_run [] Tryz.func170 hb hn hr
theorem pBuildOnce_go {h : Heap} {b q0 : Nat} {x : Bool} {d1 d2 d3 d4 : V} (hb : hget h b = ⟨2, x, [d1, d2, d3, d4, .sl q0 0 6 1]⟩) (hs : strsAt h q0 0 6 = some old6) : ∃ v h1, pBuildOnceC [.p b 0] h = some (v, h1) ∧ v = .tup [] ∧ ExtB b h h1 ∧
    ∃ m q, h.length ≤ m ∧ h.length ≤ q ∧ hget h1 b = ⟨2, x, [d1, d2, d3, .ifc 322 (.p m 0), .c (.slice none 0 0)]⟩ ∧ hget h1 m = ⟨2, true, tabK 3 ++ [.sl q 0 3 1]⟩ ∧ hget h1 q = cellK 3 := by
  obtain ⟨v, h1, hC, hE, m, q, rfl, hm1, hq1, hm, hq⟩ := pBuild_go hb hs
  have hbl := aliveO hb
  have hb1 : hget h1 b = ⟨2, x, [d1, d2, d3, d4, .sl q0 0 6 1]⟩ := by rw [hE.2 _ hbl]; exact hb
  have hbl1 : b < h1.length := by have := hE.1; omega
  refine pBuildOnce_rc rfl rfl ?_
  have hv1 : (Value.slice none 0 0).oneCell' = true := rfl
  simp -implicitDefEqProofs [go_sem, Tryz.f170, hC, hb1, hbl1, hget_set, hv1]
  refine ⟨⟨by have := hE.1; simpa using this, fun i hi hne => ?_⟩, m, hm1, q, hq1, rfl, ?_, ?_⟩
  · rw [hget_set, if_neg (by omega)]
    try rw [hget_set, if_neg (by omega)]
    exact hE.2 i hi
  · rw [if_neg (by omega)]; exact hm
  · rw [if_neg (by omega)]; exact hq
theorem HR.setC {P : Program} {G : Nat → List V} {r : List (Option Loc)} {h : Heap} {w : World} {b j : Nat} {x : Bool} {c : List V} {L : Loc} {k : IntKind} {n : Int} {t : TypeId} {i : TypeInfo} (hr : HR G r h w.heap) (hb : hget h b = ⟨2, x, c⟩) (hL : r[b]? = some (some L)) (hj : j < c.length) (hk : k.wrap n = n)
    (ht : P.underlying t = some (.int k)) (hi : P.info? t = some i) (hs : P.cellsOf t = 1) : HR G r (h.set b ⟨2, x, c.set j (.i k n)⟩) (w.setCell ⟨L.block, L.off + j, none⟩ (.int k n)).heap ∧ Keep r h w r (h.set b ⟨2, x, c.set j (.i k n)⟩) (w.setCell ⟨L.block, L.off + j, none⟩ (.int k n)) := by
  have hst : storeV (ctx P G []) h t (.p b j) (.i k n) = some (h.set b ⟨2, x, c.set j (.i k n)⟩) := by
    unfold storeV
    simp only [hb]
    rw [if_pos ⟨by simp [cellsV, ctx, hs], by simp [cellsV], by simp [cellsV]; omega, by simp [cellsV, isOne]⟩]
    rfl
  obtain ⟨w', h1, h2, h3⟩ := storeV_ok (E := ctx P G []) hr (.p b j L hL) (.i k n hk) hst
  have hb' := hget_some hb (by simp)
  rcases hr.blk b _ _ hb' hL with h0 | ⟨C, e, fz, d1, d2, d3, d4⟩
  · simp at h0
  obtain ⟨e1, e2, e3⟩ := d4 rfl
  simp only at d2 e2
  have hlt : L.off + j < C.size := by omega
  have hcell : w.cell? ⟨L.block, L.off + j, none⟩ = some C[L.off + j] := by rw [cell_of d1]; exact Array.getElem?_eq_getElem hlt
  have hfr : w.frozen? ⟨L.block, L.off + j, none⟩ = false := by
    have := e3 (L.off + j) (by omega) (by omega)
    simp only [World.frozen?, d1]
    rw [Bool.and_eq_false_iff, decide_eq_false_iff_not, decide_eq_false_iff_not]
    omega
  have e : w' = w.setCell ⟨L.block, L.off + j, none⟩ (.int k n) := by
    have hrun : (Instr.storeAt t (.pointer (some ⟨L.block, L.off + j, none⟩)) (.int k n)).run P w = .ok () (w.setCell ⟨L.block, L.off + j, none⟩ (.int k n)) := by
      have hst := run_store P w ⟨L.block, L.off + j, none⟩ (.int k n) .plain rfl
      rw [hcell] at hst
      simp only [hfr, Bool.false_eq_true, if_false] at hst
      have hsz : (Go.sizeOf t).run P w = .ok 1 w := by simp [Go.sizeOf, typeInfo, hi]; simpa [Program.cellsOf, hi] using hs
      have ha : (⟨L.block, L.off + j, none⟩ : Addr).add 0 = ⟨L.block, L.off + j, none⟩ := by simp [Addr.add]
      simp [Instr.storeAt, Instr.sureAddr, storeVar, hsz, storeCells, Value.cells, ha, hst]
    have h1' : (Instr.storeAt t (.pointer (some ⟨L.block, L.off + j, none⟩)) (.int k n)).run P w = .ok () w' := h1
    rw [hrun] at h1'
    cases h1'; rfl
  subst e
  exact ⟨h2, h3⟩
theorem ok_of2 {P : Program} {G : Nat → List V} {f : FuncId} {args : List V} {h h' : Heap} {v : V} (hk : Known P G f args h v h') (hc : callableB P f = true) : Ok P G f args h v h' := by
  rcases hk with ⟨_, h⟩ | ⟨rfl, h⟩
  · exact h
  · intro r w xs hr hx
    exfalso
    obtain ⟨x, h1, _⟩ := h r xs w hx
    obtain ⟨fn, hf, hb, hn⟩ := callable_of hc
    have hn' : ¬ fn.name = "runtime.NumGoroutine" := by simpa using hn
    have hb' : ¬ fn.body = none := fun e => by rw [e] at hb; cases hb
    rw [callFunc] at h1
    simp [hf, Sem.run] at h1
    rw [if_neg hn', if_neg hb'] at h1
    cases h1
def onceL (d s : Int) (e3 e4 e5 : V) : List V := [.i .u32 d, .i .i32 s, e3, e4, e5]
noncomputable def pDoC : Ct := fun args h => match args with
  | [.p b 0, .bf (.func g) [.p b' 0]] => if g = 170 ∧ b' = b then (match hget h b with
    | ⟨2, x, [.i .u32 d, .i .i32 s, e3, e4, e5]⟩ => if d = 0 ∧ s = 0 then (match pBuildOnceC [.p b 0] (h.set b ⟨2, x, onceL 0 1 e3 e4 e5⟩) with
      | some (.tup [], h2) => (match hget h2 b with
        | ⟨2, x2, [.i .u32 d2, .i .i32 s2, f3, f4, f5]⟩ => if d2 = 0 ∧ s2 = 1 then some (.tup [], h2.set b ⟨2, x2, onceL 1 0 f3 f4 f5⟩) else none
        | _ => none)
      | _ => none) else none
    | _ => none) else none
  | _ => none
theorem once_cells {G : Nat → List V} {r : List (Option Loc)} {h : Heap} {w : World} {b : Nat} {x : Bool} {d s : Int} {e3 e4 e5 : V} {L : Loc} (hr : HR G r h w.heap) (hb : hget h b = ⟨2, x, onceL d s e3 e4 e5⟩) (hL : r[b]? = some (some L)) :
    w.cell? ⟨L.block, L.off, none⟩ = some (.int .u32 d) ∧ w.cell? ⟨L.block, L.off + 1, none⟩ = some (.int .i32 s) ∧ w.frozen? ⟨L.block, L.off, none⟩ = false ∧ w.frozen? ⟨L.block, L.off + 1, none⟩ = false := by
  have hb' := hget_some hb (by simp)
  rcases hr.blk b _ _ hb' hL with h0 | ⟨C, e, fz, d1, d2, d3, d4⟩
  · simp at h0
  obtain ⟨e1, e2, e3'⟩ := d4 rfl
  simp only [onceL, List.length_cons, List.length_nil] at d2 e2
  obtain ⟨x0, q0, q0'⟩ := d2 0 _ rfl
  obtain ⟨x1, q1, q1'⟩ := d2 1 _ rfl
  cases q0' with | i =>
  cases q1' with | i =>
  have fr : ∀ j, j < 5 → w.frozen? ⟨L.block, L.off + j, none⟩ = false := fun j hj => by
    have := e3' (L.off + j) (by omega) (by omega)
    simp only [World.frozen?, d1]
    rw [Bool.and_eq_false_iff, decide_eq_false_iff_not, decide_eq_false_iff_not]
    omega
  exact ⟨by rw [cell_of d1]; exact q0, by rw [cell_of d1]; exact q1, fr 0 (by omega), fr 1 (by omega)⟩
theorem drew_ok {G : Nat → List V} {r : List (Option Loc)} {h : Heap} {w : World} (hr : HR G r h w.heap) : HR G r h w.drew.heap ∧ Keep r h w r h w.drew := ⟨hr, List.prefix_refl _, Nat.le_refl _, rfl, rfl, rfl, fun _ _ _ => rfl, fun i b L h1 h2 h3 _ => ⟨i, b, L, h1, h2, h3, rfl⟩⟩
theorem pDo_ok : CtOk Tryz.prog G0 169 pDoC := by
  intro args h v h' hc
  unfold pDoC at hc
  split at hc
  · rename_i b g b'
    split at hc
    · rename_i hg
      obtain ⟨rfl, rfl⟩ := hg
      split at hc
      · rename_i x d s e3 e4 e5 hb
        split at hc
        · rename_i hds
          obtain ⟨rfl, rfl⟩ := hds
          split at hc
          · rename_i h2 hC
            split at hc
            · rename_i x2 d2 s2 f3 f4 f5 hb2
              split at hc
              · rename_i hds2
                obtain ⟨rfl, rfl⟩ := hds2
                obtain ⟨rfl, rfl⟩ := Prod.mk.inj (Option.some.inj hc)
                refine .inl ⟨callable_of (by kernel_rfl), fun r w xs hr hx => ?_⟩
                cases hx with | cons hx1 hx2 =>
                cases hx1 with | p _ _ L hL =>
                cases hx2 with | cons hx3 hx4 =>
                cases hx4
                cases hx3 with | bf _ _ ys hys =>
                cases hys with | cons hy1 hy2 =>
                cases hy2
                cases hy1 with | p _ _ L' hL' =>
                obtain rfl : L' = L := by rw [hL] at hL'; exact (Option.some.inj (Option.some.inj hL')).symm
                have hb : hget h b' = ⟨2, x, onceL 0 0 e3 e4 e5⟩ := hb
                have hb2 : hget h2 b' = ⟨2, x2, onceL 0 1 f3 f4 f5⟩ := hb2
                obtain ⟨c0, c1, z0, z1⟩ := once_cells hr hb hL
                obtain ⟨hrA, hkA⟩ := HR.setC (P := Tryz.prog) (j := 1) (k := .i32) (n := 1) (t := 21) hr hb hL (by simp [onceL]) rfl Tryz.underlying21 rfl (by kernel_rfl)
                have hcall := (ok_of2 (pBuildOnce_ok _ _ _ _ hC) (by kernel_rfl)) r (w.setCell ⟨L'.block, L'.off + 1, none⟩ (.int .i32 1)) [.pointer (some ⟨L'.block, L'.off + 0, none⟩)] hrA (.cons (.p _ 0 L' hL) .nil)
                refine (Once.first L'.block L'.off ⟨L'.block, L'.off, none⟩ (fun w2 => ∃ r2, r <+: r2 ∧ HR G0 r2 h2 w2.heap ∧ Keep r (h.set b' ⟨2, x, onceL 0 1 e3 e4 e5⟩) (w.setCell ⟨L'.block, L'.off + 1, none⟩ (.int .i32 1)) r2 h2 w2) w c0 c1 z0 z1 (hcall.mono ?_) ?_).mono ?_
                · rintro e w2 ⟨y, r2, rfl, hy, k1, k2⟩
                  refine ⟨?_, r2, k2.pre, k1, k2⟩
                  cases hy with | tup _ ys h =>
                  cases h; rfl
                · rintro w2 ⟨r2, p1, p2, p3⟩
                  exact once_cells p2 hb2 (getElem?_pre p1 hL)
                · rintro e w' ⟨rfl, w2, ⟨r2, p1, p2, p3⟩, rfl⟩
                  have hL2 := getElem?_pre p1 hL
                  obtain ⟨m1, m2⟩ := drew_ok p2
                  obtain ⟨n1, n2⟩ := HR.setC (P := Tryz.prog) (j := 0) (k := .u32) (n := 1) (t := 133) m1 hb2 hL2 (by simp [onceL]) rfl Tryz.underlying133 rfl (by kernel_rfl)
                  have hbl2 : b' < h2.length := aliveO hb2
                  have hb3 : hget (h2.set b' ⟨2, x2, (onceL 0 1 f3 f4 f5).set 0 (.i .u32 1)⟩) b' = ⟨2, x2, onceL 1 1 f3 f4 f5⟩ := by rw [hget_set, if_pos ⟨rfl, hbl2⟩]; rfl
                  obtain ⟨o1, o2⟩ := HR.setC (P := Tryz.prog) (j := 1) (k := .i32) (n := 0) (t := 21) n1 hb3 hL2 (by simp [onceL]) rfl Tryz.underlying21 rfl (by kernel_rfl)
                  rw [List.set_set] at o1 o2
                  exact ⟨_, r2, rfl, .tup [] [] .nil, o1, (((hkA.trans p3).trans m2).trans n2).trans o2⟩
              · cases hc
            · cases hc
          · cases hc
        · cases hc
      · cases hc
    · cases hc
  · cases hc
end GoD
