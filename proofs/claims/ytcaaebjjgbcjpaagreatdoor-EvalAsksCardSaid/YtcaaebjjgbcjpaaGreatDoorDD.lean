import Derived.RangeFuncRecord
import Derived.Recover
import Derived.Test.YtcaaebjjgbcjpaaGreatDoorDC
/-! A range over a function that yields nothing, and functions that leave with deferred calls. -/
namespace GoD
open Go
set_option linter.unusedVariables false
set_option linter.unusedSimpArgs false
theorem finish_at_range (b : Frame) (a : Act) (k : List Item) (l : Nat) (v : Value) : (b.at a (.inRangeFunc l :: k)).finish v = b.at a (.endRangeFunc l :: k) := by
  simp [Frame.finish, Frame.at]
theorem wp_range0 {P : Program} {g : Operand} {ps : Array Tmp} {assign body : Code} {Q : Exit → Act → World → Prop} {a : Act} {w : World} {gf : FuncId} {cap : Array Value}
    (hg : a.eval g = .func (.func gf) #[] cap) (hinv : ∀ args w, (callFunc gf args).run P w = .ok (.enter gf args) w)
    (h : ∀ (rc : Loop), rc.state = .ready → rc.pending = none →
      Calls P gf (#[.func (.yield (w.heap.size + 1)) #[] #[]] ++ cap) ((w.alloc (.deferred (some []))).alloc (.loop rc)) fun e w' => (∃ v, e = .returned v) ∧ w'.heap[w.heap.size + 1]? = some (.loop rc) ∧
        Q .normal { a with defers := { target := .collected w.heap.size, args := #[] } :: a.defers } (w'.putObj (w.heap.size + 1) (.loop { rc with state := .exhausted }))) :
    (Code.rangeFunc g ps assign body).wp P Q a w := by
  intro b k cs
  obtain ⟨rc, hrc⟩ : ∃ rc : Loop, rc = { state := .ready, pending := none, fn := b.fn, tmps := a.tmps, params := ps, assign, body, defers := w.heap.size } := ⟨_, rfl⟩
  have he : (Instr.enterLoop b.fn a.tmps ps assign body none).run P w = .ok (w.heap.size + 1, [{ target := .collected w.heap.size, args := #[] }]) ((w.alloc (.deferred (some []))).alloc (.loop rc)) := by
    rw [hrc]; exact run_enterLoop_outer _ _ _ _ _
  obtain ⟨e, w3, fr, ⟨⟨v, rfl⟩, hl, hQ⟩, hsteps, hfn, hleave⟩ := h rc (by rw [hrc]) (by rw [hrc]) (b.at { a with defers := { target := .collected w.heap.size, args := #[] } :: a.defers } (.inRangeFunc (w.heap.size + 1) :: k) :: cs)
  have hres : (resolve a.eval (rangeCall g (w.heap.size + 1)) 0).run P ((w.alloc (.deferred (some []))).alloc (.loop rc)) = .ok { target := .fn (.func gf) cap, args := #[.func (.yield (w.heap.size + 1)) #[] #[]] } ((w.alloc (.deferred (some []))).alloc (.loop rc)) := by
    simp only [resolve, hg]
    simp -implicitDefEqProofs [go_sem]
  have h1 : Go.step P (lone (b.at a (.code (.rangeFunc g ps assign body) :: k)) cs w) =
      .next (lone (Frame.enter P gf (#[.func (.yield (w.heap.size + 1)) #[] #[]] ++ cap) .normal) (b.at { a with defers := { target := .collected w.heap.size, args := #[] } :: a.defers } (.inRangeFunc (w.heap.size + 1) :: k) :: cs) ((w.alloc (.deferred (some []))).alloc (.loop rc))) := by
    refine step_lone_go ?_
    have hev : ∀ x, (b.at { a with defers := { target := .collected w.heap.size, args := #[] } :: a.defers } (.inRangeFunc (w.heap.size + 1) :: k)).eval x = a.eval x := fun x => by cases x <;> rfl
    have hev' := funext hev
    simp only [Frame.at] at hev'
    have hi : (invoke (Target.fn (.func gf) cap) #[.func (.yield (w.heap.size + 1)) #[] #[]]).run P ((w.alloc (.deferred (some []))).alloc (.loop rc)) = .ok (.enter gf (#[.func (.yield (w.heap.size + 1)) #[] #[]] ++ cap)) ((w.alloc (.deferred (some []))).alloc (.loop rc)) := by
      simp [invoke, go_sem, hinv]
    simp [stepG, stepG.exec, Frame.at, Sem.runT_eq, he, GStep.bare_after, stepG.apply, hev', Sem.run_bind, hres, hi, Result.andThen]
  have h2 : Go.step P (lone fr (b.at { a with defers := { target := .collected w.heap.size, args := #[] } :: a.defers } (.inRangeFunc (w.heap.size + 1) :: k) :: cs) w3) =
      .next (lone (b.at { a with defers := { target := .collected w.heap.size, args := #[] } :: a.defers } (.endRangeFunc (w.heap.size + 1) :: k)) cs w3) := by
    rw [← finish_at_range b _ k _ v]; exact step_leave_returned hleave
  have hend := run_endLoop (P := P) hl (by rw [hrc]; simp)
  have h3 : Go.step P (lone (b.at { a with defers := { target := .collected w.heap.size, args := #[] } :: a.defers } (.endRangeFunc (w.heap.size + 1) :: k)) cs w3) =
      .next (lone (b.at { a with defers := { target := .collected w.heap.size, args := #[] } :: a.defers } k) cs (w3.putObj (w.heap.size + 1) (.loop { rc with state := .exhausted }))) := by
    refine step_lone_go ?_
    have hp : rc.pending = none := by rw [hrc]
    simp [stepG, stepG.exec, Frame.at, Sem.runT_eq, hend, GStep.bare_after, hp]
  exact ⟨.normal, _, _, hQ, .head h1 (Steps.trans hsteps (.head h2 (.one h3)))⟩
theorem calls_of_wp_mark {P : Program} {f : FuncId} {fn : Func} {c : Code} {args : Array Value} {w : World} {R : Ending → World → Prop} (hf : P.funcs[f]? = some fn) (hb : fn.body = some c)
    (h : c.wp P (fun e a w' => (e = .normal ∨ e = .ret) ∧ ∃ r, a.defers = [{ target := .collected r, args := #[] }] ∧ w'.heap[r]? = some (.deferred (some [])) ∧
      ∃ v, (results fn a.tmps).run P (w'.putObj r (.deferred none)) = .ok v (w'.putObj r (.deferred none)) ∧ R (.returned v) (w'.putObj r (.deferred none)))
      { tmps := args ++ Array.replicate (fn.ntmps - args.size) undef, defers := [] } w) : Calls P f args w R := by
  intro cs
  let b : Frame := { (default : Frame) with fn := f, kind := .normal }
  have henter : Frame.enter P f args .normal = b.at { tmps := args ++ Array.replicate (fn.ntmps - args.size) undef, defers := [] } [.code c] := by
    simp [Frame.enter, Frame.at, hf, hb, b]
  obtain ⟨e, a', w', ⟨he, r, hd, hr, v, hv, hR⟩, harr⟩ := h b [] cs
  rw [← henter] at harr
  have out : ∀ todo, Go.step P (lone { b.at a' todo with mode := .returning } cs w') = .next (lone { b.at a' todo with mode := .returning, defers := [] } cs (w'.putObj r (.deferred none))) := fun todo => by
    have := step_collected (P := P) (cs := cs) (fr := { b.at a' todo with mode := .returning }) (ds := []) (calls := []) (d := { target := .collected r, args := #[] }) (by simp) (by simpa [Frame.at] using hd) rfl (run_takeDeferred hr)
    simpa using this
  rcases he with rfl | rfl
  · exact ⟨_, _, _, hR, Comes.of_steps (Steps.trans harr (.head step_end (.one (out [])))) (Steps.refl P _), rfl, rfl, rfl, rfl, fn, hf, hv⟩
  · obtain ⟨todo, hs⟩ := harr
    exact ⟨_, _, _, hR, Comes.of_steps (Steps.trans hs (.one (out todo))) (Steps.refl P _), rfl, rfl, rfl, rfl, fn, hf, hv⟩
theorem wp_defer {P : Program} {id : Nat} {g : FuncId} {caps : Array Operand} {kd : Nat} {ty1 ty2 : TypeId} {ps1 ps2 : String} {af1 af2 : Array Edge} {ats : Array TypeId} {Q : Exit → Act → World → Prop} {a : Act} {w : World} (hk : kd < a.tmps.size)
    (h : Q .normal { tmps := (a.put (some kd) (.func (.func g) #[] (caps.map a.eval))).tmps, defers := { target := .fn (.func g) (caps.map a.eval), args := #[] } :: a.defers } w) :
    (Code.region id #[⟨some kd, .makeFunc (.func g) #[] caps, ty1, ps1, af1, none⟩, ⟨none, .defer ⟨.value (.tmp kd), #[], ats⟩, ty2, ps2, af2, none⟩] false).wp P Q a w := by
  refine wp_region ?_
  show wpOps P _ Q [0, 1] a w
  have g1 : (execOp a.eval ⟨some kd, .makeFunc (.func g) #[] caps, ty1, ps1, af1, none⟩).run P w = .ok (.value (.func (.func g) #[] (caps.map a.eval))) w := by
    simp [execOp, Instr.makeFunc]
  have hev : (a.put (some kd) (.func (.func g) #[] (caps.map a.eval))).eval (.tmp kd) = .func (.func g) #[] (caps.map a.eval) := by
    simp [Act.eval, Act.put, hk]
  have g2 : (execOp (a.put (some kd) (.func (.func g) #[] (caps.map a.eval))).eval ⟨none, .defer ⟨.value (.tmp kd), #[], ats⟩, ty2, ps2, af2, none⟩).run P w = .ok (.defer { target := .fn (.func g) (caps.map a.eval), args := #[] }) w := by
    simp [execOp, resolve, hev, Deferred.ofValue]
  unfold wpOps
  simp only [List.getElem?_toArray, List.getElem?_cons_zero]
  rw [if_pos (by simp [Region.wanted])]
  refine .inl ?_
  unfold Oper.wp
  rw [g1, Oper.upon_value]
  unfold wpOps
  simp only [List.getElem?_toArray, List.getElem?_cons_zero, List.getElem?_cons_succ]
  rw [if_pos (by simp [Region.wanted])]
  refine .inl ?_
  unfold Oper.wp
  rw [g2, Oper.upon_defer]
  exact h
theorem Ok.defer {E : Env} {f g n kd id : Nat} {fn : Func} {A1 A2 A3 B : Code} {caps : Array Operand} {ty1 ty2 : TypeId} {ps1 ps2 : String} {af1 af2 : Array Edge} {ats : Array TypeId} {args : List V} {h h1 h2 h3 h5 : Heap} {t1 t2 t3 t5 : Tm} {v : V} {x : Ex}
    (hm : E.P.follows .mixedOrders = true) (hS : Sound E) (hf : E.P.funcs[f]? = some fn)
    (hb : fn.body = some (.seq A1 (.seq A2 (.seq A3 (.seq (.region id #[⟨some kd, .makeFunc (.func g) #[] caps, ty1, ps1, af1, none⟩, ⟨none, .defer ⟨.value (.tmp kd), #[], ats⟩, ty2, ps2, af2, none⟩] false) B)))))
    (hok : (okCode E.pm fn.ntmps A1 && okCode E.pm fn.ntmps A2 && okCode E.pm fn.ntmps A3 && okCode E.pm fn.ntmps B && decide (args.length ≤ fn.ntmps) && decide (kd < fn.ntmps) && caps.toList.all okOp) = true)
    (e1 : exec E n A1 args h = some (.n, t1, h1)) (e2 : exec E n A2 t1 h1 = some (.n, t2, h2)) (e3 : exec E n A3 t2 h2 = some (.n, t3, h3))
    (e5 : exec E n B (set t3 kd (.f (.func g) (caps.toList.map (ev t3)))) h3 = some (x, t5, h5)) (hx : ∀ i, x ≠ .e i) (hv : resV E h5 t5 fn.results.toList = some v)
    (hgc : ∀ xs w, (callFunc g xs).run E.P w = .ok (.enter g xs) w)
    (idle : ∀ (xs : Array Value) (w : World), xs.size = caps.size → CallsD E.P g xs .returning w fun e u w' => (∃ y, e = .returned y) ∧ u = .returning ∧ w' = w) : Ok E.P E.G f args h v h5 := by
  simp only [Bool.and_eq_true, decide_eq_true_eq] at hok
  obtain ⟨⟨⟨⟨⟨⟨k1, k2⟩, k3⟩, kB⟩, ka⟩, kk⟩, kc⟩ := hok
  intro r w xs hr hxs
  have hlen := hxs.length
  refine calls_of_wp_defers hf hb ?_
  have ht : TR [] r args { tmps := xs.toArray ++ Array.replicate (fn.ntmps - xs.toArray.size) undef, defers := [] } fn.ntmps := by
    refine ⟨rfl, by simp; omega, fun i => ?_⟩
    by_cases hi : i < args.length
    · obtain ⟨x, h1, h2⟩ := forall_get hxs hi
      have : (xs.toArray ++ Array.replicate (fn.ntmps - xs.toArray.size) undef).getD i undef = x := by
        rw [Array.getD_eq_getD_getElem?, Array.getElem?_append_left (by rw [List.size_toArray]; omega)]
        simp [h1]
      rw [this]; exact h2
    · rw [get_eq, List.getD_eq_getElem?_getD, List.getElem?_eq_none (by omega)]
      exact .junk _
  refine wp_seq (exec_ok hm hS A1 k1 ht hr e1 fun r1 a1 w1 ht1 hr1 kp1 => ?_)
  show Code.wp E.P _ _ a1 w1
  refine wp_seq (exec_ok hm hS A2 k2 ht1 hr1 e2 fun r2 a2 w2 ht2 hr2 kp2 => ?_)
  show Code.wp E.P _ _ a2 w2
  refine wp_seq (exec_ok hm hS A3 k3 ht2 hr2 e3 fun r3 a3 w3 ht3 hr3 kp3 => ?_)
  show Code.wp E.P _ _ a3 w3
  refine wp_seq (wp_defer (by rw [ht3.size]; exact kk) ?_)
  have hcaps : RL r3 (caps.toList.map (ev t3)) (caps.toList.map a3.eval) := evL_ok ht3 fun x hx => List.all_eq_true.1 kc x hx
  have hput := ht3.put (d := some kd) (fun i hi => by cases hi; exact kk) (R.f (.func g) _ _ hcaps)
  have e0 : (caps.toList.map a3.eval).toArray = caps.map a3.eval := by rw [← Array.toList_map]
  rw [e0] at hput
  have ht4 : TR [{ target := .fn (.func g) (caps.map a3.eval), args := #[] }] r3 (set t3 kd (.f (.func g) (caps.toList.map (ev t3)))) { tmps := (a3.put (some kd) (.func (.func g) #[] (caps.map a3.eval))).tmps, defers := { target := .fn (.func g) (caps.map a3.eval), args := #[] } :: a3.defers } fn.ntmps :=
    ⟨by rw [ht3.defers], hput.size, hput.tm⟩
  show Code.wp E.P B _ _ w3
  refine exec_ok hm hS B kB ht4 hr3 e5 fun r5 a5 w5 ht5 hr5 kp5 => ?_
  obtain ⟨y, hy1, hy2⟩ := resV_ok (fn := fn) hr5 ht5 hv
  have fin : Leaves E.P fn a5.tmps (fun e w' => ∃ x r', e = .returned x ∧ R r' v x ∧ HR E.G r' h5 w'.heap ∧ Keep r h w r' h5 w') a5.defers .returning w5 := by
    rw [ht5.defers]
    refine leaves_cons (f := g) (args := #[] ++ caps.map a3.eval) (by simp) (show (callFunc g (#[] ++ caps.map a3.eval)).run E.P w5 = _ from hgc _ _) ((idle (#[] ++ caps.map a3.eval) w5 (by rw [Array.size_append, Array.size_map]; exact Nat.zero_add _)).mono ?_)
    rintro e u w' ⟨⟨y', rfl⟩, rfl, rfl⟩
    exact ⟨y, hy1, y, r5, rfl, hy2, hr5, ((kp1.trans kp2).trans kp3).trans kp5⟩
  cases x with
  | n => exact fin
  | r => exact fin
  | e i => exact absurd rfl (hx i)
theorem HR.putAbove {G : Nat → List V} {r : List (Option Loc)} {h : Heap} {w w' : World} {l : Nat} {o : Obj} (hr : HR G r h w'.heap) (hl : w.heap.size ≤ l) (hlt : ∀ (i : Nat) (b : Blk) (L : Loc), h[i]? = some b → Live b → r[i]? = some (some L) → L.block < w.heap.size) (hg : ∀ g, G g ≠ [] → g < w.heap.size) : HR G r h (w'.putObj l o).heap :=
  hr.heap (fun i b L a1 a2 a3 => World.putObj_heap_other (by have := hlt i b L a1 a2 a3; omega)) fun g hgg => World.putObj_heap_other (by have := hg g hgg; omega)
def liveB (b : Blk) : Bool := b.st != 0 || b.x
theorem liveB_iff {b : Blk} : liveB b = true ↔ Live b := by simp [liveB, Live]
theorem hget_of {h : Heap} {i : Nat} {b : Blk} (hb : h[i]? = some b) : hget h i = b := by
  unfold hget; rw [List.getD_eq_getElem?_getD, hb]; rfl
theorem Ok.range0 {E : Env} {f gf gt n bid : Nat} {fn : Func} {A1 A2 A3 B asg bod : Code} {ps : Array Tmp} {caps : List V} {args : List V} {h h1 h2 h3 h5 : Heap} {t1 t2 t3 t5 : Tm} {u v : V} {x : Ex}
    (hm : E.P.follows .mixedOrders = true) (hS : Sound E) (hf : E.P.funcs[f]? = some fn)
    (hb : fn.body = some (.seq A1 (.seq A2 (.seq (.seq A3 (.block bid (.rangeFunc (.tmp gt) ps asg bod))) B))))
    (hok : (okCode E.pm fn.ntmps A1 && okCode E.pm fn.ntmps A2 && okCode E.pm fn.ntmps A3 && okCode E.pm fn.ntmps B && decide (args.length ≤ fn.ntmps)) = true)
    (e1 : exec E n A1 args h = some (.n, t1, h1)) (e2 : exec E n A2 t1 h1 = some (.n, t2, h2)) (e3 : exec E n A3 t2 h2 = some (.n, t3, h3))
    (eg : get t3 gt = .f (.func gf) caps) (ec : Callable E.P gf ∧ Ok E.P E.G gf (.junk :: caps) h3 u h3)
    (e5 : exec E n B t3 h3 = some (x, t5, h5)) (hx : ∀ i, x ≠ .e i) (hl5 : h5.length = h3.length) (hlv : ((List.range h5.length).all fun i => !(liveB (hget h5 i)) || liveB (hget h3 i)) = true) (hv : resV E h5 t5 fn.results.toList = some v) : Ok E.P E.G f args h v h5 := by
  simp only [Bool.and_eq_true, decide_eq_true_eq] at hok
  obtain ⟨⟨⟨⟨k1, k2⟩, k3⟩, kB⟩, ka⟩ := hok
  obtain ⟨⟨gfn, gc1, gc2, gc3⟩, gok⟩ := ec
  have hgc : ∀ xs w, (callFunc gf xs).run E.P w = .ok (.enter gf xs) w := fun xs w => by
    simp only [callFunc, Sem.run_bind, run_program, Result.andThen_ok, gc1, gc2, gc3, Bool.false_eq_true, if_false, Sem.run_pure]
  intro r w xs hr hxs
  have hlen := hxs.length
  refine calls_of_wp_mark hf hb ?_
  have ht : TR [] r args { tmps := xs.toArray ++ Array.replicate (fn.ntmps - xs.toArray.size) undef, defers := [] } fn.ntmps := by
    refine ⟨rfl, by simp; omega, fun i => ?_⟩
    by_cases hi : i < args.length
    · obtain ⟨x, h1, h2⟩ := forall_get hxs hi
      have : (xs.toArray ++ Array.replicate (fn.ntmps - xs.toArray.size) undef).getD i undef = x := by
        rw [Array.getD_eq_getD_getElem?, Array.getElem?_append_left (by rw [List.size_toArray]; omega)]
        simp [h1]
      rw [this]; exact h2
    · rw [get_eq, List.getD_eq_getElem?_getD, List.getElem?_eq_none (by omega)]
      exact .junk _
  refine wp_seq (exec_ok hm hS A1 k1 ht hr e1 fun r1 a1 w1 ht1 hr1 kp1 => ?_)
  show Code.wp E.P _ _ a1 w1
  refine wp_seq (exec_ok hm hS A2 k2 ht1 hr1 e2 fun r2 a2 w2 ht2 hr2 kp2 => ?_)
  show Code.wp E.P _ _ a2 w2
  refine wp_seq (wp_seq (exec_ok hm hS A3 k3 ht2 hr2 e3 fun r3 a3 w3 ht3 hr3 kp3 => ?_))
  show Code.wp E.P _ _ a3 w3
  refine wp_block ?_
  have hcap := ht3.tm gt
  rw [eg] at hcap
  generalize hX : a3.tmps.getD gt undef = X at hcap
  cases hcap with | f _ _ cs hcs =>
  have hlt3 : ∀ (i : Nat) (b : Blk) (L : Loc), h3[i]? = some b → Live b → r3[i]? = some (some L) → L.block < w3.heap.size := fun i b L q1 q2 q3 => hr3.lt q1 q2 q3
  have hg3 : ∀ g, E.G g ≠ [] → g < w3.heap.size := fun g hg => hr3.glt hg
  refine wp_range0 (gf := gf) (cap := cs.toArray) hX hgc fun rc hrs hrp => ?_
  have hr3' : HR E.G r3 h3 ((w3.alloc (.deferred (some []))).alloc (.loop rc)).heap := by
    refine hr3.heap (fun i b L q1 q2 q3 => ?_) fun g hg => ?_
    · have := hlt3 i b L q1 q2 q3
      show ((w3.heap.push _).push _)[_]? = _
      rw [Array.getElem?_push_lt (by simp; omega), Array.getElem_push_lt (by omega)]; exact (Array.getElem?_eq_getElem _).symm
    · have := hg3 g hg
      show ((w3.heap.push _).push _)[_]? = _
      rw [Array.getElem?_push_lt (by simp; omega), Array.getElem_push_lt (by omega)]; exact (Array.getElem?_eq_getElem _).symm
  have hcall := gok r3 ((w3.alloc (.deferred (some []))).alloc (.loop rc)) (.func (.yield (w3.heap.size + 1)) #[] #[] :: cs) hr3' (.cons (.junk _) hcs)
  have e0 : (#[.func (.yield (w3.heap.size + 1)) #[] #[]] ++ cs.toArray : Array Value) = (.func (.yield (w3.heap.size + 1)) #[] #[] :: cs).toArray := by simp
  rw [e0]
  refine hcall.mono ?_
  rintro e w4 ⟨y, r4, rfl, _, hr4, kp4⟩
  have er : r4 = r3 := (List.IsPrefix.eq_of_length kp4.pre (by rw [hr3.len, hr4.len])).symm
  subst er
  have free : ∀ k, w3.heap.size ≤ k → ∀ (i : Nat) (b : Blk) (L : Loc), h3[i]? = some b → Own b → r4[i]? = some (some L) → L.block ≠ k := fun k hk i b L q1 q2 q3 => by have := hlt3 i b L q1 q2.live q3; omega
  have top1 : ((w3.alloc (.deferred (some []))).alloc (.loop rc)).heap[w3.heap.size + 1]? = some (.loop rc) := by
    have := World.alloc_heap_new (w3.alloc (.deferred (some []))) (.loop rc); rwa [World.size_alloc] at this
  have top0 : ((w3.alloc (.deferred (some []))).alloc (.loop rc)).heap[w3.heap.size]? = some (.deferred (some [])) := by
    show ((w3.heap.push _).push _)[w3.heap.size]? = _
    rw [Array.getElem?_push_lt (by simp)]; simp
  have sz1 : ((w3.alloc (.deferred (some []))).alloc (.loop rc)).heap.size = w3.heap.size + 2 := by
    show ((w3.heap.push _).push _).size = _
    simp
  have low1 : ∀ k, k < w3.heap.size → ((w3.alloc (.deferred (some []))).alloc (.loop rc)).heap[k]? = w3.heap[k]? := fun k hk => by
    show ((w3.heap.push _).push _)[k]? = _
    rw [Array.getElem?_push_lt (by simp; omega), Array.getElem_push_lt hk]; exact (Array.getElem?_eq_getElem hk).symm
  have k41 := kp4.block (w3.heap.size + 1) (by rw [sz1]; omega) (free _ (by omega))
  have k40 := kp4.block (w3.heap.size) (by rw [sz1]; omega) (free _ (by omega))
  refine ⟨⟨y, rfl⟩, by rw [k41]; exact top1, ?_⟩
  have hr4' : HR E.G r4 h3 (w4.putObj (w3.heap.size + 1) (.loop { rc with state := .exhausted })).heap := hr4.putAbove (w := w3) (by omega) hlt3 hg3
  have kp4' : Keep r4 h3 w3 r4 h3 (w4.putObj (w3.heap.size + 1) (.loop { rc with state := .exhausted })) := by
    refine ⟨List.prefix_refl _, ?_, kp4.os, kp4.tape, kp4.output, fun k hk hn => ?_, fun i b L q1 q2 q3 _ => ⟨i, b, L, q1, q2, q3, rfl⟩⟩
    · have := kp4.size; rw [sz1] at this; simp; omega
    · rw [World.putObj_heap_other (by omega), kp4.block k (by rw [sz1]; omega) hn, low1 k hk]
  have d4 : (w4.putObj (w3.heap.size + 1) (.loop { rc with state := .exhausted })).heap[w3.heap.size]? = some (.deferred (some [])) := by
    rw [World.putObj_heap_other (by omega), k40]; exact top0
  have ht4 : TR [{ target := .collected w3.heap.size, args := #[] }] r4 t3 { a3 with defers := { target := .collected w3.heap.size, args := #[] } :: a3.defers } fn.ntmps := ⟨by rw [ht3.defers], ht3.size, ht3.tm⟩
  show Code.wp E.P B _ _ _
  refine exec_ok hm hS B kB ht4 hr4' e5 fun r5 a5 w5 ht5 hr5 kp5 => ?_
  have er5 : r5 = r4 := (List.IsPrefix.eq_of_length kp5.pre (by rw [hr3.len, hr5.len, hl5])).symm
  subst er5
  have d5 : w5.heap[w3.heap.size]? = some (.deferred (some [])) := by
    rw [kp5.block w3.heap.size (Array.getElem?_eq_some_iff.1 d4).1 (free _ (by omega))]; exact d4
  have hlt5 : ∀ (i : Nat) (b : Blk) (L : Loc), h5[i]? = some b → Live b → r5[i]? = some (some L) → L.block ≠ w3.heap.size := fun i b L q1 q2 q3 => by
    intro e
    have hi : i < h5.length := (List.getElem?_eq_some_iff.1 q1).1
    have h6 := List.all_eq_true.1 hlv i (List.mem_range.2 hi)
    rw [hget_of q1, liveB_iff.2 q2, Bool.not_true, Bool.false_or] at h6
    have hi3 : h3[i]? = some (hget h3 i) := by
      unfold hget
      rw [List.getD_eq_getElem?_getD, List.getElem?_eq_getElem (by omega)]; rfl
    have := hlt3 i _ L hi3 (liveB_iff.1 h6) q3
    omega
  have hr5' : HR E.G r5 h5 (w5.putObj w3.heap.size (.deferred none)).heap := hr5.heap (fun i b L q1 q2 q3 => World.putObj_heap_other (hlt5 i b L q1 q2 q3)) fun g hgg => World.putObj_heap_other (by have := hg3 g hgg; omega)
  obtain ⟨y, hy1, hy2⟩ := resV_ok (fn := fn) (w := w5.putObj w3.heap.size (.deferred none)) hr5' ht5 hv
  refine ⟨by cases x <;> first | exact .inl rfl | exact .inr rfl | exact absurd rfl (hx _), w3.heap.size, ht5.defers, d5, y, hy1, y, r5, rfl, hy2, hr5', ((kp1.trans kp2).trans kp3).trans ⟨(kp4'.trans kp5).pre, ?_, (kp4'.trans kp5).os, (kp4'.trans kp5).tape, (kp4'.trans kp5).output, fun k hk hn => ?_, (kp4'.trans kp5).own⟩⟩
  · have := (kp4'.trans kp5).size; simpa using this
  · rw [World.putObj_heap_other (by omega)]; exact (kp4'.trans kp5).block k hk hn
def hdC : Code → Code | .seq a _ => a | c => c
def tlC : Code → Code | .seq _ b => b | c => c
def bodyC (fn : Func) : Code := fn.body.getD .skip
/-- what a function with a deferred closure answers, the closure left out -/
def stepsD (E : Env) (n : Nat) (c : Code) (kd g : Nat) (caps : Array Operand) (rs : List ResultVar) (args : List V) (h : Heap) : Option (V × Heap) :=
  match exec E n (hdC c) args h with
  | some (.n, t1, h1) => match exec E n (hdC (tlC c)) t1 h1 with
    | some (.n, t2, h2) => match exec E n (hdC (tlC (tlC c))) t2 h2 with
      | some (.n, t3, h3) => match exec E n (tlC (tlC (tlC (tlC c)))) (set t3 kd (.f (.func g) (caps.toList.map (ev t3)))) h3 with
        | some (.n, t5, h5) => (resV E h5 t5 rs).map (·, h5)
        | some (.r, t5, h5) => (resV E h5 t5 rs).map (·, h5)
        | _ => none
      | _ => none
    | _ => none
  | _ => none
theorem stepsD_ok {E : Env} {f g n kd id : Nat} {fn : Func} {caps : Array Operand} {ty1 ty2 : TypeId} {ps1 ps2 : String} {af1 af2 : Array Edge} {ats : Array TypeId} {args : List V} {h h5 : Heap} {v : V}
    (hm : E.P.follows .mixedOrders = true) (hS : Sound E) (hf : E.P.funcs[f]? = some fn)
    (hb : fn.body = some (.seq (hdC (bodyC fn)) (.seq (hdC (tlC (bodyC fn))) (.seq (hdC (tlC (tlC (bodyC fn)))) (.seq (.region id #[⟨some kd, .makeFunc (.func g) #[] caps, ty1, ps1, af1, none⟩, ⟨none, .defer ⟨.value (.tmp kd), #[], ats⟩, ty2, ps2, af2, none⟩] false) (tlC (tlC (tlC (tlC (bodyC fn))))))))))
    (hok : (okCode E.pm fn.ntmps (hdC (bodyC fn)) && okCode E.pm fn.ntmps (hdC (tlC (bodyC fn))) && okCode E.pm fn.ntmps (hdC (tlC (tlC (bodyC fn)))) && okCode E.pm fn.ntmps (tlC (tlC (tlC (tlC (bodyC fn))))) && decide (args.length ≤ fn.ntmps) && decide (kd < fn.ntmps) && caps.toList.all okOp) = true)
    (hgc : ∀ xs w, (callFunc g xs).run E.P w = .ok (.enter g xs) w)
    (idle : ∀ (xs : Array Value) (w : World), xs.size = caps.size → CallsD E.P g xs .returning w fun e u w' => (∃ y, e = .returned y) ∧ u = .returning ∧ w' = w)
    (hr : stepsD E n (bodyC fn) kd g caps fn.results.toList args h = some (v, h5)) : Ok E.P E.G f args h v h5 := by
  unfold stepsD at hr
  split at hr
  case h_2 => cases hr
  rename_i t1 h1 e1
  split at hr
  case h_2 => cases hr
  rename_i t2 h2 e2
  split at hr
  case h_2 => cases hr
  rename_i t3 h3 e3
  split at hr
  case h_3 => cases hr
  · rename_i t5 h6 e5
    obtain ⟨u, hu, he⟩ := Option.map_eq_some_iff.1 hr
    obtain ⟨rfl, rfl⟩ := Prod.mk.inj he
    exact Ok.defer hm hS hf hb hok e1 e2 e3 e5 (fun i => by simp) hu hgc idle
  · rename_i t5 h6 e5
    obtain ⟨u, hu, he⟩ := Option.map_eq_some_iff.1 hr
    obtain ⟨rfl, rfl⟩ := Prod.mk.inj he
    exact Ok.defer hm hS hf hb hok e1 e2 e3 e5 (fun i => by simp) hu hgc idle
/-- what a function that ranges over nothing answers -/
def stepsR (E : Env) (n : Nat) (c : Code) (gt : Nat) (rs : List ResultVar) (args : List V) (h : Heap) : Option (V × Heap) :=
  match exec E n (hdC c) args h with
  | some (.n, t1, h1) => match exec E n (hdC (tlC c)) t1 h1 with
    | some (.n, t2, h2) => match exec E n (hdC (hdC (tlC (tlC c)))) t2 h2 with
      | some (.n, t3, h3) => match get t3 gt with
        | .f (.func gf) caps => match E.call gf (.junk :: caps) h3 with
          | some (u, h4) => if callableB E.P gf = true ∧ beqH h4 h3 = true then (match exec E n (tlC (tlC (tlC c))) t3 h3 with
            | some (.r, t5, h5) => if h5.length = h3.length ∧ ((List.range h5.length).all fun i => !(liveB (hget h5 i)) || liveB (hget h3 i)) = true then (resV E h5 t5 rs).map (·, h5) else none
            | _ => none) else none
          | none => none
        | _ => none
      | _ => none
    | _ => none
  | _ => none
theorem stepsR_ok {E : Env} {f gt n bid : Nat} {fn : Func} {asg bod : Code} {ps : Array Tmp} {args : List V} {h h5 : Heap} {v : V}
    (hm : E.P.follows .mixedOrders = true) (hS : Sound E) (hf : E.P.funcs[f]? = some fn)
    (hb : fn.body = some (.seq (hdC (bodyC fn)) (.seq (hdC (tlC (bodyC fn))) (.seq (.seq (hdC (hdC (tlC (tlC (bodyC fn))))) (.block bid (.rangeFunc (.tmp gt) ps asg bod))) (tlC (tlC (tlC (bodyC fn))))))))
    (hok : (okCode E.pm fn.ntmps (hdC (bodyC fn)) && okCode E.pm fn.ntmps (hdC (tlC (bodyC fn))) && okCode E.pm fn.ntmps (hdC (hdC (tlC (tlC (bodyC fn))))) && okCode E.pm fn.ntmps (tlC (tlC (tlC (bodyC fn)))) && decide (args.length ≤ fn.ntmps)) = true)
    (hr : stepsR E n (bodyC fn) gt fn.results.toList args h = some (v, h5)) : Ok E.P E.G f args h v h5 := by
  unfold stepsR at hr
  split at hr
  case h_2 => cases hr
  rename_i t1 h1 e1
  split at hr
  case h_2 => cases hr
  rename_i t2 h2 e2
  split at hr
  case h_2 => cases hr
  rename_i t3 h3 e3
  split at hr
  case h_2 => cases hr
  rename_i gf caps eg
  split at hr
  case h_2 => cases hr
  rename_i u h4 ec
  split at hr
  case isFalse => cases hr
  rename_i hc
  obtain rfl := beqH_eq hc.2
  split at hr
  case h_2 => cases hr
  rename_i t5 h6 e5
  split at hr
  case isFalse => cases hr
  rename_i hl
  obtain ⟨y, hu, he⟩ := Option.map_eq_some_iff.1 hr
  obtain ⟨rfl, rfl⟩ := Prod.mk.inj he
  have hcal := callable_of hc.1
  refine Ok.range0 (u := u) hm hS hf hb hok e1 e2 e3 eg ⟨hcal, ?_⟩ e5 (fun i => by simp) hl.1 hl.2 hu
  rcases hS _ _ _ _ _ ec with ⟨_, h7⟩ | ⟨_, h7⟩
  · exact h7
  · intro r w xs hr hx
    exfalso
    obtain ⟨x, e1, _⟩ := h7 r xs w hx
    obtain ⟨fn, hf', hb, hn⟩ := hcal
    have hn' : ¬ fn.name = "runtime.NumGoroutine" := by simpa using hn
    have hb' : ¬ fn.body = none := fun e => by rw [e] at hb; cases hb
    rw [callFunc] at e1
    simp [hf', Sem.run] at e1
    rw [if_neg hn', if_neg hb'] at e1
    cases e1
end GoD
