import Derived.Attr
import Derived.Test.YtcaaebjjgbcjpaaGreatDoorDM
/-! A plain machine over lists, and that it answers what the program answers. -/
namespace GoD
open Go
set_option linter.unusedVariables false
set_option linter.unusedSimpArgs false
def Callable (P : Program) (f : FuncId) : Prop := ∃ fn, P.funcs[f]? = some fn ∧ fn.body.isNone = false ∧ (fn.name == "runtime.NumGoroutine") = false
def callableB (P : Program) (f : FuncId) : Bool := match P.funcs[f]? with | some fn => !fn.body.isNone && !(fn.name == "runtime.NumGoroutine") | none => false
theorem callable_of {P : Program} {f : FuncId} (h : callableB P f = true) : Callable P f := by
  unfold callableB at h
  split at h
  · rename_i fn hf; simp at h; exact ⟨fn, hf, by simpa using h.1, by simpa using h.2⟩
  · cases h
/-- a call answers so, whatever else there is -/
def Ok (P : Program) (G : Nat → List V) (f : FuncId) (args : List V) (h : Heap) (v : V) (h' : Heap) : Prop :=
  ∀ (r : List (Option Loc)) (w : World) (xs : List Value), HR G r h w.heap → RL r args xs → Calls P f xs.toArray w fun e w' => ∃ x r', e = .returned x ∧ R r' v x ∧ HR G r' h' w'.heap ∧ Keep r h w r' h' w'
/-- a call that is known: of a function with a body, or of one that the model answers by itself -/
def Known (P : Program) (G : Nat → List V) (f : FuncId) (args : List V) (h : Heap) (v : V) (h' : Heap) : Prop :=
  (Callable P f ∧ Ok P G f args h v h') ∨ (h' = h ∧ ∀ (r : List (Option Loc)) (xs : List Value) (w : World), RL r args xs → ∃ x, (callFunc f xs.toArray).run P w = .ok (.value x) w ∧ R r v x)
def Sound (E : Env) : Prop := ∀ f args h v h', E.call f args h = some (v, h') → Known E.P E.G f args h v h'
def okOp : Operand → Bool | .const v => okK v | _ => true
structure TR (D : List Deferred) (r : List (Option Loc)) (t : Tm) (a : Act) (N : Nat) : Prop where
  defers : a.defers = D
  size : a.tmps.size = N
  tm : ∀ i, R r (get t i) (a.tmps.getD i undef)
variable {D : List Deferred}
theorem TR.mono {r r' : List (Option Loc)} (hp : r <+: r') {t : Tm} {a : Act} {N : Nat} (h : TR D r t a N) : TR D r' t a N := ⟨h.defers, h.size, fun i => (h.tm i).mono hp⟩
theorem TR.put {r : List (Option Loc)} {t : Tm} {a : Act} {N : Nat} (h : TR D r t a N) {d : Option Nat} (hd : ∀ i, d = some i → i < N) {v : V} {x : Value} (hv : R r v x) : TR D r (put t d v) (a.put d x) N := by
  cases d with
  | none => exact h
  | some d =>
    refine ⟨h.defers, by simp [Act.put, h.size], fun i => ?_⟩
    have hlt := hd d rfl
    simp only [GoD.put, get_set, Act.put]
    by_cases hi : d = i
    · subst hi
      rw [if_pos rfl, Array.getD_eq_getD_getElem?, Array.getElem?_setIfInBounds_self_of_lt (by rw [h.size]; exact hlt)]
      exact hv
    · rw [if_neg hi, Array.getD_eq_getD_getElem?, Array.getElem?_setIfInBounds_ne hi, ← Array.getD_eq_getD_getElem?]
      exact h.tm i
theorem ev_ok {r : List (Option Loc)} {t : Tm} {a : Act} {N : Nat} (h : TR D r t a N) {x : Operand} (hx : okOp x = true) : R r (ev t x) (a.eval x) := by
  cases x with
  | tmp i => exact h.tm i
  | const v => exact cv_ok hx
  | global g => exact .g g 0
  | func f => exact .f _ _ _ .nil
theorem evL_ok {r : List (Option Loc)} {t : Tm} {a : Act} {N : Nat} (h : TR D r t a N) : ∀ {l : List Operand}, (∀ x ∈ l, okOp x = true) → RL r (l.map (ev t)) (l.map a.eval)
  | [], _ => .nil
  | x :: l, hl => .cons (ev_ok h (hl x (by simp))) (evL_ok h fun y hy => hl y (by simp [hy]))
section
variable {E : Env} {w : World} {r : List (Option Loc)} {h : Heap}
set_option maxHeartbeats 4000000 in
theorem callMethod_run {P : Program} {t : TypeId} {name : String} {f : FuncId} (hm : methB P t name = some f) (y : Value) (args : Array Value) (w : World) : (callMethod (.iface t y) name args).run P w = (callFunc f (#[y] ++ args)).run P w := by
  unfold methB at hm
  split at hm
  · rename_i e i hu hi
    split at hm
    · rename_i m hfm
      split at hm
      · rename_i f' hf
        split at hm
        · rename_i hp
          obtain rfl := Option.some.inj hm
          obtain ⟨k, hk⟩ : ∃ k, P.types.size + Made.depth = k + 1 := ⟨P.types.size + (Made.depth - 1), rfl⟩
          simp only [callMethod, Sem.run_bind, run_program, Result.andThen_ok, hk, method, typeInfo, hi, hfm, hf, hp, follow, receiverAt, hu, Place.get, run_underlying hu, Sem.run_pure]
        · cases hm
      · cases hm
    · cases hm
  · cases hm
set_option maxHeartbeats 1000000 in
theorem op1_ok (hS : Sound E) (hr : HR E.G r h w.heap) {t : Tm} {a : Act} {N : Nat} (ht : TR D r t a N) {o : Oper} (ho : o.op.operands.toList.all okOp = true) {v : V} {h' : Heap} (hv : op1 E (ev t) h o = some (v, h'))
    {K : Act → World → Prop} {Q : Exit → Act → World → Prop} (hK : ∀ x w', Aft E r h w v h' x w' → K (a.put o.dst x) w') : o.wp E.P a w K Q := by
  obtain ⟨dst, op, type, pos, after, guard⟩ := o
  have hop : ∀ x, x ∈ op.operands.toList → okOp x = true := fun x hx => List.all_eq_true.1 ho x hx
  have val : ∀ {s : Sem Value}, execOp a.eval ⟨dst, op, type, pos, after, guard⟩ = (do pure (.value (← s))) → (∃ x w', s.run E.P w = .ok x w' ∧ Aft E r h w v h' x w') → Oper.wp E.P ⟨dst, op, type, pos, after, guard⟩ a w K Q := by
    rintro s hs ⟨x, w', h1, h2⟩
    unfold Oper.wp
    rw [hs, Sem.run_bind, h1]
    exact hK x w' h2
  have pur : ∀ {s : Sem Value}, execOp a.eval ⟨dst, op, type, pos, after, guard⟩ = (do pure (.value (← s))) → h' = h → (∃ x, s.run E.P w = .ok x w ∧ R r v x) → Oper.wp E.P ⟨dst, op, type, pos, after, guard⟩ a w K Q := by
    rintro s hs rfl ⟨x, h1, h2⟩
    exact val hs ⟨x, w, h1, Aft.pure hr h2⟩
  have now : ∀ {x : Value}, execOp a.eval ⟨dst, op, type, pos, after, guard⟩ = pure (.value x) → h' = h → R r v x → Oper.wp E.P ⟨dst, op, type, pos, after, guard⟩ a w K Q := by
    rintro x hs rfl h2
    unfold Oper.wp
    rw [hs]
    exact hK x w (Aft.pure hr h2)
  cases op with
  | move x =>
    simp only [op1, Option.some.injEq, Prod.mk.injEq] at hv
    obtain ⟨rfl, rfl⟩ := hv
    exact now (x := a.eval x) rfl rfl (ev_ok ht (hop x (by simp [Op.operands])))
  | assign x =>
    simp only [op1, assignV] at hv
    have hx := ev_ok ht (hop x (by simp [Op.operands]))
    split at hv
    · simp only [Option.some.injEq, Prod.mk.injEq] at hv
      obtain ⟨rfl, rfl⟩ := hv
      exact now (x := a.eval x) rfl rfl hx
    split at hv
    · rename_i hn
      split at hv
      · rename_i e hu
        simp only [Option.some.injEq, Prod.mk.injEq] at hv
        obtain ⟨rfl, rfl⟩ := hv
        have hX : a.eval x = .slice none 0 0 := by
          unfold isNilSl at hn
          split at hn
          · rfl
          · cases hn
        refine val (s := Pure.pure (a.eval x)) rfl ⟨a.eval x, w, rfl, r ++ [none], ?_, hr.add (.inl rfl) (by simp) (by simp) (by simp), (Keep.refl r h w).snoc hr.len (by simp)⟩
        rw [hX]; exact .sn _ _ (get_last hr _)
      · simp only [Option.some.injEq, Prod.mk.injEq] at hv
        obtain ⟨rfl, rfl⟩ := hv
        exact now (x := a.eval x) rfl rfl hx
    · simp only [Option.some.injEq, Prod.mk.injEq] at hv
      obtain ⟨rfl, rfl⟩ := hv
      exact now (x := a.eval x) rfl rfl hx
  | pick c x y =>
    simp only [op1] at hv
    split at hv
    · rename_i b hb
      simp only [Option.some.injEq, Prod.mk.injEq] at hv
      obtain ⟨rfl, rfl⟩ := hv
      have hc := ev_ok ht (hop c (by simp [Op.operands]))
      rw [hb] at hc
      have hx := ev_ok ht (hop x (by simp [Op.operands]))
      have hy := ev_ok ht (hop y (by simp [Op.operands]))
      generalize hX : a.eval c = X at hc
      cases hc with
      | b =>
        refine now (x := if b then a.eval x else a.eval y) ?_ rfl ?_
        · simp only [execOp, hX, asBool]; rfl
        · cases b
          · exact hy
          · exact hx
    · cases hv
  | alloc e =>
    simp only [op1] at hv
    split at hv
    · rename_i z hz
      simp only [Option.some.injEq, Prod.mk.injEq] at hv
      obtain ⟨rfl, rfl⟩ := hv
      exact val rfl (alloc_ok hr hz)
    · cases hv
  | box e x =>
    simp only [op1] at hv
    split at hv
    · rename_i h1
      simp only [Option.some.injEq, Prod.mk.injEq] at hv
      obtain ⟨rfl, rfl⟩ := hv
      exact val rfl (box_ok hr (ev_ok ht (hop x (by simp [Op.operands]))) h1)
    · cases hv
  | build ty ps =>
    simp only [op1] at hv
    obtain ⟨u, hu, he⟩ := Option.map_eq_some_iff.1 hv
    obtain ⟨rfl, rfl⟩ := Prod.mk.inj he
    refine pur rfl rfl (buildV_ok (Parts := ps.map fun (i, x) => (i, a.eval x)) (by simp) ?_ hu)
    intro i p q h1 h2
    rw [List.getElem?_map] at h1
    rw [Array.toList_map, List.getElem?_map] at h2
    obtain ⟨g, hg, rfl⟩ := Option.map_eq_some_iff.1 h1
    rw [hg] at h2
    obtain rfl := Option.some.inj h2
    exact ⟨rfl, ev_ok ht (hop g.2 (by simp only [Op.operands]; exact List.mem_map.2 ⟨g, List.mem_of_getElem? hg, rfl⟩))⟩
  | buildSlice ty n ps =>
    simp only [op1] at hv
    refine val rfl (buildSliceV_ok hr (Parts := ps.map fun (i, x) => (i, a.eval x)) (by simp) ?_ hv)
    intro i p q h1 h2
    rw [List.getElem?_map] at h1
    rw [Array.toList_map, List.getElem?_map] at h2
    obtain ⟨g, hg, rfl⟩ := Option.map_eq_some_iff.1 h1
    rw [hg] at h2
    obtain rfl := Option.some.inj h2
    exact ⟨rfl, ev_ok ht (hop g.2 (by simp only [Op.operands]; exact List.mem_map.2 ⟨g, List.mem_of_getElem? hg, rfl⟩))⟩
  | load ty x =>
    simp only [op1] at hv
    obtain ⟨u, hu, he⟩ := Option.map_eq_some_iff.1 hv
    obtain ⟨rfl, rfl⟩ := Prod.mk.inj he
    exact pur rfl rfl (loadV_ok hr (ev_ok ht (hop x (by simp [Op.operands]))) hu)
  | store ty x y =>
    simp only [op1] at hv
    obtain ⟨u, hu, he⟩ := Option.map_eq_some_iff.1 hv
    obtain ⟨rfl, rfl⟩ := Prod.mk.inj he
    obtain ⟨w', h1, h2, h3⟩ := storeV_ok hr (ev_ok ht (hop x (by simp [Op.operands]))) (ev_ok ht (hop y (by simp [Op.operands]))) hu
    unfold Oper.wp
    simp only [execOp, Sem.run_bind, h1, Result.andThen_ok, Sem.run_pure]
    exact hK undef w' ⟨r, .junk _, h2, h3⟩
  | nilCheck x =>
    simp only [op1] at hv
    have hx := ev_ok ht (hop x (by simp [Op.operands]))
    generalize hX : a.eval x = X at hx
    split at hv
    · rename_i he
      simp only [Option.some.injEq, Prod.mk.injEq] at hv
      obtain ⟨rfl, rfl⟩ := hv
      rw [he] at hx
      refine now (x := X) ?_ rfl hx
      simp only [execOp, hX]
      cases hx; rfl
    · rename_i he
      simp only [Option.some.injEq, Prod.mk.injEq] at hv
      obtain ⟨rfl, rfl⟩ := hv
      rw [he] at hx
      refine now (x := X) ?_ rfl hx
      simp only [execOp, hX]
      cases hx; rfl
    · rename_i he
      simp only [Option.some.injEq, Prod.mk.injEq] at hv
      obtain ⟨rfl, rfl⟩ := hv
      rw [he] at hx
      refine now (x := X) ?_ rfl hx
      simp only [execOp, hX]
      cases hx; rfl
    · cases hv
  | binOp bop ty x y ty2 =>
    simp only [op1] at hv
    split at hv
    · rename_i hn
      obtain ⟨u, hu, he⟩ := Option.map_eq_some_iff.1 hv
      obtain ⟨rfl, rfl⟩ := Prod.mk.inj he
      have hY : a.eval y = .slice none 0 0 := by
        unfold isNilSl at hn
        split at hn
        · rfl
        · cases hn
      refine pur (s := do eqGuard bop ty x y (a.eval x) (a.eval y); binOp bop ty (a.eval x) (a.eval y)) rfl rfl ?_
      rw [hY]
      exact nilV_ok hr (ev_ok ht (hop x (by simp [Op.operands]))) hu x y
    obtain ⟨u, hu, he⟩ := Option.map_eq_some_iff.1 hv
    obtain ⟨rfl, rfl⟩ := Prod.mk.inj he
    exact pur rfl rfl (binV_ok w (ev_ok ht (hop x (by simp [Op.operands]))) (ev_ok ht (hop y (by simp [Op.operands]))) hu x y)
  | unOp uop ty x =>
    simp only [op1] at hv
    obtain ⟨u, hu, he⟩ := Option.map_eq_some_iff.1 hv
    obtain ⟨rfl, rfl⟩ := Prod.mk.inj he
    exact pur rfl rfl (unV_ok w (ev_ok ht (hop x (by simp [Op.operands]))) hu)
  | convert s d x =>
    simp only [op1] at hv
    exact val rfl (convV_ok hr (ev_ok ht (hop x (by simp [Op.operands]))) hv)
  | makeInterface tt x =>
    simp only [op1] at hv
    split at hv
    · cases hv
    · rename_i d hn hd
      simp only [Option.some.injEq, Prod.mk.injEq] at hv
      obtain ⟨rfl, rfl⟩ := hv
      refine pur (s := Instr.makeInterface tt (a.eval x)) rfl rfl ⟨.iface tt (a.eval x), ?_, .ifc _ _ _ (ev_ok ht (hop x (by simp [Op.operands])))⟩
      simp only [Instr.makeInterface, Sem.run_bind, run_underlying hd, Result.andThen_ok]
      cases d <;> first | rfl | exact absurd hd (hn _)
    · cases hv
  | makeFunc fn first cap =>
    simp only [op1] at hv
    split at hv
    · rename_i h0
      simp only [Option.some.injEq, Prod.mk.injEq] at hv
      obtain ⟨rfl, rfl⟩ := hv
      refine pur (s := Instr.makeFunc fn (first.map a.eval) (cap.map a.eval)) rfl rfl ⟨.func fn #[] (cap.map a.eval), ?_, ?_⟩
      · have : first.map a.eval = #[] := by simpa using h0
        simp [Instr.makeFunc, this]
      · have := R.f (r := r) fn _ _ (evL_ok ht (l := cap.toList) fun x hx => hop x (by simp [Op.operands]; right; simpa using hx))
        rwa [show (cap.toList.map a.eval).toArray = cap.map a.eval from by rw [← Array.toList_map]] at this
    · split at hv
      · rename_i h0
        simp only [Option.some.injEq, Prod.mk.injEq] at hv
        obtain ⟨rfl, rfl⟩ := hv
        refine pur (s := Instr.makeFunc fn (first.map a.eval) (cap.map a.eval)) rfl rfl ⟨.func fn (first.map a.eval) #[], ?_, ?_⟩
        · have : cap.map a.eval = #[] := by simpa using h0
          simp [Instr.makeFunc, this]
        · have := R.bf (r := r) fn _ _ (evL_ok ht (l := first.toList) fun x hx => hop x (by simp [Op.operands]; left; simpa using hx))
          rwa [show (first.toList.map a.eval).toArray = first.map a.eval from by rw [← Array.toList_map]] at this
      · cases hv
  | makeSlice ty x y =>
    simp only [op1] at hv
    exact val rfl (makeSliceV_ok hr (ev_ok ht (hop x (by simp [Op.operands]))) (ev_ok ht (hop y (by simp [Op.operands]))) hv)
  | slice ty x lo hi mx =>
    cases mx with
    | some _ => simp [op1] at hv
    | none =>
      simp only [op1] at hv
      have k1 : ∀ b, lo.map (ev t) = some b → ∃ A, lo.map a.eval = some A ∧ R r b A := by
        intro b hb
        obtain ⟨y, rfl, rfl⟩ := Option.map_eq_some_iff.1 hb
        exact ⟨_, rfl, ev_ok ht (hop y (by simp [Op.operands]))⟩
      have k2 : lo.map (ev t) = none → lo.map a.eval = none := by intro hb; simpa using hb
      have k3 : ∀ b, hi.map (ev t) = some b → ∃ A, hi.map a.eval = some A ∧ R r b A := by
        intro b hb
        obtain ⟨y, rfl, rfl⟩ := Option.map_eq_some_iff.1 hb
        exact ⟨_, rfl, ev_ok ht (hop y (by simp [Op.operands]))⟩
      have k4 : hi.map (ev t) = none → hi.map a.eval = none := by intro hb; simpa using hb
      split at hv
      · rename_i u hu
        obtain ⟨rfl, rfl⟩ := Prod.mk.inj (Option.some.inj hv)
        exact pur (s := Instr.sliceAt ty (a.eval x) (lo.map a.eval) (hi.map a.eval) none) rfl rfl (cutV_ok (lo := lo.map (ev t)) (hi := hi.map (ev t)) (ev_ok ht (hop x (by simp [Op.operands]))) k1 k2 k3 k4 hu)
      · obtain ⟨u, hu, he⟩ := Option.map_eq_some_iff.1 hv
        obtain ⟨rfl, rfl⟩ := Prod.mk.inj he
        exact pur (s := Instr.sliceAt ty (a.eval x) (lo.map a.eval) (hi.map a.eval) none) rfl rfl (cutN_ok (lo := lo.map (ev t)) (hi := hi.map (ev t)) (ev_ok ht (hop x (by simp [Op.operands]))) k1 k2 k3 k4 hu)
  | makeMap ty rs =>
    cases rs with
    | some _ => simp [op1] at hv
    | none =>
      simp only [op1, Option.some.injEq, Prod.mk.injEq] at hv
      obtain ⟨rfl, rfl⟩ := hv
      exact val (s := Instr.makeMap ty none) rfl (makeMap_ok hr)
  | lookup ty x k ok =>
    simp only [op1] at hv
    split at hv
    · rename_i u hu
      obtain ⟨rfl, rfl⟩ := Prod.mk.inj (Option.some.inj hv)
      exact pur (s := Instr.lookup ty (a.eval x) (a.eval k) ok) rfl rfl (lookupV_ok hr (ev_ok ht (hop x (by simp [Op.operands]))) (ev_ok ht (hop k (by simp [Op.operands]))) hu)
    · obtain ⟨u, hu, he⟩ := Option.map_eq_some_iff.1 hv
      obtain ⟨rfl, rfl⟩ := Prod.mk.inj he
      exact pur (s := Instr.lookup ty (a.eval x) (a.eval k) ok) rfl rfl (lookupS_ok hr (ev_ok ht (hop x (by simp [Op.operands]))) (ev_ok ht (hop k (by simp [Op.operands]))) hu)
  | mapUpdate ty x k z =>
    have main : ∃ w', (Instr.mapUpdate ty (a.eval x) (a.eval k) (a.eval z)).run E.P w = .ok () w' ∧ HR E.G r h' w'.heap ∧ Keep r h w r h' w' ∧ v = .junk := by
      simp only [op1] at hv
      split at hv
      · rename_i u hu
        obtain ⟨rfl, rfl⟩ := Prod.mk.inj (Option.some.inj hv)
        obtain ⟨w', h1, h2, h3⟩ := updateV_ok hr (ev_ok ht (hop x (by simp [Op.operands]))) (ev_ok ht (hop k (by simp [Op.operands]))) (ev_ok ht (hop z (by simp [Op.operands]))) hu
        exact ⟨w', h1, h2, h3, rfl⟩
      · obtain ⟨u, hu, he⟩ := Option.map_eq_some_iff.1 hv
        obtain ⟨rfl, rfl⟩ := Prod.mk.inj he
        obtain ⟨w', h1, h2, h3⟩ := updateS_ok hr (ev_ok ht (hop x (by simp [Op.operands]))) (ev_ok ht (hop k (by simp [Op.operands]))) (ev_ok ht (hop z (by simp [Op.operands]))) hu
        exact ⟨w', h1, h2, h3, rfl⟩
    obtain ⟨w', h1, h2, h3, rfl⟩ := main
    unfold Oper.wp
    simp only [execOp, Sem.run_bind, h1, Result.andThen_ok, Sem.run_pure]
    exact hK undef w' ⟨r, .junk _, h2, h3⟩
  | mapEntry ty x k =>
    simp only [op1] at hv
    obtain ⟨Z, w', h1, h2, h3, h4⟩ := mentryV_ok hr (ev_ok ht (hop x (by simp [Op.operands]))) (ev_ok ht (hop k (by simp [Op.operands]))) hv
    exact val (s := Instr.mapEntry ty (a.eval x) (a.eval k)) rfl ⟨Z, w', h1, r, h2, h3, h4⟩
  | entryStore ty x s z =>
    simp only [op1] at hv
    obtain ⟨u, hu, he⟩ := Option.map_eq_some_iff.1 hv
    obtain ⟨rfl, rfl⟩ := Prod.mk.inj he
    obtain ⟨w', h1, h2, h3⟩ := estoreV_ok (t := ty) hr (ev_ok ht (hop x (by simp [Op.operands]))) (ev_ok ht (hop s (by simp [Op.operands]))) (ev_ok ht (hop z (by simp [Op.operands]))) hu
    unfold Oper.wp
    simp only [execOp, Sem.run_bind, h1, Result.andThen_ok, Sem.run_pure]
    exact hK undef w' ⟨r, .junk _, h2, h3⟩
  | range ty x =>
    simp only [op1] at hv
    exact val (s := Instr.range ty (a.eval x)) rfl (rangeV_ok hr (ev_ok ht (hop x (by simp [Op.operands]))) hv)
  | next x st =>
    cases st with
    | true => simp [op1] at hv
    | false =>
      simp only [op1] at hv
      exact val (s := Instr.next (a.eval x) false type) rfl (nextV_ok hr (ev_ok ht (hop x (by simp [Op.operands]))) hv)
  | entry x =>
    simp only [op1] at hv
    obtain ⟨u, hu, he⟩ := Option.map_eq_some_iff.1 hv
    obtain ⟨rfl, rfl⟩ := Prod.mk.inj he
    exact pur (s := Instr.entry (a.eval x)) rfl rfl (entryV_ok hr (ev_ok ht (hop x (by simp [Op.operands]))) hu)
  | fieldAddr ty x f =>
    simp only [op1] at hv
    obtain ⟨u, hu, he⟩ := Option.map_eq_some_iff.1 hv
    obtain ⟨rfl, rfl⟩ := Prod.mk.inj he
    exact pur rfl rfl (fieldAddrV_ok (ev_ok ht (hop x (by simp [Op.operands]))) hu)
  | field ty x f =>
    simp only [op1] at hv
    obtain ⟨u, hu, he⟩ := Option.map_eq_some_iff.1 hv
    obtain ⟨rfl, rfl⟩ := Prod.mk.inj he
    exact pur rfl rfl (fieldV_ok (ev_ok ht (hop x (by simp [Op.operands]))) hu)
  | indexAddr ty x i =>
    simp only [op1] at hv
    obtain ⟨u, hu, he⟩ := Option.map_eq_some_iff.1 hv
    obtain ⟨rfl, rfl⟩ := Prod.mk.inj he
    exact pur rfl rfl (indexAddrV_ok (ev_ok ht (hop x (by simp [Op.operands]))) (ev_ok ht (hop i (by simp [Op.operands]))) hu)
  | index ty x i =>
    simp only [op1] at hv
    obtain ⟨u, hu, he⟩ := Option.map_eq_some_iff.1 hv
    obtain ⟨rfl, rfl⟩ := Prod.mk.inj he
    exact pur rfl rfl (indexV_ok (ev_ok ht (hop x (by simp [Op.operands]))) (ev_ok ht (hop i (by simp [Op.operands]))) hu)
  | extract x i =>
    simp only [op1] at hv
    have hx := ev_ok ht (hop x (by simp [Op.operands]))
    generalize hX : a.eval x = X at hx
    split at hv
    · rename_i l he
      split at hv
      · rename_i hi
        simp only [Option.some.injEq, Prod.mk.injEq] at hv
        obtain ⟨rfl, rfl⟩ := hv
        rw [he] at hx
        cases hx with
        | tup _ xs hxs =>
          obtain ⟨y, hy, hR⟩ := forall_get hxs hi
          refine pur (s := Instr.extract (a.eval x) i) rfl rfl ⟨y, ?_, hR⟩
          rw [hX]; simp [Instr.extract, hy]
      · cases hv
    · cases hv
  | call c =>
    obtain ⟨callee, args, ats⟩ := c
    have hargs : ∀ x ∈ args.toList, okOp x = true := fun x hx => hop x (by simp [Op.operands, Call.operands]; right; simpa using hx)
    have hal := evL_ok ht hargs
    cases callee with
    | value f =>
      simp only [op1] at hv
      have hf := ev_ok ht (hop f (by simp [Op.operands, Call.operands]))
      generalize hF : a.eval f = F at hf
      split at hv
      · rename_i fid cap he
        rw [he] at hf
        cases hf with
        | f _ _ caps hcaps =>
          have e1 : args.map a.eval = (args.toList.map a.eval).toArray := by rw [← Array.toList_map]
          rcases hS _ _ _ _ _ hv with ⟨⟨fn, c1, c2, c3⟩, hok⟩ | ⟨rfl, hext⟩
          · have hcall := hok r w _ hr (hal.append hcaps)
            unfold Oper.wp
            have hrun : (execOp a.eval ⟨dst, .call ⟨.value f, args, ats⟩, type, pos, after, guard⟩).run E.P w = .ok (.enter fid (args.toList.map a.eval ++ caps).toArray) w := by
              simp only [execOp, resolve, hF, Deferred.ofValue, Sem.run_bind, Sem.run_pure, Result.andThen_ok, invoke, callFunc, run_program, c1, c2, c3, Bool.false_eq_true, if_false, e1]
              simp
            rw [hrun, Oper.upon_enter]
            refine hcall.mono ?_
            rintro e w' ⟨x, r', rfl, h1, h2, h3⟩
            exact hK x w' ⟨r', h1, h2, h3⟩
          · obtain ⟨x, h1, h2⟩ := hext r _ w (hal.append hcaps)
            unfold Oper.wp
            have hrun : (execOp a.eval ⟨dst, .call ⟨.value f, args, ats⟩, type, pos, after, guard⟩).run E.P w = .ok (.value x) w := by
              have e2 : #[] ++ (args.toList.map a.eval).toArray ++ caps.toArray = (args.toList.map a.eval ++ caps).toArray := by simp
              simp only [execOp, resolve, hF, Deferred.ofValue, Sem.run_bind, Sem.run_pure, Result.andThen_ok, invoke, e1, e2, h1]
            rw [hrun]
            exact hK x w (Aft.pure hr h2)
      · rename_i fid fst he
        rw [he] at hf
        cases hf with
        | bf _ _ fs hfs =>
          have e1 : args.map a.eval = (args.toList.map a.eval).toArray := by rw [← Array.toList_map]
          rcases hS _ _ _ _ _ hv with ⟨⟨fn, c1, c2, c3⟩, hok⟩ | ⟨rfl, hext⟩
          · have hcall := hok r w _ hr (hfs.append hal)
            unfold Oper.wp
            have hrun : (execOp a.eval ⟨dst, .call ⟨.value f, args, ats⟩, type, pos, after, guard⟩).run E.P w = .ok (.enter fid (fs ++ args.toList.map a.eval).toArray) w := by
              simp only [execOp, resolve, hF, Deferred.ofValue, Sem.run_bind, Sem.run_pure, Result.andThen_ok, invoke, callFunc, run_program, c1, c2, c3, Bool.false_eq_true, if_false, e1]
              simp
            rw [hrun, Oper.upon_enter]
            refine hcall.mono ?_
            rintro e w' ⟨x, r', rfl, h1, h2, h3⟩
            exact hK x w' ⟨r', h1, h2, h3⟩
          · obtain ⟨x, h1, h2⟩ := hext r _ w (hfs.append hal)
            unfold Oper.wp
            have hrun : (execOp a.eval ⟨dst, .call ⟨.value f, args, ats⟩, type, pos, after, guard⟩).run E.P w = .ok (.value x) w := by
              have e2 : fs.toArray ++ (args.toList.map a.eval).toArray ++ #[] = (fs ++ args.toList.map a.eval).toArray := by simp
              simp only [execOp, resolve, hF, Deferred.ofValue, Sem.run_bind, Sem.run_pure, Result.andThen_ok, invoke, e1, e2, h1]
            rw [hrun]
            exact hK x w (Aft.pure hr h2)
      · cases hv
    | invoke rc name =>
      simp only [op1] at hv
      have hf := ev_ok ht (hop rc (by simp [Op.operands, Call.operands]))
      generalize hF : a.eval rc = F at hf
      split at hv
      · rename_i t v he
        rw [he] at hf
        cases hf with
        | ifc _ _ y hy =>
          split at hv
          · rename_i fid hm
            have e1 : args.map a.eval = (args.toList.map a.eval).toArray := by rw [← Array.toList_map]
            have hres : ∀ w : World, (callMethod (.iface t y) name (args.map a.eval)).run E.P w = (callFunc fid (#[y] ++ args.map a.eval)).run E.P w := fun w => callMethod_run hm y _ w
            rcases hS _ _ _ _ _ hv with ⟨⟨fn, c1, c2, c3⟩, hok⟩ | ⟨rfl, hext⟩
            · have hcall := hok r w _ hr (.cons hy hal)
              unfold Oper.wp
              have hrun : (execOp a.eval ⟨dst, .call ⟨.invoke rc name, args, ats⟩, type, pos, after, guard⟩).run E.P w = .ok (.enter fid (y :: args.toList.map a.eval).toArray) w := by
                have h1 : (callFunc fid (#[y] ++ args.map a.eval)).run E.P w = .ok (.enter fid (y :: args.toList.map a.eval).toArray) w := by
                  simp only [callFunc, Sem.run_bind, run_program, Result.andThen_ok, c1, c2, c3, Bool.false_eq_true, if_false, e1]
                  simp
                rw [← h1, ← hres]
                simp only [execOp, resolve, hF, invoke, Sem.run_bind, Sem.run_pure, Result.andThen_ok]
                have e0 : (#[Value.iface t y] ++ args.map a.eval)[0]? = some (Value.iface t y) := by rw [Array.getElem?_append_left (by simp)]; rfl
                have e3 : (#[Value.iface t y] ++ args.map a.eval).extract 1 (#[Value.iface t y] ++ args.map a.eval).size = args.map a.eval := by simp
                rw [e0, e3]
              rw [hrun, Oper.upon_enter]
              refine hcall.mono ?_
              rintro e w' ⟨x, r', rfl, h1, h2, h3⟩
              exact hK x w' ⟨r', h1, h2, h3⟩
            · obtain ⟨x, h1, h2⟩ := hext r _ w (.cons hy hal)
              unfold Oper.wp
              have hrun : (execOp a.eval ⟨dst, .call ⟨.invoke rc name, args, ats⟩, type, pos, after, guard⟩).run E.P w = .ok (.value x) w := by
                have e2 : #[y] ++ args.map a.eval = (y :: args.toList.map a.eval).toArray := by rw [e1]; simp
                rw [← e2, ← hres] at h1
                rw [← h1]
                simp only [execOp, resolve, hF, invoke, Sem.run_bind, Sem.run_pure, Result.andThen_ok]
                have e0 : (#[Value.iface t y] ++ args.map a.eval)[0]? = some (Value.iface t y) := by rw [Array.getElem?_append_left (by simp)]; rfl
                have e3 : (#[Value.iface t y] ++ args.map a.eval).extract 1 (#[Value.iface t y] ++ args.map a.eval).size = args.map a.eval := by simp
                rw [e0, e3]
              rw [hrun]
              exact hK x w (Aft.pure hr h2)
          · cases hv
      · cases hv
    | builtin b =>
      have ab : ∀ {x y : Operand}, args.toList = [x, y] → args = #[x, y] := fun e => Array.toList_inj.1 e
      cases b <;> simp only [op1] at hv <;> (try cases hv)
      case append =>
        split at hv
        · rename_i s x he
          obtain rfl := ab he
          exact val (s := Builtin.append_ ats type #[a.eval s, a.eval x]) (by simp [execOp, resolve, invoke, builtin]) (by
            split at hv
            · rename_i q hq
              obtain rfl := Option.some.inj hv
              have := appendZ_ok (ty := type) hr (ev_ok ht (hargs s (by simp))) (ev_ok ht (hargs x (by simp))) hq
              simpa using this
            · have := appendV_ok (ty := type) hr (ev_ok ht (hargs s (by simp))) (ev_ok ht (hargs x (by simp))) hv
              simpa using this)
        · cases hv
      case cap =>
        split at hv
        · rename_i x tt he hte
          have e1 : args = #[x] := Array.toList_inj.1 he
          have e2 : ats = #[tt] := Array.toList_inj.1 hte
          subst e1; subst e2
          obtain ⟨u, hu, he'⟩ := Option.map_eq_some_iff.1 hv
          obtain ⟨rfl, rfl⟩ := Prod.mk.inj he'
          exact pur (s := Builtin.cap_ #[tt] type #[a.eval x]) (by simp [execOp, resolve, invoke, builtin]) rfl (capV_ok (ev_ok ht (hargs x (by simp))) hu)
        · cases hv
      case delete =>
        split at hv
        · rename_i x k tt l he hte
          obtain rfl := ab he
          obtain ⟨u, hu, he'⟩ := Option.map_eq_some_iff.1 hv
          obtain ⟨rfl, rfl⟩ := Prod.mk.inj he'
          have ht0 : ats[0]? = some tt := by rw [← Array.getElem?_toList, hte]; rfl
          obtain ⟨w', h1, h2, h3⟩ := deleteV_ok (ty := type) hr ht0 (ev_ok ht (hargs x (by simp))) (ev_ok ht (hargs k (by simp))) hu
          exact val (s := Builtin.delete_ ats type #[a.eval x, a.eval k]) (by simp [execOp, resolve, invoke, builtin]) ⟨_, w', h1, r, .junk _, h2, h3⟩
        · cases hv
      case len =>
        split at hv
        · rename_i x tt he hte
          have e1 : args = #[x] := Array.toList_inj.1 he
          have e2 : ats = #[tt] := Array.toList_inj.1 hte
          subst e1; subst e2
          obtain ⟨u, hu, he'⟩ := Option.map_eq_some_iff.1 hv
          obtain ⟨rfl, rfl⟩ := Prod.mk.inj he'
          exact pur (s := Builtin.len_ #[tt] type #[a.eval x]) (by simp [execOp, resolve, invoke, builtin]) rfl (lenV_ok (ev_ok ht (hargs x (by simp))) hu)
        · cases hv
      case copy =>
        split at hv
        · rename_i x y t l he hte
          obtain rfl := ab he
          obtain ⟨u, hu, he'⟩ := Option.map_eq_some_iff.1 hv
          obtain ⟨rfl, rfl⟩ := Prod.mk.inj he'
          refine pur (s := Builtin.copy_ ats type #[a.eval x, a.eval y]) (by simp [execOp, resolve, invoke, builtin]) rfl ?_
          have hx := ev_ok ht (hargs x (by simp))
          have hy := ev_ok ht (hargs y (by simp))
          generalize a.eval x = X at hx
          generalize a.eval y = Y at hy
          have ht0 : ats[0]? = some t := by rw [← Array.getElem?_toList, hte]; rfl
          unfold copyV at hu
          split at hu
          · rename_i e b o n z hsl hx1 hy1
            split at hu
            · rename_i hi
              obtain rfl := Option.some.inj hu
              rw [hx1] at hx
              rw [hy1] at hy
              cases hy with
              | e0 A cc =>
                obtain ⟨i, hi⟩ := Option.isSome_iff_exists.1 hi
                have hX : ∃ B m c, X = .slice B m c := by cases hx <;> exact ⟨_, _, _, rfl⟩
                obtain ⟨B, m, c, rfl⟩ := hX
                have hsz : (Go.sizeOf e).run E.P w = .ok (E.P.cellsOf e) w := by simp [Go.sizeOf, typeInfo, hi, Program.cellsOf]
                refine ⟨.int .i64 0, ?_, .i _ _ rfl⟩
                cases B <;> simp [Builtin.copy_, ht0, run_underlying hsl, Builtin.lenOf, hsz, loadCellsFrom, Builtin.firstCells, loadCells, storeCells, goInt]
            · cases hu
          · cases hu
        · cases hv
      case min =>
        split at hv
        · rename_i x y he
          obtain rfl := ab he
          obtain ⟨u, hu, he'⟩ := Option.map_eq_some_iff.1 hv
          obtain ⟨rfl, rfl⟩ := Prod.mk.inj he'
          refine pur (s := Builtin.min_ ats type #[a.eval x, a.eval y]) (by simp [execOp, resolve, invoke, builtin]) rfl ?_
          have hx := ev_ok ht (hargs x (by simp))
          have hy := ev_ok ht (hargs y (by simp))
          unfold min2V at hu
          split at hu
          · rename_i k p k' q e1 e2
            rw [e1] at hx; rw [e2] at hy
            generalize a.eval x = X at hx
            generalize a.eval y = Y at hy
            cases hx with
            | i _ _ hx => cases hy with
              | i _ _ hy =>
                split at hu
                · rename_i hk; subst hk
                  obtain rfl := Option.some.inj hu
                  exact ⟨_, run_min_int2 w _ _ _ _ _ _, .i _ _ (by split <;> assumption)⟩
                · cases hu
          · cases hu
        · cases hv
      case max =>
        split at hv
        · rename_i x y he
          obtain rfl := ab he
          obtain ⟨u, hu, he'⟩ := Option.map_eq_some_iff.1 hv
          obtain ⟨rfl, rfl⟩ := Prod.mk.inj he'
          refine pur (s := Builtin.max_ ats type #[a.eval x, a.eval y]) (by simp [execOp, resolve, invoke, builtin]) rfl ?_
          have hx := ev_ok ht (hargs x (by simp))
          have hy := ev_ok ht (hargs y (by simp))
          unfold max2V at hu
          split at hu
          · rename_i k p k' q e1 e2
            rw [e1] at hx; rw [e2] at hy
            generalize a.eval x = X at hx
            generalize a.eval y = Y at hy
            cases hx with
            | i _ _ hx => cases hy with
              | i _ _ hy =>
                split at hu
                · rename_i hk; subst hk
                  obtain rfl := Option.some.inj hu
                  exact ⟨_, run_max_int2 w _ _ _ _ _ _, .i _ _ (by split <;> assumption)⟩
                · cases hu
          · cases hu
        · cases hv
  | _ => simp [op1] at hv
end
def okOper (N : Nat) (o : Oper) : Bool := (match o.dst with | some d => decide (d < N) | none => true) && o.op.operands.toList.all okOp
section
variable {E : Env} {r : List (Option Loc)} {h : Heap}
theorem wantV_ok {ops : Array Oper} {t : Tm} {a : Act} {N : Nat} (ht : TR D r t a N) {o : Oper} {b : Bool} (hw : wantV ops t o = some b) : Region.wanted o (yielded ops a.tmps) = b := by
  unfold wantV at hw
  unfold Region.wanted
  split at hw
  · rename_i hg; rw [hg]; simpa using hw
  · rename_i j w hg
    rw [hg]
    split at hw
    · rename_i d hd
      split at hw
      · rename_i x hx
        obtain rfl := Option.some.inj hw
        have hd' : (ops[j]?).bind (·.dst) = some d := by simpa using hd
        have := ht.tm d
        rw [hx] at this
        have hv : a.tmps[d]? = some (.bool x) := by
          rw [Array.getD_eq_getD_getElem?] at this
          cases hq : a.tmps[d]? with
          | none => rw [hq] at this; simp [undef] at this; cases this
          | some y => rw [hq] at this; simp at this; cases this; rfl
        simp [yielded, hd', hv]
      · rename_i vs hx
        obtain rfl := Option.some.inj hw
        have hd' : (ops[j]?).bind (·.dst) = some d := by simpa using hd
        have := ht.tm d
        rw [hx] at this
        have hv : a.tmps[d]?.getD undef = .tuple vs := by
          rw [Array.getD_eq_getD_getElem?] at this
          generalize a.tmps[d]?.getD undef = y at this ⊢
          cases this; rfl
        have hn : ∀ b, a.tmps[d]? ≠ some (.bool b) := fun b e => by rw [e] at hv; cases hv
        unfold yielded
        simp only [hd', Option.bind_some]
        cases hq : a.tmps[d]? with
        | none => rfl
        | some y => cases y <;> first | rfl | exact absurd hq (hn _)
      · cases hw
    · cases hw
theorem ops1_ok (hS : Sound E) {ops : Array Oper} {N : Nat} {Q : Exit → Act → World → Prop} : ∀ (os : List Oper) (k : Nat) {t : Tm} {a : Act} {r : List (Option Loc)} {h : Heap} {w : World} {t' : Tm} {h' : Heap}, (∀ j, os[j]? = ops[k + j]?) → os.all (okOper N) = true → TR D r t a N → HR E.G r h w.heap →
    ops1 E ops os t h = some (t', h') → (∀ r' a' w', TR D r' t' a' N → HR E.G r' h' w'.heap → Keep r h w r' h' w' → Q .normal a' w') → wpOps E.P ops Q (List.range' k os.length) a w
  | [], k, t, a, r, h, w, t', h', hos, hok, ht, hr, ho, hQ => by
    simp only [ops1, Option.some.injEq, Prod.mk.injEq] at ho
    obtain ⟨rfl, rfl⟩ := ho
    exact hQ r a w ht hr (Keep.refl _ _ _)
  | o :: os, k, t, a, r, h, w, t', h', hos, hok, ht, hr, ho, hQ => by
    have h0 : ops[k]? = some o := by have := hos 0; simpa using this.symm
    have hos' : ∀ j, os[j]? = ops[k + 1 + j]? := fun j => by have := hos (j + 1); rw [List.getElem?_cons_succ] at this; rw [this]; congr 1; omega
    simp only [List.all_cons, Bool.and_eq_true, okOper] at hok
    obtain ⟨⟨hd, hop⟩, hok'⟩ := hok
    have hd' : ∀ i, o.dst = some i → i < N := fun i hi => by rw [hi] at hd; simpa using hd
    rw [List.length_cons, List.range'_succ]
    simp only [ops1] at ho
    simp only [wpOps, h0]
    split at ho
    · rename_i hw
      rw [if_pos (wantV_ok ht hw)]
      split at ho
      · rename_i v h1 hv
        refine .inl (op1_ok hS hr ht hop hv fun x w' haft => ?_)
        obtain ⟨r1, a1, a2, a3⟩ := haft
        exact ops1_ok hS os (k + 1) hos' hok' ((ht.mono a3.pre).put hd' a1) a2 ho fun r' a' w'' b1 b2 b3 => hQ r' a' w'' b1 b2 (a3.trans b3)
      · cases ho
    · rename_i hw
      rw [if_neg (by rw [wantV_ok ht hw]; simp)]
      exact ops1_ok hS os (k + 1) hos' hok' (ht.put hd' (.c _)) hr ho hQ
    · cases ho
theorem region_ok {w : World} (hS : Sound E) {ops : Array Oper} {N id : Nat} {Q : Exit → Act → World → Prop} {t : Tm} {a : Act} {t' : Tm} {h' : Heap} (hok : ops.toList.all (okOper N) = true) (ht : TR D r t a N) (hr : HR E.G r h w.heap)
    (ho : ops1 E ops ops.toList t h = some (t', h')) (hQ : ∀ r' a' w', TR D r' t' a' N → HR E.G r' h' w'.heap → Keep r h w r' h' w' → Q .normal a' w') : (Code.region id ops false).wp E.P Q a w := by
  refine wp_region ?_
  have := ops1_ok hS (Q := Q) ops.toList 0 (fun j => by simp) hok ht hr ho hQ
  rwa [← List.range_eq_range', Array.length_toList] at this
def quiet (E : Env) : Env := { E with call := fun f args h => match E.call f args h with
  | some (v, h') => if E.same h' h then some (v, h) else none
  | none => none }
/-- 0: the heap is not looked at; 1: it is read; 2: it is changed -/
def kindO : Op → Nat
  | .assign x => if isNilSl x = true then 2 else 0
  | .binOp _ _ _ y _ => if isNilSl y = true then 1 else 0
  | .makeInterface .. | .move _ | .pick .. | .build .. | .nilCheck _ | .unOp .. | .makeFunc .. | .fieldAddr .. | .field .. | .indexAddr .. | .index .. | .extract .. | .slice .. => 0
  | .load .. => 1
  | .call { callee := .value _, .. } => 1
  | .call { callee := .builtin .len, .. } | .call { callee := .builtin .min, .. } | .call { callee := .builtin .max, .. } => 0
  | _ => 2
def anc (ops : Array Oper) : Nat → Nat → Nat → Bool
  | 0, _, _ => false
  | d + 1, j, i => match ops[j]? with
    | some o => o.after.toList.any fun e => Region.binds .any e && (e.on == i || anc ops d e.on i)
    | none => false
def indep (ops : Array Oper) (x y : Oper) : Bool := x.apart ops y && (kindO x.op == 0 || kindO y.op == 0 || (kindO x.op == 1 && kindO y.op == 1))
def drawOk (ops : Array Oper) : Bool := Region.noSelect ops && (List.range ops.size).all fun j => match ops[j]? with
  | some y => y.after.toList.all (fun e => !Region.binds .any e || decide (e.on < j)) && (List.range j).all fun i => match ops[i]? with
    | some x => indep ops x y || anc ops 5 j i
    | none => true
  | none => true
def step (E : Env) (ops : Array Oper) (o : Oper) (s : Tm × Heap) : Option (Tm × Heap) := match wantV ops s.1 o with
  | some true => match op1 E (ev s.1) s.2 o with
    | some (v, h') => some (put s.1 o.dst v, h')
    | none => none
  | some false => some (put s.1 o.dst (.c (.tuple #[])), s.2)
  | none => none
theorem ops1_step (ops : Array Oper) (o : Oper) (os : List Oper) (t : Tm) (h : Heap) : ops1 E ops (o :: os) t h = (step E ops o (t, h)).bind fun s => ops1 E ops os s.1 s.2 := by
  simp only [ops1, step]
  cases wantV ops t o with
  | none => rfl
  | some b =>
    cases b with
    | false => rfl
    | true => cases op1 E (ev t) h o <;> rfl
theorem set_comm : ∀ (t : Tm) (i j : Nat) (v u : V), i ≠ j → set (set t i v) j u = set (set t j u) i v
  | [], 0, 0, v, u, h => absurd rfl h
  | [], 0, j + 1, v, u, _ => by simp [GoD.set]
  | [], i + 1, 0, v, u, _ => by simp [GoD.set]
  | [], i + 1, j + 1, v, u, h => by simp only [GoD.set]; rw [set_comm [] i j v u (by omega)]
  | x :: t, 0, 0, v, u, h => absurd rfl h
  | x :: t, 0, j + 1, v, u, _ => rfl
  | x :: t, i + 1, 0, v, u, _ => rfl
  | x :: t, i + 1, j + 1, v, u, h => by simp only [GoD.set]; rw [set_comm t i j v u (by omega)]
theorem put_comm (t : Tm) {x y : Option Nat} (v u : V) (h : ∀ d, x = some d → y ≠ some d) : put (put t x v) y u = put (put t y u) x v := by
  cases x with
  | none => rfl
  | some d => cases y with
    | none => rfl
    | some e => exact set_comm t d e v u fun he => h d rfl (by rw [he])
theorem ev_put {t : Tm} {dst : Option Nat} {v : V} {x : Operand} (h : ∀ d, dst = some d → x ≠ .tmp d) : ev (put t dst v) x = ev t x := by
  cases dst with
  | none => rfl
  | some d => cases x with
    | tmp i => simp only [ev, put, get_set]; rw [if_neg fun e => h d rfl (by rw [e])]
    | _ => rfl
theorem op1_congr {ρ ρ' : Operand → V} (o : Oper) (h : Heap) (hρ : ∀ x ∈ o.op.operands, ρ x = ρ' x) : op1 E ρ h o = op1 E ρ' h o := by
  obtain ⟨dst, op, type, pos, after, guard⟩ := o
  have pairs : ∀ ps : Array (Nat × Operand), (∀ x ∈ (ps.toList.map (·.2)).toArray, ρ x = ρ' x) → (ps.toList.map fun p => (p.1, ρ p.2)) = (ps.toList.map fun p => (p.1, ρ' p.2)) := fun ps hp =>
    List.map_congr_left fun p hm => by rw [hp p.2 (by simp; exact ⟨p.1, by simpa using hm⟩)]
  cases op <;> simp only [Op.operands] at hρ <;> simp only [op1]
  case build t ps => rw [pairs ps hρ]
  case buildSlice t n ps => rw [pairs ps hρ]
  case makeFunc fn first cap => rw [List.map_congr_left (l := cap.toList) fun x hx => hρ x (by simp; right; simpa using hx), List.map_congr_left (l := first.toList) fun x hx => hρ x (by simp; left; simpa using hx)]
  case call c =>
    obtain ⟨callee, args, ats⟩ := c
    have ha : ∀ x ∈ args.toList, ρ x = ρ' x := fun x hx => hρ x (by simp [Call.operands]; right; simpa using hx)
    have hm : args.toList.map ρ = args.toList.map ρ' := List.map_congr_left ha
    cases callee with
    | value f => simp only [hρ f (by simp [Call.operands]), hm]
    | invoke rc name => simp only [hρ rc (by simp [Call.operands]), hm]
    | builtin b => cases b <;> simp only <;> (try rfl) <;> (split <;> simp_all)
  case slice t x lo hi mx => cases mx <;> cases lo <;> cases hi <;> simp_all
  case makeMap t rs => cases rs <;> rfl
  case next x st => cases st <;> simp_all
  all_goals (first | rfl | (simp_all; done))
theorem wantV_put {ops : Array Oper} {t : Tm} {o : Oper} {dst : Option Nat} {v : V} (h : ∀ d, dst = some d → d ∉ o.looksAt ops) : wantV ops (put t dst v) o = wantV ops t o := by
  cases dst with
  | none => rfl
  | some d =>
    unfold wantV
    cases hg : o.guard with
    | none => rfl
    | some gw =>
      obtain ⟨g, want⟩ := gw
      simp only
      cases ht : (ops.toList[g]?).bind (·.dst) with
      | none => rfl
      | some i =>
        simp only [put, get_set]
        rw [if_neg]
        intro e
        subst e
        refine h d rfl ?_
        have ht' : (ops[g]?).bind (·.dst) = some d := by simpa using ht
        simp [Oper.looksAt, hg, ht']
theorem op1_put {ops : Array Oper} {o : Oper} {t : Tm} {h : Heap} {dst : Option Nat} {v : V} (hd : ∀ d, dst = some d → d ∉ o.looksAt ops) : op1 E (ev (put t dst v)) h o = op1 E (ev t) h o :=
  op1_congr o h fun x hx => ev_put fun d hdd hxd => hd d hdd (by
    subst hxd
    exact List.mem_append_left _ (List.mem_filterMap.2 ⟨.tmp d, by simpa using hx, rfl⟩))
theorem mp {x : Option V} {h h' : Heap} {v : V} (hv : x.map (·, h) = some (v, h')) : h' = h ∧ ∀ h2 : Heap, x.map (·, h2) = some (v, h2) := by
  obtain ⟨u, rfl, he⟩ := Option.map_eq_some_iff.1 hv
  obtain ⟨rfl, rfl⟩ := Prod.mk.inj he
  exact ⟨rfl, fun _ => rfl⟩
theorem sp {a b : V} {h h' : Heap} (hv : some (a, h) = some (b, h')) : h' = h ∧ ∀ h2 : Heap, some (a, h2) = some (b, h2) := by
  obtain ⟨rfl, rfl⟩ := Prod.mk.inj (Option.some.inj hv)
  exact ⟨rfl, fun _ => rfl⟩
theorem assign0 {P : Program} {h h' : Heap} {ty : TypeId} {x : Operand} {u v : V} (hk : (if isNilSl x = true then 2 else 0) = 0) (hv : assignV P h ty x u = some (v, h')) : h' = h ∧ ∀ h2 : Heap, assignV P h2 ty x u = some (v, h2) := by
  have hn : ¬ isNilSl x = true := fun e => by rw [if_pos e] at hk; cases hk
  unfold assignV at hv ⊢
  rw [if_neg hn] at hv
  simp only [if_neg hn]
  exact sp hv
theorem kind0 {o : Oper} (hk : kindO o.op = 0) {ρ : Operand → V} {h h' : Heap} {v : V} (hv : op1 E ρ h o = some (v, h')) : h' = h ∧ ∀ h2, op1 E ρ h2 o = some (v, h2) := by
  obtain ⟨dst, op, type, pos, after, guard⟩ := o
  cases op <;> (try simp only [op1] at hv ⊢) <;> (first | exact mp hv | exact sp hv | exact assign0 hk hv | (cases hk; done) | skip)
  case assign x =>
    by_cases hn : nilKept E = true
    · simp only [if_pos hn] at hv ⊢; exact sp hv
    · simp only [if_neg hn] at hv ⊢; exact assign0 hk hv
  case binOp op t x y u =>
    have hn : ¬ isNilSl y = true := fun e => by simp only [kindO, if_pos e] at hk; cases hk
    simp only [if_neg hn] at hv ⊢
    exact mp hv
  case pick => split at hv <;> first | exact sp hv | cases hv
  case nilCheck => split at hv <;> first | exact sp hv | cases hv
  case makeInterface => split at hv <;> first | exact sp hv | cases hv
  case makeFunc =>
    split at hv
    · rename_i h0; simp only [if_pos h0]; exact sp hv
    · split at hv
      · rename_i h0 h1; simp only [if_neg h0, if_pos h1]; exact sp hv
      · cases hv
  case slice t x lo hi mx =>
    cases mx with
    | none =>
      simp only at hv ⊢
      split at hv
      · rename_i u hu
        exact sp hv
      · exact mp hv
    | some _ => cases hv
  case extract =>
    split at hv
    · split at hv
      · rename_i h0; simp only [if_pos h0]; exact sp hv
      · cases hv
    · cases hv
  case call c =>
    obtain ⟨callee, args, ats⟩ := c
    cases callee with
    | value f => cases hk
    | invoke => cases hk
    | builtin b =>
      cases b <;> first | (cases hk; done) | skip
      all_goals (simp only at hv ⊢; split at hv <;> first | exact mp hv | cases hv)
theorem eqC_eq {a b : Value} (h : eqC a b = true) : a = b := by
  unfold eqC at h; split at h <;> simp_all
mutual
theorem beqV_eq : ∀ {a b : V}, beqV a b = true → a = b
  | .b x, b, h => by cases b <;> simp [beqV] at h <;> simp [h]
  | .i k n, b, h => by cases b <;> simp [beqV] at h <;> simp [h]
  | .s l, b, h => by cases b <;> simp [beqV] at h <;> simp [h]
  | .p x o, b, h => by cases b <;> simp [beqV] at h <;> simp [h]
  | .g x o, b, h => by cases b <;> simp [beqV] at h <;> simp [h]
  | .sl x o n z, b, h => by cases b <;> simp [beqV] at h <;> simp [h]
  | .c v, b, h => by
    cases b <;> simp [beqV] at h
    rw [eqC_eq h]
  | .f fn l, b, h => by
    cases b <;> simp [beqV] at h
    rw [h.1, beqL_eq h.2]
  | .ifc t v, b, h => by
    cases b <;> simp [beqV] at h
    rw [h.1, beqV_eq h.2]
  | .e0, b, h => by cases b <;> simp [beqV] at h; rfl
  | .ai k, b, h => by cases b <;> simp [beqV] at h; rw [h]
  | .bf fn l, b, h => by
    cases b <;> simp [beqV] at h
    rw [h.1, beqL_eq h.2]
  | .agg l, b, h => by
    cases b <;> simp [beqV] at h
    rw [beqL_eq h]
  | .junk, b, h => by cases b <;> simp [beqV] at h; rfl
  | .m x, b, h => by cases b <;> simp [beqV] at h <;> simp [h]
  | .tup l, b, h => by
    cases b <;> simp [beqV] at h
    rw [beqL_eq h]
theorem beqL_eq : ∀ {a b : List V}, beqL a b = true → a = b
  | [], b, h => by cases b <;> simp [beqL] at h; rfl
  | x :: a, b, h => by
    cases b with
    | nil => simp [beqL] at h
    | cons y b => simp [beqL] at h; rw [beqV_eq h.1, beqL_eq h.2]
end
theorem beqH_eq : ∀ {a b : Heap}, beqH a b = true → a = b
  | [], b, h => by cases b <;> simp [beqH] at h; rfl
  | ⟨s, x, c⟩ :: a, b, h => by
    cases b with
    | nil => simp [beqH] at h
    | cons y b => simp [beqH] at h; obtain ⟨⟨⟨h1, h2⟩, h3⟩, h4⟩ := h; rw [beqH_eq h4]; congr 1; cases y; simp at h1 h2 h3; rw [h1, h2, beqL_eq h3]
end
theorem quiet_sound {E : Env} (h : Sound E) : Sound (quiet E) := by
  intro f args h0 v h' hc
  simp only [quiet] at hc
  split at hc
  · rename_i v1 h1 he
    split at hc
    · rename_i hb
      obtain ⟨rfl, rfl⟩ := Prod.mk.inj (Option.some.inj hc)
      have := h f args h0 v1 h1 he
      rwa [E.same_eq _ _ hb] at this
    · cases hc
  · cases hc
theorem kind1 {E : Env} {o : Oper} (hk : kindO o.op = 1) {ρ : Operand → V} {h h' : Heap} {v : V} (hv : op1 (quiet E) ρ h o = some (v, h')) : h' = h := by
  obtain ⟨dst, op, type, pos, after, guard⟩ := o
  cases op <;> (try (simp [kindO] at hk; done))
  case load t a => simp only [op1] at hv; exact (mp hv).1
  case binOp op t x y u =>
    simp only [op1] at hv
    split at hv
    · exact (mp hv).1
    · exact (mp hv).1
  case assign x => simp only [kindO] at hk; split at hk <;> cases hk
  case call c =>
    obtain ⟨callee, args, ats⟩ := c
    cases callee with
    | value f =>
      simp only [op1] at hv
      split at hv
      · simp only [quiet] at hv
        split at hv
        · split at hv
          · exact (Prod.mk.inj (Option.some.inj hv)).2.symm
          · cases hv
        · cases hv
      · simp only [quiet] at hv
        split at hv
        · split at hv
          · exact (Prod.mk.inj (Option.some.inj hv)).2.symm
          · cases hv
        · cases hv
      · cases hv
    | invoke => simp [kindO] at hk
    | builtin b => cases b <;> simp [kindO] at hk
  all_goals (simp [kindO] at hk)
theorem swap {E : Env} {ops : Array Oper} {x y : Oper} (hi : indep ops x y = true) {s s1 s2 : Tm × Heap} (h1 : step (quiet E) ops x s = some s1) (h2 : step (quiet E) ops y s1 = some s2) : ∃ s3, step (quiet E) ops y s = some s3 ∧ step (quiet E) ops x s3 = some s2 := by
  simp only [indep, Bool.and_eq_true, Bool.or_eq_true, beq_iff_eq] at hi
  obtain ⟨hap, hk⟩ := hi
  obtain ⟨a1, a2, a3⟩ := Oper.apart_spec hap
  obtain ⟨t, h⟩ := s
  obtain ⟨t1, g1⟩ := s1
  obtain ⟨t2, g2⟩ := s2
  simp only [step] at h1 h2 ⊢
  -- what x does
  have hx : ∃ u, (t1 = put t x.dst u) ∧ ((wantV ops t x = some false ∧ u = .c (.tuple #[]) ∧ g1 = h) ∨ (wantV ops t x = some true ∧ op1 (quiet E) (ev t) h x = some (u, g1))) := by
    split at h1
    · rename_i hw
      split at h1
      · rename_i v h' hv
        obtain ⟨rfl, rfl⟩ := Prod.mk.inj (Option.some.inj h1)
        exact ⟨v, rfl, .inr ⟨hw, hv⟩⟩
      · cases h1
    · rename_i hw
      obtain ⟨rfl, rfl⟩ := Prod.mk.inj (Option.some.inj h1)
      exact ⟨.c (.tuple #[]), rfl, .inl ⟨hw, rfl, rfl⟩⟩
    · cases h1
  obtain ⟨u, rfl, hx⟩ := hx
  rw [wantV_put a1, op1_put a1] at h2
  have hy : ∃ u', t2 = put (put t x.dst u) y.dst u' ∧ ((wantV ops t y = some false ∧ u' = .c (.tuple #[]) ∧ g2 = g1) ∨ (wantV ops t y = some true ∧ op1 (quiet E) (ev t) g1 y = some (u', g2))) := by
    split at h2
    · rename_i hw
      split at h2
      · rename_i v h' hv
        obtain ⟨rfl, rfl⟩ := Prod.mk.inj (Option.some.inj h2)
        exact ⟨v, rfl, .inr ⟨hw, hv⟩⟩
      · cases h2
    · rename_i hw
      obtain ⟨rfl, rfl⟩ := Prod.mk.inj (Option.some.inj h2)
      exact ⟨.c (.tuple #[]), rfl, .inl ⟨hw, rfl, rfl⟩⟩
    · cases h2
  obtain ⟨u', rfl, hy⟩ := hy
  rw [put_comm t u u' a2]
  -- the heaps
  have key : ∃ g3, ((wantV ops t y = some false ∧ u' = .c (.tuple #[]) ∧ g3 = h) ∨ (wantV ops t y = some true ∧ op1 (quiet E) (ev t) h y = some (u', g3))) ∧ ((wantV ops t x = some false ∧ u = .c (.tuple #[]) ∧ g2 = g3) ∨ (wantV ops t x = some true ∧ op1 (quiet E) (ev t) g3 x = some (u, g2))) := by
    rcases hx with ⟨x1, x2, rfl⟩ | ⟨x1, x2⟩ <;> rcases hy with ⟨y1, y2, rfl⟩ | ⟨y1, y2⟩
    · exact ⟨_, .inl ⟨y1, y2, rfl⟩, .inl ⟨x1, x2, rfl⟩⟩
    · exact ⟨_, .inr ⟨y1, y2⟩, .inl ⟨x1, x2, rfl⟩⟩
    · exact ⟨_, .inl ⟨y1, y2, rfl⟩, .inr ⟨x1, x2⟩⟩
    · rcases hk with (hk | hk) | ⟨hk, hk'⟩
      · obtain ⟨rfl, hall⟩ := kind0 hk x2
        exact ⟨g2, .inr ⟨y1, y2⟩, .inr ⟨x1, hall _⟩⟩
      · obtain ⟨rfl, hall⟩ := kind0 hk y2
        exact ⟨h, .inr ⟨y1, hall _⟩, .inr ⟨x1, x2⟩⟩
      · obtain rfl := kind1 hk x2
        obtain rfl := kind1 hk' y2
        exact ⟨_, .inr ⟨y1, y2⟩, .inr ⟨x1, x2⟩⟩
  obtain ⟨g3, k1, k2⟩ := key
  refine ⟨(put t y.dst u', g3), ?_, ?_⟩
  · rcases k1 with ⟨e1, rfl, rfl⟩ | ⟨e1, e2⟩
    · rw [e1]
    · rw [e1]; simp only [e2]
  · simp only [wantV_put a3, op1_put a3]
    rcases k2 with ⟨e1, rfl, rfl⟩ | ⟨e1, e2⟩
    · rw [e1]
    · rw [e1]; simp only [e2]
theorem front {E : Env} {ops : Array Oper} {x : Oper} {B : List Oper} {s' : Tm × Heap} : ∀ (A : List Oper), (∀ y ∈ A, indep ops y x = true) → ∀ {s : Tm × Heap}, ops1 (quiet E) ops (A ++ x :: B) s.1 s.2 = some s' → ∃ s1, step (quiet E) ops x s = some s1 ∧ ops1 (quiet E) ops (A ++ B) s1.1 s1.2 = some s'
  | [], _, s, h => by
    rw [List.nil_append, ops1_step] at h
    obtain ⟨s1, h1, h2⟩ := Option.bind_eq_some_iff.1 h
    exact ⟨s1, h1, h2⟩
  | y :: A, hA, s, h => by
    rw [List.cons_append, ops1_step] at h
    obtain ⟨s1, h1, h2⟩ := Option.bind_eq_some_iff.1 h
    obtain ⟨s2, h3, h4⟩ := front A (fun z hz => hA z (by simp [hz])) h2
    obtain ⟨s3, h5, h6⟩ := swap (hA y (by simp)) h1 h3
    refine ⟨s3, h5, ?_⟩
    rw [List.cons_append, ops1_step]
    have e : (s3.1, s3.2) = s3 := rfl
    rw [e, h6]; exact h4
def left (n : Nat) (listed : Array Bool) : List Nat := (List.range n).filter fun i => !listed.getD i true
def opersOf (ops : Array Oper) (l : List Nat) : List Oper := l.filterMap fun i => ops[i]?
theorem step_ok {E : Env} {w : World} {r : List (Option Loc)} {h : Heap} (hS : Sound E) {ops : Array Oper} {N : Nat} {Q : Exit → Act → World → Prop} {o : Oper} {i : Nat} (hi : ops[i]? = some o) (hok : okOper N o = true) {t : Tm} {a : Act} (ht : TR D r t a N) (hr : HR E.G r h w.heap) {s1 : Tm × Heap} (hs : step E ops o (t, h) = some s1)
    {K : Act → World → Prop} (hK : ∀ r' a' w', TR D r' s1.1 a' N → HR E.G r' s1.2 w'.heap → Keep r h w r' s1.2 w' → K a' w') : wpOp E.P ops Q i K a w := by
  simp only [okOper, Bool.and_eq_true] at hok
  obtain ⟨hd, hop⟩ := hok
  have hd' : ∀ i, o.dst = some i → i < N := fun i hi => by rw [hi] at hd; simpa using hd
  unfold wpOp
  simp only [hi]
  simp only [step] at hs
  split at hs
  · rename_i hw
    rw [if_pos (wantV_ok ht hw)]
    split at hs
    · rename_i v h' hv
      obtain rfl := Option.some.inj hs
      refine .inl (op1_ok hS hr ht hop hv fun x w' haft => ?_)
      obtain ⟨r1, a1, a2, a3⟩ := haft
      exact hK r1 _ w' ((ht.mono a3.pre).put hd' a1) a2 a3
    · cases hs
  · rename_i hw
    obtain rfl := Option.some.inj hs
    rw [if_neg (by rw [wantV_ok ht hw]; simp)]
    exact hK r _ w (ht.put hd' (.c _)) hr (Keep.refl _ _ _)
  · cases hs
theorem anc_listed {ops : Array Oper} {listed : Array Bool} (hc : ∀ (i : Nat) (o : Oper), ops[i]? = some o → listed.getD i false = true → ∀ e ∈ o.after, Region.binds .any e = true → listed.getD e.on false = true) :
    ∀ (d j i : Nat), anc ops d j i = true → (∀ o, ops[j]? = some o → ∀ e ∈ o.after, Region.binds .any e = true → listed.getD e.on false = true) → listed.getD i false = true
  | 0, j, i, h, _ => by simp [anc] at h
  | d + 1, j, i, h, hj => by
    simp only [anc] at h
    split at h
    · rename_i o ho
      obtain ⟨e, he, hb⟩ := List.any_eq_true.1 h
      simp only [Bool.and_eq_true, Bool.or_eq_true, beq_iff_eq] at hb
      have hl := hj o ho e (by simpa using he) hb.1
      rcases hb.2 with rfl | hb2
      · exact hl
      · exact anc_listed hc d e.on i hb2 fun o' ho' => hc e.on o' ho' hl
    · cases h
theorem filter_split {p : Nat → Bool} : ∀ {n i : Nat}, i < n → p i = true → (List.range n).filter p = (List.range i).filter p ++ i :: ((List.range n).filter (fun k => p k && decide (i < k)))
  | 0, i, h, _ => by omega
  | n + 1, i, h, hp => by
    rw [List.range_succ, List.filter_append, List.filter_append]
    by_cases hi : i < n
    · rw [filter_split hi hp]
      simp [List.filter_cons, hi]
    · have : i = n := by omega
      subst this
      have : (List.range i).filter (fun k => p k && decide (i < k)) = [] := by
        rw [List.filter_eq_nil_iff]; intro k hk; simp at hk ⊢; omega
      rw [this]
      simp [hp]
theorem any_ok {E : Env} (hS : Sound E) {ops : Array Oper} {N : Nat} {Q : Exit → Act → World → Prop} (hok : ops.toList.all (okOper N) = true) (hd : drawOk ops = true) : ∀ (fuel : Nat) (listed : Array Bool) {r : List (Option Loc)} {t : Tm} {h : Heap} {a : Act} {w : World} {t' : Tm} {h' : Heap},
    (left ops.size listed).length = fuel → listed.size = ops.size → (∀ (i : Nat) (o : Oper), ops[i]? = some o → listed.getD i false = true → ∀ e ∈ o.after, Region.binds .any e = true → listed.getD e.on false = true) → TR D r t a N → HR E.G r h w.heap →
    ops1 (quiet E) ops (opersOf ops (left ops.size listed)) t h = some (t', h') → (∀ r' a' w', TR D r' t' a' N → HR E.G r' h' w'.heap → Keep r h w r' h' w' → Q .normal a' w') → wpAny E.P .any ops Q fuel listed a w := by
  have hd2 := hd
  simp only [drawOk, Bool.and_eq_true, List.all_eq_true] at hd2
  obtain ⟨_, hd2⟩ := hd2
  have back : ∀ (j : Nat) (o : Oper), ops[j]? = some o → ∀ e ∈ o.after, Region.binds .any e = true → e.on < j := by
    intro j o ho e he hb
    have := hd2 j (by have := (Array.getElem?_eq_some_iff.1 ho).1; simpa using this)
    rw [ho] at this
    simp only [Bool.and_eq_true] at this
    have := List.all_eq_true.1 this.1 e (by simpa using he)
    simpa [hb] using this
  have pair : ∀ (i j : Nat) (x y : Oper), i < j → ops[i]? = some x → ops[j]? = some y → indep ops x y = true ∨ anc ops 5 j i = true := by
    intro i j x y hij hx hy
    have := hd2 j (by have := (Array.getElem?_eq_some_iff.1 hy).1; simpa using this)
    rw [hy] at this
    simp only [Bool.and_eq_true] at this
    have := List.all_eq_true.1 this.2 i (by simpa using hij)
    rw [hx] at this
    simpa using this
  intro fuel
  induction fuel with
  | zero =>
    intro listed r t h a w t' h' hlen hsz hcl ht hr ho hQ
    have hnil : left ops.size listed = [] := List.eq_nil_of_length_eq_zero hlen
    rw [hnil] at ho
    obtain ⟨rfl, rfl⟩ := Prod.mk.inj (Option.some.inj ho)
    refine ⟨?_, hQ r a w ht hr (Keep.refl _ _ _)⟩
    refine List.eq_nil_iff_forall_not_mem.2 fun i hi => ?_
    have h1 := (mem_ready.1 hi).1
    obtain ⟨o, ho', _⟩ := (mem_ready.1 hi).2
    have : i ∈ left ops.size listed := List.mem_filter.2 ⟨by have := (Array.getElem?_eq_some_iff.1 ho').1; simpa using this, by rw [h1]; rfl⟩
    rw [hnil] at this; cases this
  | succ fuel ih =>
    intro listed r t h a w t' h' hlen hsz hcl ht hr ho hQ
    refine ⟨fun hready => ?_, fun i hi => ?_⟩
    · -- the first that is left is ready
      exfalso
      cases hl : left ops.size listed with
      | nil => rw [hl] at hlen; simp at hlen
      | cons i rest =>
        have hmem : i ∈ left ops.size listed := by rw [hl]; simp
        have hmin : ∀ k, k < i → listed.getD k true = true := by
          intro k hk
          cases hq : listed.getD k true with
          | true => rfl
          | false =>
            exfalso
            have hin : i < ops.size := by have := (List.mem_filter.1 hmem).1; simpa using this
            have hki : k ∈ (List.range i).filter (fun i => !listed.getD i true) := List.mem_filter.2 ⟨by simpa using hk, by rw [hq]; rfl⟩
            have hspl := filter_split (p := fun i => !listed.getD i true) hin (List.mem_filter.1 hmem).2
            have hlf : left ops.size listed = _ := hspl
            rw [hl] at hlf
            cases hA : (List.range i).filter (fun i => !listed.getD i true) with
            | nil => rw [hA] at hki; cases hki
            | cons z zs =>
              rw [hA] at hlf
              simp only [List.cons_append, List.cons.injEq] at hlf
              have hz : z ∈ (List.range i).filter (fun i => !listed.getD i true) := by rw [hA]; simp
              have := (List.mem_filter.1 hz).1
              rw [← hlf.1] at this
              simp at this
        have hin : i < ops.size := by have := (List.mem_filter.1 hmem).1; simpa using this
        have hoi : ops[i]? = some ops[i] := Array.getElem?_eq_getElem hin
        have : i ∈ Region.ready .any ops listed := mem_ready.2 ⟨by have := (List.mem_filter.1 hmem).2; simpa using this, ops[i], hoi, fun e he hb => by
          have h1 := hmin e.on (back i _ hoi e he hb)
          have h2 := back i _ hoi e he hb
          rw [Array.getD_eq_getD_getElem?, Array.getElem?_eq_getElem (by omega)] at h1 ⊢
          exact h1⟩
        rw [hready] at this; cases this
    · obtain ⟨hun, o, hoi, hall⟩ := mem_ready.1 hi
      have hin : i < ops.size := (Array.getElem?_eq_some_iff.1 hoi).1
      have hp : (fun i => !listed.getD i true) i = true := by simp [hun]
      have hspl : left ops.size listed = _ := filter_split (p := fun i => !listed.getD i true) hin hp
      have hokO : okOper N o = true := List.all_eq_true.1 hok o (by rw [Array.mem_toList_iff]; exact Array.mem_of_getElem? hoi)
      rw [hspl] at ho
      have e1 : opersOf ops ((List.range i).filter (fun i => !listed.getD i true) ++ i :: (List.range ops.size).filter (fun k => !listed.getD k true && decide (i < k))) =
          opersOf ops ((List.range i).filter (fun i => !listed.getD i true)) ++ o :: opersOf ops ((List.range ops.size).filter (fun k => !listed.getD k true && decide (i < k))) := by
        simp [opersOf, List.filterMap_append, hoi]
      rw [e1] at ho
      obtain ⟨s1, hs1, ho1⟩ := front (E := E) (x := o) (s := (t, h)) _ (fun y hy => by
        obtain ⟨k, hk, hky⟩ := List.mem_filterMap.1 hy
        obtain ⟨hk1, hk2⟩ := List.mem_filter.1 hk
        rcases pair k i y o (by simpa using hk1) hky hoi with h1 | h1
        · exact h1
        · exfalso
          have h2 := anc_listed hcl 5 i k h1 (fun o' ho' => by rw [hoi] at ho'; obtain rfl := Option.some.inj ho'; exact hall)
          have hlt : k < listed.size := by have : k < i := by simpa using hk1
                                           omega
          rw [Array.getD_eq_getD_getElem?, Array.getElem?_eq_getElem hlt] at h2
          rw [Array.getD_eq_getD_getElem?, Array.getElem?_eq_getElem hlt] at hk2
          simp at h2 hk2
          rw [h2] at hk2; cases hk2) ho
      refine step_ok (quiet_sound hS) hoi hokO ht hr hs1 fun r1 a1 w1 b1 b2 b3 => ?_
      have hleft : left ops.size (listed.setIfInBounds i true) = (List.range i).filter (fun i => !listed.getD i true) ++ (List.range ops.size).filter (fun k => !listed.getD k true && decide (i < k)) := by
        have hli : i < listed.size := by omega
        have hpt : ∀ k, (!(listed.setIfInBounds i true).getD k true) = (!listed.getD k true && decide (k ≠ i)) := fun k => by
          by_cases hk : i = k
          · subst hk; simp [hli]
          · rw [getD_set_ne true hk]; simp [Ne.symm hk]
        unfold left
        rw [show (fun k => !(listed.setIfInBounds i true).getD k true) = (fun k => !listed.getD k true && decide (k ≠ i)) from funext hpt]
        have : (List.range ops.size).filter (fun k => !listed.getD k true && decide (k ≠ i)) = ((List.range ops.size).filter (fun k => !listed.getD k true)).filter (fun k => decide (k ≠ i)) := by
          rw [List.filter_filter]; congr 1; funext k; rw [Bool.and_comm]
        have hs2 : (List.range ops.size).filter (fun k => !listed.getD k true) = _ := hspl
        rw [this, hs2, List.filter_append, List.filter_cons, if_neg (by simp)]
        congr 1 <;> (rw [List.filter_eq_self]; intro k hk; simp at hk ⊢; omega)
      refine ih (listed.setIfInBounds i true) ?_ (by simpa using hsz) ?_ b1 b2 (by rw [hleft]; simpa [opersOf, List.filterMap_append] using ho1) fun r' a' w' c1 c2 c3 => hQ r' a' w' c1 c2 (b3.trans c3)
      · rw [hleft]; rw [hspl] at hlen; simp at hlen ⊢; omega
      · intro k ok hk hlk e he hb
        by_cases hki : i = k
        · subst hki
          rw [hoi] at hk; obtain rfl := Option.some.inj hk
          exact getD_set_true (hall e he hb)
        · rw [getD_set_ne false hki] at hlk
          exact getD_set_true (hcl k ok hk hlk e he hb)
theorem region_any_ok {E : Env} {w : World} {r : List (Option Loc)} {h : Heap} (hm : E.P.follows .mixedOrders = true) (hS : Sound E) {ops : Array Oper} {N id : Nat} {Q : Exit → Act → World → Prop} {t : Tm} {a : Act} {t' : Tm} {h' : Heap} (hok : ops.toList.all (okOper N) = true) (hd : drawOk ops = true) (ht : TR D r t a N) (hr : HR E.G r h w.heap)
    (ho : ops1 (quiet E) ops ops.toList t h = some (t', h')) (hQ : ∀ r' a' w', TR D r' t' a' N → HR E.G r' h' w'.heap → Keep r h w r' h' w' → Q .normal a' w') : (Code.region id ops true).wp E.P Q a w := by
  refine wp_region_any hm ?_
  have hl : left ops.size (Array.replicate ops.size false) = List.range ops.size := by
    unfold left
    rw [List.filter_eq_self]
    intro i hi
    have : i < ops.size := by simpa using hi
    simp [this]
  have ho' : opersOf ops (left ops.size (Array.replicate ops.size false)) = ops.toList := by
    rw [hl]
    have : ∀ (l : List Oper), (List.range l.length).filterMap (fun i => l[i]?) = l := by
      intro l
      induction l with
      | nil => rfl
      | cons x l ih =>
        rw [List.length_cons, List.range_succ_eq_map, List.filterMap_cons]
        simp [List.filterMap_map]
        exact ih
    have h2 := this ops.toList
    simpa [opersOf] using h2
  have hr' : HR E.G r h ({ w with drawn := w.drawn + 1 } : World).heap := hr
  refine any_ok hS hok hd ops.size _ (by rw [hl]; simp) (by simp) ?_ ht hr' (by rw [ho']; exact ho) fun r' a' w' b1 b2 b3 => hQ r' a' w' b1 b2 ⟨b3.pre, b3.size, b3.os, b3.tape, b3.output, b3.block, b3.own⟩
  intro i o hi hl
  have : i < ops.size := (Array.getElem?_eq_some_iff.1 hi).1
  simp [this] at hl
/-! regions in an order that is told: id, the order, the calls (by what they write) that do not look at the heap -/
mutual
def flatV : V → Bool
  | .p .. | .sl .. | .m _ => false
  | .agg l | .tup l | .f _ l => flatL l
  | .ifc _ v => flatV v
  | .e0 | .ai _ => true
  | .bf _ l => flatL l
  | .junk | .b _ | .i .. | .s _ | .g .. | .c _ => true
def flatL : List V → Bool
  | [] => true
  | v :: l => flatV v && flatL l
end
mutual
theorem R.flat {r r' : List (Option Loc)} : ∀ {v : V} {x : Value}, flatV v = true → R r v x → R r' v x
  | .junk, x, _, _ => .junk x
  | .b y, x, _, h => by cases h; exact .b y
  | .i k n, x, _, h => by cases h with | i _ _ h => exact .i k n h
  | .s l, x, _, h => by cases h with | s _ h => exact .s l h
  | .p b o, x, hf, _ => by simp [flatV] at hf
  | .g m o, x, _, h => by cases h; exact .g _ _
  | .sl b o n z, x, hf, _ => by simp [flatV] at hf
  | .c v, x, _, h => by cases h; exact .c _
  | .agg l, x, hf, h => by cases h with | agg _ xs h => exact .agg l xs (RL.flat (by simpa [flatV] using hf) h)
  | .tup l, x, hf, h => by cases h with | tup _ xs h => exact .tup l xs (RL.flat (by simpa [flatV] using hf) h)
  | .f fn l, x, hf, h => by cases h with | f _ _ xs h => exact .f fn l xs (RL.flat (by simpa [flatV] using hf) h)
  | .ifc t v, x, hf, h => by cases h with | ifc _ _ y h => exact .ifc t v y (R.flat (by simpa [flatV] using hf) h)
  | .e0, x, _, h => by cases h; exact .e0 _ _
  | .ai k, x, _, h => by cases h with | ai _ n h => exact .ai k n h
  | .bf fn l, x, hf, h => by cases h with | bf _ _ xs h => exact .bf fn l xs (RL.flat (by simpa [flatV] using hf) h)
  | .m b, x, hf, _ => by simp [flatV] at hf
theorem RL.flat {r r' : List (Option Loc)} : ∀ {l : List V} {xs : List Value}, flatL l = true → RL r l xs → RL r' l xs
  | [], xs, _, h => by cases h; exact .nil
  | v :: l, xs, hf, h => by
    simp only [flatL, Bool.and_eq_true] at hf
    cases h with | cons h1 h2 => exact .cons (R.flat hf.1 h1) (RL.flat hf.2 h2)
end
/-- what a call answers in an empty heap, plainly, it answers in any -/
theorem Ok.still {P : Program} {G : Nat → List V} {f : FuncId} {args : List V} {v : V} {h h' : Heap} (hok : Ok P G f args [] v h') (ha : flatL args = true) (hv : flatV v = true) : Ok P G f args h v h := by
  intro r w xs hr hx
  have h0 : HR G [] [] w.heap := ⟨rfl, fun i b y h1 => by simp at h1, fun i b h1 => by simp at h1, fun i j b b' L L' h1 => by simp at h1, hr.glob, fun g hg i b L h1 => by simp at h1, fun i b y h1 => by simp at h1⟩
  refine (hok [] w xs h0 (RL.flat ha hx)).mono ?_
  rintro e w' ⟨x, r', h1, h2, h3, h4⟩
  have hb : ∀ k, k < w.heap.size → w'.heap[k]? = w.heap[k]? := fun k hk => h4.block k hk fun i b L h5 => by simp at h5
  exact ⟨x, r, h1, R.flat hv h2, hr.heap (fun i b L a1 a2 a3 => hb _ (hr.lt a1 a2 a3)) fun g hg => hb _ (hr.glt hg),
    ⟨List.prefix_refl _, h4.size, h4.os, h4.tape, h4.output, fun k hk _ => hb k hk, fun i b L a1 a2 a3 _ => ⟨i, b, L, a1, a2, a3, rfl⟩⟩⟩
def still (E : Env) : Env := { E with call := fun f args h => if flatL args = true then (match E.call f args [] with
  | some (v, _) => if flatV v = true then some (v, h) else none
  | none => none) else none }
theorem still_sound {E : Env} (h : Sound E) : Sound (still E) := by
  intro f args h0 v h' hc
  simp only [still] at hc
  split at hc
  · rename_i hf
    split at hc
    · rename_i v1 h1 he
      split at hc
      · rename_i hv
        obtain ⟨rfl, rfl⟩ := Prod.mk.inj (Option.some.inj hc)
        rcases h f args [] v1 h1 he with ⟨c1, c2⟩ | ⟨_, c2⟩
        · exact .inl ⟨c1, c2.still hf hv⟩
        · exact .inr ⟨rfl, c2⟩
      · cases hc
    · cases hc
  · cases hc
def growE (E : Env) : Env := { E with call := fun f args h => match E.call f args h with
  | some (v, h') => if h.length ≤ h'.length ∧ E.same (h'.take h.length) h = true then some (v, h') else none
  | none => none }
theorem growE_sound {E : Env} (h : Sound E) : Sound (growE E) := by
  intro f args h0 v h' hc
  simp only [growE] at hc
  split at hc
  · rename_i v1 h1 he
    split at hc
    · obtain ⟨rfl, rfl⟩ := Prod.mk.inj (Option.some.inj hc)
      exact h f args h0 _ _ he
    · cases hc
  · cases hc
theorem growE_ext {E : Env} {f : FuncId} {args : List V} {h h' : Heap} {v : V} (hc : (growE E).call f args h = some (v, h')) : ∃ bs, h' = h ++ bs := by
  simp only [growE] at hc
  split at hc
  · rename_i v1 h1 he
    split at hc
    · rename_i hq
      obtain ⟨rfl, rfl⟩ := Prod.mk.inj (Option.some.inj hc)
      refine ⟨h1.drop h.length, ?_⟩
      have := E.same_eq _ _ hq.2
      conv => lhs; rw [← List.take_append_drop h.length h1]
      rw [this]
    · cases hc
  · cases hc
def isS (S : List Nat) (o : Oper) : Bool := match o.dst with | some d => S.contains d | none => false
def isG (S : List Nat) (o : Oper) : Bool := match o.dst with | some d => S.contains (d + 1000000) | none => false
def isL (S : List Nat) (o : Oper) : Bool := match o.dst with | some d => S.contains (d + 2000000) | none => false
def envS (E : Env) (S : List Nat) (o : Oper) : Env := if isS S o = true then still E else if isG S o = true then growE E else if isL S o = true then E else quiet E
theorem envS_sound {E : Env} {S : List Nat} {o : Oper} (h : Sound E) : Sound (envS E S o) := by
  unfold envS; split
  · exact still_sound h
  · split
    · exact growE_sound h
    · split
      · exact h
      · exact quiet_sound h
theorem envS_heap {E : Env} {S : List Nat} {o : Oper} (hg : isG S o = false) (hl : isL S o = false) {f : FuncId} {args : List V} {h h' : Heap} {v : V} (hc : (envS E S o).call f args h = some (v, h')) : h' = h := by
  unfold envS at hc
  rw [hg, hl, if_neg (by simp : ¬ false = true), if_neg (by simp : ¬ false = true)] at hc
  split at hc
  · simp only [still] at hc
    split at hc
    · split at hc
      · split at hc
        · exact (Prod.mk.inj (Option.some.inj hc)).2.symm
        · cases hc
      · cases hc
    · cases hc
  · simp only [quiet] at hc
    split at hc
    · split at hc
      · exact (Prod.mk.inj (Option.some.inj hc)).2.symm
      · cases hc
    · cases hc
theorem envS_P {E : Env} {S : List Nat} {o : Oper} : (envS E S o).P = E.P := by
  unfold envS
  split
  · rfl
  · split
    · rfl
    · split <;> rfl
theorem envS_G {E : Env} {S : List Nat} {o : Oper} : (envS E S o).G = E.G := by
  unfold envS
  split
  · rfl
  · split
    · rfl
    · split <;> rfl
def kindS (S : List Nat) (o : Oper) : Nat := match o.op with
  | .call { callee := .value _, .. } => if isS S o = true then 0 else if isG S o = true then 2 else if isL S o = true then 2 else 1
  | .convert .. => 1
  | op => kindO op
def isLoad : Op → Bool | .load .. => true | _ => false
def isGrow : Op → Bool | .alloc _ | .buildSlice .. => true | _ => false
def isGrowS (S : List Nat) (o : Oper) : Bool := isGrow o.op || match o.op with | .call { callee := .value _, .. } => !isS S o && isG S o | _ => false
def indS (S : List Nat) (ops : Array Oper) (x y : Oper) : Bool := x.apart ops y && (kindS S x == 0 || kindS S y == 0 || (kindS S x == 1 && kindS S y == 1) || (isLoad x.op && isGrowS S y))
/-- an operation in an order of one's own: what is converted makes nothing new -/
def op1S (E : Env) (S : List Nat) (ρ : Operand → V) (h : Heap) (o : Oper) : Option (V × Heap) := match o.op with
  | .convert .. => match op1 (envS E S o) ρ h o with
    | some (v, h') => if h'.length = h.length then some (v, h') else none
    | none => none
  | _ => op1 (envS E S o) ρ h o
theorem op1S_op1 {E : Env} {S : List Nat} {ρ : Operand → V} {h : Heap} {o : Oper} {x : V × Heap} (hx : op1S E S ρ h o = some x) : op1 (envS E S o) ρ h o = some x := by
  unfold op1S at hx
  split at hx
  · split at hx
    · rename_i he
      split at hx
      · rw [he]; exact hx
      · cases hx
    · cases hx
  · exact hx
theorem op1S_not {E : Env} {S : List Nat} {ρ : Operand → V} {h : Heap} {o : Oper} (hn : ∀ a b c, o.op ≠ .convert a b c) : op1S E S ρ h o = op1 (envS E S o) ρ h o := by
  unfold op1S
  split
  · rename_i he; exact absurd he (hn _ _ _)
  · rfl
theorem op1S_congr {E : Env} {S : List Nat} {ρ ρ' : Operand → V} (o : Oper) (h : Heap) (hρ : ∀ x ∈ o.op.operands, ρ x = ρ' x) : op1S E S ρ h o = op1S E S ρ' h o := by
  unfold op1S
  rw [op1_congr o h hρ]
theorem op1S_put {E : Env} {S : List Nat} {ops : Array Oper} {o : Oper} {t : Tm} {h : Heap} {dst : Option Nat} {v : V} (hd : ∀ d, dst = some d → d ∉ o.looksAt ops) : op1S E S (ev (put t dst v)) h o = op1S E S (ev t) h o :=
  op1S_congr o h fun x hx => ev_put fun d hdd hxd => hd d hdd (by
    subst hxd
    exact List.mem_append_left _ (List.mem_filterMap.2 ⟨.tmp d, by simpa using hx, rfl⟩))
theorem conv_heap {P : Program} {h h' : Heap} {s d : TypeId} {x v : V} (hv : convV P h s d x = some (v, h')) (hl : h'.length = h.length) : h' = h := by
  unfold convV at hv
  split at hv
  · exact (Prod.mk.inj (Option.some.inj hv)).2.symm
  · exact (Prod.mk.inj (Option.some.inj hv)).2.symm
  · split at hv
    · split at hv
      · exact (Prod.mk.inj (Option.some.inj hv)).2.symm
      · rw [← (Prod.mk.inj (Option.some.inj hv)).2] at hl
        simp at hl
    · cases hv
  · split at hv
    · split at hv
      · split at hv
        · exact (Prod.mk.inj (Option.some.inj hv)).2.symm
        · cases hv
      · cases hv
    · cases hv
  · cases hv
def stepS (E : Env) (S : List Nat) (ops : Array Oper) (o : Oper) (s : Tm × Heap) : Option (Tm × Heap) := match wantV ops s.1 o with
  | some true => match op1S E S (ev s.1) s.2 o with
    | some (v, h') => some (put s.1 o.dst v, h')
    | none => none
  | some false => some (put s.1 o.dst (.c (.tuple #[])), s.2)
  | none => none
theorem stepS_step {E : Env} {S : List Nat} {ops : Array Oper} {o : Oper} {s s1 : Tm × Heap} (h : stepS E S ops o s = some s1) : step (envS E S o) ops o s = some s1 := by
  unfold stepS at h
  unfold step
  cases hw : wantV ops s.1 o with
  | none => rw [hw] at h; cases h
  | some b =>
    rw [hw] at h
    cases b with
    | false => exact h
    | true =>
      simp only at h ⊢
      split at h
      · rename_i v h' hv
        simp only [op1S_op1 hv]; exact h
      · cases h
def opsS (E : Env) (S : List Nat) (ops : Array Oper) : List Oper → Tm → Heap → Option (Tm × Heap)
  | [], t, h => some (t, h)
  | o :: os, t, h => match wantV ops t o with
    | some true => match op1S E S (ev t) h o with
      | some (v, h') => opsS E S ops os (put t o.dst v) h'
      | none => none
    | some false => opsS E S ops os (put t o.dst (.c (.tuple #[]))) h
    | none => none
theorem opsS_step (E : Env) (S : List Nat) (ops : Array Oper) (o : Oper) (os : List Oper) (t : Tm) (h : Heap) : opsS E S ops (o :: os) t h = (stepS E S ops o (t, h)).bind fun s => opsS E S ops os s.1 s.2 := by
  simp only [opsS, stepS]
  cases wantV ops t o with
  | none => rfl
  | some b =>
    cases b with
    | false => rfl
    | true => cases op1S E S (ev t) h o <;> rfl
theorem kind1g {E : Env} {o : Oper} (hq : (∃ f a b, o.op = .call ⟨.value f, a, b⟩) → ∀ {f : FuncId} {args : List V} {h h' : Heap} {v : V}, E.call f args h = some (v, h') → h' = h) (hk : kindO o.op = 1) {ρ : Operand → V} {h h' : Heap} {v : V} (hv : op1 E ρ h o = some (v, h')) : h' = h := by
  obtain ⟨dst, op, type, pos, after, guard⟩ := o
  cases op <;> (try (simp [kindO] at hk; done))
  case load t a => simp only [op1] at hv; exact (mp hv).1
  case binOp op t x y u =>
    simp only [op1] at hv
    split at hv
    · exact (mp hv).1
    · exact (mp hv).1
  case assign x => simp only [kindO] at hk; split at hk <;> cases hk
  case call c =>
    obtain ⟨callee, args, ats⟩ := c
    cases callee with
    | value f =>
      simp only [op1] at hv
      split at hv
      · exact hq ⟨_, _, _, rfl⟩ hv
      · exact hq ⟨_, _, _, rfl⟩ hv
      · cases hv
    | invoke => simp [kindO] at hk
    | builtin b => cases b <;> simp [kindO] at hk
  all_goals (simp [kindO] at hk)
theorem kind0S {E : Env} {S : List Nat} {o : Oper} (hk : kindS S o = 0) {ρ : Operand → V} {h h' : Heap} {v : V} (hv : op1S E S ρ h o = some (v, h')) : h' = h ∧ ∀ h2, op1S E S ρ h2 o = some (v, h2) := by
  have hk' := hk
  have hnc : ∀ a b c, o.op ≠ .convert a b c := fun a b c e => by unfold kindS at hk'; rw [e] at hk'; cases hk'
  simp only [op1S_not hnc] at hv ⊢
  unfold kindS at hk
  split at hk
  · rename_i f a b he
    split at hk
    · rename_i hs
      have e : envS E S o = still E := by unfold envS; rw [if_pos hs]
      rw [e] at hv ⊢
      obtain ⟨dst, op, type, pos, after, guard⟩ := o
      simp only at he
      subst he
      simp only [op1] at hv ⊢
      split at hv
      · rename_i fid cap hf
        refine ⟨?_, fun h2 => ?_⟩
        · simp only [still] at hv
          split at hv
          · split at hv
            · split at hv
              · exact (Prod.mk.inj (Option.some.inj hv)).2.symm
              · cases hv
            · cases hv
          · cases hv
        simp only [still] at hv ⊢
        split at hv
        · rename_i hfl
          rw [if_pos hfl]
          split at hv
          · split at hv
            · rename_i h3
              simp only [if_pos h3]
              rw [(Prod.mk.inj (Option.some.inj hv)).1]
            · cases hv
          · cases hv
        · cases hv
      · rename_i fid cap hf
        refine ⟨?_, fun h2 => ?_⟩
        · simp only [still] at hv
          split at hv
          · split at hv
            · split at hv
              · exact (Prod.mk.inj (Option.some.inj hv)).2.symm
              · cases hv
            · cases hv
          · cases hv
        simp only [still] at hv ⊢
        split at hv
        · rename_i hfl
          rw [if_pos hfl]
          split at hv
          · split at hv
            · rename_i h3
              simp only [if_pos h3]
              rw [(Prod.mk.inj (Option.some.inj hv)).1]
            · cases hv
          · cases hv
        · cases hv
      · cases hv
    · split at hk
      · cases hk
      · split at hk <;> cases hk
  · cases hk
  · exact kind0 hk hv
theorem kind1S {E : Env} {S : List Nat} {o : Oper} (hk : kindS S o = 1) {ρ : Operand → V} {h h' : Heap} {v : V} (hv : op1S E S ρ h o = some (v, h')) : h' = h := by
  by_cases hc : ∃ a b c, o.op = .convert a b c
  · obtain ⟨a, b, c, he⟩ := hc
    unfold op1S at hv
    rw [he] at hv
    simp only at hv
    split at hv
    · rename_i v1 h1 h2
      split at hv
      · rename_i hl
        obtain ⟨rfl, rfl⟩ := Prod.mk.inj (Option.some.inj hv)
        obtain ⟨od, oo, ot, op, oa, og⟩ := o
        simp only at he
        subst he
        simp only [op1] at h2
        exact conv_heap h2 hl
      · cases hv
    · cases hv
  · have hk0 := hk
    refine kind1g (fun hcall => fun {f args h h' v} hc => ?_) ?_ (op1S_op1 hv)
    · obtain ⟨fo, a, b, he⟩ := hcall
      unfold kindS at hk0
      rw [he] at hk0
      simp only at hk0
      split at hk0
      · cases hk0
      · split at hk0
        · cases hk0
        · rename_i hg
          split at hk0
          · cases hk0
          · rename_i hl
            exact envS_heap (by simpa using hg) (by simpa using hl) hc
    unfold kindS at hk
    split at hk
    · rename_i he; rw [he]; rfl
    · rename_i he; exact absurd ⟨_, _, _, he⟩ hc
    · exact hk
theorem hget_app {h : Heap} {i : Nat} {st : Nat} {x : Bool} {c : List V} (b : List Blk) (e : hget h i = ⟨st + 1, x, c⟩) : hget (h ++ b) i = ⟨st + 1, x, c⟩ := by
  have := hget_some e (by simp)
  unfold hget
  rw [List.getD_eq_getElem?_getD, List.getElem?_append_left (List.getElem?_eq_some_iff.1 this).1, this]
  rfl
theorem cellsAt_app {E : Env} {h : Heap} {a : V} {n : Nat} {l : List V} (b : List Blk) (e : cellsAt E h a n = some l) : cellsAt E (h ++ b) a n = some l := by
  unfold cellsAt at e ⊢
  split at e
  · split at e
    · cases e
    · rename_i hb; simp only [hget_app b hb]; exact e
  · exact e
  · cases e
theorem loadV_app {E : Env} {h : Heap} {t : TypeId} {a v : V} (b : List Blk) (e : loadV E h t a = some v) : loadV E (h ++ b) t a = some v := by
  unfold loadV at e ⊢
  split at e
  · obtain ⟨l, h1, h2⟩ := Option.map_eq_some_iff.1 e
    rw [cellsAt_app b h1, Option.map_some, h2]
  · split at e
    · rename_i h1; rw [cellsAt_app b h1]; exact e
    · cases e
  · cases e
theorem grow {E : Env} {o : Oper} (hg : isGrow o.op = true) {ρ : Operand → V} {h h' : Heap} {v : V} (hv : op1 E ρ h o = some (v, h')) : ∃ b, h' = h ++ [b] := by
  obtain ⟨dst, op, type, pos, after, guard⟩ := o
  cases op <;> (try (simp [isGrow] at hg; done))
  case alloc t =>
    simp only [op1] at hv
    split at hv
    · exact ⟨_, (Prod.mk.inj (Option.some.inj hv)).2.symm⟩
    · cases hv
  case buildSlice t n ps =>
    simp only [op1, buildSliceV] at hv
    split at hv
    · split at hv
      · cases hv
      · split at hv
        · split at hv
          · exact ⟨_, (Prod.mk.inj (Option.some.inj hv)).2.symm⟩
          · cases hv
        · cases hv
    · cases hv
theorem growS {E : Env} {S : List Nat} {o : Oper} (hg : isGrowS S o = true) {ρ : Operand → V} {h h' : Heap} {v : V} (hv : op1 (envS E S o) ρ h o = some (v, h')) : ∃ bs, h' = h ++ bs := by
  unfold isGrowS at hg
  cases h0 : isGrow o.op with
  | true => obtain ⟨b, hb⟩ := grow h0 hv; exact ⟨[b], hb⟩
  | false =>
    rw [h0, Bool.false_or] at hg
    split at hg
    · rename_i f a b he
      simp only [Bool.and_eq_true, Bool.not_eq_true'] at hg
      have e : envS E S o = growE E := by unfold envS; rw [hg.1, hg.2, if_neg (by simp), if_pos rfl]
      rw [e] at hv
      obtain ⟨dst, op, type, pos, after, guard⟩ := o
      simp only at he
      subst he
      simp only [op1] at hv
      split at hv
      · exact growE_ext hv
      · exact growE_ext hv
      · cases hv
    · cases hg
theorem swapS {E : Env} {S : List Nat} {ops : Array Oper} {x y : Oper} (hi : indS S ops x y = true) {s s1 s2 : Tm × Heap} (h1 : stepS E S ops x s = some s1) (h2 : stepS E S ops y s1 = some s2) : ∃ s3, stepS E S ops y s = some s3 ∧ stepS E S ops x s3 = some s2 := by
  simp only [indS, Bool.and_eq_true, Bool.or_eq_true, beq_iff_eq] at hi
  obtain ⟨hap, hk⟩ := hi
  obtain ⟨a1, a2, a3⟩ := Oper.apart_spec hap
  obtain ⟨t, h⟩ := s
  obtain ⟨t1, g1⟩ := s1
  obtain ⟨t2, g2⟩ := s2
  simp only [stepS] at h1 h2 ⊢
  have hx : ∃ u, (t1 = put t x.dst u) ∧ ((wantV ops t x = some false ∧ u = .c (.tuple #[]) ∧ g1 = h) ∨ (wantV ops t x = some true ∧ op1S E S (ev t) h x = some (u, g1))) := by
    split at h1
    · rename_i hw
      split at h1
      · rename_i v h' hv
        obtain ⟨rfl, rfl⟩ := Prod.mk.inj (Option.some.inj h1)
        exact ⟨v, rfl, .inr ⟨hw, hv⟩⟩
      · cases h1
    · rename_i hw
      obtain ⟨rfl, rfl⟩ := Prod.mk.inj (Option.some.inj h1)
      exact ⟨.c (.tuple #[]), rfl, .inl ⟨hw, rfl, rfl⟩⟩
    · cases h1
  obtain ⟨u, rfl, hx⟩ := hx
  rw [wantV_put a1, op1S_put a1] at h2
  have hy : ∃ u', t2 = put (put t x.dst u) y.dst u' ∧ ((wantV ops t y = some false ∧ u' = .c (.tuple #[]) ∧ g2 = g1) ∨ (wantV ops t y = some true ∧ op1S E S (ev t) g1 y = some (u', g2))) := by
    split at h2
    · rename_i hw
      split at h2
      · rename_i v h' hv
        obtain ⟨rfl, rfl⟩ := Prod.mk.inj (Option.some.inj h2)
        exact ⟨v, rfl, .inr ⟨hw, hv⟩⟩
      · cases h2
    · rename_i hw
      obtain ⟨rfl, rfl⟩ := Prod.mk.inj (Option.some.inj h2)
      exact ⟨.c (.tuple #[]), rfl, .inl ⟨hw, rfl, rfl⟩⟩
    · cases h2
  obtain ⟨u', rfl, hy⟩ := hy
  rw [put_comm t u u' a2]
  have key : ∃ g3, ((wantV ops t y = some false ∧ u' = .c (.tuple #[]) ∧ g3 = h) ∨ (wantV ops t y = some true ∧ op1S E S (ev t) h y = some (u', g3))) ∧ ((wantV ops t x = some false ∧ u = .c (.tuple #[]) ∧ g2 = g3) ∨ (wantV ops t x = some true ∧ op1S E S (ev t) g3 x = some (u, g2))) := by
    rcases hx with ⟨x1, x2, rfl⟩ | ⟨x1, x2⟩ <;> rcases hy with ⟨y1, y2, rfl⟩ | ⟨y1, y2⟩
    · exact ⟨_, .inl ⟨y1, y2, rfl⟩, .inl ⟨x1, x2, rfl⟩⟩
    · exact ⟨_, .inr ⟨y1, y2⟩, .inl ⟨x1, x2, rfl⟩⟩
    · exact ⟨_, .inl ⟨y1, y2, rfl⟩, .inr ⟨x1, x2⟩⟩
    · rcases hk with ((hk | hk) | ⟨hk, hk'⟩) | ⟨hk, hk'⟩
      · obtain ⟨rfl, hall⟩ := kind0S hk x2
        exact ⟨g2, .inr ⟨y1, y2⟩, .inr ⟨x1, hall _⟩⟩
      · obtain ⟨rfl, hall⟩ := kind0S hk y2
        exact ⟨h, .inr ⟨y1, hall _⟩, .inr ⟨x1, x2⟩⟩
      · obtain rfl := kind1S hk x2
        obtain rfl := kind1S hk' y2
        exact ⟨_, .inr ⟨y1, y2⟩, .inr ⟨x1, x2⟩⟩
      · have hld : ∃ ty ad, x.op = .load ty ad := by
          cases ho : x.op <;> rw [ho] at hk <;> first | exact ⟨_, _, rfl⟩ | (simp [isLoad] at hk)
        obtain ⟨ty, ad, hld⟩ := hld
        obtain ⟨xd, xo, xt, xp, xa, xg⟩ := x
        simp only at hld
        subst hld
        have x2 := op1S_op1 x2
        simp only [op1] at x2
        obtain ⟨rfl, _⟩ := mp x2
        obtain ⟨bb, rfl⟩ := growS hk' (op1S_op1 y2)
        refine ⟨_, .inr ⟨y1, y2⟩, .inr ⟨x1, ?_⟩⟩
        obtain ⟨q, hq, he⟩ := Option.map_eq_some_iff.1 x2
        obtain ⟨rfl, _⟩ := Prod.mk.inj he
        rw [op1S_not (by simp)]
        simp only [op1, loadV_app bb hq, Option.map_some]
  obtain ⟨g3, k1, k2⟩ := key
  refine ⟨(put t y.dst u', g3), ?_, ?_⟩
  · rcases k1 with ⟨e1, rfl, rfl⟩ | ⟨e1, e2⟩
    · rw [e1]
    · rw [e1]; simp only [e2]
  · simp only [wantV_put a3, op1S_put a3]
    rcases k2 with ⟨e1, rfl, rfl⟩ | ⟨e1, e2⟩
    · rw [e1]
    · rw [e1]; simp only [e2]
theorem frontS {E : Env} {S : List Nat} {ops : Array Oper} {x : Oper} {B : List Oper} {s' : Tm × Heap} : ∀ (A : List Oper), (∀ y ∈ A, indS S ops y x = true) → ∀ {s : Tm × Heap}, opsS E S ops (A ++ x :: B) s.1 s.2 = some s' → ∃ s1, stepS E S ops x s = some s1 ∧ opsS E S ops (A ++ B) s1.1 s1.2 = some s'
  | [], _, s, h => by
    rw [List.nil_append, opsS_step] at h
    obtain ⟨s1, h1, h2⟩ := Option.bind_eq_some_iff.1 h
    exact ⟨s1, h1, h2⟩
  | y :: A, hA, s, h => by
    rw [List.cons_append, opsS_step] at h
    obtain ⟨s1, h1, h2⟩ := Option.bind_eq_some_iff.1 h
    obtain ⟨s2, h3, h4⟩ := frontS A (fun z hz => hA z (by simp [hz])) h2
    obtain ⟨s3, h5, h6⟩ := swapS (hA y (by simp)) h1 h3
    refine ⟨s3, h5, ?_⟩
    rw [List.cons_append, opsS_step]
    have e : (s3.1, s3.2) = s3 := rfl
    rw [e, h6]; exact h4
/-- may x stand ahead of y in the order that is told? -/
def mayS (S : List Nat) (ops : Array Oper) (i j : Nat) : Bool := match ops[i]?, ops[j]? with
  | some x, some y => !(x.after.toList.any fun e => Region.binds .any e && e.on == j) && (indS S ops x y || anc ops 5 j i)
  | _, _ => false
def pwS (f : Nat → Nat → Bool) : List Nat → Bool
  | [] => true
  | i :: l => l.all (f i) && pwS f l
theorem pwS_spec {f : Nat → Nat → Bool} : ∀ {l : List Nat}, pwS f l = true → l.Pairwise fun i j => f i j = true
  | [], _ => .nil
  | i :: l, h => by
    simp only [pwS, Bool.and_eq_true, List.all_eq_true] at h
    exact .cons (fun j hj => h.1 j hj) (pwS_spec h.2)
def selfS (ops : Array Oper) (i : Nat) : Bool := match ops[i]? with
  | some x => x.after.toList.all fun e => !Region.binds .any e || (!(e.on == i) && decide (e.on < ops.size))
  | none => false
def drawS (ops : Array Oper) (σ S : List Nat) : Bool := (σ.length == ops.size) && (List.range ops.size).all (fun i => σ.contains i) && σ.all (selfS ops) && pwS (fun i j => !(i == j)) σ && pwS (mayS S ops) σ
def leftS (σ : List Nat) (listed : Array Bool) : List Nat := σ.filter fun i => !listed.getD i true
theorem opersOf_app (ops : Array Oper) (A : List Nat) {i : Nat} {o : Oper} (B : List Nat) (ho : ops[i]? = some o) : opersOf ops (A ++ i :: B) = opersOf ops A ++ o :: opersOf ops B := by
  simp [opersOf, List.filterMap_append, ho]
theorem step_okS {E : Env} {S : List Nat} {w : World} {r : List (Option Loc)} {h : Heap} (hS : Sound E) {ops : Array Oper} {N : Nat} {Q : Exit → Act → World → Prop} {o : Oper} {i : Nat} (hi : ops[i]? = some o) (hok : okOper N o = true) {t : Tm} {a : Act} (ht : TR D r t a N) (hr : HR E.G r h w.heap) {s1 : Tm × Heap} (hs : stepS E S ops o (t, h) = some s1)
    {K : Act → World → Prop} (hK : ∀ r' a' w', TR D r' s1.1 a' N → HR E.G r' s1.2 w'.heap → Keep r h w r' s1.2 w' → K a' w') : wpOp E.P ops Q i K a w := by
  have hs := stepS_step hs
  unfold envS at hs
  split at hs
  · exact step_ok (E := still E) (still_sound hS) hi hok ht hr hs hK
  · split at hs
    · exact step_ok (E := growE E) (growE_sound hS) hi hok ht hr hs hK
    · split at hs
      · exact step_ok (E := E) hS hi hok ht hr hs hK
      · exact step_ok (E := quiet E) (quiet_sound hS) hi hok ht hr hs hK
theorem anyS_ok {E : Env} (hS : Sound E) {ops : Array Oper} {N : Nat} {σ S : List Nat} {Q : Exit → Act → World → Prop} (hok : ops.toList.all (okOper N) = true) (hd : drawS ops σ S = true) : ∀ (fuel : Nat) (listed : Array Bool) {r : List (Option Loc)} {t : Tm} {h : Heap} {a : Act} {w : World} {t' : Tm} {h' : Heap},
    (leftS σ listed).length = fuel → listed.size = ops.size → (∀ (i : Nat) (o : Oper), ops[i]? = some o → listed.getD i false = true → ∀ e ∈ o.after, Region.binds .any e = true → listed.getD e.on false = true) → TR D r t a N → HR E.G r h w.heap →
    opsS E S ops (opersOf ops (leftS σ listed)) t h = some (t', h') → (∀ r' a' w', TR D r' t' a' N → HR E.G r' h' w'.heap → Keep r h w r' h' w' → Q .normal a' w') → wpAny E.P .any ops Q fuel listed a w := by
  have hd2 := hd
  simp only [drawS, Bool.and_eq_true, List.all_eq_true] at hd2
  obtain ⟨⟨⟨⟨_, q1⟩, q2⟩, q3⟩, q4⟩ := hd2
  have hall : ∀ i, i < ops.size → i ∈ σ := fun i hi => by have := q1 i (by simpa using hi); simpa using this
  have hself : ∀ i ∈ σ, ∃ o, ops[i]? = some o ∧ ∀ e ∈ o.after, Region.binds .any e = true → e.on ≠ i ∧ e.on < ops.size := by
    intro i hi
    have h1 := q2 i hi
    unfold selfS at h1
    split at h1
    · rename_i o ho
      refine ⟨o, ho, fun e he hb => ?_⟩
      have := List.all_eq_true.1 h1 e (by simpa using he)
      simp only [hb, Bool.not_true, Bool.false_or, Bool.and_eq_true, Bool.not_eq_true', beq_eq_false_iff_ne, decide_eq_true_eq] at this
      exact this
    · cases h1
  have hne := pwS_spec q3
  have hpw := pwS_spec q4
  intro fuel
  induction fuel with
  | zero =>
    intro listed r t h a w t' h' hlen hsz hcl ht hr ho hQ
    have hnil : leftS σ listed = [] := List.eq_nil_of_length_eq_zero hlen
    rw [hnil] at ho
    obtain ⟨rfl, rfl⟩ := Prod.mk.inj (Option.some.inj ho)
    refine ⟨?_, hQ r a w ht hr (Keep.refl _ _ _)⟩
    refine List.eq_nil_iff_forall_not_mem.2 fun i hi => ?_
    have h1 := (mem_ready.1 hi).1
    obtain ⟨o, ho', _⟩ := (mem_ready.1 hi).2
    have : i ∈ leftS σ listed := List.mem_filter.2 ⟨hall i (Array.getElem?_eq_some_iff.1 ho').1, by rw [h1]; rfl⟩
    rw [hnil] at this; cases this
  | succ fuel ih =>
    intro listed r t h a w t' h' hlen hsz hcl ht hr ho hQ
    have hun : ∀ k, k < ops.size → listed.getD k false = false → k ∈ leftS σ listed := fun k hk hl => List.mem_filter.2 ⟨hall k hk, by
      rw [Array.getD_eq_getD_getElem?, Array.getElem?_eq_getElem (by omega)] at hl ⊢
      simpa using hl⟩
    refine ⟨fun hready => ?_, fun i hi => ?_⟩
    · exfalso
      cases hl : leftS σ listed with
      | nil => rw [hl] at hlen; simp at hlen
      | cons i rest =>
        have hmem : i ∈ leftS σ listed := by rw [hl]; simp
        obtain ⟨hm1, hm2⟩ := List.mem_filter.1 hmem
        obtain ⟨o, hoi, hse⟩ := hself i hm1
        have hp : (leftS σ listed).Pairwise fun i j => mayS S ops i j = true := hpw.filter _
        rw [hl] at hp
        have : i ∈ Region.ready .any ops listed := mem_ready.2 ⟨by simpa using hm2, o, hoi, fun e he hb => by
          obtain ⟨n1, n2⟩ := hse e he hb
          cases hq : listed.getD e.on false with
          | true => rfl
          | false =>
            have h1 := hun e.on n2 hq
            rw [hl] at h1
            rcases List.mem_cons.1 h1 with h1 | h1
            · exact absurd h1 n1
            · have h2 := (List.pairwise_cons.1 hp).1 e.on h1
              unfold mayS at h2
              rw [hoi] at h2
              split at h2
              · rename_i x y hx hy
                obtain rfl := Option.some.inj hx
                simp only [Bool.and_eq_true, Bool.not_eq_true'] at h2
                have h3 := List.any_eq_false.1 h2.1 e (by simpa using he)
                simp [hb] at h3
              · cases h2⟩
        rw [hready] at this; cases this
    · obtain ⟨hunl, o, hoi, hafter⟩ := mem_ready.1 hi
      have hin : i < ops.size := (Array.getElem?_eq_some_iff.1 hoi).1
      have hmem : i ∈ leftS σ listed := List.mem_filter.2 ⟨hall i hin, by simp [hunl]⟩
      have hokO : okOper N o = true := List.all_eq_true.1 hok o (by rw [Array.mem_toList_iff]; exact Array.mem_of_getElem? hoi)
      obtain ⟨A, B, hAB⟩ := List.append_of_mem hmem
      have hp : (leftS σ listed).Pairwise fun i j => mayS S ops i j = true := hpw.filter _
      have hn : (leftS σ listed).Pairwise fun i j => (!(i == j)) = true := hne.filter _
      rw [hAB] at hp hn ho
      rw [opersOf_app ops A B hoi] at ho
      obtain ⟨s1, hs1, ho1⟩ := frontS (E := E) (S := S) (x := o) (s := (t, h)) _ (fun y hy => by
        obtain ⟨k, hk, hky⟩ := List.mem_filterMap.1 hy
        have h1 := (List.pairwise_append.1 hp).2.2 k hk i (by simp)
        unfold mayS at h1
        rw [hoi, hky] at h1
        simp only [Bool.and_eq_true, Bool.or_eq_true] at h1
        rcases h1.2 with h1 | h1
        · exact h1
        · exfalso
          have h2 := anc_listed hcl 5 i k h1 (fun o' ho' => by rw [hoi] at ho'; obtain rfl := Option.some.inj ho'; exact hafter)
          have hkl : k ∈ leftS σ listed := by rw [hAB]; simp [hk]
          have h3 := (List.mem_filter.1 hkl).2
          have hlt : k < listed.size := by have := (Array.getElem?_eq_some_iff.1 hky).1; omega
          rw [Array.getD_eq_getD_getElem?, Array.getElem?_eq_getElem hlt] at h2 h3
          simp at h2 h3
          rw [h2] at h3; cases h3) ho
      refine step_okS hS hoi hokO ht hr hs1 fun r1 a1 w1 b1 b2 b3 => ?_
      have hleft : leftS σ (listed.setIfInBounds i true) = A ++ B := by
        have hli : i < listed.size := by omega
        have hpt : ∀ k, (!(listed.setIfInBounds i true).getD k true) = (!listed.getD k true && decide (k ≠ i)) := fun k => by
          by_cases hk : i = k
          · subst hk; simp [hli]
          · rw [getD_set_ne true hk]; simp [Ne.symm hk]
        have e : leftS σ (listed.setIfInBounds i true) = (leftS σ listed).filter fun k => decide (k ≠ i) := by
          unfold leftS
          rw [show (fun k => !(listed.setIfInBounds i true).getD k true) = (fun k => !listed.getD k true && decide (k ≠ i)) from funext hpt, List.filter_filter]
          congr 1; funext k; rw [Bool.and_comm]
        rw [e, hAB, List.filter_append, List.filter_cons, if_neg (by simp)]
        congr 1
        · rw [List.filter_eq_self]; intro k hk
          have := (List.pairwise_append.1 hn).2.2 k hk i (by simp)
          simpa using this
        · rw [List.filter_eq_self]; intro k hk
          have := (List.pairwise_cons.1 (List.pairwise_append.1 hn).2.1).1 k hk
          simp at this ⊢
          exact fun e => this e.symm
      refine ih (listed.setIfInBounds i true) ?_ (by simpa using hsz) ?_ b1 b2 (by rw [hleft]; simpa [opersOf, List.filterMap_append] using ho1) fun r' a' w' c1 c2 c3 => hQ r' a' w' c1 c2 (b3.trans c3)
      · rw [hleft]; rw [hAB] at hlen; simp at hlen ⊢; omega
      · intro k ok hk hlk e he hb
        by_cases hki : i = k
        · subst hki
          rw [hoi] at hk; obtain rfl := Option.some.inj hk
          exact getD_set_true (hafter e he hb)
        · rw [getD_set_ne false hki] at hlk
          exact getD_set_true (hcl k ok hk hlk e he hb)
def pick (ops : Array Oper) (σ : List Nat) : List Oper := σ.filterMap fun i => ops[i]?
theorem region_S_ok {E : Env} {w : World} {r : List (Option Loc)} {h : Heap} (hm : E.P.follows .mixedOrders = true) (hS : Sound E) {ops : Array Oper} {N id : Nat} {σ S : List Nat} {Q : Exit → Act → World → Prop} {t : Tm} {a : Act} {t' : Tm} {h' : Heap} (hok : ops.toList.all (okOper N) = true) (hd : drawS ops σ S = true) (ht : TR D r t a N) (hr : HR E.G r h w.heap)
    (ho : opsS E S ops (pick ops σ) t h = some (t', h')) (hQ : ∀ r' a' w', TR D r' t' a' N → HR E.G r' h' w'.heap → Keep r h w r' h' w' → Q .normal a' w') : (Code.region id ops true).wp E.P Q a w := by
  refine wp_region_any hm ?_
  have hl : leftS σ (Array.replicate ops.size false) = σ := by
    unfold leftS
    rw [List.filter_eq_self]
    intro i hi
    simp only [drawS, Bool.and_eq_true, List.all_eq_true] at hd
    have h1 := hd.1.1.2 i hi
    unfold selfS at h1
    split at h1
    · rename_i o ho'
      have : i < ops.size := (Array.getElem?_eq_some_iff.1 ho').1
      simp [this]
    · cases h1
  have hr' : HR E.G r h ({ w with drawn := w.drawn + 1 } : World).heap := hr
  have hsz : σ.length = ops.size := by simp only [drawS, Bool.and_eq_true] at hd; simpa using hd.1.1.1.1
  refine anyS_ok hS hok hd ops.size _ (by rw [hl]; exact hsz) (by simp) ?_ ht hr' (by rw [hl]; exact ho) fun r' a' w' b1 b2 b3 => hQ r' a' w' b1 b2 ⟨b3.pre, b3.size, b3.os, b3.tape, b3.output, b3.block, b3.own⟩
  intro i o hi hl
  have : i < ops.size := (Array.getElem?_eq_some_iff.1 hi).1
  simp [this] at hl
/-- several orders of one's own: what each leaves must be alike once what is new and not assigned is blotted out -/
def isAsg : Op → Bool | .assign _ => true | _ => false
def fadeT (t t' : Tm) : List Oper → Tm
  | [] => t
  | o :: os => match o.dst with
    | some d => set (fadeT t t' os) d (if isAsg o.op = true then get t' d else .junk)
    | none => fadeT t t' os
def fadeH (h h' : Heap) : Heap := h'.take h.length ++ List.replicate (h'.length - h.length) dead
def befB : List Nat → Nat → Nat → Bool
  | [], _, _ => false
  | k :: l, i, j => if k = i then l.contains j else befB l i j
def topS (ops : Array Oper) (i j : Nat) : Bool := match ops[i]? with
  | some x => !(x.after.toList.any fun e => Region.binds .any e && e.on == j)
  | none => false
def linS (ops : Array Oper) (σ : List Nat) : Bool := (σ.length == ops.size) && (List.range ops.size).all (fun i => σ.contains i) && σ.all (selfS ops) && pwS (fun i j => !(i == j)) σ && pwS (topS ops) σ
def covM (ops : Array Oper) (S : List Nat) : Nat → List Nat → List (List Nat) → Bool
  | 0, W, L => W.isEmpty && !L.isEmpty
  | f + 1, W, L => !L.isEmpty && W.all fun i => (W.any fun k => anc ops 5 i k) || covM ops S f (W.filter fun k => !(k == i)) (L.filter fun σ => W.all fun k => k == i || !befB σ k i || mayS S ops k i)
def hardM (ops : Array Oper) (S : List Nat) (L : List (List Nat)) : List Nat := (List.range ops.size).filter fun i => L.any fun σ => (List.range ops.size).any fun j => (befB σ i j && !mayS S ops i j) || (befB σ j i && !mayS S ops j i)
def drawM (ops : Array Oper) (L : List (List Nat)) (S : List Nat) : Bool := L.all (fun σ => linS ops σ && pwS (fun i j => mayS S ops i j || ((hardM ops S L).contains i && (hardM ops S L).contains j)) σ) && covM ops S (hardM ops S L).length (hardM ops S L) L && (hardM ops S L).all fun i => decide (i < ops.size)
theorem pw_filter {f : Nat → Nat → Prop} {σ : List Nat} {listed : Array Bool} (h : σ.Pairwise f) : (leftS σ listed).Pairwise f := h.filter _
theorem befB_pw : ∀ {σ : List Nat}, σ.Pairwise (fun i j => (!(i == j)) = true) → σ.Pairwise fun i j => befB σ i j = true
  | [], _ => .nil
  | k :: l, h => by
    obtain ⟨h1, h2⟩ := List.pairwise_cons.1 h
    refine .cons (fun j hj => ?_) ?_
    · unfold befB
      rw [if_pos rfl, List.contains_eq_mem]
      exact decide_eq_true hj
    · refine (befB_pw h2).imp_of_mem fun {a b} ha _ hab => ?_
      unfold befB
      have := h1 a ha
      simp at this
      rw [if_neg this]; exact hab
/-- one step of a drawn order, moved to the front of an order of one's own -/
theorem befB_ne : ∀ {σ : List Nat} {i j : Nat}, σ.Pairwise (fun i j => (!(i == j)) = true) → befB σ i j = true → ¬ i = j
  | k :: l, i, j, h, hb => by
    obtain ⟨h1, h2⟩ := List.pairwise_cons.1 h
    unfold befB at hb
    split at hb
    · rename_i hk
      subst hk
      rw [List.contains_eq_mem] at hb
      have := h1 j (of_decide_eq_true hb)
      simpa using this
    · exact befB_ne h2 hb
theorem pairB {f : Nat → Nat → Bool} {W : List Nat} : ∀ {σ : List Nat} {i j : Nat}, σ.Pairwise (fun i j => (f i j || (W.contains i && W.contains j)) = true) → σ.Pairwise (fun i j => (!(i == j)) = true) → befB σ i j = true → f i j = true ∨ (i ∈ W ∧ j ∈ W)
  | k :: l, i, j, hp, hn, hb => by
    obtain ⟨p1, p2⟩ := List.pairwise_cons.1 hp
    obtain ⟨n1, n2⟩ := List.pairwise_cons.1 hn
    unfold befB at hb
    split at hb
    · rename_i hk
      subst hk
      rw [List.contains_eq_mem] at hb
      have := p1 j (of_decide_eq_true hb)
      simpa using this
    · exact pairB p2 n2 hb
theorem moveS {E : Env} {S : List Nat} {ops : Array Oper} {σ : List Nat} (hl : linS ops σ = true) {listed : Array Bool} (hsz : listed.size = ops.size) {i : Nat} (hi : i ∈ Region.ready .any ops listed) {o : Oper} (hoi : ops[i]? = some o)
    (hcl : ∀ (i : Nat) (o : Oper), ops[i]? = some o → listed.getD i false = true → ∀ e ∈ o.after, Region.binds .any e = true → listed.getD e.on false = true)
    (hmay : ∀ k ∈ leftS σ listed, befB σ k i = true → mayS S ops k i = true) {t : Tm} {h : Heap} {s : Tm × Heap} (ho : opsS E S ops (opersOf ops (leftS σ listed)) t h = some s) :
    ∃ s1, stepS E S ops o (t, h) = some s1 ∧ opsS E S ops (opersOf ops (leftS σ (listed.setIfInBounds i true))) s1.1 s1.2 = some s ∧ (leftS σ listed).length = (leftS σ (listed.setIfInBounds i true)).length + 1 := by
  simp only [linS, Bool.and_eq_true, List.all_eq_true] at hl
  obtain ⟨⟨⟨⟨_, q1⟩, q2⟩, q3⟩, _⟩ := hl
  have hall : ∀ i, i < ops.size → i ∈ σ := fun i hi => by have := q1 i (by simpa using hi); simpa using this
  have hne := pwS_spec q3
  have hbf := befB_pw hne
  obtain ⟨hunl, o', hoi', hafter⟩ := mem_ready.1 hi
  rw [hoi] at hoi'
  obtain rfl := Option.some.inj hoi'
  have hin : i < ops.size := (Array.getElem?_eq_some_iff.1 hoi).1
  have hmem : i ∈ leftS σ listed := List.mem_filter.2 ⟨hall i hin, by simp [hunl]⟩
  obtain ⟨A, B, hAB⟩ := List.append_of_mem hmem
  have hb : (leftS σ listed).Pairwise fun i j => befB σ i j = true := hbf.filter _
  have hn : (leftS σ listed).Pairwise fun i j => (!(i == j)) = true := hne.filter _
  rw [hAB] at hb hn
  rw [hAB, opersOf_app ops A B hoi] at ho
  obtain ⟨s1, hs1, ho1⟩ := frontS (E := E) (S := S) (x := o) (s := (t, h)) _ (fun y hy => by
    obtain ⟨k, hk, hky⟩ := List.mem_filterMap.1 hy
    have hkl : k ∈ leftS σ listed := by rw [hAB]; simp [hk]
    have h1 := hmay k hkl ((List.pairwise_append.1 hb).2.2 k hk i (by simp))
    unfold mayS at h1
    rw [hoi, hky] at h1
    simp only [Bool.and_eq_true, Bool.or_eq_true] at h1
    rcases h1.2 with h1 | h1
    · exact h1
    · exfalso
      have h2 := anc_listed hcl 5 i k h1 (fun o' ho' => by rw [hoi] at ho'; obtain rfl := Option.some.inj ho'; exact hafter)
      have h3 := (List.mem_filter.1 hkl).2
      have hlt : k < listed.size := by have := (Array.getElem?_eq_some_iff.1 hky).1; omega
      rw [Array.getD_eq_getD_getElem?, Array.getElem?_eq_getElem hlt] at h2 h3
      simp at h2 h3
      rw [h2] at h3; cases h3) ho
  have hleft : leftS σ (listed.setIfInBounds i true) = A ++ B := by
    have hli : i < listed.size := by omega
    have hpt : ∀ k, (!(listed.setIfInBounds i true).getD k true) = (!listed.getD k true && decide (k ≠ i)) := fun k => by
      by_cases hk : i = k
      · subst hk; simp [hli]
      · rw [getD_set_ne true hk]; simp [Ne.symm hk]
    have e : leftS σ (listed.setIfInBounds i true) = (leftS σ listed).filter fun k => decide (k ≠ i) := by
      unfold leftS
      rw [show (fun k => !(listed.setIfInBounds i true).getD k true) = (fun k => !listed.getD k true && decide (k ≠ i)) from funext hpt, List.filter_filter]
      congr 1; funext k; rw [Bool.and_comm]
    rw [e, hAB, List.filter_append, List.filter_cons, if_neg (by simp)]
    congr 1
    · rw [List.filter_eq_self]; intro k hk
      have := (List.pairwise_append.1 hn).2.2 k hk i (by simp)
      simpa using this
    · rw [List.filter_eq_self]; intro k hk
      have := (List.pairwise_cons.1 (List.pairwise_append.1 hn).2.1).1 k hk
      simp at this ⊢
      exact fun e => this e.symm
  refine ⟨s1, hs1, ?_, ?_⟩
  · rw [hleft]; simpa [opersOf, List.filterMap_append] using ho1
  · rw [hleft, hAB]; simp; omega
theorem anyM_ok {E : Env} (hS : Sound E) {ops : Array Oper} {N : Nat} {S W : List Nat} {Q : Exit → Act → World → Prop} {Fin : Tm × Heap → Prop} (hok : ops.toList.all (okOper N) = true) (hWs : ∀ k ∈ W, k < ops.size) : ∀ (fuel f : Nat) (Wl : List Nat) (L : List (List Nat)) (listed : Array Bool) {r : List (Option Loc)} {t : Tm} {h : Heap} {a : Act} {w : World},
    (∀ σ ∈ L, linS ops σ = true ∧ pwS (fun i j => mayS S ops i j || (W.contains i && W.contains j)) σ = true) → covM ops S f Wl L = true → (∀ i ∈ Wl, listed.getD i false = false) → (∀ i ∈ W, listed.getD i false = false → i ∈ Wl) → (∀ i ∈ Wl, i ∈ W) →
    (∀ σ ∈ L, (leftS σ listed).length = fuel) → listed.size = ops.size → (∀ (i : Nat) (o : Oper), ops[i]? = some o → listed.getD i false = true → ∀ e ∈ o.after, Region.binds .any e = true → listed.getD e.on false = true) → TR D r t a N → HR E.G r h w.heap →
    (∀ σ ∈ L, ∃ s, opsS E S ops (opersOf ops (leftS σ listed)) t h = some s ∧ Fin s) → (∀ s r' a' w', Fin s → TR D r' s.1 a' N → HR E.G r' s.2 w'.heap → Keep r h w r' s.2 w' → Q .normal a' w') → wpAny E.P .any ops Q fuel listed a w := by
  intro fuel
  induction fuel with
  | zero =>
    intro f Wl L listed r t h a w hL hcov hWl hW hWW hlen hsz hcl ht hr ho hQ
    obtain ⟨σ, hσ⟩ : ∃ σ, σ ∈ L := by
      have : L ≠ [] := by
        cases f <;> simp only [covM, Bool.and_eq_true, Bool.not_eq_true'] at hcov
        · intro e; rw [e] at hcov; simp at hcov
        · intro e; rw [e] at hcov; simp at hcov
      exact List.exists_mem_of_ne_nil _ this
    have hl := (hL σ hσ).1
    simp only [linS, Bool.and_eq_true, List.all_eq_true] at hl
    have hall : ∀ i, i < ops.size → i ∈ σ := fun i hi => by have := hl.1.1.1.2 i (by simpa using hi); simpa using this
    have hnil : leftS σ listed = [] := List.eq_nil_of_length_eq_zero (hlen σ hσ)
    obtain ⟨s, hs, hF⟩ := ho σ hσ
    rw [hnil] at hs
    obtain rfl := Option.some.inj hs
    refine ⟨?_, hQ _ r a w hF ht hr (Keep.refl _ _ _)⟩
    refine List.eq_nil_iff_forall_not_mem.2 fun i hi => ?_
    have h1 := (mem_ready.1 hi).1
    obtain ⟨o, ho', _⟩ := (mem_ready.1 hi).2
    have : i ∈ leftS σ listed := List.mem_filter.2 ⟨hall i (Array.getElem?_eq_some_iff.1 ho').1, by rw [h1]; rfl⟩
    rw [hnil] at this; cases this
  | succ fuel ih =>
    intro f Wl L listed r t h a w hL hcov hWl hW hWW hlen hsz hcl ht hr ho hQ
    refine ⟨fun hready => ?_, fun i hi => ?_⟩
    · exfalso
      obtain ⟨σ, hσ⟩ : ∃ σ, σ ∈ L := by
        have : L ≠ [] := by
          cases f <;> simp only [covM, Bool.and_eq_true, Bool.not_eq_true'] at hcov
          · intro e; rw [e] at hcov; simp at hcov
          · intro e; rw [e] at hcov; simp at hcov
        exact List.exists_mem_of_ne_nil _ this
      have hl := (hL σ hσ).1
      simp only [linS, Bool.and_eq_true, List.all_eq_true] at hl
      obtain ⟨⟨⟨⟨_, q1⟩, q2⟩, q3⟩, q4⟩ := hl
      have hall : ∀ i, i < ops.size → i ∈ σ := fun i hi => by have := q1 i (by simpa using hi); simpa using this
      have hun : ∀ k, k < ops.size → listed.getD k false = false → k ∈ leftS σ listed := fun k hk hl => List.mem_filter.2 ⟨hall k hk, by
        rw [Array.getD_eq_getD_getElem?, Array.getElem?_eq_getElem (by omega)] at hl ⊢
        simpa using hl⟩
      have hlen1 := hlen σ hσ
      have hp : (leftS σ listed).Pairwise fun i j => topS ops i j = true := (pwS_spec q4).filter _
      cases hl : leftS σ listed with
      | nil => rw [hl] at hlen1; simp at hlen1
      | cons i rest =>
        have hmem : i ∈ leftS σ listed := by rw [hl]; simp
        obtain ⟨hm1, hm2⟩ := List.mem_filter.1 hmem
        have h1 := q2 i hm1
        unfold selfS at h1
        split at h1
        · rename_i o hoi
          rw [hl] at hp
          have : i ∈ Region.ready .any ops listed := mem_ready.2 ⟨by simpa using hm2, o, hoi, fun e he hb => by
            have h3 := List.all_eq_true.1 h1 e (by simpa using he)
            simp only [hb, Bool.not_true, Bool.false_or, Bool.and_eq_true, Bool.not_eq_true', beq_eq_false_iff_ne, decide_eq_true_eq] at h3
            cases hq : listed.getD e.on false with
            | true => rfl
            | false =>
              have h4 := hun e.on h3.2 hq
              rw [hl] at h4
              rcases List.mem_cons.1 h4 with h4 | h4
              · exact absurd h4 h3.1
              · have h2 := (List.pairwise_cons.1 hp).1 e.on h4
                unfold topS at h2
                rw [hoi] at h2
                simp only [Bool.not_eq_true'] at h2
                have h5 := List.any_eq_false.1 h2 e (by simpa using he)
                simp [hb] at h5⟩
          rw [hready] at this; cases this
        · cases h1
    · obtain ⟨hunl, o, hoi, hafter⟩ := mem_ready.1 hi
      have hin : i < ops.size := (Array.getElem?_eq_some_iff.1 hoi).1
      have hokO : okOper N o = true := List.all_eq_true.1 hok o (by rw [Array.mem_toList_iff]; exact Array.mem_of_getElem? hoi)
      have huni : ∀ k, k < ops.size → listed.getD k true = listed.getD k false := fun k hk => by
        rw [Array.getD_eq_getD_getElem?, Array.getD_eq_getD_getElem?, Array.getElem?_eq_getElem (by omega)]; rfl
      have hunf : listed.getD i false = false := by rw [← huni i hin]; exact hunl
      -- the orders that stay, and what is left of the hard ones
      obtain ⟨f', Wl', L', hL', hcov', hWl', hW', hmv⟩ : ∃ (f' : Nat) (Wl' : List Nat) (L' : List (List Nat)), (∀ σ ∈ L', σ ∈ L) ∧ covM ops S f' Wl' L' = true ∧ (∀ k ∈ Wl', k ∈ Wl ∧ k ≠ i) ∧ (∀ k ∈ W, k ≠ i → listed.getD k false = false → k ∈ Wl') ∧ (∀ σ ∈ L', ∀ k ∈ leftS σ listed, befB σ k i = true → mayS S ops k i = true) := by
        by_cases hiW : i ∈ W
        · have hiWl := hW i hiW hunf
          cases f with
          | zero =>
            simp only [covM, Bool.and_eq_true, List.isEmpty_iff] at hcov
            rw [hcov.1] at hiWl; cases hiWl
          | succ f =>
            simp only [covM, Bool.and_eq_true, List.all_eq_true] at hcov
            have h1 := hcov.2 i hiWl
            rcases Bool.or_eq_true _ _ ▸ h1 with h1 | h1
            · exfalso
              obtain ⟨k, hk, hk2⟩ := List.any_eq_true.1 h1
              have h2 := anc_listed hcl 5 i k hk2 (fun o' ho' => by rw [hoi] at ho'; obtain rfl := Option.some.inj ho'; exact hafter)
              rw [hWl k hk] at h2; cases h2
            · refine ⟨f, _, _, fun σ hσ => (List.mem_filter.1 hσ).1, h1, fun k hk => ?_, fun k hk hki hkl => ?_, fun σ hσ k hk hb => ?_⟩
              · have := List.mem_filter.1 hk; exact ⟨this.1, by simpa using this.2⟩
              · exact List.mem_filter.2 ⟨hW k hk hkl, by simpa using hki⟩
              · obtain ⟨hσ1, hσ2⟩ := List.mem_filter.1 hσ
                obtain ⟨hk1, hk2⟩ := List.mem_filter.1 hk
                have hσ2 := List.all_eq_true.1 hσ2
                obtain ⟨hl, hpq⟩ := hL σ hσ1
                simp only [linS, Bool.and_eq_true, List.all_eq_true] at hl
                have hne := pwS_spec hl.1.2
                rcases pairB (pwS_spec hpq) hne hb with h3 | h3
                · exact h3
                · have hks : k < ops.size := hWs k h3.1
                  have hku : listed.getD k false = false := by rw [← huni k hks]; simpa using hk2
                  have h4 := hσ2 k (hW k h3.1 hku)
                  simp only [Bool.or_eq_true, beq_iff_eq, Bool.not_eq_true'] at h4
                  rcases h4 with (h4 | h4) | h4
                  · exact absurd h4 (befB_ne hne hb)
                  · rw [hb] at h4; cases h4
                  · exact h4
        · refine ⟨f, Wl, L, fun σ hσ => hσ, hcov, fun k hk => ⟨hk, fun e => ?_⟩, fun k hk _ hkl => hW k hk hkl, fun σ hσ k hk hb => ?_⟩
          · exact hiW (hWW i (e ▸ hk))
          · obtain ⟨hl, hpq⟩ := hL σ hσ
            simp only [linS, Bool.and_eq_true, List.all_eq_true] at hl
            rcases pairB (pwS_spec hpq) (pwS_spec hl.1.2) hb with h3 | h3
            · exact h3
            · exact absurd h3.2 hiW
      have hL'ne : ∃ σ, σ ∈ L' := by
        have : L' ≠ [] := by
          cases f' <;> simp only [covM, Bool.and_eq_true, Bool.not_eq_true'] at hcov'
          · intro e; rw [e] at hcov'; simp at hcov'
          · intro e; rw [e] at hcov'; simp at hcov'
        exact List.exists_mem_of_ne_nil _ this
      obtain ⟨σ0, hσ0⟩ := hL'ne
      obtain ⟨s0, hs0, _⟩ := ho σ0 (hL' σ0 hσ0)
      obtain ⟨s1, hs1, _, _⟩ := moveS (hL σ0 (hL' σ0 hσ0)).1 hsz hi hoi hcl (hmv σ0 hσ0) hs0
      refine step_okS hS hoi hokO ht hr hs1 fun r1 a1 w1 b1 b2 b3 => ?_
      have hset : ∀ k, k ≠ i → (listed.setIfInBounds i true).getD k false = listed.getD k false := fun k hk => getD_set_ne false (Ne.symm hk)
      refine ih f' Wl' L' (listed.setIfInBounds i true) (fun σ hσ => hL σ (hL' σ hσ)) hcov' (fun k hk => ?_) (fun k hk hkl => ?_) (fun k hk => hWW k (hWl' k hk).1) (fun σ hσ => ?_) (by simpa using hsz) ?_ b1 b2 (fun σ hσ => ?_) fun s r' a' w' hF c1 c2 c3 => hQ s r' a' w' hF c1 c2 (b3.trans c3)
      · rw [hset k (hWl' k hk).2]; exact hWl k (hWl' k hk).1
      · by_cases hki : k = i
        · subst hki
          rw [Array.getD_eq_getD_getElem?, Array.getElem?_setIfInBounds_self_of_lt (by omega)] at hkl; cases hkl
        · rw [hset k hki] at hkl; exact hW' k hk hki hkl
      · obtain ⟨s, hs, _⟩ := ho σ (hL' σ hσ)
        obtain ⟨_, _, _, e⟩ := moveS (hL σ (hL' σ hσ)).1 hsz hi hoi hcl (hmv σ hσ) hs
        have := hlen σ (hL' σ hσ)
        omega
      · intro k ok hk hlk e he hb
        by_cases hki : i = k
        · subst hki
          rw [hoi] at hk; obtain rfl := Option.some.inj hk
          exact getD_set_true (hafter e he hb)
        · rw [getD_set_ne false hki] at hlk
          exact getD_set_true (hcl k ok hk hlk e he hb)
      · obtain ⟨s, hs, hF⟩ := ho σ (hL' σ hσ)
        obtain ⟨s2, hs2, hs3, _⟩ := moveS (hL σ (hL' σ hσ)).1 hsz hi hoi hcl (hmv σ hσ) hs
        rw [hs1] at hs2
        obtain rfl := Option.some.inj hs2
        exact ⟨s, hs3, hF⟩
theorem opsS_other {E : Env} {S : List Nat} {ops : Array Oper} {j : Nat} : ∀ {os : List Oper} {t t' : Tm} {h h' : Heap}, opsS E S ops os t h = some (t', h') → (∀ o ∈ os, o.dst ≠ some j) → get t' j = get t j
  | [], t, t', h, h', he, _ => by
    obtain ⟨rfl, rfl⟩ := Prod.mk.inj (Option.some.inj he); rfl
  | o :: os, t, t', h, h', he, hn => by
    have hp : ∀ v, get (put t o.dst v) j = get t j := fun v => by
      have := hn o (by simp)
      unfold put
      split
      · rename_i d hd
        rw [get_set, if_neg fun e => this (by rw [hd, e])]
      · rfl
    simp only [opsS] at he
    split at he
    · split at he
      · rw [opsS_other he fun o ho => hn o (by simp [ho]), hp]
      · cases he
    · rw [opsS_other he fun o ho => hn o (by simp [ho]), hp]
    · cases he
theorem fadeT_get (t t' : Tm) (j : Nat) : ∀ (os : List Oper), (get (fadeT t t' os) j = get t' j ∨ get (fadeT t t' os) j = .junk) ∨ (get (fadeT t t' os) j = get t j ∧ ∀ o ∈ os, o.dst ≠ some j)
  | [] => .inr ⟨rfl, fun o h => by cases h⟩
  | o :: os => by
    have ih := fadeT_get t t' j os
    unfold fadeT
    split
    · rename_i d hd
      rw [get_set]
      by_cases e : d = j
      · subst e
        rw [if_pos rfl]
        split
        · exact .inl (.inl rfl)
        · exact .inl (.inr rfl)
      · rw [if_neg e]
        rcases ih with ih | ⟨i1, i2⟩
        · exact .inl ih
        · refine .inr ⟨i1, fun o' ho' => ?_⟩
          rcases List.mem_cons.1 ho' with rfl | ho'
          · rw [hd]; exact fun q => e (Option.some.inj q)
          · exact i2 o' ho'
    · rename_i hd
      rcases ih with ih | ⟨i1, i2⟩
      · exact .inl ih
      · refine .inr ⟨i1, fun o' ho' => ?_⟩
        rcases List.mem_cons.1 ho' with rfl | ho'
        · rw [hd]; exact fun q => by cases q
        · exact i2 o' ho'
theorem fadeH_get {h h' : Heap} {i : Nat} {b : Blk} (hb : (fadeH h h')[i]? = some b) : (h'[i]? = some b ∧ i < h.length) ∨ b = dead := by
  unfold fadeH at hb
  rcases Nat.lt_or_ge i (h'.take h.length).length with hi | hi
  · rw [List.getElem?_append_left hi] at hb
    simp at hi
    rw [List.getElem?_take_of_lt (by omega)] at hb
    exact .inl ⟨hb, by omega⟩
  · rw [List.getElem?_append_right hi, List.getElem?_replicate] at hb
    split at hb
    · exact .inr (Option.some.inj hb).symm
    · cases hb
theorem fadeH_len {h h' : Heap} : (fadeH h h').length = h'.length ∨ h'.length < h.length := by
  unfold fadeH
  simp
  omega
theorem HR.fade {G : Nat → List V} {r : List (Option Loc)} {h h' : Heap} {H : Array Obj} (hl : h.length ≤ h'.length) (hr : HR G r h' H) : HR G r (fadeH h h') H where
  len := by
    have := @fadeH_len h h'
    rw [hr.len]; omega
  blk i b y h1 h2 := by
    rcases fadeH_get h1 with ⟨h3, _⟩ | rfl
    · exact hr.blk i b y h3 h2
    · cases y with
      | none => exact .inr rfl
      | some L => exact .inl rfl
  st i b h1 := by
    rcases fadeH_get h1 with ⟨h3, _⟩ | rfl
    · exact hr.st i b h3
    · exact Nat.zero_le 2
  uniq i j b b' L L' h1 h2 h3 h4 := by
    rcases fadeH_get h1 with ⟨k1, _⟩ | rfl
    · rcases fadeH_get h2 with ⟨k2, _⟩ | rfl
      · exact hr.uniq i j b b' L L' k1 k2 h3 h4
      · exact absurd h4 live_dead
    · exact absurd h3 own_dead
  glob := hr.glob
  globn g hg i b L h1 h2 h3 := by
    rcases fadeH_get h1 with ⟨k1, _⟩ | rfl
    · exact hr.globn g hg i b L k1 h2 h3
    · exact absurd h2 own_dead
  maps i b y h1 h2 h3 h4 := by
    rcases fadeH_get h1 with ⟨k1, _⟩ | rfl
    · exact hr.maps i b y k1 h2 h3 h4
    · cases h3
def multiS (E : Env) (S : List Nat) (ops : Array Oper) (t : Tm) (h : Heap) (σ : List Nat) : Option (Tm × Heap) := match opsS E S ops (pick ops σ) t h with
  | some (t', h') => if h.length ≤ h'.length then some (fadeT t t' ops.toList, fadeH h h') else none
  | none => none
def allS (E : Env) (S : List Nat) (ops : Array Oper) (t : Tm) (h : Heap) (σ : List Nat) (L : List (List Nat)) : Option (Tm × Heap) := match multiS E S ops t h σ with
  | some s => if L.all fun τ => match multiS E S ops t h τ with | some u => E.same (⟨0, false, u.1⟩ :: u.2) (⟨0, false, s.1⟩ :: s.2) | none => false then some s else none
  | none => none
theorem allS_spec {E : Env} {S : List Nat} {ops : Array Oper} {t : Tm} {h : Heap} {σ : List Nat} {L : List (List Nat)} {s : Tm × Heap} (hs : allS E S ops t h σ L = some s) : ∀ τ ∈ σ :: L, multiS E S ops t h τ = some s := by
  unfold allS at hs
  split at hs
  · rename_i s' h1
    split at hs
    · rename_i h2
      obtain rfl := Option.some.inj hs
      intro τ hτ
      rcases List.mem_cons.1 hτ with rfl | hτ
      · exact h1
      · have h3 := List.all_eq_true.1 h2 τ hτ
        split at h3
        · rename_i u hu
          have := E.same_eq _ _ h3
          obtain ⟨e1, e2⟩ := List.cons.inj this
          rw [hu]
          congr 1
          exact Prod.ext (Blk.mk.inj e1).2.2 e2
        · cases h3
    · cases hs
  · cases hs
theorem region_M_ok {E : Env} {w : World} {r : List (Option Loc)} {h : Heap} (hm : E.P.follows .mixedOrders = true) (hS : Sound E) {ops : Array Oper} {N id : Nat} {σ S : List Nat} {L : List (List Nat)} {Q : Exit → Act → World → Prop} {t : Tm} {a : Act} {t' : Tm} {h' : Heap} (hok : ops.toList.all (okOper N) = true) (hd : drawM ops (σ :: L) S = true) (ht : TR D r t a N) (hr : HR E.G r h w.heap)
    (ho : allS E S ops t h σ L = some (t', h')) (hQ : ∀ r' a' w', TR D r' t' a' N → HR E.G r' h' w'.heap → Keep r h w r' h' w' → Q .normal a' w') : (Code.region id ops true).wp E.P Q a w := by
  refine wp_region_any hm ?_
  simp only [drawM, Bool.and_eq_true, List.all_eq_true] at hd
  obtain ⟨⟨hd1, hd2⟩, hd3⟩ := hd
  have hall := allS_spec ho
  have hl : ∀ τ ∈ σ :: L, leftS τ (Array.replicate ops.size false) = τ ∧ τ.length = ops.size := fun τ hτ => by
    have h0 := (hd1 τ hτ).1
    simp only [linS, Bool.and_eq_true, List.all_eq_true] at h0
    refine ⟨?_, by simpa using h0.1.1.1.1⟩
    unfold leftS
    rw [List.filter_eq_self]
    intro i hi
    have h1 := h0.1.1.2 i hi
    unfold selfS at h1
    split at h1
    · rename_i o ho'
      have : i < ops.size := (Array.getElem?_eq_some_iff.1 ho').1
      simp [this]
    · cases h1
  have hr' : HR E.G r h ({ w with drawn := w.drawn + 1 } : World).heap := hr
  have hz : ∀ i, (Array.replicate ops.size false).getD i false = false := fun i => by
    rw [Array.getD_eq_getD_getElem?, Array.getElem?_replicate]
    split <;> rfl
  refine anyM_ok (S := S) (W := hardM ops S (σ :: L)) (Fin := fun s => h.length ≤ s.2.length ∧ (∀ j, (∀ o ∈ ops.toList, o.dst ≠ some j) → get s.1 j = get t j) ∧ t' = fadeT t s.1 ops.toList ∧ h' = fadeH h s.2) hS hok (fun k hk => of_decide_eq_true (hd3 k hk)) ops.size _ _ (σ :: L) _ hd1 hd2 (fun i _ => hz i) (fun i hi _ => hi) (fun i hi => hi) (fun τ hτ => by rw [(hl τ hτ).1]; exact (hl τ hτ).2) (by simp) (fun i o hi hl => by rw [hz] at hl; cases hl) ht hr' (fun τ hτ => ?_) fun s r' a' w' hF b1 b2 b3 => ?_
  · have h1 := hall τ hτ
    rw [(hl τ hτ).1]
    unfold multiS at h1
    split at h1
    · rename_i t1 h1' hr1
      split at h1
      · rename_i hle
        obtain ⟨rfl, rfl⟩ := Prod.mk.inj (Option.some.inj h1)
        refine ⟨(t1, h1'), hr1, hle, fun j hj => opsS_other hr1 fun o ho => hj o ?_, rfl, rfl⟩
        obtain ⟨i, _, hi⟩ := List.mem_filterMap.1 ho
        rw [Array.mem_toList_iff]; exact Array.mem_of_getElem? hi
      · cases h1
    · cases h1
  · obtain ⟨hF1, hF2, rfl, rfl⟩ := hF
    refine hQ r' a' w' ⟨b1.defers, b1.size, fun i => ?_⟩ (b2.fade hF1) ⟨b3.pre, b3.size, b3.os, b3.tape, b3.output, b3.block, fun i b L h1 h2 h3 h4 => ?_⟩
    · rcases fadeT_get t s.1 i ops.toList with (e | e) | ⟨e, e2⟩
      · rw [e]; exact b1.tm i
      · rw [e]; exact .junk _
      · rw [e, ← hF2 i e2]; exact b1.tm i
    · rcases fadeH_get h1 with ⟨k1, _⟩ | rfl
      · exact b3.own i b L k1 h2 h3 h4
      · exact absurd h2 own_dead
def pmM : List (Nat × List Nat × List Nat) → Nat → List (List Nat)
  | [], _ => []
  | (i, q) :: l, j => if j = i then q.1 :: pmM l j else pmM l j
def pmL : List (Nat × List Nat × List Nat) → Nat → Option (List Nat × List Nat)
  | [], _ => none
  | (i, q) :: l, j => if j = i then some q else pmL l j
def regV (E : Env) (id : Nat) (ops : Array Oper) (d : Bool) (t : Tm) (h : Heap) : Option (Tm × Heap) := match d with
  | false => ops1 E ops ops.toList t h
  | true => match pmL E.pm id with
    | none => ops1 (quiet E) ops ops.toList t h
    | some q => match pmM E.pm id with
      | _ :: τ :: L => allS E q.2 ops t h q.1 (τ :: L)
      | _ => opsS E q.2 ops (pick ops q.1) t h
def exec (E : Env) (n : Nat) : Code → Tm → Heap → Option (Ex × Tm × Heap)
  | .skip, t, h => some (.n, t, h)
  | .region id ops d, t, h => match regV E id ops d t h with
    | some (t', h') => some (.n, t', h')
    | none => none
  | .seq a b, t, h => match exec E n a t h with
    | some (.n, t', h') => exec E n b t' h'
    | some (.r, t', h') => some (.r, t', h')
    | some (.e i, t', h') => some (.e i, t', h')
    | none => none
  | .cond c a b, t, h => match ev t c with
    | .b x => if x then exec E n a t h else exec E n b t h
    | _ => none
  | .block id a, t, h => match exec E n a t h with
    | some (.e j, t', h') => if j = id then some (.n, t', h') else some (.e j, t', h')
    | some (.n, t', h') => some (.n, t', h')
    | some (.r, t', h') => some (.r, t', h')
    | none => none
  | .loop a, t, h => iter (exec E n a) n t h
  | .exit id, t, h => some (.e id, t, h)
  | .ret, t, h => some (.r, t, h)
  | _, _, _ => none
def okCode (pm : List (Nat × List Nat × List Nat)) (N : Nat) : Code → Bool
  | .region id ops d => ops.toList.all (okOper N) && (!d || match pmL pm id with | none => drawOk ops | some q => match pmM pm id with | _ :: τ :: L => drawM ops (q.1 :: τ :: L) q.2 | _ => drawS ops q.1 q.2)
  | .seq a b => okCode pm N a && okCode pm N b
  | .cond c a b => okOp c && okCode pm N a && okCode pm N b
  | .block _ a => okCode pm N a
  | .loop a => okCode pm N a
  | _ => true
def exC : Ex → Exit
  | .n => .normal
  | .r => .ret
  | .e i => .exit i
theorem exists_least {p : Nat → Prop} (h : ∃ m, p m) : ∃ m, p m ∧ ∀ k, p k → m ≤ k := by
  obtain ⟨m, hm⟩ := h
  induction m using Nat.strongRecOn with
  | _ m ih =>
    by_cases hk : ∃ k, k < m ∧ p k
    · obtain ⟨k, h1, h2⟩ := hk; exact ih k h1 h2
    · exact ⟨m, hm, fun k hk2 => Nat.le_of_not_lt fun hlt => hk ⟨k, hlt, hk2⟩⟩
theorem exec_ok {E : Env} (hm : E.P.follows .mixedOrders = true) (hS : Sound E) {N n : Nat} : ∀ (c : Code), okCode E.pm N c = true → ∀ {r : List (Option Loc)} {t : Tm} {h : Heap} {a : Act} {w : World} {x : Ex} {t' : Tm} {h' : Heap} {Q : Exit → Act → World → Prop}, TR D r t a N → HR E.G r h w.heap →
    exec E n c t h = some (x, t', h') → (∀ r' a' w', TR D r' t' a' N → HR E.G r' h' w'.heap → Keep r h w r' h' w' → Q (exC x) a' w') → c.wp E.P Q a w
  | .skip, _, r, t, h, a, w, x, t', h', Q, ht, hr, he, hQ => by
    simp only [exec, Option.some.injEq, Prod.mk.injEq] at he
    obtain ⟨rfl, rfl, rfl⟩ := he
    exact wp_skip (hQ r a w ht hr (Keep.refl _ _ _))
  | .exit i, _, r, t, h, a, w, x, t', h', Q, ht, hr, he, hQ => by
    simp only [exec, Option.some.injEq, Prod.mk.injEq] at he
    obtain ⟨rfl, rfl, rfl⟩ := he
    exact wp_exit (hQ r a w ht hr (Keep.refl _ _ _))
  | .ret, _, r, t, h, a, w, x, t', h', Q, ht, hr, he, hQ => by
    simp only [exec, Option.some.injEq, Prod.mk.injEq] at he
    obtain ⟨rfl, rfl, rfl⟩ := he
    exact wp_ret (hQ r a w ht hr (Keep.refl _ _ _))
  | .region id ops d, hok, r, t, h, a, w, x, t', h', Q, ht, hr, he, hQ => by
    simp only [okCode, Bool.and_eq_true] at hok
    simp only [exec] at he
    split at he
    · rename_i t1 h1 ho
      obtain ⟨rfl, rfl, rfl⟩ := by simpa using he
      cases d with
      | false => exact region_ok hS hok.1 ht hr (by simpa only [regV] using ho) hQ
      | true =>
        have h2 := hok.2
        simp only [Bool.not_true, Bool.false_or] at h2
        simp only [regV] at ho
        split at h2
        · rename_i hp
          rw [hp] at ho
          exact region_any_ok hm hS hok.1 h2 ht hr ho hQ
        · rename_i q hp
          rw [hp] at ho
          simp only at ho
          split at h2
          · rename_i x τ L hq
            rw [hq] at ho
            exact region_M_ok hm hS hok.1 h2 ht hr ho hQ
          · rename_i hq
            split at ho
            · rename_i x τ L hq2
              exact absurd hq2 (hq x τ L)
            · exact region_S_ok hm hS hok.1 h2 ht hr ho hQ
    · cases he
  | .seq c d, hok, r, t, h, a, w, x, t', h', Q, ht, hr, he, hQ => by
    simp only [okCode, Bool.and_eq_true] at hok
    simp only [exec] at he
    refine wp_seq ?_
    split at he
    · rename_i t1 h1 h2
      refine exec_ok hm hS c hok.1 ht hr h2 fun r1 a1 w1 b1 b2 b3 => ?_
      exact exec_ok hm hS d hok.2 b1 b2 he fun r' a' w' c1 c2 c3 => hQ r' a' w' c1 c2 (b3.trans c3)
    · rename_i t1 h1 h2
      obtain ⟨rfl, rfl, rfl⟩ := by simpa using he
      exact exec_ok hm hS c hok.1 ht hr h2 hQ
    · rename_i i t1 h1 h2
      obtain ⟨rfl, rfl, rfl⟩ := by simpa using he
      exact exec_ok hm hS c hok.1 ht hr h2 hQ
    · cases he
  | .cond c p q, hok, r, t, h, a, w, x, t', h', Q, ht, hr, he, hQ => by
    simp only [okCode, Bool.and_eq_true] at hok
    simp only [exec] at he
    split at he
    · rename_i b hb
      have hc := ev_ok ht hok.1.1
      rw [hb] at hc
      generalize hX : a.eval c = X at hc
      cases hc
      cases b with
      | true => exact wp_cond_true hX (exec_ok hm hS p hok.1.2 ht hr (by simpa using he) hQ)
      | false => exact wp_cond_false hX (exec_ok hm hS q hok.2 ht hr (by simpa using he) hQ)
    · cases he
  | .block id c, hok, r, t, h, a, w, x, t', h', Q, ht, hr, he, hQ => by
    simp only [okCode] at hok
    simp only [exec] at he
    refine wp_block ?_
    split at he
    · rename_i j t1 h1 h2
      refine exec_ok hm hS c hok ht hr h2 fun r1 a1 w1 b1 b2 b3 => ?_
      simp only [exC, Exit.inBlock]
      split at he
      · rename_i hj
        obtain ⟨rfl, rfl, rfl⟩ := by simpa using he
        rw [if_pos hj]; exact hQ r1 a1 w1 b1 b2 b3
      · rename_i hj
        obtain ⟨rfl, rfl, rfl⟩ := by simpa using he
        rw [if_neg hj]; exact hQ r1 a1 w1 b1 b2 b3
    · rename_i t1 h1 h2
      obtain ⟨rfl, rfl, rfl⟩ := by simpa using he
      exact exec_ok hm hS c hok ht hr h2 hQ
    · rename_i t1 h1 h2
      obtain ⟨rfl, rfl, rfl⟩ := by simpa using he
      exact exec_ok hm hS c hok ht hr h2 hQ
    · cases he
  | .loop c, hok, r, t, h, a, w, x, t', h', Q, ht, hr, he, hQ => by
    simp only [okCode] at hok
    simp only [exec] at he
    let Good : Nat → Act → World → Prop := fun m a1 w1 => ∃ r1 t1 h1, TR D r1 t1 a1 N ∧ HR E.G r1 h1 w1.heap ∧ Keep r h w r1 h1 w1 ∧ iter (exec E n c) m t1 h1 = some (x, t', h')
    classical
    refine wp_loop (fun a1 w1 => ∃ m, Good m a1 w1) (fun a1 w1 => if hg : ∃ m, Good m a1 w1 then Classical.choose (exists_least hg) else 0) ⟨n, r, t, h, ht, hr, Keep.refl _ _ _, he⟩ fun a1 w1 hg => ?_
    have hspec := Classical.choose_spec (exists_least hg)
    simp only [dif_pos hg]
    generalize hm0 : Classical.choose (exists_least hg) = m at hspec ⊢
    obtain ⟨⟨r1, t1, h1, g1, g2, g3, g4⟩, _⟩ := hspec
    cases m with
    | zero => simp [iter] at g4
    | succ m =>
      simp only [iter] at g4
      split at g4
      · rename_i t2 h2 he2
        refine exec_ok hm hS c hok g1 g2 he2 fun r2 a2 w2 b1 b2 b3 => ?_
        have hg2 : Good m a2 w2 := ⟨r2, t2, h2, b1, b2, g3.trans b3, g4⟩
        refine ⟨⟨m, hg2⟩, ?_⟩
        rw [dif_pos ⟨m, hg2⟩]
        exact Nat.lt_succ_of_le ((Classical.choose_spec (exists_least ⟨m, hg2⟩)).2 m hg2)
      · rename_i hne
        refine exec_ok hm hS c hok g1 g2 g4 fun r2 a2 w2 b1 b2 b3 => ?_
        cases x with
        | n => exact absurd g4 (hne _ _)
        | r => exact hQ r2 a2 w2 b1 b2 (g3.trans b3)
        | e i => exact hQ r2 a2 w2 b1 b2 (g3.trans b3)
  | .rangeFunc .., _, r, t, h, a, w, x, t', h', Q, ht, hr, he, hQ => by simp [exec] at he
  | .scope _, _, r, t, h, a, w, x, t', h', Q, ht, hr, he, hQ => by simp [exec] at he
  | .label _, _, r, t, h, a, w, x, t', h', Q, ht, hr, he, hQ => by simp [exec] at he
  | .goto _, _, r, t, h, a, w, x, t', h', Q, ht, hr, he, hQ => by simp [exec] at he
  | .refuse _, _, r, t, h, a, w, x, t', h', Q, ht, hr, he, hQ => by simp [exec] at he
def resL (E : Env) (h : Heap) (t : Tm) : List ResultVar → Option (List V)
  | [] => some []
  | .tmp i :: rs => match resL E h t rs with | some l => some (get t i :: l) | none => none
  | .cell a ty :: rs => match loadV E h ty (get t a), resL E h t rs with | some v, some l => some (v :: l) | _, _ => none
def resV (E : Env) (h : Heap) (t : Tm) (rs : List ResultVar) : Option V := match resL E h t rs with
  | some [v] => some v
  | some l => some (.tup l)
  | none => none
def bodyV (E : Env) (n : Nat) (fn : Func) (args : List V) (h : Heap) : Option (V × Heap) := match fn.body with
  | some c => match exec E n c args h with
    | some (.n, t, h') => (resV E h' t fn.results.toList).map (·, h')
    | some (.r, t, h') => (resV E h' t fn.results.toList).map (·, h')
    | _ => none
  | none => none
def callF (E : Env) (n : Nat) (f : FuncId) (args : List V) (h : Heap) : Option (V × Heap) := match E.P.funcs[f]? with
  | some fn => bodyV E n fn args h
  | none => none
def okFnM (P : Program) (pm : List (Nat × List Nat × List Nat)) (f : FuncId) (n : Nat) : Bool := match P.funcs[f]? with
  | some fn => match fn.body with
    | some c => okCode pm fn.ntmps c && decide (n ≤ fn.ntmps) && !(fn.name == "runtime.NumGoroutine")
    | none => false
  | none => false
def okFn (P : Program) (f : FuncId) (n : Nat) : Bool := okFnM P [] f n
section
variable {E : Env} {w : World} {r : List (Option Loc)} {h : Heap}
theorem loadVar_ok (hr : HR E.G r h w.heap) {t : TypeId} {a v : V} {A : Value} (ha : R r a A) (hv : loadV E h t a = some v) : ∃ B y, A = .pointer (some B) ∧ (loadVar t B).run E.P w = .ok y w ∧ R r v y := by
  obtain ⟨y, h1, h2⟩ := loadV_ok hr ha hv
  cases A with
  | pointer B =>
    cases B with
    | some B => exact ⟨B, y, rfl, by simpa [Instr.loadAt, Instr.sureAddr] using h1, h2⟩
    | none => simp [Instr.loadAt, Instr.sureAddr] at h1
  | _ => simp [Instr.loadAt, Instr.sureAddr] at h1
def resF (a : Act) : ResultVar → Sem Value
  | .tmp t => pure (a.tmps.getD t undef)
  | .cell b ty => do loadVar ty (← asAddr (a.tmps.getD b undef))
theorem resL_ok (hr : HR E.G r h w.heap) {t : Tm} {a : Act} {N : Nat} (ht : TR D r t a N) : ∀ {rs : List ResultVar} {l : List V}, resL E h t rs = some l → ∃ xs : List Value, (rs.mapM (resF a)).run E.P w = .ok xs w ∧ RL r l xs
  | [], l, h1 => by simp only [resL, Option.some.injEq] at h1; subst h1; exact ⟨[], by simp, .nil⟩
  | .tmp i :: rs, l, h1 => by
    simp only [resL] at h1
    split at h1
    · rename_i l' h2
      obtain rfl := Option.some.inj h1
      obtain ⟨xs, h3, h4⟩ := resL_ok hr ht h2
      refine ⟨a.tmps.getD i undef :: xs, ?_, .cons (ht.tm i) h4⟩
      have e : (resF a (.tmp i)).run E.P w = .ok (a.tmps.getD i undef) w := rfl
      simp only [List.mapM_cons, Sem.run_bind, e, h3, Result.andThen_ok, Sem.run_pure]
    · cases h1
  | .cell b ty :: rs, l, h1 => by
    simp only [resL] at h1
    split at h1
    · rename_i v l' h2 h3
      obtain rfl := Option.some.inj h1
      obtain ⟨xs, h4, h5⟩ := resL_ok hr ht h3
      obtain ⟨B, y, h6, h7, h8⟩ := loadVar_ok hr (ht.tm b) h2
      refine ⟨y :: xs, ?_, .cons h8 h5⟩
      have e : (resF a (.cell b ty)).run E.P w = .ok y w := by
        simp only [resF, h6, Sem.run_bind]
        show ((asAddr (.pointer (some B))).run E.P w).andThen _ = _
        simp only [asAddr, Sem.run_pure, Result.andThen_ok, h7]
      simp only [List.mapM_cons, Sem.run_bind, e, h4, Result.andThen_ok, Sem.run_pure]
    · cases h1
theorem resV_ok (hr : HR E.G r h w.heap) {t : Tm} {a : Act} {N : Nat} (ht : TR D r t a N) {fn : Func} {v : V} (hv : resV E h t fn.results.toList = some v) : ∃ x, (results fn a.tmps).run E.P w = .ok x w ∧ R r v x := by
  unfold resV at hv
  have run : ∀ {l : List V}, resL E h t fn.results.toList = some l → ∃ xs : List Value, RL r l xs ∧ (results fn a.tmps).run E.P w = .ok (if h : xs.toArray.size = 1 then xs.toArray[0] else .tuple xs.toArray) w := by
    intro l hl
    obtain ⟨xs, h1, h2⟩ := resL_ok hr ht hl
    refine ⟨xs, h2, ?_⟩
    have e : results fn a.tmps = (do let vs ← fn.results.mapM (resF a); pure (if h : vs.size = 1 then vs[0] else .tuple vs)) := by
      unfold results
      congr 1
    rw [e, Array.mapM_eq_mapM_toList, Sem.run_bind, Sem.run_map, h1]
    rfl
  split at hv
  · rename_i u hl
    obtain rfl := Option.some.inj hv
    obtain ⟨xs, h1, h2⟩ := run hl
    cases h1 with
    | cons hu hn => cases hn; exact ⟨_, h2, by simpa using hu⟩
  · rename_i l hne hl
    obtain rfl := Option.some.inj hv
    obtain ⟨xs, h1, h2⟩ := run hl
    have hlen := h1.length
    refine ⟨_, h2, ?_⟩
    rw [dif_neg]
    · exact .tup _ _ h1
    · intro h3
      have h4 : xs.length = 1 := by rw [List.size_toArray] at h3; exact h3
      cases l with
      | nil => simp only [List.length_nil] at hlen; omega
      | cons u l => cases l with
        | nil => exact hne u rfl
        | cons z l => simp only [List.length_cons] at hlen; omega
  · cases hv
theorem call_ok {E : Env} (hm : E.P.follows .mixedOrders = true) (hS : Sound E) {f : FuncId} {args : List V} {h h' : Heap} {v : V} {n : Nat} (hok : okFnM E.P E.pm f args.length = true) (hc : callF E n f args h = some (v, h')) : Callable E.P f ∧ Ok E.P E.G f args h v h' := by
  unfold okFnM at hok
  unfold callF at hc
  split at hok
  · rename_i fn hf
    split at hok
    · rename_i c hb
      simp only [Bool.and_eq_true, decide_eq_true_eq, Bool.not_eq_true'] at hok
      obtain ⟨⟨o1, o2⟩, o3⟩ := hok
      refine ⟨⟨fn, hf, by rw [hb]; rfl, o3⟩, ?_⟩
      intro r w xs hr hx
      have hlen := hx.length
      simp only [hf, bodyV, hb] at hc
      refine calls_of_wp hf hb ?_
      have ht : TR [] r args { tmps := xs.toArray ++ Array.replicate (fn.ntmps - xs.toArray.size) undef, defers := [] } fn.ntmps := by
        refine ⟨rfl, by simp; omega, fun i => ?_⟩
        by_cases hi : i < args.length
        · obtain ⟨x, h1, h2⟩ := forall_get hx hi
          have : (xs.toArray ++ Array.replicate (fn.ntmps - xs.toArray.size) undef).getD i undef = x := by
            rw [Array.getD_eq_getD_getElem?, Array.getElem?_append_left (by rw [List.size_toArray]; omega)]
            simp [h1]
          rw [this]; exact h2
        · rw [get_eq, List.getD_eq_getElem?_getD, List.getElem?_eq_none (by omega)]
          exact .junk _
      have fin : ∀ {e : Exit} {t : Tm} {h1 : Heap}, (e = .normal ∨ e = .ret) → (resV E h1 t fn.results.toList).map (·, h1) = some (v, h') → ∀ r' a' w', TR [] r' t a' fn.ntmps → HR E.G r' h1 w'.heap → Keep r h w r' h1 w' → bodyPost E.P fn (fun e w' => ∃ x r', e = .returned x ∧ R r' v x ∧ HR E.G r' h' w'.heap ∧ Keep r h w r' h' w') e a' w' := by
        intro e t h1 he hres r' a' w' b1 b2 b3
        obtain ⟨u, hu, heq⟩ := Option.map_eq_some_iff.1 hres
        obtain ⟨rfl, rfl⟩ := Prod.mk.inj heq
        obtain ⟨x, h2, h3⟩ := resV_ok b2 b1 hu
        rcases he with rfl | rfl
        · exact ⟨b1.defers, x, h2, x, r', rfl, h3, b2, b3⟩
        · exact ⟨b1.defers, x, h2, x, r', rfl, h3, b2, b3⟩
      split at hc
      · rename_i t h1 hex
        exact exec_ok hm hS c o1 ht hr hex (fin (.inl rfl) hc)
      · rename_i t h1 hex
        exact exec_ok hm hS c o1 ht hr hex (fin (.inr rfl) hc)
      · cases hc
    · cases hok
  · cases hok
end
mutual
def renV (σ : Nat → Nat) : V → V
  | .p b o => .p (σ b) o
  | .sl b o n z => .sl (σ b) o n z
  | .agg l => .agg (renL σ l)
  | .tup l => .tup (renL σ l)
  | .f fn l => .f fn (renL σ l)
  | .ifc t v => .ifc t (renV σ v)
  | .e0 => .e0
  | .ai k => .ai k
  | .bf fn l => .bf fn (renL σ l)
  | .m b => .m (σ b)
  | .junk => .junk
  | .b x => .b x
  | .i k n => .i k n
  | .s l => .s l
  | .g m o => .g m o
  | .c v => .c v
def renL (σ : Nat → Nat) : List V → List V
  | [] => []
  | v :: l => renV σ v :: renL σ l
end
mutual
def bndV (m : Nat) : V → Prop
  | .p b _ => b < m
  | .sl b _ _ _ => b < m
  | .agg l => bndL m l
  | .tup l => bndL m l
  | .f _ l => bndL m l
  | .ifc _ v => bndV m v
  | .e0 => True
  | .ai _ => True
  | .bf _ l => bndL m l
  | .m b => b < m
  | .junk => True
  | .b _ => True
  | .i _ _ => True
  | .s _ => True
  | .g _ _ => True
  | .c _ => True
def bndL (m : Nat) : List V → Prop
  | [] => True
  | v :: l => bndV m v ∧ bndL m l
end
mutual
theorem R.ren {σ : Nat → Nat} {m : Nat} {r r' : List (Option Loc)} (hσ : ∀ b y, b < m → r'[σ b]? = some y → r[b]? = some y) : ∀ {v : V} {x : Value}, bndV m v → R r' (renV σ v) x → R r v x
  | .junk, x, _, _ => .junk x
  | .b y, x, _, h => by simp only [renV] at h; cases h; exact .b y
  | .i k n, x, _, h => by simp only [renV] at h; cases h with | i _ _ h => exact .i k n h
  | .s l, x, _, h => by simp only [renV] at h; cases h with | s _ h => exact .s l h
  | .p b o, x, hb, h => by simp only [renV] at h; cases h with | p _ _ L h => exact .p b o L (hσ b _ (by simpa [bndV] using hb) h)
  | .g m o, x, _, h => by simp only [renV] at h; cases h; exact .g _ _
  | .sl b o n z, x, hb, h => by
    have hb' : b < m := by simpa [bndV] using hb
    simp only [renV] at h
    cases h with
    | sl _ _ _ _ c L h hc hn hbb => exact .sl b o n z c L (hσ b _ hb' h) hc hn hbb
    | s0 _ _ _ a y h => exact .s0 b o z a y (hσ b _ hb' h)
    | sn _ _ h => exact .sn b z (hσ b _ hb' h)
  | .c v, x, _, h => by simp only [renV] at h; cases h; exact .c _
  | .agg l, x, hb, h => by simp only [renV] at h; cases h with | agg _ xs h => exact .agg l xs (RL.ren hσ (by simpa [bndV] using hb) h)
  | .tup l, x, hb, h => by simp only [renV] at h; cases h with | tup _ xs h => exact .tup l xs (RL.ren hσ (by simpa [bndV] using hb) h)
  | .f fn l, x, hb, h => by simp only [renV] at h; cases h with | f _ _ xs h => exact .f fn l xs (RL.ren hσ (by simpa [bndV] using hb) h)
  | .ifc t v, x, hb, h => by simp only [renV] at h; cases h with | ifc _ _ y h => exact .ifc t v y (R.ren hσ (by simpa [bndV] using hb) h)
  | .e0, x, _, h => by simp only [renV] at h; cases h; exact .e0 _ _
  | .ai k, x, _, h => by simp only [renV] at h; cases h with | ai _ n h => exact .ai k n h
  | .bf fn l, x, hb, h => by simp only [renV] at h; cases h with | bf _ _ xs h => exact .bf fn l xs (RL.ren hσ (by simpa [bndV] using hb) h)
  | .m b, x, hb, h => by simp only [renV] at h; cases h with | m _ L h => exact .m b L (hσ b _ (by simpa [bndV] using hb) h)
theorem RL.ren {σ : Nat → Nat} {m : Nat} {r r' : List (Option Loc)} (hσ : ∀ b y, b < m → r'[σ b]? = some y → r[b]? = some y) : ∀ {l : List V} {xs : List Value}, bndL m l → RL r' (renL σ l) xs → RL r l xs
  | [], xs, _, h => by simp only [renL] at h; cases h; exact .nil
  | v :: l, xs, hb, h => by
    simp only [bndL] at hb
    simp only [renL] at h
    cases h with | cons h1 h2 => exact .cons (R.ren hσ hb.1 h1) (RL.ren hσ hb.2 h2)
end
structure Trim (h : Heap) (v' : V) (h' : Heap) (v : V) (hT : Heap) (σ : Nat → Nat) : Prop where
  len : h.length ≤ hT.length
  low : ∀ i, i < h.length → σ i = i
  high : ∀ i, i < hT.length → σ i < h'.length
  inj : ∀ i j, i < hT.length → j < hT.length → σ i = σ j → i = j
  val : v' = renV σ v
  bnd : bndV hT.length v
  blk : ∀ (i : Nat) b, hT[i]? = some b → (i < h.length ∧ h[i]? = some b ∧ h'[i]? = some b) ∨ (h'[σ i]? = some ⟨b.st, b.x, renL σ b.cells⟩ ∧ bndL hT.length b.cells)
theorem renL_get {σ : Nat → Nat} : ∀ {l : List V} {j : Nat} {v : V}, l[j]? = some v → (renL σ l)[j]? = some (renV σ v)
  | [], j, v, h => by simp at h
  | x :: l, 0, v, h => by simp at h; subst h; rfl
  | x :: l, j + 1, v, h => by simpa [renL] using renL_get (σ := σ) (l := l) (j := j) (by simpa using h)
theorem renL_length {σ : Nat → Nat} : ∀ {l : List V}, (renL σ l).length = l.length
  | [] => rfl
  | x :: l => by simp [renL, renL_length (l := l)]
theorem bndL_get {m : Nat} : ∀ {l : List V} {j : Nat} {v : V}, bndL m l → l[j]? = some v → bndV m v
  | [], j, v, _, h => by simp at h
  | x :: l, 0, v, hb, h => by simp at h; subst h; exact hb.1
  | x :: l, j + 1, v, hb, h => bndL_get (l := l) (j := j) hb.2 (by simpa using h)
theorem ren_i {σ : Nat → Nat} {v : V} {k : IntKind} {n : Int} (h : renV σ v = .i k n) : v = .i k n := by cases v <;> simp [renV] at h; simp [h]
theorem ren_b {σ : Nat → Nat} {v : V} {x : Bool} (h : renV σ v = .b x) : v = .b x := by cases v <;> simp [renV] at h; simp [h]
theorem ren_m {σ : Nat → Nat} {v : V} {b : Nat} (h : renV σ v = .m b) : ∃ a, v = .m a ∧ σ a = b := by cases v <;> simp [renV] at h; exact ⟨_, rfl, h⟩
theorem ren_tup {σ : Nat → Nat} {v : V} {l : List V} (h : renV σ v = .tup l) : ∃ a, v = .tup a ∧ renL σ a = l := by cases v <;> simp [renV] at h; exact ⟨_, rfl, h⟩
theorem ren_nil {σ : Nat → Nat} {l : List V} (h : renL σ l = []) : l = [] := by cases l with | nil => rfl | cons v l => simp [renL] at h
theorem ren_cons {σ : Nat → Nat} {l m : List V} {v : V} (h : renL σ l = v :: m) : ∃ u k, l = u :: k ∧ renV σ u = v ∧ renL σ k = m := by
  cases l with
  | nil => simp [renL] at h
  | cons u k => simp [renL] at h; exact ⟨u, k, rfl, h.1, h.2⟩
theorem ren_borns {σ : Nat → Nat} : ∀ {l : List V} {m : List Nat}, renL σ l = borns m → l = borns m
  | l, [], h => ren_nil h
  | l, n :: m, h => by
    obtain ⟨u, k, rfl, h1, h2⟩ := ren_cons (show renL σ l = .i .i64 (n : Int) :: borns m from h)
    rw [ren_i h1, ren_borns h2]; rfl
theorem ER.ren {σ : Nat → Nat} {m : Nat} {r r' : List (Option Loc)} (hσ : ∀ b y, b < m → r'[σ b]? = some y → r[b]? = some y) : ∀ {l : List V} {es : List MapEntry}, bndL m l → ER r' (renL σ l) es → ER r l es := by
  intro l es hb h
  generalize hl : renL σ l = l' at h
  induction h generalizing l with
  | nil => rw [ren_nil hl]; exact .nil
  | cons hk hv t ih =>
    obtain ⟨u, k, rfl, h1, h2⟩ := ren_cons hl
    obtain ⟨a, rfl, h3⟩ := ren_tup h1
    obtain ⟨x, a, rfl, h4, h5⟩ := ren_cons h3
    obtain ⟨y, a, rfl, h6, h7⟩ := ren_cons h5
    obtain ⟨z, a, rfl, h8, h9⟩ := ren_cons h7
    rw [ren_nil h9, ren_i h8]
    simp only [bndL, bndV] at hb
    subst h4 h6
    exact .cons (hk.ren hσ hb.1.1) (hv.ren hσ hb.1.2.1) (ih hb.2 h2)
theorem ER.back {r r' : List (Option Loc)} (hp : r <+: r') {l : List V} {es : List MapEntry} (h : ER r' l es) : ∀ {es0 : List MapEntry}, ER r l es0 → ER r l es := by
  induction h with
  | nil => intro _ _; exact .nil
  | cons hk hv t ih =>
    rename_i k0 v0 e0 l0 es1
    intro es0 h0
    generalize hl : V.tup [k0, v0, .i .i64 (e0.born : Int)] :: l0 = l1 at h0
    cases h0 with
    | nil => cases hl
    | cons hk0 hv0 t0 =>
      simp only [List.cons.injEq, V.tup.injEq] at hl
      obtain ⟨⟨rfl, rfl, hb⟩, rfl⟩ := hl
      rw [← hb.1]
      exact .cons (R.back hp hk _ hk0) (R.back hp hv _ hv0) (ih t0)
theorem MapOk.ren {σ : Nat → Nat} {m : Nat} {r r' : List (Option Loc)} (hσ : ∀ b y, b < m → r'[σ b]? = some y → r[b]? = some y) {H : Array Obj} {L : Loc} {c : List V} (hb : bndL m c) (h : MapOk r' H L (renL σ c)) : MapOk r H L c := by
  rcases h with ⟨es, clock, l, h1, h2, h3⟩ | ⟨b, Lb, since, last, seen, h1, h2, h3⟩ | ⟨h1, h2⟩
  · obtain ⟨u, k, rfl, h4, h5⟩ := ren_cons h1
    rw [ren_i h4]
    subst h5
    exact .inl ⟨es, clock, k, rfl, h2, h3.ren hσ hb.2⟩
  · obtain ⟨u, k, rfl, h4, h5⟩ := ren_cons h1
    obtain ⟨u2, k, rfl, h6, h7⟩ := ren_cons h5
    obtain ⟨u3, k, rfl, h8, h9⟩ := ren_cons h7
    obtain ⟨u4, k, rfl, h10, h11⟩ := ren_cons h9
    obtain ⟨a, rfl, rfl⟩ := ren_m h6
    rw [ren_b h4, ren_i h8, ren_i h10, ren_borns h11]
    exact .inr (.inl ⟨a, Lb, since, last, seen, rfl, hσ a _ hb.2.1 h2, h3⟩)
  · obtain ⟨u, k, rfl, h4, h5⟩ := ren_cons h1
    rw [ren_b h4, ren_nil h5]
    exact .inr (.inr ⟨rfl, h2⟩)
theorem MapOk.back {r r' : List (Option Loc)} (hp : r <+: r') {H H0 : Array Obj} {L L0 : Loc} {c : List V} (h : MapOk r' H L c) (h0 : MapOk r H0 L0 c) : MapOk r H L c := by
  rcases h with ⟨es, clock, l, h1, h2, h3⟩ | ⟨b, Lb, since, last, seen, h1, h2, h3⟩ | h
  · rcases h0 with ⟨es0, clock0, l0, g1, g2, g3⟩ | ⟨b0, Lb0, since0, last0, seen0, g1, g2, g3⟩ | ⟨g1, _⟩
    · rw [h1] at g1
      obtain ⟨_, rfl⟩ := List.cons.inj g1
      exact .inl ⟨es, clock, l, h1, h2, h3.back hp g3⟩
    · rw [h1] at g1; cases g1
    · rw [h1] at g1; cases g1
  · rcases h0 with ⟨es0, clock0, l0, g1, g2, g3⟩ | ⟨b0, Lb0, since0, last0, seen0, g1, g2, g3⟩ | ⟨g1, _⟩
    · rw [h1] at g1; cases g1
    · rw [h1] at g1
      simp only [List.cons.injEq, V.m.injEq] at g1
      obtain ⟨_, rfl, _⟩ := g1
      have := getElem?_pre hp g2
      rw [h2] at this
      obtain rfl := Option.some.inj (Option.some.inj this)
      exact .inr (.inl ⟨b, Lb, since, last, seen, h1, g2, h3⟩)
    · rw [h1] at g1; cases g1
  · exact .inr (.inr h)
theorem Ok.trim {P : Program} {G : Nat → List V} {f : FuncId} {args : List V} {h h' hT : Heap} {v v' : V} {σ : Nat → Nat} (hok : Ok P G f args h v' h') (ht : Trim h v' h' v hT σ) : Ok P G f args h v hT := by
  intro r w xs hr hx
  refine (hok r w xs hr hx).mono ?_
  rintro e w' ⟨x, r', he, h1, h2, h3⟩
  have hl := hr.len
  have hl' := h2.len
  let r2 : List (Option Loc) := (List.range hT.length).map fun i => (r'[σ i]?).getD none
  have hr2 : ∀ i y, i < hT.length → (r2[i]? = some y ↔ r'[σ i]? = some y) := by
    intro i y hi
    have hs := ht.high i hi
    have : r2[i]? = some ((r'[σ i]?).getD none) := by simp [r2, hi]
    rw [this, List.getElem?_eq_getElem (by omega)]
    simp
  have hlt : ∀ {i : Nat} {y : Option Loc}, r2[i]? = some y → i < hT.length := fun h => by
    have := (List.getElem?_eq_some_iff.1 h).1
    simpa [r2] using this
  have hpre : r <+: r2 := by
    rw [List.prefix_iff_getElem?]
    intro i hi
    have hi' : i < hT.length := by have := ht.len; omega
    rw [(hr2 i _ hi').2]
    rw [ht.low i (by omega)]
    exact getElem?_pre h3.pre (List.getElem?_eq_getElem hi)
  have hσ : ∀ b y, b < hT.length → r'[σ b]? = some y → r2[b]? = some y := fun b y hb hy => (hr2 b y hb).2 hy
  -- what a block of the trimmed heap is
  have hblk : ∀ (i : Nat) b y, hT[i]? = some b → r2[i]? = some y → BlkOk r2 w'.heap b y := by
    intro i b y hb hy
    have hi := (List.getElem?_eq_some_iff.1 hb).1
    have hy' := (hr2 i y hi).1 hy
    rcases ht.blk i b hb with ⟨c1, c2, c3⟩ | ⟨c1, c2⟩
    · rw [ht.low i c1] at hy'
      have hyr : r[i]? = some y := by
        have h5 : r[i]? = some r[i] := List.getElem?_eq_getElem (by omega)
        have := getElem?_pre h3.pre h5
        rw [hy'] at this; rw [h5, ← this]
      have o1 := hr.blk i b y c2 hyr
      have o2 := h2.blk i b y c3 hy'
      cases y with
      | none => exact o1
      | some L =>
        rcases o2 with o2 | ⟨c, el, fz, p1, p2, p3, p4⟩
        · exact .inl o2
        rcases o1 with o1 | ⟨cc, ee, ff, q1, q2, q3, q4⟩
        · exact .inl o1
        refine .inr ⟨c, el, fz, p1, fun j u hu => ?_, p3, p4⟩
        obtain ⟨z, z1, z2⟩ := p2 j u hu
        obtain ⟨z0, _, z3⟩ := q2 j u hu
        exact ⟨z, z1, (R.back h3.pre z2 _ z3).mono hpre⟩
    · have o2 := h2.blk (σ i) _ y c1 hy'
      cases y with
      | none =>
        rcases o2 with o2 | o2
        · left
          have : (renL σ b.cells).length = 0 := by rw [show renL σ b.cells = [] from o2]; rfl
          rw [renL_length] at this
          exact List.eq_nil_of_length_eq_zero this
        · exact .inr o2
      | some L =>
        rcases o2 with o2 | ⟨c, el, fz, p1, p2, p3, p4⟩
        · exact .inl o2
        refine .inr ⟨c, el, fz, p1, fun j u hu => ?_, fun hx => by have := p3 hx; simpa [renL_length] using this, fun h0 => by have := p4 h0; simpa [renL_length] using this⟩
        obtain ⟨z, z1, z2⟩ := p2 j _ (renL_get hu)
        exact ⟨z, z1, R.ren hσ (bndL_get c2 hu) z2⟩
  have hst : ∀ (i : Nat) b, hT[i]? = some b → ∃ b', h'[σ i]? = some b' ∧ b'.st = b.st ∧ b'.x = b.x := by
    intro i b hb
    rcases ht.blk i b hb with ⟨c1, c2, c3⟩ | ⟨c1, c2⟩
    · exact ⟨b, by rw [ht.low i c1]; exact c3, rfl, rfl⟩
    · exact ⟨_, c1, rfl, rfl⟩
  have hown : ∀ {b b' : Blk}, b'.st = b.st ∧ b'.x = b.x → Own b → Own b' := fun h => by unfold Own; rw [h.1, h.2]; exact id
  have hliv : ∀ {b b' : Blk}, b'.st = b.st ∧ b'.x = b.x → Live b → Live b' := fun h => by unfold Live; rw [h.1, h.2]; exact id
  refine ⟨x, r2, he, R.ren hσ ht.bnd (by rw [← ht.val]; exact h1), ⟨by simp [r2], hblk, ?_, ?_, h2.glob, ?_, ?_⟩, ?_⟩
  · intro i b hb
    obtain ⟨b', e1, e2⟩ := hst i b hb
    rw [← e2.1]; exact h2.st _ _ e1
  · intro i j b b' L L' g1 g2 g3 g4 g5 g6 g7
    obtain ⟨c1, e1, e2⟩ := hst i b g1
    obtain ⟨c2, e3, e4⟩ := hst j b' g2
    have hi := (List.getElem?_eq_some_iff.1 g1).1
    have hj := (List.getElem?_eq_some_iff.1 g2).1
    exact h2.uniq (σ i) (σ j) c1 c2 L L' e1 e3 (hown e2 g3) (hliv e4 g4) (fun e => g5 (ht.inj i j hi hj e)) ((hr2 i _ hi).1 g6) ((hr2 j _ hj).1 g7)
  · intro g hg i b L g1 g2 g3
    obtain ⟨c1, e1, e2⟩ := hst i b g1
    have hi := (List.getElem?_eq_some_iff.1 g1).1
    exact h2.globn g hg (σ i) c1 L e1 (hown e2 g2) ((hr2 i _ hi).1 g3)
  · intro i b y g1 g2 g3 g4
    have hi := (List.getElem?_eq_some_iff.1 g1).1
    have hy' := (hr2 i y hi).1 g4
    rcases ht.blk i b g1 with ⟨c1, c2, c3⟩ | ⟨c1, c2⟩
    · rw [ht.low i c1] at hy'
      have hyr : r[i]? = some y := by
        have h5 : r[i]? = some r[i] := List.getElem?_eq_getElem (by omega)
        have := getElem?_pre h3.pre h5
        rw [hy'] at this; rw [h5, ← this]
      obtain ⟨L0, rfl, o1⟩ := hr.maps i b y c2 g2 g3 hyr
      obtain ⟨L, e, o2⟩ := h2.maps i b _ c3 g2 g3 hy'
      exact ⟨L, e, (o2.back h3.pre o1).mono hpre⟩
    · obtain ⟨L, e, o2⟩ := h2.maps (σ i) _ y c1 g2 g3 hy'
      exact ⟨L, e, o2.ren hσ c2⟩
  · refine ⟨hpre, h3.size, h3.os, h3.tape, h3.output, h3.block, ?_⟩
    intro i b L g1 g2 g3 g4
    obtain ⟨c1, e1, e2⟩ := hst i b g1
    have hi := (List.getElem?_eq_some_iff.1 g1).1
    exact h3.own (σ i) c1 L e1 (hown e2 g2) ((hr2 i _ hi).1 g3) g4
/-- no block is named -/
def flat : V → Bool
  | .b _ | .i _ _ | .s _ | .g _ _ | .c _ | .junk => true
  | _ => false
theorem renL_flat {σ : Nat → Nat} : ∀ {l : List V}, l.all flat = true → renL σ l = l
  | [], _ => rfl
  | v :: l, h => by
    simp only [List.all_cons, Bool.and_eq_true] at h
    rw [renL, renL_flat h.2]
    cases v <;> first | rfl | (simp [flat] at h)
theorem bndL_flat {m : Nat} : ∀ {l : List V}, l.all flat = true → bndL m l
  | [], _ => trivial
  | v :: l, h => by
    simp only [List.all_cons, Bool.and_eq_true] at h
    refine ⟨?_, bndL_flat h.2⟩
    cases v <;> first | trivial | (simp [flat] at h)
/-- nothing of old has turned -/
def Ext (h h' : Heap) : Prop := h.length ≤ h'.length ∧ ∀ i, i < h.length → hget h' i = hget h i
theorem Ext.get {h h' : Heap} (e : Ext h h') {i : Nat} {b : Blk} (hb : h[i]? = some b) : h'[i]? = some b := by
  have hi := (List.getElem?_eq_some_iff.1 hb).1
  have h1 := e.2 i hi
  unfold hget at h1
  rw [List.getD_eq_getElem?_getD, List.getD_eq_getElem?_getD, hb] at h1
  cases hc : h'[i]? with
  | none => have := e.1; rw [List.getElem?_eq_none_iff] at hc; omega
  | some c => rw [hc] at h1; simp at h1; rw [h1]
theorem Ext.refl (h : Heap) : Ext h h := ⟨Nat.le_refl _, fun _ _ => rfl⟩
theorem Ext.trans {a b c : Heap} (h1 : Ext a b) (h2 : Ext b c) : Ext a c := ⟨Nat.le_trans h1.1 h2.1, fun i hi => by rw [h2.2 i (by have := h1.1; omega), h1.2 i hi]⟩
theorem Ext.new {h h' : Heap} (e : Ext h h') (b : Blk) : Ext h (h' ++ [b]) := ⟨by have := e.1; simp; omega, fun i hi => by
  rw [← e.2 i hi]
  have := e.1
  unfold hget
  rw [List.getD_eq_getElem?_getD, List.getD_eq_getElem?_getD, List.getElem?_append_left (by omega)]⟩
theorem Ext.set {h h' : Heap} (e : Ext h h') {j : Nat} (hj : h.length ≤ j) (b : Blk) : Ext h (h'.set j b) := ⟨by simpa using e.1, fun i hi => by
  rw [← e.2 i hi]
  unfold hget
  rw [List.getD_eq_getElem?_getD, List.getD_eq_getElem?_getD, List.getElem?_set_ne (by omega)]⟩
/-- an answer that names no block, all else unturned -/
theorem Trim.flat {h h' : Heap} {v : V} (hv : renV id v = v ∧ bndV h.length v) (he : Ext h h') : Trim h v h' v h id where
  len := Nat.le_refl _
  low _ _ := rfl
  high i hi := by have := he.1; exact Nat.lt_of_lt_of_le hi this
  inj _ _ _ _ h := h
  val := hv.1.symm
  bnd := hv.2
  blk i b hb := .inl ⟨(List.getElem?_eq_some_iff.1 hb).1, hb, he.get hb⟩
def one (n m : Nat) : Nat → Nat := fun i => if i < n then i else m
/-- an answer that names one new block of plain cells -/
theorem Trim.one {h h' : Heap} {v v' : V} {m : Nat} {b : Blk} (hv : v' = renV (GoD.one h.length m) v) (hb : bndV (h.length + 1) v) (he : Ext h h') (hm : h.length ≤ m) (hml : m < h'.length) (hg : hget h' m = b) (hf : b.cells.all GoD.flat = true) : Trim h v' h' v (h ++ [b]) (GoD.one h.length m) where
  len := by simp
  low i hi := by simp [GoD.one, hi]
  high i hi := by have := he.1; simp [GoD.one]; split <;> omega
  inj i j hi hj h := by simp [GoD.one] at h hi hj; split at h <;> split at h <;> omega
  val := hv
  bnd := by simpa using hb
  blk i c hc := by
    rcases getElem?_snoc hc with hc | ⟨rfl, rfl⟩
    · exact .inl ⟨(List.getElem?_eq_some_iff.1 hc).1, hc, he.get hc⟩
    · refine .inr ⟨?_, bndL_flat hf⟩
      rw [renL_flat hf]
      have : GoD.one h.length m h.length = m := by simp [GoD.one]
      rw [this]
      unfold hget at hg
      rw [List.getD_eq_getElem?_getD, List.getElem?_eq_getElem hml] at hg
      rw [List.getElem?_eq_getElem hml]
      simpa using hg
abbrev Ct := List V → Heap → Option (V × Heap)
def look (l : List (FuncId × Ct)) (f : FuncId) : Ct := match l with
  | [] => fun _ _ => none
  | (g, c) :: l => if f = g then c else look l f
open Classical in
noncomputable def ctx (P : Program) (G : Nat → List V) (l : List (FuncId × Ct)) : Env := ⟨P, look l, G, fun a b => decide (a = b), fun _ _ h => of_decide_eq_true h, []⟩
open Classical in
/-- with orders of one's own -/
noncomputable def ctm (pm : List (Nat × List Nat × List Nat)) (P : Program) (G : Nat → List V) (l : List (FuncId × Ct)) : Env := ⟨P, look l, G, fun a b => decide (a = b), fun _ _ h => of_decide_eq_true h, pm⟩
theorem ctx_same {P : Program} {G : Nat → List V} {l : List (FuncId × Ct)} (h : Heap) : (ctx P G l).same h h = true := by simp [ctx]
def CtOk (P : Program) (G : Nat → List V) (f : FuncId) (c : Ct) : Prop := ∀ args h v h', c args h = some (v, h') → Known P G f args h v h'
theorem sound_nil {P : Program} {G : Nat → List V} : Sound (ctx P G []) := fun f args h v h' hc => by simp [ctx, look] at hc
theorem sound_cons {P : Program} {G : Nat → List V} {l : List (FuncId × Ct)} {f : FuncId} {c : Ct} (h : CtOk P G f c) (hl : Sound (ctx P G l)) : Sound (ctx P G ((f, c) :: l)) := fun g args hp v h' hc => by
  simp only [ctx, look] at hc
  split at hc
  · rename_i e; subst e; exact h _ _ _ _ hc
  · exact hl g args hp v h' hc
/-- well formed -/
def WF (v : V) : Prop := ∃ r x, R r v x
theorem ct_okM {P : Program} {G : Nat → List V} {l : List (FuncId × Ct)} (hm : P.follows .mixedOrders = true) (hl : Sound (ctx P G l)) (pm : List (Nat × List Nat × List Nat)) {f : FuncId} {c : Ct} {n : Nat} (hf : okFnM P pm f n = true)
    (hc : ∀ args h v h', c args h = some (v, h') → (∀ (r : List (Option Loc)) (xs : List Value) (H : Array Obj), HR G r h H → RL r args xs → args.length = n ∧ ∃ k v' h1 σ, callF (ctm pm P G l) k f args h = some (v', h1) ∧ Trim h v' h1 v h' σ)) : CtOk P G f c := by
  have hcall : Callable P f := by
    unfold okFnM at hf
    split at hf
    · rename_i fn hfn
      split at hf
      · rename_i b hb
        simp only [Bool.and_eq_true, Bool.not_eq_true'] at hf
        exact ⟨fn, hfn, by rw [hb]; rfl, hf.2⟩
      · cases hf
    · cases hf
  refine fun args h v h' h1 => .inl ⟨hcall, ?_⟩
  intro r w xs hr hx
  obtain ⟨e1, k, v', h2, σ, e2, e3⟩ := hc args h v h' h1 r xs w.heap hr hx
  exact (((call_ok (E := ctm pm P G l) hm hl (by rw [e1]; exact hf) e2).2).trim e3) r w xs hr hx
theorem ct_ok {P : Program} {G : Nat → List V} {l : List (FuncId × Ct)} (hm : P.follows .mixedOrders = true) (hl : Sound (ctx P G l)) {f : FuncId} {c : Ct} {n : Nat} (hf : okFn P f n = true)
    (hc : ∀ args h v h', c args h = some (v, h') → (∀ (r : List (Option Loc)) (xs : List Value) (H : Array Obj), HR G r h H → RL r args xs → args.length = n ∧ ∃ k v' h1 σ, callF (ctx P G l) k f args h = some (v', h1) ∧ Trim h v' h1 v h' σ)) : CtOk P G f c := ct_okM hm hl [] hf hc
theorem iter_mono {f g : Tm → Heap → Option (Ex × Tm × Heap)} (hf : ∀ t h x, f t h = some x → g t h = some x) : ∀ {m k : Nat}, m ≤ k → ∀ {t : Tm} {h : Heap} {x : Ex × Tm × Heap}, iter f m t h = some x → iter g k t h = some x
  | 0, k, _, t, h, x, he => by simp [iter] at he
  | m + 1, 0, hk, _, _, _, _ => by omega
  | m + 1, k + 1, hk, t, h, x, he => by
    simp only [iter] at he ⊢
    split at he
    · rename_i t' h' h1
      rw [hf _ _ _ h1]
      exact iter_mono hf (by omega) he
    · rename_i hne
      rw [hf _ _ _ he]
      obtain ⟨e, t', h'⟩ := x
      cases e with
      | n => exact absurd he (hne _ _)
      | r => rfl
      | e i => rfl
theorem exec_mono {E : Env} {n m : Nat} (hnm : n ≤ m) : ∀ (c : Code) {t : Tm} {h : Heap} {x : Ex × Tm × Heap}, exec E n c t h = some x → exec E m c t h = some x
  | .skip, _, _, _, h => h
  | .region _ _ _, _, _, _, h => h
  | .exit _, _, _, _, h => h
  | .ret, _, _, _, h => h
  | .seq a b, t, h, x, he => by
    simp only [exec] at he ⊢
    split at he
    · rename_i h1; rw [exec_mono hnm a h1]; exact exec_mono hnm b he
    · rename_i h1; rw [exec_mono hnm a h1]; exact he
    · rename_i h1; rw [exec_mono hnm a h1]; exact he
    · cases he
  | .cond c a b, t, h, x, he => by
    simp only [exec] at he ⊢
    split at he
    · split at he
      · rename_i h1; rw [if_pos h1]; exact exec_mono hnm a he
      · rename_i h1; rw [if_neg h1]; exact exec_mono hnm b he
    · cases he
  | .block id a, t, h, x, he => by
    simp only [exec] at he ⊢
    split at he
    · rename_i h1; rw [exec_mono hnm a h1]; exact he
    · rename_i h1; rw [exec_mono hnm a h1]; exact he
    · rename_i h1; rw [exec_mono hnm a h1]; exact he
    · cases he
  | .loop a, t, h, x, he => by
    simp only [exec] at he ⊢
    exact iter_mono (fun _ _ _ h1 => exec_mono hnm a h1) hnm he
  | .rangeFunc .., _, _, _, he => by simp [exec] at he
  | .scope _, _, _, _, he => by simp [exec] at he
  | .label _, _, _, _, he => by simp [exec] at he
  | .goto _, _, _, _, he => by simp [exec] at he
  | .refuse _, _, _, _, he => by simp [exec] at he
inductive Todo where
  | c (c : Code)
  | b (id : Nat)
  | again (c : Code)
def RunX (E : Env) (P : Ex → Tm → Heap → Prop) : List Todo → Ex → Tm → Heap → Prop
  | [], e, t, h => P e t h
  | .c c :: k, .n, t, h => ∃ n e' t' h', exec E n c t h = some (e', t', h') ∧ RunX E P k e' t' h'
  | .c _ :: k, e, t, h => RunX E P k e t h
  | .b id :: k, .e j, t, h => if j = id then RunX E P k .n t h else RunX E P k (.e j) t h
  | .b _ :: k, e, t, h => RunX E P k e t h
  | .again c :: k, .n, t, h => ∃ n e' t' h', iter (exec E n c) n t h = some (e', t', h') ∧ RunX E P k e' t' h'
  | .again _ :: k, e, t, h => RunX E P k e t h
/-- go on -/
def Run (E : Env) (P : Ex → Tm → Heap → Prop) (k : List Todo) (t : Tm) (h : Heap) : Prop := RunX E P k .n t h
section
variable (E : Env) (P : Ex → Tm → Heap → Prop) (k : List Todo) (t : Tm) (h : Heap)
theorem Run.of {c : Code} {n : Nat} {e : Ex} {t' : Tm} {h' : Heap} (h1 : exec E n c t h = some (e, t', h')) (h2 : RunX E P k e t' h') : Run E P (.c c :: k) t h := ⟨n, e, t', h', h1, h2⟩
theorem RunX_c (c : Code) (e : Ex) (he : e ≠ .n) : RunX E P (.c c :: k) e t h = RunX E P k e t h := by cases e <;> first | exact absurd rfl he | rfl
theorem RunX_again (c : Code) (e : Ex) (he : e ≠ .n) : RunX E P (.again c :: k) e t h = RunX E P k e t h := by cases e <;> first | exact absurd rfl he | rfl
theorem run_nil : Run E P [] t h = P .n t h := rfl
theorem run_skip : Run E P (.c .skip :: k) t h = Run E P k t h := by
  apply propext; constructor
  · rintro ⟨n, e, t', h', h1, h2⟩
    simp only [exec, Option.some.injEq, Prod.mk.injEq] at h1
    obtain ⟨rfl, rfl, rfl⟩ := h1; exact h2
  · exact fun h2 => ⟨0, .n, t, h, rfl, h2⟩
theorem run_ret : Run E P (.c .ret :: k) t h = RunX E P k .r t h := by
  apply propext; constructor
  · rintro ⟨n, e, t', h', h1, h2⟩
    simp only [exec, Option.some.injEq, Prod.mk.injEq] at h1
    obtain ⟨rfl, rfl, rfl⟩ := h1; exact h2
  · exact fun h2 => ⟨0, .r, t, h, rfl, h2⟩
theorem run_exit (id : Nat) : Run E P (.c (.exit id) :: k) t h = RunX E P k (.e id) t h := by
  apply propext; constructor
  · rintro ⟨n, e, t', h', h1, h2⟩
    simp only [exec, Option.some.injEq, Prod.mk.injEq] at h1
    obtain ⟨rfl, rfl, rfl⟩ := h1; exact h2
  · exact fun h2 => ⟨0, .e id, t, h, rfl, h2⟩
theorem run_blk (id : Nat) : Run E P (.b id :: k) t h = Run E P k t h := rfl
theorem runx_r_nil : RunX E P [] .r t h = P .r t h := rfl
theorem runx_r_c (c : Code) : RunX E P (.c c :: k) .r t h = RunX E P k .r t h := rfl
theorem runx_r_b (id : Nat) : RunX E P (.b id :: k) .r t h = RunX E P k .r t h := rfl
theorem runx_r_a (c : Code) : RunX E P (.again c :: k) .r t h = RunX E P k .r t h := rfl
theorem runx_e_c (c : Code) (j : Nat) : RunX E P (.c c :: k) (.e j) t h = RunX E P k (.e j) t h := rfl
theorem runx_e_a (c : Code) (j : Nat) : RunX E P (.again c :: k) (.e j) t h = RunX E P k (.e j) t h := rfl
theorem runx_e_b (id j : Nat) : RunX E P (.b id :: k) (.e j) t h = if j = id then Run E P k t h else RunX E P k (.e j) t h := rfl
theorem run_region (id : Nat) (ops : Array Oper) (d : Bool) : Run E P (.c (.region id ops d) :: k) t h = match regV E id ops d t h with
    | some (t', h') => Run E P k t' h'
    | none => False := by
  apply propext
  constructor
  · rintro ⟨n, e, t', h', h1, h2⟩
    simp only [exec] at h1
    split at h1
    · rename_i t1 h3 ho
      obtain ⟨rfl, rfl, rfl⟩ := by simpa using h1
      first | (rw [ho]; exact h2) | exact h2
    · cases h1
  · intro h1
    split at h1
    · rename_i t1 h3 ho
      exact ⟨0, .n, t1, h3, by simp only [exec, ho], h1⟩
    · exact h1.elim
theorem run_cond (c : Operand) (a b : Code) : Run E P (.c (.cond c a b) :: k) t h = match ev t c with
    | .b x => if x = true then Run E P (.c a :: k) t h else Run E P (.c b :: k) t h
    | _ => False := by
  apply propext
  constructor
  · rintro ⟨n, e, t', h', h1, h2⟩
    simp only [exec] at h1
    split at h1
    · rename_i x hx
      try rw [hx]
      cases x with
      | true => exact ⟨n, e, t', h', by simpa using h1, h2⟩
      | false => exact ⟨n, e, t', h', by simpa using h1, h2⟩
    · cases h1
  · intro h1
    split at h1
    · rename_i x hx
      cases x with
      | true =>
        obtain ⟨n, e, t', h', h3, h4⟩ := (by simpa using h1 : Run E P (.c a :: k) t h)
        exact ⟨n, e, t', h', by simp only [exec, hx, if_true]; exact h3, h4⟩
      | false =>
        obtain ⟨n, e, t', h', h3, h4⟩ := (by simpa using h1 : Run E P (.c b :: k) t h)
        exact ⟨n, e, t', h', by simp only [exec, hx]; exact h3, h4⟩
    · exact h1.elim
theorem run_seq (a b : Code) : Run E P (.c (.seq a b) :: k) t h = Run E P (.c a :: .c b :: k) t h := by
  apply propext
  constructor
  · rintro ⟨n, e, t', h', h1, h2⟩
    simp only [exec] at h1
    split at h1
    · rename_i t1 h3 h4
      exact ⟨n, .n, t1, h3, h4, n, e, t', h', h1, h2⟩
    · rename_i t1 h3 h4
      obtain ⟨rfl, rfl, rfl⟩ := by simpa using h1
      exact ⟨n, .r, _, _, h4, h2⟩
    · rename_i i t1 h3 h4
      obtain ⟨rfl, rfl, rfl⟩ := by simpa using h1
      exact ⟨n, .e i, _, _, h4, h2⟩
    · cases h1
  · rintro ⟨n, e, t', h', h1, h2⟩
    cases e with
    | n =>
      obtain ⟨m, e2, t2, h3, h4, h5⟩ := h2
      refine ⟨max n m, e2, t2, h3, ?_, h5⟩
      simp only [exec, exec_mono (Nat.le_max_left n m) a h1]
      exact exec_mono (Nat.le_max_right n m) b h4
    | r => exact ⟨n, .r, t', h', by simp only [exec, h1], h2⟩
    | e i => exact ⟨n, .e i, t', h', by simp only [exec, h1], h2⟩
theorem run_block (id : Nat) (a : Code) : Run E P (.c (.block id a) :: k) t h = Run E P (.c a :: .b id :: k) t h := by
  apply propext
  constructor
  · rintro ⟨n, e, t', h', h1, h2⟩
    simp only [exec] at h1
    split at h1
    · rename_i j t1 h3 h4
      refine ⟨n, .e j, t1, h3, h4, ?_⟩
      split at h1
      · rename_i hj
        obtain ⟨rfl, rfl, rfl⟩ := by simpa using h1
        simp only [RunX, if_pos hj]; exact h2
      · rename_i hj
        obtain ⟨rfl, rfl, rfl⟩ := by simpa using h1
        simp only [RunX, if_neg hj]; exact h2
    · rename_i t1 h3 h4
      obtain ⟨rfl, rfl, rfl⟩ := by simpa using h1
      exact ⟨n, .n, _, _, h4, h2⟩
    · rename_i t1 h3 h4
      obtain ⟨rfl, rfl, rfl⟩ := by simpa using h1
      exact ⟨n, .r, _, _, h4, h2⟩
    · cases h1
  · rintro ⟨n, e, t', h', h1, h2⟩
    cases e with
    | n => exact ⟨n, .n, t', h', by simp only [exec, h1], h2⟩
    | r => exact ⟨n, .r, t', h', by simp only [exec, h1], h2⟩
    | e j =>
      simp only [RunX] at h2
      split at h2
      · rename_i hj; exact ⟨n, .n, t', h', by simp only [exec, h1, if_pos hj], h2⟩
      · rename_i hj; exact ⟨n, .e j, t', h', by simp only [exec, h1, if_neg hj], h2⟩
theorem run_loop (a : Code) : Run E P (.c (.loop a) :: k) t h = Run E P (.again a :: k) t h := rfl
theorem run_again (a : Code) : Run E P (.again a :: k) t h = Run E P (.c a :: .again a :: k) t h := by
  apply propext
  constructor
  · rintro ⟨n, e, t', h', h1, h2⟩
    cases n with
    | zero => simp [iter] at h1
    | succ n =>
      simp only [iter] at h1
      split at h1
      · rename_i t1 h3 h4
        exact ⟨n + 1, .n, t1, h3, h4, n + 1, e, t', h', iter_mono (fun _ _ _ h => h) (Nat.le_succ n) h1, h2⟩
      · rename_i hne
        cases e with
        | n => exact absurd h1 (hne _ _)
        | r => exact ⟨n + 1, .r, t', h', h1, h2⟩
        | e i => exact ⟨n + 1, .e i, t', h', h1, h2⟩
  · rintro ⟨n, e, t', h', h1, h2⟩
    cases e with
    | n =>
      obtain ⟨m, e2, t2, h3, h4, h5⟩ := h2
      refine ⟨max n m + 1, e2, t2, h3, ?_, h5⟩
      have l1 : n ≤ max n m + 1 := by omega
      simp only [iter, exec_mono l1 a h1]
      exact iter_mono (fun _ _ _ h => exec_mono (by omega) a h) (by omega) h4
    | r => exact ⟨n + 1, .r, t', h', by simp only [iter, exec_mono (Nat.le_succ n) a h1], h2⟩
    | e i => exact ⟨n + 1, .e i, t', h', by simp only [iter, exec_mono (Nat.le_succ n) a h1], h2⟩
/-- a loop, by what holds at its head -/
theorem run_inv {α : Type} (I : α → Tm → Heap → Prop) (μ : α → Nat) (a : Code) {x : α} (h0 : I x t h) (hs : ∀ x t h, I x t h → (∀ y t' h', μ y < μ x → I y t' h' → Run E P (.again a :: k) t' h') → Run E P (.c a :: .again a :: k) t h) : Run E P (.again a :: k) t h := by
  have : ∀ (n : Nat) x t h, μ x = n → I x t h → Run E P (.again a :: k) t h := by
    intro n
    induction n using Nat.strongRecOn with
    | _ n ih =>
      intro x t h hn hI
      rw [run_again]
      exact hs x t h hI fun y t' h' hlt hy => ih (μ y) (by omega) y t' h' rfl hy
  exact this _ x t h rfl h0
end
/-- how a call's code ends -/
def Fini (E : Env) (rs : List ResultVar) (Q : V → Heap → Prop) (e : Ex) (t : Tm) (h : Heap) : Prop := (match e with | .e _ => False | _ => True) ∧ match resV E h t rs with | some v => Q v h | none => False
theorem call_of_run {E : Env} {f : FuncId} {fn : Func} {c : Code} (hf : E.P.funcs[f]? = some fn) (hb : fn.body = some c) {args : List V} {h : Heap} {Q : V → Heap → Prop} (hr : Run E (Fini E fn.results.toList Q) [.c c] args h) : ∃ n v h', callF E n f args h = some (v, h') ∧ Q v h' := by
  obtain ⟨n, e, t, h', h1, h2, h3⟩ := hr
  split at h3
  · rename_i v hv
    refine ⟨n, v, h', ?_, h3⟩
    cases e with
    | n => simp [callF, hf, bodyV, hb, h1, hv]
    | r => simp [callF, hf, bodyV, hb, h1, hv]
    | e i => exact h2.elim
  · exact h3.elim
theorem ct_run {P : Program} {G : Nat → List V} {l : List (FuncId × Ct)} (hm : P.follows .mixedOrders = true) (hl : Sound (ctx P G l)) {f n : FuncId} {fn : Func} {c : Code} {C : Ct} (hok : okFn P f n = true) (hf : P.funcs[f]? = some fn) (hb : fn.body = some c)
    (hc : ∀ args h v h', C args h = some (v, h') → ∀ (r : List (Option Loc)) (xs : List Value) (H : Array Obj), HR G r h H → RL r args xs → args.length = n ∧ Run (ctx P G l) (Fini (ctx P G l) fn.results.toList fun v' h1 => ∃ σ, Trim h v' h1 v h' σ) [.c c] args h) : CtOk P G f C :=
  ct_ok hm hl hok fun args h v h' h1 r xs H hr hx => by
    obtain ⟨e1, e2⟩ := hc args h v h' h1 r xs H hr hx
    obtain ⟨k, v', h2, e3, σ, e4⟩ := call_of_run (E := ctx P G l) hf hb e2
    exact ⟨e1, k, v', h2, σ, e3, e4⟩
theorem ct_runM {P : Program} {G : Nat → List V} {l : List (FuncId × Ct)} (hm : P.follows .mixedOrders = true) (hl : Sound (ctx P G l)) (pm : List (Nat × List Nat × List Nat)) {f n : FuncId} {fn : Func} {c : Code} {C : Ct} (hok : okFnM P pm f n = true) (hf : P.funcs[f]? = some fn) (hb : fn.body = some c)
    (hc : ∀ args h v h', C args h = some (v, h') → ∀ (r : List (Option Loc)) (xs : List Value) (H : Array Obj), HR G r h H → RL r args xs → args.length = n ∧ Run (ctm pm P G l) (Fini (ctm pm P G l) fn.results.toList fun v' h1 => ∃ σ, Trim h v' h1 v h' σ) [.c c] args h) : CtOk P G f C :=
  ct_okM hm hl pm hok fun args h v h' h1 r xs H hr hx => by
    obtain ⟨e1, e2⟩ := hc args h v h' h1 r xs H hr hx
    obtain ⟨k, v', h2, e3, σ, e4⟩ := call_of_run (E := ctm pm P G l) hf hb e2
    exact ⟨e1, k, v', h2, σ, e3, e4⟩
/-- a contract that is the run itself -/
noncomputable def rct (E : Env) (f : FuncId) (n : Nat) : Ct := fun args h => open Classical in if hx : args.length = n ∧ ∃ (k : Nat) (x : V × Heap), callF E k f args h = some x then some (Classical.choose (Classical.choose_spec hx.2)) else none
theorem rct_ok {P : Program} {G : Nat → List V} {l : List (FuncId × Ct)} (hm : P.follows .mixedOrders = true) (hl : Sound (ctx P G l)) (pm : List (Nat × List Nat × List Nat)) {f n : FuncId} (hok : okFnM P pm f n = true) : CtOk P G f (rct (ctm pm P G l) f n) := by
  intro args h v h' h1
  unfold rct at h1
  split at h1
  · rename_i hx
    have h2 := Classical.choose_spec (Classical.choose_spec hx.2)
    rw [Option.some.inj h1] at h2
    exact .inl (call_ok (E := ctm pm P G l) hm hl (by rw [hx.1]; exact hok) h2)
  · cases h1
theorem exec_one {E : Env} {n m : Nat} {c : Code} {t : Tm} {h : Heap} {x y : Ex × Tm × Heap} (h1 : exec E n c t h = some x) (h2 : exec E m c t h = some y) : x = y := by
  have e1 := exec_mono (Nat.le_max_left n m) c h1
  have e2 := exec_mono (Nat.le_max_right n m) c h2
  rw [e1] at e2; exact Option.some.inj e2
theorem rct_run {P : Program} {G : Nat → List V} {l : List (FuncId × Ct)} (pm : List (Nat × List Nat × List Nat)) {f n : FuncId} {fn : Func} {c : Code} (hf : P.funcs[f]? = some fn) (hb : fn.body = some c) {args : List V} {h : Heap} {Q : V → Heap → Prop} (hn : args.length = n)
    (hr : Run (ctm pm P G l) (Fini (ctm pm P G l) fn.results.toList Q) [.c c] args h) : ∃ v h', rct (ctm pm P G l) f n args h = some (v, h') ∧ Q v h' := by
  obtain ⟨k, v, h1, h2, h3⟩ := call_of_run (E := ctm pm P G l) hf hb hr
  have hx : args.length = n ∧ ∃ (k : Nat) (x : V × Heap), callF (ctm pm P G l) k f args h = some x := ⟨hn, k, _, h2⟩
  refine ⟨v, h1, ?_, h3⟩
  unfold rct
  rw [dif_pos hx]
  have h4 := Classical.choose_spec (Classical.choose_spec hx.2)
  generalize Classical.choose (Classical.choose_spec hx.2) = y at h4
  generalize Classical.choose hx.2 = k2 at h4
  congr 1
  have one : ∀ {k1 k2 : Nat} {x y : V × Heap}, callF (ctm pm P G l) k1 f args h = some x → callF (ctm pm P G l) k2 f args h = some y → x = y := by
    intro k1 k2 x y g1 g2
    have hf' : (ctm pm P G l).P.funcs[f]? = some fn := hf
    simp only [callF, hf', bodyV, hb] at g1 g2
    cases e1 : exec (ctm pm P G l) k1 c args h with
    | none => rw [e1] at g1; cases g1
    | some x1 => cases e2 : exec (ctm pm P G l) k2 c args h with
      | none => rw [e2] at g2; cases g2
      | some x2 =>
        obtain rfl := exec_one e1 e2
        rw [e1] at g1; rw [e2] at g2
        rw [g1] at g2; exact Option.some.inj g2
  exact one h4 h2
theorem ctm_P {pm : List (Nat × List Nat × List Nat)} {P : Program} {G : Nat → List V} {l : List (FuncId × Ct)} : (ctm pm P G l).P = P := rfl
theorem ctm_G {pm : List (Nat × List Nat × List Nat)} {P : Program} {G : Nat → List V} {l : List (FuncId × Ct)} : (ctm pm P G l).G = G := rfl
theorem ctm_call {pm : List (Nat × List Nat × List Nat)} {P : Program} {G : Nat → List V} {l : List (FuncId × Ct)} : (ctm pm P G l).call = look l := rfl
theorem ctm_pm {pm : List (Nat × List Nat × List Nat)} {P : Program} {G : Nat → List V} {l : List (FuncId × Ct)} : (ctm pm P G l).pm = pm := rfl
theorem ctm_same {pm : List (Nat × List Nat × List Nat)} {P : Program} {G : Nat → List V} {l : List (FuncId × Ct)} (h : Heap) : (ctm pm P G l).same h h = true := by simp [ctm]
theorem ctx_pm {P : Program} {G : Nat → List V} {l : List (FuncId × Ct)} : (ctx P G l).pm = [] := rfl
theorem regV_f (E : Env) (id : Nat) (ops : Array Oper) (t : Tm) (h : Heap) : regV E id ops false t h = ops1 E ops ops.toList t h := rfl
theorem regV_t (E : Env) (id : Nat) (ops : Array Oper) (t : Tm) (h : Heap) : regV E id ops true t h = match pmL E.pm id with
    | none => ops1 (quiet E) ops ops.toList t h
    | some q => match pmM E.pm id with
      | _ :: τ :: L => allS E q.2 ops t h q.1 (τ :: L)
      | _ => opsS E q.2 ops (pick ops q.1) t h := rfl
theorem opsS_nil (E : Env) (S : List Nat) (ops : Array Oper) (t : Tm) (h : Heap) : opsS E S ops [] t h = some (t, h) := rfl
theorem opsS_cons (E : Env) (S : List Nat) (ops : Array Oper) (o : Oper) (os : List Oper) (t : Tm) (h : Heap) : opsS E S ops (o :: os) t h = match wantV ops t o with
    | some true => match op1S E S (ev t) h o with
      | some (v, h') => opsS E S ops os (put t o.dst v) h'
      | none => none
    | some false => opsS E S ops os (put t o.dst (.c (.tuple #[]))) h
    | none => none := rfl
theorem stillm_call {pm : List (Nat × List Nat × List Nat)} {P : Program} {G : Nat → List V} {l : List (FuncId × Ct)} {f : FuncId} {a : List V} {h : Heap} : (still (ctm pm P G l)).call f a h = if flatL a = true then (match look l f a [] with
  | some (v, _) => if flatV v = true then some (v, h) else none
  | none => none) else none := rfl
theorem quietm_call {pm : List (Nat × List Nat × List Nat)} {P : Program} {G : Nat → List V} {l : List (FuncId × Ct)} {f : FuncId} {a : List V} {h : Heap} : (quiet (ctm pm P G l)).call f a h = match look l f a h with
  | some (v, h') => if (ctm pm P G l).same h' h then some (v, h) else none
  | none => none := rfl
theorem still_P (E : Env) : (still E).P = E.P := rfl
theorem still_G (E : Env) : (still E).G = E.G := rfl
/-- a call that answers plainly and leaves all as it was -/
theorem ct_plain {P : Program} {G : Nat → List V} {l : List (FuncId × Ct)} (hm : P.follows .mixedOrders = true) (hl : Sound (ctx P G l)) {f n : FuncId} {fn : Func} {c : Code} {C : Ct} (hok : okFn P f n = true) (hf : P.funcs[f]? = some fn) (hb : fn.body = some c)
    (hc : ∀ args h v h', C args h = some (v, h') → ∀ (r : List (Option Loc)) (xs : List Value) (H : Array Obj), HR G r h H → RL r args xs → args.length = n ∧ h' = h ∧ (renV id v = v ∧ bndV h.length v) ∧ Run (ctx P G l) (Fini (ctx P G l) fn.results.toList fun v' h1 => v' = v ∧ Ext h h1) [.c c] args h) : CtOk P G f C :=
  ct_ok hm hl hok fun args h v h' h1 r xs H hr hx => by
    obtain ⟨e1, rfl, e2, e3⟩ := hc args h v h' h1 r xs H hr hx
    obtain ⟨k, v', h2, e4, rfl, e5⟩ := call_of_run (E := ctx P G l) hf hb e3
    exact ⟨e1, k, v', h2, id, e4, Trim.flat e2 e5⟩
theorem ops1_cons (E : Env) (ops : Array Oper) (o : Oper) (os : List Oper) (t : Tm) (h : Heap) : ops1 E ops (o :: os) t h = match wantV ops t o with
    | some true => match op1 E (ev t) h o with
      | some (v, h') => ops1 E ops os (put t o.dst v) h'
      | none => none
    | some false => ops1 E ops os (put t o.dst (.c (.tuple #[]))) h
    | none => none := rfl
theorem ops1_nil (E : Env) (ops : Array Oper) (t : Tm) (h : Heap) : ops1 E ops [] t h = some (t, h) := rfl
theorem hget_new (h : Heap) (b : Blk) (i : Nat) : hget (h ++ [b]) i = if i = h.length then b else hget h i := by
  unfold hget
  rw [List.getD_eq_getElem?_getD, List.getD_eq_getElem?_getD, List.getElem?_append]
  by_cases h1 : i < h.length
  · rw [if_pos h1, if_neg (by omega)]
  · rw [if_neg h1]
    by_cases h2 : i = h.length
    · rw [if_pos h2, h2, Nat.sub_self]; rfl
    · rw [if_neg h2, List.getElem?_eq_none (by simp; omega), List.getElem?_eq_none (by omega)]
theorem hget_set (h : Heap) (b : Blk) (i j : Nat) : hget (h.set i b) j = if i = j ∧ i < h.length then b else hget h j := by
  unfold hget
  rw [List.getD_eq_getElem?_getD, List.getD_eq_getElem?_getD, List.getElem?_set]
  by_cases h1 : i = j
  · subst h1
    by_cases h2 : i < h.length
    · simp [h2]
    · simp [h2]
  · simp [h1]
theorem len_new (h : Heap) (b : Blk) : (h ++ [b]).length = h.length + 1 := by simp
/-- plain answers -/
theorem Trim.plain {h h' : Heap} {v : V} (he : Ext h h') (hv : renV id v = v ∧ bndV h.length v) : ∃ σ, Trim h v h' v h σ := ⟨id, Trim.flat hv he⟩
theorem str_of {r : List (Option Loc)} {l : List Int} {a : List V} {xs : List Value} (h : RL r (.s l :: a) xs) : Str l ∧ ∃ ys, RL r a ys := by
  cases h with | cons h1 h2 => cases h1 with | s _ h => exact ⟨h, _, h2⟩
theorem int_of {r : List (Option Loc)} {k : IntKind} {n : Int} {a : List V} {xs : List Value} (h : RL r (.i k n :: a) xs) : (lo k ≤ n ∧ n < hi k) ∧ ∃ ys, RL r a ys := by
  cases h with | cons h1 h2 => cases h1 with | i _ _ h => exact ⟨(wrap_iff k n).1 h, _, h2⟩
theorem w8 (x : Int) : IntKind.u8.wrap x = x % 256 := IntKind.wrap_u8 x
theorem w64 {x : Int} (h : -9223372036854775808 ≤ x ∧ x < 9223372036854775808) : IntKind.i64.wrap x = x := by rw [wrap_iff]; simpa [lo, hi, IntKind.signed, IntKind.bits] using h
theorem ctx_P {P : Program} {G : Nat → List V} {l : List (FuncId × Ct)} : (ctx P G l).P = P := rfl
theorem ctx_G {P : Program} {G : Nat → List V} {l : List (FuncId × Ct)} : (ctx P G l).G = G := rfl
theorem ctx_call {P : Program} {G : Nat → List V} {l : List (FuncId × Ct)} : (ctx P G l).call = look l := rfl
/-- a call that is known to leave all that was as it was -/
theorem ok_below {P : Program} {G : Nat → List V} {f : FuncId} {args : List V} {h : Heap} {v : V} (hc : ∀ (r : List (Option Loc)) (w : World) (xs : List Value), RL r args xs → Calls P f xs.toArray w fun e w' => ∃ x, e = .returned x ∧ R r v x ∧ Go.RowKit.Below w.heap.size w w') : Ok P G f args h v h := fun r w xs hr hx =>
  (hc r w xs hx).mono fun e w' ⟨x, h1, h2, h3⟩ => ⟨x, r, h1, h2, hr.heap (fun i b L a1 a2 a3 => h3.block _ (hr.lt a1 a2 a3)) fun g hg => h3.block _ (hr.glt hg),
    ⟨List.prefix_refl _, h3.size, h3.os, h3.tape, h3.output, fun k hk _ => h3.block k hk, fun i b L a1 a2 a3 _ => ⟨i, b, L, a1, a2, a3, rfl⟩⟩⟩
/-- what a call answers in an empty heap, plainly, it answers in any -/
theorem Ok.frame {P : Program} {G : Nat → List V} {f : FuncId} {args : List V} {v : V} {h h' : Heap} (hok : Ok P G f args [] v h') (ha : args.all flat = true) (hv : flat v = true) : Ok P G f args h v h := by
  have fl : ∀ {r r' : List (Option Loc)} {v : V} {x : Value}, flat v = true → R r v x → R r' v x := by
    intro r r' v x hf hr
    cases hr <;> simp [flat] at hf
    · exact .junk _
    · exact .b _
    · rename_i h; exact .i _ _ h
    · rename_i h; exact .s _ h
    · exact .g _ _
    · exact .c _
  have fll : ∀ {r r' : List (Option Loc)} {l : List V} {xs : List Value}, l.all flat = true → RL r l xs → RL r' l xs := by
    intro r r' l
    induction l with
    | nil => intro xs _ h; cases h; exact .nil
    | cons v l ih =>
      intro xs hf h
      cases h with
      | cons h1 h2 =>
        simp only [List.all_cons, Bool.and_eq_true] at hf
        exact .cons (fl hf.1 h1) (ih hf.2 h2)
  intro r w xs hr hx
  have h0 : HR G [] [] w.heap := ⟨rfl, fun i b y h1 => by simp at h1, fun i b h1 => by simp at h1, fun i j b b' L L' h1 => by simp at h1, hr.glob, fun g hg i b L h1 => by simp at h1, fun i b y h1 => by simp at h1⟩
  refine (hok [] w xs h0 (fll ha hx)).mono ?_
  rintro e w' ⟨x, r', h1, h2, h3, h4⟩
  have hb : ∀ k, k < w.heap.size → w'.heap[k]? = w.heap[k]? := fun k hk => h4.block k hk fun i b L h5 => by simp at h5
  exact ⟨x, r, h1, fl hv h2, hr.heap (fun i b L a1 a2 a3 => hb _ (hr.lt a1 a2 a3)) fun g hg => hb _ (hr.glt hg),
    ⟨List.prefix_refl _, h4.size, h4.os, h4.tape, h4.output, fun k hk _ => hb k hk, fun i b L a1 a2 a3 _ => ⟨i, b, L, a1, a2, a3, rfl⟩⟩⟩
def argsOk (P : Program) (f : FuncId) (n : Nat) : Bool := match P.funcs[f]? with | some fn => decide (n ≤ fn.ntmps) | none => false
/-- calls by the code itself, n deep; loops go k rounds at most; the functions of 'bad' are left out -/
def callN (P : Program) (G : Nat → List V) (bad tr : List FuncId) (pmF : FuncId → List (Nat × List Nat × List Nat)) (ext : List (FuncId × Ct)) (k : Nat) : Nat → FuncId → List V → Heap → Option (V × Heap)
  | 0, _, _, _ => none
  | n + 1, f, args, h => match GoD.look ext f args h with
    | some x => some x
    | none => if bad.contains f || !argsOk P f args.length then none else match callF ⟨P, callN P G bad tr pmF ext k n, G, beqH, fun _ _ => beqH_eq, pmF f⟩ k f args h with
      | some (v, h') => if tr.contains f = true then (if flat v && beqH (List.take h.length h') h then some (v, h) else some (v, h')) else some (v, h')
      | none => none
def okFn' (P : Program) (pmF : FuncId → List (Nat × List Nat × List Nat)) (f : FuncId) : Bool := match P.funcs[f]? with
  | some fn => match fn.body with
    | some c => okCode (pmF f) fn.ntmps c && !(fn.name == "runtime.NumGoroutine")
    | none => true
  | none => true
def okAll (P : Program) (bad : List FuncId) (pmF : FuncId → List (Nat × List Nat × List Nat)) : Bool := (List.range P.funcs.size).all fun f => bad.contains f || okFn' P pmF f
theorem callN_ok {P : Program} {G : Nat → List V} {bad tr : List FuncId} {pmF : FuncId → List (Nat × List Nat × List Nat)} {ext : List (FuncId × Ct)} {k : Nat} (hm : P.follows .mixedOrders = true) (ha : okAll P bad pmF = true) (he : Sound (ctx P G ext)) : ∀ n, ∀ pm, Sound ⟨P, callN P G bad tr pmF ext k n, G, beqH, fun _ _ => beqH_eq, pm⟩
  | 0 => fun pm f args h v h' hc => by simp [callN] at hc
  | n + 1 => fun pm f args h v h' hc => by
    simp only [callN] at hc
    split at hc
    · rename_i x hx
      obtain rfl := Option.some.inj hc
      exact he f args h v h' hx
    · split at hc
      · cases hc
      · rename_i hb
        simp only [Bool.or_eq_true, Bool.not_eq_true', not_or, Bool.not_eq_true, Bool.not_eq_false] at hb
        split at hc
        · rename_i v1 h1 h2
          have hok : okFnM P (pmF f) f args.length = true := by
            have hA := hb.2
            unfold argsOk at hA
            unfold callF at h2
            split at h2
            · rename_i fn hfn
              simp only at hfn
              have hlt : f < P.funcs.size := (Array.getElem?_eq_some_iff.1 hfn).1
              have := List.all_eq_true.1 ha f (by simpa using hlt)
              rw [hb.1, Bool.false_or] at this
              unfold okFn' at this
              unfold okFnM
              rw [hfn] at this hA ⊢
              simp only at this hA ⊢
              cases hbd : fn.body with
              | none => simp [bodyV, hbd] at h2
              | some c =>
                rw [hbd] at this
                simp only [Bool.and_eq_true] at this ⊢
                exact ⟨⟨this.1, hA⟩, this.2⟩
            · cases h2
          obtain ⟨c1, c2⟩ := call_ok (E := ⟨P, callN P G bad tr pmF ext k n, G, beqH, fun _ _ => beqH_eq, pmF f⟩) hm (callN_ok hm ha he n (pmF f)) hok h2
          by_cases htr : ¬ tr.contains f = true
          · rw [if_neg htr] at hc
            obtain ⟨rfl, rfl⟩ := Prod.mk.inj (Option.some.inj hc)
            exact .inl ⟨c1, c2⟩
          rw [if_pos (Classical.not_not.1 htr)] at hc
          split at hc
          · rename_i hq
            obtain ⟨rfl, rfl⟩ := Prod.mk.inj (Option.some.inj hc)
            simp only [Bool.and_eq_true] at hq
            have hq2 := beqH_eq hq.2
            refine .inl ⟨c1, c2.trim (σ := id) (Trim.flat ?_ ?_)⟩
            · cases v1 <;> simp [flat] at hq <;> simp [renV, bndV]
            · have hl : h.length ≤ h1.length := by
                have := congrArg List.length hq2
                rw [List.length_take] at this; omega
              refine ⟨hl, fun i hi => ?_⟩
              unfold hget
              have e : h[i]? = h1[i]? := by
                have := List.getElem?_take_of_lt (l := h1) hi
                rw [← this, hq2]
              rw [List.getD_eq_getElem?_getD, List.getD_eq_getElem?_getD, e]
          · obtain ⟨rfl, rfl⟩ := Prod.mk.inj (Option.some.inj hc)
            exact .inl ⟨c1, c2⟩
        · cases hc
/-- a plain answer of a call at plain arguments, reckoned -/
theorem reckon {P : Program} {G : Nat → List V} {bad tr : List FuncId} {pmF : FuncId → List (Nat × List Nat × List Nat)} {ext : List (FuncId × Ct)} {k n : Nat} {f : FuncId} {args : List V} {v : V} {h' : Heap} (hm : P.follows .mixedOrders = true) (ha : okAll P bad pmF = true) (he : Sound (ctx P G ext)) (hr : callN P G bad tr pmF ext k n f args [] = some (v, h')) (h1 : args.all flat = true) (h2 : flat v = true) (h3 : callableB P f = true) :
    ∀ h, Known P G f args h v h := fun h => by
  rcases callN_ok hm ha he n [] f args [] v h' hr with ⟨_, h4⟩ | ⟨rfl, h4⟩
  · exact .inl ⟨callable_of h3, h4.frame h1 h2⟩
  · exact .inr ⟨rfl, h4⟩
theorem ldN_lit (v : V) (c : List V) (o n : Nat) : ldN (v :: c) o n = if o + n ≤ (v :: c).length then some (((v :: c).drop o).take n) else none := rfl
theorem ldN_00 (c : List V) : ldN c 0 0 = some [] := rfl
theorem quiet_P (E : Env) : (quiet E).P = E.P := rfl
theorem quiet_pm (E : Env) : (quiet E).pm = E.pm := rfl
theorem still_pm (E : Env) : (still E).pm = E.pm := rfl
theorem quiet_G (E : Env) : (quiet E).G = E.G := rfl
theorem quiet_call {P : Program} {G : Nat → List V} {l : List (FuncId × Ct)} {f : FuncId} {a : List V} {h : Heap} : (quiet (ctx P G l)).call f a h = match look l f a h with
  | some (v, h') => if (ctx P G l).same h' h then some (v, h) else none
  | none => none := rfl
attribute [go_sem] quiet_pm still_pm quiet_P quiet_G quiet_call ctx_same still_P still_G stillm_call quietm_call ctm_same ctm_P ctm_G ctm_call ctm_pm ctx_pm regV_f regV_t opsS_nil opsS_cons op1S pmL pmM pick envS isS isG isL growE envS_P envS_G flatV flatL nilV
attribute [go_sem] nilKept List.any_nil List.any_cons lookupV entsV keyD findV mapAt updateV deleteV rangeV nextV entryV cutN capV appendZ zeroVT bornOf assignV isNilSl appendV newV sliceCells ldN_lit ldN_00 loadV cellsAt aggT storeV cellsV isOne spl buildV buildSliceV fillV repL cutV off indexAddrV partV fieldV fieldAddrV min2V max2V makeSliceV bytesV eqV eqF eqK unV Nat.add_zero
attribute [go_sem] run_nil run_skip run_ret run_exit run_blk runx_r_nil runx_r_c runx_r_b runx_r_a runx_e_c runx_e_a runx_e_b run_region run_cond run_seq run_block run_loop ops1_cons ops1_nil wantV op1 ev put get_set GoD.get cv cv1 binV intOp strOp convV unV indexV lenV Fini resV resL ctx_P ctx_G ctx_call GoD.look hget_new hget_set len_new w8
attribute [go_sem] if_true if_false Option.map_some Option.map_none List.map_cons List.map_nil List.getElem?_cons_zero List.getElem?_cons_succ Option.bind_some Option.bind_none beq_self_eq_true Bool.and_true Bool.true_and Bool.and_false Bool.false_and Bool.or_true Bool.true_or Bool.or_false Bool.false_or Bool.not_true Bool.not_false decide_true decide_false ge_iff_le gt_iff_lt true_and and_true false_and and_false
theorem b2 : (true == true) = true := rfl
theorem b3 : (true == false) = false := rfl
theorem b4 : (false == true) = false := rfl
theorem b5 : (false == false) = true := rfl
attribute [go_sem] b2 b3 b4 b5 Bool.false_eq_true List.append_nil List.cons_append List.nil_append
end GoD
