import Derived.MapKept
import Derived.Test.YtcaaebjjgbcjpaaGreatDoorDB
/-! Maps: what the plain machine does with them is what the model does. -/
namespace GoD
open Go
set_option linter.unusedVariables false
set_option linter.unusedSimpArgs false
section
variable {E : Env} {w : World} {r : List (Option Loc)} {h : Heap}
theorem same_ok {x y : V} {a : Bool} {X Y : Value} (hx : R r x X) (hy : R r y Y) {d : TypeDesc} (h : eqK d x y = some a) : Instr.sameNow d X Y = some a ∧ (∃ d', MapKept.IsKey d' X) ∧ (a = true → Y = X) := by
  unfold eqK at h
  split at h
  · rename_i x y
    cases hx with
    | b _ => cases hy with
      | b _ =>
        simp only [Option.some.injEq] at h
        subst h
        exact ⟨rfl, ⟨.bool, trivial⟩, fun e => by rw [eq_of_beq e]⟩
  · rename_i k0 k x k' y
    cases hx with
    | i _ _ hx => cases hy with
      | i _ _ hy =>
        split at h
        · rename_i hk
          subst hk
          simp only [Option.some.injEq] at h
          subst h
          exact ⟨by simp [Instr.sameNow], ⟨.int k, rfl⟩, fun e => by rw [eq_of_beq e]⟩
        · cases h
  · rename_i l l'
    cases hx with
    | s _ hl => cases hy with
      | s _ hl' =>
        simp only [Option.some.injEq] at h
        subst h
        refine ⟨?_, ⟨.string, trivial⟩, fun e => by rw [eq_of_beq e]⟩
        have hb : (toBA l == toBA l') = (l == l') := by
          cases e : l == l' with
          | true => rw [eq_of_beq e]; exact (MapKept.bytes_beq _ _).2 rfl
          | false =>
            cases e2 : toBA l == toBA l' with
            | false => rfl
            | true =>
              rw [toBA_inj hl hl' ((MapKept.bytes_beq _ _).1 e2)] at e
              simp at e
        simp [Instr.sameNow, hb]
  · cases h
theorem bornOf_tup (k v : V) (n : Int) : bornOf (.tup [k, v, .i .i64 n]) = n := rfl
theorem findV_ok {d : TypeDesc} {k : V} {K : Value} (hk : R r k K) : ∀ {l : List V} {es : List MapEntry}, ER r l es → ∀ {i : Nat} {res : Option (Nat × V)}, findV d k l i = some res →
    (res = none ∧ Instr.findNow d K es i = some none) ∨ ∃ j v e k', res = some (i + j, v) ∧ Instr.findNow d K es i = some (some (i + j, e.val)) ∧ R r v e.val ∧ es[j]? = some e ∧ l[j]? = some (.tup [k', v, .i .i64 e.born]) ∧ e.key = K ∧ ∃ d', MapKept.IsKey d' K := by
  intro l es hl
  induction hl with
  | nil =>
    intro i res hf
    simp [findV] at hf
    exact .inl ⟨hf.symm, rfl⟩
  | cons hk0 hv0 t ih =>
    rename_i k0 v0 e0 l0 es0
    intro i res hf
    unfold findV at hf
    split at hf
    · rename_i he
      obtain ⟨h1, h2, h3⟩ := same_ok hk hk0 he
      obtain rfl := Option.some.inj hf
      refine .inr ⟨0, v0, e0, k0, rfl, ?_, hv0, rfl, rfl, h3 rfl, h2⟩
      simp [Instr.findNow, h1]
    · rename_i he
      obtain ⟨h1, h2, h3⟩ := same_ok hk hk0 he
      rcases ih hf with ⟨a, b⟩ | ⟨j, v, e, k', a, b, c, d', e', f, g⟩
      · exact .inl ⟨a, by simp [Instr.findNow, h1, b]⟩
      · refine .inr ⟨j + 1, v, e, k', by rw [a]; congr 2; omega, ?_, c, by simpa using d', by simpa using e', f, g⟩
        simp [Instr.findNow, h1, b]; omega
    · cases hf
theorem keyD_ok {t : TypeId} {d : TypeDesc} (h : keyD E.P t = some d) : E.P.underlying t = some d ∧ (d = .bool ∨ (∃ k, d = .int k) ∨ d = .string) := by
  unfold keyD at h
  split at h
  · rename_i hu; obtain rfl := Option.some.inj h; exact ⟨hu, .inl rfl⟩
  · rename_i k hu; obtain rfl := Option.some.inj h; exact ⟨hu, .inr (.inl ⟨_, rfl⟩)⟩
  · rename_i hu; obtain rfl := Option.some.inj h; exact ⟨hu, .inr (.inr rfl)⟩
  · cases h
theorem check_ok {t : TypeId} {d : TypeDesc} (h : keyD E.P t = some d) (e : Bool) (n : Nat) (K : Value) : (Instr.checkKey e (n + 1) t K).run E.P w = .ok () w := by
  obtain ⟨hu, hd⟩ := keyD_ok h
  unfold Instr.checkKey
  simp only [Sem.run_bind, run_und E.P w hu, Result.andThen_ok]
  rcases hd with rfl | ⟨k, rfl⟩ | rfl <;> simp
theorem mapAt_ok (hr : HR E.G r h w.heap) {b : Nat} {c : Nat} {l : List V} (hm : mapAt h b = some (c, l)) {X : Value} (hx : R r (.m b) X) :
    ∃ L es, r[b]? = some (some L) ∧ h[b]? = some ⟨0, true, .i .i64 c :: l⟩ ∧ X = .map (some L.block) ∧ w.heap[L.block]? = some (.map es c) ∧ ER r l es.toList := by
  unfold mapAt at hm
  split at hm
  · rename_i cc ll hb
    obtain ⟨rfl, rfl⟩ := Prod.mk.inj (Option.some.inj hm)
    have hb' := hget_live hb (.inr rfl)
    cases hx with
    | m _ L hL =>
      obtain ⟨L', e, hmo⟩ := hr.maps b _ _ hb' rfl rfl hL
      obtain rfl := Option.some.inj e
      rcases hmo with ⟨es, clock, l, h1, h2, h3⟩ | ⟨b0, Lb, since, last, seen, h1, h2, h3⟩ | ⟨h1, _⟩
      · simp only [List.cons.injEq, V.i.injEq] at h1
        obtain ⟨⟨_, rfl⟩, rfl⟩ := h1
        exact ⟨L, es, hL, by simpa using hb', rfl, by simpa using h2, h3⟩
      · simp at h1
      · simp at h1
  · cases hm
theorem zeroVT_ok {t : TypeId} {v : V} (hz : zeroVT E.P t = some v) : ∃ z, (zeroValue t).run E.P w = .ok z w ∧ R r v z := by
  unfold zeroVT at hz
  split at hz
  · rename_i i hi
    split at hz
    · rename_i z hz0
      split at hz
      · rename_i ha
        obtain rfl := Option.some.inj hz
        exact ⟨z, by simp [zeroValue, typeInfo, hi, hz0], cv_ok ha⟩
      · cases hz
    · cases hz
  · cases hz
theorem ER.length : ∀ {l : List V} {es : List MapEntry}, ER r l es → es.length = l.length
  | _, _, .nil => rfl
  | _, _, .cons _ _ t => by simp [t.length]
theorem ER.append : ∀ {l m : List V} {es fs : List MapEntry}, ER r l es → ER r m fs → ER r (l ++ m) (es ++ fs)
  | _, _, _, _, .nil, h => h
  | _, _, _, _, .cons hk hv t, h => .cons hk hv (t.append h)
theorem ER.set : ∀ {l : List V} {es : List MapEntry}, ER r l es → ∀ {j : Nat} {k v : V} {e : MapEntry}, R r k e.key → R r v e.val → ER r (l.set j (.tup [k, v, .i .i64 e.born])) (es.set j e)
  | _, _, .nil, _, _, _, _, _, _ => .nil
  | _, _, .cons _ _ t, 0, _, _, _, hk, hv => .cons hk hv t
  | _, _, .cons hk0 hv0 t, j + 1, _, _, _, hk, hv => .cons hk0 hv0 (t.set hk hv)
theorem ER.erase : ∀ {l : List V} {es : List MapEntry}, ER r l es → ∀ (j : Nat), ER r (l.eraseIdx j) (es.eraseIdx j)
  | _, _, .nil, _ => .nil
  | _, _, .cons _ _ t, 0 => t
  | _, _, .cons hk hv t, j + 1 => .cons hk hv (t.erase j)
theorem lookupV_ok (hr : HR E.G r h w.heap) {t : TypeId} {x k v : V} {X K : Value} (hx : R r x X) (hk : R r k K) {ok : Bool} (hv : lookupV E.P h t x k ok = some v) : ∃ Z, (Instr.lookup t X K ok).run E.P w = .ok Z w ∧ R r v Z := by
  unfold lookupV at hv
  split at hv
  case h_2 => cases hv
  rename_i kt et hu
  split at hv
  case h_2 => cases hv
  rename_i d hd
  split at hv
  case h_2 => cases hv
  rename_i l hl
  have hes : ∃ es : Array MapEntry, ER r l es.toList ∧ ∀ {q : Option (Nat × Value)}, Instr.findNow d K es.toList 0 = some q → (Instr.lookup t X K ok).run E.P w = ((match q with
      | some (_, v) => pure (v, true)
      | none => do pure (← zeroValue et, false) : Sem (Value × Bool)).run E.P w).andThen fun p w' => .ok (if ok then .tuple #[p.1, .bool p.2] else p.1) w' := by
    unfold entsV at hl
    split at hl
    · obtain rfl := Option.some.inj hl
      cases hx
      refine ⟨#[], .nil, fun {q} hq => ?_⟩
      have hq' : q = none := by simpa [Instr.findNow] using hq.symm
      subst hq'
      unfold Instr.lookup
      simp only [Sem.run_bind, run_und E.P w hu, Result.andThen_ok, Sem.run_pure, check_ok hd, MapKept.run_findKey (keyD_ok hd).1 hq]
      cases (zeroValue et).run E.P w <;> rfl
    · rename_i b
      obtain ⟨⟨c, l'⟩, hm, rfl⟩ := Option.map_eq_some_iff.1 hl
      obtain ⟨L, es, h1, h2, rfl, h3, h4⟩ := mapAt_ok hr hm hx
      refine ⟨es, h4, fun {q} hq => ?_⟩
      unfold Instr.lookup
      simp only [Sem.run_bind, run_und E.P w hu, Result.andThen_ok, Sem.run_pure, MapKept.run_getObj_map h3, check_ok hd, MapKept.run_findKey (keyD_ok hd).1 hq]
      cases q with
      | some p => rfl
      | none => simp only [Sem.run_bind]; cases (zeroValue et).run E.P w <;> rfl
    · cases hl
  obtain ⟨es, hel, hrun⟩ := hes
  split at hv
  · rename_i i v0 hf
    obtain rfl := Option.some.inj hv
    rcases findV_ok hk hel hf with ⟨a, _⟩ | ⟨j, v1, e, k', a, b, c, _⟩
    · cases a
    · obtain ⟨_, rfl⟩ := Prod.mk.inj (Option.some.inj a)
      rw [hrun b]
      refine ⟨_, rfl, ?_⟩
      cases ok with
      | true => exact .tup _ [_, _] (.cons c (.cons (.b _) .nil))
      | false => exact c
  · rename_i hf
    obtain ⟨z, hz, rfl⟩ := Option.map_eq_some_iff.1 hv
    rcases findV_ok hk hel hf with ⟨_, b⟩ | ⟨j, v1, e, k', a, _⟩
    · obtain ⟨Z, z1, z2⟩ := zeroVT_ok (w := w) (r := r) hz
      rw [hrun b]
      refine ⟨if ok = true then .tuple #[Z, .bool false] else Z, by simp only [Sem.run_bind, z1, Result.andThen_ok, Sem.run_pure], ?_⟩
      cases ok with
      | true => exact .tup _ [_, _] (.cons z2 (.cons (.b _) .nil))
      | false => exact z2
    · cases a
  · cases hv
theorem HR.mapSet (hr : HR E.G r h w.heap) {b : Nat} {c c' : List V} {L : Loc} (hb : h[b]? = some ⟨0, true, c⟩) (hL : r[b]? = some (some L)) {w' : World} (hw : ∀ k, k ≠ L.block → w'.heap[k]? = w.heap[k]?) (hs : w'.heap.size = w.heap.size)
    (ho : w'.os = w.os) (ht : w'.tape = w.tape) (hou : w'.output = w.output) (hm : MapOk r w'.heap L c') : HR E.G r (h.set b ⟨0, true, c'⟩) w'.heap ∧ Keep r h w r (h.set b ⟨0, true, c'⟩) w' := by
  obtain ⟨g1, g2, g3, g4⟩ := hr.inplace hb (.inr ⟨rfl, rfl⟩) hL hw hs ho ht hou
  have e : (h.set b dead).set b ⟨0, true, c'⟩ = h.set b ⟨0, true, c'⟩ := set_set_dead h b _
  refine ⟨?_, ?_⟩
  · rw [← e]
    refine g1.revive hL (.inl rfl) (by simp) ?_ ?_ (fun _ _ => ⟨L, rfl, hm⟩)
    · intro j b' L1 L2 hL1 hj h1 h2 h3
      obtain rfl := Option.some.inj hL1
      exact g3 j b' L2 hj (by rwa [List.getElem?_set_ne (Ne.symm hj)] at h1) h2 h3
    · intro g L1 hg hL1
      obtain rfl := Option.some.inj hL1
      exact g4 g hg
  · refine ⟨g2.pre, g2.size, g2.os, g2.tape, g2.output, g2.block, ?_⟩
    intro j b' L1 h1 h2 h3 h4
    rw [List.getElem?_set] at h1
    split at h1
    · rename_i hj; subst hj
      exact ⟨b, _, L, hb, .inr ⟨rfl, rfl⟩, hL, by rw [hL] at h3; obtain rfl := Option.some.inj (Option.some.inj h3); rfl⟩
    · exact ⟨j, b', L1, h1, h2, h3, rfl⟩
theorem eqV_agg {P : Program} {t : TypeId} {x y : V} {a : Bool} {fs : Array Field} (hu : P.underlying t = some (.struct fs)) (h : eqV P t x y = some a) : ∃ xs ys, x = .agg xs ∧ y = .agg ys ∧ (P.stoodInHeld t = false ∧ P.eqGuardType P.depth t = false) ∧ eqF P fs.toList xs ys = some a := by
  unfold eqV at h
  rw [hu] at h
  cases x <;> cases y <;> first | (simp at h; done) | skip
  · rename_i xs ys
    simp only at h
    split at h
    · rename_i hc
      exact ⟨xs, ys, rfl, rfl, hc, h⟩
    · cases h
theorem equal_of_eqV {P : Program} {w : World} {t : TypeId} {x y : V} {X Y : Value} {a : Bool} {fs : Array Field} (hu : P.underlying t = some (.struct fs)) (hx : R r x X) (hy : R r y Y) (h : eqV P t x y = some a) : (Op.equal t X Y).run P w = .ok a w := by
  obtain ⟨xs, ys, rfl, rfl, hc, h⟩ := eqV_agg hu h
  cases hx with
  | agg _ Xs hxs => cases hy with
    | agg _ Ys hys =>
      have hf : P.fieldsOf t = fs := by simp [Program.fieldsOf, hu]
      have hu' : P.underlying t = some (.struct (P.fieldsOf t)) := by rw [hf, hu]
      have := eqF_ok w 9998 hxs hys fs.toList h
      show (Op.equalIn 10000 t _ _).run P w = _
      rw [run_equalIn_struct w 9999 t _ _ hu' hc.1, hf, this]
theorem flds_each {P : Program} {xs : List V} {Xs : List Value} (hx : RL r xs Xs) : ∀ {fs : List Field} {a : Bool}, flatK P fs = true → eqF P fs xs xs = some a →
    ∀ f ∈ fs, f.name ≠ "_" ∧ ∃ x dd, P.underlying f.type = some dd ∧ (dd = .bool ∨ (∃ k, dd = .int k) ∨ dd = .string) ∧ Xs[f.offset]? = some x
  | [], a, _, _ => by simp
  | f :: fs, a, hk, h => by
    simp only [flatK, List.all_cons, Bool.and_eq_true, bne_iff_ne, ne_eq] at hk
    obtain ⟨⟨k1, hn⟩, k2⟩ := hk
    simp only [eqF] at h
    split at h
    · rename_i dd hu
      split at h
      · rename_i z he
        split at h
        · rename_i b hf
          obtain ⟨j1, j2, hp⟩ := eqK_junk he
          obtain ⟨x, h1, h2⟩ := forall_get hx (get_lt j1)
          intro g hg
          rcases List.mem_cons.1 hg with rfl | hg
          · exact ⟨hn, x, dd, hu, hp, h1⟩
          · exact flds_each hx (by simpa [flatK] using k2) hf g hg
        · cases h
      · cases h
    · cases h
theorem checkS_ok {P : Program} {w : World} {t : TypeId} {k : V} {K : Value} (h : structK P t k = true) (hk : R r k K) (e : Bool) : (Instr.checkKey e 10000 t K).run P w = .ok () w := by
  unfold structK at h
  split at h
  · rename_i fs hu
    simp only [Bool.and_eq_true] at h
    obtain ⟨h1, h2⟩ := h
    split at h2
    · rename_i h3
      obtain ⟨xs, ys, rfl, e1, hc, h3⟩ := eqV_agg hu h3
      cases e1
      cases hk with
      | agg _ Xs hxs =>
        have each := flds_each hxs h1 h3
        unfold Instr.checkKey
        simp only [Sem.run_bind, run_und P w hu, Result.andThen_ok]
        rw [← Array.forIn_toList]
        clear h1 h3
        generalize fs.toList = L at each
        induction L with
        | nil => simp
        | cons f L ih =>
          obtain ⟨hn, x, dd, hu1, hp, hx1⟩ := each f (by simp)
          have hc : (Instr.checkKey e 9999 f.type x).run P w = .ok () w := by
            unfold Instr.checkKey
            simp only [Sem.run_bind, run_und P w hu1, Result.andThen_ok]
            rcases hp with rfl | ⟨k, rfl⟩ | rfl <;> simp
          simp only [List.forIn_cons, Sem.run_bind, hn, ne_eq, not_false_eq_true, if_true, Result.andThen_ok, run_part1 w hu1 hp hx1, hc, Sem.run_pure]
          exact ih (fun y hy => each y (by simp [hy]))
    · cases h2
  · cases h
theorem asking_ok {P : Program} {w : World} {t : TypeId} {fs : Array Field} (hu : P.underlying t = some (.struct fs)) {k : V} {K : Value} (hk : R r k K) : ∀ {l : List V} {es : List MapEntry}, ER r l es → ∀ {i : Nat} {res : Option (Nat × V)}, findS P t k l i = some res →
    (res = none ∧ (Instr.findAsking t K es i).run P w = .ok none w) ∨ ∃ j v x, res = some (j, v) ∧ (Instr.findAsking t K es i).run P w = .ok (some (j, x)) w ∧ R r v x := by
  intro l es hl
  induction hl with
  | nil =>
    intro i res hf
    simp [findS] at hf
    exact .inl ⟨hf.symm, by simp [Instr.findAsking]⟩
  | cons hk0 hv0 t ih =>
    rename_i k0 v0 e0 l0 es0
    intro i res hf
    unfold findS at hf
    split at hf
    · rename_i he
      obtain rfl := Option.some.inj hf
      refine .inr ⟨i, v0, e0.val, rfl, ?_, hv0⟩
      simp only [Instr.findAsking, Sem.run_bind, equal_of_eqV hu hk hk0 he, Result.andThen_ok, if_true, Sem.run_pure]
    · rename_i he
      rcases ih hf with ⟨a, b⟩ | ⟨j, v, x, a, b, c⟩
      · exact .inl ⟨a, by simp only [Instr.findAsking, Sem.run_bind, equal_of_eqV hu hk hk0 he, Result.andThen_ok]; simpa using b⟩
      · exact .inr ⟨j, v, x, a, by simp only [Instr.findAsking, Sem.run_bind, equal_of_eqV hu hk hk0 he, Result.andThen_ok]; simpa using b, c⟩
    · cases hf
theorem findK_ok {P : Program} {w : World} {t : TypeId} {k : V} {K : Value} (hk : R r k K) (hs : structK P t k = true) {l : List V} {es : List MapEntry} (hl : ER r l es) {res : Option (Nat × V)} (hf : findS P t k l 0 = some res) :
    (res = none ∧ (Instr.findKey t K es).run P w = .ok none w) ∨ ∃ j v x, res = some (j, v) ∧ (Instr.findKey t K es).run P w = .ok (some (j, x)) w ∧ R r v x := by
  unfold structK at hs
  split at hs
  · rename_i fs hu
    have e : (Instr.findKey t K es).run P w = (Instr.findAsking t K es 0).run P w := by
      unfold Instr.findKey
      simp only [Sem.run_bind, run_und P w hu, Result.andThen_ok]
      cases es with
      | nil => simp [Instr.findNow, Instr.findAsking]
      | cons a es =>
        have : Instr.findNow (.struct fs) K (a :: es) 0 = none := by
          simp [Instr.findNow, Instr.sameNow]
        rw [this]
    rw [e]
    exact asking_ok hu hk hl hf
  · cases hs
theorem lookupS_ok (hr : HR E.G r h w.heap) {t : TypeId} {x k v : V} {X K : Value} (hx : R r x X) (hk : R r k K) {ok : Bool} (hv : lookupS E.P h t x k ok = some v) : ∃ Z, (Instr.lookup t X K ok).run E.P w = .ok Z w ∧ R r v Z := by
  unfold lookupS at hv
  split at hv
  case h_2 => cases hv
  rename_i kt et hu
  split at hv
  case isFalse => cases hv
  rename_i hs
  split at hv
  case h_2 => cases hv
  rename_i l hl
  have hes : ∃ es : Array MapEntry, ER r l es.toList ∧ ∀ {q : Option (Nat × Value)}, (Instr.findKey kt K es.toList).run E.P w = .ok q w → (Instr.lookup t X K ok).run E.P w = ((match q with
      | some (_, v) => pure (v, true)
      | none => do pure (← zeroValue et, false) : Sem (Value × Bool)).run E.P w).andThen fun p w' => .ok (if ok then .tuple #[p.1, .bool p.2] else p.1) w' := by
    unfold entsV at hl
    split at hl
    · obtain rfl := Option.some.inj hl
      cases hx
      refine ⟨#[], .nil, fun {q} hq => ?_⟩
      have hq' : q = none := by
        rcases findK_ok (w := w) hk hs (l := []) .nil rfl with ⟨_, b⟩ | ⟨_, _, _, a, _⟩
        · have := b.symm.trans hq; simpa using this.symm
        · cases a
      subst hq'
      unfold Instr.lookup
      simp only [Sem.run_bind, run_und E.P w hu, Result.andThen_ok, Sem.run_pure, checkS_ok hs hk, hq]
      cases (zeroValue et).run E.P w <;> rfl
    · rename_i b
      obtain ⟨⟨c, l'⟩, hm, rfl⟩ := Option.map_eq_some_iff.1 hl
      obtain ⟨L, es, h1, h2, rfl, h3, h4⟩ := mapAt_ok hr hm hx
      refine ⟨es, h4, fun {q} hq => ?_⟩
      unfold Instr.lookup
      simp only [Sem.run_bind, run_und E.P w hu, Result.andThen_ok, Sem.run_pure, MapKept.run_getObj_map h3, checkS_ok hs hk, hq]
      cases q with
      | some p => rfl
      | none => simp only [Sem.run_bind]; cases (zeroValue et).run E.P w <;> rfl
    · cases hl
  obtain ⟨es, hel, hrun⟩ := hes
  split at hv
  · rename_i i v0 hf
    obtain rfl := Option.some.inj hv
    rcases findK_ok (w := w) hk hs hel hf with ⟨a, _⟩ | ⟨j, v1, y, a, b, c⟩
    · cases a
    · obtain ⟨_, rfl⟩ := Prod.mk.inj (Option.some.inj a)
      rw [hrun b]
      refine ⟨_, rfl, ?_⟩
      cases ok with
      | true => exact .tup _ [_, _] (.cons c (.cons (.b _) .nil))
      | false => exact c
  · rename_i hf
    obtain ⟨z, hz, rfl⟩ := Option.map_eq_some_iff.1 hv
    rcases findK_ok (w := w) hk hs hel hf with ⟨_, b⟩ | ⟨j, v1, y, a, _⟩
    · obtain ⟨Z, z1, z2⟩ := zeroVT_ok (w := w) (r := r) hz
      rw [hrun b]
      refine ⟨if ok = true then .tuple #[Z, .bool false] else Z, by simp only [Sem.run_bind, z1, Result.andThen_ok, Sem.run_pure], ?_⟩
      cases ok with
      | true => exact .tup _ [_, _] (.cons z2 (.cons (.b _) .nil))
      | false => exact z2
    · cases a
  · cases hv
theorem updateS_ok (hr : HR E.G r h w.heap) {t : TypeId} {x k v : V} {X K Z : Value} (hx : R r x X) (hk : R r k K) (hz : R r v Z) {h' : Heap} (hv : updateS E.P h t x k v = some h') : ∃ w', (Instr.mapUpdate t X K Z).run E.P w = .ok () w' ∧ HR E.G r h' w'.heap ∧ Keep r h w r h' w' := by
  unfold updateS at hv
  split at hv
  case h_2 => cases hv
  rename_i kt et b hu
  split at hv
  case isFalse => cases hv
  rename_i hs
  split at hv
  case h_2 => cases hv
  rename_i c l hm
  obtain ⟨L, es, hL, hb, rfl, hes, hel⟩ := mapAt_ok hr hm hx
  have other : ∀ (o : Obj) (k : Nat), k ≠ L.block → (w.heap.setIfInBounds L.block o)[k]? = w.heap[k]? := fun o k hk => (MapKept.heap_set (o' := o) hes).2 k hk
  have here : ∀ (o : Obj), (w.heap.setIfInBounds L.block o)[L.block]? = some o := fun o => (MapKept.heap_set (o' := o) hes).1
  split at hv
  case h_2 => cases hv
  rename_i hf
  obtain rfl := Option.some.inj hv
  rcases findK_ok (w := w) hk hs hel hf with ⟨_, b1⟩ | ⟨j, v1, y, a, _⟩
  · refine ⟨{ w with heap := w.heap.setIfInBounds L.block (.map (es.push { key := K, val := Z, born := c }) (c + 1)) }, ?_, ?_⟩
    · simp [Instr.mapUpdate, run_und E.P w hu, MapKept.run_getObj_map hes, checkS_ok hs hk, b1, MapKept.run_setObj_map _ hes, Result.andThen]
    · refine hr.mapSet hb hL (fun k hk => other _ k hk) (by simp) rfl rfl rfl (.inl ⟨_, c + 1, _, rfl, here _, ?_⟩)
      rw [Array.toList_push]
      exact hel.append (.cons (e := { key := K, val := Z, born := c }) hk hz .nil)
  · cases a
theorem updateV_ok (hr : HR E.G r h w.heap) {t : TypeId} {x k v : V} {X K Z : Value} (hx : R r x X) (hk : R r k K) (hz : R r v Z) {h' : Heap} (hv : updateV E.P h t x k v = some h') : ∃ w', (Instr.mapUpdate t X K Z).run E.P w = .ok () w' ∧ HR E.G r h' w'.heap ∧ Keep r h w r h' w' := by
  unfold updateV at hv
  split at hv
  case h_2 => cases hv
  rename_i kt et b hu
  split at hv
  case h_2 => cases hv
  rename_i d c l hd hm
  obtain ⟨L, es, hL, hb, rfl, hes, hel⟩ := mapAt_ok hr hm hx
  have other : ∀ (o : Obj) (k : Nat), k ≠ L.block → (w.heap.setIfInBounds L.block o)[k]? = w.heap[k]? := fun o k hk => (MapKept.heap_set (o' := o) hes).2 k hk
  have here : ∀ (o : Obj), (w.heap.setIfInBounds L.block o)[L.block]? = some o := fun o => (MapKept.heap_set (o' := o) hes).1
  split at hv
  · rename_i i v0 hf
    obtain rfl := Option.some.inj hv
    rcases findV_ok hk hel hf with ⟨a, _⟩ | ⟨j, v1, e, k', a, b1, c1, d1, e1, f1, ⟨d', g1⟩⟩
    · cases a
    · obtain ⟨rfl, rfl⟩ := Prod.mk.inj (Option.some.inj a)
      rw [Nat.zero_add] at b1
      rw [Nat.zero_add]
      have hj : es[j]? = some e := by simpa using d1
      have hjl : j < l.length := (List.getElem?_eq_some_iff.1 e1).1
      have hborn : bornOf (get l j) = e.born := by
        rw [get_eq, List.getD_eq_getElem?_getD, e1]; rfl
      refine ⟨{ w with heap := w.heap.setIfInBounds L.block (.map (es.modify j fun e => { e with key := K, val := Z }) c) }, ?_, ?_⟩
      · simp [Instr.mapUpdate, run_und E.P w hu, MapKept.run_getObj_map hes, check_ok hd, MapKept.run_findKey (keyD_ok hd).1 b1, hj, f1, MapKept.run_keyThatStays g1, MapKept.run_setObj_map _ hes, Result.andThen]
      · refine hr.mapSet hb hL (fun k hk => other _ k hk) (by simp) rfl rfl rfl (.inl ⟨_, c, _, rfl, here _, ?_⟩)
        rw [hborn]
        have : (es.modify j fun e => { e with key := K, val := Z }).toList = es.toList.set j { e with key := K, val := Z } := by
          rw [Array.toList_modify]
          apply List.ext_getElem?
          intro q
          rw [List.getElem?_modify, List.getElem?_set]
          by_cases hq : j = q
          · subst hq
            have hlt : j < es.toList.length := (List.getElem?_eq_some_iff.1 d1).1
            rw [if_pos rfl, if_pos hlt, d1]; simp
          · rw [if_neg hq]; simp [hq]
        rw [this]
        exact hel.set (e := { e with key := K, val := Z }) hk hz
  · rename_i hf
    obtain rfl := Option.some.inj hv
    rcases findV_ok hk hel hf with ⟨_, b1⟩ | ⟨j, v1, e, k', a, _⟩
    · refine ⟨{ w with heap := w.heap.setIfInBounds L.block (.map (es.push { key := K, val := Z, born := c }) (c + 1)) }, ?_, ?_⟩
      · simp [Instr.mapUpdate, run_und E.P w hu, MapKept.run_getObj_map hes, check_ok hd, MapKept.run_findKey (keyD_ok hd).1 b1, MapKept.run_setObj_map _ hes, Result.andThen]
      · refine hr.mapSet hb hL (fun k hk => other _ k hk) (by simp) rfl rfl rfl (.inl ⟨_, c + 1, _, rfl, here _, ?_⟩)
        rw [Array.toList_push]
        exact hel.append (.cons (e := { key := K, val := Z, born := c }) hk hz .nil)
    · cases a
  · cases hv
theorem absent_ok {kt : TypeId} {k : V} {K : Value} (hk : R r k K) {l : List V} {es : List MapEntry} (hl : ER r l es) (h : absentV E.P kt k l = true) : (Instr.findKey kt K es).run E.P w = .ok none w ∧ (Instr.checkKey false 10000 kt K).run E.P w = .ok () w := by
  unfold absentV at h
  split at h
  · rename_i d hd
    split at h
    · rename_i hf
      rcases findV_ok hk hl hf with ⟨_, b1⟩ | ⟨j, v1, e, k', a, _⟩
      · exact ⟨MapKept.run_findKey (keyD_ok hd).1 b1, check_ok hd _ _ _⟩
      · cases a
    · cases h
  · simp only [Bool.and_eq_true] at h
    obtain ⟨hs, h⟩ := h
    split at h
    · rename_i hf
      rcases findK_ok (w := w) hk hs hl hf with ⟨_, b1⟩ | ⟨j, v1, y, a, _⟩
      · exact ⟨b1, checkS_ok hs hk _⟩
      · cases a
    · cases h
theorem mentryV_ok (hr : HR E.G r h w.heap) {t : TypeId} {x k v : V} {X K : Value} (hx : R r x X) (hk : R r k K) {h' : Heap} (hv : mentryV E.P h t x k = some (v, h')) : ∃ Z w', (Instr.mapEntry t X K).run E.P w = .ok Z w' ∧ R r v Z ∧ HR E.G r h' w'.heap ∧ Keep r h w r h' w' := by
  unfold mentryV at hv
  split at hv
  case h_2 => cases hv
  rename_i kt et b hu
  split at hv
  case h_2 => cases hv
  rename_i c l z hm hz
  split at hv
  case isFalse => cases hv
  rename_i ha
  obtain ⟨rfl, rfl⟩ := Prod.mk.inj (Option.some.inj hv)
  obtain ⟨L, es, hL, hb, rfl, hes, hel⟩ := mapAt_ok hr hm hx
  obtain ⟨Z, z1, z2⟩ := zeroVT_ok (w := w) (r := r) hz
  obtain ⟨b1, b2⟩ := absent_ok (w := w) hk hel ha.1
  have other : ∀ (o : Obj) (k : Nat), k ≠ L.block → (w.heap.setIfInBounds L.block o)[k]? = w.heap[k]? := fun o k hk => (MapKept.heap_set (o' := o) hes).2 k hk
  have here : ∀ (o : Obj), (w.heap.setIfInBounds L.block o)[L.block]? = some o := fun o => (MapKept.heap_set (o' := o) hes).1
  refine ⟨.tuple #[Z, goInt c], { w with heap := w.heap.setIfInBounds L.block (.map (es.push { key := K, val := Z, born := c }) (c + 1)) }, ?_, ?_, ?_⟩
  · simp [Instr.mapEntry, run_und E.P w hu, MapKept.run_getObj_map hes, b2, b1, z1, MapKept.run_setObj_map _ hes, Result.andThen]
  · exact .tup _ [_, _] (.cons z2 (.cons (.i _ _ (by rw [wrap_iff]; simp [lo, hi, IntKind.signed, IntKind.bits]; omega)) .nil))
  · refine hr.mapSet hb hL (fun k hk => other _ k hk) (by simp) rfl rfl rfl (.inl ⟨_, c + 1, _, rfl, here _, ?_⟩)
    rw [Array.toList_push]
    exact hel.append (.cons (e := { key := K, val := Z, born := c }) hk z2 .nil)
theorem ER.idx : ∀ {l : List V} {es : List MapEntry}, ER r l es → ∀ (n : Int), l.findIdx? (fun e => bornOf e == n) = es.findIdx? (fun e => (e.born : Int) == n)
  | _, _, .nil, n => rfl
  | _, _, .cons hk hv t, n => by simp only [List.findIdx?_cons, bornOf_tup, t.idx n]
theorem ER.key : ∀ {l : List V} {es : List MapEntry}, ER r l es → ∀ {j : Nat} {e : MapEntry}, es[j]? = some e → R r (keyOfE (get l j)) e.key ∧ bornOf (get l j) = e.born
  | _, _, .nil, j, e, h => by simp at h
  | _, _, .cons hk hv t, 0, e, h => by simp at h; subst h; exact ⟨hk, rfl⟩
  | _, _, .cons hk hv t, j + 1, e, h => by simpa [GoD.get] using t.key (j := j) (by simpa using h)
theorem estoreV_ok (hr : HR E.G r h w.heap) {t : TypeId} {x s v : V} {X S Z : Value} (hx : R r x X) (hs : R r s S) (hz : R r v Z) {h' : Heap} (hv : estoreV h x s v = some h') : ∃ w', (Instr.entryStore t X S Z).run E.P w = .ok () w' ∧ HR E.G r h' w'.heap ∧ Keep r h w r h' w' := by
  unfold estoreV at hv
  split at hv
  case h_2 => cases hv
  rename_i b n
  split at hv
  case h_2 => cases hv
  rename_i c l hm
  split at hv
  case h_2 => cases hv
  rename_i i hi
  obtain rfl := Option.some.inj hv
  obtain ⟨L, es, hL, hb, rfl, hes, hel⟩ := mapAt_ok hr hm hx
  cases hs with
  | i _ _ hn =>
  rw [hel.idx n] at hi
  have hi' : es.findIdx? (fun e => (e.born : Int) == n) = some i := by
    obtain ⟨es⟩ := es
    simpa using hi
  obtain ⟨e, he⟩ : ∃ e, es[i]? = some e := by
    have := (List.findIdx?_eq_some_iff_getElem.1 hi).1
    exact ⟨_, Array.getElem?_eq_getElem (by simpa using this)⟩
  have he' : es.toList[i]? = some e := by simpa using he
  obtain ⟨k1, k2⟩ := hel.key he'
  have other : ∀ (o : Obj) (k : Nat), k ≠ L.block → (w.heap.setIfInBounds L.block o)[k]? = w.heap[k]? := fun o k hk => (MapKept.heap_set (o' := o) hes).2 k hk
  have here : ∀ (o : Obj), (w.heap.setIfInBounds L.block o)[L.block]? = some o := fun o => (MapKept.heap_set (o' := o) hes).1
  refine ⟨{ w with heap := w.heap.setIfInBounds L.block (.map (es.modify i fun e => { e with val := Z }) c) }, ?_, ?_⟩
  · simp [Instr.entryStore, MapKept.run_getObj_map hes, asInt, asIntOf, hi', MapKept.run_setObj_map _ hes, Result.andThen]
  · refine hr.mapSet hb hL (fun k hk => other _ k hk) (by simp) rfl rfl rfl (.inl ⟨_, c, _, rfl, here _, ?_⟩)
    have : (es.modify i fun e => { e with val := Z }).toList = es.toList.set i { e with val := Z } := by
      rw [Array.toList_modify]
      apply List.ext_getElem?
      intro q
      rw [List.getElem?_modify, List.getElem?_set]
      by_cases hq : i = q
      · subst hq
        have hlt : i < es.toList.length := (List.getElem?_eq_some_iff.1 he').1
        rw [if_pos rfl, if_pos hlt, he']; simp
      · rw [if_neg hq]; simp [hq]
    rw [this, k2]
    exact hel.set (e := { e with val := Z }) k1 hz
theorem deleteV_ok (hr : HR E.G r h w.heap) {t ty : TypeId} {ats : Array TypeId} (hat : ats[0]? = some t) {x k : V} {X K : Value} (hx : R r x X) (hk : R r k K) {h' : Heap} (hv : deleteV E.P h t x k = some h') : ∃ w', (Builtin.delete_ ats ty #[X, K]).run E.P w = .ok (.tuple #[]) w' ∧ HR E.G r h' w'.heap ∧ Keep r h w r h' w' := by
  unfold deleteV at hv
  split at hv
  case h_2 => cases hv
  rename_i kt et hu
  split at hv
  · rename_i d hd
    obtain rfl := Option.some.inj hv
    cases hx
    exact ⟨w, by simp [Builtin.delete_, hat, run_und E.P w hu, check_ok hd], hr, Keep.refl _ _ _⟩
  · rename_i d b hd
    split at hv
    case h_2 => cases hv
    rename_i c l hm
    obtain ⟨L, es, hL, hb, rfl, hes, hel⟩ := mapAt_ok hr hm hx
    have other : ∀ (o : Obj) (k : Nat), k ≠ L.block → (w.heap.setIfInBounds L.block o)[k]? = w.heap[k]? := fun o k hk => (MapKept.heap_set (o' := o) hes).2 k hk
    have here : ∀ (o : Obj), (w.heap.setIfInBounds L.block o)[L.block]? = some o := fun o => (MapKept.heap_set (o' := o) hes).1
    split at hv
    · rename_i i v0 hf
      obtain rfl := Option.some.inj hv
      rcases findV_ok hk hel hf with ⟨a, _⟩ | ⟨j, v1, e, k', a, b1, c1, d1, e1, f1, _⟩
      · cases a
      · obtain ⟨rfl, rfl⟩ := Prod.mk.inj (Option.some.inj a)
        rw [Nat.zero_add] at b1
        rw [Nat.zero_add]
        have hlt : j < es.size := by
          have := (List.getElem?_eq_some_iff.1 d1).1
          simpa using this
        refine ⟨{ w with heap := w.heap.setIfInBounds L.block (.map (es.eraseIdxIfInBounds j) c) }, ?_, ?_⟩
        · simp [Builtin.delete_, hat, run_und E.P w hu, MapKept.run_getObj_map hes, check_ok hd, MapKept.run_findKey (keyD_ok hd).1 b1, MapKept.run_setObj_map _ hes, Result.andThen]
        · refine hr.mapSet hb hL (fun k hk => other _ k hk) (by simp) rfl rfl rfl (.inl ⟨_, c, _, rfl, here _, ?_⟩)
          have : (es.eraseIdxIfInBounds j).toList = es.toList.eraseIdx j := by
            unfold Array.eraseIdxIfInBounds
            rw [dif_pos hlt]; simp
          rw [this]
          exact hel.erase j
    · rename_i hf
      obtain rfl := Option.some.inj hv
      rcases findV_ok hk hel hf with ⟨_, b1⟩ | ⟨j, v1, e, k', a, _⟩
      · refine ⟨{ w with heap := w.heap.setIfInBounds L.block (.map es c) }, ?_, ?_⟩
        · simp [Builtin.delete_, hat, run_und E.P w hu, MapKept.run_getObj_map hes, check_ok hd, MapKept.run_findKey (keyD_ok hd).1 b1, MapKept.run_setObj_map _ hes, Result.andThen]
        · have e : w.heap.setIfInBounds L.block (.map es c) = w.heap := by
            apply Array.ext_getElem?
            intro i
            by_cases hi : i = L.block
            · subst hi; rw [here, hes]
            · rw [other _ i hi]
          exact hr.same e rfl rfl rfl
      · cases a
    · cases hv
  · cases hv
theorem HR.mapNew (hr : HR E.G r h w.heap) {o : Obj} {w' : World} (hw : w'.heap = w.heap.push o) (ho : w'.os = w.os) (ht : w'.tape = w.tape) (hou : w'.output = w.output) {c : List V} (hm : MapOk r w'.heap ⟨w.heap.size, 0, 0⟩ c) :
    HR E.G (r ++ [some ⟨w.heap.size, 0, 0⟩]) (h ++ [⟨0, true, c⟩]) w'.heap ∧ Keep r h w (r ++ [some ⟨w.heap.size, 0, 0⟩]) (h ++ [⟨0, true, c⟩]) w' := by
  have old : ∀ k, k < w.heap.size → w'.heap[k]? = w.heap[k]? := fun k hk => by
    rw [hw, Array.getElem?_push, if_neg (by omega)]
  have hr' : HR E.G r h w'.heap := hr.heap (fun i b L a1 a2 a3 => old _ (hr.lt a1 a2 a3)) fun g hg => old _ (hr.glt hg)
  refine ⟨hr'.add (.inl rfl) (by simp) ?_ ?_ (fun _ _ => ⟨_, rfl, hm⟩), ?_⟩
  · intro i b' L L' hL a1 a2 a3
    obtain rfl := Option.some.inj hL
    have := hr.lt a1 a2 a3
    simp only; omega
  · intro g L hg hL
    obtain rfl := Option.some.inj hL
    have := hr.glt hg
    simp only; omega
  · refine ⟨List.prefix_append _ _, by rw [hw]; simp, ho, ht, hou, fun k hk _ => old k hk, ?_⟩
    intro i b' L a1 a2 a3 a4
    rcases getElem?_snoc a1 with a1 | ⟨rfl, rfl⟩
    · have hi := (List.getElem?_eq_some_iff.1 a1).1
      rw [List.getElem?_append_left (by rw [hr.len]; exact hi)] at a3
      exact ⟨i, b', L, a1, a2, a3, rfl⟩
    · rw [← hr.len] at a3
      simp at a3
      subst a3
      simp at a4
theorem push_get {w : World} {o : Obj} : (w.heap.push o)[w.heap.size]? = some o := by simp
theorem makeMap_ok (hr : HR E.G r h w.heap) {t : TypeId} : ∃ X w', (Instr.makeMap t none).run E.P w = .ok X w' ∧ Aft E r h w (.m h.length) (h ++ [⟨0, true, [.i .i64 0]⟩]) X w' := by
  obtain ⟨a, b⟩ := hr.mapNew (w' := { w with heap := w.heap.push (.map #[] 0) }) rfl rfl rfl rfl (c := [.i .i64 0]) (.inl ⟨#[], 0, [], rfl, push_get, .nil⟩)
  exact ⟨.map (some w.heap.size), _, by simp [Instr.makeMap], _, .m _ ⟨w.heap.size, 0, 0⟩ (get_last hr _), a, b⟩
theorem rangeV_ok (hr : HR E.G r h w.heap) {t : TypeId} {x v : V} {X : Value} (hx : R r x X) {h' : Heap} (hv : rangeV E.P h t x = some (v, h')) : ∃ Y w', (Instr.range t X).run E.P w = .ok Y w' ∧ Aft E r h w v h' Y w' := by
  unfold rangeV at hv
  split at hv
  · rename_i hu
    obtain ⟨rfl, rfl⟩ := Prod.mk.inj (Option.some.inj hv)
    cases hx
    obtain ⟨a, b⟩ := hr.mapNew (w' := { w with heap := w.heap.push (.mapIter none 0 #[] 0) }) rfl rfl rfl rfl (c := [.b false]) (.inr (.inr ⟨rfl, rfl, 0, #[], 0, push_get⟩))
    exact ⟨.pointer (some ⟨w.heap.size, 0, none⟩), _, by simp [Instr.range, run_und E.P w hu], _, .p _ 0 ⟨w.heap.size, 0, 0⟩ (get_last hr _), a, b⟩
  · rename_i b hu
    split at hv
    · rename_i c l hm
      obtain ⟨rfl, rfl⟩ := Prod.mk.inj (Option.some.inj hv)
      obtain ⟨L, es, hL, hb, rfl, hes, hel⟩ := mapAt_ok hr hm hx
      obtain ⟨a, b'⟩ := hr.mapNew (w' := { w with heap := w.heap.push (.mapIter (some L.block) c #[] c) }) rfl rfl rfl rfl (c := [.b true, .m b, .i .i64 c, .i .i64 c]) (.inr (.inl ⟨b, L, c, c, [], rfl, hL, push_get, rfl⟩))
      exact ⟨.pointer (some ⟨w.heap.size, 0, none⟩), _, by simp [Instr.range, run_und E.P w hu, MapKept.run_getObj_map hes], _, .p _ 0 ⟨w.heap.size, 0, 0⟩ (get_last hr _), a, b'⟩
    · cases hv
  · cases hv
theorem lenM_ok (hr : HR E.G r h w.heap) {t ty : TypeId} {x v : V} {X : Value} (hx : R r x X) (hv : lenM E.P h t x = some v) : ∃ y, (Builtin.len_ #[t] ty #[X]).run E.P w = .ok y w ∧ R r v y := by
  unfold lenM at hv
  split at hv
  · rename_i b
    split at hv
    · rename_i kt et c l hu hm
      split at hv
      · rename_i hl
        obtain rfl := Option.some.inj hv
        obtain ⟨L, es, hL, hb, rfl, hes, hel⟩ := mapAt_ok hr hm hx
        have := hel.length
        refine ⟨.int .i64 l.length, ?_, .i _ _ ?_⟩
        · simp [Builtin.len_, run_und E.P w hu, goInt, MapKept.run_getObj_map hes]
          have h2 : es.size = l.length := by simpa using this
          rw [h2]
        · rw [wrap_iff]; simp [lo, hi, IntKind.signed, IntKind.bits]; omega
      · cases hv
    · cases hv
  · cases hv
theorem ER.filter {p : V → Bool} {q : MapEntry → Bool} (hpq : ∀ k v (e : MapEntry), p (.tup [k, v, .i .i64 e.born]) = q e) : ∀ {l : List V} {es : List MapEntry}, ER r l es → ER r (l.filter p) (es.filter q)
  | _, _, .nil => .nil
  | _, _, .cons (k := k) (v := v) (e := e) hk hv t => by
    have ih := t.filter hpq
    rw [List.filter_cons, List.filter_cons, hpq k v e]
    split
    · exact .cons hk hv ih
    · exact ih
theorem ER.all {p : V → Bool} {q : MapEntry → Bool} (hpq : ∀ k v (e : MapEntry), p (.tup [k, v, .i .i64 e.born]) = q e) : ∀ {l : List V} {es : List MapEntry}, ER r l es → l.all p = es.all q
  | _, _, .nil => rfl
  | _, _, .cons (k := k) (v := v) (e := e) hk hv t => by rw [List.all_cons, List.all_cons, hpq, t.all hpq]
theorem seen_borns (l : List Nat) : seenN (borns l) = l.map fun (n : Nat) => (n : Int) := by
  unfold seenN borns
  rw [List.map_map]; rfl
theorem seen_has (l : List Nat) (n : Nat) : (seenN (borns l)).contains (n : Int) = l.contains n := by
  rw [seen_borns]
  induction l with
  | nil => rfl
  | cons a l ih =>
    rw [List.map_cons, List.contains_cons, List.contains_cons, ih]
    have : ((n : Int) == (a : Int)) = (n == a) := by rw [Bool.eq_iff_iff, beq_iff_eq, beq_iff_eq]; omega
    rw [this]
theorem iter_ok (hr : HR E.G r h w.heap) {b m : Nat} {since last : Int} {seen : List V} (hb : hget h b = ⟨0, true, .b true :: .m m :: .i .i64 since :: .i .i64 last :: seen⟩) {X : Value} (hx : R r (.p b 0) X) :
    ∃ (L Lb : Loc) (s n : Nat) (sn : List Nat), since = s ∧ last = n ∧ seen = borns sn ∧ r[b]? = some (some L) ∧ r[m]? = some (some Lb) ∧ X = .pointer (some ⟨L.block, 0, none⟩) ∧ w.heap[L.block]? = some (.mapIter (some Lb.block) s sn.toArray n) ∧ h[b]? = some ⟨0, true, .b true :: .m m :: .i .i64 s :: .i .i64 n :: borns sn⟩ ∧ L.off = 0 := by
  have hb' := hget_live hb (.inr rfl)
  cases hx with
  | p _ _ L hL =>
    obtain ⟨L', e, hmo⟩ := hr.maps b _ _ hb' rfl rfl hL
    obtain rfl := Option.some.inj e
    rcases hmo with ⟨es, clock, l, h1, h2, h3⟩ | ⟨b0, Lb, s, n, sn, h1, h2, h3, h4⟩ | ⟨h1, _⟩
    · simp at h1
    · simp only [List.cons.injEq, V.m.injEq, V.i.injEq, true_and] at h1
      obtain ⟨rfl, rfl, rfl, rfl⟩ := h1
      exact ⟨L, Lb, s, n, sn, rfl, rfl, rfl, hL, h2, by rw [h4], h3, hb', h4⟩
    · simp at h1
set_option maxHeartbeats 2000000 in
theorem nextV_ok (hr : HR E.G r h w.heap) {ty : TypeId} {x v : V} {X : Value} (hx : R r x X) {h' : Heap} (hv : nextV h x = some (v, h')) : ∃ Y w', (Instr.next X false ty).run E.P w = .ok Y w' ∧ Aft E r h w v h' Y w' := by
  unfold nextV at hv
  split at hv
  case h_2 => cases hv
  rename_i b
  split at hv
  · rename_i hb
    obtain ⟨rfl, rfl⟩ := Prod.mk.inj (Option.some.inj hv)
    have hb' := hget_live hb (.inr rfl)
    cases hx with
    | p _ _ L hL =>
      obtain ⟨L', e, hmo⟩ := hr.maps b _ _ hb' rfl rfl hL
      obtain rfl := Option.some.inj e
      rcases hmo with ⟨es, clock, l, h1, h2, h3⟩ | ⟨b0, Lb, s, n, sn, h1, h2, h3, h4⟩ | ⟨h1, h2, s, n, l, h3⟩
      · simp at h1
      · simp at h1
      · refine ⟨.tuple #[.bool false], w, ?_, Aft.pure hr (.tup _ [_] (.cons (.b _) .nil))⟩
        rw [h2]
        simp [Instr.next, getObj, Sem.run, h3]
  · rename_i m since last seen hb
    obtain ⟨L, Lb, s, n, sn, rfl, rfl, rfl, hL, hLb, rfl, hit, hbb, hoff⟩ := iter_ok hr hb hx
    split at hv
    case h_2 => cases hv
    rename_i c l hm
    obtain ⟨L2, es, hL2, hmb, e2, hes, hel⟩ := mapAt_ok hr hm (.m m Lb hLb)
    rw [hLb] at hL2
    obtain rfl := Option.some.inj (Option.some.inj hL2)
    split at hv
    · cases hv
    rename_i hc
    have hlen := hel.length
    have t1 : (!sn.toArray.isEmpty && !es.isEmpty && es.all fun e => decide (e.born ≥ n)) = false := by
      have a1 : (borns sn).isEmpty = sn.toArray.isEmpty := by cases sn <;> rfl
      have a2 : l.isEmpty = es.isEmpty := by
        cases l with
        | nil => simp at hlen; simp [Array.isEmpty, hlen]
        | cons x l => simp at hlen; simp [Array.isEmpty, hlen]
      have a3 : (l.all fun e => decide ((n : Int) ≤ bornOf e)) = es.all fun e => decide (e.born ≥ n) := by
        rw [hel.all (q := fun e => decide (e.born ≥ n)) fun k v e => by rw [bornOf_tup]; exact decide_eq_decide.2 (by omega)]
        simp
      rw [a1, a2, a3] at hc
      simpa using hc
    have hleft : ER r (l.filter fun e => !(seenN (borns sn)).contains (bornOf e)) (es.filter fun e => !sn.toArray.contains e.born).toList := by
      rw [Array.toList_filter]
      exact hel.filter fun k v e => by rw [bornOf_tup, seen_has]; simp
    generalize hF : (es.filter fun e => !sn.toArray.contains e.born) = F at hleft
    split at hv
    · rename_i hl
      obtain ⟨rfl, rfl⟩ := Prod.mk.inj (Option.some.inj hv)
      rw [hl] at hleft
      have hF0 : F = #[] := by
        apply Array.ext'
        cases hq : F.toList with
        | nil => rfl
        | cons a t => rw [hq] at hleft; cases hleft
      refine ⟨.tuple #[.bool false], w, ?_, Aft.pure hr (.tup _ [_] (.cons (.b _) .nil))⟩
      simp only [Instr.next, getObj, Sem.run_bind, Sem.run, hit, hes, Result.andThen, t1, hF, hF0]
      simp [choose, Sem.run, Question.forced]
    · rename_i k v0 q hl
      split at hv
      · rename_i hq
        obtain ⟨rfl, rfl⟩ := Prod.mk.inj (Option.some.inj hv)
        rw [hl] at hleft
        obtain ⟨e, hF1, hbq, hk, hv0⟩ : ∃ e, F = #[e] ∧ q = (e.born : Int) ∧ R r k e.key ∧ R r v0 e.val := by
          cases hq2 : F.toList with
          | nil => rw [hq2] at hleft; cases hleft
          | cons a t =>
            rw [hq2] at hleft
            generalize hll : [V.tup [k, v0, V.i .i64 q]] = ll at hleft
            cases hleft with
            | cons hk1 hv1 t' =>
              simp only [List.cons.injEq, V.tup.injEq, V.i.injEq, true_and, and_true] at hll
              obtain ⟨⟨rfl, rfl, rfl⟩, rfl⟩ := hll
              cases t'
              exact ⟨a, Array.ext' hq2, rfl, hk1, hv1⟩
        subst hbq
        have hlt : e.born < s := by omega
        have hge : ¬ e.born ≥ s := by omega
        refine ⟨.tuple #[.bool true, e.key, e.val], { w with heap := w.heap.setIfInBounds L.block (.mapIter (some Lb.block) s (sn.toArray.push e.born) c) }, ?_, ?_⟩
        · simp only [Instr.next, getObj, setObj, Sem.run_bind, Sem.run, hit, hes, Result.andThen, t1, hF, hF1]
          simp [choose, Sem.run, Question.forced, hlt, hge, hit]
        · have other : ∀ (o : Obj) (k : Nat), k ≠ L.block → (w.heap.setIfInBounds L.block o)[k]? = w.heap[k]? := fun o k hk => (MapKept.heap_set (o' := o) hit).2 k hk
          have here : ∀ (o : Obj), (w.heap.setIfInBounds L.block o)[L.block]? = some o := fun o => (MapKept.heap_set (o' := o) hit).1
          obtain ⟨a, b'⟩ := hr.mapSet (c' := .b true :: .m m :: .i .i64 s :: .i .i64 c :: (borns sn ++ [.i .i64 e.born])) hbb hL (w' := { w with heap := w.heap.setIfInBounds L.block (.mapIter (some Lb.block) s (sn.toArray.push e.born) c) }) (fun k hk => other _ k hk) (by simp) rfl rfl rfl
            (.inr (.inl ⟨m, Lb, s, c, sn ++ [e.born], by simp [borns], hLb, by rw [here]; simp, hoff⟩))
          exact ⟨r, .tup _ [_, _, _] (.cons (.b _) (.cons hk (.cons hv0 .nil))), a, b'⟩
      · cases hv
    · cases hv
  · cases hv
theorem find_ok {n : Nat} : ∀ {l : List V} {es : List MapEntry}, ER r l es → ∀ {k v z : V}, l.find? (fun e => bornOf e == (n : Int)) = some (.tup [k, v, z]) → ∃ e, es.find? (·.born == n) = some e ∧ R r k e.key ∧ R r v e.val
  | _, _, .nil, _, _, _, h => by cases h
  | _, _, .cons (k := k0) (v := v0) (e := e0) hk hv t, k, v, z, h => by
    have hb : (bornOf (.tup [k0, v0, .i .i64 e0.born]) == (n : Int)) = (e0.born == n) := by rw [bornOf_tup, Bool.eq_iff_iff, beq_iff_eq, beq_iff_eq]; omega
    rw [List.find?_cons, hb] at h
    rw [List.find?_cons]
    cases hq : e0.born == n with
    | true =>
      rw [hq] at h
      simp only [Option.some.injEq, V.tup.injEq, List.cons.injEq] at h
      obtain ⟨rfl, rfl, _⟩ := h
      exact ⟨e0, rfl, hk, hv⟩
    | false =>
      rw [hq] at h
      exact find_ok t h
theorem entryV_ok (hr : HR E.G r h w.heap) {x v : V} {X : Value} (hx : R r x X) (hv : entryV h x = some v) : ∃ Y, (Instr.entry X).run E.P w = .ok Y w ∧ R r v Y := by
  unfold entryV at hv
  split at hv
  case h_2 => cases hv
  rename_i b
  split at hv
  case h_2 => cases hv
  rename_i m since last seen hb
  obtain ⟨L, Lb, s, n, sn, rfl, rfl, rfl, hL, hLb, rfl, hit, hbb, hoff⟩ := iter_ok hr hb hx
  split at hv
  case h_2 => cases hv
  rename_i c l q hm hlast
  obtain ⟨L2, es, hL2, hmb, e2, hes, hel⟩ := mapAt_ok hr hm (.m m Lb hLb)
  rw [hLb] at hL2
  obtain rfl := Option.some.inj (Option.some.inj hL2)
  split at hv
  case isFalse => cases hv
  rename_i hcn
  obtain rfl : c = n := by omega
  split at hv
  case h_2 => cases hv
  rename_i k v0 z hf
  obtain rfl := Option.some.inj hv
  obtain ⟨nb, hnb, rfl⟩ : ∃ nb : Nat, sn.getLast? = some nb ∧ q = (nb : Int) := by
    unfold borns at hlast
    rw [List.getLast?_map] at hlast
    obtain ⟨nb, h1, h2⟩ := Option.map_eq_some_iff.1 hlast
    simp only [V.i.injEq, true_and] at h2
    exact ⟨nb, h1, h2.symm⟩
  obtain ⟨e, h1, h2, h3⟩ := find_ok hel hf
  have hback : sn.toArray.back? = some nb := by simpa using hnb
  have hfind : es.find? (fun x => x.born == nb) = some e := by rw [← h1]; simp
  refine ⟨.tuple #[e.key, e.val], ?_, .tup _ [_, _] (.cons h2 (.cons h3 .nil))⟩
  simp [Instr.entry, getObj, Sem.run, hit, hes, Result.andThen, hback, hfind]
theorem cutN_ok {t : TypeId} {x v : V} {X : Value} (hx : R r x X) {lo hi : Option V} {Lo Hi : Option Value} (hl : ∀ a, lo = some a → ∃ A, Lo = some A ∧ R r a A) (hl0 : lo = none → Lo = none) (hh : ∀ a, hi = some a → ∃ A, Hi = some A ∧ R r a A) (hh0 : hi = none → Hi = none) (hv : cutN E.P t x lo hi = some v) : ∃ y, (Instr.sliceAt t X Lo Hi none).run E.P w = .ok y w ∧ R r v y := by
  unfold cutN at hv
  split at hv
  case h_2 => cases hv
  split at hv
  case h_2 => cases hv
  rename_i e hu
  split at hv
  case isFalse => cases hv
  rename_i hp
  have hsz := run_size0 (E := E) (w := w) (t := e) (by omega)
  cases hx
  split at hv
  · obtain rfl := Option.some.inj hv
    obtain ⟨A, rfl, hA⟩ := hh _ rfl
    cases hA
    obtain rfl := hl0 rfl
    exact ⟨.slice none 0 0, by simp [Instr.sliceAt, Instr.slice, Instr.sliceBounds, Instr.sliceBound, asIntOf, run_und E.P w hu, hsz], .c _⟩
  · obtain rfl := Option.some.inj hv
    obtain rfl := hl0 rfl
    obtain rfl := hh0 rfl
    exact ⟨.slice none 0 0, by simp [Instr.sliceAt, Instr.slice, Instr.sliceBounds, run_und E.P w hu, hsz], .c _⟩
  · obtain rfl := Option.some.inj hv
    obtain ⟨A, rfl, hA⟩ := hl _ rfl
    cases hA
    obtain rfl := hh0 rfl
    exact ⟨.slice none 0 0, by simp [Instr.sliceAt, Instr.slice, Instr.sliceBounds, Instr.sliceBound, asIntOf, run_und E.P w hu, hsz], .c _⟩
  · obtain rfl := Option.some.inj hv
    obtain ⟨A, rfl, hA⟩ := hl _ rfl
    obtain ⟨B, rfl, hB⟩ := hh _ rfl
    cases hA
    cases hB
    exact ⟨.slice none 0 0, by simp [Instr.sliceAt, Instr.slice, Instr.sliceBounds, Instr.sliceBound, asIntOf, run_und E.P w hu, hsz], .c _⟩
  · cases hv
theorem capV_ok {t ty : TypeId} {x v : V} {X : Value} (hx : R r x X) (hv : capV E.P t x = some v) : ∃ y, (Builtin.cap_ #[t] ty #[X]).run E.P w = .ok y w ∧ R r v y := by
  unfold capV at hv
  split at hv
  · rename_i e hu
    obtain rfl := Option.some.inj hv
    cases hx
    exact ⟨.int .i64 0, by simp [Builtin.cap_, run_und E.P w hu, goInt], .i _ _ (by decide)⟩
  · cases hv
theorem appendZ_ok (hr : HR E.G r h w.heap) {ts : List TypeId} {ty : TypeId} {s x v : V} {S X : Value} (hs : R r s S) (hx : R r x X) {h' : Heap} (hv : appendZ E.P h ts s x = some (v, h')) : ∃ Y w', (Builtin.append_ ts.toArray ty #[S, X]).run E.P w = .ok Y w' ∧ Aft E r h w v h' Y w' := by
  unfold appendZ at hv
  split at hv
  case h_2 => cases hv
  rename_i n
  split at hv
  case h_2 => cases hv
  rename_i t u
  split at hv
  case h_2 => cases hv
  rename_i e k ht hu
  split at hv
  case h_2 => cases hv
  rename_i z hz
  split at hv
  case isFalse => cases hv
  rename_i hq
  obtain ⟨q1, q2, q3, q4, q5, q6⟩ := hq
  obtain ⟨rfl, rfl⟩ := Prod.mk.inj (Option.some.inj hv)
  cases hs
  cases hx with
  | i _ _ hwr =>
  obtain ⟨i, Z, hi, hz0, hrun, hl, hone, hlen⟩ := zeroT_ok (w := w) (r := r) hz
  obtain ⟨m, rfl⟩ : ∃ m : Nat, n = m := ⟨n.toNat, by omega⟩
  have hbytes : E.P.bytesOf e = i.bytes := by simp [Program.bytesOf, hi]
  have hsz : ∀ w, (Go.sizeOf e).run E.P w = .ok (E.P.cellsOf e) w := fun w => run_size0 (E := E) (w := w) (by omega)
  have hty : ∀ w : World, (typeInfo e).run E.P w = .ok i w := fun w => by simp [typeInfo, hi]
  have hzv : ∀ w : World, (zeroValue e).run E.P w = .ok Z w := fun w => by simp [zeroValue, typeInfo, hi, hz0]
  have hm0 : 0 < m := by omega
  have hm1 : m ≤ 16777216 := by omega
  have hmul : m * i.bytes ≤ 16777216 * 65536 := Nat.mul_le_mul hm1 (by omega)
  obtain ⟨a1, _, a2⟩ := repL_ok hl m
  have hg : (choose (.appendCap m 0 e)).run E.P w = .ok (grownCap w m 0 e) w.drew := by simp [Question.forced, grownCap]
  have hnl : Builtin.nextslicecap m 0 = m := by unfold Builtin.nextslicecap; rw [if_pos (by omega)]
  have hzc : Builtin.zeroCells Z.cells m = (Array.range (m * Z.cells.size)).map (fun i => Z.cells[i % Z.cells.size]!) := rfl
  have hGr := grown_ok hr (e := e) (os := []) (old := []) .nil a1 (n := 0) (m := m) (c := 0) (sz := E.P.cellsOf e) (by simp) (by rw [a2, q3]) (i := i) (z := Z) (by rw [← hlen, q3]) (by omega) (.inl rfl)
  rw [Nat.zero_add] at hGr
  rw [Int.toNat_natCast]
  refine ⟨_, _, ?_, hGr⟩
  have c0 : ¬ (m : Int) < 0 := by omega
  have c1 : ¬ ((m : Int) * (i.bytes : Int) > 2 ^ 48) := by
    have : ((m * i.bytes : Nat) : Int) ≤ ((1099511627776 : Nat) : Int) := Int.ofNat_le.2 (by omega)
    rw [Int.natCast_mul] at this
    omega
  have c2 : ¬ (m ≤ 0) := by omega
  have c3 : ¬ ((m : Int) > IntKind.i64.max ∧ (True ∨ i.bytes = 0)) := by rintro ⟨h, _⟩; rw [show IntKind.i64.max = 9223372036854775807 from rfl] at h; omega
  have c4 : ¬ (Builtin.nextslicecap m 0 * i.bytes > 2 ^ 48) := by rw [hnl]; omega
  have c5 : ¬ (m * E.P.cellsOf e = 0) := by
    intro h
    rcases Nat.mul_eq_zero.1 h with h | h <;> omega
  have hai : (asInt (.int .i64 (m : Int))).run E.P w = .ok (m : Int) w := by simp [asInt, asIntOf]
  simp only [Builtin.append_, Sem.run_bind, List.getElem?_toArray, List.getElem?_cons_zero, List.getElem?_cons_succ, run_und E.P w ht, run_und E.P w hu, Result.andThen_ok, hsz, Sem.run_pure, if_true, hai, hwr, if_neg c0, hty, if_neg c1, Int.toNat_natCast, Nat.zero_add, if_neg c2, if_neg c3, if_neg c4, hg, run_askRoom, Builtin.firstCells, Bool.not_true, Bool.false_eq_true, if_false, if_neg c5, newRow, run_newObj]
  have hzv2 : ∀ w : World, (zeroValue e).run E.P w = .ok Z w := hzv
  simp only [Sem.run_bind, Sem.run_pure, Result.andThen_ok, hzv, run_newObj, ← hzc]
  rfl
end
end GoD
